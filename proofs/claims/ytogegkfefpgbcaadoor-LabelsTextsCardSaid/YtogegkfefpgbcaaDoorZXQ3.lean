/- Functions of the labels (packed). -/
import Derived.Test.YtogegkfefpgbcaaDoorZXPLx0
import Derived.Test.YtogegkfefpgbcaaDoorZXPLx1
import Derived.Test.YtogegkfefpgbcaaDoorZXPLx2
import Derived.Test.YtogegkfefpgbcaaDoorZXQ1
import Derived.Test.YtogegkfefpgbcaaDoorZXQ2
import Derived.Test.YtogegkfefpgbcaaDoorZXHB
import Derived.Test.YtogegkfefpgbcaaDoorZXHG0
import Derived.Test.YtogegkfefpgbcaaDoorZXPD
import Derived.Test.YtogegkfefpgbcaaDoorZXShelf
import Derived.Test.YtogegkfefpgbcaaDoorZXHA
import Derived.Test.YtogegkfefpgbcaaDoorZXHD
import Derived.Test.YtogegkfefpgbcaaDoorZXLC
import Derived.Test.YtogegkfefpgbcaaDoorZXLB
import Derived.Test.YtogegkfefpgbcaaDoorZXLD
namespace Go.Proofs.YtogegkfefpgbcaaDoor.PL
open Go.RowKit Go.Proofs.YtogegkfefpgbcaaDoorW.PrintWords Go.Proofs.YtogegkfefpgbcaaDoorW.PrintLast Go.Proofs.YtogegkfefpgbcaaDoorW.PrintMore
attribute [local go_sem] max2_int min2_int max_two min_two max_three min_three max_four min_four   -- for this text's walks alone
set_option linter.unusedVariables false
set_option linter.unusedSimpArgs false
attribute [local go_sem high] eqA59
attribute [local go_sem high] eqA36

def labels_Value.f (a0 : ByteArray) : Option (Int) := (labels_broken.f a0).bind fun t102 => (if a0.toList = ([] : List UInt8) then (some 0) else (if (a0.size : Int) > 256 then (if t102 < 0 then (some 256) else (if t102 > 256 then (some 256) else (some t102))) else (some t102)))
set_option maxHeartbeats 8000000 in
set_option maxRecDepth 100000 in
theorem labels_Value.calls (a0 : ByteArray) (r : Int) (w : World) (hG : G w) (h : labels_Value.f a0 = some r) :
    Calls Tryd.prog 20 #[.string a0] w fun e w' => e = .returned (.int .i64 r) ∧ Below w.heap.size w w' := by
  have HB := Aside0.mk (Below.refl w.heap.size w); have HG := Aside0.mk hG; clear hG; have H : ((labels_broken.f a0).bind fun t102 => (if a0.toList = ([] : List UInt8) then (some 0) else (if (a0.size : Int) > 256 then (if t102 < 0 then (some 256) else (if t102 > 256 then (some 256) else (some t102))) else (some t102)))) = some r := h; clear h; replace H := Option.bind_eq_some_iff.mp H; obtain ⟨t102, A20, H⟩ := H; replace H : (if a0.toList = ([] : List UInt8) then (some 0) else (if (a0.size : Int) > 256 then (if t102 < 0 then (some 256) else (if t102 > 256 then (some 256) else (some t102))) else (some t102))) = some r := H; have A2 := Aside0.mk A20; clear A20; by_cases c3 : a0.toList = ([] : List UInt8)
  · rw [if_pos c3] at H
    have c3b0 : (a0.toList == ([] : List UInt8)) = true := beq_iff_eq.mpr c3; have c3b1 : (a0.toList != ([] : List UInt8)) = false := bne_eq_false_iff_eq.mpr c3; clear c3; obtain rfl := Option.some.inj H; go_enter Tryd.func20, Tryd.ntmps20; go_wp2_with (first | ((with_reducible refine gate_callee (f := 56) rfl ?_); refine goesL_ (some 5) rfl rfl Tryd.func56 (by kernel_rfl) rfl #[.string a0] rfl zl ?_; (with_reducible refine (labels_broken.calls a0 t102 _ ?side1 A2.out).mono ?_); (case side1 => first | exact zG HG.out | exact G.below HG.out (zb HB.out)); rintro e w4 ⟨rfl, hb⟩; refine ⟨_, rfl, ?_⟩; replace HB := Aside0.mk (below_step (zb HB.out) hb); (try clear hb); (try clear hb2); (try clear hk); (try clear hi)))
    go_ret
    exact ⟨ze, zb HB.out⟩
  · rw [if_neg c3] at H
    have c3b0 : (a0.toList == ([] : List UInt8)) = false := beq_eq_false_iff_ne.mpr c3; have c3b1 : (a0.toList != ([] : List UInt8)) = true := bne_iff_ne.mpr c3; by_cases c5 : (a0.size : Int) > 256
    · rw [if_pos c5] at H
      have c5b0 : decide (256 < (a0.size : Int)) = true := decide_eq_true c5; have c5b1 : decide (256 < a0.size) = true := decide_eq_true (by omega); clear c5; by_cases c6 : t102 < 0
      · rw [if_pos c6] at H
        have c6b0 : decide (t102 < 0) = true := decide_eq_true c6; clear c6; obtain rfl := Option.some.inj H; go_enter Tryd.func20, Tryd.ntmps20; go_wp2_with (first | ((with_reducible refine gate_callee (f := 56) rfl ?_); refine goesL_ (some 5) rfl rfl Tryd.func56 (by kernel_rfl) rfl #[.string a0] rfl zl ?_; (with_reducible refine (labels_broken.calls a0 t102 _ ?side1 A2.out).mono ?_); (case side1 => first | exact zG HG.out | exact G.below HG.out (zb HB.out)); rintro e w7 ⟨rfl, hb⟩; refine ⟨_, rfl, ?_⟩; replace HB := Aside0.mk (below_step (zb HB.out) hb); (try clear hb); (try clear hb2); (try clear hk); (try clear hi)))
        go_ret
        exact ⟨ze, zb HB.out⟩
      · rw [if_neg c6] at H
        have c6b0 : decide (t102 < 0) = false := decide_eq_false c6; clear c6; by_cases c8 : t102 > 256
        · rw [if_pos c8] at H
          have c8b0 : decide (256 < t102) = true := decide_eq_true c8; clear c8; obtain rfl := Option.some.inj H; go_enter Tryd.func20, Tryd.ntmps20; go_wp2_with (first | ((with_reducible refine gate_callee (f := 56) rfl ?_); refine goesL_ (some 5) rfl rfl Tryd.func56 (by kernel_rfl) rfl #[.string a0] rfl zl ?_; (with_reducible refine (labels_broken.calls a0 t102 _ ?side1 A2.out).mono ?_); (case side1 => first | exact zG HG.out | exact G.below HG.out (zb HB.out)); rintro e w9 ⟨rfl, hb⟩; refine ⟨_, rfl, ?_⟩; replace HB := Aside0.mk (below_step (zb HB.out) hb); (try clear hb); (try clear hb2); (try clear hk); (try clear hi)))
          go_ret
          exact ⟨ze, zb HB.out⟩
        · rw [if_neg c8] at H
          have c8b0 : decide (256 < t102) = false := decide_eq_false c8; clear c8; obtain rfl := Option.some.inj H; go_enter Tryd.func20, Tryd.ntmps20; go_wp2_with (first | ((with_reducible refine gate_callee (f := 56) rfl ?_); refine goesL_ (some 5) rfl rfl Tryd.func56 (by kernel_rfl) rfl #[.string a0] rfl zl ?_; (with_reducible refine (labels_broken.calls a0 t102 _ ?side1 A2.out).mono ?_); (case side1 => first | exact zG HG.out | exact G.below HG.out (zb HB.out)); rintro e w10 ⟨rfl, hb⟩; refine ⟨_, rfl, ?_⟩; replace HB := Aside0.mk (below_step (zb HB.out) hb); (try clear hb); (try clear hb2); (try clear hk); (try clear hi)))
          go_ret
          exact ⟨ze, zb HB.out⟩
    · rw [if_neg c5] at H
      have c5b0 : decide (256 < (a0.size : Int)) = false := decide_eq_false c5; have c5b1 : decide (256 < a0.size) = false := decide_eq_false (by omega); clear c5; obtain rfl := Option.some.inj H; go_enter Tryd.func20, Tryd.ntmps20; go_wp2_with (first | ((with_reducible refine gate_callee (f := 56) rfl ?_); refine goesL_ (some 5) rfl rfl Tryd.func56 (by kernel_rfl) rfl #[.string a0] rfl zl ?_; (with_reducible refine (labels_broken.calls a0 t102 _ ?side1 A2.out).mono ?_); (case side1 => first | exact zG HG.out | exact G.below HG.out (zb HB.out)); rintro e w11 ⟨rfl, hb⟩; refine ⟨_, rfl, ?_⟩; replace HB := Aside0.mk (below_step (zb HB.out) hb); (try clear hb); (try clear hb2); (try clear hk); (try clear hi)))
      go_ret
      exact ⟨ze, zb HB.out⟩

def labels_fine.f (k : Nat) (a0_0 : ByteArray) (a0_1 : ByteArray) : Option (Bool) := (labels_Name.f k a0_0).bind fun t107 => (if t107 = true then ((labels_Value.f a0_1).bind fun t108 => (some (decide (t108 < 0)))) else (some false))
theorem labels_fine.mono : ∀ a0 a1 k, LeO (labels_fine.f k a0 a1) (labels_fine.f (k + 1) a0 a1) := by
  intro a0 a1 k; unfold labels_fine.f
  repeat' first
      | (with_reducible exact labels_Name.mono _ _)
      | (with_reducible exact LeO.refl _)
      | (with_reducible exact LeO.none _)
      | (with_reducible refine LeO.ite ?_ ?_)
      | (with_reducible refine LeO.bind ?_ (fun _ => ?_))
      | exact labels_Name.mono _ _
      | exact LeO.none _
      | refine LeO.ite ?_ ?_
      | refine LeO.bind ?_ (fun _ => ?_)
set_option maxHeartbeats 8000000 in
set_option maxRecDepth 100000 in
theorem labels_fine.calls (k : Nat) (a0_0 : ByteArray) (a0_1 : ByteArray) (r : Bool) (w : World) (hG : G w) (h : labels_fine.f k a0_0 a0_1 = some r) :
    Calls Tryd.prog 65 #[.agg #[.string a0_0, .string a0_1]] w fun e w' => e = .returned (.bool r) ∧ Below w.heap.size w w' := by
  have hu59 := Tryd.underlying59; have HB := Aside0.mk (Below.refl w.heap.size w); have HG := Aside0.mk hG; clear hG; have H : ((labels_Name.f k a0_0).bind fun t107 => (if t107 = true then ((labels_Value.f a0_1).bind fun t108 => (some (decide (t108 < 0)))) else (some false))) = some r := h; clear h; replace H := Option.bind_eq_some_iff.mp H; obtain ⟨t107, A20, H⟩ := H; replace H : (if t107 = true then ((labels_Value.f a0_1).bind fun t108 => (some (decide (t108 < 0)))) else (some false)) = some r := H; have A2 := Aside0.mk A20; clear A20; by_cases c3 : t107 = true
  · subst c3
    have H1 : ((labels_Value.f a0_1).bind fun t108 => (some (decide (t108 < 0)))) = some r := by rw [if_pos rfl] at H; exact H
    clear H; have H := H1; clear H1; replace H := Option.bind_eq_some_iff.mp H; obtain ⟨t108, A40, H⟩ := H; replace H : (some (decide (t108 < 0))) = some r := H; have A4 := Aside0.mk A40; clear A40; obtain rfl := Option.some.inj H; go_enter Tryd.func65, Tryd.ntmps65
    go_wp2_with (first | ((with_reducible refine gate_dst (N := 1) rfl ?_); refine box_event ?hg (N := 1) ?hd (cs := #[.string a0_0, .string a0_1]) (t := 59) ?hr ?_; (case hd => rfl); (case hg => rfl); (case hr => first | (go_simp; done) | (go_simp; rfl)); intro gb106 hg w5 hbox hb; have BK106 := Aside0.mk (hbox); have GW106 := Aside0.mk ((by rw [hg]; exact (below_size (zb HB.out)) : w.heap.size ≤ gb106)); have GE106 := Aside0.mk ((by rw [hg]; exact (below_size (zb HB.out)) : w.heap.size ≤ gb106)); replace HB := Aside0.mk (below_step (zb HB.out) hb); clear hb hbox hg; have hcz6_0 : w5.cell? ⟨gb106, 0, none⟩ = some (.string a0_0) := (blk_cell BK106.out 0).trans rfl; have hcz6_1 : w5.cell? ⟨gb106, 1, none⟩ = some (.string a0_1) := (blk_cell BK106.out 1).trans rfl; have hfz6_0 := blk_frozen BK106.out 0; have hfz6_1 := blk_frozen BK106.out 1) | ((with_reducible refine gate_callee (f := 30) rfl ?_); refine goesL_ (some 5) rfl rfl Tryd.func30 (by kernel_rfl) rfl #[.string a0_0] rfl zl ?_; (with_reducible refine (labels_Name.calls k a0_0 true _ A2.out).mono ?_); rintro e w' ⟨rfl, ⟨nd, rfl⟩⟩; refine ⟨_, rfl, ?_⟩) | (go_at_call 20; (with_reducible refine (labels_Value.calls a0_1 t108 _ ?side1 A4.out).mono ?_); (case side1 => first | exact zG HG.out | exact G.below HG.out (zg HB.out GE106.out)); rintro e w7 ⟨rfl, hb⟩; replace BK106 := Aside0.mk (blk_below (g := gb106) (o := .cells #[.string a0_0, .string a0_1] 59 (0, 0)) (by (with_reducible repeat (first | refine blk_drewN ?_ _ | refine blk_drew ?_ | refine blk_alloc ?_ _)); exact BK106.out) hb); replace HB := Aside0.mk (below_step (zg HB.out GE106.out) hb); (try clear hb); (try clear hb2); (try clear hk); (try clear hi)))
    go_ret
    exact ⟨ze, zg HB.out GE106.out⟩
  · replace c3 := Bool.eq_false_iff.mpr c3
    subst c3; have H1 : (some false) = some r := by rw [if_neg (show ¬ (false = true) by decide)] at H; exact H
    clear H; have H := H1; clear H1; obtain rfl := Option.some.inj H; go_enter Tryd.func65, Tryd.ntmps65; go_wp2_with (first | ((with_reducible refine gate_dst (N := 1) rfl ?_); refine box_event ?hg (N := 1) ?hd (cs := #[.string a0_0, .string a0_1]) (t := 59) ?hr ?_; (case hd => rfl); (case hg => rfl); (case hr => first | (go_simp; done) | (go_simp; rfl)); intro gb106 hg w8 hbox hb; have BK106 := Aside0.mk (hbox); have GW106 := Aside0.mk ((by rw [hg]; exact (below_size (zb HB.out)) : w.heap.size ≤ gb106)); have GE106 := Aside0.mk ((by rw [hg]; exact (below_size (zb HB.out)) : w.heap.size ≤ gb106)); replace HB := Aside0.mk (below_step (zb HB.out) hb); clear hb hbox hg; have hcz9_0 : w8.cell? ⟨gb106, 0, none⟩ = some (.string a0_0) := (blk_cell BK106.out 0).trans rfl; have hcz9_1 : w8.cell? ⟨gb106, 1, none⟩ = some (.string a0_1) := (blk_cell BK106.out 1).trans rfl; have hfz9_0 := blk_frozen BK106.out 0; have hfz9_1 := blk_frozen BK106.out 1) | ((with_reducible refine gate_callee (f := 30) rfl ?_); refine goesL_ (some 5) rfl rfl Tryd.func30 (by kernel_rfl) rfl #[.string a0_0] rfl zl ?_; (with_reducible refine (labels_Name.calls k a0_0 false _ A2.out).mono ?_); rintro e w' ⟨rfl, ⟨nd, rfl⟩⟩; refine ⟨_, rfl, ?_⟩))
    go_ret
    exact ⟨ze, zg HB.out GE106.out⟩

def labels_Right.l0 : Nat → List (S59) → List (S59) → Int → Int → Option (Bool)
  | 0, _, _, _, _ => none
  | k + 1, x0, x5, x6, x7 => if x7 < x6 then (if 0 ≤ x7 then (if x7 < (x5.length : Int) then ((labels_fine.f k ((rd_T59 x5 x7).f0) ((rd_T59 x5 x7).f1)).bind fun t111 => (if t111 = true then (labels_Right.l0 k x0 x5 x6 (wrap64 (x7 + 1))) else (some false))) else (none)) else (none)) else (if (x0.length : Int) ≤ 32 then ((api_Label_string_66.f x0).bind fun t112 => (some t112)) else (some false))
def labels_Right.f (k : Nat) (l0 : List (S59)) : Option (Bool) := labels_Right.l0 k l0 l0 (l0.length : Int) 0
theorem labels_Right.mono_l : ∀ k, (∀ y0 y1 y2 y3, LeO (labels_Right.l0 k y0 y1 y2 y3) (labels_Right.l0 (k + 1) y0 y1 y2 y3))
  | 0 => fun _ _ _ _ r h => by simp [labels_Right.l0] at h
  | k + 1 => by
    have ih0 := labels_Right.mono_l k
    · intro y0 y1 y2 y3
      unfold labels_Right.l0
      repeat' first
      | (with_reducible exact ih0 _ _ _ _)
      | (with_reducible exact labels_fine.mono _ _ _)
      | (with_reducible exact LeO.refl _)
      | (with_reducible exact LeO.none _)
      | (with_reducible refine LeO.ite ?_ ?_)
      | (with_reducible refine LeO.bind ?_ (fun _ => ?_))
      | exact ih0 _ _ _ _
      | exact labels_fine.mono _ _ _
      | exact LeO.none _
      | refine LeO.ite ?_ ?_
      | refine LeO.bind ?_ (fun _ => ?_)
theorem labels_Right.mono : ∀ a0 k, LeO (labels_Right.f k a0) (labels_Right.f (k + 1) a0) := by
  intro a0 k; have ih0 := labels_Right.mono_l k; unfold labels_Right.f
  repeat' first
      | (with_reducible exact ih0 _ _ _ _)
      | (with_reducible exact labels_fine.mono _ _ _)
      | (with_reducible exact LeO.refl _)
      | (with_reducible exact LeO.none _)
      | (with_reducible refine LeO.ite ?_ ?_)
      | (with_reducible refine LeO.bind ?_ (fun _ => ?_))
      | exact ih0 _ _ _ _
      | exact labels_fine.mono _ _ _
      | exact LeO.none _
      | refine LeO.ite ?_ ?_
      | refine LeO.bind ?_ (fun _ => ?_)
set_option maxHeartbeats 8000000 in
set_option maxRecDepth 100000 in
theorem labels_Right.calls (k : Nat) (A0 : Option Addr) (c0 : Nat) (l0 : List (S59)) (r : Bool) (w : World) (hr0 : Kd.C k59 w A0 l0.length l0) (hc0 : l0.length ≤ c0) (hG : G w) (h : labels_Right.f k l0 = some r) :
    Calls Tryd.prog 28 #[.slice A0 l0.length c0] w fun e w' => e = .returned (.bool r) ∧ Below w.heap.size w w' := by
  have hu59 := Tryd.underlying59; have HR0 := Aside0.mk hr0; have HC0 := Aside0.mk hc0; clear hr0 hc0; have HB := Aside0.mk (Below.refl w.heap.size w); have HG := Aside0.mk hG; clear hG; have H : (labels_Right.l0 k l0 l0 (l0.length : Int) 0) = some r := h; clear h; have H' := Aside0.mk H; clear H; go_enter Tryd.func28, Tryd.ntmps28; go_wp2; go_loopg [7] k (fun kq v7 w' => ∃ (x7_1 : Int), v7 = .int .i64 x7_1 ∧ Aside0 (labels_Right.l0 kq l0 l0 (l0.length : Int) x7_1 = some r) ∧ Aside0 (kq ≤ k) ∧ Aside0 (Below w.heap.size w w'))
  case atStart => exact ⟨(0), zs, H', ⟨Nat.le_refl _⟩, ⟨zb HB.out⟩⟩
  case round =>
    clear H'; obtain ⟨x7_1, rfl, HA, HK1, HB⟩ := hrel
    cases gk with
    | zero => exact absurd HA.out (by simp [labels_Right.l0])
    | succ k1 =>
      have H := HA.out; clear HA; simp only [labels_Right.l0] at H; by_cases c2 : x7_1 < (l0.length : Int)
      · rw [if_pos c2] at H
        have c2b0 : decide (x7_1 < (l0.length : Int)) = true := decide_eq_true c2; clear c2; by_cases c3 : 0 ≤ x7_1
        · rw [if_pos c3] at H
          have c3b0 : decide (0 ≤ x7_1) = true := decide_eq_true c3; clear c3; by_cases c4 : x7_1 < (l0.length : Int)
          · rw [if_pos c4] at H
            have c4b0 : decide (x7_1 < (l0.length : Int)) = true := decide_eq_true c4; clear c4; replace H := Option.bind_eq_some_iff.mp H; obtain ⟨t111, A50, H⟩ := H; replace H : (if t111 = true then (labels_Right.l0 k1 l0 l0 (l0.length : Int) (wrap64 (x7_1 + 1))) else (some false)) = some r := H; have A5 := Aside0.mk A50; clear A50; by_cases c6 : t111 = true
            · subst c6
              have H1 : (labels_Right.l0 k1 l0 l0 (l0.length : Int) (wrap64 (x7_1 + 1))) = some r := by rw [if_pos rfl] at H; exact H
              clear H; have H := H1; clear H1; have H' := Aside0.mk H; clear H; obtain ⟨ad109, e109, hx109_0, hx109_1⟩ := at_T59 HR0.out x7_1 zd zd
              cases e109; replace hx109_0 := zw HB.out hx109_0; replace hx109_1 := zw HB.out hx109_1; have p109 := eq_true (zd : 0 ≤ (x7_1 : Int)); have q109 := eq_true (zd : x7_1 < (l0.length : Int))
              go_wp2_with (first | ((with_reducible refine gate_dst (N := 4) rfl ?_); refine box_event ?hg (N := 4) ?hd (cs := #[.string (⟨#[]⟩ : ByteArray), .string (⟨#[]⟩ : ByteArray)]) (t := 59) ?hr ?_; (case hd => rfl); (case hg => rfl); (case hr => first | (go_simp; done) | (go_simp; rfl)); intro gb110 hg w7 hbox hb; have BK110 := Aside0.mk (hbox); have GW110 := Aside0.mk ((by rw [hg]; exact (below_size (zb HB.out)) : w.heap.size ≤ gb110)); have GE110 := Aside0.mk ((by rw [hg]; exact (below_size (zb HB.out)) : w.heap.size ≤ gb110)); replace HB := Aside0.mk (below_step (zb HB.out) hb); clear hb hbox hg; have hcz8_0 : w7.cell? ⟨gb110, 0, none⟩ = some (.string (⟨#[]⟩ : ByteArray)) := (blk_cell BK110.out 0).trans rfl; have hcz8_1 : w7.cell? ⟨gb110, 1, none⟩ = some (.string (⟨#[]⟩ : ByteArray)) := (blk_cell BK110.out 1).trans rfl; have hfz8_0 := blk_frozen BK110.out 0; have hfz8_1 := blk_frozen BK110.out 1) | ((with_reducible refine gate_callee (f := 65) rfl ?_); refine goesL_ (some 12) rfl rfl Tryd.func65 (by kernel_rfl) rfl #[.agg #[.string ((rd_T59 l0 x7_1).f0), .string ((rd_T59 l0 x7_1).f1)]] rfl zl ?_; (with_reducible refine (labels_fine.calls k1 ((rd_T59 l0 x7_1).f0) ((rd_T59 l0 x7_1).f1) true _ ?side1 A5.out).mono ?_); (case side1 => first | exact zG HG.out | exact G.below HG.out (zg HB.out GE110.out)); rintro e w9 ⟨rfl, hb⟩; refine ⟨_, rfl, ?_⟩; replace BK110 := Aside0.mk (blk_below (g := gb110) (o := .cells #[.string ((rd_T59 l0 x7_1).f0), .string ((rd_T59 l0 x7_1).f1)] 59 (0, 0)) (by (with_reducible repeat (first | refine blk_drewN ?_ _ | refine blk_drew ?_ | refine blk_alloc ?_ _)); refine blk_put (cs := #[.string ((rd_T59 l0 x7_1).f0), .string (⟨#[]⟩ : ByteArray)]) ?_ 1 _ rfl; (with_reducible repeat (first | refine blk_drewN ?_ _ | refine blk_drew ?_ | refine blk_alloc ?_ _)); refine blk_put (cs := #[.string (⟨#[]⟩ : ByteArray), .string (⟨#[]⟩ : ByteArray)]) ?_ 0 _ rfl; (with_reducible repeat (first | refine blk_drewN ?_ _ | refine blk_drew ?_ | refine blk_alloc ?_ _)); exact BK110.out) hb); replace HB := Aside0.mk (below_step (zg HB.out GE110.out) hb); (try clear hb); (try clear hb2); (try clear hk); (try clear hi)))
              go_roundg k1
              case measure => have := HK1.out; omega
              case rel => exact ⟨(wrap64 (x7_1 + 1)), zs, H', ⟨by have := HK1.out; omega⟩, ⟨zg HB.out GE110.out⟩⟩
            · replace c6 := Bool.eq_false_iff.mpr c6
              subst c6; have H1 : (some false) = some r := by rw [if_neg (show ¬ (false = true) by decide)] at H; exact H
              clear H; have H := H1; clear H1; obtain rfl := Option.some.inj H; obtain ⟨ad109, e109, hx109_0, hx109_1⟩ := at_T59 HR0.out x7_1 zd zd
              cases e109; replace hx109_0 := zw HB.out hx109_0; replace hx109_1 := zw HB.out hx109_1; have p109 := eq_true (zd : 0 ≤ (x7_1 : Int)); have q109 := eq_true (zd : x7_1 < (l0.length : Int))
              go_wp2_with (first | ((with_reducible refine gate_dst (N := 4) rfl ?_); refine box_event ?hg (N := 4) ?hd (cs := #[.string (⟨#[]⟩ : ByteArray), .string (⟨#[]⟩ : ByteArray)]) (t := 59) ?hr ?_; (case hd => rfl); (case hg => rfl); (case hr => first | (go_simp; done) | (go_simp; rfl)); intro gb110 hg w10 hbox hb; have BK110 := Aside0.mk (hbox); have GW110 := Aside0.mk ((by rw [hg]; exact (below_size (zb HB.out)) : w.heap.size ≤ gb110)); have GE110 := Aside0.mk ((by rw [hg]; exact (below_size (zb HB.out)) : w.heap.size ≤ gb110)); replace HB := Aside0.mk (below_step (zb HB.out) hb); clear hb hbox hg; have hcz11_0 : w10.cell? ⟨gb110, 0, none⟩ = some (.string (⟨#[]⟩ : ByteArray)) := (blk_cell BK110.out 0).trans rfl; have hcz11_1 : w10.cell? ⟨gb110, 1, none⟩ = some (.string (⟨#[]⟩ : ByteArray)) := (blk_cell BK110.out 1).trans rfl; have hfz11_0 := blk_frozen BK110.out 0; have hfz11_1 := blk_frozen BK110.out 1) | ((with_reducible refine gate_callee (f := 65) rfl ?_); refine goesL_ (some 12) rfl rfl Tryd.func65 (by kernel_rfl) rfl #[.agg #[.string ((rd_T59 l0 x7_1).f0), .string ((rd_T59 l0 x7_1).f1)]] rfl zl ?_; (with_reducible refine (labels_fine.calls k1 ((rd_T59 l0 x7_1).f0) ((rd_T59 l0 x7_1).f1) false _ ?side1 A5.out).mono ?_); (case side1 => first | exact zG HG.out | exact G.below HG.out (zg HB.out GE110.out)); rintro e w12 ⟨rfl, hb⟩; refine ⟨_, rfl, ?_⟩; replace BK110 := Aside0.mk (blk_below (g := gb110) (o := .cells #[.string ((rd_T59 l0 x7_1).f0), .string ((rd_T59 l0 x7_1).f1)] 59 (0, 0)) (by (with_reducible repeat (first | refine blk_drewN ?_ _ | refine blk_drew ?_ | refine blk_alloc ?_ _)); refine blk_put (cs := #[.string ((rd_T59 l0 x7_1).f0), .string (⟨#[]⟩ : ByteArray)]) ?_ 1 _ rfl; (with_reducible repeat (first | refine blk_drewN ?_ _ | refine blk_drew ?_ | refine blk_alloc ?_ _)); refine blk_put (cs := #[.string (⟨#[]⟩ : ByteArray), .string (⟨#[]⟩ : ByteArray)]) ?_ 0 _ rfl; (with_reducible repeat (first | refine blk_drewN ?_ _ | refine blk_drew ?_ | refine blk_alloc ?_ _)); exact BK110.out) hb); replace HB := Aside0.mk (below_step (zg HB.out GE110.out) hb); (try clear hb); (try clear hb2); (try clear hk); (try clear hi)))
              go_ret
              exact ⟨ze, zg HB.out GE110.out⟩
          · rw [if_neg c4] at H
            exact absurd H (by simp)
        · rw [if_neg c3] at H
          exact absurd H (by simp)
      · rw [if_neg c2] at H
        have c2b0 : decide (x7_1 < (l0.length : Int)) = false := decide_eq_false c2; clear c2; by_cases c13 : (l0.length : Int) ≤ 32
        · rw [if_pos c13] at H
          have c13b0 : decide ((l0.length : Int) ≤ 32) = true := decide_eq_true c13; have c13b1 : decide (l0.length ≤ 32) = true := decide_eq_true (by omega); clear c13; replace H := Option.bind_eq_some_iff.mp H; obtain ⟨t112, A140, H⟩ := H; replace H : (some t112) = some r := H; have A14 := Aside0.mk A140; clear A140; obtain rfl := Option.some.inj H; go_wp2_with (first | (go_at_call 66; (with_reducible refine (api_Label_string_66.calls _ _ l0  t112 _ ?side1 ?side2 A14.out).mono ?_); (case side1 => exact zc (Kd.C_below HR0.out HB.out)); (case side2 => exact HC0.out); rintro e w15 ⟨rfl, hb⟩; replace HB := Aside0.mk (below_step (zb HB.out) hb); (try clear hb); (try clear hb2); (try clear hk); (try clear hi)))
          go_ret
          exact ⟨ze, zb HB.out⟩
        · rw [if_neg c13] at H
          have c13b0 : decide ((l0.length : Int) ≤ 32) = false := decide_eq_false c13; have c13b1 : decide (l0.length ≤ 32) = false := decide_eq_false (by omega); clear c13; obtain rfl := Option.some.inj H; go_wp2; go_ret
          exact ⟨ze, zb HB.out⟩

def labels_Print.f (k : Nat) (l0 : List (S59)) : Option (ByteArray × Int) := (labels_Right.f k l0).bind fun t140 => (if t140 = true then ((api_Label_45.f k l0).bind fun t141 => (some (t141, 0))) else (some ((⟨#[]⟩ : ByteArray), 120)))
theorem labels_Print.mono : ∀ a0 k, LeO (labels_Print.f k a0) (labels_Print.f (k + 1) a0) := by
  intro a0 k; unfold labels_Print.f
  repeat' first
      | (with_reducible exact api_Label_45.mono _ _)
      | (with_reducible exact labels_Right.mono _ _)
      | (with_reducible exact LeO.refl _)
      | (with_reducible exact LeO.none _)
      | (with_reducible refine LeO.ite ?_ ?_)
      | (with_reducible refine LeO.bind ?_ (fun _ => ?_))
      | exact api_Label_45.mono _ _
      | exact labels_Right.mono _ _
      | exact LeO.none _
      | refine LeO.ite ?_ ?_
      | refine LeO.bind ?_ (fun _ => ?_)
set_option maxHeartbeats 8000000 in
set_option maxRecDepth 100000 in
theorem labels_Print.calls (k : Nat) (A0 : Option Addr) (c0 : Nat) (l0 : List (S59)) (r1 : ByteArray) (r2 : Int) (w : World) (hr0 : Kd.C k59 w A0 l0.length l0) (hc0 : l0.length ≤ c0) (hG : G w) (h : labels_Print.f k l0 = some (r1, r2)) :
    Calls Tryd.prog 12 #[.slice A0 l0.length c0] w fun e w' => e = .returned (.tuple #[.string r1, .int .i64 r2]) ∧ Below w.heap.size w w' := by
  have HR0 := Aside0.mk hr0; have HC0 := Aside0.mk hc0; clear hr0 hc0; have HB := Aside0.mk (Below.refl w.heap.size w); have HG := Aside0.mk hG; clear hG; have H : ((labels_Right.f k l0).bind fun t140 => (if t140 = true then ((api_Label_45.f k l0).bind fun t141 => (some (t141, 0))) else (some ((⟨#[]⟩ : ByteArray), 120)))) = some (r1, r2) := h; clear h; replace H := Option.bind_eq_some_iff.mp H; obtain ⟨t140, A20, H⟩ := H; replace H : (if t140 = true then ((api_Label_45.f k l0).bind fun t141 => (some (t141, 0))) else (some ((⟨#[]⟩ : ByteArray), 120))) = some (r1, r2) := H; have A2 := Aside0.mk A20; clear A20; by_cases c3 : t140 = true
  · subst c3
    have H1 : ((api_Label_45.f k l0).bind fun t141 => (some (t141, 0))) = some (r1, r2) := by rw [if_pos rfl] at H; exact H
    clear H; have H := H1; clear H1; replace H := Option.bind_eq_some_iff.mp H; obtain ⟨t141, A40, H⟩ := H; replace H : (some (t141, 0)) = some (r1, r2) := H; have A4 := Aside0.mk A40; clear A40; simp only [Option.some.injEq, Prod.mk.injEq] at H; obtain ⟨rfl, rfl⟩ := H; go_enter Tryd.func12, Tryd.ntmps12; go_wp2_with (first | ((with_reducible refine gate_callee (f := 28) rfl ?_); refine goesL_ (some 5) rfl rfl Tryd.func28 (by kernel_rfl) rfl #[.slice A0 l0.length c0] rfl zl ?_; (with_reducible refine (labels_Right.calls k _ _ l0 true _ ?side1 ?side2 ?side3 A2.out).mono ?_); (case side1 => repeat (first | exact HR0.out | (with_reducible refine Kd.C_alloc ?_ _) | (with_reducible refine Kd.C_drewN ?_ _) | (with_reducible refine Kd.C_drew ?_))); (case side2 => exact HC0.out); (case side3 => first | exact zG HG.out | exact G.below HG.out (zb HB.out)); rintro e w5 ⟨rfl, hb⟩; refine ⟨_, rfl, ?_⟩; replace HB := Aside0.mk (below_step (zb HB.out) hb); (try clear hb); (try clear hb2); (try clear hk); (try clear hi)) | ((with_reducible refine gate_callee (f := 45) rfl ?_); refine goesL_ (some 8) rfl rfl Tryd.func45 (by kernel_rfl) rfl #[.slice A0 l0.length c0, .func (.func 46) #[] #[]] rfl zl ?_; (with_reducible refine (api_Label_45.calls k _ _ l0  t141 _ ?side1 ?side2 A4.out).mono ?_); (case side1 => exact zc (Kd.C_below HR0.out HB.out)); (case side2 => exact HC0.out); rintro e w6 ⟨rfl, hb⟩; refine ⟨_, rfl, ?_⟩; replace HB := Aside0.mk (below_step (zb HB.out) hb); (try clear hb); (try clear hb2); (try clear hk); (try clear hi)))
    go_ret2
    exact ⟨ze, zb HB.out⟩
  · replace c3 := Bool.eq_false_iff.mpr c3
    subst c3; have H1 : (some ((⟨#[]⟩ : ByteArray), 120)) = some (r1, r2) := by rw [if_neg (show ¬ (false = true) by decide)] at H; exact H
    clear H; have H := H1; clear H1; simp only [Option.some.injEq, Prod.mk.injEq] at H; obtain ⟨rfl, rfl⟩ := H; go_enter Tryd.func12, Tryd.ntmps12; go_wp2_with (first | ((with_reducible refine gate_callee (f := 28) rfl ?_); refine goesL_ (some 5) rfl rfl Tryd.func28 (by kernel_rfl) rfl #[.slice A0 l0.length c0] rfl zl ?_; (with_reducible refine (labels_Right.calls k _ _ l0 false _ ?side1 ?side2 ?side3 A2.out).mono ?_); (case side1 => repeat (first | exact HR0.out | (with_reducible refine Kd.C_alloc ?_ _) | (with_reducible refine Kd.C_drewN ?_ _) | (with_reducible refine Kd.C_drew ?_))); (case side2 => exact HC0.out); (case side3 => first | exact zG HG.out | exact G.below HG.out (zb HB.out)); rintro e w7 ⟨rfl, hb⟩; refine ⟨_, rfl, ?_⟩; replace HB := Aside0.mk (below_step (zb HB.out) hb); (try clear hb); (try clear hb2); (try clear hk); (try clear hi)))
    go_ret2
    exact ⟨ze, zb HB.out⟩

def abacusref12_Print.l0 : Nat → List (S59) → ByteArray → Int → Option (ByteArray × Int)
  | 0, _, _, _ => none
  | k + 1, x0, x5, x6 => if x6 < (x0.length : Int) then (if x6 > 0 then (if x5.size + 1 ≤ 9223372036854775807 then (if 0 ≤ x6 then (if (x5 ++ (⟨#[44]⟩ : ByteArray)).size + ((rd_T59 x0 x6).f0).size ≤ 9223372036854775807 then (if ((x5 ++ (⟨#[44]⟩ : ByteArray)) ++ ((rd_T59 x0 x6).f0)).size + 1 ≤ 9223372036854775807 then ((abacusref12_Quote.f k ((rd_T59 x0 x6).f1)).bind fun t177 => (if (((x5 ++ (⟨#[44]⟩ : ByteArray)) ++ ((rd_T59 x0 x6).f0)) ++ (⟨#[61]⟩ : ByteArray)).size + t177.size ≤ 9223372036854775807 then (abacusref12_Print.l0 k x0 ((((x5 ++ (⟨#[44]⟩ : ByteArray)) ++ ((rd_T59 x0 x6).f0)) ++ (⟨#[61]⟩ : ByteArray)) ++ t177) (wrap64 (x6 + 1))) else (none))) else (none)) else (none)) else (none)) else (none)) else (if 0 ≤ x6 then (if x5.size + ((rd_T59 x0 x6).f0).size ≤ 9223372036854775807 then (if (x5 ++ ((rd_T59 x0 x6).f0)).size + 1 ≤ 9223372036854775807 then ((abacusref12_Quote.f k ((rd_T59 x0 x6).f1)).bind fun t180 => (if ((x5 ++ ((rd_T59 x0 x6).f0)) ++ (⟨#[61]⟩ : ByteArray)).size + t180.size ≤ 9223372036854775807 then (abacusref12_Print.l0 k x0 (((x5 ++ ((rd_T59 x0 x6).f0)) ++ (⟨#[61]⟩ : ByteArray)) ++ t180) (wrap64 (x6 + 1))) else (none))) else (none)) else (none)) else (none))) else (if x5.size + 1 ≤ 9223372036854775807 then (some (x5 ++ (⟨#[125]⟩ : ByteArray), 0)) else (none))
def abacusref12_Print.f (k : Nat) (l0 : List (S59)) : Option (ByteArray × Int) := (abacusref12_Right.f k l0).bind fun t174 => (if t174 = true then (abacusref12_Print.l0 k l0 (⟨#[123]⟩ : ByteArray) 0) else (some ((⟨#[]⟩ : ByteArray), 120)))
def abacusref12_Print.T10 : Bool × List (List Nat × List Nat) := (true, [([], []), ([], []), ([], []), ([1, 2], [1, 2]), ([3], [3]), ([4], [4]), ([0, 5], [0, 5]), ([6], [6]), ([], []), ([], []), ([8, 9], [8, 9]), ([10], [10]), ([11], [11]), ([12], [12]), ([7, 13], [7, 13]), ([14, 13, 0, 1, 2, 3, 4, 5, 6, 7, 8, 9, 10, 11, 12, 13, 14], [0, 14])])
def abacusref12_Print.B10 : List Nat := [0, 0, 0, 6, 14, 30, 63, 127, 0, 0, 768, 1792, 3840, 7936, 16383, 32767]
theorem abacusref12_Print.tab10 : rtab .any (opsOf Tryd.f13 10) = abacusref12_Print.T10 := by kernel_rfl
theorem abacusref12_Print.bits10 : waitsOk abacusref12_Print.T10.2 abacusref12_Print.B10 = true := by kernel_rfl
set_option maxHeartbeats 8000000 in
set_option maxRecDepth 100000 in
theorem abacusref12_Print.calls (k : Nat) (A0 : Option Addr) (c0 : Nat) (l0 : List (S59)) (r1 : ByteArray) (r2 : Int) (w : World) (hr0 : Kd.C k59 w A0 l0.length l0) (hc0 : l0.length ≤ c0) (h : abacusref12_Print.f k l0 = some (r1, r2)) :
    Calls Tryd.prog 13 #[.slice A0 l0.length c0] w fun e w' => e = .returned (.tuple #[.string r1, .int .i64 r2]) ∧ Below w.heap.size w w' := by
  have HR0 := Aside0.mk hr0; have HC0 := Aside0.mk hc0; clear hr0 hc0; have HB := Aside0.mk (Below.refl w.heap.size w); have H : ((abacusref12_Right.f k l0).bind fun t174 => (if t174 = true then (abacusref12_Print.l0 k l0 (⟨#[123]⟩ : ByteArray) 0) else (some ((⟨#[]⟩ : ByteArray), 120)))) = some (r1, r2) := h; clear h; replace H := Option.bind_eq_some_iff.mp H; obtain ⟨t174, A20, H⟩ := H; replace H : (if t174 = true then (abacusref12_Print.l0 k l0 (⟨#[123]⟩ : ByteArray) 0) else (some ((⟨#[]⟩ : ByteArray), 120))) = some (r1, r2) := H; have A2 := Aside0.mk A20; clear A20; by_cases c3 : t174 = true
  · subst c3
    have H1 : (abacusref12_Print.l0 k l0 (⟨#[123]⟩ : ByteArray) 0) = some (r1, r2) := by rw [if_pos rfl] at H; exact H
    clear H; have H := H1; clear H1; have H' := Aside0.mk H; clear H; go_enter Tryd.func13, Tryd.ntmps13; go_wp2_with (first | ((with_reducible refine gate_callee (f := 33) rfl ?_); refine goesL_ (some 8) rfl rfl Tryd.func33 (by kernel_rfl) rfl #[.slice A0 l0.length c0] rfl zl ?_; (with_reducible refine (abacusref12_Right.calls k _ _ l0 true _ ?side1 ?side2 A2.out).mono ?_); (case side1 => repeat (first | exact HR0.out | (with_reducible refine Kd.C_alloc ?_ _) | (with_reducible refine Kd.C_drewN ?_ _) | (with_reducible refine Kd.C_drew ?_))); (case side2 => exact HC0.out); rintro e w' ⟨rfl, ⟨nd, rfl⟩⟩; refine ⟨_, rfl, ?_⟩))
    go_loopg [5, 6] k (fun kq v5 v6 w' => ∃ (x5_1 : ByteArray) (x6_1 : Int), v5 = .string x5_1 ∧ v6 = .int .i64 x6_1 ∧ Aside0 (abacusref12_Print.l0 kq l0 x5_1 x6_1 = some (r1, r2)) ∧ Aside0 (kq ≤ k) ∧ Aside0 (Below w.heap.size w w'))
    case atStart => exact ⟨((⟨#[123]⟩ : ByteArray)), (0), zs, zs, H', ⟨Nat.le_refl _⟩, ⟨zb HB.out⟩⟩
    case round =>
      clear H'; (try clear c1); (try clear p2); (try clear c3); obtain ⟨x5_1, x6_1, rfl, rfl, HA, HK1, HB⟩ := hrel
      cases gk with
      | zero => exact absurd HA.out (by simp [abacusref12_Print.l0])
      | succ k1 =>
        have H := HA.out; clear HA; simp only [abacusref12_Print.l0] at H; by_cases c4 : x6_1 < (l0.length : Int)
        · rw [if_pos c4] at H
          have c4b0 : decide (x6_1 < (l0.length : Int)) = true := decide_eq_true c4; clear c4; by_cases c5 : x6_1 > 0
          · rw [if_pos c5] at H
            have c5b0 : decide (0 < x6_1) = true := decide_eq_true c5; clear c5; by_cases c6 : x5_1.size + 1 ≤ 9223372036854775807
            · rw [if_pos c6] at H
              have c6b0 := eq_true c6; have c6b1 : decide (x5_1.size + 1 ≤ 9223372036854775807) = true := decide_eq_true c6; (try have c6b2 : (9223372036854775807 < x5_1.size + 1) = False := eq_false (Nat.not_lt.2 c6)); by_cases c7 : 0 ≤ x6_1
              · rw [if_pos c7] at H
                have c7b0 : decide (0 ≤ x6_1) = true := decide_eq_true c7; clear c7; by_cases c8 : (x5_1 ++ (⟨#[44]⟩ : ByteArray)).size + ((rd_T59 l0 x6_1).f0).size ≤ 9223372036854775807
                · rw [if_pos c8] at H
                  have c8b0 := eq_true c8; have c8b1 : decide ((x5_1 ++ (⟨#[44]⟩ : ByteArray)).size + ((rd_T59 l0 x6_1).f0).size ≤ 9223372036854775807) = true := decide_eq_true c8; (try have c8b2 : (9223372036854775807 < (x5_1 ++ (⟨#[44]⟩ : ByteArray)).size + ((rd_T59 l0 x6_1).f0).size) = False := eq_false (Nat.not_lt.2 c8)); try have c8z : (9223372036854775807 < x5_1.size + 1 + ((rd_T59 l0 x6_1).f0).size) = False := by first | (rw [ByteArray.size_append] at c8b2; exact c8b2) | (simp only [ByteArray.size_append] at c8b2; exact c8b2)
                  by_cases c9 : ((x5_1 ++ (⟨#[44]⟩ : ByteArray)) ++ ((rd_T59 l0 x6_1).f0)).size + 1 ≤ 9223372036854775807
                  · rw [if_pos c9] at H
                    have c9b0 := eq_true c9; have c9b1 : decide (((x5_1 ++ (⟨#[44]⟩ : ByteArray)) ++ ((rd_T59 l0 x6_1).f0)).size + 1 ≤ 9223372036854775807) = true := decide_eq_true c9; (try have c9b2 : (9223372036854775807 < ((x5_1 ++ (⟨#[44]⟩ : ByteArray)) ++ ((rd_T59 l0 x6_1).f0)).size + 1) = False := eq_false (Nat.not_lt.2 c9)); try have c9z : (9223372036854775807 < x5_1.size + 1 + ((rd_T59 l0 x6_1).f0).size + 1) = False := by first | (rw [ByteArray.size_append] at c9b2; exact c9b2) | (simp only [ByteArray.size_append] at c9b2; exact c9b2)
                    replace H := Option.bind_eq_some_iff.mp H; obtain ⟨t177, A100, H⟩ := H; replace H : (if (((x5_1 ++ (⟨#[44]⟩ : ByteArray)) ++ ((rd_T59 l0 x6_1).f0)) ++ (⟨#[61]⟩ : ByteArray)).size + t177.size ≤ 9223372036854775807 then (abacusref12_Print.l0 k1 l0 ((((x5_1 ++ (⟨#[44]⟩ : ByteArray)) ++ ((rd_T59 l0 x6_1).f0)) ++ (⟨#[61]⟩ : ByteArray)) ++ t177) (wrap64 (x6_1 + 1))) else (none)) = some (r1, r2) := H; have A10 := Aside0.mk A100; clear A100; by_cases c11 : (((x5_1 ++ (⟨#[44]⟩ : ByteArray)) ++ ((rd_T59 l0 x6_1).f0)) ++ (⟨#[61]⟩ : ByteArray)).size + t177.size ≤ 9223372036854775807
                    · rw [if_pos c11] at H
                      have c11b0 := eq_true c11; have c11b1 : decide ((((x5_1 ++ (⟨#[44]⟩ : ByteArray)) ++ ((rd_T59 l0 x6_1).f0)) ++ (⟨#[61]⟩ : ByteArray)).size + t177.size ≤ 9223372036854775807) = true := decide_eq_true c11; (try have c11b2 : (9223372036854775807 < (((x5_1 ++ (⟨#[44]⟩ : ByteArray)) ++ ((rd_T59 l0 x6_1).f0)) ++ (⟨#[61]⟩ : ByteArray)).size + t177.size) = False := eq_false (Nat.not_lt.2 c11)); try have c11z : (9223372036854775807 < x5_1.size + 1 + ((rd_T59 l0 x6_1).f0).size + 1 + t177.size) = False := by first | (rw [ByteArray.size_append] at c11b2; exact c11b2) | (simp only [ByteArray.size_append] at c11b2; exact c11b2)
                      have H' := Aside0.mk H; clear H; (try go_wp2); replace HB := Aside0.mk (below_drew1 HB.out); obtain ⟨ad175, e175, hx175_0, hx175_1⟩ := at_T59 HR0.out x6_1 zd zd; have hw175_1 := hx175_1; have hw175_0 := hx175_0
                      cases e175; replace hx175_0 := zw HB.out hx175_0; replace hx175_1 := zw HB.out hx175_1; have p175 := eq_true (zd : 0 ≤ (x6_1 : Int)); have q175 := eq_true (zd : x6_1 < (l0.length : Int)); obtain ⟨ad176, e176, hx176_0, hx176_1⟩ := at_T59 HR0.out x6_1 zd zd; have hw176_1 := hx176_1; have hw176_0 := hx176_0; obtain rfl : ad175 = ad176 := (by injection e176); replace hx176_0 := zw HB.out hx176_0; replace hx176_1 := zw HB.out hx176_1; have p176 := eq_true (zd : 0 ≤ (x6_1 : Int)); have q176 := eq_true (zd : x6_1 < (l0.length : Int)); refine start_ (n := 16) (S := fun w' => w'.cell? (ad175.add ((x6_1).toNat * 2)) = some (.string ((rd_T59 l0 x6_1).f0)) ∧ w'.cell? ⟨(ad175.add ((x6_1).toNat * 2)).block, (ad175.add ((x6_1).toNat * 2)).off + 1, none⟩ = some (.string ((rd_T59 l0 x6_1).f1)) ∧ w'.cell? (ad175.add ((x6_1).toNat * 2)) = some (.string ((rd_T59 l0 x6_1).f0)) ∧ w'.cell? ⟨(ad175.add ((x6_1).toNat * 2)).block, (ad175.add ((x6_1).toNat * 2)).off + 1, none⟩ = some (.string ((rd_T59 l0 x6_1).f1))) (ds := []) (zm 16 0) (by kernel_rfl) rfl rfl ⟨((HB.out.cell (World.block_lt_of_cell? w _ hw175_0)).trans hw175_0), ((HB.out.cell (World.block_lt_of_cell? w _ hw175_1)).trans hw175_1), ((HB.out.cell (World.block_lt_of_cell? w _ hw176_0)).trans hw176_0), ((HB.out.cell (World.block_lt_of_cell? w _ hw176_1)).trans hw176_1)⟩ (fun hHeld => ?_); refine with_tabW abacusref12_Print.tab10 abacusref12_Print.bits10 (fun HT_ HW_ => ?_); generalize wr.drew = w12 at HB hx175_0 hx175_1 hx176_0 hx176_1 hHeld ⊢; refine zpure HT_.out 0 21 16 1 ?_
                      refine zpure HT_.out 1 22 16 3 ?_; refine zpure HT_.out 2 23 16 7 ?_; refine zpure HT_.out 3 24 16 15 ?_; refine zpure HT_.out 4 25 16 31 ?_; refine zpure HT_.out 8 29 16 287 ?_; refine zpure HT_.out 9 30 16 799 ?_; refine zpure HT_.out 10 31 16 1823 ?_; refine zpure HT_.out 11 32 16 3871 ?_; refine ztake4 HT_.out HW_.out 5 26 16 3903 hHeld ?_; refine zpure HT_.out 6 27 16 3967 ?_; refine zpure HT_.out 7 28 16 4095 ?_; refine ztake4 HT_.out HW_.out 12 33 16 8191 hHeld ?_; refine one_ (i := 13) (N := some 34) (zm 16 16383) rfl rfl (one_of HT_.out (by kernel_rfl)) (by decide) (fun K hK => ?_); refine goes_ Tryd.func48 (by kernel_rfl) rfl #[.string ((rd_T59 l0 x6_1).f1)] (by rfl) rfl rfl zl ?_; with_reducible refine (abacusref12_Quote.calls k1 ((rd_T59 l0 x6_1).f1) t177 _ A10.out).mono ?_
                      rintro e w13 ⟨rfl, hb⟩; refine ⟨_, rfl, ?_⟩; replace HB := Aside0.mk (below_step (zb HB.out) hb); (try clear hb); (try clear hb2); (try clear hk); (try clear hi); refine hK.out _ _ ⟨((HB.out.cell (World.block_lt_of_cell? w _ hw175_0)).trans hw175_0), ((HB.out.cell (World.block_lt_of_cell? w _ hw175_1)).trans hw175_1), ((HB.out.cell (World.block_lt_of_cell? w _ hw176_0)).trans hw176_0), ((HB.out.cell (World.block_lt_of_cell? w _ hw176_1)).trans hw176_1)⟩ (fun hHeld => ?_); clear hK K; refine norm_ (a' := ?_) ?_ ?_
                      rotate_left
                      · show Act.put _ (some 34) _ = _
                        simp only [Act.put, List.setIfInBounds_toArray, List.set_cons_zero, List.set_cons_succ, i64_w, i32_w]; rfl
                      refine zpure HT_.out 14 35 16 32767 ?_; refine zpure HT_.out 15 5 16 65535 ?_; refine done_ (done_of HT_.out (by kernel_rfl)) ?_; (try go_wp2); go_roundg k1
                      case measure => have := HK1.out; omega
                      case rel => exact ⟨((((x5_1 ++ (⟨#[44]⟩ : ByteArray)) ++ ((rd_T59 l0 x6_1).f0)) ++ (⟨#[61]⟩ : ByteArray)) ++ t177), (wrap64 (x6_1 + 1)), zs, zs, H', ⟨by have := HK1.out; omega⟩, ⟨zb HB.out⟩⟩
                    · rw [if_neg c11] at H
                      exact absurd H (by simp)
                  · rw [if_neg c9] at H
                    exact absurd H (by simp)
                · rw [if_neg c8] at H
                  exact absurd H (by simp)
              · rw [if_neg c7] at H
                exact absurd H (by simp)
            · rw [if_neg c6] at H
              exact absurd H (by simp)
          · rw [if_neg c5] at H
            have c5b0 : decide (0 < x6_1) = false := decide_eq_false c5; clear c5; by_cases c14 : 0 ≤ x6_1
            · rw [if_pos c14] at H
              have c14b0 : decide (0 ≤ x6_1) = true := decide_eq_true c14; clear c14; by_cases c15 : x5_1.size + ((rd_T59 l0 x6_1).f0).size ≤ 9223372036854775807
              · rw [if_pos c15] at H
                have c15b0 := eq_true c15; have c15b1 : decide (x5_1.size + ((rd_T59 l0 x6_1).f0).size ≤ 9223372036854775807) = true := decide_eq_true c15; (try have c15b2 : (9223372036854775807 < x5_1.size + ((rd_T59 l0 x6_1).f0).size) = False := eq_false (Nat.not_lt.2 c15)); by_cases c16 : (x5_1 ++ ((rd_T59 l0 x6_1).f0)).size + 1 ≤ 9223372036854775807
                · rw [if_pos c16] at H
                  have c16b0 := eq_true c16; have c16b1 : decide ((x5_1 ++ ((rd_T59 l0 x6_1).f0)).size + 1 ≤ 9223372036854775807) = true := decide_eq_true c16; (try have c16b2 : (9223372036854775807 < (x5_1 ++ ((rd_T59 l0 x6_1).f0)).size + 1) = False := eq_false (Nat.not_lt.2 c16)); try have c16z : (9223372036854775807 < x5_1.size + ((rd_T59 l0 x6_1).f0).size + 1) = False := by first | (rw [ByteArray.size_append] at c16b2; exact c16b2) | (simp only [ByteArray.size_append] at c16b2; exact c16b2)
                  replace H := Option.bind_eq_some_iff.mp H; obtain ⟨t180, A170, H⟩ := H; replace H : (if ((x5_1 ++ ((rd_T59 l0 x6_1).f0)) ++ (⟨#[61]⟩ : ByteArray)).size + t180.size ≤ 9223372036854775807 then (abacusref12_Print.l0 k1 l0 (((x5_1 ++ ((rd_T59 l0 x6_1).f0)) ++ (⟨#[61]⟩ : ByteArray)) ++ t180) (wrap64 (x6_1 + 1))) else (none)) = some (r1, r2) := H; have A17 := Aside0.mk A170; clear A170; by_cases c18 : ((x5_1 ++ ((rd_T59 l0 x6_1).f0)) ++ (⟨#[61]⟩ : ByteArray)).size + t180.size ≤ 9223372036854775807
                  · rw [if_pos c18] at H
                    have c18b0 := eq_true c18; have c18b1 : decide (((x5_1 ++ ((rd_T59 l0 x6_1).f0)) ++ (⟨#[61]⟩ : ByteArray)).size + t180.size ≤ 9223372036854775807) = true := decide_eq_true c18; (try have c18b2 : (9223372036854775807 < ((x5_1 ++ ((rd_T59 l0 x6_1).f0)) ++ (⟨#[61]⟩ : ByteArray)).size + t180.size) = False := eq_false (Nat.not_lt.2 c18)); try have c18z : (9223372036854775807 < x5_1.size + ((rd_T59 l0 x6_1).f0).size + 1 + t180.size) = False := by first | (rw [ByteArray.size_append] at c18b2; exact c18b2) | (simp only [ByteArray.size_append] at c18b2; exact c18b2)
                    have H' := Aside0.mk H; clear H; (try go_wp2); replace HB := Aside0.mk (below_drew1 HB.out); obtain ⟨ad178, e178, hx178_0, hx178_1⟩ := at_T59 HR0.out x6_1 zd zd; have hw178_1 := hx178_1; have hw178_0 := hx178_0
                    cases e178; replace hx178_0 := zw HB.out hx178_0; replace hx178_1 := zw HB.out hx178_1; have p178 := eq_true (zd : 0 ≤ (x6_1 : Int)); have q178 := eq_true (zd : x6_1 < (l0.length : Int)); obtain ⟨ad179, e179, hx179_0, hx179_1⟩ := at_T59 HR0.out x6_1 zd zd; have hw179_1 := hx179_1; have hw179_0 := hx179_0; obtain rfl : ad178 = ad179 := (by injection e179); replace hx179_0 := zw HB.out hx179_0; replace hx179_1 := zw HB.out hx179_1; have p179 := eq_true (zd : 0 ≤ (x6_1 : Int)); have q179 := eq_true (zd : x6_1 < (l0.length : Int)); refine start_ (n := 16) (S := fun w' => w'.cell? (ad178.add ((x6_1).toNat * 2)) = some (.string ((rd_T59 l0 x6_1).f0)) ∧ w'.cell? ⟨(ad178.add ((x6_1).toNat * 2)).block, (ad178.add ((x6_1).toNat * 2)).off + 1, none⟩ = some (.string ((rd_T59 l0 x6_1).f1)) ∧ w'.cell? (ad178.add ((x6_1).toNat * 2)) = some (.string ((rd_T59 l0 x6_1).f0)) ∧ w'.cell? ⟨(ad178.add ((x6_1).toNat * 2)).block, (ad178.add ((x6_1).toNat * 2)).off + 1, none⟩ = some (.string ((rd_T59 l0 x6_1).f1))) (ds := []) (zm 16 0) (by kernel_rfl) rfl rfl ⟨((HB.out.cell (World.block_lt_of_cell? w _ hw178_0)).trans hw178_0), ((HB.out.cell (World.block_lt_of_cell? w _ hw178_1)).trans hw178_1), ((HB.out.cell (World.block_lt_of_cell? w _ hw179_0)).trans hw179_0), ((HB.out.cell (World.block_lt_of_cell? w _ hw179_1)).trans hw179_1)⟩ (fun hHeld => ?_); refine with_tabW abacusref12_Print.tab10 abacusref12_Print.bits10 (fun HT_ HW_ => ?_); generalize wr.drew = w19 at HB hx178_0 hx178_1 hx179_0 hx179_1 hHeld ⊢; refine zpure HT_.out 0 21 16 1 ?_
                    refine zpure HT_.out 1 22 16 3 ?_; refine zpure HT_.out 2 23 16 7 ?_; refine zpure HT_.out 3 24 16 15 ?_; refine zpure HT_.out 4 25 16 31 ?_; refine zpure HT_.out 8 29 16 287 ?_; refine zpure HT_.out 9 30 16 799 ?_; refine zpure HT_.out 10 31 16 1823 ?_; refine zpure HT_.out 11 32 16 3871 ?_; refine ztake4 HT_.out HW_.out 5 26 16 3903 hHeld ?_; refine zpure HT_.out 6 27 16 3967 ?_; refine zpure HT_.out 7 28 16 4095 ?_; refine ztake4 HT_.out HW_.out 12 33 16 8191 hHeld ?_; refine one_ (i := 13) (N := some 34) (zm 16 16383) rfl rfl (one_of HT_.out (by kernel_rfl)) (by decide) (fun K hK => ?_); refine goes_ Tryd.func48 (by kernel_rfl) rfl #[.string ((rd_T59 l0 x6_1).f1)] (by rfl) rfl rfl zl ?_; with_reducible refine (abacusref12_Quote.calls k1 ((rd_T59 l0 x6_1).f1) t180 _ A17.out).mono ?_
                    rintro e w20 ⟨rfl, hb⟩; refine ⟨_, rfl, ?_⟩; replace HB := Aside0.mk (below_step (zb HB.out) hb); (try clear hb); (try clear hb2); (try clear hk); (try clear hi); refine hK.out _ _ ⟨((HB.out.cell (World.block_lt_of_cell? w _ hw178_0)).trans hw178_0), ((HB.out.cell (World.block_lt_of_cell? w _ hw178_1)).trans hw178_1), ((HB.out.cell (World.block_lt_of_cell? w _ hw179_0)).trans hw179_0), ((HB.out.cell (World.block_lt_of_cell? w _ hw179_1)).trans hw179_1)⟩ (fun hHeld => ?_); clear hK K; refine norm_ (a' := ?_) ?_ ?_
                    rotate_left
                    · show Act.put _ (some 34) _ = _
                      simp only [Act.put, List.setIfInBounds_toArray, List.set_cons_zero, List.set_cons_succ, i64_w, i32_w]; rfl
                    refine zpure HT_.out 14 35 16 32767 ?_; refine zpure HT_.out 15 5 16 65535 ?_; refine done_ (done_of HT_.out (by kernel_rfl)) ?_; (try go_wp2); go_roundg k1
                    case measure => have := HK1.out; omega
                    case rel => exact ⟨(((x5_1 ++ ((rd_T59 l0 x6_1).f0)) ++ (⟨#[61]⟩ : ByteArray)) ++ t180), (wrap64 (x6_1 + 1)), zs, zs, H', ⟨by have := HK1.out; omega⟩, ⟨zb HB.out⟩⟩
                  · rw [if_neg c18] at H
                    exact absurd H (by simp)
                · rw [if_neg c16] at H
                  exact absurd H (by simp)
              · rw [if_neg c15] at H
                exact absurd H (by simp)
            · rw [if_neg c14] at H
              exact absurd H (by simp)
        · rw [if_neg c4] at H
          have c4b0 : decide (x6_1 < (l0.length : Int)) = false := decide_eq_false c4; clear c4; by_cases c21 : x5_1.size + 1 ≤ 9223372036854775807
          · rw [if_pos c21] at H
            have c21b0 := eq_true c21; have c21b1 : decide (x5_1.size + 1 ≤ 9223372036854775807) = true := decide_eq_true c21; (try have c21b2 : (9223372036854775807 < x5_1.size + 1) = False := eq_false (Nat.not_lt.2 c21)); simp only [Option.some.injEq, Prod.mk.injEq] at H; obtain ⟨rfl, rfl⟩ := H; go_wp2; go_ret2
            exact ⟨ze, zb HB.out⟩
          · rw [if_neg c21] at H
            exact absurd H (by simp)
  · replace c3 := Bool.eq_false_iff.mpr c3
    subst c3; have H1 : (some ((⟨#[]⟩ : ByteArray), 120)) = some (r1, r2) := by rw [if_neg (show ¬ (false = true) by decide)] at H; exact H
    clear H; have H := H1; clear H1; simp only [Option.some.injEq, Prod.mk.injEq] at H; obtain ⟨rfl, rfl⟩ := H; go_enter Tryd.func13, Tryd.ntmps13; go_wp2_with (first | ((with_reducible refine gate_callee (f := 33) rfl ?_); refine goesL_ (some 8) rfl rfl Tryd.func33 (by kernel_rfl) rfl #[.slice A0 l0.length c0] rfl zl ?_; (with_reducible refine (abacusref12_Right.calls k _ _ l0 false _ ?side1 ?side2 A2.out).mono ?_); (case side1 => repeat (first | exact HR0.out | (with_reducible refine Kd.C_alloc ?_ _) | (with_reducible refine Kd.C_drewN ?_ _) | (with_reducible refine Kd.C_drew ?_))); (case side2 => exact HC0.out); rintro e w' ⟨rfl, ⟨nd, rfl⟩⟩; refine ⟨_, rfl, ?_⟩))
    go_ret2
    exact ⟨ze, zb HB.out⟩

def IsS71 (w0 W : World) (g : Nat) (f0 : ByteArray) (f1 : Int) (f2 : Bool) (f3 : Value) (f4 : Int) (f5 : Int) : Prop := W.heap[g]? = some (.cells #[.string f0, .int .i64 f1, .bool f2, f3, .int .i64 f4, .int .i64 f5] 71 (0, 0)) ∧ w0.heap.size ≤ g
theorem IsS71.grown {w0 W : World} {g : Nat} {f0 : ByteArray} {f1 : Int} {f2 : Bool} {f3 : Value} {f4 : Int} {f5 : Int} {W1 : World} {row : Option Nat} (h : IsS71 w0 W g f0 f1 f2 f3 f4 f5) (hw : W.grownBy W1 row) (hne : some g ≠ row) : IsS71 w0 W1 g f0 f1 f2 f3 f4 f5 := by
  obtain ⟨hb, hg⟩ := h; exact ⟨blk_grown hb hw hne, hg⟩
theorem IsS71.fresh {w0 W : World} {g : Nat} {f0 : ByteArray} {f1 : Int} {f2 : Bool} {f3 : Value} {f4 : Int} {f5 : Int} (h : IsS71 w0 W g f0 f1 f2 f3 f4 f5) : ∀ k, W.heap.size ≤ k → k ≠ g := by
  obtain ⟨hb, hg⟩ := h; exact Kd.freshB hb
theorem IsS71.below {w0 W : World} {g : Nat} {f0 : ByteArray} {f1 : Int} {f2 : Bool} {f3 : Value} {f4 : Int} {f5 : Int} {W1 : World} (h : IsS71 w0 W g f0 f1 f2 f3 f4 f5) (hw : Below W.heap.size W W1) : IsS71 w0 W1 g f0 f1 f2 f3 f4 f5 := h.grown (grown_of_below hw none) (by simp)
theorem IsS71.alloc {w0 W : World} {g : Nat} {f0 : ByteArray} {f1 : Int} {f2 : Bool} {f3 : Value} {f4 : Int} {f5 : Int} (h : IsS71 w0 W g f0 f1 f2 f3 f4 f5) (o : Obj) : IsS71 w0 (W.alloc o) g f0 f1 f2 f3 f4 f5 := h.below (below_alloc (Below.refl _ _) o)
theorem IsS71.drewN {w0 W : World} {g : Nat} {f0 : ByteArray} {f1 : Int} {f2 : Bool} {f3 : Value} {f4 : Int} {f5 : Int} (h : IsS71 w0 W g f0 f1 f2 f3 f4 f5) (m : Nat) : IsS71 w0 (W.drewN m) g f0 f1 f2 f3 f4 f5 := h
theorem IsS71.drew {w0 W : World} {g : Nat} {f0 : ByteArray} {f1 : Int} {f2 : Bool} {f3 : Value} {f4 : Int} {f5 : Int} (h : IsS71 w0 W g f0 f1 f2 f3 f4 f5) : IsS71 w0 W.drew g f0 f1 f2 f3 f4 f5 := h
theorem IsS71.at_ {w0 W : World} {g : Nat} {f0 : ByteArray} {f1 : Int} {f2 : Bool} {f3 : Value} {f4 : Int} {f5 : Int} {w' : World} {m : Nat} (hq : W.drewN m = w') (h : IsS71 w0 W g f0 f1 f2 f3 f4 f5) : IsS71 w0 w' g f0 f1 f2 f3 f4 f5 := by subst hq; exact IsS71.drewN h m
theorem IsS71.apart {w0 W : World} {g : Nat} {f0 : ByteArray} {f1 : Int} {f2 : Bool} {f3 : Value} {f4 : Int} {f5 : Int} {α : Type} {d : Kd α} {e : Nat} {base : Nat} {ok : Nat → Prop} {v : Value} {xs : List α} (h : IsS71 w0 W g f0 f1 f2 f3 f4 f5) (ho : d.R e W base ok v xs) (ht : ∀ q, q ∈ e :: d.E → q ≠ 71) : d.R e W base (fun k => ok k ∧ k ≠ g) v xs := by
  obtain ⟨hb, hg⟩ := h; exact Kd.R_types ho hb ht
theorem IsS71.own_ne {w0 W : World} {g : Nat} {f0 : ByteArray} {f1 : Int} {f2 : Bool} {f3 : Value} {f4 : Int} {f5 : Int} {α : Type} {d : Kd α} {e : Nat} {base : Nat} {ok : Nat → Prop} {v : Value} {xs : List α} (h : IsS71 w0 W g f0 f1 f2 f3 f4 f5) (ho : d.R e W base ok v xs) (ht : e ≠ 71) : some g ≠ v.ownBlock := by
  obtain ⟨hb, hg⟩ := h; exact Kd.R_ne ho hb ht
theorem IsS71.blk_ {w0 W : World} {g : Nat} {f0 : ByteArray} {f1 : Int} {f2 : Bool} {f3 : Value} {f4 : Int} {f5 : Int} (h : IsS71 w0 W g f0 f1 f2 f3 f4 f5) : W.heap[g]? = some (.cells #[.string f0, .int .i64 f1, .bool f2, f3, .int .i64 f4, .int .i64 f5] 71 (0, 0)) := h.1
theorem IsS71.lt {w0 W : World} {g : Nat} {f0 : ByteArray} {f1 : Int} {f2 : Bool} {f3 : Value} {f4 : Int} {f5 : Int} (h : IsS71 w0 W g f0 f1 f2 f3 f4 f5) : g < W.heap.size := by
  obtain ⟨hb, hg⟩ := h; exact blk_lt hb
theorem IsS71.ge {w0 W : World} {g : Nat} {f0 : ByteArray} {f1 : Int} {f2 : Bool} {f3 : Value} {f4 : Int} {f5 : Int} (h : IsS71 w0 W g f0 f1 f2 f3 f4 f5) : w0.heap.size ≤ g := by
  obtain ⟨hb, hg⟩ := h; exact hg
theorem IsS71.far {w0 W : World} {g : Nat} {f0 : ByteArray} {f1 : Int} {f2 : Bool} {f3 : Value} {f4 : Int} {f5 : Int} {p : Addr} (h : IsS71 w0 W g f0 f1 f2 f3 f4 f5) (hne : g ≠ p.block) (u : Value) : IsS71 w0 (W.setCell p u) g f0 f1 f2 f3 f4 f5 := by
  obtain ⟨hb, hg⟩ := h; exact ⟨blk_far hb hne u, hg⟩
theorem cellS71_0 {W : World} {g : Nat} {f0 : ByteArray} {f1 : Int} {f2 : Bool} {f3 : Value} {f4 : Int} {f5 : Int} (h : W.heap[g]? = some (.cells #[.string f0, .int .i64 f1, .bool f2, f3, .int .i64 f4, .int .i64 f5] 71 (0, 0))) : W.cell? ⟨g, 0, none⟩ = some (.string f0) := (blk_cell h 0).trans rfl
theorem IsS71.set_0 {w0 W : World} {g : Nat} {f0 : ByteArray} {f1 : Int} {f2 : Bool} {f3 : Value} {f4 : Int} {f5 : Int} (h : IsS71 w0 W g f0 f1 f2 f3 f4 f5) (x : ByteArray) : IsS71 w0 (W.setCell ⟨g, 0, none⟩ (.string x)) g x f1 f2 f3 f4 f5 := by
  obtain ⟨hb, hg⟩ := h; exact ⟨by simpa using blk_set hb 0 (.string x), hg⟩
theorem cellS71_1 {W : World} {g : Nat} {f0 : ByteArray} {f1 : Int} {f2 : Bool} {f3 : Value} {f4 : Int} {f5 : Int} (h : W.heap[g]? = some (.cells #[.string f0, .int .i64 f1, .bool f2, f3, .int .i64 f4, .int .i64 f5] 71 (0, 0))) : W.cell? ⟨g, 1, none⟩ = some (.int .i64 f1) := (blk_cell h 1).trans rfl
theorem IsS71.set_1 {w0 W : World} {g : Nat} {f0 : ByteArray} {f1 : Int} {f2 : Bool} {f3 : Value} {f4 : Int} {f5 : Int} (h : IsS71 w0 W g f0 f1 f2 f3 f4 f5) (x : Int) : IsS71 w0 (W.setCell ⟨g, 1, none⟩ (.int .i64 x)) g f0 x f2 f3 f4 f5 := by
  obtain ⟨hb, hg⟩ := h; exact ⟨by simpa using blk_set hb 1 (.int .i64 x), hg⟩
theorem cellS71_2 {W : World} {g : Nat} {f0 : ByteArray} {f1 : Int} {f2 : Bool} {f3 : Value} {f4 : Int} {f5 : Int} (h : W.heap[g]? = some (.cells #[.string f0, .int .i64 f1, .bool f2, f3, .int .i64 f4, .int .i64 f5] 71 (0, 0))) : W.cell? ⟨g, 2, none⟩ = some (.bool f2) := (blk_cell h 2).trans rfl
theorem IsS71.set_2 {w0 W : World} {g : Nat} {f0 : ByteArray} {f1 : Int} {f2 : Bool} {f3 : Value} {f4 : Int} {f5 : Int} (h : IsS71 w0 W g f0 f1 f2 f3 f4 f5) (x : Bool) : IsS71 w0 (W.setCell ⟨g, 2, none⟩ (.bool x)) g f0 f1 x f3 f4 f5 := by
  obtain ⟨hb, hg⟩ := h; exact ⟨by simpa using blk_set hb 2 (.bool x), hg⟩
theorem cellS71_3 {W : World} {g : Nat} {f0 : ByteArray} {f1 : Int} {f2 : Bool} {f3 : Value} {f4 : Int} {f5 : Int} (h : W.heap[g]? = some (.cells #[.string f0, .int .i64 f1, .bool f2, f3, .int .i64 f4, .int .i64 f5] 71 (0, 0))) : W.cell? ⟨g, 3, none⟩ = some (f3) := (blk_cell h 3).trans rfl
theorem IsS71.set_3 {w0 W : World} {g : Nat} {f0 : ByteArray} {f1 : Int} {f2 : Bool} {f3 : Value} {f4 : Int} {f5 : Int} (h : IsS71 w0 W g f0 f1 f2 f3 f4 f5) (x : Value) : IsS71 w0 (W.setCell ⟨g, 3, none⟩ (x)) g f0 f1 f2 x f4 f5 := by
  obtain ⟨hb, hg⟩ := h; exact ⟨by simpa using blk_set hb 3 (x), hg⟩
theorem cellS71_4 {W : World} {g : Nat} {f0 : ByteArray} {f1 : Int} {f2 : Bool} {f3 : Value} {f4 : Int} {f5 : Int} (h : W.heap[g]? = some (.cells #[.string f0, .int .i64 f1, .bool f2, f3, .int .i64 f4, .int .i64 f5] 71 (0, 0))) : W.cell? ⟨g, 4, none⟩ = some (.int .i64 f4) := (blk_cell h 4).trans rfl
theorem IsS71.set_4 {w0 W : World} {g : Nat} {f0 : ByteArray} {f1 : Int} {f2 : Bool} {f3 : Value} {f4 : Int} {f5 : Int} (h : IsS71 w0 W g f0 f1 f2 f3 f4 f5) (x : Int) : IsS71 w0 (W.setCell ⟨g, 4, none⟩ (.int .i64 x)) g f0 f1 f2 f3 x f5 := by
  obtain ⟨hb, hg⟩ := h; exact ⟨by simpa using blk_set hb 4 (.int .i64 x), hg⟩
theorem cellS71_5 {W : World} {g : Nat} {f0 : ByteArray} {f1 : Int} {f2 : Bool} {f3 : Value} {f4 : Int} {f5 : Int} (h : W.heap[g]? = some (.cells #[.string f0, .int .i64 f1, .bool f2, f3, .int .i64 f4, .int .i64 f5] 71 (0, 0))) : W.cell? ⟨g, 5, none⟩ = some (.int .i64 f5) := (blk_cell h 5).trans rfl
theorem zc71 {W : World} {g : Nat} {f0 : ByteArray} {f1 : Int} {f2 : Bool} {f3 : Value} {f4 : Int} {f5 : Int} {w0 : World} (h : IsS71 w0 W g f0 f1 f2 f3 f4 f5) : (W.cell? ⟨g, 0, none⟩ = some (.string f0)) ∧ (W.cell? ⟨g, 1, none⟩ = some (.int .i64 f1)) ∧ (W.cell? ⟨g, 2, none⟩ = some (.bool f2)) ∧ (W.cell? ⟨g, 3, none⟩ = some (f3)) ∧ (W.cell? ⟨g, 4, none⟩ = some (.int .i64 f4)) ∧ (W.cell? ⟨g, 5, none⟩ = some (.int .i64 f5)) ∧ W.frozen? ⟨g, 0, none⟩ = false ∧ W.frozen? ⟨g, 1, none⟩ = false ∧ W.frozen? ⟨g, 2, none⟩ = false ∧ W.frozen? ⟨g, 3, none⟩ = false ∧ W.frozen? ⟨g, 4, none⟩ = false ∧ W.frozen? ⟨g, 5, none⟩ = false := ⟨cellS71_0 h.1, cellS71_1 h.1, cellS71_2 h.1, cellS71_3 h.1, cellS71_4 h.1, cellS71_5 h.1, blk_frozen h.1 0, blk_frozen h.1 1, blk_frozen h.1 2, blk_frozen h.1 3, blk_frozen h.1 4, blk_frozen h.1 5⟩
abbrev S71C (g : Nat) (f0 : ByteArray) (f1 : Int) (f2 : Bool) (f3 : Value) (f4 : Int) (f5 : Int) (W : World) : Prop := W.cell? ⟨g, 0, none⟩ = some (.string f0) ∧ W.cell? ⟨g, 1, none⟩ = some (.int .i64 f1) ∧ W.cell? ⟨g, 2, none⟩ = some (.bool f2) ∧ W.cell? ⟨g, 3, none⟩ = some (f3) ∧ W.cell? ⟨g, 4, none⟩ = some (.int .i64 f4) ∧ W.cell? ⟨g, 5, none⟩ = some (.int .i64 f5)
theorem zs71 {W : World} {g : Nat} {f0 : ByteArray} {f1 : Int} {f2 : Bool} {f3 : Value} {f4 : Int} {f5 : Int} {w0 : World} (h : IsS71 w0 W g f0 f1 f2 f3 f4 f5) : S71C g f0 f1 f2 f3 f4 f5 W := ⟨cellS71_0 h.1, cellS71_1 h.1, cellS71_2 h.1, cellS71_3 h.1, cellS71_4 h.1, cellS71_5 h.1⟩
theorem IsS71.set_5 {w0 W : World} {g : Nat} {f0 : ByteArray} {f1 : Int} {f2 : Bool} {f3 : Value} {f4 : Int} {f5 : Int} (h : IsS71 w0 W g f0 f1 f2 f3 f4 f5) (x : Int) : IsS71 w0 (W.setCell ⟨g, 5, none⟩ (.int .i64 x)) g f0 f1 f2 f3 f4 x := by
  obtain ⟨hb, hg⟩ := h; exact ⟨by simpa using blk_set hb 5 (.int .i64 x), hg⟩
theorem zi71 {P Q : Prop} (hh0 : P) (k : P → Q := by intro hh; repeat (first | (with_reducible first | exact hh | apply IsS71.alloc | apply IsS71.drewN | apply IsS71.drew | apply IsS71.set_0 | apply IsS71.set_1 | apply IsS71.set_2 | apply IsS71.set_3 | apply IsS71.set_4 | apply IsS71.set_5) | exact hh)) : Q := k hh0
theorem zf {P G Q : Prop} (hh0 : P) (gg0 : G) (k : P → G → Q := by intro hh gg; repeat (first | (with_reducible first | exact hh | apply IsS71.alloc | apply IsS71.drewN | apply IsS71.drew | apply IsS71.set_1 | refine IsS71.far ?_ (Ne.symm gg) _))) : Q := k hh0 gg0
theorem IsS71.new (w0 W : World) (f0 : ByteArray) (f1 : Int) (f2 : Bool) (f3 : Value) (f4 : Int) (f5 : Int) (hB : Below w0.heap.size w0 W) : IsS71 w0 (W.alloc (.cells #[.string f0, .int .i64 f1, .bool f2, f3, .int .i64 f4, .int .i64 f5] 71)) W.heap.size f0 f1 f2 f3 f4 f5 := ⟨by simpa using heap_alloc_new W _, hB.size⟩

def labels_reader_here.f (s0_0 : ByteArray) (s0_1 : Int) (s0_2 : Bool) (s0_3 : Value) (s0_4 : Int) (s0_5 : Int) : Option (Int × Bool × ByteArray × Int × Bool × Value × Int × Int) := if s0_1 < (s0_0.size : Int) then (if 0 ≤ s0_1 then (some (bt s0_0 s0_1, true, s0_0, s0_1, s0_2, s0_3, s0_4, s0_5)) else (none)) else (some (0, false, s0_0, s0_1, s0_2, s0_3, s0_4, s0_5))
set_option maxHeartbeats 8000000 in
set_option maxRecDepth 100000 in
theorem labels_reader_here.calls (g : Nat) (s0_0 : ByteArray) (s0_1 : Int) (s0_2 : Bool) (s0_3 : Value) (s0_4 : Int) (s0_5 : Int) (r1 : Int) (r2 : Bool) (r3 : ByteArray) (r4 : Int) (r5 : Bool) (r6 : Value) (r7 : Int) (r8 : Int) (w0 w : World) (hI : IsS71 w0 w g s0_0 s0_1 s0_2 s0_3 s0_4 s0_5) (hB : Below w0.heap.size w0 w) (h : labels_reader_here.f s0_0 s0_1 s0_2 s0_3 s0_4 s0_5 = some (r1, r2, r3, r4, r5, r6, r7, r8)) :
    Calls Tryd.prog 80 #[.pointer (some ⟨g, 0, none⟩)] w fun e w' => e = .returned (.tuple #[.int .u8 r1, .bool r2]) ∧ IsS71 w0 w' g r3 r4 r5 r6 r7 r8 ∧ Below w0.heap.size w0 w' ∧ KeepBut w w' g none := by
  have HI0 := Aside0.mk hI; have HK := Aside0.mk (KeepBut.refl w g none); have HL := Aside0.mk hB.size; clear hI; have HW0 := Aside0.mk hB.size; have HB := Aside0.mk hB; clear hB; have H : (if s0_1 < (s0_0.size : Int) then (if 0 ≤ s0_1 then (some (bt s0_0 s0_1, true, s0_0, s0_1, s0_2, s0_3, s0_4, s0_5)) else (none)) else (some (0, false, s0_0, s0_1, s0_2, s0_3, s0_4, s0_5))) = some (r1, r2, r3, r4, r5, r6, r7, r8) := h; clear h; by_cases c2 : s0_1 < (s0_0.size : Int)
  · rw [if_pos c2] at H
    have c2b0 : decide (s0_1 < (s0_0.size : Int)) = true := decide_eq_true c2; clear c2; by_cases c3 : 0 ≤ s0_1
    · rw [if_pos c3] at H
      have c3b0 : decide (0 ≤ s0_1) = true := decide_eq_true c3; clear c3; simp only [Option.some.injEq, Prod.mk.injEq] at H; obtain ⟨rfl, rfl, rfl, rfl, rfl, rfl, rfl, rfl⟩ := H; obtain ⟨hcz5_0, hcz5_1, hcz5_2, hcz5_3, hcz5_4, hcz5_5, hfz5_0, hfz5_1, hfz5_2, hfz5_3, hfz5_4, hfz5_5⟩ := zc71 HI0.out; have p4 := eq_true (zd : 0 ≤ (s0_1 : Int)); have q4 := eq_true (zd : s0_1 < (s0_0.size : Int)); have hx4 := bt_at s0_0 s0_1; go_enter Tryd.func80, Tryd.ntmps80; go_wp2
      repeat (go_quiet (fail); try go_wp2)
      go_ret2
      exact ⟨ze, zi71 HI0.out, zg HB.out (IsS71.ge HI0.out), zk HK.out⟩
    · rw [if_neg c3] at H
      exact absurd H (by simp)
  · rw [if_neg c2] at H
    have c2b0 : decide (s0_1 < (s0_0.size : Int)) = false := decide_eq_false c2; clear c2; simp only [Option.some.injEq, Prod.mk.injEq] at H; obtain ⟨rfl, rfl, rfl, rfl, rfl, rfl, rfl, rfl⟩ := H; obtain ⟨hcz6_0, hcz6_1, hcz6_2, hcz6_3, hcz6_4, hcz6_5, hfz6_0, hfz6_1, hfz6_2, hfz6_3, hfz6_4, hfz6_5⟩ := zc71 HI0.out; go_enter Tryd.func80, Tryd.ntmps80; go_wp2
    repeat (go_quiet (fail); try go_wp2)
    go_ret2
    exact ⟨ze, zi71 HI0.out, zg HB.out (IsS71.ge HI0.out), zk HK.out⟩

def labels_reader_fail.f (s0_0 : ByteArray) (s0_1 : Int) (s0_2 : Bool) (s0_3 : Value) (s0_4 : Int) (s0_5 : Int) (a1 : Int) (a2 : Int) : Option (ByteArray × Int × Bool × Value × Int × Int) := if s0_4 = 0 then (some (s0_0, s0_1, s0_2, s0_3, a1, a2)) else (some (s0_0, s0_1, s0_2, s0_3, s0_4, s0_5))
set_option maxHeartbeats 8000000 in
set_option maxRecDepth 100000 in
theorem labels_reader_fail.calls (g : Nat) (s0_0 : ByteArray) (s0_1 : Int) (s0_2 : Bool) (s0_3 : Value) (s0_4 : Int) (s0_5 : Int) (a1 : Int) (a2 : Int) (r1 : ByteArray) (r2 : Int) (r3 : Bool) (r4 : Value) (r5 : Int) (r6 : Int) (w0 w : World) (hI : IsS71 w0 w g s0_0 s0_1 s0_2 s0_3 s0_4 s0_5) (hB : Below w0.heap.size w0 w) (h : labels_reader_fail.f s0_0 s0_1 s0_2 s0_3 s0_4 s0_5 a1 a2 = some (r1, r2, r3, r4, r5, r6)) :
    Calls Tryd.prog 82 #[.pointer (some ⟨g, 0, none⟩), .int .i64 a1, .int .i64 a2] w fun e w' => e = .returned (.tuple #[]) ∧ IsS71 w0 w' g r1 r2 r3 r4 r5 r6 ∧ Below w0.heap.size w0 w' ∧ KeepBut w w' g none := by
  have HI0 := Aside0.mk hI; have HK := Aside0.mk (KeepBut.refl w g none); have HL := Aside0.mk hB.size; clear hI; have HW0 := Aside0.mk hB.size; have HB := Aside0.mk hB; clear hB; have H : (if s0_4 = 0 then (some (s0_0, s0_1, s0_2, s0_3, a1, a2)) else (some (s0_0, s0_1, s0_2, s0_3, s0_4, s0_5))) = some (r1, r2, r3, r4, r5, r6) := h; clear h; by_cases c4 : s0_4 = 0
  · rw [if_pos c4] at H
    have c4b0 : (s0_4 == 0) = true := beq_iff_eq.mpr c4; have c4b1 : (s0_4 != 0) = false := bne_eq_false_iff_eq.mpr c4; clear c4; simp only [Option.some.injEq, Prod.mk.injEq] at H; obtain ⟨rfl, rfl, rfl, rfl, rfl, rfl⟩ := H; obtain ⟨hcz5_0, hcz5_1, hcz5_2, hcz5_3, hcz5_4, hcz5_5, hfz5_0, hfz5_1, hfz5_2, hfz5_3, hfz5_4, hfz5_5⟩ := zc71 HI0.out; go_enter Tryd.func82, Tryd.ntmps82; go_wp2; first | go_end0 | ((try simp only [Exit.inBlock, Exit.then]); refine bodyPost_ret (results_none rfl _ _ _) rfl ?_)
    exact ⟨ze, zi71 HI0.out, zg HB.out (IsS71.ge HI0.out), zk HK.out⟩
  · rw [if_neg c4] at H
    have c4b0 : (s0_4 == 0) = false := beq_eq_false_iff_ne.mpr c4; have c4b1 : (s0_4 != 0) = true := bne_iff_ne.mpr c4; simp only [Option.some.injEq, Prod.mk.injEq] at H; obtain ⟨rfl, rfl, rfl, rfl, rfl, rfl⟩ := H; obtain ⟨hcz6_0, hcz6_1, hcz6_2, hcz6_3, hcz6_4, hcz6_5, hfz6_0, hfz6_1, hfz6_2, hfz6_3, hfz6_4, hfz6_5⟩ := zc71 HI0.out; go_enter Tryd.func82, Tryd.ntmps82; go_wp2; first | go_end0 | ((try simp only [Exit.inBlock, Exit.then]); refine bodyPost_ret (results_none rfl _ _ _) rfl ?_)
    exact ⟨ze, zi71 HI0.out, zg HB.out (IsS71.ge HI0.out), zk HK.out⟩

def labels_reader_take.f (s0_0 : ByteArray) (s0_1 : Int) (s0_2 : Bool) (s0_3 : Value) (s0_4 : Int) (s0_5 : Int) (a1 : Int) : Option (Bool × ByteArray × Int × Bool × Value × Int × Int) := (labels_reader_here.f s0_0 s0_1 s0_2 s0_3 s0_4 s0_5).bind fun bt181 => (if bt181.2.1 = true then (if bt181.1 = a1 then (some (true, bt181.2.2.1, wrap64 (bt181.2.2.2.1 + 1), bt181.2.2.2.2.1, bt181.2.2.2.2.2.1, bt181.2.2.2.2.2.2.1, bt181.2.2.2.2.2.2.2)) else ((labels_reader_fail.f bt181.2.2.1 bt181.2.2.2.1 bt181.2.2.2.2.1 bt181.2.2.2.2.2.1 bt181.2.2.2.2.2.2.1 bt181.2.2.2.2.2.2.2 120 bt181.2.2.2.1).bind fun bt189 => (some (false, bt189.1, bt189.2.1, bt189.2.2.1, bt189.2.2.2.1, bt189.2.2.2.2.1, bt189.2.2.2.2.2)))) else ((labels_reader_fail.f bt181.2.2.1 bt181.2.2.2.1 bt181.2.2.2.2.1 bt181.2.2.2.2.2.1 bt181.2.2.2.2.2.2.1 bt181.2.2.2.2.2.2.2 120 bt181.2.2.2.1).bind fun bt195 => (some (false, bt195.1, bt195.2.1, bt195.2.2.1, bt195.2.2.2.1, bt195.2.2.2.2.1, bt195.2.2.2.2.2))))
set_option maxHeartbeats 8000000 in
set_option maxRecDepth 100000 in
theorem labels_reader_take.calls (g : Nat) (s0_0 : ByteArray) (s0_1 : Int) (s0_2 : Bool) (s0_3 : Value) (s0_4 : Int) (s0_5 : Int) (a1 : Int) (r1 : Bool) (r2 : ByteArray) (r3 : Int) (r4 : Bool) (r5 : Value) (r6 : Int) (r7 : Int) (w0 w : World) (hI : IsS71 w0 w g s0_0 s0_1 s0_2 s0_3 s0_4 s0_5) (hB : Below w0.heap.size w0 w) (h : labels_reader_take.f s0_0 s0_1 s0_2 s0_3 s0_4 s0_5 a1 = some (r1, r2, r3, r4, r5, r6, r7)) :
    Calls Tryd.prog 79 #[.pointer (some ⟨g, 0, none⟩), .int .u8 a1] w fun e w' => e = .returned (.bool r1) ∧ IsS71 w0 w' g r2 r3 r4 r5 r6 r7 ∧ Below w0.heap.size w0 w' ∧ KeepBut w w' g none := by
  have HI0 := Aside0.mk hI; have HK := Aside0.mk (KeepBut.refl w g none); have HL := Aside0.mk hB.size; clear hI; have HW0 := Aside0.mk hB.size; have HB := Aside0.mk hB; clear hB; have H : ((labels_reader_here.f s0_0 s0_1 s0_2 s0_3 s0_4 s0_5).bind fun bt181 => (if bt181.2.1 = true then (if bt181.1 = a1 then (some (true, bt181.2.2.1, wrap64 (bt181.2.2.2.1 + 1), bt181.2.2.2.2.1, bt181.2.2.2.2.2.1, bt181.2.2.2.2.2.2.1, bt181.2.2.2.2.2.2.2)) else ((labels_reader_fail.f bt181.2.2.1 bt181.2.2.2.1 bt181.2.2.2.2.1 bt181.2.2.2.2.2.1 bt181.2.2.2.2.2.2.1 bt181.2.2.2.2.2.2.2 120 bt181.2.2.2.1).bind fun bt189 => (some (false, bt189.1, bt189.2.1, bt189.2.2.1, bt189.2.2.2.1, bt189.2.2.2.2.1, bt189.2.2.2.2.2)))) else ((labels_reader_fail.f bt181.2.2.1 bt181.2.2.2.1 bt181.2.2.2.2.1 bt181.2.2.2.2.2.1 bt181.2.2.2.2.2.2.1 bt181.2.2.2.2.2.2.2 120 bt181.2.2.2.1).bind fun bt195 => (some (false, bt195.1, bt195.2.1, bt195.2.2.1, bt195.2.2.2.1, bt195.2.2.2.2.1, bt195.2.2.2.2.2))))) = some (r1, r2, r3, r4, r5, r6, r7) := h; clear h; replace H := Option.bind_eq_some_iff.mp H; obtain ⟨⟨t181, t182, t183, t184, t185, t186, t187, t188⟩, A30, H⟩ := H; replace H : (if t182 = true then (if t181 = a1 then (some (true, t183, wrap64 (t184 + 1), t185, t186, t187, t188)) else ((labels_reader_fail.f t183 t184 t185 t186 t187 t188 120 t184).bind fun bt189 => (some (false, bt189.1, bt189.2.1, bt189.2.2.1, bt189.2.2.2.1, bt189.2.2.2.2.1, bt189.2.2.2.2.2)))) else ((labels_reader_fail.f t183 t184 t185 t186 t187 t188 120 t184).bind fun bt195 => (some (false, bt195.1, bt195.2.1, bt195.2.2.1, bt195.2.2.2.1, bt195.2.2.2.2.1, bt195.2.2.2.2.2)))) = some (r1, r2, r3, r4, r5, r6, r7) := H; have A3 := Aside0.mk A30; clear A30; by_cases c4 : t182 = true
  · subst c4
    have H1 : (if t181 = a1 then (some (true, t183, wrap64 (t184 + 1), t185, t186, t187, t188)) else ((labels_reader_fail.f t183 t184 t185 t186 t187 t188 120 t184).bind fun bt189 => (some (false, bt189.1, bt189.2.1, bt189.2.2.1, bt189.2.2.2.1, bt189.2.2.2.2.1, bt189.2.2.2.2.2)))) = some (r1, r2, r3, r4, r5, r6, r7) := by rw [if_pos rfl] at H; exact H
    clear H; have H := H1; clear H1; by_cases c5 : t181 = a1
    · rw [if_pos c5] at H
      have c5b0 : (t181 == a1) = true := beq_iff_eq.mpr c5; have c5b1 : (t181 != a1) = false := bne_eq_false_iff_eq.mpr c5; clear c5; simp only [Option.some.injEq, Prod.mk.injEq] at H; obtain ⟨rfl, rfl, rfl, rfl, rfl, rfl, rfl⟩ := H; go_enter Tryd.func79, Tryd.ntmps79; go_wp2_with (first | ((with_reducible refine gate_callee (f := 80) rfl ?_); refine goesL_ (some 9) rfl rfl Tryd.func80 (by kernel_rfl) rfl #[.pointer (some ⟨g, 0, none⟩)] rfl zl ?_; (with_reducible refine (labels_reader_here.calls g s0_0 s0_1 s0_2 s0_3 s0_4 s0_5 t181 true t183 t184 t185 t186 t187 t188 w0 _ ?side1 ?side2 A3.out).mono ?_); (case side1 => exact zi71 HI0.out); (case side2 => exact zg HB.out (IsS71.ge HI0.out)); rintro e w6 ⟨rfl, hi, hb, hk⟩; refine ⟨_, rfl, ?_⟩; replace HK := Aside0.mk (zt HK.out hk); replace HB := Aside0.mk (hb); replace HI0 := Aside0.mk (hi); (try clear hb); (try clear hb2); (try clear hk); (try clear hi); obtain ⟨hcz7_0, hcz7_1, hcz7_2, hcz7_3, hcz7_4, hcz7_5, hfz7_0, hfz7_1, hfz7_2, hfz7_3, hfz7_4, hfz7_5⟩ := zc71 HI0.out))
      go_ret
      exact ⟨ze, zi71 HI0.out, zg HB.out (IsS71.ge HI0.out), zk HK.out⟩
    · rw [if_neg c5] at H
      have c5b0 : (t181 == a1) = false := beq_eq_false_iff_ne.mpr c5; have c5b1 : (t181 != a1) = true := bne_iff_ne.mpr c5; replace H := Option.bind_eq_some_iff.mp H; obtain ⟨⟨t189, t190, t191, t192, t193, t194⟩, A80, H⟩ := H; replace H : (some (false, t189, t190, t191, t192, t193, t194)) = some (r1, r2, r3, r4, r5, r6, r7) := H; have A8 := Aside0.mk A80; clear A80; simp only [Option.some.injEq, Prod.mk.injEq] at H; obtain ⟨rfl, rfl, rfl, rfl, rfl, rfl, rfl⟩ := H; go_enter Tryd.func79, Tryd.ntmps79
      go_wp2_with (first | ((with_reducible refine gate_callee (f := 80) rfl ?_); refine goesL_ (some 9) rfl rfl Tryd.func80 (by kernel_rfl) rfl #[.pointer (some ⟨g, 0, none⟩)] rfl zl ?_; (with_reducible refine (labels_reader_here.calls g s0_0 s0_1 s0_2 s0_3 s0_4 s0_5 t181 true t183 t184 t185 t186 t187 t188 w0 _ ?side1 ?side2 A3.out).mono ?_); (case side1 => exact zi71 HI0.out); (case side2 => exact zg HB.out (IsS71.ge HI0.out)); rintro e w9 ⟨rfl, hi, hb, hk⟩; refine ⟨_, rfl, ?_⟩; replace HK := Aside0.mk (zt HK.out hk); replace HB := Aside0.mk (hb); replace HI0 := Aside0.mk (hi); (try clear hb); (try clear hb2); (try clear hk); (try clear hi); obtain ⟨hcz10_0, hcz10_1, hcz10_2, hcz10_3, hcz10_4, hcz10_5, hfz10_0, hfz10_1, hfz10_2, hfz10_3, hfz10_4, hfz10_5⟩ := zc71 HI0.out) | ((with_reducible refine gate_callee (f := 82) rfl ?_); refine goesL_ (some 24) rfl rfl Tryd.func82 (by kernel_rfl) rfl #[.pointer (some ⟨g, 0, none⟩), .int .i64 120, .int .i64 t184] rfl zl ?_; (with_reducible refine (labels_reader_fail.calls g t183 t184 t185 t186 t187 t188 120 t184 t189 t190 t191 t192 t193 t194 w0 _ ?side1 ?side2 A8.out).mono ?_); (case side1 => exact zi71 HI0.out); (case side2 => exact zg HB.out (IsS71.ge HI0.out)); rintro e w11 ⟨rfl, hi, hb, hk⟩; refine ⟨_, rfl, ?_⟩; replace HK := Aside0.mk (zt HK.out hk); replace HB := Aside0.mk (hb); replace HI0 := Aside0.mk (hi); (try clear hb); (try clear hb2); (try clear hk); (try clear hi)))
      go_ret
      exact ⟨ze, zi71 HI0.out, zg HB.out (IsS71.ge HI0.out), zk HK.out⟩
  · replace c4 := Bool.eq_false_iff.mpr c4
    subst c4; have H1 : ((labels_reader_fail.f t183 t184 t185 t186 t187 t188 120 t184).bind fun bt195 => (some (false, bt195.1, bt195.2.1, bt195.2.2.1, bt195.2.2.2.1, bt195.2.2.2.2.1, bt195.2.2.2.2.2))) = some (r1, r2, r3, r4, r5, r6, r7) := by rw [if_neg (show ¬ (false = true) by decide)] at H; exact H
    clear H; have H := H1; clear H1; replace H := Option.bind_eq_some_iff.mp H; obtain ⟨⟨t195, t196, t197, t198, t199, t200⟩, A120, H⟩ := H; replace H : (some (false, t195, t196, t197, t198, t199, t200)) = some (r1, r2, r3, r4, r5, r6, r7) := H; have A12 := Aside0.mk A120; clear A120; simp only [Option.some.injEq, Prod.mk.injEq] at H; obtain ⟨rfl, rfl, rfl, rfl, rfl, rfl, rfl⟩ := H; go_enter Tryd.func79, Tryd.ntmps79
    go_wp2_with (first | ((with_reducible refine gate_callee (f := 80) rfl ?_); refine goesL_ (some 9) rfl rfl Tryd.func80 (by kernel_rfl) rfl #[.pointer (some ⟨g, 0, none⟩)] rfl zl ?_; (with_reducible refine (labels_reader_here.calls g s0_0 s0_1 s0_2 s0_3 s0_4 s0_5 t181 false t183 t184 t185 t186 t187 t188 w0 _ ?side1 ?side2 A3.out).mono ?_); (case side1 => exact zi71 HI0.out); (case side2 => exact zg HB.out (IsS71.ge HI0.out)); rintro e w13 ⟨rfl, hi, hb, hk⟩; refine ⟨_, rfl, ?_⟩; replace HK := Aside0.mk (zt HK.out hk); replace HB := Aside0.mk (hb); replace HI0 := Aside0.mk (hi); (try clear hb); (try clear hb2); (try clear hk); (try clear hi); obtain ⟨hcz14_0, hcz14_1, hcz14_2, hcz14_3, hcz14_4, hcz14_5, hfz14_0, hfz14_1, hfz14_2, hfz14_3, hfz14_4, hfz14_5⟩ := zc71 HI0.out) | ((with_reducible refine gate_callee (f := 82) rfl ?_); refine goesL_ (some 24) rfl rfl Tryd.func82 (by kernel_rfl) rfl #[.pointer (some ⟨g, 0, none⟩), .int .i64 120, .int .i64 t184] rfl zl ?_; (with_reducible refine (labels_reader_fail.calls g t183 t184 t185 t186 t187 t188 120 t184 t195 t196 t197 t198 t199 t200 w0 _ ?side1 ?side2 A12.out).mono ?_); (case side1 => exact zi71 HI0.out); (case side2 => exact zg HB.out (IsS71.ge HI0.out)); rintro e w15 ⟨rfl, hi, hb, hk⟩; refine ⟨_, rfl, ?_⟩; replace HK := Aside0.mk (zt HK.out hk); replace HB := Aside0.mk (hb); replace HI0 := Aside0.mk (hi); (try clear hb); (try clear hb2); (try clear hk); (try clear hi)))
    go_ret
    exact ⟨ze, zi71 HI0.out, zg HB.out (IsS71.ge HI0.out), zk HK.out⟩

mutual
def labels_reader_name.j2 : Nat → Int → ByteArray → Int → Bool → Value → Int → Int → Option (ByteArray × ByteArray × Int × Bool × Value × Int × Int)
  | 0, _, _, _, _, _, _, _ => none
  | k + 1, x3, x1000, x1001, x1002, x1003, x1004, x1005 => (labels_reader_here.f x1000 x1001 x1002 x1003 x1004 x1005).bind fun bt227 => (if bt227.2.2.2.1 = x3 then ((labels_reader_fail.f bt227.2.2.1 bt227.2.2.2.1 bt227.2.2.2.2.1 bt227.2.2.2.2.2.1 bt227.2.2.2.2.2.2.1 bt227.2.2.2.2.2.2.2 120 bt227.2.2.2.1).bind fun bt235 => (if 0 ≤ x3 then (if x3 ≤ bt235.2.1 then (if bt235.2.1 ≤ (bt235.1.size : Int) then (some (bt235.1.extract (x3 : Int).toNat (bt235.2.1 : Int).toNat, bt235.1, bt235.2.1, bt235.2.2.1, bt235.2.2.2.1, bt235.2.2.2.2.1, bt235.2.2.2.2.2)) else (none)) else (none)) else (none))) else (if bt227.2.1 = true then ((labels_named.f bt227.1).bind fun t241 => (if t241 = true then ((labels_reader_fail.f bt227.2.2.1 bt227.2.2.2.1 bt227.2.2.2.2.1 bt227.2.2.2.2.2.1 bt227.2.2.2.2.2.2.1 bt227.2.2.2.2.2.2.2 120 bt227.2.2.2.1).bind fun bt242 => (if 0 ≤ x3 then (if x3 ≤ bt242.2.1 then (if bt242.2.1 ≤ (bt242.1.size : Int) then (some (bt242.1.extract (x3 : Int).toNat (bt242.2.1 : Int).toNat, bt242.1, bt242.2.1, bt242.2.2.1, bt242.2.2.2.1, bt242.2.2.2.2.1, bt242.2.2.2.2.2)) else (none)) else (none)) else (none))) else (if 0 ≤ x3 then (if x3 ≤ bt227.2.2.2.1 then (if bt227.2.2.2.1 ≤ (bt227.2.2.1.size : Int) then (some (bt227.2.2.1.extract (x3 : Int).toNat (bt227.2.2.2.1 : Int).toNat, bt227.2.2.1, bt227.2.2.2.1, bt227.2.2.2.2.1, bt227.2.2.2.2.2.1, bt227.2.2.2.2.2.2.1, bt227.2.2.2.2.2.2.2)) else (none)) else (none)) else (none)))) else (if 0 ≤ x3 then (if x3 ≤ bt227.2.2.2.1 then (if bt227.2.2.2.1 ≤ (bt227.2.2.1.size : Int) then (some (bt227.2.2.1.extract (x3 : Int).toNat (bt227.2.2.2.1 : Int).toNat, bt227.2.2.1, bt227.2.2.2.1, bt227.2.2.2.2.1, bt227.2.2.2.2.2.1, bt227.2.2.2.2.2.2.1, bt227.2.2.2.2.2.2.2)) else (none)) else (none)) else (none))))
def labels_reader_name.l0 : Nat → Int → Int → Bool → ByteArray → Int → Bool → Value → Int → Int → Option (ByteArray × ByteArray × Int × Bool × Value × Int × Int)
  | 0, _, _, _, _, _, _, _, _, _ => none
  | k + 1, x3, x4, x5, x1000, x1001, x1002, x1003, x1004, x1005 => if x5 = true then ((labels_named.f x4).bind fun t209 => (labels_reader_name.j1 k x3 x4 t209 x1000 x1001 x1002 x1003 x1004 x1005)) else (labels_reader_name.j1 k x3 x4 false x1000 x1001 x1002 x1003 x1004 x1005)
def labels_reader_name.j1 : Nat → Int → Int → Bool → ByteArray → Int → Bool → Value → Int → Int → Option (ByteArray × ByteArray × Int × Bool × Value × Int × Int)
  | 0, _, _, _, _, _, _, _, _, _ => none
  | k + 1, x3, x4, x21, x1000, x1001, x1002, x1003, x1004, x1005 => if x21 = true then (if x1001 = x3 then ((labels_letter.f x4).bind fun t210 => (if t210 = true then (if (wrap64 (x1001 - x3)) = 64 then (labels_reader_name.j2 k x3 x1000 x1001 x1002 x1003 x1004 x1005) else ((labels_reader_here.f x1000 (wrap64 (x1001 + 1)) x1002 x1003 x1004 x1005).bind fun bt211 => (labels_reader_name.l0 k x3 bt211.1 bt211.2.1 bt211.2.2.1 bt211.2.2.2.1 bt211.2.2.2.2.1 bt211.2.2.2.2.2.1 bt211.2.2.2.2.2.2.1 bt211.2.2.2.2.2.2.2))) else (labels_reader_name.j2 k x3 x1000 x1001 x1002 x1003 x1004 x1005))) else (if (wrap64 (x1001 - x3)) = 64 then (labels_reader_name.j2 k x3 x1000 x1001 x1002 x1003 x1004 x1005) else ((labels_reader_here.f x1000 (wrap64 (x1001 + 1)) x1002 x1003 x1004 x1005).bind fun bt219 => (labels_reader_name.l0 k x3 bt219.1 bt219.2.1 bt219.2.2.1 bt219.2.2.2.1 bt219.2.2.2.2.1 bt219.2.2.2.2.2.1 bt219.2.2.2.2.2.2.1 bt219.2.2.2.2.2.2.2)))) else (labels_reader_name.j2 k x3 x1000 x1001 x1002 x1003 x1004 x1005)
end
def labels_reader_name.f (k : Nat) (s0_0 : ByteArray) (s0_1 : Int) (s0_2 : Bool) (s0_3 : Value) (s0_4 : Int) (s0_5 : Int) : Option (ByteArray × ByteArray × Int × Bool × Value × Int × Int) := (labels_reader_here.f s0_0 s0_1 s0_2 s0_3 s0_4 s0_5).bind fun bt201 => (labels_reader_name.l0 k s0_1 bt201.1 bt201.2.1 bt201.2.2.1 bt201.2.2.2.1 bt201.2.2.2.2.1 bt201.2.2.2.2.2.1 bt201.2.2.2.2.2.2.1 bt201.2.2.2.2.2.2.2)
set_option maxHeartbeats 8000000 in
set_option maxRecDepth 100000 in
theorem labels_reader_name.calls (k : Nat) (g : Nat) (s0_0 : ByteArray) (s0_1 : Int) (s0_2 : Bool) (s0_3 : Value) (s0_4 : Int) (s0_5 : Int) (r1 : ByteArray) (r2 : ByteArray) (r3 : Int) (r4 : Bool) (r5 : Value) (r6 : Int) (r7 : Int) (w0 w : World) (hI : IsS71 w0 w g s0_0 s0_1 s0_2 s0_3 s0_4 s0_5) (hB : Below w0.heap.size w0 w) (h : labels_reader_name.f k s0_0 s0_1 s0_2 s0_3 s0_4 s0_5 = some (r1, r2, r3, r4, r5, r6, r7)) :
    Calls Tryd.prog 94 #[.pointer (some ⟨g, 0, none⟩)] w fun e w' => e = .returned (.string r1) ∧ IsS71 w0 w' g r2 r3 r4 r5 r6 r7 ∧ Below w0.heap.size w0 w' ∧ KeepBut w w' g none := by
  have HI0 := Aside0.mk hI; have HK := Aside0.mk (KeepBut.refl w g none); have HL := Aside0.mk hB.size; clear hI; have HW0 := Aside0.mk hB.size; have HB := Aside0.mk hB; clear hB; have H : ((labels_reader_here.f s0_0 s0_1 s0_2 s0_3 s0_4 s0_5).bind fun bt201 => (labels_reader_name.l0 k s0_1 bt201.1 bt201.2.1 bt201.2.2.1 bt201.2.2.2.1 bt201.2.2.2.2.1 bt201.2.2.2.2.2.1 bt201.2.2.2.2.2.2.1 bt201.2.2.2.2.2.2.2)) = some (r1, r2, r3, r4, r5, r6, r7) := h; clear h; replace H := Option.bind_eq_some_iff.mp H; obtain ⟨⟨t201, t202, t203, t204, t205, t206, t207, t208⟩, A20, H⟩ := H; replace H : (labels_reader_name.l0 k s0_1 t201 t202 t203 t204 t205 t206 t207 t208) = some (r1, r2, r3, r4, r5, r6, r7) := H; have A2 := Aside0.mk A20; clear A20; have HC3 := Aside0.mk H; clear H; obtain ⟨hcz4_0, hcz4_1, hcz4_2, hcz4_3, hcz4_4, hcz4_5, hfz4_0, hfz4_1, hfz4_2, hfz4_3, hfz4_4, hfz4_5⟩ := zc71 HI0.out; go_enter Tryd.func94, Tryd.ntmps94
  go_upto_block 0 with (first | (go_at_call 80; (with_reducible refine (labels_reader_here.calls g s0_0 s0_1 s0_2 s0_3 s0_4 s0_5 t201 t202 t203 t204 t205 t206 t207 t208 w0 _ ?side1 ?side2 A2.out).mono ?_); (case side1 => exact zi71 HI0.out); (case side2 => exact zg HB.out (IsS71.ge HI0.out)); rintro e w5 ⟨rfl, hi, hb, hk⟩; replace HK := Aside0.mk (zt HK.out hk); replace HB := Aside0.mk (hb); replace HI0 := Aside0.mk (hi); (try clear hb); (try clear hb2); (try clear hk); (try clear hi)))
  repeat (go_quiet (first | (go_at_call 80; (with_reducible refine (labels_reader_here.calls g s0_0 s0_1 s0_2 s0_3 s0_4 s0_5 t201 t202 t203 t204 t205 t206 t207 t208 w0 _ ?side1 ?side2 A2.out).mono ?_); (case side1 => exact zi71 HI0.out); (case side2 => exact zg HB.out (IsS71.ge HI0.out)); rintro e w5 ⟨rfl, hi, hb, hk⟩; replace HK := Aside0.mk (zt HK.out hk); replace HB := Aside0.mk (hb); replace HI0 := Aside0.mk (hi); (try clear hb); (try clear hb2); (try clear hk); (try clear hi))); go_upto_block 0 with (first | (go_at_call 80; (with_reducible refine (labels_reader_here.calls g s0_0 s0_1 s0_2 s0_3 s0_4 s0_5 t201 t202 t203 t204 t205 t206 t207 t208 w0 _ ?side1 ?side2 A2.out).mono ?_); (case side1 => exact zi71 HI0.out); (case side2 => exact zg HB.out (IsS71.ge HI0.out)); rintro e w5 ⟨rfl, hi, hb, hk⟩; replace HK := Aside0.mk (zt HK.out hk); replace HB := Aside0.mk (hb); replace HI0 := Aside0.mk (hi); (try clear hb); (try clear hb2); (try clear hk); (try clear hi))))
  (try simp only [Act.put, List.setIfInBounds_toArray, List.set_cons_zero, List.set_cons_succ]); go_cut [] (fun wc => ∃ (kq : Nat) (x1000_2 : ByteArray) (x1001_2 : Int) (x1002_2 : Bool) (x1003_2 : Value) (x1004_2 : Int) (x1005_2 : Int), Aside0 (labels_reader_name.j2 kq s0_1 x1000_2 x1001_2 x1002_2 x1003_2 x1004_2 x1005_2 = some (r1, r2, r3, r4, r5, r6, r7)) ∧ Aside0 (kq ≤ k) ∧ Aside0 (IsS71 w0 wc g x1000_2 x1001_2 x1002_2 x1003_2 x1004_2 x1005_2) ∧ Aside0 (KeepBut w wc g none) ∧ Aside0 (Below w0.heap.size w0 wc))
  case first =>
    have H := HC3.out; clear HC3; have H' := Aside0.mk H; clear H; go_wp2
    repeat (go_quiet (fail); try go_wp2)
    go_loopg [4, 5] k (fun kq v4 v5 w' => ∃ (x4_1 : Int) (x5_1 : Bool) (x1000_1 : ByteArray) (x1001_1 : Int) (x1002_1 : Bool) (x1003_1 : Value) (x1004_1 : Int) (x1005_1 : Int), v4 = .int .u8 x4_1 ∧ v5 = .bool x5_1 ∧ Aside0 (labels_reader_name.l0 kq s0_1 x4_1 x5_1 x1000_1 x1001_1 x1002_1 x1003_1 x1004_1 x1005_1 = some (r1, r2, r3, r4, r5, r6, r7)) ∧ Aside0 (kq ≤ k) ∧ Aside0 (IsS71 w0 w' g x1000_1 x1001_1 x1002_1 x1003_1 x1004_1 x1005_1) ∧ Aside0 (KeepBut w w' g none) ∧ Aside0 (Below w0.heap.size w0 w'))
    case atStart => exact ⟨(t201), (t202), (t203), (t204), (t205), (t206), (t207), (t208), zs, zs, H', ⟨Nat.le_refl _⟩, ⟨zi71 HI0.out⟩, ⟨zk HK.out⟩, ⟨zg HB.out (IsS71.ge HI0.out)⟩⟩
    case round =>
      clear H'; (try clear p2); (try clear hcz4_0 hcz4_1 hcz4_2 hcz4_3 hcz4_4 hcz4_5 hfz4_0 hfz4_1 hfz4_2 hfz4_3 hfz4_4 hfz4_5); obtain ⟨x4_1, x5_1, x1000_1, x1001_1, x1002_1, x1003_1, x1004_1, x1005_1, rfl, rfl, HA, HK1, HI0, HK, HB⟩ := hrel
      cases gk with
      | zero => exact absurd HA.out (by simp [labels_reader_name.l0])
      | succ k1 =>
        have H := HA.out; clear HA; simp only [labels_reader_name.l0] at H; have HC6 := Aside0.mk H; clear H; go_upto_region 3 with (fail)
        repeat (go_quiet (fail); go_upto_region 3 with (fail))
        go_cut [21] (fun v21 wc => ∃ (kq : Nat) (x21_5 : Bool), v21 = .bool x21_5 ∧ Aside0 (labels_reader_name.j1 kq s0_1 x4_1 x21_5 x1000_1 x1001_1 x1002_1 x1003_1 x1004_1 x1005_1 = some (r1, r2, r3, r4, r5, r6, r7)) ∧ Aside0 (kq ≤ k1) ∧ Aside0 (IsS71 w0 wc g x1000_1 x1001_1 x1002_1 x1003_1 x1004_1 x1005_1) ∧ Aside0 (KeepBut w wc g none) ∧ Aside0 (Below w0.heap.size w0 wc))
        case first =>
          have H := HC6.out; clear HC6; by_cases c7 : x5_1 = true
          · subst c7
            have H1 : ((labels_named.f x4_1).bind fun t209 => (labels_reader_name.j1 k1 s0_1 x4_1 t209 x1000_1 x1001_1 x1002_1 x1003_1 x1004_1 x1005_1)) = some (r1, r2, r3, r4, r5, r6, r7) := by rw [if_pos rfl] at H; exact H
            clear H; have H := H1; clear H1; replace H := Option.bind_eq_some_iff.mp H; obtain ⟨t209, A80, H⟩ := H; replace H : (labels_reader_name.j1 k1 s0_1 x4_1 t209 x1000_1 x1001_1 x1002_1 x1003_1 x1004_1 x1005_1) = some (r1, r2, r3, r4, r5, r6, r7) := H; have A8 := Aside0.mk A80; clear A80; have H' := Aside0.mk H; clear H; go_wp2_with (first | (go_at_call 68; (with_reducible refine (labels_named.calls x4_1 t209 _ A8.out).mono ?_); rintro e w' ⟨rfl, ⟨nd, rfl⟩⟩; (try exact zj)))
            repeat (go_quiet (first | (go_at_call 68; (with_reducible refine (labels_named.calls x4_1 t209 _ A8.out).mono ?_); rintro e w' ⟨rfl, ⟨nd, rfl⟩⟩; (try exact zj))); try go_wp2_with (first | (go_at_call 68; (with_reducible refine (labels_named.calls x4_1 t209 _ A8.out).mono ?_); rintro e w' ⟨rfl, ⟨nd, rfl⟩⟩; (try exact zj))))
            go_meet
            case rel => exact ⟨_, (t209), zs, H', ⟨by have := HK1.out; first | omega | exact Nat.le_refl _⟩, ⟨zi71 HI0.out⟩, ⟨zk HK.out⟩, ⟨zg HB.out (IsS71.ge HI0.out)⟩⟩
          · replace c7 := Bool.eq_false_iff.mpr c7
            subst c7; have H1 : (labels_reader_name.j1 k1 s0_1 x4_1 false x1000_1 x1001_1 x1002_1 x1003_1 x1004_1 x1005_1) = some (r1, r2, r3, r4, r5, r6, r7) := by rw [if_neg (show ¬ (false = true) by decide)] at H; exact H
            clear H; have H := H1; clear H1; have H' := Aside0.mk H; clear H; go_wp2
            repeat (go_quiet (fail); try go_wp2)
            go_meet
            case rel => exact ⟨_, (false), zs, H', ⟨by have := HK1.out; first | omega | exact Nat.le_refl _⟩, ⟨zi71 HI0.out⟩, ⟨zk HK.out⟩, ⟨zg HB.out (IsS71.ge HI0.out)⟩⟩
        case rest =>
          clear HC6; (try clear p2); (try clear c7); (try clear hcz4_0 hcz4_1 hcz4_2 hcz4_3 hcz4_4 hcz4_5 hfz4_0 hfz4_1 hfz4_2 hfz4_3 hfz4_4 hfz4_5); (try clear p2); obtain ⟨kq, x21_5, rfl, HA, HJ5, HI0, HK, HB⟩ := hcut
          cases kq with
          | zero => exact absurd HA.out (by simp [labels_reader_name.j1])
          | succ kj5 =>
            have H := HA.out; clear HA; simp only [labels_reader_name.j1] at H; by_cases c9 : x21_5 = true
            · subst c9
              have H1 : (if x1001_1 = s0_1 then ((labels_letter.f x4_1).bind fun t210 => (if t210 = true then (if (wrap64 (x1001_1 - s0_1)) = 64 then (labels_reader_name.j2 kj5 s0_1 x1000_1 x1001_1 x1002_1 x1003_1 x1004_1 x1005_1) else ((labels_reader_here.f x1000_1 (wrap64 (x1001_1 + 1)) x1002_1 x1003_1 x1004_1 x1005_1).bind fun bt211 => (labels_reader_name.l0 kj5 s0_1 bt211.1 bt211.2.1 bt211.2.2.1 bt211.2.2.2.1 bt211.2.2.2.2.1 bt211.2.2.2.2.2.1 bt211.2.2.2.2.2.2.1 bt211.2.2.2.2.2.2.2))) else (labels_reader_name.j2 kj5 s0_1 x1000_1 x1001_1 x1002_1 x1003_1 x1004_1 x1005_1))) else (if (wrap64 (x1001_1 - s0_1)) = 64 then (labels_reader_name.j2 kj5 s0_1 x1000_1 x1001_1 x1002_1 x1003_1 x1004_1 x1005_1) else ((labels_reader_here.f x1000_1 (wrap64 (x1001_1 + 1)) x1002_1 x1003_1 x1004_1 x1005_1).bind fun bt219 => (labels_reader_name.l0 kj5 s0_1 bt219.1 bt219.2.1 bt219.2.2.1 bt219.2.2.2.1 bt219.2.2.2.2.1 bt219.2.2.2.2.2.1 bt219.2.2.2.2.2.2.1 bt219.2.2.2.2.2.2.2)))) = some (r1, r2, r3, r4, r5, r6, r7) := by rw [if_pos rfl] at H; exact H
              clear H; have H := H1; clear H1; by_cases c10 : x1001_1 = s0_1
              · rw [if_pos c10] at H
                have c10b0 : (x1001_1 == s0_1) = true := beq_iff_eq.mpr c10; have c10b1 : (x1001_1 != s0_1) = false := bne_eq_false_iff_eq.mpr c10; clear c10; replace H := Option.bind_eq_some_iff.mp H; obtain ⟨t210, A110, H⟩ := H; replace H : (if t210 = true then (if (wrap64 (x1001_1 - s0_1)) = 64 then (labels_reader_name.j2 kj5 s0_1 x1000_1 x1001_1 x1002_1 x1003_1 x1004_1 x1005_1) else ((labels_reader_here.f x1000_1 (wrap64 (x1001_1 + 1)) x1002_1 x1003_1 x1004_1 x1005_1).bind fun bt211 => (labels_reader_name.l0 kj5 s0_1 bt211.1 bt211.2.1 bt211.2.2.1 bt211.2.2.2.1 bt211.2.2.2.2.1 bt211.2.2.2.2.2.1 bt211.2.2.2.2.2.2.1 bt211.2.2.2.2.2.2.2))) else (labels_reader_name.j2 kj5 s0_1 x1000_1 x1001_1 x1002_1 x1003_1 x1004_1 x1005_1)) = some (r1, r2, r3, r4, r5, r6, r7) := H; have A11 := Aside0.mk A110; clear A110; by_cases c12 : t210 = true
                · subst c12
                  have H1 : (if (wrap64 (x1001_1 - s0_1)) = 64 then (labels_reader_name.j2 kj5 s0_1 x1000_1 x1001_1 x1002_1 x1003_1 x1004_1 x1005_1) else ((labels_reader_here.f x1000_1 (wrap64 (x1001_1 + 1)) x1002_1 x1003_1 x1004_1 x1005_1).bind fun bt211 => (labels_reader_name.l0 kj5 s0_1 bt211.1 bt211.2.1 bt211.2.2.1 bt211.2.2.2.1 bt211.2.2.2.2.1 bt211.2.2.2.2.2.1 bt211.2.2.2.2.2.2.1 bt211.2.2.2.2.2.2.2))) = some (r1, r2, r3, r4, r5, r6, r7) := by rw [if_pos rfl] at H; exact H
                  clear H; have H := H1; clear H1; by_cases c13 : (wrap64 (x1001_1 - s0_1)) = 64
                  · rw [if_pos c13] at H
                    have c13b0 : ((wrap64 (x1001_1 - s0_1)) == 64) = true := beq_iff_eq.mpr c13; have c13b1 : ((wrap64 (x1001_1 - s0_1)) != 64) = false := bne_eq_false_iff_eq.mpr c13; clear c13; have H' := Aside0.mk H; clear H; obtain ⟨hcz14_0, hcz14_1, hcz14_2, hcz14_3, hcz14_4, hcz14_5, hfz14_0, hfz14_1, hfz14_2, hfz14_3, hfz14_4, hfz14_5⟩ := zc71 HI0.out; go_wp2_with (first | (go_at_call 67; (with_reducible refine (labels_letter.calls x4_1 true _ A11.out).mono ?_); rintro e w' ⟨rfl, ⟨nd, rfl⟩⟩; (try exact zj)))
                    repeat (go_quiet (first | (go_at_call 67; (with_reducible refine (labels_letter.calls x4_1 true _ A11.out).mono ?_); rintro e w' ⟨rfl, ⟨nd, rfl⟩⟩; (try exact zj))); try go_wp2_with (first | (go_at_call 67; (with_reducible refine (labels_letter.calls x4_1 true _ A11.out).mono ?_); rintro e w' ⟨rfl, ⟨nd, rfl⟩⟩; (try exact zj))))
                    go_meet
                    case rel => exact ⟨_, (x1000_1), (x1001_1), (x1002_1), (x1003_1), (x1004_1), (x1005_1), H', ⟨by have := HK1.out; have := HJ5.out; first | omega | exact Nat.le_refl _⟩, ⟨zi71 HI0.out⟩, ⟨zk HK.out⟩, ⟨zg HB.out (IsS71.ge HI0.out)⟩⟩
                  · rw [if_neg c13] at H
                    have c13b0 : ((wrap64 (x1001_1 - s0_1)) == 64) = false := beq_eq_false_iff_ne.mpr c13; have c13b1 : ((wrap64 (x1001_1 - s0_1)) != 64) = true := bne_iff_ne.mpr c13; replace H := Option.bind_eq_some_iff.mp H; obtain ⟨⟨t211, t212, t213, t214, t215, t216, t217, t218⟩, A150, H⟩ := H; replace H : (labels_reader_name.l0 kj5 s0_1 t211 t212 t213 t214 t215 t216 t217 t218) = some (r1, r2, r3, r4, r5, r6, r7) := H; have A15 := Aside0.mk A150; clear A150; have H' := Aside0.mk H; clear H; obtain ⟨hcz16_0, hcz16_1, hcz16_2, hcz16_3, hcz16_4, hcz16_5, hfz16_0, hfz16_1, hfz16_2, hfz16_3, hfz16_4, hfz16_5⟩ := zc71 HI0.out
                    go_wp2_with (first | (go_at_call 67; (with_reducible refine (labels_letter.calls x4_1 true _ A11.out).mono ?_); rintro e w' ⟨rfl, ⟨nd, rfl⟩⟩; (try exact zj)) | (go_at_call 80; (with_reducible refine (labels_reader_here.calls g x1000_1 (wrap64 (x1001_1 + 1)) x1002_1 x1003_1 x1004_1 x1005_1 t211 t212 t213 t214 t215 t216 t217 t218 w0 _ ?side1 ?side2 A15.out).mono ?_); (case side1 => exact zi71 HI0.out); (case side2 => exact zg HB.out (IsS71.ge HI0.out)); rintro e w17 ⟨rfl, hi, hb, hk⟩; replace HK := Aside0.mk (zt HK.out hk); replace HB := Aside0.mk (hb); replace HI0 := Aside0.mk (hi); (try clear hb); (try clear hb2); (try clear hk); (try clear hi)))
                    repeat (go_quiet (first | (go_at_call 67; (with_reducible refine (labels_letter.calls x4_1 true _ A11.out).mono ?_); rintro e w' ⟨rfl, ⟨nd, rfl⟩⟩; (try exact zj)) | (go_at_call 80; (with_reducible refine (labels_reader_here.calls g x1000_1 (wrap64 (x1001_1 + 1)) x1002_1 x1003_1 x1004_1 x1005_1 t211 t212 t213 t214 t215 t216 t217 t218 w0 _ ?side1 ?side2 A15.out).mono ?_); (case side1 => exact zi71 HI0.out); (case side2 => exact zg HB.out (IsS71.ge HI0.out)); rintro e w17 ⟨rfl, hi, hb, hk⟩; replace HK := Aside0.mk (zt HK.out hk); replace HB := Aside0.mk (hb); replace HI0 := Aside0.mk (hi); (try clear hb); (try clear hb2); (try clear hk); (try clear hi))); try go_wp2_with (first | (go_at_call 67; (with_reducible refine (labels_letter.calls x4_1 true _ A11.out).mono ?_); rintro e w' ⟨rfl, ⟨nd, rfl⟩⟩; (try exact zj)) | (go_at_call 80; (with_reducible refine (labels_reader_here.calls g x1000_1 (wrap64 (x1001_1 + 1)) x1002_1 x1003_1 x1004_1 x1005_1 t211 t212 t213 t214 t215 t216 t217 t218 w0 _ ?side1 ?side2 A15.out).mono ?_); (case side1 => exact zi71 HI0.out); (case side2 => exact zg HB.out (IsS71.ge HI0.out)); rintro e w17 ⟨rfl, hi, hb, hk⟩; replace HK := Aside0.mk (zt HK.out hk); replace HB := Aside0.mk (hb); replace HI0 := Aside0.mk (hi); (try clear hb); (try clear hb2); (try clear hk); (try clear hi))))
                    go_roundg kj5
                    case measure => have := HK1.out; have := HJ5.out; omega
                    case rel => exact ⟨(t211), (t212), (t213), (t214), (t215), (t216), (t217), (t218), zs, zs, H', ⟨by have := HK1.out; have := HJ5.out; omega⟩, ⟨zi71 HI0.out⟩, ⟨zk HK.out⟩, ⟨zg HB.out (IsS71.ge HI0.out)⟩⟩
                · replace c12 := Bool.eq_false_iff.mpr c12
                  subst c12; have H1 : (labels_reader_name.j2 kj5 s0_1 x1000_1 x1001_1 x1002_1 x1003_1 x1004_1 x1005_1) = some (r1, r2, r3, r4, r5, r6, r7) := by rw [if_neg (show ¬ (false = true) by decide)] at H; exact H
                  clear H; have H := H1; clear H1; have H' := Aside0.mk H; clear H; obtain ⟨hcz18_0, hcz18_1, hcz18_2, hcz18_3, hcz18_4, hcz18_5, hfz18_0, hfz18_1, hfz18_2, hfz18_3, hfz18_4, hfz18_5⟩ := zc71 HI0.out; go_wp2_with (first | (go_at_call 67; (with_reducible refine (labels_letter.calls x4_1 false _ A11.out).mono ?_); rintro e w' ⟨rfl, ⟨nd, rfl⟩⟩; (try exact zj)))
                  repeat (go_quiet (first | (go_at_call 67; (with_reducible refine (labels_letter.calls x4_1 false _ A11.out).mono ?_); rintro e w' ⟨rfl, ⟨nd, rfl⟩⟩; (try exact zj))); try go_wp2_with (first | (go_at_call 67; (with_reducible refine (labels_letter.calls x4_1 false _ A11.out).mono ?_); rintro e w' ⟨rfl, ⟨nd, rfl⟩⟩; (try exact zj))))
                  go_meet
                  case rel => exact ⟨_, (x1000_1), (x1001_1), (x1002_1), (x1003_1), (x1004_1), (x1005_1), H', ⟨by have := HK1.out; have := HJ5.out; first | omega | exact Nat.le_refl _⟩, ⟨zi71 HI0.out⟩, ⟨zk HK.out⟩, ⟨zg HB.out (IsS71.ge HI0.out)⟩⟩
              · rw [if_neg c10] at H
                have c10b0 : (x1001_1 == s0_1) = false := beq_eq_false_iff_ne.mpr c10; have c10b1 : (x1001_1 != s0_1) = true := bne_iff_ne.mpr c10; by_cases c19 : (wrap64 (x1001_1 - s0_1)) = 64
                · rw [if_pos c19] at H
                  have c19b0 : ((wrap64 (x1001_1 - s0_1)) == 64) = true := beq_iff_eq.mpr c19; have c19b1 : ((wrap64 (x1001_1 - s0_1)) != 64) = false := bne_eq_false_iff_eq.mpr c19; clear c19; have H' := Aside0.mk H; clear H; obtain ⟨hcz20_0, hcz20_1, hcz20_2, hcz20_3, hcz20_4, hcz20_5, hfz20_0, hfz20_1, hfz20_2, hfz20_3, hfz20_4, hfz20_5⟩ := zc71 HI0.out; go_wp2
                  repeat (go_quiet (fail); try go_wp2)
                  go_meet
                  case rel => exact ⟨_, (x1000_1), (x1001_1), (x1002_1), (x1003_1), (x1004_1), (x1005_1), H', ⟨by have := HK1.out; have := HJ5.out; first | omega | exact Nat.le_refl _⟩, ⟨zi71 HI0.out⟩, ⟨zk HK.out⟩, ⟨zg HB.out (IsS71.ge HI0.out)⟩⟩
                · rw [if_neg c19] at H
                  have c19b0 : ((wrap64 (x1001_1 - s0_1)) == 64) = false := beq_eq_false_iff_ne.mpr c19; have c19b1 : ((wrap64 (x1001_1 - s0_1)) != 64) = true := bne_iff_ne.mpr c19; replace H := Option.bind_eq_some_iff.mp H; obtain ⟨⟨t219, t220, t221, t222, t223, t224, t225, t226⟩, A210, H⟩ := H; replace H : (labels_reader_name.l0 kj5 s0_1 t219 t220 t221 t222 t223 t224 t225 t226) = some (r1, r2, r3, r4, r5, r6, r7) := H; have A21 := Aside0.mk A210; clear A210; have H' := Aside0.mk H; clear H; obtain ⟨hcz22_0, hcz22_1, hcz22_2, hcz22_3, hcz22_4, hcz22_5, hfz22_0, hfz22_1, hfz22_2, hfz22_3, hfz22_4, hfz22_5⟩ := zc71 HI0.out; go_wp2_with (first | (go_at_call 80; (with_reducible refine (labels_reader_here.calls g x1000_1 (wrap64 (x1001_1 + 1)) x1002_1 x1003_1 x1004_1 x1005_1 t219 t220 t221 t222 t223 t224 t225 t226 w0 _ ?side1 ?side2 A21.out).mono ?_); (case side1 => exact zi71 HI0.out); (case side2 => exact zg HB.out (IsS71.ge HI0.out)); rintro e w23 ⟨rfl, hi, hb, hk⟩; replace HK := Aside0.mk (zt HK.out hk); replace HB := Aside0.mk (hb); replace HI0 := Aside0.mk (hi); (try clear hb); (try clear hb2); (try clear hk); (try clear hi)))
                  repeat (go_quiet (first | (go_at_call 80; (with_reducible refine (labels_reader_here.calls g x1000_1 (wrap64 (x1001_1 + 1)) x1002_1 x1003_1 x1004_1 x1005_1 t219 t220 t221 t222 t223 t224 t225 t226 w0 _ ?side1 ?side2 A21.out).mono ?_); (case side1 => exact zi71 HI0.out); (case side2 => exact zg HB.out (IsS71.ge HI0.out)); rintro e w23 ⟨rfl, hi, hb, hk⟩; replace HK := Aside0.mk (zt HK.out hk); replace HB := Aside0.mk (hb); replace HI0 := Aside0.mk (hi); (try clear hb); (try clear hb2); (try clear hk); (try clear hi))); try go_wp2_with (first | (go_at_call 80; (with_reducible refine (labels_reader_here.calls g x1000_1 (wrap64 (x1001_1 + 1)) x1002_1 x1003_1 x1004_1 x1005_1 t219 t220 t221 t222 t223 t224 t225 t226 w0 _ ?side1 ?side2 A21.out).mono ?_); (case side1 => exact zi71 HI0.out); (case side2 => exact zg HB.out (IsS71.ge HI0.out)); rintro e w23 ⟨rfl, hi, hb, hk⟩; replace HK := Aside0.mk (zt HK.out hk); replace HB := Aside0.mk (hb); replace HI0 := Aside0.mk (hi); (try clear hb); (try clear hb2); (try clear hk); (try clear hi))))
                  go_roundg kj5
                  case measure => have := HK1.out; have := HJ5.out; omega
                  case rel => exact ⟨(t219), (t220), (t221), (t222), (t223), (t224), (t225), (t226), zs, zs, H', ⟨by have := HK1.out; have := HJ5.out; omega⟩, ⟨zi71 HI0.out⟩, ⟨zk HK.out⟩, ⟨zg HB.out (IsS71.ge HI0.out)⟩⟩
            · replace c9 := Bool.eq_false_iff.mpr c9
              subst c9; have H1 : (labels_reader_name.j2 kj5 s0_1 x1000_1 x1001_1 x1002_1 x1003_1 x1004_1 x1005_1) = some (r1, r2, r3, r4, r5, r6, r7) := by rw [if_neg (show ¬ (false = true) by decide)] at H; exact H
              clear H; have H := H1; clear H1; have H' := Aside0.mk H; clear H; go_wp2
              repeat (go_quiet (fail); try go_wp2)
              go_meet
              case rel => exact ⟨_, (x1000_1), (x1001_1), (x1002_1), (x1003_1), (x1004_1), (x1005_1), H', ⟨by have := HK1.out; have := HJ5.out; first | omega | exact Nat.le_refl _⟩, ⟨zi71 HI0.out⟩, ⟨zk HK.out⟩, ⟨zg HB.out (IsS71.ge HI0.out)⟩⟩
  case rest =>
    clear HC3; (try clear c1); (try clear p2); (try clear p6); (try clear c7); (try clear c9); (try clear c10); (try clear c10b0); (try clear c10b1); (try clear c12); (try clear c13); (try clear c13b0); (try clear c13b1); (try clear c19); (try clear c19b0); (try clear c19b1); (try clear hcz14_0 hcz14_1 hcz14_2 hcz14_3 hcz14_4 hcz14_5 hcz16_0 hcz16_1 hcz16_2 hcz16_3 hcz16_4 hcz16_5 hcz18_0 hcz18_1 hcz18_2 hcz18_3 hcz18_4 hcz18_5 hcz20_0 hcz20_1 hcz20_2 hcz20_3 hcz20_4 hcz20_5 hcz22_0 hcz22_1 hcz22_2 hcz22_3 hcz22_4 hcz22_5 hcz4_0 hcz4_1 hcz4_2 hcz4_3 hcz4_4 hcz4_5 hfz14_0 hfz14_1 hfz14_2 hfz14_3 hfz14_4 hfz14_5 hfz16_0 hfz16_1 hfz16_2 hfz16_3 hfz16_4 hfz16_5 hfz18_0 hfz18_1 hfz18_2 hfz18_3 hfz18_4 hfz18_5 hfz20_0 hfz20_1 hfz20_2 hfz20_3 hfz20_4 hfz20_5 hfz22_0 hfz22_1 hfz22_2 hfz22_3 hfz22_4 hfz22_5 hfz4_0 hfz4_1 hfz4_2 hfz4_3 hfz4_4 hfz4_5); (try clear p2)
    obtain ⟨kq, x1000_2, x1001_2, x1002_2, x1003_2, x1004_2, x1005_2, HA, HJ2, HI0, HK, HB⟩ := hcut
    cases kq with
    | zero => exact absurd HA.out (by simp [labels_reader_name.j2])
    | succ kj2 =>
      have H := HA.out; clear HA; simp only [labels_reader_name.j2] at H; replace H := Option.bind_eq_some_iff.mp H; obtain ⟨⟨t227, t228, t229, t230, t231, t232, t233, t234⟩, A240, H⟩ := H; replace H : (if t230 = s0_1 then ((labels_reader_fail.f t229 t230 t231 t232 t233 t234 120 t230).bind fun bt235 => (if 0 ≤ s0_1 then (if s0_1 ≤ bt235.2.1 then (if bt235.2.1 ≤ (bt235.1.size : Int) then (some (bt235.1.extract (s0_1 : Int).toNat (bt235.2.1 : Int).toNat, bt235.1, bt235.2.1, bt235.2.2.1, bt235.2.2.2.1, bt235.2.2.2.2.1, bt235.2.2.2.2.2)) else (none)) else (none)) else (none))) else (if t228 = true then ((labels_named.f t227).bind fun t241 => (if t241 = true then ((labels_reader_fail.f t229 t230 t231 t232 t233 t234 120 t230).bind fun bt242 => (if 0 ≤ s0_1 then (if s0_1 ≤ bt242.2.1 then (if bt242.2.1 ≤ (bt242.1.size : Int) then (some (bt242.1.extract (s0_1 : Int).toNat (bt242.2.1 : Int).toNat, bt242.1, bt242.2.1, bt242.2.2.1, bt242.2.2.2.1, bt242.2.2.2.2.1, bt242.2.2.2.2.2)) else (none)) else (none)) else (none))) else (if 0 ≤ s0_1 then (if s0_1 ≤ t230 then (if t230 ≤ (t229.size : Int) then (some (t229.extract (s0_1 : Int).toNat (t230 : Int).toNat, t229, t230, t231, t232, t233, t234)) else (none)) else (none)) else (none)))) else (if 0 ≤ s0_1 then (if s0_1 ≤ t230 then (if t230 ≤ (t229.size : Int) then (some (t229.extract (s0_1 : Int).toNat (t230 : Int).toNat, t229, t230, t231, t232, t233, t234)) else (none)) else (none)) else (none)))) = some (r1, r2, r3, r4, r5, r6, r7) := H; have A24 := Aside0.mk A240; clear A240; by_cases c25 : t230 = s0_1
      · rw [if_pos c25] at H
        have c25b0 : (t230 == s0_1) = true := beq_iff_eq.mpr c25; have c25b1 : (t230 != s0_1) = false := bne_eq_false_iff_eq.mpr c25; clear c25; replace H := Option.bind_eq_some_iff.mp H; obtain ⟨⟨t235, t236, t237, t238, t239, t240⟩, A260, H⟩ := H; replace H : (if 0 ≤ s0_1 then (if s0_1 ≤ t236 then (if t236 ≤ (t235.size : Int) then (some (t235.extract (s0_1 : Int).toNat (t236 : Int).toNat, t235, t236, t237, t238, t239, t240)) else (none)) else (none)) else (none)) = some (r1, r2, r3, r4, r5, r6, r7) := H; have A26 := Aside0.mk A260; clear A260; by_cases c27 : 0 ≤ s0_1
        · rw [if_pos c27] at H
          have c27b0 := eq_true c27; have c27b1 : decide (0 ≤ s0_1) = true := decide_eq_true c27; clear c27; by_cases c28 : s0_1 ≤ t236
          · rw [if_pos c28] at H
            have c28b0 := eq_true c28; have c28b1 : decide (s0_1 ≤ t236) = true := decide_eq_true c28; clear c28; by_cases c29 : t236 ≤ (t235.size : Int)
            · rw [if_pos c29] at H
              have c29b0 := eq_true c29; have c29b1 : decide (t236 ≤ (t235.size : Int)) = true := decide_eq_true c29; clear c29; simp only [Option.some.injEq, Prod.mk.injEq] at H; obtain ⟨rfl, rfl, rfl, rfl, rfl, rfl, rfl⟩ := H
              go_wp2_with (first | (go_at_call 80; (with_reducible refine (labels_reader_here.calls g x1000_2 x1001_2 x1002_2 x1003_2 x1004_2 x1005_2 t227 t228 t229 t230 t231 t232 t233 t234 w0 _ ?side1 ?side2 A24.out).mono ?_); (case side1 => exact zi71 HI0.out); (case side2 => exact zg HB.out (IsS71.ge HI0.out)); rintro e w30 ⟨rfl, hi, hb, hk⟩; replace HK := Aside0.mk (zt HK.out hk); replace HB := Aside0.mk (hb); replace HI0 := Aside0.mk (hi); (try clear hb); (try clear hb2); (try clear hk); (try clear hi); obtain ⟨hcz31_0, hcz31_1, hcz31_2, hcz31_3, hcz31_4, hcz31_5, hfz31_0, hfz31_1, hfz31_2, hfz31_3, hfz31_4, hfz31_5⟩ := zc71 HI0.out) | (go_at_call 82; (with_reducible refine (labels_reader_fail.calls g t229 t230 t231 t232 t233 t234 120 t230 t235 t236 t237 t238 t239 t240 w0 _ ?side1 ?side2 A26.out).mono ?_); (case side1 => exact zi71 HI0.out); (case side2 => exact zg HB.out (IsS71.ge HI0.out)); rintro e w32 ⟨rfl, hi, hb, hk⟩; replace HK := Aside0.mk (zt HK.out hk); replace HB := Aside0.mk (hb); replace HI0 := Aside0.mk (hi); (try clear hb); (try clear hb2); (try clear hk); (try clear hi); obtain ⟨hcz33_0, hcz33_1, hcz33_2, hcz33_3, hcz33_4, hcz33_5, hfz33_0, hfz33_1, hfz33_2, hfz33_3, hfz33_4, hfz33_5⟩ := zc71 HI0.out))
              repeat (go_quiet (first | (go_at_call 80; (with_reducible refine (labels_reader_here.calls g x1000_2 x1001_2 x1002_2 x1003_2 x1004_2 x1005_2 t227 t228 t229 t230 t231 t232 t233 t234 w0 _ ?side1 ?side2 A24.out).mono ?_); (case side1 => exact zi71 HI0.out); (case side2 => exact zg HB.out (IsS71.ge HI0.out)); rintro e w30 ⟨rfl, hi, hb, hk⟩; replace HK := Aside0.mk (zt HK.out hk); replace HB := Aside0.mk (hb); replace HI0 := Aside0.mk (hi); (try clear hb); (try clear hb2); (try clear hk); (try clear hi); obtain ⟨hcz31_0, hcz31_1, hcz31_2, hcz31_3, hcz31_4, hcz31_5, hfz31_0, hfz31_1, hfz31_2, hfz31_3, hfz31_4, hfz31_5⟩ := zc71 HI0.out) | (go_at_call 82; (with_reducible refine (labels_reader_fail.calls g t229 t230 t231 t232 t233 t234 120 t230 t235 t236 t237 t238 t239 t240 w0 _ ?side1 ?side2 A26.out).mono ?_); (case side1 => exact zi71 HI0.out); (case side2 => exact zg HB.out (IsS71.ge HI0.out)); rintro e w32 ⟨rfl, hi, hb, hk⟩; replace HK := Aside0.mk (zt HK.out hk); replace HB := Aside0.mk (hb); replace HI0 := Aside0.mk (hi); (try clear hb); (try clear hb2); (try clear hk); (try clear hi); obtain ⟨hcz33_0, hcz33_1, hcz33_2, hcz33_3, hcz33_4, hcz33_5, hfz33_0, hfz33_1, hfz33_2, hfz33_3, hfz33_4, hfz33_5⟩ := zc71 HI0.out)); try go_wp2_with (first | (go_at_call 80; (with_reducible refine (labels_reader_here.calls g x1000_2 x1001_2 x1002_2 x1003_2 x1004_2 x1005_2 t227 t228 t229 t230 t231 t232 t233 t234 w0 _ ?side1 ?side2 A24.out).mono ?_); (case side1 => exact zi71 HI0.out); (case side2 => exact zg HB.out (IsS71.ge HI0.out)); rintro e w30 ⟨rfl, hi, hb, hk⟩; replace HK := Aside0.mk (zt HK.out hk); replace HB := Aside0.mk (hb); replace HI0 := Aside0.mk (hi); (try clear hb); (try clear hb2); (try clear hk); (try clear hi); obtain ⟨hcz31_0, hcz31_1, hcz31_2, hcz31_3, hcz31_4, hcz31_5, hfz31_0, hfz31_1, hfz31_2, hfz31_3, hfz31_4, hfz31_5⟩ := zc71 HI0.out) | (go_at_call 82; (with_reducible refine (labels_reader_fail.calls g t229 t230 t231 t232 t233 t234 120 t230 t235 t236 t237 t238 t239 t240 w0 _ ?side1 ?side2 A26.out).mono ?_); (case side1 => exact zi71 HI0.out); (case side2 => exact zg HB.out (IsS71.ge HI0.out)); rintro e w32 ⟨rfl, hi, hb, hk⟩; replace HK := Aside0.mk (zt HK.out hk); replace HB := Aside0.mk (hb); replace HI0 := Aside0.mk (hi); (try clear hb); (try clear hb2); (try clear hk); (try clear hi); obtain ⟨hcz33_0, hcz33_1, hcz33_2, hcz33_3, hcz33_4, hcz33_5, hfz33_0, hfz33_1, hfz33_2, hfz33_3, hfz33_4, hfz33_5⟩ := zc71 HI0.out)))
              go_ret
              exact ⟨ze, zi71 HI0.out, zg HB.out (IsS71.ge HI0.out), zk HK.out⟩
            · rw [if_neg c29] at H
              exact absurd H (by simp)
          · rw [if_neg c28] at H
            exact absurd H (by simp)
        · rw [if_neg c27] at H
          exact absurd H (by simp)
      · rw [if_neg c25] at H
        have c25b0 : (t230 == s0_1) = false := beq_eq_false_iff_ne.mpr c25; have c25b1 : (t230 != s0_1) = true := bne_iff_ne.mpr c25; by_cases c34 : t228 = true
        · subst c34
          have H1 : ((labels_named.f t227).bind fun t241 => (if t241 = true then ((labels_reader_fail.f t229 t230 t231 t232 t233 t234 120 t230).bind fun bt242 => (if 0 ≤ s0_1 then (if s0_1 ≤ bt242.2.1 then (if bt242.2.1 ≤ (bt242.1.size : Int) then (some (bt242.1.extract (s0_1 : Int).toNat (bt242.2.1 : Int).toNat, bt242.1, bt242.2.1, bt242.2.2.1, bt242.2.2.2.1, bt242.2.2.2.2.1, bt242.2.2.2.2.2)) else (none)) else (none)) else (none))) else (if 0 ≤ s0_1 then (if s0_1 ≤ t230 then (if t230 ≤ (t229.size : Int) then (some (t229.extract (s0_1 : Int).toNat (t230 : Int).toNat, t229, t230, t231, t232, t233, t234)) else (none)) else (none)) else (none)))) = some (r1, r2, r3, r4, r5, r6, r7) := by rw [if_pos rfl] at H; exact H
          clear H; have H := H1; clear H1; replace H := Option.bind_eq_some_iff.mp H; obtain ⟨t241, A350, H⟩ := H; replace H : (if t241 = true then ((labels_reader_fail.f t229 t230 t231 t232 t233 t234 120 t230).bind fun bt242 => (if 0 ≤ s0_1 then (if s0_1 ≤ bt242.2.1 then (if bt242.2.1 ≤ (bt242.1.size : Int) then (some (bt242.1.extract (s0_1 : Int).toNat (bt242.2.1 : Int).toNat, bt242.1, bt242.2.1, bt242.2.2.1, bt242.2.2.2.1, bt242.2.2.2.2.1, bt242.2.2.2.2.2)) else (none)) else (none)) else (none))) else (if 0 ≤ s0_1 then (if s0_1 ≤ t230 then (if t230 ≤ (t229.size : Int) then (some (t229.extract (s0_1 : Int).toNat (t230 : Int).toNat, t229, t230, t231, t232, t233, t234)) else (none)) else (none)) else (none))) = some (r1, r2, r3, r4, r5, r6, r7) := H; have A35 := Aside0.mk A350; clear A350; by_cases c36 : t241 = true
          · subst c36
            have H1 : ((labels_reader_fail.f t229 t230 t231 t232 t233 t234 120 t230).bind fun bt242 => (if 0 ≤ s0_1 then (if s0_1 ≤ bt242.2.1 then (if bt242.2.1 ≤ (bt242.1.size : Int) then (some (bt242.1.extract (s0_1 : Int).toNat (bt242.2.1 : Int).toNat, bt242.1, bt242.2.1, bt242.2.2.1, bt242.2.2.2.1, bt242.2.2.2.2.1, bt242.2.2.2.2.2)) else (none)) else (none)) else (none))) = some (r1, r2, r3, r4, r5, r6, r7) := by rw [if_pos rfl] at H; exact H
            clear H; have H := H1; clear H1; replace H := Option.bind_eq_some_iff.mp H; obtain ⟨⟨t242, t243, t244, t245, t246, t247⟩, A370, H⟩ := H; replace H : (if 0 ≤ s0_1 then (if s0_1 ≤ t243 then (if t243 ≤ (t242.size : Int) then (some (t242.extract (s0_1 : Int).toNat (t243 : Int).toNat, t242, t243, t244, t245, t246, t247)) else (none)) else (none)) else (none)) = some (r1, r2, r3, r4, r5, r6, r7) := H; have A37 := Aside0.mk A370; clear A370; by_cases c38 : 0 ≤ s0_1
            · rw [if_pos c38] at H
              have c38b0 := eq_true c38; have c38b1 : decide (0 ≤ s0_1) = true := decide_eq_true c38; clear c38; by_cases c39 : s0_1 ≤ t243
              · rw [if_pos c39] at H
                have c39b0 := eq_true c39; have c39b1 : decide (s0_1 ≤ t243) = true := decide_eq_true c39; clear c39; by_cases c40 : t243 ≤ (t242.size : Int)
                · rw [if_pos c40] at H
                  have c40b0 := eq_true c40; have c40b1 : decide (t243 ≤ (t242.size : Int)) = true := decide_eq_true c40; clear c40; simp only [Option.some.injEq, Prod.mk.injEq] at H; obtain ⟨rfl, rfl, rfl, rfl, rfl, rfl, rfl⟩ := H
                  go_wp2_with (first | (go_at_call 80; (with_reducible refine (labels_reader_here.calls g x1000_2 x1001_2 x1002_2 x1003_2 x1004_2 x1005_2 t227 true t229 t230 t231 t232 t233 t234 w0 _ ?side1 ?side2 A24.out).mono ?_); (case side1 => exact zi71 HI0.out); (case side2 => exact zg HB.out (IsS71.ge HI0.out)); rintro e w41 ⟨rfl, hi, hb, hk⟩; replace HK := Aside0.mk (zt HK.out hk); replace HB := Aside0.mk (hb); replace HI0 := Aside0.mk (hi); (try clear hb); (try clear hb2); (try clear hk); (try clear hi); obtain ⟨hcz42_0, hcz42_1, hcz42_2, hcz42_3, hcz42_4, hcz42_5, hfz42_0, hfz42_1, hfz42_2, hfz42_3, hfz42_4, hfz42_5⟩ := zc71 HI0.out) | (go_at_call 68; (with_reducible refine (labels_named.calls t227 true _ A35.out).mono ?_); rintro e w' ⟨rfl, ⟨nd, rfl⟩⟩; (try exact zj)) | (go_at_call 82; (with_reducible refine (labels_reader_fail.calls g t229 t230 t231 t232 t233 t234 120 t230 t242 t243 t244 t245 t246 t247 w0 _ ?side1 ?side2 A37.out).mono ?_); (case side1 => exact zi71 HI0.out); (case side2 => exact zg HB.out (IsS71.ge HI0.out)); rintro e w43 ⟨rfl, hi, hb, hk⟩; replace HK := Aside0.mk (zt HK.out hk); replace HB := Aside0.mk (hb); replace HI0 := Aside0.mk (hi); (try clear hb); (try clear hb2); (try clear hk); (try clear hi); obtain ⟨hcz44_0, hcz44_1, hcz44_2, hcz44_3, hcz44_4, hcz44_5, hfz44_0, hfz44_1, hfz44_2, hfz44_3, hfz44_4, hfz44_5⟩ := zc71 HI0.out))
                  repeat (go_quiet (first | (go_at_call 80; (with_reducible refine (labels_reader_here.calls g x1000_2 x1001_2 x1002_2 x1003_2 x1004_2 x1005_2 t227 true t229 t230 t231 t232 t233 t234 w0 _ ?side1 ?side2 A24.out).mono ?_); (case side1 => exact zi71 HI0.out); (case side2 => exact zg HB.out (IsS71.ge HI0.out)); rintro e w41 ⟨rfl, hi, hb, hk⟩; replace HK := Aside0.mk (zt HK.out hk); replace HB := Aside0.mk (hb); replace HI0 := Aside0.mk (hi); (try clear hb); (try clear hb2); (try clear hk); (try clear hi); obtain ⟨hcz42_0, hcz42_1, hcz42_2, hcz42_3, hcz42_4, hcz42_5, hfz42_0, hfz42_1, hfz42_2, hfz42_3, hfz42_4, hfz42_5⟩ := zc71 HI0.out) | (go_at_call 68; (with_reducible refine (labels_named.calls t227 true _ A35.out).mono ?_); rintro e w' ⟨rfl, ⟨nd, rfl⟩⟩; (try exact zj)) | (go_at_call 82; (with_reducible refine (labels_reader_fail.calls g t229 t230 t231 t232 t233 t234 120 t230 t242 t243 t244 t245 t246 t247 w0 _ ?side1 ?side2 A37.out).mono ?_); (case side1 => exact zi71 HI0.out); (case side2 => exact zg HB.out (IsS71.ge HI0.out)); rintro e w43 ⟨rfl, hi, hb, hk⟩; replace HK := Aside0.mk (zt HK.out hk); replace HB := Aside0.mk (hb); replace HI0 := Aside0.mk (hi); (try clear hb); (try clear hb2); (try clear hk); (try clear hi); obtain ⟨hcz44_0, hcz44_1, hcz44_2, hcz44_3, hcz44_4, hcz44_5, hfz44_0, hfz44_1, hfz44_2, hfz44_3, hfz44_4, hfz44_5⟩ := zc71 HI0.out)); try go_wp2_with (first | (go_at_call 80; (with_reducible refine (labels_reader_here.calls g x1000_2 x1001_2 x1002_2 x1003_2 x1004_2 x1005_2 t227 true t229 t230 t231 t232 t233 t234 w0 _ ?side1 ?side2 A24.out).mono ?_); (case side1 => exact zi71 HI0.out); (case side2 => exact zg HB.out (IsS71.ge HI0.out)); rintro e w41 ⟨rfl, hi, hb, hk⟩; replace HK := Aside0.mk (zt HK.out hk); replace HB := Aside0.mk (hb); replace HI0 := Aside0.mk (hi); (try clear hb); (try clear hb2); (try clear hk); (try clear hi); obtain ⟨hcz42_0, hcz42_1, hcz42_2, hcz42_3, hcz42_4, hcz42_5, hfz42_0, hfz42_1, hfz42_2, hfz42_3, hfz42_4, hfz42_5⟩ := zc71 HI0.out) | (go_at_call 68; (with_reducible refine (labels_named.calls t227 true _ A35.out).mono ?_); rintro e w' ⟨rfl, ⟨nd, rfl⟩⟩; (try exact zj)) | (go_at_call 82; (with_reducible refine (labels_reader_fail.calls g t229 t230 t231 t232 t233 t234 120 t230 t242 t243 t244 t245 t246 t247 w0 _ ?side1 ?side2 A37.out).mono ?_); (case side1 => exact zi71 HI0.out); (case side2 => exact zg HB.out (IsS71.ge HI0.out)); rintro e w43 ⟨rfl, hi, hb, hk⟩; replace HK := Aside0.mk (zt HK.out hk); replace HB := Aside0.mk (hb); replace HI0 := Aside0.mk (hi); (try clear hb); (try clear hb2); (try clear hk); (try clear hi); obtain ⟨hcz44_0, hcz44_1, hcz44_2, hcz44_3, hcz44_4, hcz44_5, hfz44_0, hfz44_1, hfz44_2, hfz44_3, hfz44_4, hfz44_5⟩ := zc71 HI0.out)))
                  go_ret
                  exact ⟨ze, zi71 HI0.out, zg HB.out (IsS71.ge HI0.out), zk HK.out⟩
                · rw [if_neg c40] at H
                  exact absurd H (by simp)
              · rw [if_neg c39] at H
                exact absurd H (by simp)
            · rw [if_neg c38] at H
              exact absurd H (by simp)
          · replace c36 := Bool.eq_false_iff.mpr c36
            subst c36; have H1 : (if 0 ≤ s0_1 then (if s0_1 ≤ t230 then (if t230 ≤ (t229.size : Int) then (some (t229.extract (s0_1 : Int).toNat (t230 : Int).toNat, t229, t230, t231, t232, t233, t234)) else (none)) else (none)) else (none)) = some (r1, r2, r3, r4, r5, r6, r7) := by rw [if_neg (show ¬ (false = true) by decide)] at H; exact H
            clear H; have H := H1; clear H1; by_cases c45 : 0 ≤ s0_1
            · rw [if_pos c45] at H
              have c45b0 := eq_true c45; have c45b1 : decide (0 ≤ s0_1) = true := decide_eq_true c45; clear c45; by_cases c46 : s0_1 ≤ t230
              · rw [if_pos c46] at H
                have c46b0 := eq_true c46; have c46b1 : decide (s0_1 ≤ t230) = true := decide_eq_true c46; clear c46; by_cases c47 : t230 ≤ (t229.size : Int)
                · rw [if_pos c47] at H
                  have c47b0 := eq_true c47; have c47b1 : decide (t230 ≤ (t229.size : Int)) = true := decide_eq_true c47; clear c47; simp only [Option.some.injEq, Prod.mk.injEq] at H; obtain ⟨rfl, rfl, rfl, rfl, rfl, rfl, rfl⟩ := H; go_wp2_with (first | (go_at_call 80; (with_reducible refine (labels_reader_here.calls g x1000_2 x1001_2 x1002_2 x1003_2 x1004_2 x1005_2 t227 true t229 t230 t231 t232 t233 t234 w0 _ ?side1 ?side2 A24.out).mono ?_); (case side1 => exact zi71 HI0.out); (case side2 => exact zg HB.out (IsS71.ge HI0.out)); rintro e w48 ⟨rfl, hi, hb, hk⟩; replace HK := Aside0.mk (zt HK.out hk); replace HB := Aside0.mk (hb); replace HI0 := Aside0.mk (hi); (try clear hb); (try clear hb2); (try clear hk); (try clear hi); obtain ⟨hcz49_0, hcz49_1, hcz49_2, hcz49_3, hcz49_4, hcz49_5, hfz49_0, hfz49_1, hfz49_2, hfz49_3, hfz49_4, hfz49_5⟩ := zc71 HI0.out) | (go_at_call 68; (with_reducible refine (labels_named.calls t227 false _ A35.out).mono ?_); rintro e w' ⟨rfl, ⟨nd, rfl⟩⟩; (try exact zj)))
                  repeat (go_quiet (first | (go_at_call 80; (with_reducible refine (labels_reader_here.calls g x1000_2 x1001_2 x1002_2 x1003_2 x1004_2 x1005_2 t227 true t229 t230 t231 t232 t233 t234 w0 _ ?side1 ?side2 A24.out).mono ?_); (case side1 => exact zi71 HI0.out); (case side2 => exact zg HB.out (IsS71.ge HI0.out)); rintro e w48 ⟨rfl, hi, hb, hk⟩; replace HK := Aside0.mk (zt HK.out hk); replace HB := Aside0.mk (hb); replace HI0 := Aside0.mk (hi); (try clear hb); (try clear hb2); (try clear hk); (try clear hi); obtain ⟨hcz49_0, hcz49_1, hcz49_2, hcz49_3, hcz49_4, hcz49_5, hfz49_0, hfz49_1, hfz49_2, hfz49_3, hfz49_4, hfz49_5⟩ := zc71 HI0.out) | (go_at_call 68; (with_reducible refine (labels_named.calls t227 false _ A35.out).mono ?_); rintro e w' ⟨rfl, ⟨nd, rfl⟩⟩; (try exact zj))); try go_wp2_with (first | (go_at_call 80; (with_reducible refine (labels_reader_here.calls g x1000_2 x1001_2 x1002_2 x1003_2 x1004_2 x1005_2 t227 true t229 t230 t231 t232 t233 t234 w0 _ ?side1 ?side2 A24.out).mono ?_); (case side1 => exact zi71 HI0.out); (case side2 => exact zg HB.out (IsS71.ge HI0.out)); rintro e w48 ⟨rfl, hi, hb, hk⟩; replace HK := Aside0.mk (zt HK.out hk); replace HB := Aside0.mk (hb); replace HI0 := Aside0.mk (hi); (try clear hb); (try clear hb2); (try clear hk); (try clear hi); obtain ⟨hcz49_0, hcz49_1, hcz49_2, hcz49_3, hcz49_4, hcz49_5, hfz49_0, hfz49_1, hfz49_2, hfz49_3, hfz49_4, hfz49_5⟩ := zc71 HI0.out) | (go_at_call 68; (with_reducible refine (labels_named.calls t227 false _ A35.out).mono ?_); rintro e w' ⟨rfl, ⟨nd, rfl⟩⟩; (try exact zj))))
                  go_ret
                  exact ⟨ze, zi71 HI0.out, zg HB.out (IsS71.ge HI0.out), zk HK.out⟩
                · rw [if_neg c47] at H
                  exact absurd H (by simp)
              · rw [if_neg c46] at H
                exact absurd H (by simp)
            · rw [if_neg c45] at H
              exact absurd H (by simp)
        · replace c34 := Bool.eq_false_iff.mpr c34
          subst c34; have H1 : (if 0 ≤ s0_1 then (if s0_1 ≤ t230 then (if t230 ≤ (t229.size : Int) then (some (t229.extract (s0_1 : Int).toNat (t230 : Int).toNat, t229, t230, t231, t232, t233, t234)) else (none)) else (none)) else (none)) = some (r1, r2, r3, r4, r5, r6, r7) := by rw [if_neg (show ¬ (false = true) by decide)] at H; exact H
          clear H; have H := H1; clear H1; by_cases c50 : 0 ≤ s0_1
          · rw [if_pos c50] at H
            have c50b0 := eq_true c50; have c50b1 : decide (0 ≤ s0_1) = true := decide_eq_true c50; clear c50; by_cases c51 : s0_1 ≤ t230
            · rw [if_pos c51] at H
              have c51b0 := eq_true c51; have c51b1 : decide (s0_1 ≤ t230) = true := decide_eq_true c51; clear c51; by_cases c52 : t230 ≤ (t229.size : Int)
              · rw [if_pos c52] at H
                have c52b0 := eq_true c52; have c52b1 : decide (t230 ≤ (t229.size : Int)) = true := decide_eq_true c52; clear c52; simp only [Option.some.injEq, Prod.mk.injEq] at H; obtain ⟨rfl, rfl, rfl, rfl, rfl, rfl, rfl⟩ := H; go_wp2_with (first | (go_at_call 80; (with_reducible refine (labels_reader_here.calls g x1000_2 x1001_2 x1002_2 x1003_2 x1004_2 x1005_2 t227 false t229 t230 t231 t232 t233 t234 w0 _ ?side1 ?side2 A24.out).mono ?_); (case side1 => exact zi71 HI0.out); (case side2 => exact zg HB.out (IsS71.ge HI0.out)); rintro e w53 ⟨rfl, hi, hb, hk⟩; replace HK := Aside0.mk (zt HK.out hk); replace HB := Aside0.mk (hb); replace HI0 := Aside0.mk (hi); (try clear hb); (try clear hb2); (try clear hk); (try clear hi); obtain ⟨hcz54_0, hcz54_1, hcz54_2, hcz54_3, hcz54_4, hcz54_5, hfz54_0, hfz54_1, hfz54_2, hfz54_3, hfz54_4, hfz54_5⟩ := zc71 HI0.out))
                repeat (go_quiet (first | (go_at_call 80; (with_reducible refine (labels_reader_here.calls g x1000_2 x1001_2 x1002_2 x1003_2 x1004_2 x1005_2 t227 false t229 t230 t231 t232 t233 t234 w0 _ ?side1 ?side2 A24.out).mono ?_); (case side1 => exact zi71 HI0.out); (case side2 => exact zg HB.out (IsS71.ge HI0.out)); rintro e w53 ⟨rfl, hi, hb, hk⟩; replace HK := Aside0.mk (zt HK.out hk); replace HB := Aside0.mk (hb); replace HI0 := Aside0.mk (hi); (try clear hb); (try clear hb2); (try clear hk); (try clear hi); obtain ⟨hcz54_0, hcz54_1, hcz54_2, hcz54_3, hcz54_4, hcz54_5, hfz54_0, hfz54_1, hfz54_2, hfz54_3, hfz54_4, hfz54_5⟩ := zc71 HI0.out)); try go_wp2_with (first | (go_at_call 80; (with_reducible refine (labels_reader_here.calls g x1000_2 x1001_2 x1002_2 x1003_2 x1004_2 x1005_2 t227 false t229 t230 t231 t232 t233 t234 w0 _ ?side1 ?side2 A24.out).mono ?_); (case side1 => exact zi71 HI0.out); (case side2 => exact zg HB.out (IsS71.ge HI0.out)); rintro e w53 ⟨rfl, hi, hb, hk⟩; replace HK := Aside0.mk (zt HK.out hk); replace HB := Aside0.mk (hb); replace HI0 := Aside0.mk (hi); (try clear hb); (try clear hb2); (try clear hk); (try clear hi); obtain ⟨hcz54_0, hcz54_1, hcz54_2, hcz54_3, hcz54_4, hcz54_5, hfz54_0, hfz54_1, hfz54_2, hfz54_3, hfz54_4, hfz54_5⟩ := zc71 HI0.out)))
                go_ret
                exact ⟨ze, zi71 HI0.out, zg HB.out (IsS71.ge HI0.out), zk HK.out⟩
              · rw [if_neg c52] at H
                exact absurd H (by simp)
            · rw [if_neg c51] at H
              exact absurd H (by simp)
          · rw [if_neg c50] at H
            exact absurd H (by simp)

def labels_reader_kind.j0 : Nat → Bool → ByteArray → Int → Bool → Value → Int → Int → Option (Int × ByteArray × Int × Bool × Value × Int × Int)
  | 0, _, _, _, _, _, _, _ => none
  | k + 1, x19, x1000, x1001, x1002, x1003, x1004, x1005 => if x19 = true then ((labels_reader_here.f x1000 (wrap64 (x1001 + 1)) x1002 x1003 x1004 x1005).bind fun bt256 => (if bt256.1 = 126 then (some (4, bt256.2.2.1, wrap64 (bt256.2.2.2.1 + 1), bt256.2.2.2.2.1, bt256.2.2.2.2.2.1, bt256.2.2.2.2.2.2.1, bt256.2.2.2.2.2.2.2)) else ((labels_reader_take.f bt256.2.2.1 bt256.2.2.2.1 bt256.2.2.2.2.1 bt256.2.2.2.2.2.1 bt256.2.2.2.2.2.2.1 bt256.2.2.2.2.2.2.2 61).bind fun bt264 => (some (2, bt264.2.1, bt264.2.2.1, bt264.2.2.2.1, bt264.2.2.2.2.1, bt264.2.2.2.2.2.1, bt264.2.2.2.2.2.2))))) else ((labels_reader_take.f x1000 x1001 x1002 x1003 x1004 x1005 61).bind fun bt271 => (some (1, bt271.2.1, bt271.2.2.1, bt271.2.2.2.1, bt271.2.2.2.2.1, bt271.2.2.2.2.2.1, bt271.2.2.2.2.2.2)))
def labels_reader_kind.f (k : Nat) (s0_0 : ByteArray) (s0_1 : Int) (s0_2 : Bool) (s0_3 : Value) (s0_4 : Int) (s0_5 : Int) : Option (Int × ByteArray × Int × Bool × Value × Int × Int) := (labels_reader_here.f s0_0 s0_1 s0_2 s0_3 s0_4 s0_5).bind fun bt248 => (if bt248.1 = 33 then (labels_reader_kind.j0 k bt248.2.2.2.2.1 bt248.2.2.1 bt248.2.2.2.1 bt248.2.2.2.2.1 bt248.2.2.2.2.2.1 bt248.2.2.2.2.2.2.1 bt248.2.2.2.2.2.2.2) else (labels_reader_kind.j0 k false bt248.2.2.1 bt248.2.2.2.1 bt248.2.2.2.2.1 bt248.2.2.2.2.2.1 bt248.2.2.2.2.2.2.1 bt248.2.2.2.2.2.2.2))
set_option maxHeartbeats 8000000 in
set_option maxRecDepth 100000 in
theorem labels_reader_kind.calls (k : Nat) (g : Nat) (s0_0 : ByteArray) (s0_1 : Int) (s0_2 : Bool) (s0_3 : Value) (s0_4 : Int) (s0_5 : Int) (r1 : Int) (r2 : ByteArray) (r3 : Int) (r4 : Bool) (r5 : Value) (r6 : Int) (r7 : Int) (w0 w : World) (hI : IsS71 w0 w g s0_0 s0_1 s0_2 s0_3 s0_4 s0_5) (hB : Below w0.heap.size w0 w) (h : labels_reader_kind.f k s0_0 s0_1 s0_2 s0_3 s0_4 s0_5 = some (r1, r2, r3, r4, r5, r6, r7)) :
    Calls Tryd.prog 95 #[.pointer (some ⟨g, 0, none⟩)] w fun e w' => e = .returned (.int .u8 r1) ∧ IsS71 w0 w' g r2 r3 r4 r5 r6 r7 ∧ Below w0.heap.size w0 w' ∧ KeepBut w w' g none := by
  have HI0 := Aside0.mk hI; have HK := Aside0.mk (KeepBut.refl w g none); have HL := Aside0.mk hB.size; clear hI; have HW0 := Aside0.mk hB.size; have HB := Aside0.mk hB; clear hB; have H : ((labels_reader_here.f s0_0 s0_1 s0_2 s0_3 s0_4 s0_5).bind fun bt248 => (if bt248.1 = 33 then (labels_reader_kind.j0 k bt248.2.2.2.2.1 bt248.2.2.1 bt248.2.2.2.1 bt248.2.2.2.2.1 bt248.2.2.2.2.2.1 bt248.2.2.2.2.2.2.1 bt248.2.2.2.2.2.2.2) else (labels_reader_kind.j0 k false bt248.2.2.1 bt248.2.2.2.1 bt248.2.2.2.2.1 bt248.2.2.2.2.2.1 bt248.2.2.2.2.2.2.1 bt248.2.2.2.2.2.2.2))) = some (r1, r2, r3, r4, r5, r6, r7) := h; clear h; replace H := Option.bind_eq_some_iff.mp H; obtain ⟨⟨t248, t249, t250, t251, t252, t253, t254, t255⟩, A20, H⟩ := H; replace H : (if t248 = 33 then (labels_reader_kind.j0 k t252 t250 t251 t252 t253 t254 t255) else (labels_reader_kind.j0 k false t250 t251 t252 t253 t254 t255)) = some (r1, r2, r3, r4, r5, r6, r7) := H; have A2 := Aside0.mk A20; clear A20; have HC3 := Aside0.mk H; clear H; go_enter Tryd.func95, Tryd.ntmps95
  go_upto_region 2 with (first | ((with_reducible refine gate_callee (f := 80) rfl ?_); refine goesL_ (some 9) rfl rfl Tryd.func80 (by kernel_rfl) rfl #[.pointer (some ⟨g, 0, none⟩)] rfl zl ?_; (with_reducible refine (labels_reader_here.calls g s0_0 s0_1 s0_2 s0_3 s0_4 s0_5 t248 t249 t250 t251 t252 t253 t254 t255 w0 _ ?side1 ?side2 A2.out).mono ?_); (case side1 => exact zi71 HI0.out); (case side2 => exact zg HB.out (IsS71.ge HI0.out)); rintro e w4 ⟨rfl, hi, hb, hk⟩; refine ⟨_, rfl, ?_⟩; replace HK := Aside0.mk (zt HK.out hk); replace HB := Aside0.mk (hb); replace HI0 := Aside0.mk (hi); (try clear hb); (try clear hb2); (try clear hk); (try clear hi)))
  (try simp only [Act.put, List.setIfInBounds_toArray, List.set_cons_zero, List.set_cons_succ]); go_cut [19] (fun v19 wc => ∃ (kq : Nat) (x19_2 : Bool), v19 = .bool x19_2 ∧ Aside0 (labels_reader_kind.j0 kq x19_2 t250 t251 t252 t253 t254 t255 = some (r1, r2, r3, r4, r5, r6, r7)) ∧ Aside0 (kq ≤ k) ∧ Aside0 (IsS71 w0 wc g t250 t251 t252 t253 t254 t255) ∧ Aside0 (KeepBut w wc g none) ∧ Aside0 (Below w0.heap.size w0 wc))
  case first =>
    have H := HC3.out; clear HC3; by_cases c5 : t248 = 33
    · rw [if_pos c5] at H
      have c5b0 : (t248 == 33) = true := beq_iff_eq.mpr c5; have c5b1 : (t248 != 33) = false := bne_eq_false_iff_eq.mpr c5; clear c5; (first | rw [c5b0] | (simp only [i64_w, i32_w]; rw [c5b0]) | skip); have H' := Aside0.mk H; clear H; obtain ⟨hcz6_0, hcz6_1, hcz6_2, hcz6_3, hcz6_4, hcz6_5, hfz6_0, hfz6_1, hfz6_2, hfz6_3, hfz6_4, hfz6_5⟩ := zc71 HI0.out; go_wp2; go_meet
      case rel => exact ⟨_, (t252), zs, H', ⟨by first | omega | exact Nat.le_refl _⟩, ⟨zi71 HI0.out⟩, ⟨zk HK.out⟩, ⟨zg HB.out (IsS71.ge HI0.out)⟩⟩
    · rw [if_neg c5] at H
      have c5b0 : (t248 == 33) = false := beq_eq_false_iff_ne.mpr c5; have c5b1 : (t248 != 33) = true := bne_iff_ne.mpr c5; (first | rw [c5b0] | (simp only [i64_w, i32_w]; rw [c5b0]) | skip); have H' := Aside0.mk H; clear H; go_wp2; go_meet
      case rel => exact ⟨_, (false), zs, H', ⟨by first | omega | exact Nat.le_refl _⟩, ⟨zi71 HI0.out⟩, ⟨zk HK.out⟩, ⟨zg HB.out (IsS71.ge HI0.out)⟩⟩
  case rest =>
    clear HC3; (try clear p2); (try clear c5); (try clear c5b0); (try clear c5b1); (try clear hcz6_0 hcz6_1 hcz6_2 hcz6_3 hcz6_4 hcz6_5 hfz6_0 hfz6_1 hfz6_2 hfz6_3 hfz6_4 hfz6_5); obtain ⟨kq, x19_2, rfl, HA, HJ2, HI0, HK, HB⟩ := hcut
    cases kq with
    | zero => exact absurd HA.out (by simp [labels_reader_kind.j0])
    | succ kj2 =>
      have H := HA.out; clear HA; simp only [labels_reader_kind.j0] at H; by_cases c7 : x19_2 = true
      · subst c7
        have H1 : ((labels_reader_here.f t250 (wrap64 (t251 + 1)) t252 t253 t254 t255).bind fun bt256 => (if bt256.1 = 126 then (some (4, bt256.2.2.1, wrap64 (bt256.2.2.2.1 + 1), bt256.2.2.2.2.1, bt256.2.2.2.2.2.1, bt256.2.2.2.2.2.2.1, bt256.2.2.2.2.2.2.2)) else ((labels_reader_take.f bt256.2.2.1 bt256.2.2.2.1 bt256.2.2.2.2.1 bt256.2.2.2.2.2.1 bt256.2.2.2.2.2.2.1 bt256.2.2.2.2.2.2.2 61).bind fun bt264 => (some (2, bt264.2.1, bt264.2.2.1, bt264.2.2.2.1, bt264.2.2.2.2.1, bt264.2.2.2.2.2.1, bt264.2.2.2.2.2.2))))) = some (r1, r2, r3, r4, r5, r6, r7) := by rw [if_pos rfl] at H; exact H
        clear H; have H := H1; clear H1; replace H := Option.bind_eq_some_iff.mp H; obtain ⟨⟨t256, t257, t258, t259, t260, t261, t262, t263⟩, A80, H⟩ := H; replace H : (if t256 = 126 then (some (4, t258, wrap64 (t259 + 1), t260, t261, t262, t263)) else ((labels_reader_take.f t258 t259 t260 t261 t262 t263 61).bind fun bt264 => (some (2, bt264.2.1, bt264.2.2.1, bt264.2.2.2.1, bt264.2.2.2.2.1, bt264.2.2.2.2.2.1, bt264.2.2.2.2.2.2)))) = some (r1, r2, r3, r4, r5, r6, r7) := H; have A8 := Aside0.mk A80; clear A80; by_cases c9 : t256 = 126
        · rw [if_pos c9] at H
          have c9b0 : (t256 == 126) = true := beq_iff_eq.mpr c9; have c9b1 : (t256 != 126) = false := bne_eq_false_iff_eq.mpr c9; clear c9; simp only [Option.some.injEq, Prod.mk.injEq] at H; obtain ⟨rfl, rfl, rfl, rfl, rfl, rfl, rfl⟩ := H; obtain ⟨hcz10_0, hcz10_1, hcz10_2, hcz10_3, hcz10_4, hcz10_5, hfz10_0, hfz10_1, hfz10_2, hfz10_3, hfz10_4, hfz10_5⟩ := zc71 HI0.out
          go_wp2_with (first | ((with_reducible refine gate_callee (f := 80) rfl ?_); refine goesL_ (some 29) rfl rfl Tryd.func80 (by kernel_rfl) rfl #[.pointer (some ⟨g, 0, none⟩)] rfl zl ?_; (with_reducible refine (labels_reader_here.calls g t250 (wrap64 (t251 + 1)) t252 t253 t254 t255 t256 t257 t258 t259 t260 t261 t262 t263 w0 _ ?side1 ?side2 A8.out).mono ?_); (case side1 => exact zi71 HI0.out); (case side2 => exact zg HB.out (IsS71.ge HI0.out)); rintro e w11 ⟨rfl, hi, hb, hk⟩; refine ⟨_, rfl, ?_⟩; replace HK := Aside0.mk (zt HK.out hk); replace HB := Aside0.mk (hb); replace HI0 := Aside0.mk (hi); (try clear hb); (try clear hb2); (try clear hk); (try clear hi); obtain ⟨hcz12_0, hcz12_1, hcz12_2, hcz12_3, hcz12_4, hcz12_5, hfz12_0, hfz12_1, hfz12_2, hfz12_3, hfz12_4, hfz12_5⟩ := zc71 HI0.out))
          go_ret
          exact ⟨ze, zi71 HI0.out, zg HB.out (IsS71.ge HI0.out), zk HK.out⟩
        · rw [if_neg c9] at H
          have c9b0 : (t256 == 126) = false := beq_eq_false_iff_ne.mpr c9; have c9b1 : (t256 != 126) = true := bne_iff_ne.mpr c9; replace H := Option.bind_eq_some_iff.mp H; obtain ⟨⟨t264, t265, t266, t267, t268, t269, t270⟩, A130, H⟩ := H; replace H : (some (2, t265, t266, t267, t268, t269, t270)) = some (r1, r2, r3, r4, r5, r6, r7) := H; have A13 := Aside0.mk A130; clear A130; simp only [Option.some.injEq, Prod.mk.injEq] at H; obtain ⟨rfl, rfl, rfl, rfl, rfl, rfl, rfl⟩ := H; obtain ⟨hcz14_0, hcz14_1, hcz14_2, hcz14_3, hcz14_4, hcz14_5, hfz14_0, hfz14_1, hfz14_2, hfz14_3, hfz14_4, hfz14_5⟩ := zc71 HI0.out
          go_wp2_with (first | ((with_reducible refine gate_callee (f := 80) rfl ?_); refine goesL_ (some 29) rfl rfl Tryd.func80 (by kernel_rfl) rfl #[.pointer (some ⟨g, 0, none⟩)] rfl zl ?_; (with_reducible refine (labels_reader_here.calls g t250 (wrap64 (t251 + 1)) t252 t253 t254 t255 t256 t257 t258 t259 t260 t261 t262 t263 w0 _ ?side1 ?side2 A8.out).mono ?_); (case side1 => exact zi71 HI0.out); (case side2 => exact zg HB.out (IsS71.ge HI0.out)); rintro e w15 ⟨rfl, hi, hb, hk⟩; refine ⟨_, rfl, ?_⟩; replace HK := Aside0.mk (zt HK.out hk); replace HB := Aside0.mk (hb); replace HI0 := Aside0.mk (hi); (try clear hb); (try clear hb2); (try clear hk); (try clear hi)) | ((with_reducible refine gate_callee (f := 79) rfl ?_); refine goesL_ (some 42) rfl rfl Tryd.func79 (by kernel_rfl) rfl #[.pointer (some ⟨g, 0, none⟩), .int .u8 61] rfl zl ?_; (with_reducible refine (labels_reader_take.calls g t258 t259 t260 t261 t262 t263 61 t264 t265 t266 t267 t268 t269 t270 w0 _ ?side1 ?side2 A13.out).mono ?_); (case side1 => exact zi71 HI0.out); (case side2 => exact zg HB.out (IsS71.ge HI0.out)); rintro e w16 ⟨rfl, hi, hb, hk⟩; refine ⟨_, rfl, ?_⟩; replace HK := Aside0.mk (zt HK.out hk); replace HB := Aside0.mk (hb); replace HI0 := Aside0.mk (hi); (try clear hb); (try clear hb2); (try clear hk); (try clear hi)))
          go_ret
          exact ⟨ze, zi71 HI0.out, zg HB.out (IsS71.ge HI0.out), zk HK.out⟩
      · replace c7 := Bool.eq_false_iff.mpr c7
        subst c7; have H1 : ((labels_reader_take.f t250 t251 t252 t253 t254 t255 61).bind fun bt271 => (some (1, bt271.2.1, bt271.2.2.1, bt271.2.2.2.1, bt271.2.2.2.2.1, bt271.2.2.2.2.2.1, bt271.2.2.2.2.2.2))) = some (r1, r2, r3, r4, r5, r6, r7) := by rw [if_neg (show ¬ (false = true) by decide)] at H; exact H
        clear H; have H := H1; clear H1; replace H := Option.bind_eq_some_iff.mp H; obtain ⟨⟨t271, t272, t273, t274, t275, t276, t277⟩, A170, H⟩ := H; replace H : (some (1, t272, t273, t274, t275, t276, t277)) = some (r1, r2, r3, r4, r5, r6, r7) := H; have A17 := Aside0.mk A170; clear A170; simp only [Option.some.injEq, Prod.mk.injEq] at H; obtain ⟨rfl, rfl, rfl, rfl, rfl, rfl, rfl⟩ := H; go_wp2_with (first | ((with_reducible refine gate_callee (f := 79) rfl ?_); refine goesL_ (some 44) rfl rfl Tryd.func79 (by kernel_rfl) rfl #[.pointer (some ⟨g, 0, none⟩), .int .u8 61] rfl zl ?_; (with_reducible refine (labels_reader_take.calls g t250 t251 t252 t253 t254 t255 61 t271 t272 t273 t274 t275 t276 t277 w0 _ ?side1 ?side2 A17.out).mono ?_); (case side1 => exact zi71 HI0.out); (case side2 => exact zg HB.out (IsS71.ge HI0.out)); rintro e w18 ⟨rfl, hi, hb, hk⟩; refine ⟨_, rfl, ?_⟩; replace HK := Aside0.mk (zt HK.out hk); replace HB := Aside0.mk (hb); replace HI0 := Aside0.mk (hi); (try clear hb); (try clear hb2); (try clear hk); (try clear hi)))
        go_ret
        exact ⟨ze, zi71 HI0.out, zg HB.out (IsS71.ge HI0.out), zk HK.out⟩

def labels_rightMatch.f (k : Nat) (a0_0 : Int) (a0_1 : ByteArray) (a0_2 : ByteArray) : Option (Bool) := if a0_0 ≥ 1 then (if a0_0 ≤ 4 then ((labels_Name.f k a0_1).bind fun t545 => (if t545 = true then (if a0_2.toList = ([] : List UInt8) then (some true) else ((labels_Value.f a0_2).bind fun t546 => (some (decide (t546 < 0))))) else (some false))) else (some false)) else (some false)
theorem labels_rightMatch.mono : ∀ a0 a1 a2 k, LeO (labels_rightMatch.f k a0 a1 a2) (labels_rightMatch.f (k + 1) a0 a1 a2) := by
  intro a0 a1 a2 k; unfold labels_rightMatch.f
  repeat' first
      | (with_reducible exact labels_Name.mono _ _)
      | (with_reducible exact LeO.refl _)
      | (with_reducible exact LeO.none _)
      | (with_reducible refine LeO.ite ?_ ?_)
      | (with_reducible refine LeO.bind ?_ (fun _ => ?_))
      | exact labels_Name.mono _ _
      | exact LeO.none _
      | refine LeO.ite ?_ ?_
      | refine LeO.bind ?_ (fun _ => ?_)
set_option maxHeartbeats 8000000 in
set_option maxRecDepth 100000 in
theorem labels_rightMatch.calls (k : Nat) (a0_0 : Int) (a0_1 : ByteArray) (a0_2 : ByteArray) (r : Bool) (w : World) (hG : G w) (h : labels_rightMatch.f k a0_0 a0_1 a0_2 = some r) :
    Calls Tryd.prog 87 #[.agg #[.int .u8 a0_0, .string a0_1, .string a0_2]] w fun e w' => e = .returned (.bool r) ∧ Below w.heap.size w w' := by
  have hu36 := Tryd.underlying36; have HB := Aside0.mk (Below.refl w.heap.size w); have HG := Aside0.mk hG; clear hG; have H : (if a0_0 ≥ 1 then (if a0_0 ≤ 4 then ((labels_Name.f k a0_1).bind fun t545 => (if t545 = true then (if a0_2.toList = ([] : List UInt8) then (some true) else ((labels_Value.f a0_2).bind fun t546 => (some (decide (t546 < 0))))) else (some false))) else (some false)) else (some false)) = some r := h; clear h; by_cases c2 : a0_0 ≥ 1
  · rw [if_pos c2] at H
    have c2b0 : decide (1 ≤ a0_0) = true := decide_eq_true c2; clear c2; by_cases c3 : a0_0 ≤ 4
    · rw [if_pos c3] at H
      have c3b0 : decide (a0_0 ≤ 4) = true := decide_eq_true c3; clear c3; replace H := Option.bind_eq_some_iff.mp H; obtain ⟨t545, A40, H⟩ := H; replace H : (if t545 = true then (if a0_2.toList = ([] : List UInt8) then (some true) else ((labels_Value.f a0_2).bind fun t546 => (some (decide (t546 < 0))))) else (some false)) = some r := H; have A4 := Aside0.mk A40; clear A40; by_cases c5 : t545 = true
      · subst c5
        have H1 : (if a0_2.toList = ([] : List UInt8) then (some true) else ((labels_Value.f a0_2).bind fun t546 => (some (decide (t546 < 0))))) = some r := by rw [if_pos rfl] at H; exact H
        clear H; have H := H1; clear H1; by_cases c6 : a0_2.toList = ([] : List UInt8)
        · rw [if_pos c6] at H
          have c6b0 : (a0_2.toList == ([] : List UInt8)) = true := beq_iff_eq.mpr c6; have c6b1 : (a0_2.toList != ([] : List UInt8)) = false := bne_eq_false_iff_eq.mpr c6; clear c6; obtain rfl := Option.some.inj H; go_enter Tryd.func87, Tryd.ntmps87; go_wp2_with (first | ((with_reducible refine gate_dst (N := 1) rfl ?_); refine box_event ?hg (N := 1) ?hd (cs := #[.int .u8 a0_0, .string a0_1, .string a0_2]) (t := 36) ?hr ?_; (case hd => rfl); (case hg => rfl); (case hr => first | (go_simp; done) | (go_simp; rfl)); intro gb544 hg w7 hbox hb; have BK544 := Aside0.mk (hbox); have GW544 := Aside0.mk ((by rw [hg]; exact (below_size (zb HB.out)) : w.heap.size ≤ gb544)); have GE544 := Aside0.mk ((by rw [hg]; exact (below_size (zb HB.out)) : w.heap.size ≤ gb544)); replace HB := Aside0.mk (below_step (zb HB.out) hb); clear hb hbox hg; have hcz8_0 : w7.cell? ⟨gb544, 0, none⟩ = some (.int .u8 a0_0) := (blk_cell BK544.out 0).trans rfl; have hcz8_1 : w7.cell? ⟨gb544, 1, none⟩ = some (.string a0_1) := (blk_cell BK544.out 1).trans rfl; have hcz8_2 : w7.cell? ⟨gb544, 2, none⟩ = some (.string a0_2) := (blk_cell BK544.out 2).trans rfl; have hfz8_0 := blk_frozen BK544.out 0; have hfz8_1 := blk_frozen BK544.out 1; have hfz8_2 := blk_frozen BK544.out 2) | (go_at_call 30; (with_reducible refine (labels_Name.calls k a0_1 true _ A4.out).mono ?_); rintro e w' ⟨rfl, ⟨nd, rfl⟩⟩))
          go_ret
          exact ⟨ze, zg HB.out GE544.out⟩
        · rw [if_neg c6] at H
          have c6b0 : (a0_2.toList == ([] : List UInt8)) = false := beq_eq_false_iff_ne.mpr c6; have c6b1 : (a0_2.toList != ([] : List UInt8)) = true := bne_iff_ne.mpr c6; replace H := Option.bind_eq_some_iff.mp H; obtain ⟨t546, A90, H⟩ := H; replace H : (some (decide (t546 < 0))) = some r := H; have A9 := Aside0.mk A90; clear A90; obtain rfl := Option.some.inj H; go_enter Tryd.func87, Tryd.ntmps87
          go_wp2_with (first | ((with_reducible refine gate_dst (N := 1) rfl ?_); refine box_event ?hg (N := 1) ?hd (cs := #[.int .u8 a0_0, .string a0_1, .string a0_2]) (t := 36) ?hr ?_; (case hd => rfl); (case hg => rfl); (case hr => first | (go_simp; done) | (go_simp; rfl)); intro gb544 hg w10 hbox hb; have BK544 := Aside0.mk (hbox); have GW544 := Aside0.mk ((by rw [hg]; exact (below_size (zb HB.out)) : w.heap.size ≤ gb544)); have GE544 := Aside0.mk ((by rw [hg]; exact (below_size (zb HB.out)) : w.heap.size ≤ gb544)); replace HB := Aside0.mk (below_step (zb HB.out) hb); clear hb hbox hg; have hcz11_0 : w10.cell? ⟨gb544, 0, none⟩ = some (.int .u8 a0_0) := (blk_cell BK544.out 0).trans rfl; have hcz11_1 : w10.cell? ⟨gb544, 1, none⟩ = some (.string a0_1) := (blk_cell BK544.out 1).trans rfl; have hcz11_2 : w10.cell? ⟨gb544, 2, none⟩ = some (.string a0_2) := (blk_cell BK544.out 2).trans rfl; have hfz11_0 := blk_frozen BK544.out 0; have hfz11_1 := blk_frozen BK544.out 1; have hfz11_2 := blk_frozen BK544.out 2) | (go_at_call 30; (with_reducible refine (labels_Name.calls k a0_1 true _ A4.out).mono ?_); rintro e w' ⟨rfl, ⟨nd, rfl⟩⟩) | (go_at_call 20; (with_reducible refine (labels_Value.calls a0_2 t546 _ ?side1 A9.out).mono ?_); (case side1 => first | exact zG HG.out | exact G.below HG.out (zg HB.out GE544.out)); rintro e w12 ⟨rfl, hb⟩; replace BK544 := Aside0.mk (blk_below (g := gb544) (o := .cells #[.int .u8 a0_0, .string a0_1, .string a0_2] 36 (0, 0)) (by (with_reducible repeat (first | refine blk_drewN ?_ _ | refine blk_drew ?_ | refine blk_alloc ?_ _)); exact BK544.out) hb); replace HB := Aside0.mk (below_step (zg HB.out GE544.out) hb); (try clear hb); (try clear hb2); (try clear hk); (try clear hi)))
          go_ret
          exact ⟨ze, zg HB.out GE544.out⟩
      · replace c5 := Bool.eq_false_iff.mpr c5
        subst c5; have H1 : (some false) = some r := by rw [if_neg (show ¬ (false = true) by decide)] at H; exact H
        clear H; have H := H1; clear H1; obtain rfl := Option.some.inj H; go_enter Tryd.func87, Tryd.ntmps87; go_wp2_with (first | ((with_reducible refine gate_dst (N := 1) rfl ?_); refine box_event ?hg (N := 1) ?hd (cs := #[.int .u8 a0_0, .string a0_1, .string a0_2]) (t := 36) ?hr ?_; (case hd => rfl); (case hg => rfl); (case hr => first | (go_simp; done) | (go_simp; rfl)); intro gb544 hg w13 hbox hb; have BK544 := Aside0.mk (hbox); have GW544 := Aside0.mk ((by rw [hg]; exact (below_size (zb HB.out)) : w.heap.size ≤ gb544)); have GE544 := Aside0.mk ((by rw [hg]; exact (below_size (zb HB.out)) : w.heap.size ≤ gb544)); replace HB := Aside0.mk (below_step (zb HB.out) hb); clear hb hbox hg; have hcz14_0 : w13.cell? ⟨gb544, 0, none⟩ = some (.int .u8 a0_0) := (blk_cell BK544.out 0).trans rfl; have hcz14_1 : w13.cell? ⟨gb544, 1, none⟩ = some (.string a0_1) := (blk_cell BK544.out 1).trans rfl; have hcz14_2 : w13.cell? ⟨gb544, 2, none⟩ = some (.string a0_2) := (blk_cell BK544.out 2).trans rfl; have hfz14_0 := blk_frozen BK544.out 0; have hfz14_1 := blk_frozen BK544.out 1; have hfz14_2 := blk_frozen BK544.out 2) | (go_at_call 30; (with_reducible refine (labels_Name.calls k a0_1 false _ A4.out).mono ?_); rintro e w' ⟨rfl, ⟨nd, rfl⟩⟩))
        go_ret
        exact ⟨ze, zg HB.out GE544.out⟩
    · rw [if_neg c3] at H
      have c3b0 : decide (a0_0 ≤ 4) = false := decide_eq_false c3; clear c3; obtain rfl := Option.some.inj H; go_enter Tryd.func87, Tryd.ntmps87; go_wp2_with (first | ((with_reducible refine gate_dst (N := 1) rfl ?_); refine box_event ?hg (N := 1) ?hd (cs := #[.int .u8 a0_0, .string a0_1, .string a0_2]) (t := 36) ?hr ?_; (case hd => rfl); (case hg => rfl); (case hr => first | (go_simp; done) | (go_simp; rfl)); intro gb544 hg w15 hbox hb; have BK544 := Aside0.mk (hbox); have GW544 := Aside0.mk ((by rw [hg]; exact (below_size (zb HB.out)) : w.heap.size ≤ gb544)); have GE544 := Aside0.mk ((by rw [hg]; exact (below_size (zb HB.out)) : w.heap.size ≤ gb544)); replace HB := Aside0.mk (below_step (zb HB.out) hb); clear hb hbox hg; have hcz16_0 : w15.cell? ⟨gb544, 0, none⟩ = some (.int .u8 a0_0) := (blk_cell BK544.out 0).trans rfl; have hcz16_1 : w15.cell? ⟨gb544, 1, none⟩ = some (.string a0_1) := (blk_cell BK544.out 1).trans rfl; have hcz16_2 : w15.cell? ⟨gb544, 2, none⟩ = some (.string a0_2) := (blk_cell BK544.out 2).trans rfl; have hfz16_0 := blk_frozen BK544.out 0; have hfz16_1 := blk_frozen BK544.out 1; have hfz16_2 := blk_frozen BK544.out 2))
      go_ret
      exact ⟨ze, zg HB.out GE544.out⟩
  · rw [if_neg c2] at H
    have c2b0 : decide (1 ≤ a0_0) = false := decide_eq_false c2; clear c2; obtain rfl := Option.some.inj H; go_enter Tryd.func87, Tryd.ntmps87; go_wp2_with (first | ((with_reducible refine gate_dst (N := 1) rfl ?_); refine box_event ?hg (N := 1) ?hd (cs := #[.int .u8 a0_0, .string a0_1, .string a0_2]) (t := 36) ?hr ?_; (case hd => rfl); (case hg => rfl); (case hr => first | (go_simp; done) | (go_simp; rfl)); intro gb544 hg w17 hbox hb; have BK544 := Aside0.mk (hbox); have GW544 := Aside0.mk ((by rw [hg]; exact (below_size (zb HB.out)) : w.heap.size ≤ gb544)); have GE544 := Aside0.mk ((by rw [hg]; exact (below_size (zb HB.out)) : w.heap.size ≤ gb544)); replace HB := Aside0.mk (below_step (zb HB.out) hb); clear hb hbox hg; have hcz18_0 : w17.cell? ⟨gb544, 0, none⟩ = some (.int .u8 a0_0) := (blk_cell BK544.out 0).trans rfl; have hcz18_1 : w17.cell? ⟨gb544, 1, none⟩ = some (.string a0_1) := (blk_cell BK544.out 1).trans rfl; have hcz18_2 : w17.cell? ⟨gb544, 2, none⟩ = some (.string a0_2) := (blk_cell BK544.out 2).trans rfl; have hfz18_0 := blk_frozen BK544.out 0; have hfz18_1 := blk_frozen BK544.out 1; have hfz18_2 := blk_frozen BK544.out 2))
    go_ret
    exact ⟨ze, zg HB.out GE544.out⟩

def labels_checked.l0 : Nat → List (S36) → Int → Int → Option (Int)
  | 0, _, _, _ => none
  | k + 1, x8, x9, x10 => if x10 < x9 then (if 0 ≤ x10 then (if x10 < (x8.length : Int) then ((labels_rightMatch.f k ((rd_T36 x8 x10).f0) ((rd_T36 x8 x10).f1) ((rd_T36 x8 x10).f2)).bind fun t549 => (if t549 = true then (labels_checked.l0 k x8 x9 (wrap64 (x10 + 1))) else (some 122))) else (none)) else (none)) else (some 0)
def labels_checked.f (k : Nat) (l0 : List (S36)) : Option (Int) := if (l0.length : Int) > 32 then (some 3) else (labels_checked.l0 k l0 (l0.length : Int) 0)
theorem labels_checked.mono_l : ∀ k, (∀ y0 y1 y2, LeO (labels_checked.l0 k y0 y1 y2) (labels_checked.l0 (k + 1) y0 y1 y2))
  | 0 => fun _ _ _ r h => by simp [labels_checked.l0] at h
  | k + 1 => by
    have ih0 := labels_checked.mono_l k
    · intro y0 y1 y2
      unfold labels_checked.l0
      repeat' first
      | (with_reducible exact ih0 _ _ _)
      | (with_reducible exact labels_rightMatch.mono _ _ _ _)
      | (with_reducible exact LeO.refl _)
      | (with_reducible exact LeO.none _)
      | (with_reducible refine LeO.ite ?_ ?_)
      | (with_reducible refine LeO.bind ?_ (fun _ => ?_))
      | exact ih0 _ _ _
      | exact labels_rightMatch.mono _ _ _ _
      | exact LeO.none _
      | refine LeO.ite ?_ ?_
      | refine LeO.bind ?_ (fun _ => ?_)
theorem labels_checked.mono : ∀ a0 k, LeO (labels_checked.f k a0) (labels_checked.f (k + 1) a0) := by
  intro a0 k; have ih0 := labels_checked.mono_l k; unfold labels_checked.f
  repeat' first
      | (with_reducible exact ih0 _ _ _)
      | (with_reducible exact labels_rightMatch.mono _ _ _ _)
      | (with_reducible exact LeO.refl _)
      | (with_reducible exact LeO.none _)
      | (with_reducible refine LeO.ite ?_ ?_)
      | (with_reducible refine LeO.bind ?_ (fun _ => ?_))
      | exact ih0 _ _ _
      | exact labels_rightMatch.mono _ _ _ _
      | exact LeO.none _
      | refine LeO.ite ?_ ?_
      | refine LeO.bind ?_ (fun _ => ?_)
set_option maxHeartbeats 8000000 in
set_option maxRecDepth 100000 in
theorem labels_checked.calls (k : Nat) (A0 : Option Addr) (c0 : Nat) (l0 : List (S36)) (r : Int) (w : World) (hr0 : Kd.C k36 w A0 l0.length l0) (hc0 : l0.length ≤ c0) (hG : G w) (h : labels_checked.f k l0 = some r) :
    Calls Tryd.prog 54 #[.slice A0 l0.length c0] w fun e w' => e = .returned (.int .i64 r) ∧ Below w.heap.size w w' := by
  have hu36 := Tryd.underlying36; have HR0 := Aside0.mk hr0; have HC0 := Aside0.mk hc0; clear hr0 hc0; have HB := Aside0.mk (Below.refl w.heap.size w); have HG := Aside0.mk hG; clear hG; have H : (if (l0.length : Int) > 32 then (some 3) else (labels_checked.l0 k l0 (l0.length : Int) 0)) = some r := h; clear h; by_cases c2 : (l0.length : Int) > 32
  · rw [if_pos c2] at H
    have c2b0 : decide (32 < (l0.length : Int)) = true := decide_eq_true c2; have c2b1 : decide (32 < l0.length) = true := decide_eq_true (by omega); clear c2; obtain rfl := Option.some.inj H; go_enter Tryd.func54, Tryd.ntmps54; go_wp2; go_ret
    exact ⟨ze, zb HB.out⟩
  · rw [if_neg c2] at H
    have c2b0 : decide (32 < (l0.length : Int)) = false := decide_eq_false c2; have c2b1 : decide (32 < l0.length) = false := decide_eq_false (by omega); clear c2; have H' := Aside0.mk H; clear H; go_enter Tryd.func54, Tryd.ntmps54; go_wp2; go_loopg [10] k (fun kq v10 w' => ∃ (x10_1 : Int), v10 = .int .i64 x10_1 ∧ Aside0 (labels_checked.l0 kq l0 (l0.length : Int) x10_1 = some r) ∧ Aside0 (kq ≤ k) ∧ Aside0 (Below w.heap.size w w'))
    case atStart => exact ⟨(0), zs, H', ⟨Nat.le_refl _⟩, ⟨zb HB.out⟩⟩
    case round =>
      clear H'; (try clear c2); (try clear c2b0); (try clear c2b1); (try clear p2); obtain ⟨x10_1, rfl, HA, HK1, HB⟩ := hrel
      cases gk with
      | zero => exact absurd HA.out (by simp [labels_checked.l0])
      | succ k1 =>
        have H := HA.out; clear HA; simp only [labels_checked.l0] at H; by_cases c3 : x10_1 < (l0.length : Int)
        · rw [if_pos c3] at H
          have c3b0 : decide (x10_1 < (l0.length : Int)) = true := decide_eq_true c3; clear c3; by_cases c4 : 0 ≤ x10_1
          · rw [if_pos c4] at H
            have c4b0 : decide (0 ≤ x10_1) = true := decide_eq_true c4; clear c4; by_cases c5 : x10_1 < (l0.length : Int)
            · rw [if_pos c5] at H
              have c5b0 : decide (x10_1 < (l0.length : Int)) = true := decide_eq_true c5; clear c5; replace H := Option.bind_eq_some_iff.mp H; obtain ⟨t549, A60, H⟩ := H; replace H : (if t549 = true then (labels_checked.l0 k1 l0 (l0.length : Int) (wrap64 (x10_1 + 1))) else (some 122)) = some r := H; have A6 := Aside0.mk A60; clear A60; by_cases c7 : t549 = true
              · subst c7
                have H1 : (labels_checked.l0 k1 l0 (l0.length : Int) (wrap64 (x10_1 + 1))) = some r := by rw [if_pos rfl] at H; exact H
                clear H; have H := H1; clear H1; have H' := Aside0.mk H; clear H; obtain ⟨ad547, e547, hx547_0, hx547_1, hx547_2⟩ := at_T36 HR0.out x10_1 zd zd
                cases e547; replace hx547_0 := zw HB.out hx547_0; replace hx547_1 := zw HB.out hx547_1; replace hx547_2 := zw HB.out hx547_2; have p547 := eq_true (zd : 0 ≤ (x10_1 : Int)); have q547 := eq_true (zd : x10_1 < (l0.length : Int))
                go_wp2_with (first | ((with_reducible refine gate_dst (N := 4) rfl ?_); refine box_event ?hg (N := 4) ?hd (cs := #[.int .u8 0, .string (⟨#[]⟩ : ByteArray), .string (⟨#[]⟩ : ByteArray)]) (t := 36) ?hr ?_; (case hd => rfl); (case hg => rfl); (case hr => first | (go_simp; done) | (go_simp; rfl)); intro gb548 hg w8 hbox hb; have BK548 := Aside0.mk (hbox); have GW548 := Aside0.mk ((by rw [hg]; exact (below_size (zb HB.out)) : w.heap.size ≤ gb548)); have GE548 := Aside0.mk ((by rw [hg]; exact (below_size (zb HB.out)) : w.heap.size ≤ gb548)); replace HB := Aside0.mk (below_step (zb HB.out) hb); clear hb hbox hg; have hcz9_0 : w8.cell? ⟨gb548, 0, none⟩ = some (.int .u8 0) := (blk_cell BK548.out 0).trans rfl; have hcz9_1 : w8.cell? ⟨gb548, 1, none⟩ = some (.string (⟨#[]⟩ : ByteArray)) := (blk_cell BK548.out 1).trans rfl; have hcz9_2 : w8.cell? ⟨gb548, 2, none⟩ = some (.string (⟨#[]⟩ : ByteArray)) := (blk_cell BK548.out 2).trans rfl; have hfz9_0 := blk_frozen BK548.out 0; have hfz9_1 := blk_frozen BK548.out 1; have hfz9_2 := blk_frozen BK548.out 2) | ((with_reducible refine gate_callee (f := 87) rfl ?_); refine goesL_ (some 15) rfl rfl Tryd.func87 (by kernel_rfl) rfl #[.agg #[.int .u8 ((rd_T36 l0 x10_1).f0), .string ((rd_T36 l0 x10_1).f1), .string ((rd_T36 l0 x10_1).f2)]] rfl zl ?_; (with_reducible refine (labels_rightMatch.calls k1 ((rd_T36 l0 x10_1).f0) ((rd_T36 l0 x10_1).f1) ((rd_T36 l0 x10_1).f2) true _ ?side1 A6.out).mono ?_); (case side1 => first | exact zG HG.out | exact G.below HG.out (zg HB.out GE548.out)); rintro e w10 ⟨rfl, hb⟩; refine ⟨_, rfl, ?_⟩; replace BK548 := Aside0.mk (blk_below (g := gb548) (o := .cells #[.int .u8 ((rd_T36 l0 x10_1).f0), .string ((rd_T36 l0 x10_1).f1), .string ((rd_T36 l0 x10_1).f2)] 36 (0, 0)) (by (with_reducible repeat (first | refine blk_drewN ?_ _ | refine blk_drew ?_ | refine blk_alloc ?_ _)); refine blk_put (cs := #[.int .u8 ((rd_T36 l0 x10_1).f0), .string ((rd_T36 l0 x10_1).f1), .string (⟨#[]⟩ : ByteArray)]) ?_ 2 _ rfl; (with_reducible repeat (first | refine blk_drewN ?_ _ | refine blk_drew ?_ | refine blk_alloc ?_ _)); refine blk_put (cs := #[.int .u8 ((rd_T36 l0 x10_1).f0), .string (⟨#[]⟩ : ByteArray), .string (⟨#[]⟩ : ByteArray)]) ?_ 1 _ rfl; (with_reducible repeat (first | refine blk_drewN ?_ _ | refine blk_drew ?_ | refine blk_alloc ?_ _)); refine blk_put (cs := #[.int .u8 0, .string (⟨#[]⟩ : ByteArray), .string (⟨#[]⟩ : ByteArray)]) ?_ 0 _ rfl; (with_reducible repeat (first | refine blk_drewN ?_ _ | refine blk_drew ?_ | refine blk_alloc ?_ _)); exact BK548.out) hb); replace HB := Aside0.mk (below_step (zg HB.out GE548.out) hb); (try clear hb); (try clear hb2); (try clear hk); (try clear hi)))
                go_roundg k1
                case measure => have := HK1.out; omega
                case rel => exact ⟨(wrap64 (x10_1 + 1)), zs, H', ⟨by have := HK1.out; omega⟩, ⟨zg HB.out GE548.out⟩⟩
              · replace c7 := Bool.eq_false_iff.mpr c7
                subst c7; have H1 : (some 122) = some r := by rw [if_neg (show ¬ (false = true) by decide)] at H; exact H
                clear H; have H := H1; clear H1; obtain rfl := Option.some.inj H; obtain ⟨ad547, e547, hx547_0, hx547_1, hx547_2⟩ := at_T36 HR0.out x10_1 zd zd
                cases e547; replace hx547_0 := zw HB.out hx547_0; replace hx547_1 := zw HB.out hx547_1; replace hx547_2 := zw HB.out hx547_2; have p547 := eq_true (zd : 0 ≤ (x10_1 : Int)); have q547 := eq_true (zd : x10_1 < (l0.length : Int))
                go_wp2_with (first | ((with_reducible refine gate_dst (N := 4) rfl ?_); refine box_event ?hg (N := 4) ?hd (cs := #[.int .u8 0, .string (⟨#[]⟩ : ByteArray), .string (⟨#[]⟩ : ByteArray)]) (t := 36) ?hr ?_; (case hd => rfl); (case hg => rfl); (case hr => first | (go_simp; done) | (go_simp; rfl)); intro gb548 hg w11 hbox hb; have BK548 := Aside0.mk (hbox); have GW548 := Aside0.mk ((by rw [hg]; exact (below_size (zb HB.out)) : w.heap.size ≤ gb548)); have GE548 := Aside0.mk ((by rw [hg]; exact (below_size (zb HB.out)) : w.heap.size ≤ gb548)); replace HB := Aside0.mk (below_step (zb HB.out) hb); clear hb hbox hg; have hcz12_0 : w11.cell? ⟨gb548, 0, none⟩ = some (.int .u8 0) := (blk_cell BK548.out 0).trans rfl; have hcz12_1 : w11.cell? ⟨gb548, 1, none⟩ = some (.string (⟨#[]⟩ : ByteArray)) := (blk_cell BK548.out 1).trans rfl; have hcz12_2 : w11.cell? ⟨gb548, 2, none⟩ = some (.string (⟨#[]⟩ : ByteArray)) := (blk_cell BK548.out 2).trans rfl; have hfz12_0 := blk_frozen BK548.out 0; have hfz12_1 := blk_frozen BK548.out 1; have hfz12_2 := blk_frozen BK548.out 2) | ((with_reducible refine gate_callee (f := 87) rfl ?_); refine goesL_ (some 15) rfl rfl Tryd.func87 (by kernel_rfl) rfl #[.agg #[.int .u8 ((rd_T36 l0 x10_1).f0), .string ((rd_T36 l0 x10_1).f1), .string ((rd_T36 l0 x10_1).f2)]] rfl zl ?_; (with_reducible refine (labels_rightMatch.calls k1 ((rd_T36 l0 x10_1).f0) ((rd_T36 l0 x10_1).f1) ((rd_T36 l0 x10_1).f2) false _ ?side1 A6.out).mono ?_); (case side1 => first | exact zG HG.out | exact G.below HG.out (zg HB.out GE548.out)); rintro e w13 ⟨rfl, hb⟩; refine ⟨_, rfl, ?_⟩; replace BK548 := Aside0.mk (blk_below (g := gb548) (o := .cells #[.int .u8 ((rd_T36 l0 x10_1).f0), .string ((rd_T36 l0 x10_1).f1), .string ((rd_T36 l0 x10_1).f2)] 36 (0, 0)) (by (with_reducible repeat (first | refine blk_drewN ?_ _ | refine blk_drew ?_ | refine blk_alloc ?_ _)); refine blk_put (cs := #[.int .u8 ((rd_T36 l0 x10_1).f0), .string ((rd_T36 l0 x10_1).f1), .string (⟨#[]⟩ : ByteArray)]) ?_ 2 _ rfl; (with_reducible repeat (first | refine blk_drewN ?_ _ | refine blk_drew ?_ | refine blk_alloc ?_ _)); refine blk_put (cs := #[.int .u8 ((rd_T36 l0 x10_1).f0), .string (⟨#[]⟩ : ByteArray), .string (⟨#[]⟩ : ByteArray)]) ?_ 1 _ rfl; (with_reducible repeat (first | refine blk_drewN ?_ _ | refine blk_drew ?_ | refine blk_alloc ?_ _)); refine blk_put (cs := #[.int .u8 0, .string (⟨#[]⟩ : ByteArray), .string (⟨#[]⟩ : ByteArray)]) ?_ 0 _ rfl; (with_reducible repeat (first | refine blk_drewN ?_ _ | refine blk_drew ?_ | refine blk_alloc ?_ _)); exact BK548.out) hb); replace HB := Aside0.mk (below_step (zg HB.out GE548.out) hb); (try clear hb); (try clear hb2); (try clear hk); (try clear hi)))
                go_ret
                exact ⟨ze, zg HB.out GE548.out⟩
            · rw [if_neg c5] at H
              exact absurd H (by simp)
          · rw [if_neg c4] at H
            exact absurd H (by simp)
        · rw [if_neg c3] at H
          have c3b0 : decide (x10_1 < (l0.length : Int)) = false := decide_eq_false c3; clear c3; obtain rfl := Option.some.inj H; go_wp2; go_ret
          exact ⟨ze, zb HB.out⟩

def labels_parts.l0 : Nat → List Int → List Int → Int → Option (List Int)
  | 0, _, _, _ => none
  | k + 1, x3, x4, x5 => if x5 < (x3.length : Int) then (if 0 ≤ x5 then (if (rd x3 x5) = 42 then (if x4.length < 35184372088832 then (labels_parts.l0 k x3 (x4 ++ [(-3)]) (wrap64 (x5 + 1))) else (none)) else (if (rd x3 x5) = 63 then (if x4.length < 35184372088832 then (labels_parts.l0 k x3 (x4 ++ [(-2)]) (wrap64 (x5 + 1))) else (none)) else (if (rd x3 x5) = 92 then (if (wrap64 (x5 + 1)) < (x3.length : Int) then (if 0 ≤ (wrap64 (x5 + 1)) then (if x4.length < 35184372088832 then (labels_parts.l0 k x3 (x4 ++ [rd x3 (wrap64 (x5 + 1))]) (wrap64 ((wrap64 (x5 + 1)) + 1))) else (none)) else (none)) else (if x4.length < 35184372088832 then (labels_parts.l0 k x3 (x4 ++ [rd x3 x5]) (wrap64 (x5 + 1))) else (none))) else (if x4.length < 35184372088832 then (labels_parts.l0 k x3 (x4 ++ [rd x3 x5]) (wrap64 (x5 + 1))) else (none))))) else (none)) else (some x4)
def labels_parts.f (k : Nat) (a0 : ByteArray) : Option (List Int) := (labels_chars.f a0).bind fun t550 => (labels_parts.l0 k t550 ([] : List Int) 0)
theorem labels_parts.mono_l : ∀ k, (∀ y0 y1 y2, LeO (labels_parts.l0 k y0 y1 y2) (labels_parts.l0 (k + 1) y0 y1 y2))
  | 0 => fun _ _ _ r h => by simp [labels_parts.l0] at h
  | k + 1 => by
    have ih0 := labels_parts.mono_l k
    · intro y0 y1 y2
      unfold labels_parts.l0
      repeat' first
      | (with_reducible exact ih0 _ _ _)
      | (with_reducible exact LeO.refl _)
      | (with_reducible exact LeO.none _)
      | (with_reducible refine LeO.ite ?_ ?_)
      | (with_reducible refine LeO.bind ?_ (fun _ => ?_))
      | exact ih0 _ _ _
      | exact LeO.none _
      | refine LeO.ite ?_ ?_
      | refine LeO.bind ?_ (fun _ => ?_)
theorem labels_parts.mono : ∀ a0 k, LeO (labels_parts.f k a0) (labels_parts.f (k + 1) a0) := by
  intro a0 k; have ih0 := labels_parts.mono_l k; unfold labels_parts.f
  repeat' first
      | (with_reducible exact ih0 _ _ _)
      | (with_reducible exact LeO.refl _)
      | (with_reducible exact LeO.none _)
      | (with_reducible refine LeO.ite ?_ ?_)
      | (with_reducible refine LeO.bind ?_ (fun _ => ?_))
      | exact ih0 _ _ _
      | exact LeO.none _
      | refine LeO.ite ?_ ?_
      | refine LeO.bind ?_ (fun _ => ?_)
set_option maxHeartbeats 8000000 in
set_option maxRecDepth 100000 in
theorem labels_parts.calls (k : Nat) (a0 : ByteArray) (r : List Int) (w : World) (hG : G w) (h : labels_parts.f k a0 = some r) :
    Calls Tryd.prog 57 #[.string a0] w fun e w' => ∃ v0_ : Value, e = .returned (v0_) ∧ Kd.R (Kd.int .i32) 21 w' w.heap.size (fun _ => True) v0_ r ∧ Below w.heap.size w w' := by
  have HB := Aside0.mk (Below.refl w.heap.size w); have HG := Aside0.mk hG; clear hG; have H : ((labels_chars.f a0).bind fun t550 => (labels_parts.l0 k t550 ([] : List Int) 0)) = some r := h; clear h; replace H := Option.bind_eq_some_iff.mp H; obtain ⟨t550, A20, H⟩ := H; replace H : (labels_parts.l0 k t550 ([] : List Int) 0) = some r := H; have A2 := Aside0.mk A20; clear A20; have H' := Aside0.mk H; clear H; go_enter Tryd.func57, Tryd.ntmps57; go_wp2_with (first | ((with_reducible refine gate_callee (f := 58) rfl ?_); refine goesL_ (some 8) rfl rfl Tryd.func58 (by kernel_rfl) rfl #[.string a0] rfl zl ?_; (with_reducible refine (labels_chars.calls a0 t550 _ ?side1 A2.out).mono ?_); (case side1 => first | exact zG HG.out | exact G.below HG.out (zb HB.out)); rintro e w3 ⟨v551, rfl, ho0, hb⟩; refine ⟨_, rfl, ?_⟩; have HO552 := Aside0.mk (Kd.R_lower ho0 (below_size (zb HB.out))); replace HB := Aside0.mk (below_step (zb HB.out) hb); (try clear hb); (try clear hb2); (try clear hk); (try clear hi); (try clear ho0)))
  go_loopg [4, 5] k (fun kq v4 v5 w' => ∃ (x4_1 : List Int) (x5_1 : Int), v5 = .int .i64 x5_1 ∧ Aside0 (labels_parts.l0 kq t550 x4_1 x5_1 = some r) ∧ Aside0 (kq ≤ k) ∧ Aside0 (Kd.R (Kd.int .i32) 21 w' w.heap.size (fun k_ => some k_ ≠ (v4 : Value).ownBlock) v551 t550) ∧ Aside0 (Kd.R (Kd.int .i32) 21 w' w.heap.size (fun k_ => some k_ ≠ (v551 : Value).ownBlock) v4 x4_1) ∧ Aside0 (Below w.heap.size w w'))
  case atStart => exact ⟨(([] : List Int)), (0), zs, H', ⟨Nat.le_refl _⟩, ⟨by (with_reducible repeat (first | apply Kd.R_alloc | apply Kd.R_drewN | apply Kd.R_drew)); exact Kd.R_mono HO552.out (fun _ hk => (by simp [Value.ownBlock]))⟩, ⟨by first | exact Kd.R_nil _ _ _ _ _ | exact Kd.N_nil _ _ _ _ _ | exact Kd.V_nil _ _ _ _ _ | exact Kd.Q_nil _ _ _ _ _ | exact Kd.S_nil _ _ _ _ _⟩, ⟨zb HB.out⟩⟩
  case round =>
    clear H'; (try clear p2); obtain ⟨x4_1, x5_1, rfl, HA, HK1, HO_3, HO_4, HB⟩ := hrel
    cases gk with
    | zero => exact absurd HA.out (by simp [labels_parts.l0])
    | succ k1 =>
      have H := HA.out; clear HA; simp only [labels_parts.l0] at H; by_cases c4 : x5_1 < (t550.length : Int)
      · rw [if_pos c4] at H
        have c4b0 : decide (x5_1 < (t550.length : Int)) = true := decide_eq_true c4; clear c4; by_cases c5 : 0 ≤ x5_1
        · rw [if_pos c5] at H
          have c5b0 : decide (0 ≤ x5_1) = true := decide_eq_true c5; clear c5; by_cases c6 : (rd t550 x5_1) = 42
          · rw [if_pos c6] at H
            have c6b0 : ((rd t550 x5_1) == 42) = true := beq_iff_eq.mpr c6; have c6b1 : ((rd t550 x5_1) != 42) = false := bne_eq_false_iff_eq.mpr c6; clear c6; by_cases c7 : x4_1.length < 35184372088832
            · rw [if_pos c7] at H
              have LMc7 := Aside0.mk c7; clear c7; obtain ⟨y554, hy554⟩ : ∃ y_ : List Int, y_ = (x4_1 ++ [(-3)]) := ⟨_, rfl⟩; replace H : (labels_parts.l0 k1 t550 y554 (wrap64 (x5_1 + 1))) = some r := by first | (rw [hy554]; with_reducible exact H) | (have H2_ := (Option.bind_some _ _).symm.trans H; rw [hy554]; with_reducible exact H2_) | (have H2_ := (Option.bind_some _ _).symm.trans H; with_reducible exact H2_) | with_reducible exact H | (rw [hy554]; exact H) | exact H
              have Ny554 := Aside0.mk hy554; clear hy554; have H' := Aside0.mk H; clear H; obtain ⟨Ao8, co8, eo8⟩ := Kd.R_slice HO_3.out; subst eo8; have p553 : 0 ≤ (x5_1 : Int) := zd; have q553 : x5_1 < (t550.length : Int) := zd; obtain ⟨ad553, e553, hx553_0⟩ := Kd.at_int (Kd.R_reads' HO_3.out).2.2 x5_1 p553 q553
              cases e553; replace p553 := eq_true p553; replace q553 := eq_true q553; go_wp2_with (first | ((with_reducible refine gate_builtin (b := .append) (xs := #[.tmp 26, .tmp 27]) rfl ?_); (try (refine gate_guard (by rfl) ?_; dsimp only)); at_builtin; refine Kd.R_append (Kd.int .i32) (w0 := w) w.heap.size rfl (.tmp 26) (.tmp 27) 77 21 (.int .i32 0) 4 rfl Tryd.underlying77 info21 rfl (by decide) (by omega) u4 x4_1 (-3) [.int .i32 (-3)] (fun k_ => some k_ ≠ (.slice (some ad553) t550.length co8 : Value).ownBlock) (fun _ => False) rfl rfl ?aP (fun _ hk => hk.elim) ?aF ?aO ?aB ?aS ?aL ?_; (case aP => exact rfl); (case aB => exact (zb HB.out)); (case aF => exact (fun k_ hk => Kd.fresh' (Kd.R_lt (zr HO_3.out)) k_ hk)); (case aO => exact (zr HO_4.out)); (case aS => exact (below_size (zb HB.out))); (case aL => have := LMc7.out; omega); intro v555 w9 ho hb hg hat; rw [← Ny554.out] at ho; have n0_ := Aside0.mk (Kd.R_after (ok := (fun _ => True)) (by (with_reducible repeat (first | apply Kd.R_alloc | apply Kd.R_drewN | apply Kd.R_drew)); exact Kd.R_mono HO_3.out (fun _ hk => ⟨trivial, hk⟩)) hg hat); have n1_ := Aside0.mk (hb); have n2_ := Aside0.mk (ho); clear HO_3; clear HB; clear HO_4; have HO_3 := n0_; have HB := n1_; have HO556 := n2_; clear n0_ n1_ n2_; clear ho hb hg hat))
              go_roundg k1
              case measure => have := HK1.out; omega
              case rel => exact ⟨(y554), (wrap64 (x5_1 + 1)), zs, H', ⟨by have := HK1.out; omega⟩, ⟨by (with_reducible repeat (first | apply Kd.R_alloc | apply Kd.R_drewN | apply Kd.R_drew)); exact Kd.R_mono HO_3.out (fun _ hk => hk.2)⟩, ⟨zr HO556.out⟩, ⟨zb HB.out⟩⟩
            · rw [if_neg c7] at H
              exact absurd H (by simp)
          · rw [if_neg c6] at H
            have c6b0 : ((rd t550 x5_1) == 42) = false := beq_eq_false_iff_ne.mpr c6; have c6b1 : ((rd t550 x5_1) != 42) = true := bne_iff_ne.mpr c6; by_cases c10 : (rd t550 x5_1) = 63
            · rw [if_pos c10] at H
              have c10b0 : ((rd t550 x5_1) == 63) = true := beq_iff_eq.mpr c10; have c10b1 : ((rd t550 x5_1) != 63) = false := bne_eq_false_iff_eq.mpr c10; clear c10; by_cases c11 : x4_1.length < 35184372088832
              · rw [if_pos c11] at H
                have LMc11 := Aside0.mk c11; clear c11; obtain ⟨y557, hy557⟩ : ∃ y_ : List Int, y_ = (x4_1 ++ [(-2)]) := ⟨_, rfl⟩; replace H : (labels_parts.l0 k1 t550 y557 (wrap64 (x5_1 + 1))) = some r := by first | (rw [hy557]; with_reducible exact H) | (have H2_ := (Option.bind_some _ _).symm.trans H; rw [hy557]; with_reducible exact H2_) | (have H2_ := (Option.bind_some _ _).symm.trans H; with_reducible exact H2_) | with_reducible exact H | (rw [hy557]; exact H) | exact H
                have Ny557 := Aside0.mk hy557; clear hy557; have H' := Aside0.mk H; clear H; obtain ⟨Ao12, co12, eo12⟩ := Kd.R_slice HO_3.out; subst eo12; have p553 : 0 ≤ (x5_1 : Int) := zd; have q553 : x5_1 < (t550.length : Int) := zd; obtain ⟨ad553, e553, hx553_0⟩ := Kd.at_int (Kd.R_reads' HO_3.out).2.2 x5_1 p553 q553
                cases e553; replace p553 := eq_true p553; replace q553 := eq_true q553; go_wp2_with (first | ((with_reducible refine gate_builtin (b := .append) (xs := #[.tmp 32, .tmp 33]) rfl ?_); (try (refine gate_guard (by rfl) ?_; dsimp only)); at_builtin; refine Kd.R_append (Kd.int .i32) (w0 := w) w.heap.size rfl (.tmp 32) (.tmp 33) 77 21 (.int .i32 0) 4 rfl Tryd.underlying77 info21 rfl (by decide) (by omega) u4 x4_1 (-2) [.int .i32 (-2)] (fun k_ => some k_ ≠ (.slice (some ad553) t550.length co12 : Value).ownBlock) (fun _ => False) rfl rfl ?aP (fun _ hk => hk.elim) ?aF ?aO ?aB ?aS ?aL ?_; (case aP => exact rfl); (case aB => exact (zb HB.out)); (case aF => exact (fun k_ hk => Kd.fresh' (Kd.R_lt (zr HO_3.out)) k_ hk)); (case aO => exact (zr HO_4.out)); (case aS => exact (below_size (zb HB.out))); (case aL => have := LMc11.out; omega); intro v558 w13 ho hb hg hat; rw [← Ny557.out] at ho; have n0_ := Aside0.mk (Kd.R_after (ok := (fun _ => True)) (by (with_reducible repeat (first | apply Kd.R_alloc | apply Kd.R_drewN | apply Kd.R_drew)); exact Kd.R_mono HO_3.out (fun _ hk => ⟨trivial, hk⟩)) hg hat); have n1_ := Aside0.mk (hb); have n2_ := Aside0.mk (ho); clear HO_3; clear HB; clear HO_4; have HO_3 := n0_; have HB := n1_; have HO559 := n2_; clear n0_ n1_ n2_; clear ho hb hg hat))
                go_roundg k1
                case measure => have := HK1.out; omega
                case rel => exact ⟨(y557), (wrap64 (x5_1 + 1)), zs, H', ⟨by have := HK1.out; omega⟩, ⟨by (with_reducible repeat (first | apply Kd.R_alloc | apply Kd.R_drewN | apply Kd.R_drew)); exact Kd.R_mono HO_3.out (fun _ hk => hk.2)⟩, ⟨zr HO559.out⟩, ⟨zb HB.out⟩⟩
              · rw [if_neg c11] at H
                exact absurd H (by simp)
            · rw [if_neg c10] at H
              have c10b0 : ((rd t550 x5_1) == 63) = false := beq_eq_false_iff_ne.mpr c10; have c10b1 : ((rd t550 x5_1) != 63) = true := bne_iff_ne.mpr c10; by_cases c14 : (rd t550 x5_1) = 92
              · rw [if_pos c14] at H
                have c14b0 : ((rd t550 x5_1) == 92) = true := beq_iff_eq.mpr c14; have c14b1 : ((rd t550 x5_1) != 92) = false := bne_eq_false_iff_eq.mpr c14; clear c14; by_cases c15 : (wrap64 (x5_1 + 1)) < (t550.length : Int)
                · rw [if_pos c15] at H
                  have c15b0 : decide ((wrap64 (x5_1 + 1)) < (t550.length : Int)) = true := decide_eq_true c15; clear c15; obtain ⟨ji16, hji16⟩ : ∃ j_ : Int, (wrap64 (x5_1 + 1)) = j_ := ⟨_, rfl⟩; replace H : (if 0 ≤ (ji16) then (if x4_1.length < 35184372088832 then (labels_parts.l0 k1 t550 (x4_1 ++ [rd t550 (ji16)]) (wrap64 ((ji16) + 1))) else (none)) else (none)) = some r := by first | (rw [hji16] at H; exact H) | (simp only [hji16] at H ⊢; exact H)
                  (try rw [hji16] at c15b0); have hji16w : (IntKind.i64.wrap (x5_1 + 1)) = ji16 := (i64_w _).trans hji16; by_cases c17 : 0 ≤ (ji16)
                  · rw [if_pos c17] at H
                    have c17b0 : decide (0 ≤ (ji16)) = true := decide_eq_true c17; clear c17; by_cases c18 : x4_1.length < 35184372088832
                    · rw [if_pos c18] at H
                      have LMc18 := Aside0.mk c18; clear c18; obtain ⟨y561, hy561⟩ : ∃ y_ : List Int, y_ = (x4_1 ++ [rd t550 (ji16)]) := ⟨_, rfl⟩; replace H : (labels_parts.l0 k1 t550 y561 (wrap64 ((ji16) + 1))) = some r := by first | (rw [hy561]; with_reducible exact H) | (have H2_ := (Option.bind_some _ _).symm.trans H; rw [hy561]; with_reducible exact H2_) | (have H2_ := (Option.bind_some _ _).symm.trans H; with_reducible exact H2_) | with_reducible exact H | (rw [hy561]; exact H) | exact H
                      have Ny561 := Aside0.mk hy561; clear hy561; have H' := Aside0.mk H; clear H; obtain ⟨Ao19, co19, eo19⟩ := Kd.R_slice HO_3.out; subst eo19; have p553 : 0 ≤ (x5_1 : Int) := zd; have q553 : x5_1 < (t550.length : Int) := zd; obtain ⟨ad553, e553, hx553_0⟩ := Kd.at_int (Kd.R_reads' HO_3.out).2.2 x5_1 p553 q553
                      cases e553; replace p553 := eq_true p553; replace q553 := eq_true q553; have p560 : 0 ≤ ((ji16) : Int) := zd; have q560 : (ji16) < (t550.length : Int) := zd; obtain ⟨ad560, e560, hx560_0⟩ := Kd.at_int (Kd.R_reads' HO_3.out).2.2 (ji16) p560 q560; obtain rfl : ad553 = ad560 := (by injection e560); replace p560 := eq_true p560; replace q560 := eq_true q560; go_wp2_with (first | ((with_reducible refine gate_builtin (b := .append) (xs := #[.tmp 47, .tmp 52]) rfl ?_); (try (refine gate_guard (by rfl) ?_; dsimp only)); at_builtin; refine Kd.R_append (Kd.int .i32) (w0 := w) w.heap.size rfl (.tmp 47) (.tmp 52) 77 21 (.int .i32 0) 4 rfl Tryd.underlying77 info21 rfl (by decide) (by omega) u4 x4_1 (rd t550 (ji16)) [.int .i32 (rd t550 (ji16))] (fun k_ => some k_ ≠ (.slice (some ad553) t550.length co19 : Value).ownBlock) (fun _ => False) rfl rfl ?aP (fun _ hk => hk.elim) ?aF ?aO ?aB ?aS ?aL ?_; (case aP => exact rfl); (case aB => exact (zb HB.out)); (case aF => exact (fun k_ hk => Kd.fresh' (Kd.R_lt (zr HO_3.out)) k_ hk)); (case aO => exact (zr HO_4.out)); (case aS => exact (below_size (zb HB.out))); (case aL => have := LMc18.out; omega); intro v562 w20 ho hb hg hat; rw [← Ny561.out] at ho; have n0_ := Aside0.mk (Kd.R_after (ok := (fun _ => True)) (by (with_reducible repeat (first | apply Kd.R_alloc | apply Kd.R_drewN | apply Kd.R_drew)); exact Kd.R_mono HO_3.out (fun _ hk => ⟨trivial, hk⟩)) hg hat); have n1_ := Aside0.mk (hb); have n2_ := Aside0.mk (ho); clear HO_3; clear HB; clear HO_4; have HO_3 := n0_; have HB := n1_; have HO563 := n2_; clear n0_ n1_ n2_; clear ho hb hg hat))
                      go_roundg k1
                      case measure => have := HK1.out; omega
                      case rel => exact ⟨(y561), (wrap64 ((ji16) + 1)), (by first | rfl | (simp; done) | (simp only [← hji16] <;> (first | rfl | simp)) | (simp [*]; done)), H', ⟨by have := HK1.out; omega⟩, ⟨by (with_reducible repeat (first | apply Kd.R_alloc | apply Kd.R_drewN | apply Kd.R_drew)); exact Kd.R_mono HO_3.out (fun _ hk => hk.2)⟩, ⟨zr HO563.out⟩, ⟨zb HB.out⟩⟩
                    · rw [if_neg c18] at H
                      exact absurd H (by simp)
                  · rw [if_neg c17] at H
                    exact absurd H (by simp)
                · rw [if_neg c15] at H
                  have c15b0 : decide ((wrap64 (x5_1 + 1)) < (t550.length : Int)) = false := decide_eq_false c15; clear c15; by_cases c21 : x4_1.length < 35184372088832
                  · rw [if_pos c21] at H
                    have LMc21 := Aside0.mk c21; clear c21; obtain ⟨y564, hy564⟩ : ∃ y_ : List Int, y_ = (x4_1 ++ [rd t550 x5_1]) := ⟨_, rfl⟩; replace H : (labels_parts.l0 k1 t550 y564 (wrap64 (x5_1 + 1))) = some r := by first | (rw [hy564]; with_reducible exact H) | (have H2_ := (Option.bind_some _ _).symm.trans H; rw [hy564]; with_reducible exact H2_) | (have H2_ := (Option.bind_some _ _).symm.trans H; with_reducible exact H2_) | with_reducible exact H | (rw [hy564]; exact H) | exact H
                    have Ny564 := Aside0.mk hy564; clear hy564; have H' := Aside0.mk H; clear H; obtain ⟨Ao22, co22, eo22⟩ := Kd.R_slice HO_3.out; subst eo22; have p553 : 0 ≤ (x5_1 : Int) := zd; have q553 : x5_1 < (t550.length : Int) := zd; obtain ⟨ad553, e553, hx553_0⟩ := Kd.at_int (Kd.R_reads' HO_3.out).2.2 x5_1 p553 q553
                    cases e553; replace p553 := eq_true p553; replace q553 := eq_true q553; go_wp2_with (first | ((with_reducible refine gate_builtin (b := .append) (xs := #[.tmp 19, .tmp 21]) rfl ?_); (try (refine gate_guard (by rfl) ?_; dsimp only)); at_builtin; refine Kd.R_append (Kd.int .i32) (w0 := w) w.heap.size rfl (.tmp 19) (.tmp 21) 77 21 (.int .i32 0) 4 rfl Tryd.underlying77 info21 rfl (by decide) (by omega) u4 x4_1 (rd t550 x5_1) [.int .i32 (rd t550 x5_1)] (fun k_ => some k_ ≠ (.slice (some ad553) t550.length co22 : Value).ownBlock) (fun _ => False) rfl rfl ?aP (fun _ hk => hk.elim) ?aF ?aO ?aB ?aS ?aL ?_; (case aP => exact rfl); (case aB => exact (zb HB.out)); (case aF => exact (fun k_ hk => Kd.fresh' (Kd.R_lt (zr HO_3.out)) k_ hk)); (case aO => exact (zr HO_4.out)); (case aS => exact (below_size (zb HB.out))); (case aL => have := LMc21.out; omega); intro v565 w23 ho hb hg hat; rw [← Ny564.out] at ho; have n0_ := Aside0.mk (Kd.R_after (ok := (fun _ => True)) (by (with_reducible repeat (first | apply Kd.R_alloc | apply Kd.R_drewN | apply Kd.R_drew)); exact Kd.R_mono HO_3.out (fun _ hk => ⟨trivial, hk⟩)) hg hat); have n1_ := Aside0.mk (hb); have n2_ := Aside0.mk (ho); clear HO_3; clear HB; clear HO_4; have HO_3 := n0_; have HB := n1_; have HO566 := n2_; clear n0_ n1_ n2_; clear ho hb hg hat))
                    go_roundg k1
                    case measure => have := HK1.out; omega
                    case rel => exact ⟨(y564), (wrap64 (x5_1 + 1)), zs, H', ⟨by have := HK1.out; omega⟩, ⟨by (with_reducible repeat (first | apply Kd.R_alloc | apply Kd.R_drewN | apply Kd.R_drew)); exact Kd.R_mono HO_3.out (fun _ hk => hk.2)⟩, ⟨zr HO566.out⟩, ⟨zb HB.out⟩⟩
                  · rw [if_neg c21] at H
                    exact absurd H (by simp)
              · rw [if_neg c14] at H
                have c14b0 : ((rd t550 x5_1) == 92) = false := beq_eq_false_iff_ne.mpr c14; have c14b1 : ((rd t550 x5_1) != 92) = true := bne_iff_ne.mpr c14; by_cases c24 : x4_1.length < 35184372088832
                · rw [if_pos c24] at H
                  have LMc24 := Aside0.mk c24; clear c24; obtain ⟨y567, hy567⟩ : ∃ y_ : List Int, y_ = (x4_1 ++ [rd t550 x5_1]) := ⟨_, rfl⟩; replace H : (labels_parts.l0 k1 t550 y567 (wrap64 (x5_1 + 1))) = some r := by first | (rw [hy567]; with_reducible exact H) | (have H2_ := (Option.bind_some _ _).symm.trans H; rw [hy567]; with_reducible exact H2_) | (have H2_ := (Option.bind_some _ _).symm.trans H; with_reducible exact H2_) | with_reducible exact H | (rw [hy567]; exact H) | exact H
                  have Ny567 := Aside0.mk hy567; clear hy567; have H' := Aside0.mk H; clear H; obtain ⟨Ao25, co25, eo25⟩ := Kd.R_slice HO_3.out; subst eo25; have p553 : 0 ≤ (x5_1 : Int) := zd; have q553 : x5_1 < (t550.length : Int) := zd; obtain ⟨ad553, e553, hx553_0⟩ := Kd.at_int (Kd.R_reads' HO_3.out).2.2 x5_1 p553 q553
                  cases e553; replace p553 := eq_true p553; replace q553 := eq_true q553; go_wp2_with (first | ((with_reducible refine gate_builtin (b := .append) (xs := #[.tmp 19, .tmp 21]) rfl ?_); (try (refine gate_guard (by rfl) ?_; dsimp only)); at_builtin; refine Kd.R_append (Kd.int .i32) (w0 := w) w.heap.size rfl (.tmp 19) (.tmp 21) 77 21 (.int .i32 0) 4 rfl Tryd.underlying77 info21 rfl (by decide) (by omega) u4 x4_1 (rd t550 x5_1) [.int .i32 (rd t550 x5_1)] (fun k_ => some k_ ≠ (.slice (some ad553) t550.length co25 : Value).ownBlock) (fun _ => False) rfl rfl ?aP (fun _ hk => hk.elim) ?aF ?aO ?aB ?aS ?aL ?_; (case aP => exact rfl); (case aB => exact (zb HB.out)); (case aF => exact (fun k_ hk => Kd.fresh' (Kd.R_lt (zr HO_3.out)) k_ hk)); (case aO => exact (zr HO_4.out)); (case aS => exact (below_size (zb HB.out))); (case aL => have := LMc24.out; omega); intro v568 w26 ho hb hg hat; rw [← Ny567.out] at ho; have n0_ := Aside0.mk (Kd.R_after (ok := (fun _ => True)) (by (with_reducible repeat (first | apply Kd.R_alloc | apply Kd.R_drewN | apply Kd.R_drew)); exact Kd.R_mono HO_3.out (fun _ hk => ⟨trivial, hk⟩)) hg hat); have n1_ := Aside0.mk (hb); have n2_ := Aside0.mk (ho); clear HO_3; clear HB; clear HO_4; have HO_3 := n0_; have HB := n1_; have HO569 := n2_; clear n0_ n1_ n2_; clear ho hb hg hat))
                  go_roundg k1
                  case measure => have := HK1.out; omega
                  case rel => exact ⟨(y567), (wrap64 (x5_1 + 1)), zs, H', ⟨by have := HK1.out; omega⟩, ⟨by (with_reducible repeat (first | apply Kd.R_alloc | apply Kd.R_drewN | apply Kd.R_drew)); exact Kd.R_mono HO_3.out (fun _ hk => hk.2)⟩, ⟨zr HO569.out⟩, ⟨zb HB.out⟩⟩
                · rw [if_neg c24] at H
                  exact absurd H (by simp)
        · rw [if_neg c5] at H
          exact absurd H (by simp)
      · rw [if_neg c4] at H
        have c4b0 : decide (x5_1 < (t550.length : Int)) = false := decide_eq_false c4; clear c4; obtain rfl := Option.some.inj H; obtain ⟨Ao27, co27, eo27⟩ := Kd.R_slice HO_3.out; subst eo27; go_wp2; go_ret
        exact ⟨_, ze, by (with_reducible repeat (first | apply Kd.R_alloc | apply Kd.R_drewN | apply Kd.R_drew)); exact Kd.R_mono HO_4.out (fun _ hk => trivial), zb HB.out⟩

mutual
def labels_Says.j0 : Nat → ByteArray → ByteArray → Bool → Option (Bool)
  | 0, _, _, _ => none
  | k + 1, x0, x1, x18 => if x18 = true then (some false) else ((labels_parts.f k x0).bind fun t571 => ((labels_chars.f x1).bind fun t574 => (labels_Says.l0 k t571 t574 0 0 (-1) 0)))
def labels_Says.l0 : Nat → List Int → List Int → Int → Int → Int → Int → Option (Bool)
  | 0, _, _, _, _, _, _ => none
  | k + 1, x5, x6, x7, x8, x9, x10 => if x8 < (x6.length : Int) then (if x7 < (x5.length : Int) then (if 0 ≤ x7 then (labels_Says.j2 k x5 x6 x7 x8 x9 x10 ((rd x5 x7) == (-3))) else (none)) else (labels_Says.j2 k x5 x6 x7 x8 x9 x10 false)) else (labels_Says.l1 k x5 x7)
def labels_Says.j2 : Nat → List Int → List Int → Int → Int → Int → Int → Bool → Option (Bool)
  | 0, _, _, _, _, _, _, _ => none
  | k + 1, x5, x6, x7, x8, x9, x10, x27 => if x27 = true then (labels_Says.l0 k x5 x6 (wrap64 (x7 + 1)) x8 x7 x8) else (if x7 < (x5.length : Int) then (if 0 ≤ x7 then (if (rd x5 x7) = (-2) then (labels_Says.j3 k x5 x6 x7 x8 x9 x10 true) else (if 0 ≤ x8 then (if x8 < (x6.length : Int) then (if (rd x5 x7) = (rd x6 x8) then (labels_Says.j3 k x5 x6 x7 x8 x9 x10 (decide ((rd x6 x8) ≥ 0))) else (labels_Says.j3 k x5 x6 x7 x8 x9 x10 false)) else (none)) else (none))) else (none)) else (labels_Says.j3 k x5 x6 x7 x8 x9 x10 false))
def labels_Says.j3 : Nat → List Int → List Int → Int → Int → Int → Int → Bool → Option (Bool)
  | 0, _, _, _, _, _, _, _ => none
  | k + 1, x5, x6, x7, x8, x9, x10, x43 => if x43 = true then (labels_Says.l0 k x5 x6 (wrap64 (x7 + 1)) (wrap64 (x8 + 1)) x9 x10) else (if x9 ≥ 0 then (labels_Says.l0 k x5 x6 (wrap64 (x9 + 1)) (wrap64 (x10 + 1)) x9 (wrap64 (x10 + 1))) else (some false))
def labels_Says.l1 : Nat → List Int → Int → Option (Bool)
  | 0, _, _ => none
  | k + 1, x5, x7 => if x7 < (x5.length : Int) then (if 0 ≤ x7 then (if (rd x5 x7) = (-3) then (labels_Says.l1 k x5 (wrap64 (x7 + 1))) else (some (x7 == (x5.length : Int)))) else (none)) else (some (x7 == (x5.length : Int)))
end
def labels_Says.f (k : Nat) (a0 : ByteArray) (a1 : ByteArray) : Option (Bool) := if (a0.size : Int) > 256 then (labels_Says.j0 k a0 a1 true) else ((labels_broken.f a0).bind fun t570 => (labels_Says.j0 k a0 a1 (decide (t570 ≥ 0))))
theorem labels_Says.mono_l : ∀ k, (∀ y0 y1 y2, LeO (labels_Says.j0 k y0 y1 y2) (labels_Says.j0 (k + 1) y0 y1 y2)) ∧ (∀ y0 y1 y2 y3 y4 y5, LeO (labels_Says.l0 k y0 y1 y2 y3 y4 y5) (labels_Says.l0 (k + 1) y0 y1 y2 y3 y4 y5)) ∧ (∀ y0 y1 y2 y3 y4 y5 y6, LeO (labels_Says.j2 k y0 y1 y2 y3 y4 y5 y6) (labels_Says.j2 (k + 1) y0 y1 y2 y3 y4 y5 y6)) ∧ (∀ y0 y1 y2 y3 y4 y5 y6, LeO (labels_Says.j3 k y0 y1 y2 y3 y4 y5 y6) (labels_Says.j3 (k + 1) y0 y1 y2 y3 y4 y5 y6)) ∧ (∀ y0 y1, LeO (labels_Says.l1 k y0 y1) (labels_Says.l1 (k + 1) y0 y1))
  | 0 => ⟨fun _ _ _ r h => by simp [labels_Says.j0] at h, fun _ _ _ _ _ _ r h => by simp [labels_Says.l0] at h, fun _ _ _ _ _ _ _ r h => by simp [labels_Says.j2] at h, fun _ _ _ _ _ _ _ r h => by simp [labels_Says.j3] at h, fun _ _ r h => by simp [labels_Says.l1] at h⟩
  | k + 1 => by
    obtain ⟨ih0, ih1, ih2, ih3, ih4⟩ := labels_Says.mono_l k; refine ⟨?_, ?_, ?_, ?_, ?_⟩
    · intro y0 y1 y2
      unfold labels_Says.j0
      repeat' first
      | (with_reducible exact ih0 _ _ _)
      | (with_reducible exact ih1 _ _ _ _ _ _)
      | (with_reducible exact ih2 _ _ _ _ _ _ _)
      | (with_reducible exact ih3 _ _ _ _ _ _ _)
      | (with_reducible exact ih4 _ _)
      | (with_reducible exact labels_parts.mono _ _)
      | (with_reducible exact LeO.refl _)
      | (with_reducible exact LeO.none _)
      | (with_reducible refine LeO.ite ?_ ?_)
      | (with_reducible refine LeO.bind ?_ (fun _ => ?_))
      | exact ih0 _ _ _
      | exact ih1 _ _ _ _ _ _
      | exact ih2 _ _ _ _ _ _ _
      | exact ih3 _ _ _ _ _ _ _
      | exact ih4 _ _
      | exact labels_parts.mono _ _
      | exact LeO.none _
      | refine LeO.ite ?_ ?_
      | refine LeO.bind ?_ (fun _ => ?_)
    · intro y0 y1 y2 y3 y4 y5
      unfold labels_Says.l0
      repeat' first
      | (with_reducible exact ih0 _ _ _)
      | (with_reducible exact ih1 _ _ _ _ _ _)
      | (with_reducible exact ih2 _ _ _ _ _ _ _)
      | (with_reducible exact ih3 _ _ _ _ _ _ _)
      | (with_reducible exact ih4 _ _)
      | (with_reducible exact labels_parts.mono _ _)
      | (with_reducible exact LeO.refl _)
      | (with_reducible exact LeO.none _)
      | (with_reducible refine LeO.ite ?_ ?_)
      | (with_reducible refine LeO.bind ?_ (fun _ => ?_))
      | exact ih0 _ _ _
      | exact ih1 _ _ _ _ _ _
      | exact ih2 _ _ _ _ _ _ _
      | exact ih3 _ _ _ _ _ _ _
      | exact ih4 _ _
      | exact labels_parts.mono _ _
      | exact LeO.none _
      | refine LeO.ite ?_ ?_
      | refine LeO.bind ?_ (fun _ => ?_)
    · intro y0 y1 y2 y3 y4 y5 y6
      unfold labels_Says.j2
      repeat' first
      | (with_reducible exact ih0 _ _ _)
      | (with_reducible exact ih1 _ _ _ _ _ _)
      | (with_reducible exact ih2 _ _ _ _ _ _ _)
      | (with_reducible exact ih3 _ _ _ _ _ _ _)
      | (with_reducible exact ih4 _ _)
      | (with_reducible exact labels_parts.mono _ _)
      | (with_reducible exact LeO.refl _)
      | (with_reducible exact LeO.none _)
      | (with_reducible refine LeO.ite ?_ ?_)
      | (with_reducible refine LeO.bind ?_ (fun _ => ?_))
      | exact ih0 _ _ _
      | exact ih1 _ _ _ _ _ _
      | exact ih2 _ _ _ _ _ _ _
      | exact ih3 _ _ _ _ _ _ _
      | exact ih4 _ _
      | exact labels_parts.mono _ _
      | exact LeO.none _
      | refine LeO.ite ?_ ?_
      | refine LeO.bind ?_ (fun _ => ?_)
    · intro y0 y1 y2 y3 y4 y5 y6
      unfold labels_Says.j3
      repeat' first
      | (with_reducible exact ih0 _ _ _)
      | (with_reducible exact ih1 _ _ _ _ _ _)
      | (with_reducible exact ih2 _ _ _ _ _ _ _)
      | (with_reducible exact ih3 _ _ _ _ _ _ _)
      | (with_reducible exact ih4 _ _)
      | (with_reducible exact labels_parts.mono _ _)
      | (with_reducible exact LeO.refl _)
      | (with_reducible exact LeO.none _)
      | (with_reducible refine LeO.ite ?_ ?_)
      | (with_reducible refine LeO.bind ?_ (fun _ => ?_))
      | exact ih0 _ _ _
      | exact ih1 _ _ _ _ _ _
      | exact ih2 _ _ _ _ _ _ _
      | exact ih3 _ _ _ _ _ _ _
      | exact ih4 _ _
      | exact labels_parts.mono _ _
      | exact LeO.none _
      | refine LeO.ite ?_ ?_
      | refine LeO.bind ?_ (fun _ => ?_)
    · intro y0 y1
      unfold labels_Says.l1
      repeat' first
      | (with_reducible exact ih0 _ _ _)
      | (with_reducible exact ih1 _ _ _ _ _ _)
      | (with_reducible exact ih2 _ _ _ _ _ _ _)
      | (with_reducible exact ih3 _ _ _ _ _ _ _)
      | (with_reducible exact ih4 _ _)
      | (with_reducible exact labels_parts.mono _ _)
      | (with_reducible exact LeO.refl _)
      | (with_reducible exact LeO.none _)
      | (with_reducible refine LeO.ite ?_ ?_)
      | (with_reducible refine LeO.bind ?_ (fun _ => ?_))
      | exact ih0 _ _ _
      | exact ih1 _ _ _ _ _ _
      | exact ih2 _ _ _ _ _ _ _
      | exact ih3 _ _ _ _ _ _ _
      | exact ih4 _ _
      | exact labels_parts.mono _ _
      | exact LeO.none _
      | refine LeO.ite ?_ ?_
      | refine LeO.bind ?_ (fun _ => ?_)
theorem labels_Says.mono : ∀ a0 a1 k, LeO (labels_Says.f k a0 a1) (labels_Says.f (k + 1) a0 a1) := by
  intro a0 a1 k; obtain ⟨ih0, ih1, ih2, ih3, ih4⟩ := labels_Says.mono_l k; unfold labels_Says.f
  repeat' first
      | (with_reducible exact ih0 _ _ _)
      | (with_reducible exact ih1 _ _ _ _ _ _)
      | (with_reducible exact ih2 _ _ _ _ _ _ _)
      | (with_reducible exact ih3 _ _ _ _ _ _ _)
      | (with_reducible exact ih4 _ _)
      | (with_reducible exact labels_parts.mono _ _)
      | (with_reducible exact LeO.refl _)
      | (with_reducible exact LeO.none _)
      | (with_reducible refine LeO.ite ?_ ?_)
      | (with_reducible refine LeO.bind ?_ (fun _ => ?_))
      | exact ih0 _ _ _
      | exact ih1 _ _ _ _ _ _
      | exact ih2 _ _ _ _ _ _ _
      | exact ih3 _ _ _ _ _ _ _
      | exact ih4 _ _
      | exact labels_parts.mono _ _
      | exact LeO.none _
      | refine LeO.ite ?_ ?_
      | refine LeO.bind ?_ (fun _ => ?_)
set_option maxHeartbeats 8000000 in
set_option maxRecDepth 100000 in
theorem labels_Says.calls (k : Nat) (a0 : ByteArray) (a1 : ByteArray) (r : Bool) (w : World) (hG : G w) (h : labels_Says.f k a0 a1 = some r) :
    Calls Tryd.prog 19 #[.string a0, .string a1] w fun e w' => e = .returned (.bool r) ∧ Below w.heap.size w w' := by
  have HB := Aside0.mk (Below.refl w.heap.size w); have HG := Aside0.mk hG; clear hG; have H : (if (a0.size : Int) > 256 then (labels_Says.j0 k a0 a1 true) else ((labels_broken.f a0).bind fun t570 => (labels_Says.j0 k a0 a1 (decide (t570 ≥ 0))))) = some r := h; clear h; have HC3 := Aside0.mk H; clear H; go_enter Tryd.func19, Tryd.ntmps19; go_upto_region 1 with (fail)
  repeat (go_quiet (fail); go_upto_region 1 with (fail))
  go_cut [18] (fun v18 wc => ∃ (kq : Nat) (x18_2 : Bool), v18 = .bool x18_2 ∧ Aside0 (labels_Says.j0 kq a0 a1 x18_2 = some r) ∧ Aside0 (kq ≤ k) ∧ Aside0 (Below w.heap.size w wc))
  case first =>
    have H := HC3.out; clear HC3; by_cases c4 : (a0.size : Int) > 256
    · rw [if_pos c4] at H
      have c4b0 : decide (256 < (a0.size : Int)) = true := decide_eq_true c4; have c4b1 : decide (256 < a0.size) = true := decide_eq_true (by omega); clear c4; (first | rw [c4b0] | (simp only [i64_w, i32_w]; rw [c4b0]) | skip); have H' := Aside0.mk H; clear H; go_wp2
      repeat (go_quiet (fail); try go_wp2)
      go_meet
      case rel => exact ⟨_, (true), zs, H', ⟨by first | omega | exact Nat.le_refl _⟩, ⟨zb HB.out⟩⟩
    · rw [if_neg c4] at H
      have c4b0 : decide (256 < (a0.size : Int)) = false := decide_eq_false c4; have c4b1 : decide (256 < a0.size) = false := decide_eq_false (by omega); clear c4; (first | rw [c4b0] | (simp only [i64_w, i32_w]; rw [c4b0]) | skip); replace H := Option.bind_eq_some_iff.mp H; obtain ⟨t570, A50, H⟩ := H; replace H : (labels_Says.j0 k a0 a1 (decide (t570 ≥ 0))) = some r := H; have A5 := Aside0.mk A50; clear A50; have H' := Aside0.mk H; clear H; go_wp2_with (first | (go_at_call 56; (with_reducible refine (labels_broken.calls a0 t570 _ ?side1 A5.out).mono ?_); (case side1 => first | exact zG HG.out | exact G.below HG.out (zb HB.out)); rintro e w6 ⟨rfl, hb⟩; replace HB := Aside0.mk (below_step (zb HB.out) hb); (try clear hb); (try clear hb2); (try clear hk); (try clear hi)))
      repeat (go_quiet (first | (go_at_call 56; (with_reducible refine (labels_broken.calls a0 t570 _ ?side1 A5.out).mono ?_); (case side1 => first | exact zG HG.out | exact G.below HG.out (zb HB.out)); rintro e w6 ⟨rfl, hb⟩; replace HB := Aside0.mk (below_step (zb HB.out) hb); (try clear hb); (try clear hb2); (try clear hk); (try clear hi))); try go_wp2_with (first | (go_at_call 56; (with_reducible refine (labels_broken.calls a0 t570 _ ?side1 A5.out).mono ?_); (case side1 => first | exact zG HG.out | exact G.below HG.out (zb HB.out)); rintro e w6 ⟨rfl, hb⟩; replace HB := Aside0.mk (below_step (zb HB.out) hb); (try clear hb); (try clear hb2); (try clear hk); (try clear hi))))
      go_meet
      case rel => exact ⟨_, (decide (t570 ≥ 0)), zs, H', ⟨by first | omega | exact Nat.le_refl _⟩, ⟨zb HB.out⟩⟩
  case rest =>
    clear HC3; (try clear c1); (try clear p2); (try clear c4); (try clear c4b0); (try clear c4b1); obtain ⟨kq, x18_2, rfl, HA, HJ2, HB⟩ := hcut
    cases kq with
    | zero => exact absurd HA.out (by simp [labels_Says.j0])
    | succ kj2 =>
      have H := HA.out; clear HA; simp only [labels_Says.j0] at H; by_cases c7 : x18_2 = true
      · subst c7
        have H1 : (some false) = some r := by rw [if_pos rfl] at H; exact H
        clear H; have H := H1; clear H1; obtain rfl := Option.some.inj H; go_wp2
        repeat (go_quiet (fail); try go_wp2)
        go_ret
        exact ⟨ze, zb HB.out⟩
      · replace c7 := Bool.eq_false_iff.mpr c7
        subst c7; have H1 : ((labels_parts.f kj2 a0).bind fun t571 => ((labels_chars.f a1).bind fun t574 => (labels_Says.l0 kj2 t571 t574 0 0 (-1) 0))) = some r := by rw [if_neg (show ¬ (false = true) by decide)] at H; exact H
        clear H; have H := H1; clear H1; replace H := Option.bind_eq_some_iff.mp H; obtain ⟨t571, A80, H⟩ := H; replace H : ((labels_chars.f a1).bind fun t574 => (labels_Says.l0 kj2 t571 t574 0 0 (-1) 0)) = some r := H; have A8 := Aside0.mk A80; clear A80; replace H := Option.bind_eq_some_iff.mp H; obtain ⟨t574, A90, H⟩ := H; replace H : (labels_Says.l0 kj2 t571 t574 0 0 (-1) 0) = some r := H; have A9 := Aside0.mk A90; clear A90; have H' := Aside0.mk H; clear H; go_wp2_with (first | (go_at_call 57; (with_reducible refine (labels_parts.calls kj2 a0 t571 _ ?side1 A8.out).mono ?_); (case side1 => first | exact zG HG.out | exact G.below HG.out (zb HB.out)); rintro e w10 ⟨v572, rfl, ho0, hb⟩; have HO573 := Aside0.mk (Kd.R_lower ho0 (below_size (zb HB.out))); replace HB := Aside0.mk (below_step (zb HB.out) hb); (try clear hb); (try clear hb2); (try clear hk); (try clear hi); (try clear ho0)) | (go_at_call 58; (with_reducible refine (labels_chars.calls a1 t574 _ ?side1 A9.out).mono ?_); (case side1 => first | exact zG HG.out | exact G.below HG.out (zb HB.out)); rintro e w11 ⟨v575, rfl, ho0, hb⟩; have HO576 := Aside0.mk (Kd.R_lower (Kd.R_new' ho0 (Kd.R_lt (zr HO573.out))) (below_size (zb HB.out))); replace HO573 := Aside0.mk (Kd.R_elder' (zr HO573.out) (Kd.R_base ho0) hb); replace HB := Aside0.mk (below_step (zb HB.out) hb); (try clear hb); (try clear hb2); (try clear hk); (try clear hi); (try clear ho0)))
        repeat (go_quiet (first | (go_at_call 57; (with_reducible refine (labels_parts.calls kj2 a0 t571 _ ?side1 A8.out).mono ?_); (case side1 => first | exact zG HG.out | exact G.below HG.out (zb HB.out)); rintro e w10 ⟨v572, rfl, ho0, hb⟩; have HO573 := Aside0.mk (Kd.R_lower ho0 (below_size (zb HB.out))); replace HB := Aside0.mk (below_step (zb HB.out) hb); (try clear hb); (try clear hb2); (try clear hk); (try clear hi); (try clear ho0)) | (go_at_call 58; (with_reducible refine (labels_chars.calls a1 t574 _ ?side1 A9.out).mono ?_); (case side1 => first | exact zG HG.out | exact G.below HG.out (zb HB.out)); rintro e w11 ⟨v575, rfl, ho0, hb⟩; have HO576 := Aside0.mk (Kd.R_lower (Kd.R_new' ho0 (Kd.R_lt (zr HO573.out))) (below_size (zb HB.out))); replace HO573 := Aside0.mk (Kd.R_elder' (zr HO573.out) (Kd.R_base ho0) hb); replace HB := Aside0.mk (below_step (zb HB.out) hb); (try clear hb); (try clear hb2); (try clear hk); (try clear hi); (try clear ho0))); try go_wp2_with (first | (go_at_call 57; (with_reducible refine (labels_parts.calls kj2 a0 t571 _ ?side1 A8.out).mono ?_); (case side1 => first | exact zG HG.out | exact G.below HG.out (zb HB.out)); rintro e w10 ⟨v572, rfl, ho0, hb⟩; have HO573 := Aside0.mk (Kd.R_lower ho0 (below_size (zb HB.out))); replace HB := Aside0.mk (below_step (zb HB.out) hb); (try clear hb); (try clear hb2); (try clear hk); (try clear hi); (try clear ho0)) | (go_at_call 58; (with_reducible refine (labels_chars.calls a1 t574 _ ?side1 A9.out).mono ?_); (case side1 => first | exact zG HG.out | exact G.below HG.out (zb HB.out)); rintro e w11 ⟨v575, rfl, ho0, hb⟩; have HO576 := Aside0.mk (Kd.R_lower (Kd.R_new' ho0 (Kd.R_lt (zr HO573.out))) (below_size (zb HB.out))); replace HO573 := Aside0.mk (Kd.R_elder' (zr HO573.out) (Kd.R_base ho0) hb); replace HB := Aside0.mk (below_step (zb HB.out) hb); (try clear hb); (try clear hb2); (try clear hk); (try clear hi); (try clear ho0))))
        go_loopg [7, 8, 9, 10] kj2 (fun kq v7 v8 v9 v10 w' => ∃ (x7_2 : Int) (x8_2 : Int) (x9_2 : Int) (x10_2 : Int), v7 = .int .i64 x7_2 ∧ v8 = .int .i64 x8_2 ∧ v9 = .int .i64 x9_2 ∧ v10 = .int .i64 x10_2 ∧ Aside0 (labels_Says.l0 kq t571 t574 x7_2 x8_2 x9_2 x10_2 = some r) ∧ Aside0 (kq ≤ kj2) ∧ Aside0 (Kd.R (Kd.int .i32) 21 w' w.heap.size (fun k_ => some k_ ≠ (v575 : Value).ownBlock) v572 t571) ∧ Aside0 (Kd.R (Kd.int .i32) 21 w' w.heap.size (fun k_ => some k_ ≠ (v572 : Value).ownBlock) v575 t574) ∧ Aside0 (Below w.heap.size w w'))
        case atStart => exact ⟨(0), (0), ((-1)), (0), zs, zs, zs, zs, H', ⟨Nat.le_refl _⟩, ⟨by (with_reducible repeat (first | apply Kd.R_alloc | apply Kd.R_drewN | apply Kd.R_drew)); exact Kd.R_mono HO573.out (fun _ hk => hk.2)⟩, ⟨by (with_reducible repeat (first | apply Kd.R_alloc | apply Kd.R_drewN | apply Kd.R_drew)); exact Kd.R_mono HO576.out (fun _ hk => hk.2)⟩, ⟨zb HB.out⟩⟩
        case round =>
          clear H'; (try clear c1); (try clear p2); (try clear c4); (try clear c4b0); (try clear c4b1); (try clear c7); (try clear p2); obtain ⟨x7_2, x8_2, x9_2, x10_2, rfl, rfl, rfl, rfl, HA, HK2, HO_5, HO_6, HB⟩ := hrel
          cases gk with
          | zero => exact absurd HA.out (by simp [labels_Says.l0])
          | succ k2 =>
            have H := HA.out; clear HA; simp only [labels_Says.l0] at H; by_cases c12 : x8_2 < (t574.length : Int)
            · rw [if_pos c12] at H
              have c12b0 : decide (x8_2 < (t574.length : Int)) = true := decide_eq_true c12; clear c12; have HC13 := Aside0.mk H; clear H; obtain ⟨Ao14, co14, eo14⟩ := Kd.R_slice HO_6.out; subst eo14; go_upto_region 8 with (fail)
              repeat (go_quiet (fail); go_upto_region 8 with (fail))
              go_cut [27] (fun v27 wc => ∃ (kq : Nat) (x27_12 : Bool), v27 = .bool x27_12 ∧ Aside0 (labels_Says.j2 kq t571 t574 x7_2 x8_2 x9_2 x10_2 x27_12 = some r) ∧ Aside0 (kq ≤ k2) ∧ Aside0 (Kd.R (Kd.int .i32) 21 wc w.heap.size (fun k_ => some k_ ≠ ((.slice Ao14 t574.length co14) : Value).ownBlock) v572 t571) ∧ Aside0 (Kd.R (Kd.int .i32) 21 wc w.heap.size (fun k_ => some k_ ≠ (v572 : Value).ownBlock) (.slice Ao14 t574.length co14) t574) ∧ Aside0 (Below w.heap.size w wc))
              case first =>
                have H := HC13.out; clear HC13; by_cases c15 : x7_2 < (t571.length : Int)
                · rw [if_pos c15] at H
                  have c15b0 : decide (x7_2 < (t571.length : Int)) = true := decide_eq_true c15; clear c15; (first | rw [c15b0] | (simp only [i64_w, i32_w]; rw [c15b0]) | skip); by_cases c16 : 0 ≤ x7_2
                  · rw [if_pos c16] at H
                    have c16b0 : decide (0 ≤ x7_2) = true := decide_eq_true c16; clear c16; have H' := Aside0.mk H; clear H; obtain ⟨Ao17, co17, eo17⟩ := Kd.R_slice HO_5.out; subst eo17; have p577 : 0 ≤ (x7_2 : Int) := zd; have q577 : x7_2 < (t571.length : Int) := zd; obtain ⟨ad577, e577, hx577_0⟩ := Kd.at_int (Kd.R_reads' HO_5.out).2.2 x7_2 p577 q577
                    cases e577; replace p577 := eq_true p577; replace q577 := eq_true q577; go_wp2
                    repeat (go_quiet (fail); try go_wp2)
                    go_meet
                    case rel => exact ⟨_, (((rd t571 x7_2) == (-3))), zs, H', ⟨by have := HJ2.out; have := HK2.out; first | omega | exact Nat.le_refl _⟩, ⟨zr HO_5.out⟩, ⟨zr HO_6.out⟩, ⟨zb HB.out⟩⟩
                  · rw [if_neg c16] at H
                    exact absurd H (by simp)
                · rw [if_neg c15] at H
                  have c15b0 : decide (x7_2 < (t571.length : Int)) = false := decide_eq_false c15; clear c15; (first | rw [c15b0] | (simp only [i64_w, i32_w]; rw [c15b0]) | skip); have H' := Aside0.mk H; clear H; obtain ⟨Ao18, co18, eo18⟩ := Kd.R_slice HO_5.out; subst eo18; go_wp2
                  repeat (go_quiet (fail); try go_wp2)
                  go_meet
                  case rel => exact ⟨_, (false), zs, H', ⟨by have := HJ2.out; have := HK2.out; first | omega | exact Nat.le_refl _⟩, ⟨zr HO_5.out⟩, ⟨zr HO_6.out⟩, ⟨zb HB.out⟩⟩
              case rest =>
                clear HC13; (try clear c1); (try clear p2); (try clear c4); (try clear c4b0); (try clear c4b1); (try clear p5); (try clear q5); (try clear hx5); (try clear c7); (try clear c12); (try clear c12b0); (try clear c15); (try clear c15b0); (try clear c16); (try clear c16b0); (try clear hx577_0); (try clear p2); (try clear p577); (try clear q577); obtain ⟨kq, x27_12, rfl, HA, HJ12, HO_5, HO_6, HB⟩ := hcut
                cases kq with
                | zero => exact absurd HA.out (by simp [labels_Says.j2])
                | succ kj12 =>
                  have H := HA.out; clear HA; simp only [labels_Says.j2] at H; by_cases c19 : x27_12 = true
                  · subst c19
                    have H1 : (labels_Says.l0 kj12 t571 t574 (wrap64 (x7_2 + 1)) x8_2 x7_2 x8_2) = some r := by rw [if_pos rfl] at H; exact H
                    clear H; have H := H1; clear H1; have H' := Aside0.mk H; clear H; go_wp2
                    repeat (go_quiet (fail); try go_wp2)
                    go_roundg kj12
                    case measure => have := HJ2.out; have := HK2.out; have := HJ12.out; omega
                    case rel => exact ⟨(wrap64 (x7_2 + 1)), (x8_2), (x7_2), (x8_2), zs, zs, zs, zs, H', ⟨by have := HJ2.out; have := HK2.out; have := HJ12.out; omega⟩, ⟨zr HO_5.out⟩, ⟨zr HO_6.out⟩, ⟨zb HB.out⟩⟩
                  · replace c19 := Bool.eq_false_iff.mpr c19
                    subst c19; have H1 : (if x7_2 < (t571.length : Int) then (if 0 ≤ x7_2 then (if (rd t571 x7_2) = (-2) then (labels_Says.j3 kj12 t571 t574 x7_2 x8_2 x9_2 x10_2 true) else (if 0 ≤ x8_2 then (if x8_2 < (t574.length : Int) then (if (rd t571 x7_2) = (rd t574 x8_2) then (labels_Says.j3 kj12 t571 t574 x7_2 x8_2 x9_2 x10_2 (decide ((rd t574 x8_2) ≥ 0))) else (labels_Says.j3 kj12 t571 t574 x7_2 x8_2 x9_2 x10_2 false)) else (none)) else (none))) else (none)) else (labels_Says.j3 kj12 t571 t574 x7_2 x8_2 x9_2 x10_2 false)) = some r := by rw [if_neg (show ¬ (false = true) by decide)] at H; exact H
                    clear H; have H := H1; clear H1; have HC20 := Aside0.mk H; clear H; go_upto_region 11 with (fail)
                    repeat (go_quiet (fail); go_upto_region 11 with (fail))
                    go_cut [43] (fun v43 wc => ∃ (kq : Nat) (x43_19 : Bool), v43 = .bool x43_19 ∧ Aside0 (labels_Says.j3 kq t571 t574 x7_2 x8_2 x9_2 x10_2 x43_19 = some r) ∧ Aside0 (kq ≤ kj12) ∧ Aside0 (Kd.R (Kd.int .i32) 21 wc w.heap.size (fun k_ => some k_ ≠ ((.slice Ao14 t574.length co14) : Value).ownBlock) v572 t571) ∧ Aside0 (Kd.R (Kd.int .i32) 21 wc w.heap.size (fun k_ => some k_ ≠ (v572 : Value).ownBlock) (.slice Ao14 t574.length co14) t574) ∧ Aside0 (Below w.heap.size w wc))
                    case first =>
                      have H := HC20.out; clear HC20; by_cases c21 : x7_2 < (t571.length : Int)
                      · rw [if_pos c21] at H
                        have c21b0 : decide (x7_2 < (t571.length : Int)) = true := decide_eq_true c21; clear c21; (first | rw [c21b0] | (simp only [i64_w, i32_w]; rw [c21b0]) | skip); by_cases c22 : 0 ≤ x7_2
                        · rw [if_pos c22] at H
                          have c22b0 : decide (0 ≤ x7_2) = true := decide_eq_true c22; clear c22; by_cases c23 : (rd t571 x7_2) = (-2)
                          · rw [if_pos c23] at H
                            have c23b0 : ((rd t571 x7_2) == (-2)) = true := beq_iff_eq.mpr c23; have c23b1 : ((rd t571 x7_2) != (-2)) = false := bne_eq_false_iff_eq.mpr c23; clear c23; have H' := Aside0.mk H; clear H; obtain ⟨Ao24, co24, eo24⟩ := Kd.R_slice HO_5.out; subst eo24; have p578 : 0 ≤ (x7_2 : Int) := zd; have q578 : x7_2 < (t571.length : Int) := zd; obtain ⟨ad578, e578, hx578_0⟩ := Kd.at_int (Kd.R_reads' HO_5.out).2.2 x7_2 p578 q578
                            cases e578; replace p578 := eq_true p578; replace q578 := eq_true q578; go_wp2
                            repeat (go_quiet (fail); try go_wp2)
                            go_meet
                            case rel => exact ⟨_, (true), zs, H', ⟨by have := HJ2.out; have := HK2.out; have := HJ12.out; first | omega | exact Nat.le_refl _⟩, ⟨zr HO_5.out⟩, ⟨zr HO_6.out⟩, ⟨zb HB.out⟩⟩
                          · rw [if_neg c23] at H
                            have c23b0 : ((rd t571 x7_2) == (-2)) = false := beq_eq_false_iff_ne.mpr c23; have c23b1 : ((rd t571 x7_2) != (-2)) = true := bne_iff_ne.mpr c23; by_cases c25 : 0 ≤ x8_2
                            · rw [if_pos c25] at H
                              have c25b0 : decide (0 ≤ x8_2) = true := decide_eq_true c25; clear c25; by_cases c26 : x8_2 < (t574.length : Int)
                              · rw [if_pos c26] at H
                                have c26b0 : decide (x8_2 < (t574.length : Int)) = true := decide_eq_true c26; clear c26; by_cases c27 : (rd t571 x7_2) = (rd t574 x8_2)
                                · rw [if_pos c27] at H
                                  have c27b0 : ((rd t571 x7_2) == (rd t574 x8_2)) = true := beq_iff_eq.mpr c27; have c27b1 : ((rd t571 x7_2) != (rd t574 x8_2)) = false := bne_eq_false_iff_eq.mpr c27; clear c27; have H' := Aside0.mk H; clear H; obtain ⟨Ao28, co28, eo28⟩ := Kd.R_slice HO_5.out; subst eo28; have p578 : 0 ≤ (x7_2 : Int) := zd; have q578 : x7_2 < (t571.length : Int) := zd; obtain ⟨ad578, e578, hx578_0⟩ := Kd.at_int (Kd.R_reads' HO_5.out).2.2 x7_2 p578 q578
                                  cases e578; replace p578 := eq_true p578; replace q578 := eq_true q578; have p579 : 0 ≤ (x7_2 : Int) := zd; have q579 : x7_2 < (t571.length : Int) := zd; obtain ⟨ad579, e579, hx579_0⟩ := Kd.at_int (Kd.R_reads' HO_5.out).2.2 x7_2 p579 q579; obtain rfl : ad578 = ad579 := (by injection e579); replace p579 := eq_true p579; replace q579 := eq_true q579; have p580 : 0 ≤ (x8_2 : Int) := zd; have q580 : x8_2 < (t574.length : Int) := zd; obtain ⟨ad580, e580, hx580_0⟩ := Kd.at_int (Kd.R_reads' HO_6.out).2.2 x8_2 p580 q580
                                  cases e580; replace p580 := eq_true p580; replace q580 := eq_true q580; have p581 : 0 ≤ (x8_2 : Int) := zd; have q581 : x8_2 < (t574.length : Int) := zd; obtain ⟨ad581, e581, hx581_0⟩ := Kd.at_int (Kd.R_reads' HO_6.out).2.2 x8_2 p581 q581; obtain rfl : ad580 = ad581 := (by injection e581); replace p581 := eq_true p581; replace q581 := eq_true q581; go_wp2
                                  repeat (go_quiet (fail); try go_wp2)
                                  go_meet
                                  case rel => exact ⟨_, (decide ((rd t574 x8_2) ≥ 0)), zs, H', ⟨by have := HJ2.out; have := HK2.out; have := HJ12.out; first | omega | exact Nat.le_refl _⟩, ⟨zr HO_5.out⟩, ⟨zr HO_6.out⟩, ⟨zb HB.out⟩⟩
                                · rw [if_neg c27] at H
                                  have c27b0 : ((rd t571 x7_2) == (rd t574 x8_2)) = false := beq_eq_false_iff_ne.mpr c27; have c27b1 : ((rd t571 x7_2) != (rd t574 x8_2)) = true := bne_iff_ne.mpr c27; have H' := Aside0.mk H; clear H; obtain ⟨Ao29, co29, eo29⟩ := Kd.R_slice HO_5.out; subst eo29; have p578 : 0 ≤ (x7_2 : Int) := zd; have q578 : x7_2 < (t571.length : Int) := zd; obtain ⟨ad578, e578, hx578_0⟩ := Kd.at_int (Kd.R_reads' HO_5.out).2.2 x7_2 p578 q578
                                  cases e578; replace p578 := eq_true p578; replace q578 := eq_true q578; have p579 : 0 ≤ (x7_2 : Int) := zd; have q579 : x7_2 < (t571.length : Int) := zd; obtain ⟨ad579, e579, hx579_0⟩ := Kd.at_int (Kd.R_reads' HO_5.out).2.2 x7_2 p579 q579; obtain rfl : ad578 = ad579 := (by injection e579); replace p579 := eq_true p579; replace q579 := eq_true q579; have p580 : 0 ≤ (x8_2 : Int) := zd; have q580 : x8_2 < (t574.length : Int) := zd; obtain ⟨ad580, e580, hx580_0⟩ := Kd.at_int (Kd.R_reads' HO_6.out).2.2 x8_2 p580 q580
                                  cases e580; replace p580 := eq_true p580; replace q580 := eq_true q580; go_wp2
                                  repeat (go_quiet (fail); try go_wp2)
                                  go_meet
                                  case rel => exact ⟨_, (false), zs, H', ⟨by have := HJ2.out; have := HK2.out; have := HJ12.out; first | omega | exact Nat.le_refl _⟩, ⟨zr HO_5.out⟩, ⟨zr HO_6.out⟩, ⟨zb HB.out⟩⟩
                              · rw [if_neg c26] at H
                                exact absurd H (by simp)
                            · rw [if_neg c25] at H
                              exact absurd H (by simp)
                        · rw [if_neg c22] at H
                          exact absurd H (by simp)
                      · rw [if_neg c21] at H
                        have c21b0 : decide (x7_2 < (t571.length : Int)) = false := decide_eq_false c21; clear c21; (first | rw [c21b0] | (simp only [i64_w, i32_w]; rw [c21b0]) | skip); have H' := Aside0.mk H; clear H; obtain ⟨Ao30, co30, eo30⟩ := Kd.R_slice HO_5.out; subst eo30; go_wp2
                        repeat (go_quiet (fail); try go_wp2)
                        go_meet
                        case rel => exact ⟨_, (false), zs, H', ⟨by have := HJ2.out; have := HK2.out; have := HJ12.out; first | omega | exact Nat.le_refl _⟩, ⟨zr HO_5.out⟩, ⟨zr HO_6.out⟩, ⟨zb HB.out⟩⟩
                    case rest =>
                      clear HC20; (try clear c1); (try clear c2); (try clear p2); (try clear c4); (try clear c4b0); (try clear c4b1); (try clear p5); (try clear q5); (try clear hx5); (try clear p6); (try clear c7); (try clear c12); (try clear c12b0); (try clear c15); (try clear c15b0); (try clear c16); (try clear c16b0); (try clear c19); (try clear c21); (try clear c21b0); (try clear c22); (try clear c22b0); (try clear c23); (try clear c23b0); (try clear c23b1); (try clear c25); (try clear c25b0); (try clear c26); (try clear c26b0); (try clear c27); (try clear c27b0); (try clear c27b1); (try clear hx577_0); (try clear hx578_0); (try clear hx579_0); (try clear hx580_0); (try clear hx581_0); (try clear p2); (try clear p5); (try clear p577); (try clear p578); (try clear p579); (try clear p580); (try clear p581); (try clear q5); (try clear q577); (try clear q578); (try clear q579); (try clear q580); (try clear q581); obtain ⟨kq, x43_19, rfl, HA, HJ19, HO_5, HO_6, HB⟩ := hcut
                      cases kq with
                      | zero => exact absurd HA.out (by simp [labels_Says.j3])
                      | succ kj19 =>
                        have H := HA.out; clear HA; simp only [labels_Says.j3] at H; by_cases c31 : x43_19 = true
                        · subst c31
                          have H1 : (labels_Says.l0 kj19 t571 t574 (wrap64 (x7_2 + 1)) (wrap64 (x8_2 + 1)) x9_2 x10_2) = some r := by rw [if_pos rfl] at H; exact H
                          clear H; have H := H1; clear H1; have H' := Aside0.mk H; clear H; go_wp2
                          repeat (go_quiet (fail); try go_wp2)
                          go_roundg kj19
                          case measure => have := HJ2.out; have := HK2.out; have := HJ12.out; have := HJ19.out; omega
                          case rel => exact ⟨(wrap64 (x7_2 + 1)), (wrap64 (x8_2 + 1)), (x9_2), (x10_2), zs, zs, zs, zs, H', ⟨by have := HJ2.out; have := HK2.out; have := HJ12.out; have := HJ19.out; omega⟩, ⟨zr HO_5.out⟩, ⟨zr HO_6.out⟩, ⟨zb HB.out⟩⟩
                        · replace c31 := Bool.eq_false_iff.mpr c31
                          subst c31; have H1 : (if x9_2 ≥ 0 then (labels_Says.l0 kj19 t571 t574 (wrap64 (x9_2 + 1)) (wrap64 (x10_2 + 1)) x9_2 (wrap64 (x10_2 + 1))) else (some false)) = some r := by rw [if_neg (show ¬ (false = true) by decide)] at H; exact H
                          clear H; have H := H1; clear H1; by_cases c32 : x9_2 ≥ 0
                          · rw [if_pos c32] at H
                            have c32b0 : decide (0 ≤ x9_2) = true := decide_eq_true c32; clear c32; have H' := Aside0.mk H; clear H; go_wp2
                            repeat (go_quiet (fail); try go_wp2)
                            go_roundg kj19
                            case measure => have := HJ2.out; have := HK2.out; have := HJ12.out; have := HJ19.out; omega
                            case rel => exact ⟨(wrap64 (x9_2 + 1)), (wrap64 (x10_2 + 1)), (x9_2), (wrap64 (x10_2 + 1)), zs, zs, zs, zs, H', ⟨by have := HJ2.out; have := HK2.out; have := HJ12.out; have := HJ19.out; omega⟩, ⟨zr HO_5.out⟩, ⟨zr HO_6.out⟩, ⟨zb HB.out⟩⟩
                          · rw [if_neg c32] at H
                            have c32b0 : decide (0 ≤ x9_2) = false := decide_eq_false c32; clear c32; obtain rfl := Option.some.inj H; go_wp2
                            repeat (go_quiet (fail); try go_wp2)
                            go_ret
                            exact ⟨ze, zb HB.out⟩
            · rw [if_neg c12] at H
              have c12b0 : decide (x8_2 < (t574.length : Int)) = false := decide_eq_false c12; clear c12; have H' := Aside0.mk H; clear H; obtain ⟨Ao33, co33, eo33⟩ := Kd.R_slice HO_6.out; subst eo33; go_wp2
              repeat (go_quiet (fail); try go_wp2)
              go_loopg [7] k2 (fun kq v7 w' => ∃ (x7_3 : Int), v7 = .int .i64 x7_3 ∧ Aside0 (labels_Says.l1 kq t571 x7_3 = some r) ∧ Aside0 (kq ≤ k2) ∧ Aside0 (Kd.R (Kd.int .i32) 21 w' w.heap.size (fun _ => True) v572 t571) ∧ Aside0 (Below w.heap.size w w'))
              case atStart => exact ⟨(x7_2), zs, H', ⟨Nat.le_refl _⟩, ⟨by (with_reducible repeat (first | apply Kd.R_alloc | apply Kd.R_drewN | apply Kd.R_drew)); exact Kd.R_mono HO_5.out (fun _ hk => trivial)⟩, ⟨zb HB.out⟩⟩
              case round =>
                clear H'; (try clear c1); (try clear c2); (try clear p2); (try clear c3); (try clear c4); (try clear c4b0); (try clear c4b1); (try clear p5); (try clear q5); (try clear hx5); (try clear p6); (try clear c7); (try clear c12); (try clear c12b0); (try clear c15); (try clear c15b0); (try clear c16); (try clear c16b0); (try clear c19); (try clear c21); (try clear c21b0); (try clear c22); (try clear c22b0); (try clear c23); (try clear c23b0); (try clear c23b1); (try clear c25); (try clear c25b0); (try clear c26); (try clear c26b0); (try clear c27); (try clear c27b0); (try clear c27b1); (try clear c31); (try clear c32); (try clear c32b0); (try clear hx577_0); (try clear hx578_0); (try clear hx579_0); (try clear hx580_0); (try clear hx581_0); (try clear p2); (try clear p5); (try clear p577); (try clear p578); (try clear p579); (try clear p580); (try clear p581); (try clear p6); (try clear q5); (try clear q577); (try clear q578); (try clear q579); (try clear q580); (try clear q581); obtain ⟨x7_3, rfl, HA, HK3, HO_5, HB⟩ := hrel
                cases gk with
                | zero => exact absurd HA.out (by simp [labels_Says.l1])
                | succ k3 =>
                  have H := HA.out; clear HA; simp only [labels_Says.l1] at H; by_cases c34 : x7_3 < (t571.length : Int)
                  · rw [if_pos c34] at H
                    have c34b0 : decide (x7_3 < (t571.length : Int)) = true := decide_eq_true c34; clear c34; by_cases c35 : 0 ≤ x7_3
                    · rw [if_pos c35] at H
                      have c35b0 : decide (0 ≤ x7_3) = true := decide_eq_true c35; clear c35; by_cases c36 : (rd t571 x7_3) = (-3)
                      · rw [if_pos c36] at H
                        have c36b0 : ((rd t571 x7_3) == (-3)) = true := beq_iff_eq.mpr c36; have c36b1 : ((rd t571 x7_3) != (-3)) = false := bne_eq_false_iff_eq.mpr c36; clear c36; have H' := Aside0.mk H; clear H; obtain ⟨Ao37, co37, eo37⟩ := Kd.R_slice HO_5.out; subst eo37; have p582 : 0 ≤ (x7_3 : Int) := zd; have q582 : x7_3 < (t571.length : Int) := zd; obtain ⟨ad582, e582, hx582_0⟩ := Kd.at_int (Kd.R_reads' HO_5.out).2.2 x7_3 p582 q582
                        cases e582; replace p582 := eq_true p582; replace q582 := eq_true q582; go_wp2
                        repeat (go_quiet (fail); try go_wp2)
                        go_roundg k3
                        case measure => have := HJ2.out; have := HK2.out; have := HK3.out; omega
                        case rel => exact ⟨(wrap64 (x7_3 + 1)), zs, H', ⟨by have := HJ2.out; have := HK2.out; have := HK3.out; omega⟩, ⟨zr HO_5.out⟩, ⟨zb HB.out⟩⟩
                      · rw [if_neg c36] at H
                        have c36b0 : ((rd t571 x7_3) == (-3)) = false := beq_eq_false_iff_ne.mpr c36; have c36b1 : ((rd t571 x7_3) != (-3)) = true := bne_iff_ne.mpr c36; obtain rfl := Option.some.inj H; obtain ⟨Ao38, co38, eo38⟩ := Kd.R_slice HO_5.out; subst eo38; have p582 : 0 ≤ (x7_3 : Int) := zd; have q582 : x7_3 < (t571.length : Int) := zd; obtain ⟨ad582, e582, hx582_0⟩ := Kd.at_int (Kd.R_reads' HO_5.out).2.2 x7_3 p582 q582
                        cases e582; replace p582 := eq_true p582; replace q582 := eq_true q582; go_wp2
                        repeat (go_quiet (fail); try go_wp2)
                        go_ret
                        exact ⟨ze, zb HB.out⟩
                    · rw [if_neg c35] at H
                      exact absurd H (by simp)
                  · rw [if_neg c34] at H
                    have c34b0 : decide (x7_3 < (t571.length : Int)) = false := decide_eq_false c34; clear c34; obtain rfl := Option.some.inj H; obtain ⟨Ao39, co39, eo39⟩ := Kd.R_slice HO_5.out; subst eo39; go_wp2
                    repeat (go_quiet (fail); try go_wp2)
                    go_ret
                    exact ⟨ze, zb HB.out⟩

end Go.Proofs.YtogegkfefpgbcaaDoor.PL
