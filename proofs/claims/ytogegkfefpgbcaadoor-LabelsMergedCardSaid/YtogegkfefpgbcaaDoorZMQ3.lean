/- Functions of the labels (packed). -/
import Derived.Test.YtogegkfefpgbcaaDoorZMPLx0
import Derived.Test.YtogegkfefpgbcaaDoorZMPLx1
import Derived.Test.YtogegkfefpgbcaaDoorZMPLx2
import Derived.Test.YtogegkfefpgbcaaDoorZMQ1
import Derived.Test.YtogegkfefpgbcaaDoorZMQ2
namespace Go.Proofs.YtogegkfefpgbcaaDoor.PL
open Go.RowKit Go.Proofs.YtogegkfefpgbcaaDoorW.PrintWords Go.Proofs.YtogegkfefpgbcaaDoorW.PrintLast Go.Proofs.YtogegkfefpgbcaaDoorW.PrintMore
attribute [local go_sem] max2_int min2_int max_two min_two max_three min_three max_four min_four   -- for this text's walks alone
set_option linter.unusedVariables false
set_option linter.unusedSimpArgs false
attribute [local go_sem high] eqA59
attribute [local go_sem high] eqA36

/-! ### labels_chosen: function 78 -/
def labels_chosen.l0 : Nat → List ByteArray → Bool → List (S59) → List (S59) → Int → Int → Option ((List (S59)))
  | 0, _, _, _, _, _, _ => none
  | k + 1, x1, x2, x7, x10, x11, x12 => if x12 < x11 then (if 0 ≤ x12 then (if x12 < (x10.length : Int) then ((slices_Contains_string_string.f k x1 ((rd_T59 x10 x12).f0)).bind fun t814 => (if (t814 == x2) = true then (if x7.length < 4398046511104 then (labels_chosen.l0 k x1 x2 (x7 ++ [(⟨(rd_T59 x10 x12).f0, (rd_T59 x10 x12).f1⟩ : S59)]) x10 x11 (wrap64 (x12 + 1))) else (none)) else (labels_chosen.l0 k x1 x2 x7 x10 x11 (wrap64 (x12 + 1))))) else (none)) else (none)) else (some x7)
def labels_chosen.f (k : Nat) (l0 : List (S59)) (l1 : List ByteArray) (a2 : Bool) : Option ((List (S59))) := labels_chosen.l0 k l1 a2 ([] : List (S59)) l0 (l0.length : Int) 0
set_option maxHeartbeats 8000000 in
set_option maxRecDepth 100000 in
theorem labels_chosen.calls (k : Nat) (A0 : Option Addr) (c0 : Nat) (l0 : List (S59)) (A1 : Option Addr) (c1 : Nat) (l1 : List ByteArray) (a2 : Bool) (r : List (S59)) (w : World) (hr0 : Kd.C k59 w A0 l0.length l0) (hc0 : l0.length ≤ c0) (hr1 : Kd.C Kd.string w A1 l1.length l1) (hc1 : l1.length ≤ c1) (h : labels_chosen.f k l0 l1 a2 = some r) :
    Calls Tryd.prog 78 #[.slice A0 l0.length c0, .slice A1 l1.length c1, .bool a2] w fun e w' => ∃ v0_ : Value, e = .returned (v0_) ∧ Kd.R k59 59 w' w.heap.size (fun _ => True) v0_ r ∧ Below w.heap.size w w' := by
  have hu59 := Tryd.underlying59
  have HR0 := Aside0.mk hr0
  have HC0 := Aside0.mk hc0
  clear hr0 hc0
  have HR1 := Aside0.mk hr1
  have HC1 := Aside0.mk hc1
  clear hr1 hc1
  have HB := Aside0.mk (Below.refl w.heap.size w)
  have H : (labels_chosen.l0 k l1 a2 ([] : List (S59)) l0 (l0.length : Int) 0) = some r := h
  clear h
  have H' := Aside0.mk H
  clear H
  go_enter Tryd.func78, Tryd.ntmps78
  go_wp2
  go_loopg [7, 12] k (fun kq v7 v12 w' => ∃ (x7_1 : List (S59)) (x12_1 : Int), v12 = .int .i64 x12_1 ∧ Aside0 (labels_chosen.l0 kq l1 a2 x7_1 l0 (l0.length : Int) x12_1 = some r) ∧ Aside0 (kq ≤ k) ∧ Aside0 (Kd.R k59 59 w' w.heap.size (fun _ => True) v7 x7_1) ∧ Aside0 (Below w.heap.size w w'))
  case atStart => exact ⟨(([] : List (S59))), (0), zs, H', ⟨Nat.le_refl _⟩, ⟨by first | exact Kd.R_nil _ _ _ _ _ | exact Kd.N_nil _ _ _ _ _ | exact Kd.V_nil _ _ _ _ _ | exact Kd.Q_nil _ _ _ _ _ | exact Kd.S_nil _ _ _ _ _⟩, ⟨zb HB.out⟩⟩
  case round =>
    clear H'
    try clear c1
    try clear p2
    obtain ⟨x7_1, x12_1, rfl, HA, HK1, HO_7, HB⟩ := hrel
    cases gk with
    | zero => exact absurd HA.out (by simp [labels_chosen.l0])
    | succ k1 =>
      have H := HA.out
      clear HA
      simp only [labels_chosen.l0] at H
      by_cases c4 : x12_1 < (l0.length : Int)
      · rw [if_pos c4] at H
        have c4b0 : decide (x12_1 < (l0.length : Int)) = true := decide_eq_true c4
        clear c4
        by_cases c5 : 0 ≤ x12_1
        · rw [if_pos c5] at H
          have c5b0 : decide (0 ≤ x12_1) = true := decide_eq_true c5
          clear c5
          by_cases c6 : x12_1 < (l0.length : Int)
          · rw [if_pos c6] at H
            have c6b0 : decide (x12_1 < (l0.length : Int)) = true := decide_eq_true c6
            clear c6
            replace H := Option.bind_eq_some_iff.mp H
            obtain ⟨t814, A70, H⟩ := H
            replace H : (if (t814 == a2) = true then (if x7_1.length < 4398046511104 then (labels_chosen.l0 k1 l1 a2 (x7_1 ++ [(⟨(rd_T59 l0 x12_1).f0, (rd_T59 l0 x12_1).f1⟩ : S59)]) l0 (l0.length : Int) (wrap64 (x12_1 + 1))) else (none)) else (labels_chosen.l0 k1 l1 a2 x7_1 l0 (l0.length : Int) (wrap64 (x12_1 + 1)))) = some r := H
            have A7 := Aside0.mk A70
            clear A70
            by_cases c8 : (t814 == a2) = true
            · rw [if_pos c8] at H
              have c8b0 : (t814 == a2) = true := c8
              (try (have c8b1 : decide (t814 = a2) = true := by simpa using c8))
              (try (have c8b2 : (t814 == a2) = true := by simpa using c8))
              clear c8
              by_cases c9 : x7_1.length < 4398046511104
              · rw [if_pos c9] at H
                have LMc9 := Aside0.mk c9
                clear c9
                obtain ⟨y815, hy815⟩ : ∃ y_ : List (S59), y_ = (x7_1 ++ [(⟨(rd_T59 l0 x12_1).f0, (rd_T59 l0 x12_1).f1⟩ : S59)]) := ⟨_, rfl⟩
                replace H : (labels_chosen.l0 k1 l1 a2 y815 l0 (l0.length : Int) (wrap64 (x12_1 + 1))) = some r := by first | (rw [hy815]; with_reducible exact H) | (have H2_ := (Option.bind_some _ _).symm.trans H; rw [hy815]; with_reducible exact H2_) | (have H2_ := (Option.bind_some _ _).symm.trans H; with_reducible exact H2_) | with_reducible exact H | (rw [hy815]; exact H) | exact H
                have Ny815 := Aside0.mk hy815
                clear hy815
                have H' := Aside0.mk H
                clear H
                have p812 : 0 ≤ (x12_1 : Int) := of_decide_eq_true za
                have q812 : x12_1 < (l0.length : Int) := of_decide_eq_true za
                obtain ⟨ad812, e812, hx812_0, hx812_1⟩ := at_T59 HR0.out x12_1 p812 q812
                cases e812
                replace hx812_0 := (HB.out.cell (World.block_lt_of_cell? w _ hx812_0)).trans hx812_0
                replace hx812_1 := (HB.out.cell (World.block_lt_of_cell? w _ hx812_1)).trans hx812_1
                replace p812 := eq_true p812
                replace q812 := eq_true q812
                go_wp2_with (first | ((with_reducible refine gate_dst (N := 9) rfl ?_); refine box_event ?hg (N := 9) ?hd (cs := #[.string (⟨#[]⟩ : ByteArray), .string (⟨#[]⟩ : ByteArray)]) (t := 59) ?hr ?_; (case hd => rfl); (case hg => rfl); (case hr => first | (go_simp; done) | (go_simp; rfl)); intro gb813 hg w10 hbox hb; have n0_ := Aside0.mk (Kd.R_below (Kd.R_elderB (zr HO_7.out) gb813 (Nat.le_of_eq hg.symm)) hb); have n1_ := Aside0.mk (below_step (zb HB.out) hb); have n2_ := Aside0.mk (hbox); have n3_ := Aside0.mk ((by rw [hg]; exact (below_size (zb HB.out)) : w.heap.size ≤ gb813)); have n4_ := Aside0.mk ((by rw [hg]; exact (below_size (zb HB.out)) : w.heap.size ≤ gb813)); clear HO_7; clear HB; have HO_7 := n0_; have HB := n1_; have BK813 := n2_; have GW813 := n3_; have GE813 := n4_; clear n0_ n1_ n2_ n3_ n4_; clear hb hbox hg; have hcz11_0 : w10.cell? ⟨gb813, 0, none⟩ = some (.string (⟨#[]⟩ : ByteArray)) := (blk_cell BK813.out 0).trans rfl; have hcz11_1 : w10.cell? ⟨gb813, 1, none⟩ = some (.string (⟨#[]⟩ : ByteArray)) := (blk_cell BK813.out 1).trans rfl; have hfz11_0 := blk_frozen BK813.out 0; have hfz11_1 := blk_frozen BK813.out 1) | ((with_reducible refine gate_callee (f := 93) rfl ?_); refine goesL_ (some 19) rfl rfl Tryd.func93 (by kernel_rfl) rfl #[.slice A1 l1.length c1, .string ((rd_T59 l0 x12_1).f0)] rfl zl ?_; (with_reducible refine (slices_Contains_string_string.calls k1 _ _ l1 ((rd_T59 l0 x12_1).f0) t814 _ ?side1 ?side2 A7.out).mono ?_); (case side1 => exact Kd.C_below HR1.out (by repeat (first | (with_reducible first | exact HB.out | apply below_alloc | apply pw_below_drewN | apply below_drew1 | refine below_set ?_ GE813.out) | exact HB.out))); (case side2 => exact HC1.out); rintro e w' ⟨rfl, ⟨nd, rfl⟩⟩; refine ⟨_, rfl, ?_⟩) | ((with_reducible refine gate_builtin (b := .append) (xs := #[.tmp 22, .tmp 24]) rfl ?_); at_builtin; refine Kd.R_append k59 (w0 := w) w.heap.size rfl (.tmp 22) (.tmp 24) 22 59 (.agg #[(.string ⟨#[]⟩), (.string ⟨#[]⟩)]) 32 rfl Tryd.underlying22 info59 rfl (by decide) (by omega) u7 x7_1 (⟨(rd_T59 l0 x12_1).f0, (rd_T59 l0 x12_1).f1⟩ : S59) [.string ((rd_T59 l0 x12_1).f0), .string ((rd_T59 l0 x12_1).f1)] (fun k_ => k_ ≠ gb813) (fun _ => False) rfl (by first | (go_simp; done) | (go_simp; rfl)) ?aP (fun _ hk => hk.elim) ?aF ?aO ?aB ?aS ?aL ?_; (case aP => exact k59_mkM _ _ _ (⟨(rd_T59 l0 x12_1).f0, (rd_T59 l0 x12_1).f1⟩ : S59)); (case aB => exact (by repeat (first | (with_reducible first | exact HB.out | apply below_alloc | apply pw_below_drewN | apply below_drew1 | refine below_set ?_ GE813.out) | exact HB.out))); (case aF => exact (fun k_ hk => Kd.freshB (g := gb813) (o := .cells #[.string ((rd_T59 l0 x12_1).f0), .string ((rd_T59 l0 x12_1).f1)] 59 (0, 0)) (by (with_reducible repeat (first | refine blk_drewN ?_ _ | refine blk_drew ?_ | refine blk_alloc ?_ _)); refine blk_put (cs := #[.string ((rd_T59 l0 x12_1).f0), .string (⟨#[]⟩ : ByteArray)]) ?_ 1 _ rfl; (with_reducible repeat (first | refine blk_drewN ?_ _ | refine blk_drew ?_ | refine blk_alloc ?_ _)); refine blk_put (cs := #[.string (⟨#[]⟩ : ByteArray), .string (⟨#[]⟩ : ByteArray)]) ?_ 0 _ rfl; (with_reducible repeat (first | refine blk_drewN ?_ _ | refine blk_drew ?_ | refine blk_alloc ?_ _)); exact BK813.out) k_ hk)); (case aO => exact (by (with_reducible repeat (first | apply Kd.R_alloc | apply Kd.R_drewN | apply Kd.R_drew)); exact Kd.R_mono (Kd.R_far (p := ⟨gb813, 1, none⟩) (Kd.R_far (p := ⟨gb813, 0, none⟩) (Kd.R_mono HO_7.out (fun k_ hk => (⟨hk, hk.2⟩ : _ ∧ k_ ≠ gb813))) (fun _ hk => hk.2) (.string ((rd_T59 l0 x12_1).f0))) (fun _ hk => hk.2) (.string ((rd_T59 l0 x12_1).f1))) (fun _ hk => hk.1.2))); (case aS => exact (below_size (by repeat (first | (with_reducible first | exact HB.out | apply below_alloc | apply pw_below_drewN | apply below_drew1 | refine below_set ?_ GE813.out) | exact HB.out)))); (case aL => have := LMc9.out; omega); intro v816 w12 ho hb hg hat; rw [← Ny815.out] at ho; have n0_ := Aside0.mk (blk_grown (g := gb813) (o := .cells #[.string ((rd_T59 l0 x12_1).f0), .string ((rd_T59 l0 x12_1).f1)] 59 (0, 0)) (by (with_reducible repeat (first | refine blk_drewN ?_ _ | refine blk_drew ?_ | refine blk_alloc ?_ _)); refine blk_put (cs := #[.string ((rd_T59 l0 x12_1).f0), .string (⟨#[]⟩ : ByteArray)]) ?_ 1 _ rfl; (with_reducible repeat (first | refine blk_drewN ?_ _ | refine blk_drew ?_ | refine blk_alloc ?_ _)); refine blk_put (cs := #[.string (⟨#[]⟩ : ByteArray), .string (⟨#[]⟩ : ByteArray)]) ?_ 0 _ rfl; (with_reducible repeat (first | refine blk_drewN ?_ _ | refine blk_drew ?_ | refine blk_alloc ?_ _)); exact BK813.out) hg (Kd.R_away HO_7.out (fun _ hk => hk.2))); have n1_ := Aside0.mk (hb); have n2_ := Aside0.mk (ho); clear BK813; clear HB; clear HO_7; have BK813 := n0_; have HB := n1_; have HO817 := n2_; clear n0_ n1_ n2_; clear ho hb hg hat))
                go_roundg k1
                case measure => have := HK1.out; omega
                case rel => exact ⟨(y815), (wrap64 (x12_1 + 1)), zs, H', ⟨by have := HK1.out; omega⟩, ⟨by (with_reducible repeat (first | apply Kd.R_alloc | apply Kd.R_drewN | apply Kd.R_drew)); exact Kd.R_mono HO817.out (fun _ hk => trivial)⟩, ⟨by repeat (first | (with_reducible first | exact HB.out | apply below_alloc | apply pw_below_drewN | apply below_drew1 | refine below_set ?_ GE813.out) | exact HB.out)⟩⟩
              · rw [if_neg c9] at H
                exact absurd H (by simp)
            · rw [if_neg c8] at H
              have c8b0 : (t814 == a2) = false := by simpa using c8
              (try (have c8b1 : decide (t814 = a2) = false := by simpa using c8))
              (try (have c8b2 : (t814 == a2) = false := by simpa using c8))
              (try (have c8b3 : ¬ (t814 = a2) := by simpa using c8))
              clear c8
              have H' := Aside0.mk H
              clear H
              have p812 : 0 ≤ (x12_1 : Int) := of_decide_eq_true za
              have q812 : x12_1 < (l0.length : Int) := of_decide_eq_true za
              obtain ⟨ad812, e812, hx812_0, hx812_1⟩ := at_T59 HR0.out x12_1 p812 q812
              cases e812
              replace hx812_0 := (HB.out.cell (World.block_lt_of_cell? w _ hx812_0)).trans hx812_0
              replace hx812_1 := (HB.out.cell (World.block_lt_of_cell? w _ hx812_1)).trans hx812_1
              replace p812 := eq_true p812
              replace q812 := eq_true q812
              go_wp2_with (first | ((with_reducible refine gate_dst (N := 9) rfl ?_); refine box_event ?hg (N := 9) ?hd (cs := #[.string (⟨#[]⟩ : ByteArray), .string (⟨#[]⟩ : ByteArray)]) (t := 59) ?hr ?_; (case hd => rfl); (case hg => rfl); (case hr => first | (go_simp; done) | (go_simp; rfl)); intro gb813 hg w13 hbox hb; have n0_ := Aside0.mk (Kd.R_below (Kd.R_elderB (zr HO_7.out) gb813 (Nat.le_of_eq hg.symm)) hb); have n1_ := Aside0.mk (below_step (zb HB.out) hb); have n2_ := Aside0.mk (hbox); have n3_ := Aside0.mk ((by rw [hg]; exact (below_size (zb HB.out)) : w.heap.size ≤ gb813)); have n4_ := Aside0.mk ((by rw [hg]; exact (below_size (zb HB.out)) : w.heap.size ≤ gb813)); clear HO_7; clear HB; have HO_7 := n0_; have HB := n1_; have BK813 := n2_; have GW813 := n3_; have GE813 := n4_; clear n0_ n1_ n2_ n3_ n4_; clear hb hbox hg; have hcz14_0 : w13.cell? ⟨gb813, 0, none⟩ = some (.string (⟨#[]⟩ : ByteArray)) := (blk_cell BK813.out 0).trans rfl; have hcz14_1 : w13.cell? ⟨gb813, 1, none⟩ = some (.string (⟨#[]⟩ : ByteArray)) := (blk_cell BK813.out 1).trans rfl; have hfz14_0 := blk_frozen BK813.out 0; have hfz14_1 := blk_frozen BK813.out 1) | ((with_reducible refine gate_callee (f := 93) rfl ?_); refine goesL_ (some 19) rfl rfl Tryd.func93 (by kernel_rfl) rfl #[.slice A1 l1.length c1, .string ((rd_T59 l0 x12_1).f0)] rfl zl ?_; (with_reducible refine (slices_Contains_string_string.calls k1 _ _ l1 ((rd_T59 l0 x12_1).f0) t814 _ ?side1 ?side2 A7.out).mono ?_); (case side1 => exact Kd.C_below HR1.out (by repeat (first | (with_reducible first | exact HB.out | apply below_alloc | apply pw_below_drewN | apply below_drew1 | refine below_set ?_ GE813.out) | exact HB.out))); (case side2 => exact HC1.out); rintro e w' ⟨rfl, ⟨nd, rfl⟩⟩; refine ⟨_, rfl, ?_⟩))
              go_roundg k1
              case measure => have := HK1.out; omega
              case rel => exact ⟨(x7_1), (wrap64 (x12_1 + 1)), zs, H', ⟨by have := HK1.out; omega⟩, ⟨by (with_reducible repeat (first | apply Kd.R_alloc | apply Kd.R_drewN | apply Kd.R_drew)); exact Kd.R_mono (Kd.R_far (p := ⟨gb813, 1, none⟩) (Kd.R_far (p := ⟨gb813, 0, none⟩) (Kd.R_mono HO_7.out (fun k_ hk => (⟨hk, hk.2⟩ : _ ∧ k_ ≠ gb813))) (fun _ hk => hk.2) (.string ((rd_T59 l0 x12_1).f0))) (fun _ hk => hk.2) (.string ((rd_T59 l0 x12_1).f1))) (fun _ hk => trivial)⟩, ⟨by repeat (first | (with_reducible first | exact HB.out | apply below_alloc | apply pw_below_drewN | apply below_drew1 | refine below_set ?_ GE813.out) | exact HB.out)⟩⟩
          · rw [if_neg c6] at H
            exact absurd H (by simp)
        · rw [if_neg c5] at H
          exact absurd H (by simp)
      · rw [if_neg c4] at H
        have c4b0 : decide (x12_1 < (l0.length : Int)) = false := decide_eq_false c4
        clear c4
        obtain rfl := Option.some.inj H
        go_wp2
        go_ret
        exact ⟨_, ze, zr HO_7.out, zb HB.out⟩

/-! ### labels_Keep: function 38 -/
def labels_Keep.f (k : Nat) (l0 : List (S59)) (l1 : List ByteArray) : Option ((List (S59))) := (labels_chosen.f k l0 l1 true).bind fun t818 => (some t818)
set_option maxHeartbeats 8000000 in
set_option maxRecDepth 100000 in
theorem labels_Keep.calls (k : Nat) (A0 : Option Addr) (c0 : Nat) (l0 : List (S59)) (A1 : Option Addr) (c1 : Nat) (l1 : List ByteArray) (r : List (S59)) (w : World) (hr0 : Kd.C k59 w A0 l0.length l0) (hc0 : l0.length ≤ c0) (hr1 : Kd.C Kd.string w A1 l1.length l1) (hc1 : l1.length ≤ c1) (h : labels_Keep.f k l0 l1 = some r) :
    Calls Tryd.prog 38 #[.slice A0 l0.length c0, .slice A1 l1.length c1] w fun e w' => ∃ v0_ : Value, e = .returned (v0_) ∧ Kd.R k59 59 w' w.heap.size (fun _ => True) v0_ r ∧ Below w.heap.size w w' := by
  have HR0 := Aside0.mk hr0
  have HC0 := Aside0.mk hc0
  clear hr0 hc0
  have HR1 := Aside0.mk hr1
  have HC1 := Aside0.mk hc1
  clear hr1 hc1
  have HB := Aside0.mk (Below.refl w.heap.size w)
  have H : ((labels_chosen.f k l0 l1 true).bind fun t818 => (some t818)) = some r := h
  clear h
  replace H := Option.bind_eq_some_iff.mp H
  obtain ⟨t818, A30, H⟩ := H
  replace H : (some t818) = some r := H
  have A3 := Aside0.mk A30
  clear A30
  obtain rfl := Option.some.inj H
  go_enter Tryd.func38, Tryd.ntmps38
  go_wp2_with (first | ((with_reducible refine gate_callee (f := 78) rfl ?_); refine goesL_ (some 7) rfl rfl Tryd.func78 (by kernel_rfl) rfl #[.slice A0 l0.length c0, .slice A1 l1.length c1, .bool true] rfl zl ?_; (with_reducible refine (labels_chosen.calls k _ _ l0 _ _ l1 true t818 _ ?side1 ?side2 ?side3 ?side4 A3.out).mono ?_); (case side1 => repeat (first | exact HR0.out | (with_reducible refine Kd.C_alloc ?_ _) | (with_reducible refine Kd.C_drewN ?_ _) | (with_reducible refine Kd.C_drew ?_))); (case side2 => exact HC0.out); (case side3 => repeat (first | exact HR1.out | (with_reducible refine Kd.C_alloc ?_ _) | (with_reducible refine Kd.C_drewN ?_ _) | (with_reducible refine Kd.C_drew ?_))); (case side4 => exact HC1.out); rintro e w4 ⟨v819, rfl, ho0, hb⟩; refine ⟨_, rfl, ?_⟩; have n0_ := Aside0.mk (Kd.R_lower ho0 (below_size (zb HB.out))); have n1_ := Aside0.mk (below_step (zb HB.out) hb); clear HB; have HO820 := n0_; have HB := n1_; clear n0_ n1_; (try clear hb); (try clear hb2); (try clear hk); (try clear hi); (try clear ho0)))
  go_ret
  exact ⟨_, ze, zr HO820.out, zb HB.out⟩

/-! ### labels_Without: function 39 -/
def labels_Without.f (k : Nat) (l0 : List (S59)) (l1 : List ByteArray) : Option ((List (S59))) := (labels_chosen.f k l0 l1 false).bind fun t821 => (some t821)
set_option maxHeartbeats 8000000 in
set_option maxRecDepth 100000 in
theorem labels_Without.calls (k : Nat) (A0 : Option Addr) (c0 : Nat) (l0 : List (S59)) (A1 : Option Addr) (c1 : Nat) (l1 : List ByteArray) (r : List (S59)) (w : World) (hr0 : Kd.C k59 w A0 l0.length l0) (hc0 : l0.length ≤ c0) (hr1 : Kd.C Kd.string w A1 l1.length l1) (hc1 : l1.length ≤ c1) (h : labels_Without.f k l0 l1 = some r) :
    Calls Tryd.prog 39 #[.slice A0 l0.length c0, .slice A1 l1.length c1] w fun e w' => ∃ v0_ : Value, e = .returned (v0_) ∧ Kd.R k59 59 w' w.heap.size (fun _ => True) v0_ r ∧ Below w.heap.size w w' := by
  have HR0 := Aside0.mk hr0
  have HC0 := Aside0.mk hc0
  clear hr0 hc0
  have HR1 := Aside0.mk hr1
  have HC1 := Aside0.mk hc1
  clear hr1 hc1
  have HB := Aside0.mk (Below.refl w.heap.size w)
  have H : ((labels_chosen.f k l0 l1 false).bind fun t821 => (some t821)) = some r := h
  clear h
  replace H := Option.bind_eq_some_iff.mp H
  obtain ⟨t821, A30, H⟩ := H
  replace H : (some t821) = some r := H
  have A3 := Aside0.mk A30
  clear A30
  obtain rfl := Option.some.inj H
  go_enter Tryd.func39, Tryd.ntmps39
  go_wp2_with (first | ((with_reducible refine gate_callee (f := 78) rfl ?_); refine goesL_ (some 7) rfl rfl Tryd.func78 (by kernel_rfl) rfl #[.slice A0 l0.length c0, .slice A1 l1.length c1, .bool false] rfl zl ?_; (with_reducible refine (labels_chosen.calls k _ _ l0 _ _ l1 false t821 _ ?side1 ?side2 ?side3 ?side4 A3.out).mono ?_); (case side1 => repeat (first | exact HR0.out | (with_reducible refine Kd.C_alloc ?_ _) | (with_reducible refine Kd.C_drewN ?_ _) | (with_reducible refine Kd.C_drew ?_))); (case side2 => exact HC0.out); (case side3 => repeat (first | exact HR1.out | (with_reducible refine Kd.C_alloc ?_ _) | (with_reducible refine Kd.C_drewN ?_ _) | (with_reducible refine Kd.C_drew ?_))); (case side4 => exact HC1.out); rintro e w4 ⟨v822, rfl, ho0, hb⟩; refine ⟨_, rfl, ?_⟩; have n0_ := Aside0.mk (Kd.R_lower ho0 (below_size (zb HB.out))); have n1_ := Aside0.mk (below_step (zb HB.out) hb); clear HB; have HO823 := n0_; have HB := n1_; clear n0_ n1_; (try clear hb); (try clear hb2); (try clear hk); (try clear hi); (try clear ho0)))
  go_ret
  exact ⟨_, ze, zr HO823.out, zb HB.out⟩

end Go.Proofs.YtogegkfefpgbcaaDoor.PL
