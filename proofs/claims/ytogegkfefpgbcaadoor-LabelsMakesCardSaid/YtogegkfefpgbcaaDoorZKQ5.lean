/- Functions of the labels (packed). -/
import Derived.Test.YtogegkfefpgbcaaDoorZKPLx0
import Derived.Test.YtogegkfefpgbcaaDoorZKPLx1
import Derived.Test.YtogegkfefpgbcaaDoorZKPLx2
import Derived.Test.YtogegkfefpgbcaaDoorZKQ1
import Derived.Test.YtogegkfefpgbcaaDoorZKQ2
import Derived.Test.YtogegkfefpgbcaaDoorZKHB
import Derived.Test.YtogegkfefpgbcaaDoorZKHG0
import Derived.Test.YtogegkfefpgbcaaDoorZKPD
import Derived.Test.YtogegkfefpgbcaaDoorZKShelf
import Derived.Test.YtogegkfefpgbcaaDoorZKHA
import Derived.Test.YtogegkfefpgbcaaDoorZKHD
import Derived.Test.YtogegkfefpgbcaaDoorZKLC
import Derived.Test.YtogegkfefpgbcaaDoorZKLB
import Derived.Test.YtogegkfefpgbcaaDoorZKLD
import Derived.Test.YtogegkfefpgbcaaDoorZKQ3
import Derived.Test.YtogegkfefpgbcaaDoorZKQ4
import Derived.Test.YtogegkfefpgbcaaDoorZKHI
import Derived.Test.YtogegkfefpgbcaaDoorZKPA
import Derived.Test.YtogegkfefpgbcaaDoorZKHF
namespace Go.Proofs.YtogegkfefpgbcaaDoor.PL
open Go.RowKit Go.Proofs.YtogegkfefpgbcaaDoorW.PrintWords Go.Proofs.YtogegkfefpgbcaaDoorW.PrintLast Go.Proofs.YtogegkfefpgbcaaDoorW.PrintMore
attribute [local go_sem] max2_int min2_int max_two min_two max_three min_three max_four min_four   -- for this text's walks alone
set_option linter.unusedVariables false
set_option linter.unusedSimpArgs false
attribute [local go_sem high] eqA59
attribute [local go_sem high] eqA36

/-! ### labels_reader_value: function 96 -/
mutual
def labels_reader_value.l0 : Nat → List Int → ByteArray → Int → Bool → Value → Int → Int → Option (ByteArray × ByteArray × Int × Bool × Value × Int × Int)
  | 0, _, _, _, _, _, _, _ => none
  | k + 1, x3, x1000, x1001, x1002, x1003, x1004, x1005 => if x1004 = 0 then ((labels_reader_here.f x1000 x1001 x1002 x1003 x1004 x1005).bind fun bt285 => (if bt285.2.1 = true then (labels_reader_value.j1 k x3 bt285.1 (bt285.1 == 10) bt285.2.2.1 bt285.2.2.2.1 bt285.2.2.2.2.1 bt285.2.2.2.2.2.1 bt285.2.2.2.2.2.2.1 bt285.2.2.2.2.2.2.2) else (labels_reader_value.j1 k x3 bt285.1 true bt285.2.2.1 bt285.2.2.2.1 bt285.2.2.2.2.1 bt285.2.2.2.2.2.1 bt285.2.2.2.2.2.2.1 bt285.2.2.2.2.2.2.2))) else (some (strOfNums x3, x1000, x1001, x1002, x1003, x1004, x1005))
def labels_reader_value.j1 : Nat → List Int → Int → Bool → ByteArray → Int → Bool → Value → Int → Int → Option (ByteArray × ByteArray × Int × Bool × Value × Int × Int)
  | 0, _, _, _, _, _, _, _, _, _ => none
  | k + 1, x3, x4, x24, x1000, x1001, x1002, x1003, x1004, x1005 => if x24 = true then ((labels_reader_fail.f x1000 x1001 x1002 x1003 x1004 x1005 120 x1001).bind fun bt293 => (some (strOfNums x3, bt293.1, bt293.2.1, bt293.2.2.1, bt293.2.2.2.1, bt293.2.2.2.2.1, bt293.2.2.2.2.2))) else (if x4 = 34 then (if (x3.length : Int) = 0 then (labels_reader_value.j2 k x3 (!x1002) x1000 x1001 x1002 x1003 x1004 x1005) else (labels_reader_value.j2 k x3 false x1000 x1001 x1002 x1003 x1004 x1005)) else ((labels_reader_piece.f x1000 x1001 x1002 x1003 x1004 x1005 (x3.length : Int)).bind fun bt305 => (if x3.length + bt305.1.size < 140737488355328 then (labels_reader_value.l0 k (x3 ++ bytesOf bt305.1) bt305.2.1 bt305.2.2.1 bt305.2.2.2.1 bt305.2.2.2.2.1 bt305.2.2.2.2.2.1 bt305.2.2.2.2.2.2) else (none))))
def labels_reader_value.j2 : Nat → List Int → Bool → ByteArray → Int → Bool → Value → Int → Int → Option (ByteArray × ByteArray × Int × Bool × Value × Int × Int)
  | 0, _, _, _, _, _, _, _, _ => none
  | k + 1, x3, x42, x1000, x1001, x1002, x1003, x1004, x1005 => if x42 = true then ((labels_reader_fail.f x1000 x1001 x1002 x1003 x1004 x1005 120 x1001).bind fun bt299 => (some (strOfNums x3, bt299.1, wrap64 (bt299.2.1 + 1), bt299.2.2.1, bt299.2.2.2.1, bt299.2.2.2.2.1, bt299.2.2.2.2.2))) else (some (strOfNums x3, x1000, wrap64 (x1001 + 1), x1002, x1003, x1004, x1005))
end
def labels_reader_value.f (k : Nat) (s0_0 : ByteArray) (s0_1 : Int) (s0_2 : Bool) (s0_3 : Value) (s0_4 : Int) (s0_5 : Int) : Option (ByteArray × ByteArray × Int × Bool × Value × Int × Int) := (labels_reader_take.f s0_0 s0_1 s0_2 s0_3 s0_4 s0_5 34).bind fun bt278 => (if bt278.1 = true then (labels_reader_value.l0 k ([] : List Int) bt278.2.1 bt278.2.2.1 bt278.2.2.2.1 bt278.2.2.2.2.1 bt278.2.2.2.2.2.1 bt278.2.2.2.2.2.2) else (some ((⟨#[]⟩ : ByteArray), bt278.2.1, bt278.2.2.1, bt278.2.2.2.1, bt278.2.2.2.2.1, bt278.2.2.2.2.2.1, bt278.2.2.2.2.2.2)))
set_option maxHeartbeats 8000000 in
set_option maxRecDepth 100000 in
theorem labels_reader_value.calls (k : Nat) (g : Nat) (s0_0 : ByteArray) (s0_1 : Int) (s0_2 : Bool) (s0_3 : Value) (s0_4 : Int) (s0_5 : Int) (r1 : ByteArray) (r2 : ByteArray) (r3 : Int) (r4 : Bool) (r5 : Value) (r6 : Int) (r7 : Int) (w0 w : World) (hI : IsS71 w0 w g s0_0 s0_1 s0_2 s0_3 s0_4 s0_5) (hB : Below w0.heap.size w0 w) (hG : G w0) (h : labels_reader_value.f k s0_0 s0_1 s0_2 s0_3 s0_4 s0_5 = some (r1, r2, r3, r4, r5, r6, r7)) :
    Calls Tryd.prog 96 #[.pointer (some ⟨g, 0, none⟩)] w fun e w' => e = .returned (.string r1) ∧ IsS71 w0 w' g r2 r3 r4 r5 r6 r7 ∧ Below w0.heap.size w0 w' ∧ KeepBut w w' g none := by
  have HI0 := Aside0.mk hI
  have HK := Aside0.mk (KeepBut.refl w g none)
  have HL := Aside0.mk hB.size
  clear hI
  have HW0 := Aside0.mk hB.size
  have HB := Aside0.mk hB
  clear hB
  have HG := Aside0.mk hG
  clear hG
  have H : ((labels_reader_take.f s0_0 s0_1 s0_2 s0_3 s0_4 s0_5 34).bind fun bt278 => (if bt278.1 = true then (labels_reader_value.l0 k ([] : List Int) bt278.2.1 bt278.2.2.1 bt278.2.2.2.1 bt278.2.2.2.2.1 bt278.2.2.2.2.2.1 bt278.2.2.2.2.2.2) else (some ((⟨#[]⟩ : ByteArray), bt278.2.1, bt278.2.2.1, bt278.2.2.2.1, bt278.2.2.2.2.1, bt278.2.2.2.2.2.1, bt278.2.2.2.2.2.2)))) = some (r1, r2, r3, r4, r5, r6, r7) := h
  clear h
  replace H := Option.bind_eq_some_iff.mp H
  obtain ⟨⟨t278, t279, t280, t281, t282, t283, t284⟩, A20, H⟩ := H
  replace H : (if t278 = true then (labels_reader_value.l0 k ([] : List Int) t279 t280 t281 t282 t283 t284) else (some ((⟨#[]⟩ : ByteArray), t279, t280, t281, t282, t283, t284))) = some (r1, r2, r3, r4, r5, r6, r7) := H
  have A2 := Aside0.mk A20
  clear A20
  by_cases c3 : t278 = true
  · subst c3
    have H1 : (labels_reader_value.l0 k ([] : List Int) t279 t280 t281 t282 t283 t284) = some (r1, r2, r3, r4, r5, r6, r7) := by rw [if_pos rfl] at H; exact H
    clear H
    have H := H1
    clear H1
    have H' := Aside0.mk H
    clear H
    go_enter Tryd.func96, Tryd.ntmps96
    go_wp2_with (first | ((with_reducible refine gate_callee (f := 79) rfl ?_); refine goesL_ (some 7) rfl rfl Tryd.func79 (by kernel_rfl) rfl #[.pointer (some ⟨g, 0, none⟩), .int .u8 34] rfl zl ?_; (with_reducible refine (labels_reader_take.calls g s0_0 s0_1 s0_2 s0_3 s0_4 s0_5 34 true t279 t280 t281 t282 t283 t284 w0 _ ?side1 ?side2 A2.out).mono ?_); (case side1 => exact zi71 HI0.out); (case side2 => exact zg HB.out (IsS71.ge HI0.out)); rintro e w4 ⟨rfl, hi, hb, hk⟩; refine ⟨_, rfl, ?_⟩; have n0_ := Aside0.mk (KeepBut.trans (zk HK.out) hk (.inl rfl)); have n1_ := Aside0.mk (hb); have n2_ := Aside0.mk (hi); clear HK; clear HB; clear HI0; have HK := n0_; have HB := n1_; have HI0 := n2_; clear n0_ n1_ n2_; (try clear hb); (try clear hb2); (try clear hk); (try clear hi)))
    go_loopg [3] k (fun kq v3 w' => ∃ (x3_1 : List Int) (x1000_1 : ByteArray) (x1001_1 : Int) (x1002_1 : Bool) (x1003_1 : Value) (x1004_1 : Int) (x1005_1 : Int), Aside0 (labels_reader_value.l0 kq x3_1 x1000_1 x1001_1 x1002_1 x1003_1 x1004_1 x1005_1 = some (r1, r2, r3, r4, r5, r6, r7)) ∧ Aside0 (kq ≤ k) ∧ Aside0 (Kd.R (Kd.int .u8) 5 w' w.heap.size (fun _ => True) v3 x3_1) ∧ Aside0 (IsS71 w0 w' g x1000_1 x1001_1 x1002_1 x1003_1 x1004_1 x1005_1) ∧ Aside0 (KeepBut w w' g none) ∧ Aside0 (Below w0.heap.size w0 w'))
    case atStart => exact ⟨(([] : List Int)), (t279), (t280), (t281), (t282), (t283), (t284), H', ⟨Nat.le_refl _⟩, ⟨by first | exact Kd.R_nil _ _ _ _ _ | exact Kd.N_nil _ _ _ _ _ | exact Kd.V_nil _ _ _ _ _ | exact Kd.Q_nil _ _ _ _ _ | exact Kd.S_nil _ _ _ _ _⟩, ⟨zi71 HI0.out⟩, ⟨zk HK.out⟩, ⟨zg HB.out (IsS71.ge HI0.out)⟩⟩
    case round =>
      clear H'
      try clear p2
      try clear c3
      obtain ⟨x3_1, x1000_1, x1001_1, x1002_1, x1003_1, x1004_1, x1005_1, HA, HK1, HO_3, HI0, HK, HB⟩ := hrel
      cases gk with
      | zero => exact absurd HA.out (by simp [labels_reader_value.l0])
      | succ k1 =>
        have H := HA.out
        clear HA
        simp only [labels_reader_value.l0] at H
        by_cases c5 : x1004_1 = 0
        · rw [if_pos c5] at H
          have c5b0 : (x1004_1 == 0) = true := beq_iff_eq.mpr c5
          have c5b1 : (x1004_1 != 0) = false := bne_eq_false_iff_eq.mpr c5
          clear c5
          replace H := Option.bind_eq_some_iff.mp H
          obtain ⟨⟨t285, t286, t287, t288, t289, t290, t291, t292⟩, A60, H⟩ := H
          replace H : (if t286 = true then (labels_reader_value.j1 k1 x3_1 t285 (t285 == 10) t287 t288 t289 t290 t291 t292) else (labels_reader_value.j1 k1 x3_1 t285 true t287 t288 t289 t290 t291 t292)) = some (r1, r2, r3, r4, r5, r6, r7) := H
          have A6 := Aside0.mk A60
          clear A60
          have HC7 := Aside0.mk H
          clear H
          obtain ⟨HGz8, hgz8⟩ := HI0.out
          have hcz8_0 := cellS71_0 HGz8
          have hcz8_1 := cellS71_1 HGz8
          have hcz8_2 := cellS71_2 HGz8
          have hcz8_3 := cellS71_3 HGz8
          have hcz8_4 := cellS71_4 HGz8
          have hcz8_5 := cellS71_5 HGz8
          have hfz8_0 := blk_frozen HGz8 0
          have hfz8_1 := blk_frozen HGz8 1
          have hfz8_2 := blk_frozen HGz8 2
          have hfz8_3 := blk_frozen HGz8 3
          have hfz8_4 := blk_frozen HGz8 4
          have hfz8_5 := blk_frozen HGz8 5
          clear HGz8 hgz8
          go_upto_region 6 with (first | ((with_reducible refine gate_callee (f := 80) rfl ?_); refine goesL_ (some 16) rfl rfl Tryd.func80 (by kernel_rfl) rfl #[.pointer (some ⟨g, 0, none⟩)] rfl zl ?_; (with_reducible refine (labels_reader_here.calls g x1000_1 x1001_1 x1002_1 x1003_1 x1004_1 x1005_1 t285 t286 t287 t288 t289 t290 t291 t292 w0 _ ?side1 ?side2 A6.out).mono ?_); (case side1 => exact zi71 HI0.out); (case side2 => exact zg HB.out (IsS71.ge HI0.out)); rintro e w9 ⟨rfl, hi, hb, hk⟩; refine ⟨_, rfl, ?_⟩; have n0_ := Aside0.mk (Kd.R_mono (Kd.R_keep (IsS71.apart (show IsS71 w0 _ g x1000_1 x1001_1 x1002_1 x1003_1 x1004_1 x1005_1 from zi71 HI0.out) (zr HO_3.out) (by decide)) hk (fun _ h => h.2)) (fun _ h => h.1)); have n1_ := Aside0.mk (KeepBut.trans (zk HK.out) hk (.inl rfl)); have n2_ := Aside0.mk (hb); have n3_ := Aside0.mk (hi); clear HO_3; clear HK; clear HB; clear HI0; have HO_3 := n0_; have HK := n1_; have HB := n2_; have HI0 := n3_; clear n0_ n1_ n2_ n3_; (try clear hb); (try clear hb2); (try clear hk); (try clear hi)))
          (try simp only [Act.put, List.setIfInBounds_toArray, List.set_cons_zero, List.set_cons_succ])
          go_cut [24] (fun v24 wc => ∃ (kq : Nat) (x24_6 : Bool), v24 = .bool x24_6 ∧ Aside0 (labels_reader_value.j1 kq x3_1 t285 x24_6 t287 t288 t289 t290 t291 t292 = some (r1, r2, r3, r4, r5, r6, r7)) ∧ Aside0 (kq ≤ k1) ∧ Aside0 (Kd.R (Kd.int .u8) 5 wc w.heap.size (fun _ => True) u3 x3_1) ∧ Aside0 (IsS71 w0 wc g t287 t288 t289 t290 t291 t292) ∧ Aside0 (KeepBut w wc g none) ∧ Aside0 (Below w0.heap.size w0 wc))
          case first =>
            have H := HC7.out
            clear HC7
            by_cases c10 : t286 = true
            · subst c10
              have H1 : (labels_reader_value.j1 k1 x3_1 t285 (t285 == 10) t287 t288 t289 t290 t291 t292) = some (r1, r2, r3, r4, r5, r6, r7) := by rw [if_pos rfl] at H; exact H
              clear H
              have H := H1
              clear H1
              have H' := Aside0.mk H
              clear H
              go_wp2
              go_meet
              case rel => exact ⟨_, ((t285 == 10)), zs, H', ⟨by have := HK1.out; first | omega | exact Nat.le_refl _⟩, ⟨zr HO_3.out⟩, ⟨zi71 HI0.out⟩, ⟨zk HK.out⟩, ⟨zg HB.out (IsS71.ge HI0.out)⟩⟩
            · replace c10 := Bool.eq_false_iff.mpr c10
              subst c10
              have H1 : (labels_reader_value.j1 k1 x3_1 t285 true t287 t288 t289 t290 t291 t292) = some (r1, r2, r3, r4, r5, r6, r7) := by rw [if_neg (show ¬ (false = true) by decide)] at H; exact H
              clear H
              have H := H1
              clear H1
              have H' := Aside0.mk H
              clear H
              go_wp2
              go_meet
              case rel => exact ⟨_, (true), zs, H', ⟨by have := HK1.out; first | omega | exact Nat.le_refl _⟩, ⟨zr HO_3.out⟩, ⟨zi71 HI0.out⟩, ⟨zk HK.out⟩, ⟨zg HB.out (IsS71.ge HI0.out)⟩⟩
          case rest =>
            clear HC7
            try clear c1
            try clear p2
            try clear c3
            try clear c5
            try clear c5b0
            try clear c5b1
            try clear c7
            try clear c8
            try clear c9
            try clear c10
            try clear hcz8_0
            try clear hcz8_1
            try clear hcz8_2
            try clear hcz8_3
            try clear hcz8_4
            try clear hcz8_5
            try clear hfz8_0
            try clear hfz8_1
            try clear hfz8_2
            try clear hfz8_3
            try clear hfz8_4
            try clear hfz8_5
            try clear p2
            obtain ⟨kq, x24_6, rfl, HA, HJ6, HO_3, HI0, HK, HB⟩ := hcut
            cases kq with
            | zero => exact absurd HA.out (by simp [labels_reader_value.j1])
            | succ kj6 =>
              have H := HA.out
              clear HA
              simp only [labels_reader_value.j1] at H
              by_cases c11 : x24_6 = true
              · subst c11
                have H1 : ((labels_reader_fail.f t287 t288 t289 t290 t291 t292 120 t288).bind fun bt293 => (some (strOfNums x3_1, bt293.1, bt293.2.1, bt293.2.2.1, bt293.2.2.2.1, bt293.2.2.2.2.1, bt293.2.2.2.2.2))) = some (r1, r2, r3, r4, r5, r6, r7) := by rw [if_pos rfl] at H; exact H
                clear H
                have H := H1
                clear H1
                replace H := Option.bind_eq_some_iff.mp H
                obtain ⟨⟨t293, t294, t295, t296, t297, t298⟩, A120, H⟩ := H
                replace H : (some (strOfNums x3_1, t293, t294, t295, t296, t297, t298)) = some (r1, r2, r3, r4, r5, r6, r7) := H
                have A12 := Aside0.mk A120
                clear A120
                simp only [Option.some.injEq, Prod.mk.injEq] at H
                obtain ⟨rfl, rfl, rfl, rfl, rfl, rfl, rfl⟩ := H
                obtain ⟨HGz13, hgz13⟩ := HI0.out
                have hcz13_0 := cellS71_0 HGz13
                have hcz13_1 := cellS71_1 HGz13
                have hcz13_2 := cellS71_2 HGz13
                have hcz13_3 := cellS71_3 HGz13
                have hcz13_4 := cellS71_4 HGz13
                have hcz13_5 := cellS71_5 HGz13
                have hfz13_0 := blk_frozen HGz13 0
                have hfz13_1 := blk_frozen HGz13 1
                have hfz13_2 := blk_frozen HGz13 2
                have hfz13_3 := blk_frozen HGz13 3
                have hfz13_4 := blk_frozen HGz13 4
                have hfz13_5 := blk_frozen HGz13 5
                clear HGz13 hgz13
                go_wp2_with (first | ((with_reducible refine gate_callee (f := 82) rfl ?_); refine goesL_ (some 30) rfl rfl Tryd.func82 (by kernel_rfl) rfl #[.pointer (some ⟨g, 0, none⟩), .int .i64 120, .int .i64 t288] rfl zl ?_; (with_reducible refine (labels_reader_fail.calls g t287 t288 t289 t290 t291 t292 120 t288 t293 t294 t295 t296 t297 t298 w0 _ ?side1 ?side2 A12.out).mono ?_); (case side1 => exact zi71 HI0.out); (case side2 => exact zg HB.out (IsS71.ge HI0.out)); rintro e w14 ⟨rfl, hi, hb, hk⟩; refine ⟨_, rfl, ?_⟩; have n0_ := Aside0.mk (Kd.R_mono (Kd.R_keep (IsS71.apart (show IsS71 w0 _ g t287 t288 t289 t290 t291 t292 from zi71 HI0.out) (zr HO_3.out) (by decide)) hk (fun _ h => h.2)) (fun _ h => h.1)); have n1_ := Aside0.mk (KeepBut.trans (zk HK.out) hk (.inl rfl)); have n2_ := Aside0.mk (hb); have n3_ := Aside0.mk (hi); clear HO_3; clear HK; clear HB; clear HI0; have HO_3 := n0_; have HK := n1_; have HB := n2_; have HI0 := n3_; clear n0_ n1_ n2_ n3_; (try clear hb); (try clear hb2); (try clear hk); (try clear hi); have hcv15 := own_string (P := Tryd.prog) Tryd.underlying92 Tryd.underlying5 Tryd.underlying9 (Kd.own_of_R HO_3.out); (try have hcv15b := fun (v_ : Value) => own_string (P := Tryd.prog) Tryd.underlying92 Tryd.underlying5 Tryd.underlying9 (Kd.own_of_R (Kd.R_set HO_3.out HI0.out.1 (by decide) 1 v_)))))
                go_ret
                exact ⟨ze, zi71 HI0.out, zg HB.out (IsS71.ge HI0.out), zk HK.out⟩
              · replace c11 := Bool.eq_false_iff.mpr c11
                subst c11
                have H1 : (if t285 = 34 then (if (x3_1.length : Int) = 0 then (labels_reader_value.j2 kj6 x3_1 (!t289) t287 t288 t289 t290 t291 t292) else (labels_reader_value.j2 kj6 x3_1 false t287 t288 t289 t290 t291 t292)) else ((labels_reader_piece.f t287 t288 t289 t290 t291 t292 (x3_1.length : Int)).bind fun bt305 => (if x3_1.length + bt305.1.size < 140737488355328 then (labels_reader_value.l0 kj6 (x3_1 ++ bytesOf bt305.1) bt305.2.1 bt305.2.2.1 bt305.2.2.2.1 bt305.2.2.2.2.1 bt305.2.2.2.2.2.1 bt305.2.2.2.2.2.2) else (none)))) = some (r1, r2, r3, r4, r5, r6, r7) := by rw [if_neg (show ¬ (false = true) by decide)] at H; exact H
                clear H
                have H := H1
                clear H1
                by_cases c16 : t285 = 34
                · rw [if_pos c16] at H
                  have c16b0 : (t285 == 34) = true := beq_iff_eq.mpr c16
                  have c16b1 : (t285 != 34) = false := bne_eq_false_iff_eq.mpr c16
                  clear c16
                  have HC17 := Aside0.mk H
                  clear H
                  go_upto_region 9 with (fail)
                  go_cut [42] (fun v42 wc => ∃ (kq : Nat) (x42_16 : Bool), v42 = .bool x42_16 ∧ Aside0 (labels_reader_value.j2 kq x3_1 x42_16 t287 t288 t289 t290 t291 t292 = some (r1, r2, r3, r4, r5, r6, r7)) ∧ Aside0 (kq ≤ kj6) ∧ Aside0 (Kd.R (Kd.int .u8) 5 wc w.heap.size (fun _ => True) u3 x3_1) ∧ Aside0 (IsS71 w0 wc g t287 t288 t289 t290 t291 t292) ∧ Aside0 (KeepBut w wc g none) ∧ Aside0 (Below w0.heap.size w0 wc))
                  case first =>
                    have H := HC17.out
                    clear HC17
                    by_cases c18 : (x3_1.length : Int) = 0
                    · rw [if_pos c18] at H
                      have c18b0 : ((x3_1.length : Int) == 0) = true := beq_iff_eq.mpr c18
                      have c18b1 : ((x3_1.length : Int) != 0) = false := bne_eq_false_iff_eq.mpr c18
                      clear c18
                      (first | rw [c18b0] | (simp only [i64_w, i32_w]; rw [c18b0]) | skip)
                      have H' := Aside0.mk H
                      clear H
                      obtain ⟨Ao19, co19, eo19⟩ := Kd.R_slice HO_3.out
                      subst eo19
                      obtain ⟨HGz20, hgz20⟩ := HI0.out
                      have hcz20_0 := cellS71_0 HGz20
                      have hcz20_1 := cellS71_1 HGz20
                      have hcz20_2 := cellS71_2 HGz20
                      have hcz20_3 := cellS71_3 HGz20
                      have hcz20_4 := cellS71_4 HGz20
                      have hcz20_5 := cellS71_5 HGz20
                      have hfz20_0 := blk_frozen HGz20 0
                      have hfz20_1 := blk_frozen HGz20 1
                      have hfz20_2 := blk_frozen HGz20 2
                      have hfz20_3 := blk_frozen HGz20 3
                      have hfz20_4 := blk_frozen HGz20 4
                      have hfz20_5 := blk_frozen HGz20 5
                      clear HGz20 hgz20
                      go_wp2
                      go_meet
                      case rel => exact ⟨_, (!t289), zs, H', ⟨by have := HK1.out; have := HJ6.out; first | omega | exact Nat.le_refl _⟩, ⟨zr HO_3.out⟩, ⟨zi71 HI0.out⟩, ⟨zk HK.out⟩, ⟨zg HB.out (IsS71.ge HI0.out)⟩⟩
                    · rw [if_neg c18] at H
                      have c18b0 : ((x3_1.length : Int) == 0) = false := beq_eq_false_iff_ne.mpr c18
                      have c18b1 : ((x3_1.length : Int) != 0) = true := bne_iff_ne.mpr c18
                      have c18b2 : ¬ (x3_1 = []) := fun h_ => c18 (by rw [h_]; rfl)
                      (first | rw [c18b0] | (simp only [i64_w, i32_w]; rw [c18b0]) | skip)
                      have H' := Aside0.mk H
                      clear H
                      obtain ⟨Ao21, co21, eo21⟩ := Kd.R_slice HO_3.out
                      subst eo21
                      go_wp2
                      go_meet
                      case rel => exact ⟨_, (false), zs, H', ⟨by have := HK1.out; have := HJ6.out; first | omega | exact Nat.le_refl _⟩, ⟨zr HO_3.out⟩, ⟨zi71 HI0.out⟩, ⟨zk HK.out⟩, ⟨zg HB.out (IsS71.ge HI0.out)⟩⟩
                  case rest =>
                    clear HC17
                    try clear c1
                    try clear hcv1
                    try clear p2
                    try clear c3
                    try clear c5
                    try clear c5b0
                    try clear c5b1
                    try clear c7
                    try clear c8
                    try clear c9
                    try clear c10
                    try clear c11
                    try clear hcv15
                    try clear c16
                    try clear c16b0
                    try clear c16b1
                    try clear c18
                    try clear c18b0
                    try clear c18b1
                    try clear c18b2
                    try clear hcz13_0
                    try clear hcz13_1
                    try clear hcz13_2
                    try clear hcz13_3
                    try clear hcz13_4
                    try clear hcz13_5
                    try clear hcz20_0
                    try clear hcz20_1
                    try clear hcz20_2
                    try clear hcz20_3
                    try clear hcz20_4
                    try clear hcz20_5
                    try clear hcz8_0
                    try clear hcz8_1
                    try clear hcz8_2
                    try clear hcz8_3
                    try clear hcz8_4
                    try clear hcz8_5
                    try clear hfz13_0
                    try clear hfz13_1
                    try clear hfz13_2
                    try clear hfz13_3
                    try clear hfz13_4
                    try clear hfz13_5
                    try clear hfz20_0
                    try clear hfz20_1
                    try clear hfz20_2
                    try clear hfz20_3
                    try clear hfz20_4
                    try clear hfz20_5
                    try clear hfz8_0
                    try clear hfz8_1
                    try clear hfz8_2
                    try clear hfz8_3
                    try clear hfz8_4
                    try clear hfz8_5
                    try clear p2
                    obtain ⟨kq, x42_16, rfl, HA, HJ16, HO_3, HI0, HK, HB⟩ := hcut
                    cases kq with
                    | zero => exact absurd HA.out (by simp [labels_reader_value.j2])
                    | succ kj16 =>
                      have H := HA.out
                      clear HA
                      simp only [labels_reader_value.j2] at H
                      by_cases c22 : x42_16 = true
                      · subst c22
                        have H1 : ((labels_reader_fail.f t287 t288 t289 t290 t291 t292 120 t288).bind fun bt299 => (some (strOfNums x3_1, bt299.1, wrap64 (bt299.2.1 + 1), bt299.2.2.1, bt299.2.2.2.1, bt299.2.2.2.2.1, bt299.2.2.2.2.2))) = some (r1, r2, r3, r4, r5, r6, r7) := by rw [if_pos rfl] at H; exact H
                        clear H
                        have H := H1
                        clear H1
                        replace H := Option.bind_eq_some_iff.mp H
                        obtain ⟨⟨t299, t300, t301, t302, t303, t304⟩, A230, H⟩ := H
                        replace H : (some (strOfNums x3_1, t299, wrap64 (t300 + 1), t301, t302, t303, t304)) = some (r1, r2, r3, r4, r5, r6, r7) := H
                        have A23 := Aside0.mk A230
                        clear A230
                        simp only [Option.some.injEq, Prod.mk.injEq] at H
                        obtain ⟨rfl, rfl, rfl, rfl, rfl, rfl, rfl⟩ := H
                        obtain ⟨HGz24, hgz24⟩ := HI0.out
                        have hcz24_0 := cellS71_0 HGz24
                        have hcz24_1 := cellS71_1 HGz24
                        have hcz24_2 := cellS71_2 HGz24
                        have hcz24_3 := cellS71_3 HGz24
                        have hcz24_4 := cellS71_4 HGz24
                        have hcz24_5 := cellS71_5 HGz24
                        have hfz24_0 := blk_frozen HGz24 0
                        have hfz24_1 := blk_frozen HGz24 1
                        have hfz24_2 := blk_frozen HGz24 2
                        have hfz24_3 := blk_frozen HGz24 3
                        have hfz24_4 := blk_frozen HGz24 4
                        have hfz24_5 := blk_frozen HGz24 5
                        clear HGz24 hgz24
                        go_wp2_with (first | ((with_reducible refine gate_callee (f := 82) rfl ?_); refine goesL_ (some 48) rfl rfl Tryd.func82 (by kernel_rfl) rfl #[.pointer (some ⟨g, 0, none⟩), .int .i64 120, .int .i64 t288] rfl zl ?_; (with_reducible refine (labels_reader_fail.calls g t287 t288 t289 t290 t291 t292 120 t288 t299 t300 t301 t302 t303 t304 w0 _ ?side1 ?side2 A23.out).mono ?_); (case side1 => exact zi71 HI0.out); (case side2 => exact zg HB.out (IsS71.ge HI0.out)); rintro e w25 ⟨rfl, hi, hb, hk⟩; refine ⟨_, rfl, ?_⟩; have n0_ := Aside0.mk (Kd.R_mono (Kd.R_keep (IsS71.apart (show IsS71 w0 _ g t287 t288 t289 t290 t291 t292 from zi71 HI0.out) (zr HO_3.out) (by decide)) hk (fun _ h => h.2)) (fun _ h => h.1)); have n1_ := Aside0.mk (KeepBut.trans (zk HK.out) hk (.inl rfl)); have n2_ := Aside0.mk (hb); have n3_ := Aside0.mk (hi); clear HO_3; clear HK; clear HB; clear HI0; have HO_3 := n0_; have HK := n1_; have HB := n2_; have HI0 := n3_; clear n0_ n1_ n2_ n3_; (try clear hb); (try clear hb2); (try clear hk); (try clear hi); obtain ⟨HGz26, hgz26⟩ := HI0.out; have hcz26_0 := cellS71_0 HGz26; have hcz26_1 := cellS71_1 HGz26; have hcz26_2 := cellS71_2 HGz26; have hcz26_3 := cellS71_3 HGz26; have hcz26_4 := cellS71_4 HGz26; have hcz26_5 := cellS71_5 HGz26; have hfz26_0 := blk_frozen HGz26 0; have hfz26_1 := blk_frozen HGz26 1; have hfz26_2 := blk_frozen HGz26 2; have hfz26_3 := blk_frozen HGz26 3; have hfz26_4 := blk_frozen HGz26 4; have hfz26_5 := blk_frozen HGz26 5; clear HGz26 hgz26; have hcv27 := own_string (P := Tryd.prog) Tryd.underlying92 Tryd.underlying5 Tryd.underlying9 (Kd.own_of_R HO_3.out); (try have hcv27b := fun (v_ : Value) => own_string (P := Tryd.prog) Tryd.underlying92 Tryd.underlying5 Tryd.underlying9 (Kd.own_of_R (Kd.R_set HO_3.out HI0.out.1 (by decide) 1 v_)))))
                        go_ret
                        exact ⟨ze, zi71 HI0.out, zg HB.out (IsS71.ge HI0.out), zk HK.out⟩
                      · replace c22 := Bool.eq_false_iff.mpr c22
                        subst c22
                        have H1 : (some (strOfNums x3_1, t287, wrap64 (t288 + 1), t289, t290, t291, t292)) = some (r1, r2, r3, r4, r5, r6, r7) := by rw [if_neg (show ¬ (false = true) by decide)] at H; exact H
                        clear H
                        have H := H1
                        clear H1
                        simp only [Option.some.injEq, Prod.mk.injEq] at H
                        obtain ⟨rfl, rfl, rfl, rfl, rfl, rfl, rfl⟩ := H
                        obtain ⟨HGz28, hgz28⟩ := HI0.out
                        have hcz28_0 := cellS71_0 HGz28
                        have hcz28_1 := cellS71_1 HGz28
                        have hcz28_2 := cellS71_2 HGz28
                        have hcz28_3 := cellS71_3 HGz28
                        have hcz28_4 := cellS71_4 HGz28
                        have hcz28_5 := cellS71_5 HGz28
                        have hfz28_0 := blk_frozen HGz28 0
                        have hfz28_1 := blk_frozen HGz28 1
                        have hfz28_2 := blk_frozen HGz28 2
                        have hfz28_3 := blk_frozen HGz28 3
                        have hfz28_4 := blk_frozen HGz28 4
                        have hfz28_5 := blk_frozen HGz28 5
                        clear HGz28 hgz28
                        have hcv29 := own_string (P := Tryd.prog) Tryd.underlying92 Tryd.underlying5 Tryd.underlying9 (Kd.own_of_R HO_3.out); (try have hcv29b := fun (v_ : Value) => own_string (P := Tryd.prog) Tryd.underlying92 Tryd.underlying5 Tryd.underlying9 (Kd.own_of_R (Kd.R_set HO_3.out HI0.out.1 (by decide) 1 v_)))
                        go_wp2
                        go_ret
                        exact ⟨ze, zi71 HI0.out, zg HB.out (IsS71.ge HI0.out), zk HK.out⟩
                · rw [if_neg c16] at H
                  have c16b0 : (t285 == 34) = false := beq_eq_false_iff_ne.mpr c16
                  have c16b1 : (t285 != 34) = true := bne_iff_ne.mpr c16
                  replace H := Option.bind_eq_some_iff.mp H
                  obtain ⟨⟨t305, t306, t307, t308, t309, t310, t311⟩, A300, H⟩ := H
                  replace H : (if x3_1.length + t305.size < 140737488355328 then (labels_reader_value.l0 kj6 (x3_1 ++ bytesOf t305) t306 t307 t308 t309 t310 t311) else (none)) = some (r1, r2, r3, r4, r5, r6, r7) := H
                  have A30 := Aside0.mk A300
                  clear A300
                  by_cases c31 : x3_1.length + t305.size < 140737488355328
                  · rw [if_pos c31] at H
                    have LMc31 := Aside0.mk c31
                    clear c31
                    obtain ⟨y312, hy312⟩ : ∃ y_ : List Int, y_ = (x3_1 ++ bytesOf t305) := ⟨_, rfl⟩
                    replace H : (labels_reader_value.l0 kj6 y312 t306 t307 t308 t309 t310 t311) = some (r1, r2, r3, r4, r5, r6, r7) := by first | (rw [hy312]; with_reducible exact H) | (have H2_ := (Option.bind_some _ _).symm.trans H; rw [hy312]; with_reducible exact H2_) | (have H2_ := (Option.bind_some _ _).symm.trans H; with_reducible exact H2_) | with_reducible exact H | (rw [hy312]; exact H) | exact H
                    have Ny312 := Aside0.mk hy312
                    clear hy312
                    have H' := Aside0.mk H
                    clear H
                    obtain ⟨Ao32, co32, eo32⟩ := Kd.R_slice HO_3.out
                    subst eo32
                    go_wp2_with (first | ((with_reducible refine gate_callee (f := 107) rfl ?_); refine goesL_ (some 60) rfl rfl Tryd.func107 (by kernel_rfl) rfl #[.pointer (some ⟨g, 0, none⟩), .int .i64 (x3_1.length : Int)] rfl zl ?_; (with_reducible refine (labels_reader_piece.calls g t287 t288 t289 t290 t291 t292 (x3_1.length : Int) t305 t306 t307 t308 t309 t310 t311 w0 _ ?side1 ?side2 ?side3 A30.out).mono ?_); (case side1 => exact zi71 HI0.out); (case side2 => exact zg HB.out (IsS71.ge HI0.out)); (case side3 => first | (with_reducible exact HG.out) | (with_reducible exact G.drewN HG.out _) | exact G.below HG.out (zg HB.out (IsS71.ge HI0.out))); rintro e w33 ⟨rfl, hi, hb, hk⟩; refine ⟨_, rfl, ?_⟩; have n0_ := Aside0.mk (Kd.R_mono (Kd.R_keep (IsS71.apart (show IsS71 w0 _ g t287 t288 t289 t290 t291 t292 from zi71 HI0.out) (zr HO_3.out) (by decide)) hk (fun _ h => h.2)) (fun _ h => h.1)); have n1_ := Aside0.mk (KeepBut.trans (zk HK.out) hk (.inl rfl)); have n2_ := Aside0.mk (hb); have n3_ := Aside0.mk (hi); clear HO_3; clear HK; clear HB; clear HI0; have HO_3 := n0_; have HK := n1_; have HB := n2_; have HI0 := n3_; clear n0_ n1_ n2_ n3_; (try clear hb); (try clear hb2); (try clear hk); (try clear hi)) | (at_builtin; refine print_append_str w.heap.size rfl (.tmp 56) _ 92 9 5 rfl Tryd.underlying92 Tryd.underlying9 info5 (.slice Ao32 x3_1.length co32) x3_1 t305 rfl rfl ?aO (Below.refl _ _) ?aS ?aL ?_; (case aO => exact (Kd.own_of_R (zr HO_3.out))); (case aS => exact (keep_size (w := w) (g := g) (row := none) (zk HK.out))); (case aL => have := LMc31.out; omega); intro v313 w34 ho0 hb hg; have ho := Kd.R_of_own (h1 := fun _ => rfl) (ok := fun _ => True) ho0 (fun _ _ => trivial); clear ho0; have hat := True.intro; rw [← Ny312.out] at ho; change Kd.R (Kd.int .u8) 5 w34 w.heap.size (fun _ => True) v313 y312 at ho; have n0_ := Aside0.mk (IsS71.grown (zi71 HI0.out) hg (IsS71.own_ne HI0.out HO_3.out (by decide))); have n1_ := Aside0.mk (below_weaken (zg HB.out (IsS71.ge HI0.out)) HL.out hb); have n2_ := Aside0.mk (KeepBut.trans (zk HK.out) (KeepBut.of_grown hg g) (Kd.R_base2 HO_3.out)); have n3_ := Aside0.mk (ho); clear HI0; clear HB; clear HK; clear HO_3; have HI0 := n0_; have HB := n1_; have HK := n2_; have HO314 := n3_; clear n0_ n1_ n2_ n3_; clear ho hb hg hat))
                    go_roundg kj6
                    case measure => have := HK1.out; have := HJ6.out; omega
                    case rel => exact ⟨(y312), (t306), (t307), (t308), (t309), (t310), (t311), H', ⟨by have := HK1.out; have := HJ6.out; omega⟩, ⟨zr HO314.out⟩, ⟨zi71 HI0.out⟩, ⟨zk HK.out⟩, ⟨zg HB.out (IsS71.ge HI0.out)⟩⟩
                  · rw [if_neg c31] at H
                    exact absurd H (by simp)
        · rw [if_neg c5] at H
          have c5b0 : (x1004_1 == 0) = false := beq_eq_false_iff_ne.mpr c5
          have c5b1 : (x1004_1 != 0) = true := bne_iff_ne.mpr c5
          simp only [Option.some.injEq, Prod.mk.injEq] at H
          obtain ⟨rfl, rfl, rfl, rfl, rfl, rfl, rfl⟩ := H
          obtain ⟨HGz35, hgz35⟩ := HI0.out
          have hcz35_0 := cellS71_0 HGz35
          have hcz35_1 := cellS71_1 HGz35
          have hcz35_2 := cellS71_2 HGz35
          have hcz35_3 := cellS71_3 HGz35
          have hcz35_4 := cellS71_4 HGz35
          have hcz35_5 := cellS71_5 HGz35
          have hfz35_0 := blk_frozen HGz35 0
          have hfz35_1 := blk_frozen HGz35 1
          have hfz35_2 := blk_frozen HGz35 2
          have hfz35_3 := blk_frozen HGz35 3
          have hfz35_4 := blk_frozen HGz35 4
          have hfz35_5 := blk_frozen HGz35 5
          clear HGz35 hgz35
          have hcv36 := own_string (P := Tryd.prog) Tryd.underlying92 Tryd.underlying5 Tryd.underlying9 (Kd.own_of_R HO_3.out); (try have hcv36b := fun (v_ : Value) => own_string (P := Tryd.prog) Tryd.underlying92 Tryd.underlying5 Tryd.underlying9 (Kd.own_of_R (Kd.R_set HO_3.out HI0.out.1 (by decide) 1 v_)))
          go_wp2
          go_ret
          exact ⟨ze, zi71 HI0.out, zg HB.out (IsS71.ge HI0.out), zk HK.out⟩
  · replace c3 := Bool.eq_false_iff.mpr c3
    subst c3
    have H1 : (some ((⟨#[]⟩ : ByteArray), t279, t280, t281, t282, t283, t284)) = some (r1, r2, r3, r4, r5, r6, r7) := by rw [if_neg (show ¬ (false = true) by decide)] at H; exact H
    clear H
    have H := H1
    clear H1
    simp only [Option.some.injEq, Prod.mk.injEq] at H
    obtain ⟨rfl, rfl, rfl, rfl, rfl, rfl, rfl⟩ := H
    go_enter Tryd.func96, Tryd.ntmps96
    go_wp2_with (first | ((with_reducible refine gate_callee (f := 79) rfl ?_); refine goesL_ (some 7) rfl rfl Tryd.func79 (by kernel_rfl) rfl #[.pointer (some ⟨g, 0, none⟩), .int .u8 34] rfl zl ?_; (with_reducible refine (labels_reader_take.calls g s0_0 s0_1 s0_2 s0_3 s0_4 s0_5 34 false t279 t280 t281 t282 t283 t284 w0 _ ?side1 ?side2 A2.out).mono ?_); (case side1 => exact zi71 HI0.out); (case side2 => exact zg HB.out (IsS71.ge HI0.out)); rintro e w37 ⟨rfl, hi, hb, hk⟩; refine ⟨_, rfl, ?_⟩; have n0_ := Aside0.mk (KeepBut.trans (zk HK.out) hk (.inl rfl)); have n1_ := Aside0.mk (hb); have n2_ := Aside0.mk (hi); clear HK; clear HB; clear HI0; have HK := n0_; have HB := n1_; have HI0 := n2_; clear n0_ n1_ n2_; (try clear hb); (try clear hb2); (try clear hk); (try clear hi)))
    go_ret
    exact ⟨ze, zi71 HI0.out, zg HB.out (IsS71.ge HI0.out), zk HK.out⟩

/-- A state of type 99 at block g of W; what its slices lead to came in by w0. -/
def IsS99 (w0 W : World) (g : Nat) (f0 : ByteArray) (f1 : Int) (f2 : Bool) (f3 : Int) (f4 : Int) : Prop := W.heap[g]? = some (.cells #[.string f0, .int .i64 f1, .bool f2, .int .i64 f3, .int .i64 f4] 99 (0, 0)) ∧ w0.heap.size ≤ g
theorem IsS99.grown {w0 W : World} {g : Nat} {f0 : ByteArray} {f1 : Int} {f2 : Bool} {f3 : Int} {f4 : Int} {W1 : World} {row : Option Nat} (h : IsS99 w0 W g f0 f1 f2 f3 f4) (hw : W.grownBy W1 row) (hne : some g ≠ row) : IsS99 w0 W1 g f0 f1 f2 f3 f4 := by
  obtain ⟨hb, hg⟩ := h
  exact ⟨blk_grown hb hw hne, hg⟩
theorem IsS99.fresh {w0 W : World} {g : Nat} {f0 : ByteArray} {f1 : Int} {f2 : Bool} {f3 : Int} {f4 : Int} (h : IsS99 w0 W g f0 f1 f2 f3 f4) : ∀ k, W.heap.size ≤ k → k ≠ g := by
  obtain ⟨hb, hg⟩ := h
  exact Kd.freshB hb
theorem IsS99.below {w0 W : World} {g : Nat} {f0 : ByteArray} {f1 : Int} {f2 : Bool} {f3 : Int} {f4 : Int} {W1 : World} (h : IsS99 w0 W g f0 f1 f2 f3 f4) (hw : Below W.heap.size W W1) : IsS99 w0 W1 g f0 f1 f2 f3 f4 := h.grown (grown_of_below hw none) (by simp)
theorem IsS99.alloc {w0 W : World} {g : Nat} {f0 : ByteArray} {f1 : Int} {f2 : Bool} {f3 : Int} {f4 : Int} (h : IsS99 w0 W g f0 f1 f2 f3 f4) (o : Obj) : IsS99 w0 (W.alloc o) g f0 f1 f2 f3 f4 := h.below (below_alloc (Below.refl _ _) o)
theorem IsS99.drewN {w0 W : World} {g : Nat} {f0 : ByteArray} {f1 : Int} {f2 : Bool} {f3 : Int} {f4 : Int} (h : IsS99 w0 W g f0 f1 f2 f3 f4) (m : Nat) : IsS99 w0 (W.drewN m) g f0 f1 f2 f3 f4 := h
theorem IsS99.drew {w0 W : World} {g : Nat} {f0 : ByteArray} {f1 : Int} {f2 : Bool} {f3 : Int} {f4 : Int} (h : IsS99 w0 W g f0 f1 f2 f3 f4) : IsS99 w0 W.drew g f0 f1 f2 f3 f4 := h
theorem IsS99.at_ {w0 W : World} {g : Nat} {f0 : ByteArray} {f1 : Int} {f2 : Bool} {f3 : Int} {f4 : Int} {w' : World} {m : Nat} (hq : W.drewN m = w') (h : IsS99 w0 W g f0 f1 f2 f3 f4) : IsS99 w0 w' g f0 f1 f2 f3 f4 := by subst hq; exact IsS99.drewN h m
theorem IsS99.apart {w0 W : World} {g : Nat} {f0 : ByteArray} {f1 : Int} {f2 : Bool} {f3 : Int} {f4 : Int} {α : Type} {d : Kd α} {e : Nat} {base : Nat} {ok : Nat → Prop} {v : Value} {xs : List α} (h : IsS99 w0 W g f0 f1 f2 f3 f4) (ho : d.R e W base ok v xs) (ht : ∀ q, q ∈ e :: d.E → q ≠ 99) : d.R e W base (fun k => ok k ∧ k ≠ g) v xs := by
  obtain ⟨hb, hg⟩ := h
  exact Kd.R_types ho hb ht
theorem IsS99.own_ne {w0 W : World} {g : Nat} {f0 : ByteArray} {f1 : Int} {f2 : Bool} {f3 : Int} {f4 : Int} {α : Type} {d : Kd α} {e : Nat} {base : Nat} {ok : Nat → Prop} {v : Value} {xs : List α} (h : IsS99 w0 W g f0 f1 f2 f3 f4) (ho : d.R e W base ok v xs) (ht : e ≠ 99) : some g ≠ v.ownBlock := by
  obtain ⟨hb, hg⟩ := h
  exact Kd.R_ne ho hb ht
theorem IsS99.lt {w0 W : World} {g : Nat} {f0 : ByteArray} {f1 : Int} {f2 : Bool} {f3 : Int} {f4 : Int} (h : IsS99 w0 W g f0 f1 f2 f3 f4) : g < W.heap.size := by
  obtain ⟨hb, hg⟩ := h
  exact blk_lt hb
theorem IsS99.ge {w0 W : World} {g : Nat} {f0 : ByteArray} {f1 : Int} {f2 : Bool} {f3 : Int} {f4 : Int} (h : IsS99 w0 W g f0 f1 f2 f3 f4) : w0.heap.size ≤ g := by
  obtain ⟨hb, hg⟩ := h
  exact hg
theorem IsS99.far {w0 W : World} {g : Nat} {f0 : ByteArray} {f1 : Int} {f2 : Bool} {f3 : Int} {f4 : Int} {p : Addr} (h : IsS99 w0 W g f0 f1 f2 f3 f4) (hne : g ≠ p.block) (u : Value) : IsS99 w0 (W.setCell p u) g f0 f1 f2 f3 f4 := by
  obtain ⟨hb, hg⟩ := h
  exact ⟨blk_far hb hne u, hg⟩
theorem IsS99.set_0 {w0 W : World} {g : Nat} {f0 : ByteArray} {f1 : Int} {f2 : Bool} {f3 : Int} {f4 : Int} (h : IsS99 w0 W g f0 f1 f2 f3 f4) (x : ByteArray) : IsS99 w0 (W.setCell ⟨g, 0, none⟩ (.string x)) g x f1 f2 f3 f4 := by
  obtain ⟨hb, hg⟩ := h
  exact ⟨by simpa using blk_set hb 0 (.string x), hg⟩
theorem IsS99.set_1 {w0 W : World} {g : Nat} {f0 : ByteArray} {f1 : Int} {f2 : Bool} {f3 : Int} {f4 : Int} (h : IsS99 w0 W g f0 f1 f2 f3 f4) (x : Int) : IsS99 w0 (W.setCell ⟨g, 1, none⟩ (.int .i64 x)) g f0 x f2 f3 f4 := by
  obtain ⟨hb, hg⟩ := h
  exact ⟨by simpa using blk_set hb 1 (.int .i64 x), hg⟩
theorem IsS99.set_2 {w0 W : World} {g : Nat} {f0 : ByteArray} {f1 : Int} {f2 : Bool} {f3 : Int} {f4 : Int} (h : IsS99 w0 W g f0 f1 f2 f3 f4) (x : Bool) : IsS99 w0 (W.setCell ⟨g, 2, none⟩ (.bool x)) g f0 f1 x f3 f4 := by
  obtain ⟨hb, hg⟩ := h
  exact ⟨by simpa using blk_set hb 2 (.bool x), hg⟩
theorem IsS99.set_3 {w0 W : World} {g : Nat} {f0 : ByteArray} {f1 : Int} {f2 : Bool} {f3 : Int} {f4 : Int} (h : IsS99 w0 W g f0 f1 f2 f3 f4) (x : Int) : IsS99 w0 (W.setCell ⟨g, 3, none⟩ (.int .i64 x)) g f0 f1 f2 x f4 := by
  obtain ⟨hb, hg⟩ := h
  exact ⟨by simpa using blk_set hb 3 (.int .i64 x), hg⟩
theorem IsS99.set_4 {w0 W : World} {g : Nat} {f0 : ByteArray} {f1 : Int} {f2 : Bool} {f3 : Int} {f4 : Int} (h : IsS99 w0 W g f0 f1 f2 f3 f4) (x : Int) : IsS99 w0 (W.setCell ⟨g, 4, none⟩ (.int .i64 x)) g f0 f1 f2 f3 x := by
  obtain ⟨hb, hg⟩ := h
  exact ⟨by simpa using blk_set hb 4 (.int .i64 x), hg⟩
theorem IsS99.new (w0 W : World) (f0 : ByteArray) (f1 : Int) (f2 : Bool) (f3 : Int) (f4 : Int) (hB : Below w0.heap.size w0 W) : IsS99 w0 (W.alloc (.cells #[.string f0, .int .i64 f1, .bool f2, .int .i64 f3, .int .i64 f4] 99)) W.heap.size f0 f1 f2 f3 f4 := ⟨by simpa using heap_alloc_new W _, hB.size⟩

end Go.Proofs.YtogegkfefpgbcaaDoor.PL
