/- Functions of the labels (packed). -/
import Derived.Test.YtogegkfefpgbcaaDoorZBPLx0
import Derived.Test.YtogegkfefpgbcaaDoorZBPLx1
import Derived.Test.YtogegkfefpgbcaaDoorZBPLx2
import Derived.Test.YtogegkfefpgbcaaDoorZBQ1
namespace Go.Proofs.YtogegkfefpgbcaaDoor.PL
open Go.RowKit Go.Proofs.YtogegkfefpgbcaaDoorW.PrintWords Go.Proofs.YtogegkfefpgbcaaDoorW.PrintLast Go.Proofs.YtogegkfefpgbcaaDoorW.PrintMore
attribute [local go_sem] max2_int min2_int max_two min_two max_three min_three max_four min_four   -- for this text's walks alone
set_option linter.unusedVariables false
set_option linter.unusedSimpArgs false
attribute [local go_sem high] eqA59
attribute [local go_sem high] eqA36

/-- A state of type 71 at block g of W; what its slices lead to came in by w0. -/
def IsS71 (w0 W : World) (g : Nat) (f0 : ByteArray) (f1 : Int) (f2 : Bool) (f3 : Value) (f4 : Int) (f5 : Int) : Prop := W.heap[g]? = some (.cells #[.string f0, .int .i64 f1, .bool f2, f3, .int .i64 f4, .int .i64 f5] 71 (0, 0)) ∧ w0.heap.size ≤ g
theorem IsS71.grown {w0 W : World} {g : Nat} {f0 : ByteArray} {f1 : Int} {f2 : Bool} {f3 : Value} {f4 : Int} {f5 : Int} {W1 : World} {row : Option Nat} (h : IsS71 w0 W g f0 f1 f2 f3 f4 f5) (hw : W.grownBy W1 row) (hne : some g ≠ row) : IsS71 w0 W1 g f0 f1 f2 f3 f4 f5 := by
  obtain ⟨hb, hg⟩ := h
  exact ⟨blk_grown hb hw hne, hg⟩
theorem IsS71.below {w0 W : World} {g : Nat} {f0 : ByteArray} {f1 : Int} {f2 : Bool} {f3 : Value} {f4 : Int} {f5 : Int} {W1 : World} (h : IsS71 w0 W g f0 f1 f2 f3 f4 f5) (hw : Below W.heap.size W W1) : IsS71 w0 W1 g f0 f1 f2 f3 f4 f5 := h.grown (grown_of_below hw none) (by simp)
theorem IsS71.alloc {w0 W : World} {g : Nat} {f0 : ByteArray} {f1 : Int} {f2 : Bool} {f3 : Value} {f4 : Int} {f5 : Int} (h : IsS71 w0 W g f0 f1 f2 f3 f4 f5) (o : Obj) : IsS71 w0 (W.alloc o) g f0 f1 f2 f3 f4 f5 := h.below (below_alloc (Below.refl _ _) o)
theorem IsS71.drewN {w0 W : World} {g : Nat} {f0 : ByteArray} {f1 : Int} {f2 : Bool} {f3 : Value} {f4 : Int} {f5 : Int} (h : IsS71 w0 W g f0 f1 f2 f3 f4 f5) (m : Nat) : IsS71 w0 (W.drewN m) g f0 f1 f2 f3 f4 f5 := h
theorem IsS71.drew {w0 W : World} {g : Nat} {f0 : ByteArray} {f1 : Int} {f2 : Bool} {f3 : Value} {f4 : Int} {f5 : Int} (h : IsS71 w0 W g f0 f1 f2 f3 f4 f5) : IsS71 w0 W.drew g f0 f1 f2 f3 f4 f5 := h
theorem IsS71.apart {w0 W : World} {g : Nat} {f0 : ByteArray} {f1 : Int} {f2 : Bool} {f3 : Value} {f4 : Int} {f5 : Int} {α : Type} {d : Kd α} {e : Nat} {base : Nat} {ok : Nat → Prop} {v : Value} {xs : List α} (h : IsS71 w0 W g f0 f1 f2 f3 f4 f5) (ho : d.R e W base ok v xs) (ht : ∀ q, q ∈ e :: d.E → q ≠ 71) : d.R e W base (fun k => ok k ∧ k ≠ g) v xs := by
  obtain ⟨hb, hg⟩ := h
  exact Kd.R_types ho hb ht
theorem IsS71.own_ne {w0 W : World} {g : Nat} {f0 : ByteArray} {f1 : Int} {f2 : Bool} {f3 : Value} {f4 : Int} {f5 : Int} {α : Type} {d : Kd α} {e : Nat} {base : Nat} {ok : Nat → Prop} {v : Value} {xs : List α} (h : IsS71 w0 W g f0 f1 f2 f3 f4 f5) (ho : d.R e W base ok v xs) (ht : e ≠ 71) : some g ≠ v.ownBlock := by
  obtain ⟨hb, hg⟩ := h
  exact Kd.R_ne ho hb ht
theorem IsS71.ge {w0 W : World} {g : Nat} {f0 : ByteArray} {f1 : Int} {f2 : Bool} {f3 : Value} {f4 : Int} {f5 : Int} (h : IsS71 w0 W g f0 f1 f2 f3 f4 f5) : w0.heap.size ≤ g := by
  obtain ⟨hb, hg⟩ := h
  exact hg
theorem IsS71.far {w0 W : World} {g : Nat} {f0 : ByteArray} {f1 : Int} {f2 : Bool} {f3 : Value} {f4 : Int} {f5 : Int} {p : Addr} (h : IsS71 w0 W g f0 f1 f2 f3 f4 f5) (hne : g ≠ p.block) (u : Value) : IsS71 w0 (W.setCell p u) g f0 f1 f2 f3 f4 f5 := by
  obtain ⟨hb, hg⟩ := h
  exact ⟨blk_far hb hne u, hg⟩
theorem cellS71_0 {W : World} {g : Nat} {f0 : ByteArray} {f1 : Int} {f2 : Bool} {f3 : Value} {f4 : Int} {f5 : Int} (h : W.heap[g]? = some (.cells #[.string f0, .int .i64 f1, .bool f2, f3, .int .i64 f4, .int .i64 f5] 71 (0, 0))) : W.cell? ⟨g, 0, none⟩ = some (.string f0) := (blk_cell h 0).trans rfl
theorem IsS71.set_0 {w0 W : World} {g : Nat} {f0 : ByteArray} {f1 : Int} {f2 : Bool} {f3 : Value} {f4 : Int} {f5 : Int} (h : IsS71 w0 W g f0 f1 f2 f3 f4 f5) (x : ByteArray) : IsS71 w0 (W.setCell ⟨g, 0, none⟩ (.string x)) g x f1 f2 f3 f4 f5 := by
  obtain ⟨hb, hg⟩ := h
  exact ⟨by simpa using blk_set hb 0 (.string x), hg⟩
theorem cellS71_1 {W : World} {g : Nat} {f0 : ByteArray} {f1 : Int} {f2 : Bool} {f3 : Value} {f4 : Int} {f5 : Int} (h : W.heap[g]? = some (.cells #[.string f0, .int .i64 f1, .bool f2, f3, .int .i64 f4, .int .i64 f5] 71 (0, 0))) : W.cell? ⟨g, 1, none⟩ = some (.int .i64 f1) := (blk_cell h 1).trans rfl
theorem IsS71.set_1 {w0 W : World} {g : Nat} {f0 : ByteArray} {f1 : Int} {f2 : Bool} {f3 : Value} {f4 : Int} {f5 : Int} (h : IsS71 w0 W g f0 f1 f2 f3 f4 f5) (x : Int) : IsS71 w0 (W.setCell ⟨g, 1, none⟩ (.int .i64 x)) g f0 x f2 f3 f4 f5 := by
  obtain ⟨hb, hg⟩ := h
  exact ⟨by simpa using blk_set hb 1 (.int .i64 x), hg⟩
theorem cellS71_2 {W : World} {g : Nat} {f0 : ByteArray} {f1 : Int} {f2 : Bool} {f3 : Value} {f4 : Int} {f5 : Int} (h : W.heap[g]? = some (.cells #[.string f0, .int .i64 f1, .bool f2, f3, .int .i64 f4, .int .i64 f5] 71 (0, 0))) : W.cell? ⟨g, 2, none⟩ = some (.bool f2) := (blk_cell h 2).trans rfl
theorem IsS71.set_2 {w0 W : World} {g : Nat} {f0 : ByteArray} {f1 : Int} {f2 : Bool} {f3 : Value} {f4 : Int} {f5 : Int} (h : IsS71 w0 W g f0 f1 f2 f3 f4 f5) (x : Bool) : IsS71 w0 (W.setCell ⟨g, 2, none⟩ (.bool x)) g f0 f1 x f3 f4 f5 := by
  obtain ⟨hb, hg⟩ := h
  exact ⟨by simpa using blk_set hb 2 (.bool x), hg⟩
theorem cellS71_3 {W : World} {g : Nat} {f0 : ByteArray} {f1 : Int} {f2 : Bool} {f3 : Value} {f4 : Int} {f5 : Int} (h : W.heap[g]? = some (.cells #[.string f0, .int .i64 f1, .bool f2, f3, .int .i64 f4, .int .i64 f5] 71 (0, 0))) : W.cell? ⟨g, 3, none⟩ = some (f3) := (blk_cell h 3).trans rfl
theorem IsS71.set_3 {w0 W : World} {g : Nat} {f0 : ByteArray} {f1 : Int} {f2 : Bool} {f3 : Value} {f4 : Int} {f5 : Int} (h : IsS71 w0 W g f0 f1 f2 f3 f4 f5) (x : Value) : IsS71 w0 (W.setCell ⟨g, 3, none⟩ (x)) g f0 f1 f2 x f4 f5 := by
  obtain ⟨hb, hg⟩ := h
  exact ⟨by simpa using blk_set hb 3 (x), hg⟩
theorem cellS71_4 {W : World} {g : Nat} {f0 : ByteArray} {f1 : Int} {f2 : Bool} {f3 : Value} {f4 : Int} {f5 : Int} (h : W.heap[g]? = some (.cells #[.string f0, .int .i64 f1, .bool f2, f3, .int .i64 f4, .int .i64 f5] 71 (0, 0))) : W.cell? ⟨g, 4, none⟩ = some (.int .i64 f4) := (blk_cell h 4).trans rfl
theorem IsS71.set_4 {w0 W : World} {g : Nat} {f0 : ByteArray} {f1 : Int} {f2 : Bool} {f3 : Value} {f4 : Int} {f5 : Int} (h : IsS71 w0 W g f0 f1 f2 f3 f4 f5) (x : Int) : IsS71 w0 (W.setCell ⟨g, 4, none⟩ (.int .i64 x)) g f0 f1 f2 f3 x f5 := by
  obtain ⟨hb, hg⟩ := h
  exact ⟨by simpa using blk_set hb 4 (.int .i64 x), hg⟩
theorem cellS71_5 {W : World} {g : Nat} {f0 : ByteArray} {f1 : Int} {f2 : Bool} {f3 : Value} {f4 : Int} {f5 : Int} (h : W.heap[g]? = some (.cells #[.string f0, .int .i64 f1, .bool f2, f3, .int .i64 f4, .int .i64 f5] 71 (0, 0))) : W.cell? ⟨g, 5, none⟩ = some (.int .i64 f5) := (blk_cell h 5).trans rfl
theorem IsS71.set_5 {w0 W : World} {g : Nat} {f0 : ByteArray} {f1 : Int} {f2 : Bool} {f3 : Value} {f4 : Int} {f5 : Int} (h : IsS71 w0 W g f0 f1 f2 f3 f4 f5) (x : Int) : IsS71 w0 (W.setCell ⟨g, 5, none⟩ (.int .i64 x)) g f0 f1 f2 f3 f4 x := by
  obtain ⟨hb, hg⟩ := h
  exact ⟨by simpa using blk_set hb 5 (.int .i64 x), hg⟩
theorem IsS71.new (w0 W : World) (f0 : ByteArray) (f1 : Int) (f2 : Bool) (f3 : Value) (f4 : Int) (f5 : Int) (hB : Below w0.heap.size w0 W) : IsS71 w0 (W.alloc (.cells #[.string f0, .int .i64 f1, .bool f2, f3, .int .i64 f4, .int .i64 f5] 71)) W.heap.size f0 f1 f2 f3 f4 f5 := ⟨by simpa using heap_alloc_new W _, hB.size⟩

/-! ### labels_reader_here: function 80 -/
def labels_reader_here.f (s0_0 : ByteArray) (s0_1 : Int) (s0_2 : Bool) (s0_3 : Value) (s0_4 : Int) (s0_5 : Int) : Option (Int × Bool × ByteArray × Int × Bool × Value × Int × Int) := if s0_1 < (s0_0.size : Int) then (if 0 ≤ s0_1 then (some (bt s0_0 s0_1, true, s0_0, s0_1, s0_2, s0_3, s0_4, s0_5)) else (none)) else (some (0, false, s0_0, s0_1, s0_2, s0_3, s0_4, s0_5))
set_option maxHeartbeats 8000000 in
set_option maxRecDepth 100000 in
theorem labels_reader_here.calls (g : Nat) (s0_0 : ByteArray) (s0_1 : Int) (s0_2 : Bool) (s0_3 : Value) (s0_4 : Int) (s0_5 : Int) (r1 : Int) (r2 : Bool) (r3 : ByteArray) (r4 : Int) (r5 : Bool) (r6 : Value) (r7 : Int) (r8 : Int) (w0 w : World) (hI : IsS71 w0 w g s0_0 s0_1 s0_2 s0_3 s0_4 s0_5) (hB : Below w0.heap.size w0 w) (h : labels_reader_here.f s0_0 s0_1 s0_2 s0_3 s0_4 s0_5 = some (r1, r2, r3, r4, r5, r6, r7, r8)) :
    Calls Tryd.prog 80 #[.pointer (some ⟨g, 0, none⟩)] w fun e w' => e = .returned (.tuple #[.int .u8 r1, .bool r2]) ∧ IsS71 w0 w' g r3 r4 r5 r6 r7 r8 ∧ Below w0.heap.size w0 w' ∧ KeepBut w w' g none := by
  have HI0 := Aside0.mk hI
  have HK := Aside0.mk (KeepBut.refl w g none)
  have HL := Aside0.mk hB.size
  clear hI
  have HW0 := Aside0.mk hB.size
  have HB := Aside0.mk hB
  clear hB
  have H : (if s0_1 < (s0_0.size : Int) then (if 0 ≤ s0_1 then (some (bt s0_0 s0_1, true, s0_0, s0_1, s0_2, s0_3, s0_4, s0_5)) else (none)) else (some (0, false, s0_0, s0_1, s0_2, s0_3, s0_4, s0_5))) = some (r1, r2, r3, r4, r5, r6, r7, r8) := h
  clear h
  by_cases c2 : s0_1 < (s0_0.size : Int)
  · rw [if_pos c2] at H
    have c2b0 : decide (s0_1 < (s0_0.size : Int)) = true := decide_eq_true c2
    clear c2
    by_cases c3 : 0 ≤ s0_1
    · rw [if_pos c3] at H
      have c3b0 : decide (0 ≤ s0_1) = true := decide_eq_true c3
      clear c3
      simp only [Option.some.injEq, Prod.mk.injEq] at H
      obtain ⟨rfl, rfl, rfl, rfl, rfl, rfl, rfl, rfl⟩ := H
      obtain ⟨HGz5, hgz5⟩ := HI0.out
      have hcz5_0 := cellS71_0 HGz5
      have hcz5_1 := cellS71_1 HGz5
      have hcz5_2 := cellS71_2 HGz5
      have hcz5_3 := cellS71_3 HGz5
      have hcz5_4 := cellS71_4 HGz5
      have hcz5_5 := cellS71_5 HGz5
      have hfz5_0 := blk_frozen HGz5 0
      have hfz5_1 := blk_frozen HGz5 1
      have hfz5_2 := blk_frozen HGz5 2
      have hfz5_3 := blk_frozen HGz5 3
      have hfz5_4 := blk_frozen HGz5 4
      have hfz5_5 := blk_frozen HGz5 5
      clear HGz5 hgz5
      have p4 : 0 ≤ (s0_1 : Int) := of_decide_eq_true za
      have q4 : s0_1 < (s0_0.size : Int) := of_decide_eq_true za
      have hx4 := bt_at s0_0 s0_1
      replace p4 := eq_true p4
      replace q4 := eq_true q4
      go_enter Tryd.func80, Tryd.ntmps80
      go_wp2
      repeat (go_quiet (fail); try go_wp2)
      go_ret2
      exact ⟨ze, by repeat (first | (with_reducible first | exact HI0.out | apply IsS71.alloc | apply IsS71.drewN | apply IsS71.drew | apply IsS71.set_0 | apply IsS71.set_1 | apply IsS71.set_2 | apply IsS71.set_3 | apply IsS71.set_4 | apply IsS71.set_5) | exact HI0.out), by repeat (first | (with_reducible first | exact HB.out | apply below_alloc | apply pw_below_drewN | apply below_drew1 | refine below_set ?_ (IsS71.ge HI0.out)) | exact HB.out), by repeat (first | (with_reducible first | exact HK.out | apply KeepBut.set_ | apply keep_drewN | apply keep_drew | apply keep_alloc) | exact HK.out)⟩
    · rw [if_neg c3] at H
      exact absurd H (by simp)
  · rw [if_neg c2] at H
    have c2b0 : decide (s0_1 < (s0_0.size : Int)) = false := decide_eq_false c2
    clear c2
    simp only [Option.some.injEq, Prod.mk.injEq] at H
    obtain ⟨rfl, rfl, rfl, rfl, rfl, rfl, rfl, rfl⟩ := H
    obtain ⟨HGz6, hgz6⟩ := HI0.out
    have hcz6_0 := cellS71_0 HGz6
    have hcz6_1 := cellS71_1 HGz6
    have hcz6_2 := cellS71_2 HGz6
    have hcz6_3 := cellS71_3 HGz6
    have hcz6_4 := cellS71_4 HGz6
    have hcz6_5 := cellS71_5 HGz6
    have hfz6_0 := blk_frozen HGz6 0
    have hfz6_1 := blk_frozen HGz6 1
    have hfz6_2 := blk_frozen HGz6 2
    have hfz6_3 := blk_frozen HGz6 3
    have hfz6_4 := blk_frozen HGz6 4
    have hfz6_5 := blk_frozen HGz6 5
    clear HGz6 hgz6
    go_enter Tryd.func80, Tryd.ntmps80
    go_wp2
    repeat (go_quiet (fail); try go_wp2)
    go_ret2
    exact ⟨ze, by repeat (first | (with_reducible first | exact HI0.out | apply IsS71.alloc | apply IsS71.drewN | apply IsS71.drew | apply IsS71.set_0 | apply IsS71.set_1 | apply IsS71.set_2 | apply IsS71.set_3 | apply IsS71.set_4 | apply IsS71.set_5) | exact HI0.out), by repeat (first | (with_reducible first | exact HB.out | apply below_alloc | apply pw_below_drewN | apply below_drew1 | refine below_set ?_ (IsS71.ge HI0.out)) | exact HB.out), by repeat (first | (with_reducible first | exact HK.out | apply KeepBut.set_ | apply keep_drewN | apply keep_drew | apply keep_alloc) | exact HK.out)⟩

/-! ### labels_reader_fail: function 82 -/
def labels_reader_fail.f (s0_0 : ByteArray) (s0_1 : Int) (s0_2 : Bool) (s0_3 : Value) (s0_4 : Int) (s0_5 : Int) (a1 : Int) (a2 : Int) : Option (ByteArray × Int × Bool × Value × Int × Int) := if s0_4 = 0 then (some (s0_0, s0_1, s0_2, s0_3, a1, a2)) else (some (s0_0, s0_1, s0_2, s0_3, s0_4, s0_5))
set_option maxHeartbeats 8000000 in
set_option maxRecDepth 100000 in
theorem labels_reader_fail.calls (g : Nat) (s0_0 : ByteArray) (s0_1 : Int) (s0_2 : Bool) (s0_3 : Value) (s0_4 : Int) (s0_5 : Int) (a1 : Int) (a2 : Int) (r1 : ByteArray) (r2 : Int) (r3 : Bool) (r4 : Value) (r5 : Int) (r6 : Int) (w0 w : World) (hI : IsS71 w0 w g s0_0 s0_1 s0_2 s0_3 s0_4 s0_5) (hB : Below w0.heap.size w0 w) (h : labels_reader_fail.f s0_0 s0_1 s0_2 s0_3 s0_4 s0_5 a1 a2 = some (r1, r2, r3, r4, r5, r6)) :
    Calls Tryd.prog 82 #[.pointer (some ⟨g, 0, none⟩), .int .i64 a1, .int .i64 a2] w fun e w' => e = .returned (.tuple #[]) ∧ IsS71 w0 w' g r1 r2 r3 r4 r5 r6 ∧ Below w0.heap.size w0 w' ∧ KeepBut w w' g none := by
  have HI0 := Aside0.mk hI
  have HK := Aside0.mk (KeepBut.refl w g none)
  have HL := Aside0.mk hB.size
  clear hI
  have HW0 := Aside0.mk hB.size
  have HB := Aside0.mk hB
  clear hB
  have H : (if s0_4 = 0 then (some (s0_0, s0_1, s0_2, s0_3, a1, a2)) else (some (s0_0, s0_1, s0_2, s0_3, s0_4, s0_5))) = some (r1, r2, r3, r4, r5, r6) := h
  clear h
  by_cases c4 : s0_4 = 0
  · rw [if_pos c4] at H
    have c4b0 : (s0_4 == 0) = true := beq_iff_eq.mpr c4
    have c4b1 : (s0_4 != 0) = false := bne_eq_false_iff_eq.mpr c4
    clear c4
    simp only [Option.some.injEq, Prod.mk.injEq] at H
    obtain ⟨rfl, rfl, rfl, rfl, rfl, rfl⟩ := H
    obtain ⟨HGz5, hgz5⟩ := HI0.out
    have hcz5_0 := cellS71_0 HGz5
    have hcz5_1 := cellS71_1 HGz5
    have hcz5_2 := cellS71_2 HGz5
    have hcz5_3 := cellS71_3 HGz5
    have hcz5_4 := cellS71_4 HGz5
    have hcz5_5 := cellS71_5 HGz5
    have hfz5_0 := blk_frozen HGz5 0
    have hfz5_1 := blk_frozen HGz5 1
    have hfz5_2 := blk_frozen HGz5 2
    have hfz5_3 := blk_frozen HGz5 3
    have hfz5_4 := blk_frozen HGz5 4
    have hfz5_5 := blk_frozen HGz5 5
    clear HGz5 hgz5
    go_enter Tryd.func82, Tryd.ntmps82
    go_wp2
    first | go_end0 | ((try simp only [Exit.inBlock, Exit.then]); refine bodyPost_ret (results_none rfl _ _ _) rfl ?_)
    exact ⟨ze, by repeat (first | (with_reducible first | exact HI0.out | apply IsS71.alloc | apply IsS71.drewN | apply IsS71.drew | apply IsS71.set_0 | apply IsS71.set_1 | apply IsS71.set_2 | apply IsS71.set_3 | apply IsS71.set_4 | apply IsS71.set_5) | exact HI0.out), by repeat (first | (with_reducible first | exact HB.out | apply below_alloc | apply pw_below_drewN | apply below_drew1 | refine below_set ?_ (IsS71.ge HI0.out)) | exact HB.out), by repeat (first | (with_reducible first | exact HK.out | apply KeepBut.set_ | apply keep_drewN | apply keep_drew | apply keep_alloc) | exact HK.out)⟩
  · rw [if_neg c4] at H
    have c4b0 : (s0_4 == 0) = false := beq_eq_false_iff_ne.mpr c4
    have c4b1 : (s0_4 != 0) = true := bne_iff_ne.mpr c4
    simp only [Option.some.injEq, Prod.mk.injEq] at H
    obtain ⟨rfl, rfl, rfl, rfl, rfl, rfl⟩ := H
    obtain ⟨HGz6, hgz6⟩ := HI0.out
    have hcz6_0 := cellS71_0 HGz6
    have hcz6_1 := cellS71_1 HGz6
    have hcz6_2 := cellS71_2 HGz6
    have hcz6_3 := cellS71_3 HGz6
    have hcz6_4 := cellS71_4 HGz6
    have hcz6_5 := cellS71_5 HGz6
    have hfz6_0 := blk_frozen HGz6 0
    have hfz6_1 := blk_frozen HGz6 1
    have hfz6_2 := blk_frozen HGz6 2
    have hfz6_3 := blk_frozen HGz6 3
    have hfz6_4 := blk_frozen HGz6 4
    have hfz6_5 := blk_frozen HGz6 5
    clear HGz6 hgz6
    go_enter Tryd.func82, Tryd.ntmps82
    go_wp2
    first | go_end0 | ((try simp only [Exit.inBlock, Exit.then]); refine bodyPost_ret (results_none rfl _ _ _) rfl ?_)
    exact ⟨ze, by repeat (first | (with_reducible first | exact HI0.out | apply IsS71.alloc | apply IsS71.drewN | apply IsS71.drew | apply IsS71.set_0 | apply IsS71.set_1 | apply IsS71.set_2 | apply IsS71.set_3 | apply IsS71.set_4 | apply IsS71.set_5) | exact HI0.out), by repeat (first | (with_reducible first | exact HB.out | apply below_alloc | apply pw_below_drewN | apply below_drew1 | refine below_set ?_ (IsS71.ge HI0.out)) | exact HB.out), by repeat (first | (with_reducible first | exact HK.out | apply KeepBut.set_ | apply keep_drewN | apply keep_drew | apply keep_alloc) | exact HK.out)⟩

/-! ### labels_reader_take: function 79 -/
def labels_reader_take.f (s0_0 : ByteArray) (s0_1 : Int) (s0_2 : Bool) (s0_3 : Value) (s0_4 : Int) (s0_5 : Int) (a1 : Int) : Option (Bool × ByteArray × Int × Bool × Value × Int × Int) := (labels_reader_here.f s0_0 s0_1 s0_2 s0_3 s0_4 s0_5).bind fun bt181 => (if bt181.2.1 = true then (if bt181.1 = a1 then (some (true, bt181.2.2.1, wrap64 (bt181.2.2.2.1 + 1), bt181.2.2.2.2.1, bt181.2.2.2.2.2.1, bt181.2.2.2.2.2.2.1, bt181.2.2.2.2.2.2.2)) else ((labels_reader_fail.f bt181.2.2.1 bt181.2.2.2.1 bt181.2.2.2.2.1 bt181.2.2.2.2.2.1 bt181.2.2.2.2.2.2.1 bt181.2.2.2.2.2.2.2 120 bt181.2.2.2.1).bind fun bt189 => (some (false, bt189.1, bt189.2.1, bt189.2.2.1, bt189.2.2.2.1, bt189.2.2.2.2.1, bt189.2.2.2.2.2)))) else ((labels_reader_fail.f bt181.2.2.1 bt181.2.2.2.1 bt181.2.2.2.2.1 bt181.2.2.2.2.2.1 bt181.2.2.2.2.2.2.1 bt181.2.2.2.2.2.2.2 120 bt181.2.2.2.1).bind fun bt195 => (some (false, bt195.1, bt195.2.1, bt195.2.2.1, bt195.2.2.2.1, bt195.2.2.2.2.1, bt195.2.2.2.2.2))))
set_option maxHeartbeats 8000000 in
set_option maxRecDepth 100000 in
theorem labels_reader_take.calls (g : Nat) (s0_0 : ByteArray) (s0_1 : Int) (s0_2 : Bool) (s0_3 : Value) (s0_4 : Int) (s0_5 : Int) (a1 : Int) (r1 : Bool) (r2 : ByteArray) (r3 : Int) (r4 : Bool) (r5 : Value) (r6 : Int) (r7 : Int) (w0 w : World) (hI : IsS71 w0 w g s0_0 s0_1 s0_2 s0_3 s0_4 s0_5) (hB : Below w0.heap.size w0 w) (h : labels_reader_take.f s0_0 s0_1 s0_2 s0_3 s0_4 s0_5 a1 = some (r1, r2, r3, r4, r5, r6, r7)) :
    Calls Tryd.prog 79 #[.pointer (some ⟨g, 0, none⟩), .int .u8 a1] w fun e w' => e = .returned (.bool r1) ∧ IsS71 w0 w' g r2 r3 r4 r5 r6 r7 ∧ Below w0.heap.size w0 w' ∧ KeepBut w w' g none := by
  have HI0 := Aside0.mk hI
  have HK := Aside0.mk (KeepBut.refl w g none)
  have HL := Aside0.mk hB.size
  clear hI
  have HW0 := Aside0.mk hB.size
  have HB := Aside0.mk hB
  clear hB
  have H : ((labels_reader_here.f s0_0 s0_1 s0_2 s0_3 s0_4 s0_5).bind fun bt181 => (if bt181.2.1 = true then (if bt181.1 = a1 then (some (true, bt181.2.2.1, wrap64 (bt181.2.2.2.1 + 1), bt181.2.2.2.2.1, bt181.2.2.2.2.2.1, bt181.2.2.2.2.2.2.1, bt181.2.2.2.2.2.2.2)) else ((labels_reader_fail.f bt181.2.2.1 bt181.2.2.2.1 bt181.2.2.2.2.1 bt181.2.2.2.2.2.1 bt181.2.2.2.2.2.2.1 bt181.2.2.2.2.2.2.2 120 bt181.2.2.2.1).bind fun bt189 => (some (false, bt189.1, bt189.2.1, bt189.2.2.1, bt189.2.2.2.1, bt189.2.2.2.2.1, bt189.2.2.2.2.2)))) else ((labels_reader_fail.f bt181.2.2.1 bt181.2.2.2.1 bt181.2.2.2.2.1 bt181.2.2.2.2.2.1 bt181.2.2.2.2.2.2.1 bt181.2.2.2.2.2.2.2 120 bt181.2.2.2.1).bind fun bt195 => (some (false, bt195.1, bt195.2.1, bt195.2.2.1, bt195.2.2.2.1, bt195.2.2.2.2.1, bt195.2.2.2.2.2))))) = some (r1, r2, r3, r4, r5, r6, r7) := h
  clear h
  replace H := Option.bind_eq_some_iff.mp H
  obtain ⟨⟨t181, t182, t183, t184, t185, t186, t187, t188⟩, A30, H⟩ := H
  replace H : (if t182 = true then (if t181 = a1 then (some (true, t183, wrap64 (t184 + 1), t185, t186, t187, t188)) else ((labels_reader_fail.f t183 t184 t185 t186 t187 t188 120 t184).bind fun bt189 => (some (false, bt189.1, bt189.2.1, bt189.2.2.1, bt189.2.2.2.1, bt189.2.2.2.2.1, bt189.2.2.2.2.2)))) else ((labels_reader_fail.f t183 t184 t185 t186 t187 t188 120 t184).bind fun bt195 => (some (false, bt195.1, bt195.2.1, bt195.2.2.1, bt195.2.2.2.1, bt195.2.2.2.2.1, bt195.2.2.2.2.2)))) = some (r1, r2, r3, r4, r5, r6, r7) := H
  have A3 := Aside0.mk A30
  clear A30
  by_cases c4 : t182 = true
  · subst c4
    have H1 : (if t181 = a1 then (some (true, t183, wrap64 (t184 + 1), t185, t186, t187, t188)) else ((labels_reader_fail.f t183 t184 t185 t186 t187 t188 120 t184).bind fun bt189 => (some (false, bt189.1, bt189.2.1, bt189.2.2.1, bt189.2.2.2.1, bt189.2.2.2.2.1, bt189.2.2.2.2.2)))) = some (r1, r2, r3, r4, r5, r6, r7) := by rw [if_pos rfl] at H; exact H
    clear H
    have H := H1
    clear H1
    by_cases c5 : t181 = a1
    · rw [if_pos c5] at H
      have c5b0 : (t181 == a1) = true := beq_iff_eq.mpr c5
      have c5b1 : (t181 != a1) = false := bne_eq_false_iff_eq.mpr c5
      clear c5
      simp only [Option.some.injEq, Prod.mk.injEq] at H
      obtain ⟨rfl, rfl, rfl, rfl, rfl, rfl, rfl⟩ := H
      go_enter Tryd.func79, Tryd.ntmps79
      go_wp2_with (first | ((with_reducible refine gate_callee (f := 80) rfl ?_); refine goesL_ (some 9) rfl rfl Tryd.func80 (by kernel_rfl) rfl #[.pointer (some ⟨g, 0, none⟩)] rfl zl ?_; (with_reducible refine (labels_reader_here.calls g s0_0 s0_1 s0_2 s0_3 s0_4 s0_5 t181 true t183 t184 t185 t186 t187 t188 w0 _ ?side1 ?side2 A3.out).mono ?_); (case side1 => repeat (first | (with_reducible first | exact HI0.out | apply IsS71.alloc | apply IsS71.drewN | apply IsS71.drew | apply IsS71.set_0 | apply IsS71.set_1 | apply IsS71.set_2 | apply IsS71.set_3 | apply IsS71.set_4 | apply IsS71.set_5) | exact HI0.out)); (case side2 => repeat (first | (with_reducible first | exact HB.out | apply below_alloc | apply pw_below_drewN | apply below_drew1 | refine below_set ?_ (IsS71.ge HI0.out)) | exact HB.out)); rintro e w6 ⟨rfl, hi, hb, hk⟩; refine ⟨_, rfl, ?_⟩; have n0_ := Aside0.mk (KeepBut.trans (by repeat (first | (with_reducible first | exact HK.out | apply KeepBut.set_ | apply keep_drewN | apply keep_drew | apply keep_alloc) | exact HK.out)) hk (.inl rfl)); have n1_ := Aside0.mk (hb); have n2_ := Aside0.mk (hi); clear HK; clear HB; clear HI0; have HK := n0_; have HB := n1_; have HI0 := n2_; clear n0_ n1_ n2_; (try clear hb); (try clear hb2); (try clear hk); (try clear hi); obtain ⟨HGz7, hgz7⟩ := HI0.out; have hcz7_0 := cellS71_0 HGz7; have hcz7_1 := cellS71_1 HGz7; have hcz7_2 := cellS71_2 HGz7; have hcz7_3 := cellS71_3 HGz7; have hcz7_4 := cellS71_4 HGz7; have hcz7_5 := cellS71_5 HGz7; have hfz7_0 := blk_frozen HGz7 0; have hfz7_1 := blk_frozen HGz7 1; have hfz7_2 := blk_frozen HGz7 2; have hfz7_3 := blk_frozen HGz7 3; have hfz7_4 := blk_frozen HGz7 4; have hfz7_5 := blk_frozen HGz7 5; clear HGz7 hgz7))
      go_ret
      exact ⟨ze, by repeat (first | (with_reducible first | exact HI0.out | apply IsS71.alloc | apply IsS71.drewN | apply IsS71.drew | apply IsS71.set_0 | apply IsS71.set_1 | apply IsS71.set_2 | apply IsS71.set_3 | apply IsS71.set_4 | apply IsS71.set_5) | exact HI0.out), by repeat (first | (with_reducible first | exact HB.out | apply below_alloc | apply pw_below_drewN | apply below_drew1 | refine below_set ?_ (IsS71.ge HI0.out)) | exact HB.out), by repeat (first | (with_reducible first | exact HK.out | apply KeepBut.set_ | apply keep_drewN | apply keep_drew | apply keep_alloc) | exact HK.out)⟩
    · rw [if_neg c5] at H
      have c5b0 : (t181 == a1) = false := beq_eq_false_iff_ne.mpr c5
      have c5b1 : (t181 != a1) = true := bne_iff_ne.mpr c5
      replace H := Option.bind_eq_some_iff.mp H
      obtain ⟨⟨t189, t190, t191, t192, t193, t194⟩, A80, H⟩ := H
      replace H : (some (false, t189, t190, t191, t192, t193, t194)) = some (r1, r2, r3, r4, r5, r6, r7) := H
      have A8 := Aside0.mk A80
      clear A80
      simp only [Option.some.injEq, Prod.mk.injEq] at H
      obtain ⟨rfl, rfl, rfl, rfl, rfl, rfl, rfl⟩ := H
      go_enter Tryd.func79, Tryd.ntmps79
      go_wp2_with (first | ((with_reducible refine gate_callee (f := 80) rfl ?_); refine goesL_ (some 9) rfl rfl Tryd.func80 (by kernel_rfl) rfl #[.pointer (some ⟨g, 0, none⟩)] rfl zl ?_; (with_reducible refine (labels_reader_here.calls g s0_0 s0_1 s0_2 s0_3 s0_4 s0_5 t181 true t183 t184 t185 t186 t187 t188 w0 _ ?side1 ?side2 A3.out).mono ?_); (case side1 => repeat (first | (with_reducible first | exact HI0.out | apply IsS71.alloc | apply IsS71.drewN | apply IsS71.drew | apply IsS71.set_0 | apply IsS71.set_1 | apply IsS71.set_2 | apply IsS71.set_3 | apply IsS71.set_4 | apply IsS71.set_5) | exact HI0.out)); (case side2 => repeat (first | (with_reducible first | exact HB.out | apply below_alloc | apply pw_below_drewN | apply below_drew1 | refine below_set ?_ (IsS71.ge HI0.out)) | exact HB.out)); rintro e w9 ⟨rfl, hi, hb, hk⟩; refine ⟨_, rfl, ?_⟩; have n0_ := Aside0.mk (KeepBut.trans (by repeat (first | (with_reducible first | exact HK.out | apply KeepBut.set_ | apply keep_drewN | apply keep_drew | apply keep_alloc) | exact HK.out)) hk (.inl rfl)); have n1_ := Aside0.mk (hb); have n2_ := Aside0.mk (hi); clear HK; clear HB; clear HI0; have HK := n0_; have HB := n1_; have HI0 := n2_; clear n0_ n1_ n2_; (try clear hb); (try clear hb2); (try clear hk); (try clear hi); obtain ⟨HGz10, hgz10⟩ := HI0.out; have hcz10_0 := cellS71_0 HGz10; have hcz10_1 := cellS71_1 HGz10; have hcz10_2 := cellS71_2 HGz10; have hcz10_3 := cellS71_3 HGz10; have hcz10_4 := cellS71_4 HGz10; have hcz10_5 := cellS71_5 HGz10; have hfz10_0 := blk_frozen HGz10 0; have hfz10_1 := blk_frozen HGz10 1; have hfz10_2 := blk_frozen HGz10 2; have hfz10_3 := blk_frozen HGz10 3; have hfz10_4 := blk_frozen HGz10 4; have hfz10_5 := blk_frozen HGz10 5; clear HGz10 hgz10) | ((with_reducible refine gate_callee (f := 82) rfl ?_); refine goesL_ (some 24) rfl rfl Tryd.func82 (by kernel_rfl) rfl #[.pointer (some ⟨g, 0, none⟩), .int .i64 120, .int .i64 t184] rfl zl ?_; (with_reducible refine (labels_reader_fail.calls g t183 t184 t185 t186 t187 t188 120 t184 t189 t190 t191 t192 t193 t194 w0 _ ?side1 ?side2 A8.out).mono ?_); (case side1 => repeat (first | (with_reducible first | exact HI0.out | apply IsS71.alloc | apply IsS71.drewN | apply IsS71.drew | apply IsS71.set_0 | apply IsS71.set_1 | apply IsS71.set_2 | apply IsS71.set_3 | apply IsS71.set_4 | apply IsS71.set_5) | exact HI0.out)); (case side2 => repeat (first | (with_reducible first | exact HB.out | apply below_alloc | apply pw_below_drewN | apply below_drew1 | refine below_set ?_ (IsS71.ge HI0.out)) | exact HB.out)); rintro e w11 ⟨rfl, hi, hb, hk⟩; refine ⟨_, rfl, ?_⟩; have n0_ := Aside0.mk (KeepBut.trans (by repeat (first | (with_reducible first | exact HK.out | apply KeepBut.set_ | apply keep_drewN | apply keep_drew | apply keep_alloc) | exact HK.out)) hk (.inl rfl)); have n1_ := Aside0.mk (hb); have n2_ := Aside0.mk (hi); clear HK; clear HB; clear HI0; have HK := n0_; have HB := n1_; have HI0 := n2_; clear n0_ n1_ n2_; (try clear hb); (try clear hb2); (try clear hk); (try clear hi)))
      go_ret
      exact ⟨ze, by repeat (first | (with_reducible first | exact HI0.out | apply IsS71.alloc | apply IsS71.drewN | apply IsS71.drew | apply IsS71.set_0 | apply IsS71.set_1 | apply IsS71.set_2 | apply IsS71.set_3 | apply IsS71.set_4 | apply IsS71.set_5) | exact HI0.out), by repeat (first | (with_reducible first | exact HB.out | apply below_alloc | apply pw_below_drewN | apply below_drew1 | refine below_set ?_ (IsS71.ge HI0.out)) | exact HB.out), by repeat (first | (with_reducible first | exact HK.out | apply KeepBut.set_ | apply keep_drewN | apply keep_drew | apply keep_alloc) | exact HK.out)⟩
  · replace c4 := Bool.eq_false_iff.mpr c4
    subst c4
    have H1 : ((labels_reader_fail.f t183 t184 t185 t186 t187 t188 120 t184).bind fun bt195 => (some (false, bt195.1, bt195.2.1, bt195.2.2.1, bt195.2.2.2.1, bt195.2.2.2.2.1, bt195.2.2.2.2.2))) = some (r1, r2, r3, r4, r5, r6, r7) := by rw [if_neg (show ¬ (false = true) by decide)] at H; exact H
    clear H
    have H := H1
    clear H1
    replace H := Option.bind_eq_some_iff.mp H
    obtain ⟨⟨t195, t196, t197, t198, t199, t200⟩, A120, H⟩ := H
    replace H : (some (false, t195, t196, t197, t198, t199, t200)) = some (r1, r2, r3, r4, r5, r6, r7) := H
    have A12 := Aside0.mk A120
    clear A120
    simp only [Option.some.injEq, Prod.mk.injEq] at H
    obtain ⟨rfl, rfl, rfl, rfl, rfl, rfl, rfl⟩ := H
    go_enter Tryd.func79, Tryd.ntmps79
    go_wp2_with (first | ((with_reducible refine gate_callee (f := 80) rfl ?_); refine goesL_ (some 9) rfl rfl Tryd.func80 (by kernel_rfl) rfl #[.pointer (some ⟨g, 0, none⟩)] rfl zl ?_; (with_reducible refine (labels_reader_here.calls g s0_0 s0_1 s0_2 s0_3 s0_4 s0_5 t181 false t183 t184 t185 t186 t187 t188 w0 _ ?side1 ?side2 A3.out).mono ?_); (case side1 => repeat (first | (with_reducible first | exact HI0.out | apply IsS71.alloc | apply IsS71.drewN | apply IsS71.drew | apply IsS71.set_0 | apply IsS71.set_1 | apply IsS71.set_2 | apply IsS71.set_3 | apply IsS71.set_4 | apply IsS71.set_5) | exact HI0.out)); (case side2 => repeat (first | (with_reducible first | exact HB.out | apply below_alloc | apply pw_below_drewN | apply below_drew1 | refine below_set ?_ (IsS71.ge HI0.out)) | exact HB.out)); rintro e w13 ⟨rfl, hi, hb, hk⟩; refine ⟨_, rfl, ?_⟩; have n0_ := Aside0.mk (KeepBut.trans (by repeat (first | (with_reducible first | exact HK.out | apply KeepBut.set_ | apply keep_drewN | apply keep_drew | apply keep_alloc) | exact HK.out)) hk (.inl rfl)); have n1_ := Aside0.mk (hb); have n2_ := Aside0.mk (hi); clear HK; clear HB; clear HI0; have HK := n0_; have HB := n1_; have HI0 := n2_; clear n0_ n1_ n2_; (try clear hb); (try clear hb2); (try clear hk); (try clear hi); obtain ⟨HGz14, hgz14⟩ := HI0.out; have hcz14_0 := cellS71_0 HGz14; have hcz14_1 := cellS71_1 HGz14; have hcz14_2 := cellS71_2 HGz14; have hcz14_3 := cellS71_3 HGz14; have hcz14_4 := cellS71_4 HGz14; have hcz14_5 := cellS71_5 HGz14; have hfz14_0 := blk_frozen HGz14 0; have hfz14_1 := blk_frozen HGz14 1; have hfz14_2 := blk_frozen HGz14 2; have hfz14_3 := blk_frozen HGz14 3; have hfz14_4 := blk_frozen HGz14 4; have hfz14_5 := blk_frozen HGz14 5; clear HGz14 hgz14) | ((with_reducible refine gate_callee (f := 82) rfl ?_); refine goesL_ (some 24) rfl rfl Tryd.func82 (by kernel_rfl) rfl #[.pointer (some ⟨g, 0, none⟩), .int .i64 120, .int .i64 t184] rfl zl ?_; (with_reducible refine (labels_reader_fail.calls g t183 t184 t185 t186 t187 t188 120 t184 t195 t196 t197 t198 t199 t200 w0 _ ?side1 ?side2 A12.out).mono ?_); (case side1 => repeat (first | (with_reducible first | exact HI0.out | apply IsS71.alloc | apply IsS71.drewN | apply IsS71.drew | apply IsS71.set_0 | apply IsS71.set_1 | apply IsS71.set_2 | apply IsS71.set_3 | apply IsS71.set_4 | apply IsS71.set_5) | exact HI0.out)); (case side2 => repeat (first | (with_reducible first | exact HB.out | apply below_alloc | apply pw_below_drewN | apply below_drew1 | refine below_set ?_ (IsS71.ge HI0.out)) | exact HB.out)); rintro e w15 ⟨rfl, hi, hb, hk⟩; refine ⟨_, rfl, ?_⟩; have n0_ := Aside0.mk (KeepBut.trans (by repeat (first | (with_reducible first | exact HK.out | apply KeepBut.set_ | apply keep_drewN | apply keep_drew | apply keep_alloc) | exact HK.out)) hk (.inl rfl)); have n1_ := Aside0.mk (hb); have n2_ := Aside0.mk (hi); clear HK; clear HB; clear HI0; have HK := n0_; have HB := n1_; have HI0 := n2_; clear n0_ n1_ n2_; (try clear hb); (try clear hb2); (try clear hk); (try clear hi)))
    go_ret
    exact ⟨ze, by repeat (first | (with_reducible first | exact HI0.out | apply IsS71.alloc | apply IsS71.drewN | apply IsS71.drew | apply IsS71.set_0 | apply IsS71.set_1 | apply IsS71.set_2 | apply IsS71.set_3 | apply IsS71.set_4 | apply IsS71.set_5) | exact HI0.out), by repeat (first | (with_reducible first | exact HB.out | apply below_alloc | apply pw_below_drewN | apply below_drew1 | refine below_set ?_ (IsS71.ge HI0.out)) | exact HB.out), by repeat (first | (with_reducible first | exact HK.out | apply KeepBut.set_ | apply keep_drewN | apply keep_drew | apply keep_alloc) | exact HK.out)⟩

/-! ### labels_reader_name: function 94 -/
mutual
def labels_reader_name.j2 : Nat → Int → ByteArray → Int → Bool → Value → Int → Int → Option (ByteArray × ByteArray × Int × Bool × Value × Int × Int)
  | 0, _, _, _, _, _, _, _ => none
  | k + 1, x3, x1000, x1001, x1002, x1003, x1004, x1005 => (labels_reader_here.f x1000 x1001 x1002 x1003 x1004 x1005).bind fun bt227 => (if bt227.2.2.2.1 = x3 then ((labels_reader_fail.f bt227.2.2.1 bt227.2.2.2.1 bt227.2.2.2.2.1 bt227.2.2.2.2.2.1 bt227.2.2.2.2.2.2.1 bt227.2.2.2.2.2.2.2 120 bt227.2.2.2.1).bind fun bt235 => (if 0 ≤ x3 then (if x3 ≤ bt235.2.1 then (if bt235.2.1 ≤ (bt235.1.size : Int) then (some (bt235.1.extract (x3 : Int).toNat (bt235.2.1 : Int).toNat, bt235.1, bt235.2.1, bt235.2.2.1, bt235.2.2.2.1, bt235.2.2.2.2.1, bt235.2.2.2.2.2)) else (none)) else (none)) else (none))) else (if bt227.2.1 = true then ((labels_named.f bt227.1).bind fun t241 => (if t241 = true then ((labels_reader_fail.f bt227.2.2.1 bt227.2.2.2.1 bt227.2.2.2.2.1 bt227.2.2.2.2.2.1 bt227.2.2.2.2.2.2.1 bt227.2.2.2.2.2.2.2 120 bt227.2.2.2.1).bind fun bt242 => (if 0 ≤ x3 then (if x3 ≤ bt242.2.1 then (if bt242.2.1 ≤ (bt242.1.size : Int) then (some (bt242.1.extract (x3 : Int).toNat (bt242.2.1 : Int).toNat, bt242.1, bt242.2.1, bt242.2.2.1, bt242.2.2.2.1, bt242.2.2.2.2.1, bt242.2.2.2.2.2)) else (none)) else (none)) else (none))) else (if 0 ≤ x3 then (if x3 ≤ bt227.2.2.2.1 then (if bt227.2.2.2.1 ≤ (bt227.2.2.1.size : Int) then (some (bt227.2.2.1.extract (x3 : Int).toNat (bt227.2.2.2.1 : Int).toNat, bt227.2.2.1, bt227.2.2.2.1, bt227.2.2.2.2.1, bt227.2.2.2.2.2.1, bt227.2.2.2.2.2.2.1, bt227.2.2.2.2.2.2.2)) else (none)) else (none)) else (none)))) else (if 0 ≤ x3 then (if x3 ≤ bt227.2.2.2.1 then (if bt227.2.2.2.1 ≤ (bt227.2.2.1.size : Int) then (some (bt227.2.2.1.extract (x3 : Int).toNat (bt227.2.2.2.1 : Int).toNat, bt227.2.2.1, bt227.2.2.2.1, bt227.2.2.2.2.1, bt227.2.2.2.2.2.1, bt227.2.2.2.2.2.2.1, bt227.2.2.2.2.2.2.2)) else (none)) else (none)) else (none))))
def labels_reader_name.l0 : Nat → Int → Int → Bool → ByteArray → Int → Bool → Value → Int → Int → Option (ByteArray × ByteArray × Int × Bool × Value × Int × Int)
  | 0, _, _, _, _, _, _, _, _, _ => none
  | k + 1, x3, x4, x5, x1000, x1001, x1002, x1003, x1004, x1005 => if x5 = true then ((labels_named.f x4).bind fun t209 => (labels_reader_name.j1 k x3 x4 t209 x1000 x1001 x1002 x1003 x1004 x1005)) else (labels_reader_name.j1 k x3 x4 false x1000 x1001 x1002 x1003 x1004 x1005)
def labels_reader_name.j1 : Nat → Int → Int → Bool → ByteArray → Int → Bool → Value → Int → Int → Option (ByteArray × ByteArray × Int × Bool × Value × Int × Int)
  | 0, _, _, _, _, _, _, _, _, _ => none
  | k + 1, x3, x4, x21, x1000, x1001, x1002, x1003, x1004, x1005 => if x21 = true then (if x1001 = x3 then ((labels_letter.f x4).bind fun t210 => (if t210 = true then (if (wrap64 (x1001 - x3)) = 64 then (labels_reader_name.j2 k x3 x1000 x1001 x1002 x1003 x1004 x1005) else ((labels_reader_here.f x1000 (wrap64 (x1001 + 1)) x1002 x1003 x1004 x1005).bind fun bt211 => (labels_reader_name.l0 k x3 bt211.1 bt211.2.1 bt211.2.2.1 bt211.2.2.2.1 bt211.2.2.2.2.1 bt211.2.2.2.2.2.1 bt211.2.2.2.2.2.2.1 bt211.2.2.2.2.2.2.2))) else (labels_reader_name.j2 k x3 x1000 x1001 x1002 x1003 x1004 x1005))) else (if (wrap64 (x1001 - x3)) = 64 then (labels_reader_name.j2 k x3 x1000 x1001 x1002 x1003 x1004 x1005) else ((labels_reader_here.f x1000 (wrap64 (x1001 + 1)) x1002 x1003 x1004 x1005).bind fun bt219 => (labels_reader_name.l0 k x3 bt219.1 bt219.2.1 bt219.2.2.1 bt219.2.2.2.1 bt219.2.2.2.2.1 bt219.2.2.2.2.2.1 bt219.2.2.2.2.2.2.1 bt219.2.2.2.2.2.2.2)))) else (labels_reader_name.j2 k x3 x1000 x1001 x1002 x1003 x1004 x1005)
end
def labels_reader_name.f (k : Nat) (s0_0 : ByteArray) (s0_1 : Int) (s0_2 : Bool) (s0_3 : Value) (s0_4 : Int) (s0_5 : Int) : Option (ByteArray × ByteArray × Int × Bool × Value × Int × Int) := (labels_reader_here.f s0_0 s0_1 s0_2 s0_3 s0_4 s0_5).bind fun bt201 => (labels_reader_name.l0 k s0_1 bt201.1 bt201.2.1 bt201.2.2.1 bt201.2.2.2.1 bt201.2.2.2.2.1 bt201.2.2.2.2.2.1 bt201.2.2.2.2.2.2.1 bt201.2.2.2.2.2.2.2)
set_option maxHeartbeats 8000000 in
set_option maxRecDepth 100000 in
theorem labels_reader_name.calls (k : Nat) (g : Nat) (s0_0 : ByteArray) (s0_1 : Int) (s0_2 : Bool) (s0_3 : Value) (s0_4 : Int) (s0_5 : Int) (r1 : ByteArray) (r2 : ByteArray) (r3 : Int) (r4 : Bool) (r5 : Value) (r6 : Int) (r7 : Int) (w0 w : World) (hI : IsS71 w0 w g s0_0 s0_1 s0_2 s0_3 s0_4 s0_5) (hB : Below w0.heap.size w0 w) (h : labels_reader_name.f k s0_0 s0_1 s0_2 s0_3 s0_4 s0_5 = some (r1, r2, r3, r4, r5, r6, r7)) :
    Calls Tryd.prog 94 #[.pointer (some ⟨g, 0, none⟩)] w fun e w' => e = .returned (.string r1) ∧ IsS71 w0 w' g r2 r3 r4 r5 r6 r7 ∧ Below w0.heap.size w0 w' ∧ KeepBut w w' g none := by
  have HI0 := Aside0.mk hI
  have HK := Aside0.mk (KeepBut.refl w g none)
  have HL := Aside0.mk hB.size
  clear hI
  have HW0 := Aside0.mk hB.size
  have HB := Aside0.mk hB
  clear hB
  have H : ((labels_reader_here.f s0_0 s0_1 s0_2 s0_3 s0_4 s0_5).bind fun bt201 => (labels_reader_name.l0 k s0_1 bt201.1 bt201.2.1 bt201.2.2.1 bt201.2.2.2.1 bt201.2.2.2.2.1 bt201.2.2.2.2.2.1 bt201.2.2.2.2.2.2.1 bt201.2.2.2.2.2.2.2)) = some (r1, r2, r3, r4, r5, r6, r7) := h
  clear h
  replace H := Option.bind_eq_some_iff.mp H
  obtain ⟨⟨t201, t202, t203, t204, t205, t206, t207, t208⟩, A20, H⟩ := H
  replace H : (labels_reader_name.l0 k s0_1 t201 t202 t203 t204 t205 t206 t207 t208) = some (r1, r2, r3, r4, r5, r6, r7) := H
  have A2 := Aside0.mk A20
  clear A20
  have HC3 := Aside0.mk H
  clear H
  obtain ⟨HGz4, hgz4⟩ := HI0.out
  have hcz4_0 := cellS71_0 HGz4
  have hcz4_1 := cellS71_1 HGz4
  have hcz4_2 := cellS71_2 HGz4
  have hcz4_3 := cellS71_3 HGz4
  have hcz4_4 := cellS71_4 HGz4
  have hcz4_5 := cellS71_5 HGz4
  have hfz4_0 := blk_frozen HGz4 0
  have hfz4_1 := blk_frozen HGz4 1
  have hfz4_2 := blk_frozen HGz4 2
  have hfz4_3 := blk_frozen HGz4 3
  have hfz4_4 := blk_frozen HGz4 4
  have hfz4_5 := blk_frozen HGz4 5
  clear HGz4 hgz4
  go_enter Tryd.func94, Tryd.ntmps94
  go_upto_block 0 with (first | (go_at_call 80; (with_reducible refine (labels_reader_here.calls g s0_0 s0_1 s0_2 s0_3 s0_4 s0_5 t201 t202 t203 t204 t205 t206 t207 t208 w0 _ ?side1 ?side2 A2.out).mono ?_); (case side1 => repeat (first | (with_reducible first | exact HI0.out | apply IsS71.alloc | apply IsS71.drewN | apply IsS71.drew | apply IsS71.set_0 | apply IsS71.set_1 | apply IsS71.set_2 | apply IsS71.set_3 | apply IsS71.set_4 | apply IsS71.set_5) | exact HI0.out)); (case side2 => repeat (first | (with_reducible first | exact HB.out | apply below_alloc | apply pw_below_drewN | apply below_drew1 | refine below_set ?_ (IsS71.ge HI0.out)) | exact HB.out)); rintro e w5 ⟨rfl, hi, hb, hk⟩; have n0_ := Aside0.mk (KeepBut.trans (by repeat (first | (with_reducible first | exact HK.out | apply KeepBut.set_ | apply keep_drewN | apply keep_drew | apply keep_alloc) | exact HK.out)) hk (.inl rfl)); have n1_ := Aside0.mk (hb); have n2_ := Aside0.mk (hi); clear HK; clear HB; clear HI0; have HK := n0_; have HB := n1_; have HI0 := n2_; clear n0_ n1_ n2_; (try clear hb); (try clear hb2); (try clear hk); (try clear hi)))
  repeat (go_quiet (first | (go_at_call 80; (with_reducible refine (labels_reader_here.calls g s0_0 s0_1 s0_2 s0_3 s0_4 s0_5 t201 t202 t203 t204 t205 t206 t207 t208 w0 _ ?side1 ?side2 A2.out).mono ?_); (case side1 => repeat (first | (with_reducible first | exact HI0.out | apply IsS71.alloc | apply IsS71.drewN | apply IsS71.drew | apply IsS71.set_0 | apply IsS71.set_1 | apply IsS71.set_2 | apply IsS71.set_3 | apply IsS71.set_4 | apply IsS71.set_5) | exact HI0.out)); (case side2 => repeat (first | (with_reducible first | exact HB.out | apply below_alloc | apply pw_below_drewN | apply below_drew1 | refine below_set ?_ (IsS71.ge HI0.out)) | exact HB.out)); rintro e w5 ⟨rfl, hi, hb, hk⟩; have n0_ := Aside0.mk (KeepBut.trans (by repeat (first | (with_reducible first | exact HK.out | apply KeepBut.set_ | apply keep_drewN | apply keep_drew | apply keep_alloc) | exact HK.out)) hk (.inl rfl)); have n1_ := Aside0.mk (hb); have n2_ := Aside0.mk (hi); clear HK; clear HB; clear HI0; have HK := n0_; have HB := n1_; have HI0 := n2_; clear n0_ n1_ n2_; (try clear hb); (try clear hb2); (try clear hk); (try clear hi))); go_upto_block 0 with (first | (go_at_call 80; (with_reducible refine (labels_reader_here.calls g s0_0 s0_1 s0_2 s0_3 s0_4 s0_5 t201 t202 t203 t204 t205 t206 t207 t208 w0 _ ?side1 ?side2 A2.out).mono ?_); (case side1 => repeat (first | (with_reducible first | exact HI0.out | apply IsS71.alloc | apply IsS71.drewN | apply IsS71.drew | apply IsS71.set_0 | apply IsS71.set_1 | apply IsS71.set_2 | apply IsS71.set_3 | apply IsS71.set_4 | apply IsS71.set_5) | exact HI0.out)); (case side2 => repeat (first | (with_reducible first | exact HB.out | apply below_alloc | apply pw_below_drewN | apply below_drew1 | refine below_set ?_ (IsS71.ge HI0.out)) | exact HB.out)); rintro e w5 ⟨rfl, hi, hb, hk⟩; have n0_ := Aside0.mk (KeepBut.trans (by repeat (first | (with_reducible first | exact HK.out | apply KeepBut.set_ | apply keep_drewN | apply keep_drew | apply keep_alloc) | exact HK.out)) hk (.inl rfl)); have n1_ := Aside0.mk (hb); have n2_ := Aside0.mk (hi); clear HK; clear HB; clear HI0; have HK := n0_; have HB := n1_; have HI0 := n2_; clear n0_ n1_ n2_; (try clear hb); (try clear hb2); (try clear hk); (try clear hi))))
  (try simp only [Act.put, List.setIfInBounds_toArray, List.set_cons_zero, List.set_cons_succ])
  go_cut [] (fun wc => ∃ (kq : Nat) (x1000_2 : ByteArray) (x1001_2 : Int) (x1002_2 : Bool) (x1003_2 : Value) (x1004_2 : Int) (x1005_2 : Int), Aside0 (labels_reader_name.j2 kq s0_1 x1000_2 x1001_2 x1002_2 x1003_2 x1004_2 x1005_2 = some (r1, r2, r3, r4, r5, r6, r7)) ∧ Aside0 (kq ≤ k) ∧ Aside0 (IsS71 w0 wc g x1000_2 x1001_2 x1002_2 x1003_2 x1004_2 x1005_2) ∧ Aside0 (KeepBut w wc g none) ∧ Aside0 (Below w0.heap.size w0 wc))
  case first =>
    have H := HC3.out
    clear HC3
    have H' := Aside0.mk H
    clear H
    go_wp2
    repeat (go_quiet (fail); try go_wp2)
    go_loopg [4, 5] k (fun kq v4 v5 w' => ∃ (x4_1 : Int) (x5_1 : Bool) (x1000_1 : ByteArray) (x1001_1 : Int) (x1002_1 : Bool) (x1003_1 : Value) (x1004_1 : Int) (x1005_1 : Int), v4 = .int .u8 x4_1 ∧ v5 = .bool x5_1 ∧ Aside0 (labels_reader_name.l0 kq s0_1 x4_1 x5_1 x1000_1 x1001_1 x1002_1 x1003_1 x1004_1 x1005_1 = some (r1, r2, r3, r4, r5, r6, r7)) ∧ Aside0 (kq ≤ k) ∧ Aside0 (IsS71 w0 w' g x1000_1 x1001_1 x1002_1 x1003_1 x1004_1 x1005_1) ∧ Aside0 (KeepBut w w' g none) ∧ Aside0 (Below w0.heap.size w0 w'))
    case atStart => exact ⟨(t201), (t202), (t203), (t204), (t205), (t206), (t207), (t208), zs, zs, H', ⟨Nat.le_refl _⟩, ⟨by repeat (first | (with_reducible first | exact HI0.out | apply IsS71.alloc | apply IsS71.drewN | apply IsS71.drew | apply IsS71.set_0 | apply IsS71.set_1 | apply IsS71.set_2 | apply IsS71.set_3 | apply IsS71.set_4 | apply IsS71.set_5) | exact HI0.out)⟩, ⟨by repeat (first | (with_reducible first | exact HK.out | apply KeepBut.set_ | apply keep_drewN | apply keep_drew | apply keep_alloc) | exact HK.out)⟩, ⟨by repeat (first | (with_reducible first | exact HB.out | apply below_alloc | apply pw_below_drewN | apply below_drew1 | refine below_set ?_ (IsS71.ge HI0.out)) | exact HB.out)⟩⟩
    case round =>
      clear H'
      try clear p2
      try clear hcz4_0
      try clear hcz4_1
      try clear hcz4_2
      try clear hcz4_3
      try clear hcz4_4
      try clear hcz4_5
      try clear hfz4_0
      try clear hfz4_1
      try clear hfz4_2
      try clear hfz4_3
      try clear hfz4_4
      try clear hfz4_5
      obtain ⟨x4_1, x5_1, x1000_1, x1001_1, x1002_1, x1003_1, x1004_1, x1005_1, rfl, rfl, HA, HK1, HI0, HK, HB⟩ := hrel
      cases gk with
      | zero => exact absurd HA.out (by simp [labels_reader_name.l0])
      | succ k1 =>
        have H := HA.out
        clear HA
        simp only [labels_reader_name.l0] at H
        have HC6 := Aside0.mk H
        clear H
        go_upto_region 3 with (fail)
        repeat (go_quiet (fail); go_upto_region 3 with (fail))
        go_cut [21] (fun v21 wc => ∃ (kq : Nat) (x21_5 : Bool), v21 = .bool x21_5 ∧ Aside0 (labels_reader_name.j1 kq s0_1 x4_1 x21_5 x1000_1 x1001_1 x1002_1 x1003_1 x1004_1 x1005_1 = some (r1, r2, r3, r4, r5, r6, r7)) ∧ Aside0 (kq ≤ k1) ∧ Aside0 (IsS71 w0 wc g x1000_1 x1001_1 x1002_1 x1003_1 x1004_1 x1005_1) ∧ Aside0 (KeepBut w wc g none) ∧ Aside0 (Below w0.heap.size w0 wc))
        case first =>
          have H := HC6.out
          clear HC6
          by_cases c7 : x5_1 = true
          · subst c7
            have H1 : ((labels_named.f x4_1).bind fun t209 => (labels_reader_name.j1 k1 s0_1 x4_1 t209 x1000_1 x1001_1 x1002_1 x1003_1 x1004_1 x1005_1)) = some (r1, r2, r3, r4, r5, r6, r7) := by rw [if_pos rfl] at H; exact H
            clear H
            have H := H1
            clear H1
            replace H := Option.bind_eq_some_iff.mp H
            obtain ⟨t209, A80, H⟩ := H
            replace H : (labels_reader_name.j1 k1 s0_1 x4_1 t209 x1000_1 x1001_1 x1002_1 x1003_1 x1004_1 x1005_1) = some (r1, r2, r3, r4, r5, r6, r7) := H
            have A8 := Aside0.mk A80
            clear A80
            have H' := Aside0.mk H
            clear H
            go_wp2_with (first | (go_at_call 68; (with_reducible refine (labels_named.calls x4_1 t209 _ A8.out).mono ?_); rintro e w' ⟨rfl, ⟨nd, rfl⟩⟩; (try first | exact ⟨rfl, _, World.drewN_drewN _ _ _⟩ | exact ⟨rfl, _, Eq.trans (World.drewN_drewN _ _ _) (congrArg (World.drewN _) (Nat.add_assoc _ _ _))⟩)))
            repeat (go_quiet (first | (go_at_call 68; (with_reducible refine (labels_named.calls x4_1 t209 _ A8.out).mono ?_); rintro e w' ⟨rfl, ⟨nd, rfl⟩⟩; (try first | exact ⟨rfl, _, World.drewN_drewN _ _ _⟩ | exact ⟨rfl, _, Eq.trans (World.drewN_drewN _ _ _) (congrArg (World.drewN _) (Nat.add_assoc _ _ _))⟩))); try go_wp2_with (first | (go_at_call 68; (with_reducible refine (labels_named.calls x4_1 t209 _ A8.out).mono ?_); rintro e w' ⟨rfl, ⟨nd, rfl⟩⟩; (try first | exact ⟨rfl, _, World.drewN_drewN _ _ _⟩ | exact ⟨rfl, _, Eq.trans (World.drewN_drewN _ _ _) (congrArg (World.drewN _) (Nat.add_assoc _ _ _))⟩))))
            go_meet
            case rel => exact ⟨_, (t209), zs, H', ⟨by have := HK1.out; first | omega | exact Nat.le_refl _⟩, ⟨by repeat (first | (with_reducible first | exact HI0.out | apply IsS71.alloc | apply IsS71.drewN | apply IsS71.drew | apply IsS71.set_0 | apply IsS71.set_1 | apply IsS71.set_2 | apply IsS71.set_3 | apply IsS71.set_4 | apply IsS71.set_5) | exact HI0.out)⟩, ⟨by repeat (first | (with_reducible first | exact HK.out | apply KeepBut.set_ | apply keep_drewN | apply keep_drew | apply keep_alloc) | exact HK.out)⟩, ⟨by repeat (first | (with_reducible first | exact HB.out | apply below_alloc | apply pw_below_drewN | apply below_drew1 | refine below_set ?_ (IsS71.ge HI0.out)) | exact HB.out)⟩⟩
          · replace c7 := Bool.eq_false_iff.mpr c7
            subst c7
            have H1 : (labels_reader_name.j1 k1 s0_1 x4_1 false x1000_1 x1001_1 x1002_1 x1003_1 x1004_1 x1005_1) = some (r1, r2, r3, r4, r5, r6, r7) := by rw [if_neg (show ¬ (false = true) by decide)] at H; exact H
            clear H
            have H := H1
            clear H1
            have H' := Aside0.mk H
            clear H
            go_wp2
            repeat (go_quiet (fail); try go_wp2)
            go_meet
            case rel => exact ⟨_, (false), zs, H', ⟨by have := HK1.out; first | omega | exact Nat.le_refl _⟩, ⟨by repeat (first | (with_reducible first | exact HI0.out | apply IsS71.alloc | apply IsS71.drewN | apply IsS71.drew | apply IsS71.set_0 | apply IsS71.set_1 | apply IsS71.set_2 | apply IsS71.set_3 | apply IsS71.set_4 | apply IsS71.set_5) | exact HI0.out)⟩, ⟨by repeat (first | (with_reducible first | exact HK.out | apply KeepBut.set_ | apply keep_drewN | apply keep_drew | apply keep_alloc) | exact HK.out)⟩, ⟨by repeat (first | (with_reducible first | exact HB.out | apply below_alloc | apply pw_below_drewN | apply below_drew1 | refine below_set ?_ (IsS71.ge HI0.out)) | exact HB.out)⟩⟩
        case rest =>
          clear HC6
          try clear p2
          try clear c7
          try clear hcz4_0
          try clear hcz4_1
          try clear hcz4_2
          try clear hcz4_3
          try clear hcz4_4
          try clear hcz4_5
          try clear hfz4_0
          try clear hfz4_1
          try clear hfz4_2
          try clear hfz4_3
          try clear hfz4_4
          try clear hfz4_5
          try clear p2
          obtain ⟨kq, x21_5, rfl, HA, HJ5, HI0, HK, HB⟩ := hcut
          cases kq with
          | zero => exact absurd HA.out (by simp [labels_reader_name.j1])
          | succ kj5 =>
            have H := HA.out
            clear HA
            simp only [labels_reader_name.j1] at H
            by_cases c9 : x21_5 = true
            · subst c9
              have H1 : (if x1001_1 = s0_1 then ((labels_letter.f x4_1).bind fun t210 => (if t210 = true then (if (wrap64 (x1001_1 - s0_1)) = 64 then (labels_reader_name.j2 kj5 s0_1 x1000_1 x1001_1 x1002_1 x1003_1 x1004_1 x1005_1) else ((labels_reader_here.f x1000_1 (wrap64 (x1001_1 + 1)) x1002_1 x1003_1 x1004_1 x1005_1).bind fun bt211 => (labels_reader_name.l0 kj5 s0_1 bt211.1 bt211.2.1 bt211.2.2.1 bt211.2.2.2.1 bt211.2.2.2.2.1 bt211.2.2.2.2.2.1 bt211.2.2.2.2.2.2.1 bt211.2.2.2.2.2.2.2))) else (labels_reader_name.j2 kj5 s0_1 x1000_1 x1001_1 x1002_1 x1003_1 x1004_1 x1005_1))) else (if (wrap64 (x1001_1 - s0_1)) = 64 then (labels_reader_name.j2 kj5 s0_1 x1000_1 x1001_1 x1002_1 x1003_1 x1004_1 x1005_1) else ((labels_reader_here.f x1000_1 (wrap64 (x1001_1 + 1)) x1002_1 x1003_1 x1004_1 x1005_1).bind fun bt219 => (labels_reader_name.l0 kj5 s0_1 bt219.1 bt219.2.1 bt219.2.2.1 bt219.2.2.2.1 bt219.2.2.2.2.1 bt219.2.2.2.2.2.1 bt219.2.2.2.2.2.2.1 bt219.2.2.2.2.2.2.2)))) = some (r1, r2, r3, r4, r5, r6, r7) := by rw [if_pos rfl] at H; exact H
              clear H
              have H := H1
              clear H1
              by_cases c10 : x1001_1 = s0_1
              · rw [if_pos c10] at H
                have c10b0 : (x1001_1 == s0_1) = true := beq_iff_eq.mpr c10
                have c10b1 : (x1001_1 != s0_1) = false := bne_eq_false_iff_eq.mpr c10
                clear c10
                replace H := Option.bind_eq_some_iff.mp H
                obtain ⟨t210, A110, H⟩ := H
                replace H : (if t210 = true then (if (wrap64 (x1001_1 - s0_1)) = 64 then (labels_reader_name.j2 kj5 s0_1 x1000_1 x1001_1 x1002_1 x1003_1 x1004_1 x1005_1) else ((labels_reader_here.f x1000_1 (wrap64 (x1001_1 + 1)) x1002_1 x1003_1 x1004_1 x1005_1).bind fun bt211 => (labels_reader_name.l0 kj5 s0_1 bt211.1 bt211.2.1 bt211.2.2.1 bt211.2.2.2.1 bt211.2.2.2.2.1 bt211.2.2.2.2.2.1 bt211.2.2.2.2.2.2.1 bt211.2.2.2.2.2.2.2))) else (labels_reader_name.j2 kj5 s0_1 x1000_1 x1001_1 x1002_1 x1003_1 x1004_1 x1005_1)) = some (r1, r2, r3, r4, r5, r6, r7) := H
                have A11 := Aside0.mk A110
                clear A110
                by_cases c12 : t210 = true
                · subst c12
                  have H1 : (if (wrap64 (x1001_1 - s0_1)) = 64 then (labels_reader_name.j2 kj5 s0_1 x1000_1 x1001_1 x1002_1 x1003_1 x1004_1 x1005_1) else ((labels_reader_here.f x1000_1 (wrap64 (x1001_1 + 1)) x1002_1 x1003_1 x1004_1 x1005_1).bind fun bt211 => (labels_reader_name.l0 kj5 s0_1 bt211.1 bt211.2.1 bt211.2.2.1 bt211.2.2.2.1 bt211.2.2.2.2.1 bt211.2.2.2.2.2.1 bt211.2.2.2.2.2.2.1 bt211.2.2.2.2.2.2.2))) = some (r1, r2, r3, r4, r5, r6, r7) := by rw [if_pos rfl] at H; exact H
                  clear H
                  have H := H1
                  clear H1
                  by_cases c13 : (wrap64 (x1001_1 - s0_1)) = 64
                  · rw [if_pos c13] at H
                    have c13b0 : ((wrap64 (x1001_1 - s0_1)) == 64) = true := beq_iff_eq.mpr c13
                    have c13b1 : ((wrap64 (x1001_1 - s0_1)) != 64) = false := bne_eq_false_iff_eq.mpr c13
                    clear c13
                    have H' := Aside0.mk H
                    clear H
                    obtain ⟨HGz14, hgz14⟩ := HI0.out
                    have hcz14_0 := cellS71_0 HGz14
                    have hcz14_1 := cellS71_1 HGz14
                    have hcz14_2 := cellS71_2 HGz14
                    have hcz14_3 := cellS71_3 HGz14
                    have hcz14_4 := cellS71_4 HGz14
                    have hcz14_5 := cellS71_5 HGz14
                    have hfz14_0 := blk_frozen HGz14 0
                    have hfz14_1 := blk_frozen HGz14 1
                    have hfz14_2 := blk_frozen HGz14 2
                    have hfz14_3 := blk_frozen HGz14 3
                    have hfz14_4 := blk_frozen HGz14 4
                    have hfz14_5 := blk_frozen HGz14 5
                    clear HGz14 hgz14
                    go_wp2_with (first | (go_at_call 67; (with_reducible refine (labels_letter.calls x4_1 true _ A11.out).mono ?_); rintro e w' ⟨rfl, ⟨nd, rfl⟩⟩; (try first | exact ⟨rfl, _, World.drewN_drewN _ _ _⟩ | exact ⟨rfl, _, Eq.trans (World.drewN_drewN _ _ _) (congrArg (World.drewN _) (Nat.add_assoc _ _ _))⟩)))
                    repeat (go_quiet (first | (go_at_call 67; (with_reducible refine (labels_letter.calls x4_1 true _ A11.out).mono ?_); rintro e w' ⟨rfl, ⟨nd, rfl⟩⟩; (try first | exact ⟨rfl, _, World.drewN_drewN _ _ _⟩ | exact ⟨rfl, _, Eq.trans (World.drewN_drewN _ _ _) (congrArg (World.drewN _) (Nat.add_assoc _ _ _))⟩))); try go_wp2_with (first | (go_at_call 67; (with_reducible refine (labels_letter.calls x4_1 true _ A11.out).mono ?_); rintro e w' ⟨rfl, ⟨nd, rfl⟩⟩; (try first | exact ⟨rfl, _, World.drewN_drewN _ _ _⟩ | exact ⟨rfl, _, Eq.trans (World.drewN_drewN _ _ _) (congrArg (World.drewN _) (Nat.add_assoc _ _ _))⟩))))
                    go_meet
                    case rel => exact ⟨_, (x1000_1), (x1001_1), (x1002_1), (x1003_1), (x1004_1), (x1005_1), H', ⟨by have := HK1.out; have := HJ5.out; first | omega | exact Nat.le_refl _⟩, ⟨by repeat (first | (with_reducible first | exact HI0.out | apply IsS71.alloc | apply IsS71.drewN | apply IsS71.drew | apply IsS71.set_0 | apply IsS71.set_1 | apply IsS71.set_2 | apply IsS71.set_3 | apply IsS71.set_4 | apply IsS71.set_5) | exact HI0.out)⟩, ⟨by repeat (first | (with_reducible first | exact HK.out | apply KeepBut.set_ | apply keep_drewN | apply keep_drew | apply keep_alloc) | exact HK.out)⟩, ⟨by repeat (first | (with_reducible first | exact HB.out | apply below_alloc | apply pw_below_drewN | apply below_drew1 | refine below_set ?_ (IsS71.ge HI0.out)) | exact HB.out)⟩⟩
                  · rw [if_neg c13] at H
                    have c13b0 : ((wrap64 (x1001_1 - s0_1)) == 64) = false := beq_eq_false_iff_ne.mpr c13
                    have c13b1 : ((wrap64 (x1001_1 - s0_1)) != 64) = true := bne_iff_ne.mpr c13
                    replace H := Option.bind_eq_some_iff.mp H
                    obtain ⟨⟨t211, t212, t213, t214, t215, t216, t217, t218⟩, A150, H⟩ := H
                    replace H : (labels_reader_name.l0 kj5 s0_1 t211 t212 t213 t214 t215 t216 t217 t218) = some (r1, r2, r3, r4, r5, r6, r7) := H
                    have A15 := Aside0.mk A150
                    clear A150
                    have H' := Aside0.mk H
                    clear H
                    obtain ⟨HGz16, hgz16⟩ := HI0.out
                    have hcz16_0 := cellS71_0 HGz16
                    have hcz16_1 := cellS71_1 HGz16
                    have hcz16_2 := cellS71_2 HGz16
                    have hcz16_3 := cellS71_3 HGz16
                    have hcz16_4 := cellS71_4 HGz16
                    have hcz16_5 := cellS71_5 HGz16
                    have hfz16_0 := blk_frozen HGz16 0
                    have hfz16_1 := blk_frozen HGz16 1
                    have hfz16_2 := blk_frozen HGz16 2
                    have hfz16_3 := blk_frozen HGz16 3
                    have hfz16_4 := blk_frozen HGz16 4
                    have hfz16_5 := blk_frozen HGz16 5
                    clear HGz16 hgz16
                    go_wp2_with (first | (go_at_call 67; (with_reducible refine (labels_letter.calls x4_1 true _ A11.out).mono ?_); rintro e w' ⟨rfl, ⟨nd, rfl⟩⟩; (try first | exact ⟨rfl, _, World.drewN_drewN _ _ _⟩ | exact ⟨rfl, _, Eq.trans (World.drewN_drewN _ _ _) (congrArg (World.drewN _) (Nat.add_assoc _ _ _))⟩)) | (go_at_call 80; (with_reducible refine (labels_reader_here.calls g x1000_1 (wrap64 (x1001_1 + 1)) x1002_1 x1003_1 x1004_1 x1005_1 t211 t212 t213 t214 t215 t216 t217 t218 w0 _ ?side1 ?side2 A15.out).mono ?_); (case side1 => repeat (first | (with_reducible first | exact HI0.out | apply IsS71.alloc | apply IsS71.drewN | apply IsS71.drew | apply IsS71.set_0 | apply IsS71.set_1 | apply IsS71.set_2 | apply IsS71.set_3 | apply IsS71.set_4 | apply IsS71.set_5) | exact HI0.out)); (case side2 => repeat (first | (with_reducible first | exact HB.out | apply below_alloc | apply pw_below_drewN | apply below_drew1 | refine below_set ?_ (IsS71.ge HI0.out)) | exact HB.out)); rintro e w17 ⟨rfl, hi, hb, hk⟩; have n0_ := Aside0.mk (KeepBut.trans (by repeat (first | (with_reducible first | exact HK.out | apply KeepBut.set_ | apply keep_drewN | apply keep_drew | apply keep_alloc) | exact HK.out)) hk (.inl rfl)); have n1_ := Aside0.mk (hb); have n2_ := Aside0.mk (hi); clear HK; clear HB; clear HI0; have HK := n0_; have HB := n1_; have HI0 := n2_; clear n0_ n1_ n2_; (try clear hb); (try clear hb2); (try clear hk); (try clear hi)))
                    repeat (go_quiet (first | (go_at_call 67; (with_reducible refine (labels_letter.calls x4_1 true _ A11.out).mono ?_); rintro e w' ⟨rfl, ⟨nd, rfl⟩⟩; (try first | exact ⟨rfl, _, World.drewN_drewN _ _ _⟩ | exact ⟨rfl, _, Eq.trans (World.drewN_drewN _ _ _) (congrArg (World.drewN _) (Nat.add_assoc _ _ _))⟩)) | (go_at_call 80; (with_reducible refine (labels_reader_here.calls g x1000_1 (wrap64 (x1001_1 + 1)) x1002_1 x1003_1 x1004_1 x1005_1 t211 t212 t213 t214 t215 t216 t217 t218 w0 _ ?side1 ?side2 A15.out).mono ?_); (case side1 => repeat (first | (with_reducible first | exact HI0.out | apply IsS71.alloc | apply IsS71.drewN | apply IsS71.drew | apply IsS71.set_0 | apply IsS71.set_1 | apply IsS71.set_2 | apply IsS71.set_3 | apply IsS71.set_4 | apply IsS71.set_5) | exact HI0.out)); (case side2 => repeat (first | (with_reducible first | exact HB.out | apply below_alloc | apply pw_below_drewN | apply below_drew1 | refine below_set ?_ (IsS71.ge HI0.out)) | exact HB.out)); rintro e w17 ⟨rfl, hi, hb, hk⟩; have n0_ := Aside0.mk (KeepBut.trans (by repeat (first | (with_reducible first | exact HK.out | apply KeepBut.set_ | apply keep_drewN | apply keep_drew | apply keep_alloc) | exact HK.out)) hk (.inl rfl)); have n1_ := Aside0.mk (hb); have n2_ := Aside0.mk (hi); clear HK; clear HB; clear HI0; have HK := n0_; have HB := n1_; have HI0 := n2_; clear n0_ n1_ n2_; (try clear hb); (try clear hb2); (try clear hk); (try clear hi))); try go_wp2_with (first | (go_at_call 67; (with_reducible refine (labels_letter.calls x4_1 true _ A11.out).mono ?_); rintro e w' ⟨rfl, ⟨nd, rfl⟩⟩; (try first | exact ⟨rfl, _, World.drewN_drewN _ _ _⟩ | exact ⟨rfl, _, Eq.trans (World.drewN_drewN _ _ _) (congrArg (World.drewN _) (Nat.add_assoc _ _ _))⟩)) | (go_at_call 80; (with_reducible refine (labels_reader_here.calls g x1000_1 (wrap64 (x1001_1 + 1)) x1002_1 x1003_1 x1004_1 x1005_1 t211 t212 t213 t214 t215 t216 t217 t218 w0 _ ?side1 ?side2 A15.out).mono ?_); (case side1 => repeat (first | (with_reducible first | exact HI0.out | apply IsS71.alloc | apply IsS71.drewN | apply IsS71.drew | apply IsS71.set_0 | apply IsS71.set_1 | apply IsS71.set_2 | apply IsS71.set_3 | apply IsS71.set_4 | apply IsS71.set_5) | exact HI0.out)); (case side2 => repeat (first | (with_reducible first | exact HB.out | apply below_alloc | apply pw_below_drewN | apply below_drew1 | refine below_set ?_ (IsS71.ge HI0.out)) | exact HB.out)); rintro e w17 ⟨rfl, hi, hb, hk⟩; have n0_ := Aside0.mk (KeepBut.trans (by repeat (first | (with_reducible first | exact HK.out | apply KeepBut.set_ | apply keep_drewN | apply keep_drew | apply keep_alloc) | exact HK.out)) hk (.inl rfl)); have n1_ := Aside0.mk (hb); have n2_ := Aside0.mk (hi); clear HK; clear HB; clear HI0; have HK := n0_; have HB := n1_; have HI0 := n2_; clear n0_ n1_ n2_; (try clear hb); (try clear hb2); (try clear hk); (try clear hi))))
                    go_roundg kj5
                    case measure => have := HK1.out; have := HJ5.out; omega
                    case rel => exact ⟨(t211), (t212), (t213), (t214), (t215), (t216), (t217), (t218), zs, zs, H', ⟨by have := HK1.out; have := HJ5.out; omega⟩, ⟨by repeat (first | (with_reducible first | exact HI0.out | apply IsS71.alloc | apply IsS71.drewN | apply IsS71.drew | apply IsS71.set_0 | apply IsS71.set_1 | apply IsS71.set_2 | apply IsS71.set_3 | apply IsS71.set_4 | apply IsS71.set_5) | exact HI0.out)⟩, ⟨by repeat (first | (with_reducible first | exact HK.out | apply KeepBut.set_ | apply keep_drewN | apply keep_drew | apply keep_alloc) | exact HK.out)⟩, ⟨by repeat (first | (with_reducible first | exact HB.out | apply below_alloc | apply pw_below_drewN | apply below_drew1 | refine below_set ?_ (IsS71.ge HI0.out)) | exact HB.out)⟩⟩
                · replace c12 := Bool.eq_false_iff.mpr c12
                  subst c12
                  have H1 : (labels_reader_name.j2 kj5 s0_1 x1000_1 x1001_1 x1002_1 x1003_1 x1004_1 x1005_1) = some (r1, r2, r3, r4, r5, r6, r7) := by rw [if_neg (show ¬ (false = true) by decide)] at H; exact H
                  clear H
                  have H := H1
                  clear H1
                  have H' := Aside0.mk H
                  clear H
                  obtain ⟨HGz18, hgz18⟩ := HI0.out
                  have hcz18_0 := cellS71_0 HGz18
                  have hcz18_1 := cellS71_1 HGz18
                  have hcz18_2 := cellS71_2 HGz18
                  have hcz18_3 := cellS71_3 HGz18
                  have hcz18_4 := cellS71_4 HGz18
                  have hcz18_5 := cellS71_5 HGz18
                  have hfz18_0 := blk_frozen HGz18 0
                  have hfz18_1 := blk_frozen HGz18 1
                  have hfz18_2 := blk_frozen HGz18 2
                  have hfz18_3 := blk_frozen HGz18 3
                  have hfz18_4 := blk_frozen HGz18 4
                  have hfz18_5 := blk_frozen HGz18 5
                  clear HGz18 hgz18
                  go_wp2_with (first | (go_at_call 67; (with_reducible refine (labels_letter.calls x4_1 false _ A11.out).mono ?_); rintro e w' ⟨rfl, ⟨nd, rfl⟩⟩; (try first | exact ⟨rfl, _, World.drewN_drewN _ _ _⟩ | exact ⟨rfl, _, Eq.trans (World.drewN_drewN _ _ _) (congrArg (World.drewN _) (Nat.add_assoc _ _ _))⟩)))
                  repeat (go_quiet (first | (go_at_call 67; (with_reducible refine (labels_letter.calls x4_1 false _ A11.out).mono ?_); rintro e w' ⟨rfl, ⟨nd, rfl⟩⟩; (try first | exact ⟨rfl, _, World.drewN_drewN _ _ _⟩ | exact ⟨rfl, _, Eq.trans (World.drewN_drewN _ _ _) (congrArg (World.drewN _) (Nat.add_assoc _ _ _))⟩))); try go_wp2_with (first | (go_at_call 67; (with_reducible refine (labels_letter.calls x4_1 false _ A11.out).mono ?_); rintro e w' ⟨rfl, ⟨nd, rfl⟩⟩; (try first | exact ⟨rfl, _, World.drewN_drewN _ _ _⟩ | exact ⟨rfl, _, Eq.trans (World.drewN_drewN _ _ _) (congrArg (World.drewN _) (Nat.add_assoc _ _ _))⟩))))
                  go_meet
                  case rel => exact ⟨_, (x1000_1), (x1001_1), (x1002_1), (x1003_1), (x1004_1), (x1005_1), H', ⟨by have := HK1.out; have := HJ5.out; first | omega | exact Nat.le_refl _⟩, ⟨by repeat (first | (with_reducible first | exact HI0.out | apply IsS71.alloc | apply IsS71.drewN | apply IsS71.drew | apply IsS71.set_0 | apply IsS71.set_1 | apply IsS71.set_2 | apply IsS71.set_3 | apply IsS71.set_4 | apply IsS71.set_5) | exact HI0.out)⟩, ⟨by repeat (first | (with_reducible first | exact HK.out | apply KeepBut.set_ | apply keep_drewN | apply keep_drew | apply keep_alloc) | exact HK.out)⟩, ⟨by repeat (first | (with_reducible first | exact HB.out | apply below_alloc | apply pw_below_drewN | apply below_drew1 | refine below_set ?_ (IsS71.ge HI0.out)) | exact HB.out)⟩⟩
              · rw [if_neg c10] at H
                have c10b0 : (x1001_1 == s0_1) = false := beq_eq_false_iff_ne.mpr c10
                have c10b1 : (x1001_1 != s0_1) = true := bne_iff_ne.mpr c10
                by_cases c19 : (wrap64 (x1001_1 - s0_1)) = 64
                · rw [if_pos c19] at H
                  have c19b0 : ((wrap64 (x1001_1 - s0_1)) == 64) = true := beq_iff_eq.mpr c19
                  have c19b1 : ((wrap64 (x1001_1 - s0_1)) != 64) = false := bne_eq_false_iff_eq.mpr c19
                  clear c19
                  have H' := Aside0.mk H
                  clear H
                  obtain ⟨HGz20, hgz20⟩ := HI0.out
                  have hcz20_0 := cellS71_0 HGz20
                  have hcz20_1 := cellS71_1 HGz20
                  have hcz20_2 := cellS71_2 HGz20
                  have hcz20_3 := cellS71_3 HGz20
                  have hcz20_4 := cellS71_4 HGz20
                  have hcz20_5 := cellS71_5 HGz20
                  have hfz20_0 := blk_frozen HGz20 0
                  have hfz20_1 := blk_frozen HGz20 1
                  have hfz20_2 := blk_frozen HGz20 2
                  have hfz20_3 := blk_frozen HGz20 3
                  have hfz20_4 := blk_frozen HGz20 4
                  have hfz20_5 := blk_frozen HGz20 5
                  clear HGz20 hgz20
                  go_wp2
                  repeat (go_quiet (fail); try go_wp2)
                  go_meet
                  case rel => exact ⟨_, (x1000_1), (x1001_1), (x1002_1), (x1003_1), (x1004_1), (x1005_1), H', ⟨by have := HK1.out; have := HJ5.out; first | omega | exact Nat.le_refl _⟩, ⟨by repeat (first | (with_reducible first | exact HI0.out | apply IsS71.alloc | apply IsS71.drewN | apply IsS71.drew | apply IsS71.set_0 | apply IsS71.set_1 | apply IsS71.set_2 | apply IsS71.set_3 | apply IsS71.set_4 | apply IsS71.set_5) | exact HI0.out)⟩, ⟨by repeat (first | (with_reducible first | exact HK.out | apply KeepBut.set_ | apply keep_drewN | apply keep_drew | apply keep_alloc) | exact HK.out)⟩, ⟨by repeat (first | (with_reducible first | exact HB.out | apply below_alloc | apply pw_below_drewN | apply below_drew1 | refine below_set ?_ (IsS71.ge HI0.out)) | exact HB.out)⟩⟩
                · rw [if_neg c19] at H
                  have c19b0 : ((wrap64 (x1001_1 - s0_1)) == 64) = false := beq_eq_false_iff_ne.mpr c19
                  have c19b1 : ((wrap64 (x1001_1 - s0_1)) != 64) = true := bne_iff_ne.mpr c19
                  replace H := Option.bind_eq_some_iff.mp H
                  obtain ⟨⟨t219, t220, t221, t222, t223, t224, t225, t226⟩, A210, H⟩ := H
                  replace H : (labels_reader_name.l0 kj5 s0_1 t219 t220 t221 t222 t223 t224 t225 t226) = some (r1, r2, r3, r4, r5, r6, r7) := H
                  have A21 := Aside0.mk A210
                  clear A210
                  have H' := Aside0.mk H
                  clear H
                  obtain ⟨HGz22, hgz22⟩ := HI0.out
                  have hcz22_0 := cellS71_0 HGz22
                  have hcz22_1 := cellS71_1 HGz22
                  have hcz22_2 := cellS71_2 HGz22
                  have hcz22_3 := cellS71_3 HGz22
                  have hcz22_4 := cellS71_4 HGz22
                  have hcz22_5 := cellS71_5 HGz22
                  have hfz22_0 := blk_frozen HGz22 0
                  have hfz22_1 := blk_frozen HGz22 1
                  have hfz22_2 := blk_frozen HGz22 2
                  have hfz22_3 := blk_frozen HGz22 3
                  have hfz22_4 := blk_frozen HGz22 4
                  have hfz22_5 := blk_frozen HGz22 5
                  clear HGz22 hgz22
                  go_wp2_with (first | (go_at_call 80; (with_reducible refine (labels_reader_here.calls g x1000_1 (wrap64 (x1001_1 + 1)) x1002_1 x1003_1 x1004_1 x1005_1 t219 t220 t221 t222 t223 t224 t225 t226 w0 _ ?side1 ?side2 A21.out).mono ?_); (case side1 => repeat (first | (with_reducible first | exact HI0.out | apply IsS71.alloc | apply IsS71.drewN | apply IsS71.drew | apply IsS71.set_0 | apply IsS71.set_1 | apply IsS71.set_2 | apply IsS71.set_3 | apply IsS71.set_4 | apply IsS71.set_5) | exact HI0.out)); (case side2 => repeat (first | (with_reducible first | exact HB.out | apply below_alloc | apply pw_below_drewN | apply below_drew1 | refine below_set ?_ (IsS71.ge HI0.out)) | exact HB.out)); rintro e w23 ⟨rfl, hi, hb, hk⟩; have n0_ := Aside0.mk (KeepBut.trans (by repeat (first | (with_reducible first | exact HK.out | apply KeepBut.set_ | apply keep_drewN | apply keep_drew | apply keep_alloc) | exact HK.out)) hk (.inl rfl)); have n1_ := Aside0.mk (hb); have n2_ := Aside0.mk (hi); clear HK; clear HB; clear HI0; have HK := n0_; have HB := n1_; have HI0 := n2_; clear n0_ n1_ n2_; (try clear hb); (try clear hb2); (try clear hk); (try clear hi)))
                  repeat (go_quiet (first | (go_at_call 80; (with_reducible refine (labels_reader_here.calls g x1000_1 (wrap64 (x1001_1 + 1)) x1002_1 x1003_1 x1004_1 x1005_1 t219 t220 t221 t222 t223 t224 t225 t226 w0 _ ?side1 ?side2 A21.out).mono ?_); (case side1 => repeat (first | (with_reducible first | exact HI0.out | apply IsS71.alloc | apply IsS71.drewN | apply IsS71.drew | apply IsS71.set_0 | apply IsS71.set_1 | apply IsS71.set_2 | apply IsS71.set_3 | apply IsS71.set_4 | apply IsS71.set_5) | exact HI0.out)); (case side2 => repeat (first | (with_reducible first | exact HB.out | apply below_alloc | apply pw_below_drewN | apply below_drew1 | refine below_set ?_ (IsS71.ge HI0.out)) | exact HB.out)); rintro e w23 ⟨rfl, hi, hb, hk⟩; have n0_ := Aside0.mk (KeepBut.trans (by repeat (first | (with_reducible first | exact HK.out | apply KeepBut.set_ | apply keep_drewN | apply keep_drew | apply keep_alloc) | exact HK.out)) hk (.inl rfl)); have n1_ := Aside0.mk (hb); have n2_ := Aside0.mk (hi); clear HK; clear HB; clear HI0; have HK := n0_; have HB := n1_; have HI0 := n2_; clear n0_ n1_ n2_; (try clear hb); (try clear hb2); (try clear hk); (try clear hi))); try go_wp2_with (first | (go_at_call 80; (with_reducible refine (labels_reader_here.calls g x1000_1 (wrap64 (x1001_1 + 1)) x1002_1 x1003_1 x1004_1 x1005_1 t219 t220 t221 t222 t223 t224 t225 t226 w0 _ ?side1 ?side2 A21.out).mono ?_); (case side1 => repeat (first | (with_reducible first | exact HI0.out | apply IsS71.alloc | apply IsS71.drewN | apply IsS71.drew | apply IsS71.set_0 | apply IsS71.set_1 | apply IsS71.set_2 | apply IsS71.set_3 | apply IsS71.set_4 | apply IsS71.set_5) | exact HI0.out)); (case side2 => repeat (first | (with_reducible first | exact HB.out | apply below_alloc | apply pw_below_drewN | apply below_drew1 | refine below_set ?_ (IsS71.ge HI0.out)) | exact HB.out)); rintro e w23 ⟨rfl, hi, hb, hk⟩; have n0_ := Aside0.mk (KeepBut.trans (by repeat (first | (with_reducible first | exact HK.out | apply KeepBut.set_ | apply keep_drewN | apply keep_drew | apply keep_alloc) | exact HK.out)) hk (.inl rfl)); have n1_ := Aside0.mk (hb); have n2_ := Aside0.mk (hi); clear HK; clear HB; clear HI0; have HK := n0_; have HB := n1_; have HI0 := n2_; clear n0_ n1_ n2_; (try clear hb); (try clear hb2); (try clear hk); (try clear hi))))
                  go_roundg kj5
                  case measure => have := HK1.out; have := HJ5.out; omega
                  case rel => exact ⟨(t219), (t220), (t221), (t222), (t223), (t224), (t225), (t226), zs, zs, H', ⟨by have := HK1.out; have := HJ5.out; omega⟩, ⟨by repeat (first | (with_reducible first | exact HI0.out | apply IsS71.alloc | apply IsS71.drewN | apply IsS71.drew | apply IsS71.set_0 | apply IsS71.set_1 | apply IsS71.set_2 | apply IsS71.set_3 | apply IsS71.set_4 | apply IsS71.set_5) | exact HI0.out)⟩, ⟨by repeat (first | (with_reducible first | exact HK.out | apply KeepBut.set_ | apply keep_drewN | apply keep_drew | apply keep_alloc) | exact HK.out)⟩, ⟨by repeat (first | (with_reducible first | exact HB.out | apply below_alloc | apply pw_below_drewN | apply below_drew1 | refine below_set ?_ (IsS71.ge HI0.out)) | exact HB.out)⟩⟩
            · replace c9 := Bool.eq_false_iff.mpr c9
              subst c9
              have H1 : (labels_reader_name.j2 kj5 s0_1 x1000_1 x1001_1 x1002_1 x1003_1 x1004_1 x1005_1) = some (r1, r2, r3, r4, r5, r6, r7) := by rw [if_neg (show ¬ (false = true) by decide)] at H; exact H
              clear H
              have H := H1
              clear H1
              have H' := Aside0.mk H
              clear H
              go_wp2
              repeat (go_quiet (fail); try go_wp2)
              go_meet
              case rel => exact ⟨_, (x1000_1), (x1001_1), (x1002_1), (x1003_1), (x1004_1), (x1005_1), H', ⟨by have := HK1.out; have := HJ5.out; first | omega | exact Nat.le_refl _⟩, ⟨by repeat (first | (with_reducible first | exact HI0.out | apply IsS71.alloc | apply IsS71.drewN | apply IsS71.drew | apply IsS71.set_0 | apply IsS71.set_1 | apply IsS71.set_2 | apply IsS71.set_3 | apply IsS71.set_4 | apply IsS71.set_5) | exact HI0.out)⟩, ⟨by repeat (first | (with_reducible first | exact HK.out | apply KeepBut.set_ | apply keep_drewN | apply keep_drew | apply keep_alloc) | exact HK.out)⟩, ⟨by repeat (first | (with_reducible first | exact HB.out | apply below_alloc | apply pw_below_drewN | apply below_drew1 | refine below_set ?_ (IsS71.ge HI0.out)) | exact HB.out)⟩⟩
  case rest =>
    clear HC3
    try clear c1
    try clear p2
    try clear p6
    try clear c7
    try clear c9
    try clear c10
    try clear c10b0
    try clear c10b1
    try clear c12
    try clear c13
    try clear c13b0
    try clear c13b1
    try clear c19
    try clear c19b0
    try clear c19b1
    try clear hcz14_0
    try clear hcz14_1
    try clear hcz14_2
    try clear hcz14_3
    try clear hcz14_4
    try clear hcz14_5
    try clear hcz16_0
    try clear hcz16_1
    try clear hcz16_2
    try clear hcz16_3
    try clear hcz16_4
    try clear hcz16_5
    try clear hcz18_0
    try clear hcz18_1
    try clear hcz18_2
    try clear hcz18_3
    try clear hcz18_4
    try clear hcz18_5
    try clear hcz20_0
    try clear hcz20_1
    try clear hcz20_2
    try clear hcz20_3
    try clear hcz20_4
    try clear hcz20_5
    try clear hcz22_0
    try clear hcz22_1
    try clear hcz22_2
    try clear hcz22_3
    try clear hcz22_4
    try clear hcz22_5
    try clear hcz4_0
    try clear hcz4_1
    try clear hcz4_2
    try clear hcz4_3
    try clear hcz4_4
    try clear hcz4_5
    try clear hfz14_0
    try clear hfz14_1
    try clear hfz14_2
    try clear hfz14_3
    try clear hfz14_4
    try clear hfz14_5
    try clear hfz16_0
    try clear hfz16_1
    try clear hfz16_2
    try clear hfz16_3
    try clear hfz16_4
    try clear hfz16_5
    try clear hfz18_0
    try clear hfz18_1
    try clear hfz18_2
    try clear hfz18_3
    try clear hfz18_4
    try clear hfz18_5
    try clear hfz20_0
    try clear hfz20_1
    try clear hfz20_2
    try clear hfz20_3
    try clear hfz20_4
    try clear hfz20_5
    try clear hfz22_0
    try clear hfz22_1
    try clear hfz22_2
    try clear hfz22_3
    try clear hfz22_4
    try clear hfz22_5
    try clear hfz4_0
    try clear hfz4_1
    try clear hfz4_2
    try clear hfz4_3
    try clear hfz4_4
    try clear hfz4_5
    try clear p2
    obtain ⟨kq, x1000_2, x1001_2, x1002_2, x1003_2, x1004_2, x1005_2, HA, HJ2, HI0, HK, HB⟩ := hcut
    cases kq with
    | zero => exact absurd HA.out (by simp [labels_reader_name.j2])
    | succ kj2 =>
      have H := HA.out
      clear HA
      simp only [labels_reader_name.j2] at H
      replace H := Option.bind_eq_some_iff.mp H
      obtain ⟨⟨t227, t228, t229, t230, t231, t232, t233, t234⟩, A240, H⟩ := H
      replace H : (if t230 = s0_1 then ((labels_reader_fail.f t229 t230 t231 t232 t233 t234 120 t230).bind fun bt235 => (if 0 ≤ s0_1 then (if s0_1 ≤ bt235.2.1 then (if bt235.2.1 ≤ (bt235.1.size : Int) then (some (bt235.1.extract (s0_1 : Int).toNat (bt235.2.1 : Int).toNat, bt235.1, bt235.2.1, bt235.2.2.1, bt235.2.2.2.1, bt235.2.2.2.2.1, bt235.2.2.2.2.2)) else (none)) else (none)) else (none))) else (if t228 = true then ((labels_named.f t227).bind fun t241 => (if t241 = true then ((labels_reader_fail.f t229 t230 t231 t232 t233 t234 120 t230).bind fun bt242 => (if 0 ≤ s0_1 then (if s0_1 ≤ bt242.2.1 then (if bt242.2.1 ≤ (bt242.1.size : Int) then (some (bt242.1.extract (s0_1 : Int).toNat (bt242.2.1 : Int).toNat, bt242.1, bt242.2.1, bt242.2.2.1, bt242.2.2.2.1, bt242.2.2.2.2.1, bt242.2.2.2.2.2)) else (none)) else (none)) else (none))) else (if 0 ≤ s0_1 then (if s0_1 ≤ t230 then (if t230 ≤ (t229.size : Int) then (some (t229.extract (s0_1 : Int).toNat (t230 : Int).toNat, t229, t230, t231, t232, t233, t234)) else (none)) else (none)) else (none)))) else (if 0 ≤ s0_1 then (if s0_1 ≤ t230 then (if t230 ≤ (t229.size : Int) then (some (t229.extract (s0_1 : Int).toNat (t230 : Int).toNat, t229, t230, t231, t232, t233, t234)) else (none)) else (none)) else (none)))) = some (r1, r2, r3, r4, r5, r6, r7) := H
      have A24 := Aside0.mk A240
      clear A240
      by_cases c25 : t230 = s0_1
      · rw [if_pos c25] at H
        have c25b0 : (t230 == s0_1) = true := beq_iff_eq.mpr c25
        have c25b1 : (t230 != s0_1) = false := bne_eq_false_iff_eq.mpr c25
        clear c25
        replace H := Option.bind_eq_some_iff.mp H
        obtain ⟨⟨t235, t236, t237, t238, t239, t240⟩, A260, H⟩ := H
        replace H : (if 0 ≤ s0_1 then (if s0_1 ≤ t236 then (if t236 ≤ (t235.size : Int) then (some (t235.extract (s0_1 : Int).toNat (t236 : Int).toNat, t235, t236, t237, t238, t239, t240)) else (none)) else (none)) else (none)) = some (r1, r2, r3, r4, r5, r6, r7) := H
        have A26 := Aside0.mk A260
        clear A260
        by_cases c27 : 0 ≤ s0_1
        · rw [if_pos c27] at H
          have c27b0 := eq_true c27
          have c27b1 : decide (0 ≤ s0_1) = true := decide_eq_true c27
          clear c27
          by_cases c28 : s0_1 ≤ t236
          · rw [if_pos c28] at H
            have c28b0 := eq_true c28
            have c28b1 : decide (s0_1 ≤ t236) = true := decide_eq_true c28
            clear c28
            by_cases c29 : t236 ≤ (t235.size : Int)
            · rw [if_pos c29] at H
              have c29b0 := eq_true c29
              have c29b1 : decide (t236 ≤ (t235.size : Int)) = true := decide_eq_true c29
              clear c29
              simp only [Option.some.injEq, Prod.mk.injEq] at H
              obtain ⟨rfl, rfl, rfl, rfl, rfl, rfl, rfl⟩ := H
              go_wp2_with (first | (go_at_call 80; (with_reducible refine (labels_reader_here.calls g x1000_2 x1001_2 x1002_2 x1003_2 x1004_2 x1005_2 t227 t228 t229 t230 t231 t232 t233 t234 w0 _ ?side1 ?side2 A24.out).mono ?_); (case side1 => repeat (first | (with_reducible first | exact HI0.out | apply IsS71.alloc | apply IsS71.drewN | apply IsS71.drew | apply IsS71.set_0 | apply IsS71.set_1 | apply IsS71.set_2 | apply IsS71.set_3 | apply IsS71.set_4 | apply IsS71.set_5) | exact HI0.out)); (case side2 => repeat (first | (with_reducible first | exact HB.out | apply below_alloc | apply pw_below_drewN | apply below_drew1 | refine below_set ?_ (IsS71.ge HI0.out)) | exact HB.out)); rintro e w30 ⟨rfl, hi, hb, hk⟩; have n0_ := Aside0.mk (KeepBut.trans (by repeat (first | (with_reducible first | exact HK.out | apply KeepBut.set_ | apply keep_drewN | apply keep_drew | apply keep_alloc) | exact HK.out)) hk (.inl rfl)); have n1_ := Aside0.mk (hb); have n2_ := Aside0.mk (hi); clear HK; clear HB; clear HI0; have HK := n0_; have HB := n1_; have HI0 := n2_; clear n0_ n1_ n2_; (try clear hb); (try clear hb2); (try clear hk); (try clear hi); obtain ⟨HGz31, hgz31⟩ := HI0.out; have hcz31_0 := cellS71_0 HGz31; have hcz31_1 := cellS71_1 HGz31; have hcz31_2 := cellS71_2 HGz31; have hcz31_3 := cellS71_3 HGz31; have hcz31_4 := cellS71_4 HGz31; have hcz31_5 := cellS71_5 HGz31; have hfz31_0 := blk_frozen HGz31 0; have hfz31_1 := blk_frozen HGz31 1; have hfz31_2 := blk_frozen HGz31 2; have hfz31_3 := blk_frozen HGz31 3; have hfz31_4 := blk_frozen HGz31 4; have hfz31_5 := blk_frozen HGz31 5; clear HGz31 hgz31) | (go_at_call 82; (with_reducible refine (labels_reader_fail.calls g t229 t230 t231 t232 t233 t234 120 t230 t235 t236 t237 t238 t239 t240 w0 _ ?side1 ?side2 A26.out).mono ?_); (case side1 => repeat (first | (with_reducible first | exact HI0.out | apply IsS71.alloc | apply IsS71.drewN | apply IsS71.drew | apply IsS71.set_0 | apply IsS71.set_1 | apply IsS71.set_2 | apply IsS71.set_3 | apply IsS71.set_4 | apply IsS71.set_5) | exact HI0.out)); (case side2 => repeat (first | (with_reducible first | exact HB.out | apply below_alloc | apply pw_below_drewN | apply below_drew1 | refine below_set ?_ (IsS71.ge HI0.out)) | exact HB.out)); rintro e w32 ⟨rfl, hi, hb, hk⟩; have n0_ := Aside0.mk (KeepBut.trans (by repeat (first | (with_reducible first | exact HK.out | apply KeepBut.set_ | apply keep_drewN | apply keep_drew | apply keep_alloc) | exact HK.out)) hk (.inl rfl)); have n1_ := Aside0.mk (hb); have n2_ := Aside0.mk (hi); clear HK; clear HB; clear HI0; have HK := n0_; have HB := n1_; have HI0 := n2_; clear n0_ n1_ n2_; (try clear hb); (try clear hb2); (try clear hk); (try clear hi); obtain ⟨HGz33, hgz33⟩ := HI0.out; have hcz33_0 := cellS71_0 HGz33; have hcz33_1 := cellS71_1 HGz33; have hcz33_2 := cellS71_2 HGz33; have hcz33_3 := cellS71_3 HGz33; have hcz33_4 := cellS71_4 HGz33; have hcz33_5 := cellS71_5 HGz33; have hfz33_0 := blk_frozen HGz33 0; have hfz33_1 := blk_frozen HGz33 1; have hfz33_2 := blk_frozen HGz33 2; have hfz33_3 := blk_frozen HGz33 3; have hfz33_4 := blk_frozen HGz33 4; have hfz33_5 := blk_frozen HGz33 5; clear HGz33 hgz33))
              repeat (go_quiet (first | (go_at_call 80; (with_reducible refine (labels_reader_here.calls g x1000_2 x1001_2 x1002_2 x1003_2 x1004_2 x1005_2 t227 t228 t229 t230 t231 t232 t233 t234 w0 _ ?side1 ?side2 A24.out).mono ?_); (case side1 => repeat (first | (with_reducible first | exact HI0.out | apply IsS71.alloc | apply IsS71.drewN | apply IsS71.drew | apply IsS71.set_0 | apply IsS71.set_1 | apply IsS71.set_2 | apply IsS71.set_3 | apply IsS71.set_4 | apply IsS71.set_5) | exact HI0.out)); (case side2 => repeat (first | (with_reducible first | exact HB.out | apply below_alloc | apply pw_below_drewN | apply below_drew1 | refine below_set ?_ (IsS71.ge HI0.out)) | exact HB.out)); rintro e w30 ⟨rfl, hi, hb, hk⟩; have n0_ := Aside0.mk (KeepBut.trans (by repeat (first | (with_reducible first | exact HK.out | apply KeepBut.set_ | apply keep_drewN | apply keep_drew | apply keep_alloc) | exact HK.out)) hk (.inl rfl)); have n1_ := Aside0.mk (hb); have n2_ := Aside0.mk (hi); clear HK; clear HB; clear HI0; have HK := n0_; have HB := n1_; have HI0 := n2_; clear n0_ n1_ n2_; (try clear hb); (try clear hb2); (try clear hk); (try clear hi); obtain ⟨HGz31, hgz31⟩ := HI0.out; have hcz31_0 := cellS71_0 HGz31; have hcz31_1 := cellS71_1 HGz31; have hcz31_2 := cellS71_2 HGz31; have hcz31_3 := cellS71_3 HGz31; have hcz31_4 := cellS71_4 HGz31; have hcz31_5 := cellS71_5 HGz31; have hfz31_0 := blk_frozen HGz31 0; have hfz31_1 := blk_frozen HGz31 1; have hfz31_2 := blk_frozen HGz31 2; have hfz31_3 := blk_frozen HGz31 3; have hfz31_4 := blk_frozen HGz31 4; have hfz31_5 := blk_frozen HGz31 5; clear HGz31 hgz31) | (go_at_call 82; (with_reducible refine (labels_reader_fail.calls g t229 t230 t231 t232 t233 t234 120 t230 t235 t236 t237 t238 t239 t240 w0 _ ?side1 ?side2 A26.out).mono ?_); (case side1 => repeat (first | (with_reducible first | exact HI0.out | apply IsS71.alloc | apply IsS71.drewN | apply IsS71.drew | apply IsS71.set_0 | apply IsS71.set_1 | apply IsS71.set_2 | apply IsS71.set_3 | apply IsS71.set_4 | apply IsS71.set_5) | exact HI0.out)); (case side2 => repeat (first | (with_reducible first | exact HB.out | apply below_alloc | apply pw_below_drewN | apply below_drew1 | refine below_set ?_ (IsS71.ge HI0.out)) | exact HB.out)); rintro e w32 ⟨rfl, hi, hb, hk⟩; have n0_ := Aside0.mk (KeepBut.trans (by repeat (first | (with_reducible first | exact HK.out | apply KeepBut.set_ | apply keep_drewN | apply keep_drew | apply keep_alloc) | exact HK.out)) hk (.inl rfl)); have n1_ := Aside0.mk (hb); have n2_ := Aside0.mk (hi); clear HK; clear HB; clear HI0; have HK := n0_; have HB := n1_; have HI0 := n2_; clear n0_ n1_ n2_; (try clear hb); (try clear hb2); (try clear hk); (try clear hi); obtain ⟨HGz33, hgz33⟩ := HI0.out; have hcz33_0 := cellS71_0 HGz33; have hcz33_1 := cellS71_1 HGz33; have hcz33_2 := cellS71_2 HGz33; have hcz33_3 := cellS71_3 HGz33; have hcz33_4 := cellS71_4 HGz33; have hcz33_5 := cellS71_5 HGz33; have hfz33_0 := blk_frozen HGz33 0; have hfz33_1 := blk_frozen HGz33 1; have hfz33_2 := blk_frozen HGz33 2; have hfz33_3 := blk_frozen HGz33 3; have hfz33_4 := blk_frozen HGz33 4; have hfz33_5 := blk_frozen HGz33 5; clear HGz33 hgz33)); try go_wp2_with (first | (go_at_call 80; (with_reducible refine (labels_reader_here.calls g x1000_2 x1001_2 x1002_2 x1003_2 x1004_2 x1005_2 t227 t228 t229 t230 t231 t232 t233 t234 w0 _ ?side1 ?side2 A24.out).mono ?_); (case side1 => repeat (first | (with_reducible first | exact HI0.out | apply IsS71.alloc | apply IsS71.drewN | apply IsS71.drew | apply IsS71.set_0 | apply IsS71.set_1 | apply IsS71.set_2 | apply IsS71.set_3 | apply IsS71.set_4 | apply IsS71.set_5) | exact HI0.out)); (case side2 => repeat (first | (with_reducible first | exact HB.out | apply below_alloc | apply pw_below_drewN | apply below_drew1 | refine below_set ?_ (IsS71.ge HI0.out)) | exact HB.out)); rintro e w30 ⟨rfl, hi, hb, hk⟩; have n0_ := Aside0.mk (KeepBut.trans (by repeat (first | (with_reducible first | exact HK.out | apply KeepBut.set_ | apply keep_drewN | apply keep_drew | apply keep_alloc) | exact HK.out)) hk (.inl rfl)); have n1_ := Aside0.mk (hb); have n2_ := Aside0.mk (hi); clear HK; clear HB; clear HI0; have HK := n0_; have HB := n1_; have HI0 := n2_; clear n0_ n1_ n2_; (try clear hb); (try clear hb2); (try clear hk); (try clear hi); obtain ⟨HGz31, hgz31⟩ := HI0.out; have hcz31_0 := cellS71_0 HGz31; have hcz31_1 := cellS71_1 HGz31; have hcz31_2 := cellS71_2 HGz31; have hcz31_3 := cellS71_3 HGz31; have hcz31_4 := cellS71_4 HGz31; have hcz31_5 := cellS71_5 HGz31; have hfz31_0 := blk_frozen HGz31 0; have hfz31_1 := blk_frozen HGz31 1; have hfz31_2 := blk_frozen HGz31 2; have hfz31_3 := blk_frozen HGz31 3; have hfz31_4 := blk_frozen HGz31 4; have hfz31_5 := blk_frozen HGz31 5; clear HGz31 hgz31) | (go_at_call 82; (with_reducible refine (labels_reader_fail.calls g t229 t230 t231 t232 t233 t234 120 t230 t235 t236 t237 t238 t239 t240 w0 _ ?side1 ?side2 A26.out).mono ?_); (case side1 => repeat (first | (with_reducible first | exact HI0.out | apply IsS71.alloc | apply IsS71.drewN | apply IsS71.drew | apply IsS71.set_0 | apply IsS71.set_1 | apply IsS71.set_2 | apply IsS71.set_3 | apply IsS71.set_4 | apply IsS71.set_5) | exact HI0.out)); (case side2 => repeat (first | (with_reducible first | exact HB.out | apply below_alloc | apply pw_below_drewN | apply below_drew1 | refine below_set ?_ (IsS71.ge HI0.out)) | exact HB.out)); rintro e w32 ⟨rfl, hi, hb, hk⟩; have n0_ := Aside0.mk (KeepBut.trans (by repeat (first | (with_reducible first | exact HK.out | apply KeepBut.set_ | apply keep_drewN | apply keep_drew | apply keep_alloc) | exact HK.out)) hk (.inl rfl)); have n1_ := Aside0.mk (hb); have n2_ := Aside0.mk (hi); clear HK; clear HB; clear HI0; have HK := n0_; have HB := n1_; have HI0 := n2_; clear n0_ n1_ n2_; (try clear hb); (try clear hb2); (try clear hk); (try clear hi); obtain ⟨HGz33, hgz33⟩ := HI0.out; have hcz33_0 := cellS71_0 HGz33; have hcz33_1 := cellS71_1 HGz33; have hcz33_2 := cellS71_2 HGz33; have hcz33_3 := cellS71_3 HGz33; have hcz33_4 := cellS71_4 HGz33; have hcz33_5 := cellS71_5 HGz33; have hfz33_0 := blk_frozen HGz33 0; have hfz33_1 := blk_frozen HGz33 1; have hfz33_2 := blk_frozen HGz33 2; have hfz33_3 := blk_frozen HGz33 3; have hfz33_4 := blk_frozen HGz33 4; have hfz33_5 := blk_frozen HGz33 5; clear HGz33 hgz33)))
              go_ret
              exact ⟨ze, by repeat (first | (with_reducible first | exact HI0.out | apply IsS71.alloc | apply IsS71.drewN | apply IsS71.drew | apply IsS71.set_0 | apply IsS71.set_1 | apply IsS71.set_2 | apply IsS71.set_3 | apply IsS71.set_4 | apply IsS71.set_5) | exact HI0.out), by repeat (first | (with_reducible first | exact HB.out | apply below_alloc | apply pw_below_drewN | apply below_drew1 | refine below_set ?_ (IsS71.ge HI0.out)) | exact HB.out), by repeat (first | (with_reducible first | exact HK.out | apply KeepBut.set_ | apply keep_drewN | apply keep_drew | apply keep_alloc) | exact HK.out)⟩
            · rw [if_neg c29] at H
              exact absurd H (by simp)
          · rw [if_neg c28] at H
            exact absurd H (by simp)
        · rw [if_neg c27] at H
          exact absurd H (by simp)
      · rw [if_neg c25] at H
        have c25b0 : (t230 == s0_1) = false := beq_eq_false_iff_ne.mpr c25
        have c25b1 : (t230 != s0_1) = true := bne_iff_ne.mpr c25
        by_cases c34 : t228 = true
        · subst c34
          have H1 : ((labels_named.f t227).bind fun t241 => (if t241 = true then ((labels_reader_fail.f t229 t230 t231 t232 t233 t234 120 t230).bind fun bt242 => (if 0 ≤ s0_1 then (if s0_1 ≤ bt242.2.1 then (if bt242.2.1 ≤ (bt242.1.size : Int) then (some (bt242.1.extract (s0_1 : Int).toNat (bt242.2.1 : Int).toNat, bt242.1, bt242.2.1, bt242.2.2.1, bt242.2.2.2.1, bt242.2.2.2.2.1, bt242.2.2.2.2.2)) else (none)) else (none)) else (none))) else (if 0 ≤ s0_1 then (if s0_1 ≤ t230 then (if t230 ≤ (t229.size : Int) then (some (t229.extract (s0_1 : Int).toNat (t230 : Int).toNat, t229, t230, t231, t232, t233, t234)) else (none)) else (none)) else (none)))) = some (r1, r2, r3, r4, r5, r6, r7) := by rw [if_pos rfl] at H; exact H
          clear H
          have H := H1
          clear H1
          replace H := Option.bind_eq_some_iff.mp H
          obtain ⟨t241, A350, H⟩ := H
          replace H : (if t241 = true then ((labels_reader_fail.f t229 t230 t231 t232 t233 t234 120 t230).bind fun bt242 => (if 0 ≤ s0_1 then (if s0_1 ≤ bt242.2.1 then (if bt242.2.1 ≤ (bt242.1.size : Int) then (some (bt242.1.extract (s0_1 : Int).toNat (bt242.2.1 : Int).toNat, bt242.1, bt242.2.1, bt242.2.2.1, bt242.2.2.2.1, bt242.2.2.2.2.1, bt242.2.2.2.2.2)) else (none)) else (none)) else (none))) else (if 0 ≤ s0_1 then (if s0_1 ≤ t230 then (if t230 ≤ (t229.size : Int) then (some (t229.extract (s0_1 : Int).toNat (t230 : Int).toNat, t229, t230, t231, t232, t233, t234)) else (none)) else (none)) else (none))) = some (r1, r2, r3, r4, r5, r6, r7) := H
          have A35 := Aside0.mk A350
          clear A350
          by_cases c36 : t241 = true
          · subst c36
            have H1 : ((labels_reader_fail.f t229 t230 t231 t232 t233 t234 120 t230).bind fun bt242 => (if 0 ≤ s0_1 then (if s0_1 ≤ bt242.2.1 then (if bt242.2.1 ≤ (bt242.1.size : Int) then (some (bt242.1.extract (s0_1 : Int).toNat (bt242.2.1 : Int).toNat, bt242.1, bt242.2.1, bt242.2.2.1, bt242.2.2.2.1, bt242.2.2.2.2.1, bt242.2.2.2.2.2)) else (none)) else (none)) else (none))) = some (r1, r2, r3, r4, r5, r6, r7) := by rw [if_pos rfl] at H; exact H
            clear H
            have H := H1
            clear H1
            replace H := Option.bind_eq_some_iff.mp H
            obtain ⟨⟨t242, t243, t244, t245, t246, t247⟩, A370, H⟩ := H
            replace H : (if 0 ≤ s0_1 then (if s0_1 ≤ t243 then (if t243 ≤ (t242.size : Int) then (some (t242.extract (s0_1 : Int).toNat (t243 : Int).toNat, t242, t243, t244, t245, t246, t247)) else (none)) else (none)) else (none)) = some (r1, r2, r3, r4, r5, r6, r7) := H
            have A37 := Aside0.mk A370
            clear A370
            by_cases c38 : 0 ≤ s0_1
            · rw [if_pos c38] at H
              have c38b0 := eq_true c38
              have c38b1 : decide (0 ≤ s0_1) = true := decide_eq_true c38
              clear c38
              by_cases c39 : s0_1 ≤ t243
              · rw [if_pos c39] at H
                have c39b0 := eq_true c39
                have c39b1 : decide (s0_1 ≤ t243) = true := decide_eq_true c39
                clear c39
                by_cases c40 : t243 ≤ (t242.size : Int)
                · rw [if_pos c40] at H
                  have c40b0 := eq_true c40
                  have c40b1 : decide (t243 ≤ (t242.size : Int)) = true := decide_eq_true c40
                  clear c40
                  simp only [Option.some.injEq, Prod.mk.injEq] at H
                  obtain ⟨rfl, rfl, rfl, rfl, rfl, rfl, rfl⟩ := H
                  go_wp2_with (first | (go_at_call 80; (with_reducible refine (labels_reader_here.calls g x1000_2 x1001_2 x1002_2 x1003_2 x1004_2 x1005_2 t227 true t229 t230 t231 t232 t233 t234 w0 _ ?side1 ?side2 A24.out).mono ?_); (case side1 => repeat (first | (with_reducible first | exact HI0.out | apply IsS71.alloc | apply IsS71.drewN | apply IsS71.drew | apply IsS71.set_0 | apply IsS71.set_1 | apply IsS71.set_2 | apply IsS71.set_3 | apply IsS71.set_4 | apply IsS71.set_5) | exact HI0.out)); (case side2 => repeat (first | (with_reducible first | exact HB.out | apply below_alloc | apply pw_below_drewN | apply below_drew1 | refine below_set ?_ (IsS71.ge HI0.out)) | exact HB.out)); rintro e w41 ⟨rfl, hi, hb, hk⟩; have n0_ := Aside0.mk (KeepBut.trans (by repeat (first | (with_reducible first | exact HK.out | apply KeepBut.set_ | apply keep_drewN | apply keep_drew | apply keep_alloc) | exact HK.out)) hk (.inl rfl)); have n1_ := Aside0.mk (hb); have n2_ := Aside0.mk (hi); clear HK; clear HB; clear HI0; have HK := n0_; have HB := n1_; have HI0 := n2_; clear n0_ n1_ n2_; (try clear hb); (try clear hb2); (try clear hk); (try clear hi); obtain ⟨HGz42, hgz42⟩ := HI0.out; have hcz42_0 := cellS71_0 HGz42; have hcz42_1 := cellS71_1 HGz42; have hcz42_2 := cellS71_2 HGz42; have hcz42_3 := cellS71_3 HGz42; have hcz42_4 := cellS71_4 HGz42; have hcz42_5 := cellS71_5 HGz42; have hfz42_0 := blk_frozen HGz42 0; have hfz42_1 := blk_frozen HGz42 1; have hfz42_2 := blk_frozen HGz42 2; have hfz42_3 := blk_frozen HGz42 3; have hfz42_4 := blk_frozen HGz42 4; have hfz42_5 := blk_frozen HGz42 5; clear HGz42 hgz42) | (go_at_call 68; (with_reducible refine (labels_named.calls t227 true _ A35.out).mono ?_); rintro e w' ⟨rfl, ⟨nd, rfl⟩⟩; (try first | exact ⟨rfl, _, World.drewN_drewN _ _ _⟩ | exact ⟨rfl, _, Eq.trans (World.drewN_drewN _ _ _) (congrArg (World.drewN _) (Nat.add_assoc _ _ _))⟩)) | (go_at_call 82; (with_reducible refine (labels_reader_fail.calls g t229 t230 t231 t232 t233 t234 120 t230 t242 t243 t244 t245 t246 t247 w0 _ ?side1 ?side2 A37.out).mono ?_); (case side1 => repeat (first | (with_reducible first | exact HI0.out | apply IsS71.alloc | apply IsS71.drewN | apply IsS71.drew | apply IsS71.set_0 | apply IsS71.set_1 | apply IsS71.set_2 | apply IsS71.set_3 | apply IsS71.set_4 | apply IsS71.set_5) | exact HI0.out)); (case side2 => repeat (first | (with_reducible first | exact HB.out | apply below_alloc | apply pw_below_drewN | apply below_drew1 | refine below_set ?_ (IsS71.ge HI0.out)) | exact HB.out)); rintro e w43 ⟨rfl, hi, hb, hk⟩; have n0_ := Aside0.mk (KeepBut.trans (by repeat (first | (with_reducible first | exact HK.out | apply KeepBut.set_ | apply keep_drewN | apply keep_drew | apply keep_alloc) | exact HK.out)) hk (.inl rfl)); have n1_ := Aside0.mk (hb); have n2_ := Aside0.mk (hi); clear HK; clear HB; clear HI0; have HK := n0_; have HB := n1_; have HI0 := n2_; clear n0_ n1_ n2_; (try clear hb); (try clear hb2); (try clear hk); (try clear hi); obtain ⟨HGz44, hgz44⟩ := HI0.out; have hcz44_0 := cellS71_0 HGz44; have hcz44_1 := cellS71_1 HGz44; have hcz44_2 := cellS71_2 HGz44; have hcz44_3 := cellS71_3 HGz44; have hcz44_4 := cellS71_4 HGz44; have hcz44_5 := cellS71_5 HGz44; have hfz44_0 := blk_frozen HGz44 0; have hfz44_1 := blk_frozen HGz44 1; have hfz44_2 := blk_frozen HGz44 2; have hfz44_3 := blk_frozen HGz44 3; have hfz44_4 := blk_frozen HGz44 4; have hfz44_5 := blk_frozen HGz44 5; clear HGz44 hgz44))
                  repeat (go_quiet (first | (go_at_call 80; (with_reducible refine (labels_reader_here.calls g x1000_2 x1001_2 x1002_2 x1003_2 x1004_2 x1005_2 t227 true t229 t230 t231 t232 t233 t234 w0 _ ?side1 ?side2 A24.out).mono ?_); (case side1 => repeat (first | (with_reducible first | exact HI0.out | apply IsS71.alloc | apply IsS71.drewN | apply IsS71.drew | apply IsS71.set_0 | apply IsS71.set_1 | apply IsS71.set_2 | apply IsS71.set_3 | apply IsS71.set_4 | apply IsS71.set_5) | exact HI0.out)); (case side2 => repeat (first | (with_reducible first | exact HB.out | apply below_alloc | apply pw_below_drewN | apply below_drew1 | refine below_set ?_ (IsS71.ge HI0.out)) | exact HB.out)); rintro e w41 ⟨rfl, hi, hb, hk⟩; have n0_ := Aside0.mk (KeepBut.trans (by repeat (first | (with_reducible first | exact HK.out | apply KeepBut.set_ | apply keep_drewN | apply keep_drew | apply keep_alloc) | exact HK.out)) hk (.inl rfl)); have n1_ := Aside0.mk (hb); have n2_ := Aside0.mk (hi); clear HK; clear HB; clear HI0; have HK := n0_; have HB := n1_; have HI0 := n2_; clear n0_ n1_ n2_; (try clear hb); (try clear hb2); (try clear hk); (try clear hi); obtain ⟨HGz42, hgz42⟩ := HI0.out; have hcz42_0 := cellS71_0 HGz42; have hcz42_1 := cellS71_1 HGz42; have hcz42_2 := cellS71_2 HGz42; have hcz42_3 := cellS71_3 HGz42; have hcz42_4 := cellS71_4 HGz42; have hcz42_5 := cellS71_5 HGz42; have hfz42_0 := blk_frozen HGz42 0; have hfz42_1 := blk_frozen HGz42 1; have hfz42_2 := blk_frozen HGz42 2; have hfz42_3 := blk_frozen HGz42 3; have hfz42_4 := blk_frozen HGz42 4; have hfz42_5 := blk_frozen HGz42 5; clear HGz42 hgz42) | (go_at_call 68; (with_reducible refine (labels_named.calls t227 true _ A35.out).mono ?_); rintro e w' ⟨rfl, ⟨nd, rfl⟩⟩; (try first | exact ⟨rfl, _, World.drewN_drewN _ _ _⟩ | exact ⟨rfl, _, Eq.trans (World.drewN_drewN _ _ _) (congrArg (World.drewN _) (Nat.add_assoc _ _ _))⟩)) | (go_at_call 82; (with_reducible refine (labels_reader_fail.calls g t229 t230 t231 t232 t233 t234 120 t230 t242 t243 t244 t245 t246 t247 w0 _ ?side1 ?side2 A37.out).mono ?_); (case side1 => repeat (first | (with_reducible first | exact HI0.out | apply IsS71.alloc | apply IsS71.drewN | apply IsS71.drew | apply IsS71.set_0 | apply IsS71.set_1 | apply IsS71.set_2 | apply IsS71.set_3 | apply IsS71.set_4 | apply IsS71.set_5) | exact HI0.out)); (case side2 => repeat (first | (with_reducible first | exact HB.out | apply below_alloc | apply pw_below_drewN | apply below_drew1 | refine below_set ?_ (IsS71.ge HI0.out)) | exact HB.out)); rintro e w43 ⟨rfl, hi, hb, hk⟩; have n0_ := Aside0.mk (KeepBut.trans (by repeat (first | (with_reducible first | exact HK.out | apply KeepBut.set_ | apply keep_drewN | apply keep_drew | apply keep_alloc) | exact HK.out)) hk (.inl rfl)); have n1_ := Aside0.mk (hb); have n2_ := Aside0.mk (hi); clear HK; clear HB; clear HI0; have HK := n0_; have HB := n1_; have HI0 := n2_; clear n0_ n1_ n2_; (try clear hb); (try clear hb2); (try clear hk); (try clear hi); obtain ⟨HGz44, hgz44⟩ := HI0.out; have hcz44_0 := cellS71_0 HGz44; have hcz44_1 := cellS71_1 HGz44; have hcz44_2 := cellS71_2 HGz44; have hcz44_3 := cellS71_3 HGz44; have hcz44_4 := cellS71_4 HGz44; have hcz44_5 := cellS71_5 HGz44; have hfz44_0 := blk_frozen HGz44 0; have hfz44_1 := blk_frozen HGz44 1; have hfz44_2 := blk_frozen HGz44 2; have hfz44_3 := blk_frozen HGz44 3; have hfz44_4 := blk_frozen HGz44 4; have hfz44_5 := blk_frozen HGz44 5; clear HGz44 hgz44)); try go_wp2_with (first | (go_at_call 80; (with_reducible refine (labels_reader_here.calls g x1000_2 x1001_2 x1002_2 x1003_2 x1004_2 x1005_2 t227 true t229 t230 t231 t232 t233 t234 w0 _ ?side1 ?side2 A24.out).mono ?_); (case side1 => repeat (first | (with_reducible first | exact HI0.out | apply IsS71.alloc | apply IsS71.drewN | apply IsS71.drew | apply IsS71.set_0 | apply IsS71.set_1 | apply IsS71.set_2 | apply IsS71.set_3 | apply IsS71.set_4 | apply IsS71.set_5) | exact HI0.out)); (case side2 => repeat (first | (with_reducible first | exact HB.out | apply below_alloc | apply pw_below_drewN | apply below_drew1 | refine below_set ?_ (IsS71.ge HI0.out)) | exact HB.out)); rintro e w41 ⟨rfl, hi, hb, hk⟩; have n0_ := Aside0.mk (KeepBut.trans (by repeat (first | (with_reducible first | exact HK.out | apply KeepBut.set_ | apply keep_drewN | apply keep_drew | apply keep_alloc) | exact HK.out)) hk (.inl rfl)); have n1_ := Aside0.mk (hb); have n2_ := Aside0.mk (hi); clear HK; clear HB; clear HI0; have HK := n0_; have HB := n1_; have HI0 := n2_; clear n0_ n1_ n2_; (try clear hb); (try clear hb2); (try clear hk); (try clear hi); obtain ⟨HGz42, hgz42⟩ := HI0.out; have hcz42_0 := cellS71_0 HGz42; have hcz42_1 := cellS71_1 HGz42; have hcz42_2 := cellS71_2 HGz42; have hcz42_3 := cellS71_3 HGz42; have hcz42_4 := cellS71_4 HGz42; have hcz42_5 := cellS71_5 HGz42; have hfz42_0 := blk_frozen HGz42 0; have hfz42_1 := blk_frozen HGz42 1; have hfz42_2 := blk_frozen HGz42 2; have hfz42_3 := blk_frozen HGz42 3; have hfz42_4 := blk_frozen HGz42 4; have hfz42_5 := blk_frozen HGz42 5; clear HGz42 hgz42) | (go_at_call 68; (with_reducible refine (labels_named.calls t227 true _ A35.out).mono ?_); rintro e w' ⟨rfl, ⟨nd, rfl⟩⟩; (try first | exact ⟨rfl, _, World.drewN_drewN _ _ _⟩ | exact ⟨rfl, _, Eq.trans (World.drewN_drewN _ _ _) (congrArg (World.drewN _) (Nat.add_assoc _ _ _))⟩)) | (go_at_call 82; (with_reducible refine (labels_reader_fail.calls g t229 t230 t231 t232 t233 t234 120 t230 t242 t243 t244 t245 t246 t247 w0 _ ?side1 ?side2 A37.out).mono ?_); (case side1 => repeat (first | (with_reducible first | exact HI0.out | apply IsS71.alloc | apply IsS71.drewN | apply IsS71.drew | apply IsS71.set_0 | apply IsS71.set_1 | apply IsS71.set_2 | apply IsS71.set_3 | apply IsS71.set_4 | apply IsS71.set_5) | exact HI0.out)); (case side2 => repeat (first | (with_reducible first | exact HB.out | apply below_alloc | apply pw_below_drewN | apply below_drew1 | refine below_set ?_ (IsS71.ge HI0.out)) | exact HB.out)); rintro e w43 ⟨rfl, hi, hb, hk⟩; have n0_ := Aside0.mk (KeepBut.trans (by repeat (first | (with_reducible first | exact HK.out | apply KeepBut.set_ | apply keep_drewN | apply keep_drew | apply keep_alloc) | exact HK.out)) hk (.inl rfl)); have n1_ := Aside0.mk (hb); have n2_ := Aside0.mk (hi); clear HK; clear HB; clear HI0; have HK := n0_; have HB := n1_; have HI0 := n2_; clear n0_ n1_ n2_; (try clear hb); (try clear hb2); (try clear hk); (try clear hi); obtain ⟨HGz44, hgz44⟩ := HI0.out; have hcz44_0 := cellS71_0 HGz44; have hcz44_1 := cellS71_1 HGz44; have hcz44_2 := cellS71_2 HGz44; have hcz44_3 := cellS71_3 HGz44; have hcz44_4 := cellS71_4 HGz44; have hcz44_5 := cellS71_5 HGz44; have hfz44_0 := blk_frozen HGz44 0; have hfz44_1 := blk_frozen HGz44 1; have hfz44_2 := blk_frozen HGz44 2; have hfz44_3 := blk_frozen HGz44 3; have hfz44_4 := blk_frozen HGz44 4; have hfz44_5 := blk_frozen HGz44 5; clear HGz44 hgz44)))
                  go_ret
                  exact ⟨ze, by repeat (first | (with_reducible first | exact HI0.out | apply IsS71.alloc | apply IsS71.drewN | apply IsS71.drew | apply IsS71.set_0 | apply IsS71.set_1 | apply IsS71.set_2 | apply IsS71.set_3 | apply IsS71.set_4 | apply IsS71.set_5) | exact HI0.out), by repeat (first | (with_reducible first | exact HB.out | apply below_alloc | apply pw_below_drewN | apply below_drew1 | refine below_set ?_ (IsS71.ge HI0.out)) | exact HB.out), by repeat (first | (with_reducible first | exact HK.out | apply KeepBut.set_ | apply keep_drewN | apply keep_drew | apply keep_alloc) | exact HK.out)⟩
                · rw [if_neg c40] at H
                  exact absurd H (by simp)
              · rw [if_neg c39] at H
                exact absurd H (by simp)
            · rw [if_neg c38] at H
              exact absurd H (by simp)
          · replace c36 := Bool.eq_false_iff.mpr c36
            subst c36
            have H1 : (if 0 ≤ s0_1 then (if s0_1 ≤ t230 then (if t230 ≤ (t229.size : Int) then (some (t229.extract (s0_1 : Int).toNat (t230 : Int).toNat, t229, t230, t231, t232, t233, t234)) else (none)) else (none)) else (none)) = some (r1, r2, r3, r4, r5, r6, r7) := by rw [if_neg (show ¬ (false = true) by decide)] at H; exact H
            clear H
            have H := H1
            clear H1
            by_cases c45 : 0 ≤ s0_1
            · rw [if_pos c45] at H
              have c45b0 := eq_true c45
              have c45b1 : decide (0 ≤ s0_1) = true := decide_eq_true c45
              clear c45
              by_cases c46 : s0_1 ≤ t230
              · rw [if_pos c46] at H
                have c46b0 := eq_true c46
                have c46b1 : decide (s0_1 ≤ t230) = true := decide_eq_true c46
                clear c46
                by_cases c47 : t230 ≤ (t229.size : Int)
                · rw [if_pos c47] at H
                  have c47b0 := eq_true c47
                  have c47b1 : decide (t230 ≤ (t229.size : Int)) = true := decide_eq_true c47
                  clear c47
                  simp only [Option.some.injEq, Prod.mk.injEq] at H
                  obtain ⟨rfl, rfl, rfl, rfl, rfl, rfl, rfl⟩ := H
                  go_wp2_with (first | (go_at_call 80; (with_reducible refine (labels_reader_here.calls g x1000_2 x1001_2 x1002_2 x1003_2 x1004_2 x1005_2 t227 true t229 t230 t231 t232 t233 t234 w0 _ ?side1 ?side2 A24.out).mono ?_); (case side1 => repeat (first | (with_reducible first | exact HI0.out | apply IsS71.alloc | apply IsS71.drewN | apply IsS71.drew | apply IsS71.set_0 | apply IsS71.set_1 | apply IsS71.set_2 | apply IsS71.set_3 | apply IsS71.set_4 | apply IsS71.set_5) | exact HI0.out)); (case side2 => repeat (first | (with_reducible first | exact HB.out | apply below_alloc | apply pw_below_drewN | apply below_drew1 | refine below_set ?_ (IsS71.ge HI0.out)) | exact HB.out)); rintro e w48 ⟨rfl, hi, hb, hk⟩; have n0_ := Aside0.mk (KeepBut.trans (by repeat (first | (with_reducible first | exact HK.out | apply KeepBut.set_ | apply keep_drewN | apply keep_drew | apply keep_alloc) | exact HK.out)) hk (.inl rfl)); have n1_ := Aside0.mk (hb); have n2_ := Aside0.mk (hi); clear HK; clear HB; clear HI0; have HK := n0_; have HB := n1_; have HI0 := n2_; clear n0_ n1_ n2_; (try clear hb); (try clear hb2); (try clear hk); (try clear hi); obtain ⟨HGz49, hgz49⟩ := HI0.out; have hcz49_0 := cellS71_0 HGz49; have hcz49_1 := cellS71_1 HGz49; have hcz49_2 := cellS71_2 HGz49; have hcz49_3 := cellS71_3 HGz49; have hcz49_4 := cellS71_4 HGz49; have hcz49_5 := cellS71_5 HGz49; have hfz49_0 := blk_frozen HGz49 0; have hfz49_1 := blk_frozen HGz49 1; have hfz49_2 := blk_frozen HGz49 2; have hfz49_3 := blk_frozen HGz49 3; have hfz49_4 := blk_frozen HGz49 4; have hfz49_5 := blk_frozen HGz49 5; clear HGz49 hgz49) | (go_at_call 68; (with_reducible refine (labels_named.calls t227 false _ A35.out).mono ?_); rintro e w' ⟨rfl, ⟨nd, rfl⟩⟩; (try first | exact ⟨rfl, _, World.drewN_drewN _ _ _⟩ | exact ⟨rfl, _, Eq.trans (World.drewN_drewN _ _ _) (congrArg (World.drewN _) (Nat.add_assoc _ _ _))⟩)))
                  repeat (go_quiet (first | (go_at_call 80; (with_reducible refine (labels_reader_here.calls g x1000_2 x1001_2 x1002_2 x1003_2 x1004_2 x1005_2 t227 true t229 t230 t231 t232 t233 t234 w0 _ ?side1 ?side2 A24.out).mono ?_); (case side1 => repeat (first | (with_reducible first | exact HI0.out | apply IsS71.alloc | apply IsS71.drewN | apply IsS71.drew | apply IsS71.set_0 | apply IsS71.set_1 | apply IsS71.set_2 | apply IsS71.set_3 | apply IsS71.set_4 | apply IsS71.set_5) | exact HI0.out)); (case side2 => repeat (first | (with_reducible first | exact HB.out | apply below_alloc | apply pw_below_drewN | apply below_drew1 | refine below_set ?_ (IsS71.ge HI0.out)) | exact HB.out)); rintro e w48 ⟨rfl, hi, hb, hk⟩; have n0_ := Aside0.mk (KeepBut.trans (by repeat (first | (with_reducible first | exact HK.out | apply KeepBut.set_ | apply keep_drewN | apply keep_drew | apply keep_alloc) | exact HK.out)) hk (.inl rfl)); have n1_ := Aside0.mk (hb); have n2_ := Aside0.mk (hi); clear HK; clear HB; clear HI0; have HK := n0_; have HB := n1_; have HI0 := n2_; clear n0_ n1_ n2_; (try clear hb); (try clear hb2); (try clear hk); (try clear hi); obtain ⟨HGz49, hgz49⟩ := HI0.out; have hcz49_0 := cellS71_0 HGz49; have hcz49_1 := cellS71_1 HGz49; have hcz49_2 := cellS71_2 HGz49; have hcz49_3 := cellS71_3 HGz49; have hcz49_4 := cellS71_4 HGz49; have hcz49_5 := cellS71_5 HGz49; have hfz49_0 := blk_frozen HGz49 0; have hfz49_1 := blk_frozen HGz49 1; have hfz49_2 := blk_frozen HGz49 2; have hfz49_3 := blk_frozen HGz49 3; have hfz49_4 := blk_frozen HGz49 4; have hfz49_5 := blk_frozen HGz49 5; clear HGz49 hgz49) | (go_at_call 68; (with_reducible refine (labels_named.calls t227 false _ A35.out).mono ?_); rintro e w' ⟨rfl, ⟨nd, rfl⟩⟩; (try first | exact ⟨rfl, _, World.drewN_drewN _ _ _⟩ | exact ⟨rfl, _, Eq.trans (World.drewN_drewN _ _ _) (congrArg (World.drewN _) (Nat.add_assoc _ _ _))⟩))); try go_wp2_with (first | (go_at_call 80; (with_reducible refine (labels_reader_here.calls g x1000_2 x1001_2 x1002_2 x1003_2 x1004_2 x1005_2 t227 true t229 t230 t231 t232 t233 t234 w0 _ ?side1 ?side2 A24.out).mono ?_); (case side1 => repeat (first | (with_reducible first | exact HI0.out | apply IsS71.alloc | apply IsS71.drewN | apply IsS71.drew | apply IsS71.set_0 | apply IsS71.set_1 | apply IsS71.set_2 | apply IsS71.set_3 | apply IsS71.set_4 | apply IsS71.set_5) | exact HI0.out)); (case side2 => repeat (first | (with_reducible first | exact HB.out | apply below_alloc | apply pw_below_drewN | apply below_drew1 | refine below_set ?_ (IsS71.ge HI0.out)) | exact HB.out)); rintro e w48 ⟨rfl, hi, hb, hk⟩; have n0_ := Aside0.mk (KeepBut.trans (by repeat (first | (with_reducible first | exact HK.out | apply KeepBut.set_ | apply keep_drewN | apply keep_drew | apply keep_alloc) | exact HK.out)) hk (.inl rfl)); have n1_ := Aside0.mk (hb); have n2_ := Aside0.mk (hi); clear HK; clear HB; clear HI0; have HK := n0_; have HB := n1_; have HI0 := n2_; clear n0_ n1_ n2_; (try clear hb); (try clear hb2); (try clear hk); (try clear hi); obtain ⟨HGz49, hgz49⟩ := HI0.out; have hcz49_0 := cellS71_0 HGz49; have hcz49_1 := cellS71_1 HGz49; have hcz49_2 := cellS71_2 HGz49; have hcz49_3 := cellS71_3 HGz49; have hcz49_4 := cellS71_4 HGz49; have hcz49_5 := cellS71_5 HGz49; have hfz49_0 := blk_frozen HGz49 0; have hfz49_1 := blk_frozen HGz49 1; have hfz49_2 := blk_frozen HGz49 2; have hfz49_3 := blk_frozen HGz49 3; have hfz49_4 := blk_frozen HGz49 4; have hfz49_5 := blk_frozen HGz49 5; clear HGz49 hgz49) | (go_at_call 68; (with_reducible refine (labels_named.calls t227 false _ A35.out).mono ?_); rintro e w' ⟨rfl, ⟨nd, rfl⟩⟩; (try first | exact ⟨rfl, _, World.drewN_drewN _ _ _⟩ | exact ⟨rfl, _, Eq.trans (World.drewN_drewN _ _ _) (congrArg (World.drewN _) (Nat.add_assoc _ _ _))⟩))))
                  go_ret
                  exact ⟨ze, by repeat (first | (with_reducible first | exact HI0.out | apply IsS71.alloc | apply IsS71.drewN | apply IsS71.drew | apply IsS71.set_0 | apply IsS71.set_1 | apply IsS71.set_2 | apply IsS71.set_3 | apply IsS71.set_4 | apply IsS71.set_5) | exact HI0.out), by repeat (first | (with_reducible first | exact HB.out | apply below_alloc | apply pw_below_drewN | apply below_drew1 | refine below_set ?_ (IsS71.ge HI0.out)) | exact HB.out), by repeat (first | (with_reducible first | exact HK.out | apply KeepBut.set_ | apply keep_drewN | apply keep_drew | apply keep_alloc) | exact HK.out)⟩
                · rw [if_neg c47] at H
                  exact absurd H (by simp)
              · rw [if_neg c46] at H
                exact absurd H (by simp)
            · rw [if_neg c45] at H
              exact absurd H (by simp)
        · replace c34 := Bool.eq_false_iff.mpr c34
          subst c34
          have H1 : (if 0 ≤ s0_1 then (if s0_1 ≤ t230 then (if t230 ≤ (t229.size : Int) then (some (t229.extract (s0_1 : Int).toNat (t230 : Int).toNat, t229, t230, t231, t232, t233, t234)) else (none)) else (none)) else (none)) = some (r1, r2, r3, r4, r5, r6, r7) := by rw [if_neg (show ¬ (false = true) by decide)] at H; exact H
          clear H
          have H := H1
          clear H1
          by_cases c50 : 0 ≤ s0_1
          · rw [if_pos c50] at H
            have c50b0 := eq_true c50
            have c50b1 : decide (0 ≤ s0_1) = true := decide_eq_true c50
            clear c50
            by_cases c51 : s0_1 ≤ t230
            · rw [if_pos c51] at H
              have c51b0 := eq_true c51
              have c51b1 : decide (s0_1 ≤ t230) = true := decide_eq_true c51
              clear c51
              by_cases c52 : t230 ≤ (t229.size : Int)
              · rw [if_pos c52] at H
                have c52b0 := eq_true c52
                have c52b1 : decide (t230 ≤ (t229.size : Int)) = true := decide_eq_true c52
                clear c52
                simp only [Option.some.injEq, Prod.mk.injEq] at H
                obtain ⟨rfl, rfl, rfl, rfl, rfl, rfl, rfl⟩ := H
                go_wp2_with (first | (go_at_call 80; (with_reducible refine (labels_reader_here.calls g x1000_2 x1001_2 x1002_2 x1003_2 x1004_2 x1005_2 t227 false t229 t230 t231 t232 t233 t234 w0 _ ?side1 ?side2 A24.out).mono ?_); (case side1 => repeat (first | (with_reducible first | exact HI0.out | apply IsS71.alloc | apply IsS71.drewN | apply IsS71.drew | apply IsS71.set_0 | apply IsS71.set_1 | apply IsS71.set_2 | apply IsS71.set_3 | apply IsS71.set_4 | apply IsS71.set_5) | exact HI0.out)); (case side2 => repeat (first | (with_reducible first | exact HB.out | apply below_alloc | apply pw_below_drewN | apply below_drew1 | refine below_set ?_ (IsS71.ge HI0.out)) | exact HB.out)); rintro e w53 ⟨rfl, hi, hb, hk⟩; have n0_ := Aside0.mk (KeepBut.trans (by repeat (first | (with_reducible first | exact HK.out | apply KeepBut.set_ | apply keep_drewN | apply keep_drew | apply keep_alloc) | exact HK.out)) hk (.inl rfl)); have n1_ := Aside0.mk (hb); have n2_ := Aside0.mk (hi); clear HK; clear HB; clear HI0; have HK := n0_; have HB := n1_; have HI0 := n2_; clear n0_ n1_ n2_; (try clear hb); (try clear hb2); (try clear hk); (try clear hi); obtain ⟨HGz54, hgz54⟩ := HI0.out; have hcz54_0 := cellS71_0 HGz54; have hcz54_1 := cellS71_1 HGz54; have hcz54_2 := cellS71_2 HGz54; have hcz54_3 := cellS71_3 HGz54; have hcz54_4 := cellS71_4 HGz54; have hcz54_5 := cellS71_5 HGz54; have hfz54_0 := blk_frozen HGz54 0; have hfz54_1 := blk_frozen HGz54 1; have hfz54_2 := blk_frozen HGz54 2; have hfz54_3 := blk_frozen HGz54 3; have hfz54_4 := blk_frozen HGz54 4; have hfz54_5 := blk_frozen HGz54 5; clear HGz54 hgz54))
                repeat (go_quiet (first | (go_at_call 80; (with_reducible refine (labels_reader_here.calls g x1000_2 x1001_2 x1002_2 x1003_2 x1004_2 x1005_2 t227 false t229 t230 t231 t232 t233 t234 w0 _ ?side1 ?side2 A24.out).mono ?_); (case side1 => repeat (first | (with_reducible first | exact HI0.out | apply IsS71.alloc | apply IsS71.drewN | apply IsS71.drew | apply IsS71.set_0 | apply IsS71.set_1 | apply IsS71.set_2 | apply IsS71.set_3 | apply IsS71.set_4 | apply IsS71.set_5) | exact HI0.out)); (case side2 => repeat (first | (with_reducible first | exact HB.out | apply below_alloc | apply pw_below_drewN | apply below_drew1 | refine below_set ?_ (IsS71.ge HI0.out)) | exact HB.out)); rintro e w53 ⟨rfl, hi, hb, hk⟩; have n0_ := Aside0.mk (KeepBut.trans (by repeat (first | (with_reducible first | exact HK.out | apply KeepBut.set_ | apply keep_drewN | apply keep_drew | apply keep_alloc) | exact HK.out)) hk (.inl rfl)); have n1_ := Aside0.mk (hb); have n2_ := Aside0.mk (hi); clear HK; clear HB; clear HI0; have HK := n0_; have HB := n1_; have HI0 := n2_; clear n0_ n1_ n2_; (try clear hb); (try clear hb2); (try clear hk); (try clear hi); obtain ⟨HGz54, hgz54⟩ := HI0.out; have hcz54_0 := cellS71_0 HGz54; have hcz54_1 := cellS71_1 HGz54; have hcz54_2 := cellS71_2 HGz54; have hcz54_3 := cellS71_3 HGz54; have hcz54_4 := cellS71_4 HGz54; have hcz54_5 := cellS71_5 HGz54; have hfz54_0 := blk_frozen HGz54 0; have hfz54_1 := blk_frozen HGz54 1; have hfz54_2 := blk_frozen HGz54 2; have hfz54_3 := blk_frozen HGz54 3; have hfz54_4 := blk_frozen HGz54 4; have hfz54_5 := blk_frozen HGz54 5; clear HGz54 hgz54)); try go_wp2_with (first | (go_at_call 80; (with_reducible refine (labels_reader_here.calls g x1000_2 x1001_2 x1002_2 x1003_2 x1004_2 x1005_2 t227 false t229 t230 t231 t232 t233 t234 w0 _ ?side1 ?side2 A24.out).mono ?_); (case side1 => repeat (first | (with_reducible first | exact HI0.out | apply IsS71.alloc | apply IsS71.drewN | apply IsS71.drew | apply IsS71.set_0 | apply IsS71.set_1 | apply IsS71.set_2 | apply IsS71.set_3 | apply IsS71.set_4 | apply IsS71.set_5) | exact HI0.out)); (case side2 => repeat (first | (with_reducible first | exact HB.out | apply below_alloc | apply pw_below_drewN | apply below_drew1 | refine below_set ?_ (IsS71.ge HI0.out)) | exact HB.out)); rintro e w53 ⟨rfl, hi, hb, hk⟩; have n0_ := Aside0.mk (KeepBut.trans (by repeat (first | (with_reducible first | exact HK.out | apply KeepBut.set_ | apply keep_drewN | apply keep_drew | apply keep_alloc) | exact HK.out)) hk (.inl rfl)); have n1_ := Aside0.mk (hb); have n2_ := Aside0.mk (hi); clear HK; clear HB; clear HI0; have HK := n0_; have HB := n1_; have HI0 := n2_; clear n0_ n1_ n2_; (try clear hb); (try clear hb2); (try clear hk); (try clear hi); obtain ⟨HGz54, hgz54⟩ := HI0.out; have hcz54_0 := cellS71_0 HGz54; have hcz54_1 := cellS71_1 HGz54; have hcz54_2 := cellS71_2 HGz54; have hcz54_3 := cellS71_3 HGz54; have hcz54_4 := cellS71_4 HGz54; have hcz54_5 := cellS71_5 HGz54; have hfz54_0 := blk_frozen HGz54 0; have hfz54_1 := blk_frozen HGz54 1; have hfz54_2 := blk_frozen HGz54 2; have hfz54_3 := blk_frozen HGz54 3; have hfz54_4 := blk_frozen HGz54 4; have hfz54_5 := blk_frozen HGz54 5; clear HGz54 hgz54)))
                go_ret
                exact ⟨ze, by repeat (first | (with_reducible first | exact HI0.out | apply IsS71.alloc | apply IsS71.drewN | apply IsS71.drew | apply IsS71.set_0 | apply IsS71.set_1 | apply IsS71.set_2 | apply IsS71.set_3 | apply IsS71.set_4 | apply IsS71.set_5) | exact HI0.out), by repeat (first | (with_reducible first | exact HB.out | apply below_alloc | apply pw_below_drewN | apply below_drew1 | refine below_set ?_ (IsS71.ge HI0.out)) | exact HB.out), by repeat (first | (with_reducible first | exact HK.out | apply KeepBut.set_ | apply keep_drewN | apply keep_drew | apply keep_alloc) | exact HK.out)⟩
              · rw [if_neg c52] at H
                exact absurd H (by simp)
            · rw [if_neg c51] at H
              exact absurd H (by simp)
          · rw [if_neg c50] at H
            exact absurd H (by simp)

/-! ### labels_reader_kind: function 95 -/
def labels_reader_kind.j0 : Nat → Bool → ByteArray → Int → Bool → Value → Int → Int → Option (Int × ByteArray × Int × Bool × Value × Int × Int)
  | 0, _, _, _, _, _, _, _ => none
  | k + 1, x19, x1000, x1001, x1002, x1003, x1004, x1005 => if x19 = true then ((labels_reader_here.f x1000 (wrap64 (x1001 + 1)) x1002 x1003 x1004 x1005).bind fun bt256 => (if bt256.1 = 126 then (some (4, bt256.2.2.1, wrap64 (bt256.2.2.2.1 + 1), bt256.2.2.2.2.1, bt256.2.2.2.2.2.1, bt256.2.2.2.2.2.2.1, bt256.2.2.2.2.2.2.2)) else ((labels_reader_take.f bt256.2.2.1 bt256.2.2.2.1 bt256.2.2.2.2.1 bt256.2.2.2.2.2.1 bt256.2.2.2.2.2.2.1 bt256.2.2.2.2.2.2.2 61).bind fun bt264 => (some (2, bt264.2.1, bt264.2.2.1, bt264.2.2.2.1, bt264.2.2.2.2.1, bt264.2.2.2.2.2.1, bt264.2.2.2.2.2.2))))) else ((labels_reader_take.f x1000 x1001 x1002 x1003 x1004 x1005 61).bind fun bt271 => (some (1, bt271.2.1, bt271.2.2.1, bt271.2.2.2.1, bt271.2.2.2.2.1, bt271.2.2.2.2.2.1, bt271.2.2.2.2.2.2)))
def labels_reader_kind.f (k : Nat) (s0_0 : ByteArray) (s0_1 : Int) (s0_2 : Bool) (s0_3 : Value) (s0_4 : Int) (s0_5 : Int) : Option (Int × ByteArray × Int × Bool × Value × Int × Int) := (labels_reader_here.f s0_0 s0_1 s0_2 s0_3 s0_4 s0_5).bind fun bt248 => (if bt248.1 = 33 then (labels_reader_kind.j0 k bt248.2.2.2.2.1 bt248.2.2.1 bt248.2.2.2.1 bt248.2.2.2.2.1 bt248.2.2.2.2.2.1 bt248.2.2.2.2.2.2.1 bt248.2.2.2.2.2.2.2) else (labels_reader_kind.j0 k false bt248.2.2.1 bt248.2.2.2.1 bt248.2.2.2.2.1 bt248.2.2.2.2.2.1 bt248.2.2.2.2.2.2.1 bt248.2.2.2.2.2.2.2))
set_option maxHeartbeats 8000000 in
set_option maxRecDepth 100000 in
theorem labels_reader_kind.calls (k : Nat) (g : Nat) (s0_0 : ByteArray) (s0_1 : Int) (s0_2 : Bool) (s0_3 : Value) (s0_4 : Int) (s0_5 : Int) (r1 : Int) (r2 : ByteArray) (r3 : Int) (r4 : Bool) (r5 : Value) (r6 : Int) (r7 : Int) (w0 w : World) (hI : IsS71 w0 w g s0_0 s0_1 s0_2 s0_3 s0_4 s0_5) (hB : Below w0.heap.size w0 w) (h : labels_reader_kind.f k s0_0 s0_1 s0_2 s0_3 s0_4 s0_5 = some (r1, r2, r3, r4, r5, r6, r7)) :
    Calls Tryd.prog 95 #[.pointer (some ⟨g, 0, none⟩)] w fun e w' => e = .returned (.int .u8 r1) ∧ IsS71 w0 w' g r2 r3 r4 r5 r6 r7 ∧ Below w0.heap.size w0 w' ∧ KeepBut w w' g none := by
  have HI0 := Aside0.mk hI
  have HK := Aside0.mk (KeepBut.refl w g none)
  have HL := Aside0.mk hB.size
  clear hI
  have HW0 := Aside0.mk hB.size
  have HB := Aside0.mk hB
  clear hB
  have H : ((labels_reader_here.f s0_0 s0_1 s0_2 s0_3 s0_4 s0_5).bind fun bt248 => (if bt248.1 = 33 then (labels_reader_kind.j0 k bt248.2.2.2.2.1 bt248.2.2.1 bt248.2.2.2.1 bt248.2.2.2.2.1 bt248.2.2.2.2.2.1 bt248.2.2.2.2.2.2.1 bt248.2.2.2.2.2.2.2) else (labels_reader_kind.j0 k false bt248.2.2.1 bt248.2.2.2.1 bt248.2.2.2.2.1 bt248.2.2.2.2.2.1 bt248.2.2.2.2.2.2.1 bt248.2.2.2.2.2.2.2))) = some (r1, r2, r3, r4, r5, r6, r7) := h
  clear h
  replace H := Option.bind_eq_some_iff.mp H
  obtain ⟨⟨t248, t249, t250, t251, t252, t253, t254, t255⟩, A20, H⟩ := H
  replace H : (if t248 = 33 then (labels_reader_kind.j0 k t252 t250 t251 t252 t253 t254 t255) else (labels_reader_kind.j0 k false t250 t251 t252 t253 t254 t255)) = some (r1, r2, r3, r4, r5, r6, r7) := H
  have A2 := Aside0.mk A20
  clear A20
  have HC3 := Aside0.mk H
  clear H
  go_enter Tryd.func95, Tryd.ntmps95
  go_upto_region 2 with (first | ((with_reducible refine gate_callee (f := 80) rfl ?_); refine goesL_ (some 9) rfl rfl Tryd.func80 (by kernel_rfl) rfl #[.pointer (some ⟨g, 0, none⟩)] rfl zl ?_; (with_reducible refine (labels_reader_here.calls g s0_0 s0_1 s0_2 s0_3 s0_4 s0_5 t248 t249 t250 t251 t252 t253 t254 t255 w0 _ ?side1 ?side2 A2.out).mono ?_); (case side1 => repeat (first | (with_reducible first | exact HI0.out | apply IsS71.alloc | apply IsS71.drewN | apply IsS71.drew | apply IsS71.set_0 | apply IsS71.set_1 | apply IsS71.set_2 | apply IsS71.set_3 | apply IsS71.set_4 | apply IsS71.set_5) | exact HI0.out)); (case side2 => repeat (first | (with_reducible first | exact HB.out | apply below_alloc | apply pw_below_drewN | apply below_drew1 | refine below_set ?_ (IsS71.ge HI0.out)) | exact HB.out)); rintro e w4 ⟨rfl, hi, hb, hk⟩; refine ⟨_, rfl, ?_⟩; have n0_ := Aside0.mk (KeepBut.trans (by repeat (first | (with_reducible first | exact HK.out | apply KeepBut.set_ | apply keep_drewN | apply keep_drew | apply keep_alloc) | exact HK.out)) hk (.inl rfl)); have n1_ := Aside0.mk (hb); have n2_ := Aside0.mk (hi); clear HK; clear HB; clear HI0; have HK := n0_; have HB := n1_; have HI0 := n2_; clear n0_ n1_ n2_; (try clear hb); (try clear hb2); (try clear hk); (try clear hi)))
  (try simp only [Act.put, List.setIfInBounds_toArray, List.set_cons_zero, List.set_cons_succ])
  go_cut [19] (fun v19 wc => ∃ (kq : Nat) (x19_2 : Bool), v19 = .bool x19_2 ∧ Aside0 (labels_reader_kind.j0 kq x19_2 t250 t251 t252 t253 t254 t255 = some (r1, r2, r3, r4, r5, r6, r7)) ∧ Aside0 (kq ≤ k) ∧ Aside0 (IsS71 w0 wc g t250 t251 t252 t253 t254 t255) ∧ Aside0 (KeepBut w wc g none) ∧ Aside0 (Below w0.heap.size w0 wc))
  case first =>
    have H := HC3.out
    clear HC3
    by_cases c5 : t248 = 33
    · rw [if_pos c5] at H
      have c5b0 : (t248 == 33) = true := beq_iff_eq.mpr c5
      have c5b1 : (t248 != 33) = false := bne_eq_false_iff_eq.mpr c5
      clear c5
      (first | rw [c5b0] | (simp only [i64_w, i32_w]; rw [c5b0]) | skip)
      have H' := Aside0.mk H
      clear H
      obtain ⟨HGz6, hgz6⟩ := HI0.out
      have hcz6_0 := cellS71_0 HGz6
      have hcz6_1 := cellS71_1 HGz6
      have hcz6_2 := cellS71_2 HGz6
      have hcz6_3 := cellS71_3 HGz6
      have hcz6_4 := cellS71_4 HGz6
      have hcz6_5 := cellS71_5 HGz6
      have hfz6_0 := blk_frozen HGz6 0
      have hfz6_1 := blk_frozen HGz6 1
      have hfz6_2 := blk_frozen HGz6 2
      have hfz6_3 := blk_frozen HGz6 3
      have hfz6_4 := blk_frozen HGz6 4
      have hfz6_5 := blk_frozen HGz6 5
      clear HGz6 hgz6
      go_wp2
      go_meet
      case rel => exact ⟨_, (t252), zs, H', ⟨by first | omega | exact Nat.le_refl _⟩, ⟨by repeat (first | (with_reducible first | exact HI0.out | apply IsS71.alloc | apply IsS71.drewN | apply IsS71.drew | apply IsS71.set_0 | apply IsS71.set_1 | apply IsS71.set_2 | apply IsS71.set_3 | apply IsS71.set_4 | apply IsS71.set_5) | exact HI0.out)⟩, ⟨by repeat (first | (with_reducible first | exact HK.out | apply KeepBut.set_ | apply keep_drewN | apply keep_drew | apply keep_alloc) | exact HK.out)⟩, ⟨by repeat (first | (with_reducible first | exact HB.out | apply below_alloc | apply pw_below_drewN | apply below_drew1 | refine below_set ?_ (IsS71.ge HI0.out)) | exact HB.out)⟩⟩
    · rw [if_neg c5] at H
      have c5b0 : (t248 == 33) = false := beq_eq_false_iff_ne.mpr c5
      have c5b1 : (t248 != 33) = true := bne_iff_ne.mpr c5
      (first | rw [c5b0] | (simp only [i64_w, i32_w]; rw [c5b0]) | skip)
      have H' := Aside0.mk H
      clear H
      go_wp2
      go_meet
      case rel => exact ⟨_, (false), zs, H', ⟨by first | omega | exact Nat.le_refl _⟩, ⟨by repeat (first | (with_reducible first | exact HI0.out | apply IsS71.alloc | apply IsS71.drewN | apply IsS71.drew | apply IsS71.set_0 | apply IsS71.set_1 | apply IsS71.set_2 | apply IsS71.set_3 | apply IsS71.set_4 | apply IsS71.set_5) | exact HI0.out)⟩, ⟨by repeat (first | (with_reducible first | exact HK.out | apply KeepBut.set_ | apply keep_drewN | apply keep_drew | apply keep_alloc) | exact HK.out)⟩, ⟨by repeat (first | (with_reducible first | exact HB.out | apply below_alloc | apply pw_below_drewN | apply below_drew1 | refine below_set ?_ (IsS71.ge HI0.out)) | exact HB.out)⟩⟩
  case rest =>
    clear HC3
    try clear p2
    try clear c5
    try clear c5b0
    try clear c5b1
    try clear hcz6_0
    try clear hcz6_1
    try clear hcz6_2
    try clear hcz6_3
    try clear hcz6_4
    try clear hcz6_5
    try clear hfz6_0
    try clear hfz6_1
    try clear hfz6_2
    try clear hfz6_3
    try clear hfz6_4
    try clear hfz6_5
    obtain ⟨kq, x19_2, rfl, HA, HJ2, HI0, HK, HB⟩ := hcut
    cases kq with
    | zero => exact absurd HA.out (by simp [labels_reader_kind.j0])
    | succ kj2 =>
      have H := HA.out
      clear HA
      simp only [labels_reader_kind.j0] at H
      by_cases c7 : x19_2 = true
      · subst c7
        have H1 : ((labels_reader_here.f t250 (wrap64 (t251 + 1)) t252 t253 t254 t255).bind fun bt256 => (if bt256.1 = 126 then (some (4, bt256.2.2.1, wrap64 (bt256.2.2.2.1 + 1), bt256.2.2.2.2.1, bt256.2.2.2.2.2.1, bt256.2.2.2.2.2.2.1, bt256.2.2.2.2.2.2.2)) else ((labels_reader_take.f bt256.2.2.1 bt256.2.2.2.1 bt256.2.2.2.2.1 bt256.2.2.2.2.2.1 bt256.2.2.2.2.2.2.1 bt256.2.2.2.2.2.2.2 61).bind fun bt264 => (some (2, bt264.2.1, bt264.2.2.1, bt264.2.2.2.1, bt264.2.2.2.2.1, bt264.2.2.2.2.2.1, bt264.2.2.2.2.2.2))))) = some (r1, r2, r3, r4, r5, r6, r7) := by rw [if_pos rfl] at H; exact H
        clear H
        have H := H1
        clear H1
        replace H := Option.bind_eq_some_iff.mp H
        obtain ⟨⟨t256, t257, t258, t259, t260, t261, t262, t263⟩, A80, H⟩ := H
        replace H : (if t256 = 126 then (some (4, t258, wrap64 (t259 + 1), t260, t261, t262, t263)) else ((labels_reader_take.f t258 t259 t260 t261 t262 t263 61).bind fun bt264 => (some (2, bt264.2.1, bt264.2.2.1, bt264.2.2.2.1, bt264.2.2.2.2.1, bt264.2.2.2.2.2.1, bt264.2.2.2.2.2.2)))) = some (r1, r2, r3, r4, r5, r6, r7) := H
        have A8 := Aside0.mk A80
        clear A80
        by_cases c9 : t256 = 126
        · rw [if_pos c9] at H
          have c9b0 : (t256 == 126) = true := beq_iff_eq.mpr c9
          have c9b1 : (t256 != 126) = false := bne_eq_false_iff_eq.mpr c9
          clear c9
          simp only [Option.some.injEq, Prod.mk.injEq] at H
          obtain ⟨rfl, rfl, rfl, rfl, rfl, rfl, rfl⟩ := H
          obtain ⟨HGz10, hgz10⟩ := HI0.out
          have hcz10_0 := cellS71_0 HGz10
          have hcz10_1 := cellS71_1 HGz10
          have hcz10_2 := cellS71_2 HGz10
          have hcz10_3 := cellS71_3 HGz10
          have hcz10_4 := cellS71_4 HGz10
          have hcz10_5 := cellS71_5 HGz10
          have hfz10_0 := blk_frozen HGz10 0
          have hfz10_1 := blk_frozen HGz10 1
          have hfz10_2 := blk_frozen HGz10 2
          have hfz10_3 := blk_frozen HGz10 3
          have hfz10_4 := blk_frozen HGz10 4
          have hfz10_5 := blk_frozen HGz10 5
          clear HGz10 hgz10
          go_wp2_with (first | ((with_reducible refine gate_callee (f := 80) rfl ?_); refine goesL_ (some 29) rfl rfl Tryd.func80 (by kernel_rfl) rfl #[.pointer (some ⟨g, 0, none⟩)] rfl zl ?_; (with_reducible refine (labels_reader_here.calls g t250 (wrap64 (t251 + 1)) t252 t253 t254 t255 t256 t257 t258 t259 t260 t261 t262 t263 w0 _ ?side1 ?side2 A8.out).mono ?_); (case side1 => repeat (first | (with_reducible first | exact HI0.out | apply IsS71.alloc | apply IsS71.drewN | apply IsS71.drew | apply IsS71.set_0 | apply IsS71.set_1 | apply IsS71.set_2 | apply IsS71.set_3 | apply IsS71.set_4 | apply IsS71.set_5) | exact HI0.out)); (case side2 => repeat (first | (with_reducible first | exact HB.out | apply below_alloc | apply pw_below_drewN | apply below_drew1 | refine below_set ?_ (IsS71.ge HI0.out)) | exact HB.out)); rintro e w11 ⟨rfl, hi, hb, hk⟩; refine ⟨_, rfl, ?_⟩; have n0_ := Aside0.mk (KeepBut.trans (by repeat (first | (with_reducible first | exact HK.out | apply KeepBut.set_ | apply keep_drewN | apply keep_drew | apply keep_alloc) | exact HK.out)) hk (.inl rfl)); have n1_ := Aside0.mk (hb); have n2_ := Aside0.mk (hi); clear HK; clear HB; clear HI0; have HK := n0_; have HB := n1_; have HI0 := n2_; clear n0_ n1_ n2_; (try clear hb); (try clear hb2); (try clear hk); (try clear hi); obtain ⟨HGz12, hgz12⟩ := HI0.out; have hcz12_0 := cellS71_0 HGz12; have hcz12_1 := cellS71_1 HGz12; have hcz12_2 := cellS71_2 HGz12; have hcz12_3 := cellS71_3 HGz12; have hcz12_4 := cellS71_4 HGz12; have hcz12_5 := cellS71_5 HGz12; have hfz12_0 := blk_frozen HGz12 0; have hfz12_1 := blk_frozen HGz12 1; have hfz12_2 := blk_frozen HGz12 2; have hfz12_3 := blk_frozen HGz12 3; have hfz12_4 := blk_frozen HGz12 4; have hfz12_5 := blk_frozen HGz12 5; clear HGz12 hgz12))
          go_ret
          exact ⟨ze, by repeat (first | (with_reducible first | exact HI0.out | apply IsS71.alloc | apply IsS71.drewN | apply IsS71.drew | apply IsS71.set_0 | apply IsS71.set_1 | apply IsS71.set_2 | apply IsS71.set_3 | apply IsS71.set_4 | apply IsS71.set_5) | exact HI0.out), by repeat (first | (with_reducible first | exact HB.out | apply below_alloc | apply pw_below_drewN | apply below_drew1 | refine below_set ?_ (IsS71.ge HI0.out)) | exact HB.out), by repeat (first | (with_reducible first | exact HK.out | apply KeepBut.set_ | apply keep_drewN | apply keep_drew | apply keep_alloc) | exact HK.out)⟩
        · rw [if_neg c9] at H
          have c9b0 : (t256 == 126) = false := beq_eq_false_iff_ne.mpr c9
          have c9b1 : (t256 != 126) = true := bne_iff_ne.mpr c9
          replace H := Option.bind_eq_some_iff.mp H
          obtain ⟨⟨t264, t265, t266, t267, t268, t269, t270⟩, A130, H⟩ := H
          replace H : (some (2, t265, t266, t267, t268, t269, t270)) = some (r1, r2, r3, r4, r5, r6, r7) := H
          have A13 := Aside0.mk A130
          clear A130
          simp only [Option.some.injEq, Prod.mk.injEq] at H
          obtain ⟨rfl, rfl, rfl, rfl, rfl, rfl, rfl⟩ := H
          obtain ⟨HGz14, hgz14⟩ := HI0.out
          have hcz14_0 := cellS71_0 HGz14
          have hcz14_1 := cellS71_1 HGz14
          have hcz14_2 := cellS71_2 HGz14
          have hcz14_3 := cellS71_3 HGz14
          have hcz14_4 := cellS71_4 HGz14
          have hcz14_5 := cellS71_5 HGz14
          have hfz14_0 := blk_frozen HGz14 0
          have hfz14_1 := blk_frozen HGz14 1
          have hfz14_2 := blk_frozen HGz14 2
          have hfz14_3 := blk_frozen HGz14 3
          have hfz14_4 := blk_frozen HGz14 4
          have hfz14_5 := blk_frozen HGz14 5
          clear HGz14 hgz14
          go_wp2_with (first | ((with_reducible refine gate_callee (f := 80) rfl ?_); refine goesL_ (some 29) rfl rfl Tryd.func80 (by kernel_rfl) rfl #[.pointer (some ⟨g, 0, none⟩)] rfl zl ?_; (with_reducible refine (labels_reader_here.calls g t250 (wrap64 (t251 + 1)) t252 t253 t254 t255 t256 t257 t258 t259 t260 t261 t262 t263 w0 _ ?side1 ?side2 A8.out).mono ?_); (case side1 => repeat (first | (with_reducible first | exact HI0.out | apply IsS71.alloc | apply IsS71.drewN | apply IsS71.drew | apply IsS71.set_0 | apply IsS71.set_1 | apply IsS71.set_2 | apply IsS71.set_3 | apply IsS71.set_4 | apply IsS71.set_5) | exact HI0.out)); (case side2 => repeat (first | (with_reducible first | exact HB.out | apply below_alloc | apply pw_below_drewN | apply below_drew1 | refine below_set ?_ (IsS71.ge HI0.out)) | exact HB.out)); rintro e w15 ⟨rfl, hi, hb, hk⟩; refine ⟨_, rfl, ?_⟩; have n0_ := Aside0.mk (KeepBut.trans (by repeat (first | (with_reducible first | exact HK.out | apply KeepBut.set_ | apply keep_drewN | apply keep_drew | apply keep_alloc) | exact HK.out)) hk (.inl rfl)); have n1_ := Aside0.mk (hb); have n2_ := Aside0.mk (hi); clear HK; clear HB; clear HI0; have HK := n0_; have HB := n1_; have HI0 := n2_; clear n0_ n1_ n2_; (try clear hb); (try clear hb2); (try clear hk); (try clear hi)) | ((with_reducible refine gate_callee (f := 79) rfl ?_); refine goesL_ (some 42) rfl rfl Tryd.func79 (by kernel_rfl) rfl #[.pointer (some ⟨g, 0, none⟩), .int .u8 61] rfl zl ?_; (with_reducible refine (labels_reader_take.calls g t258 t259 t260 t261 t262 t263 61 t264 t265 t266 t267 t268 t269 t270 w0 _ ?side1 ?side2 A13.out).mono ?_); (case side1 => repeat (first | (with_reducible first | exact HI0.out | apply IsS71.alloc | apply IsS71.drewN | apply IsS71.drew | apply IsS71.set_0 | apply IsS71.set_1 | apply IsS71.set_2 | apply IsS71.set_3 | apply IsS71.set_4 | apply IsS71.set_5) | exact HI0.out)); (case side2 => repeat (first | (with_reducible first | exact HB.out | apply below_alloc | apply pw_below_drewN | apply below_drew1 | refine below_set ?_ (IsS71.ge HI0.out)) | exact HB.out)); rintro e w16 ⟨rfl, hi, hb, hk⟩; refine ⟨_, rfl, ?_⟩; have n0_ := Aside0.mk (KeepBut.trans (by repeat (first | (with_reducible first | exact HK.out | apply KeepBut.set_ | apply keep_drewN | apply keep_drew | apply keep_alloc) | exact HK.out)) hk (.inl rfl)); have n1_ := Aside0.mk (hb); have n2_ := Aside0.mk (hi); clear HK; clear HB; clear HI0; have HK := n0_; have HB := n1_; have HI0 := n2_; clear n0_ n1_ n2_; (try clear hb); (try clear hb2); (try clear hk); (try clear hi)))
          go_ret
          exact ⟨ze, by repeat (first | (with_reducible first | exact HI0.out | apply IsS71.alloc | apply IsS71.drewN | apply IsS71.drew | apply IsS71.set_0 | apply IsS71.set_1 | apply IsS71.set_2 | apply IsS71.set_3 | apply IsS71.set_4 | apply IsS71.set_5) | exact HI0.out), by repeat (first | (with_reducible first | exact HB.out | apply below_alloc | apply pw_below_drewN | apply below_drew1 | refine below_set ?_ (IsS71.ge HI0.out)) | exact HB.out), by repeat (first | (with_reducible first | exact HK.out | apply KeepBut.set_ | apply keep_drewN | apply keep_drew | apply keep_alloc) | exact HK.out)⟩
      · replace c7 := Bool.eq_false_iff.mpr c7
        subst c7
        have H1 : ((labels_reader_take.f t250 t251 t252 t253 t254 t255 61).bind fun bt271 => (some (1, bt271.2.1, bt271.2.2.1, bt271.2.2.2.1, bt271.2.2.2.2.1, bt271.2.2.2.2.2.1, bt271.2.2.2.2.2.2))) = some (r1, r2, r3, r4, r5, r6, r7) := by rw [if_neg (show ¬ (false = true) by decide)] at H; exact H
        clear H
        have H := H1
        clear H1
        replace H := Option.bind_eq_some_iff.mp H
        obtain ⟨⟨t271, t272, t273, t274, t275, t276, t277⟩, A170, H⟩ := H
        replace H : (some (1, t272, t273, t274, t275, t276, t277)) = some (r1, r2, r3, r4, r5, r6, r7) := H
        have A17 := Aside0.mk A170
        clear A170
        simp only [Option.some.injEq, Prod.mk.injEq] at H
        obtain ⟨rfl, rfl, rfl, rfl, rfl, rfl, rfl⟩ := H
        go_wp2_with (first | ((with_reducible refine gate_callee (f := 79) rfl ?_); refine goesL_ (some 44) rfl rfl Tryd.func79 (by kernel_rfl) rfl #[.pointer (some ⟨g, 0, none⟩), .int .u8 61] rfl zl ?_; (with_reducible refine (labels_reader_take.calls g t250 t251 t252 t253 t254 t255 61 t271 t272 t273 t274 t275 t276 t277 w0 _ ?side1 ?side2 A17.out).mono ?_); (case side1 => repeat (first | (with_reducible first | exact HI0.out | apply IsS71.alloc | apply IsS71.drewN | apply IsS71.drew | apply IsS71.set_0 | apply IsS71.set_1 | apply IsS71.set_2 | apply IsS71.set_3 | apply IsS71.set_4 | apply IsS71.set_5) | exact HI0.out)); (case side2 => repeat (first | (with_reducible first | exact HB.out | apply below_alloc | apply pw_below_drewN | apply below_drew1 | refine below_set ?_ (IsS71.ge HI0.out)) | exact HB.out)); rintro e w18 ⟨rfl, hi, hb, hk⟩; refine ⟨_, rfl, ?_⟩; have n0_ := Aside0.mk (KeepBut.trans (by repeat (first | (with_reducible first | exact HK.out | apply KeepBut.set_ | apply keep_drewN | apply keep_drew | apply keep_alloc) | exact HK.out)) hk (.inl rfl)); have n1_ := Aside0.mk (hb); have n2_ := Aside0.mk (hi); clear HK; clear HB; clear HI0; have HK := n0_; have HB := n1_; have HI0 := n2_; clear n0_ n1_ n2_; (try clear hb); (try clear hb2); (try clear hk); (try clear hi)))
        go_ret
        exact ⟨ze, by repeat (first | (with_reducible first | exact HI0.out | apply IsS71.alloc | apply IsS71.drewN | apply IsS71.drew | apply IsS71.set_0 | apply IsS71.set_1 | apply IsS71.set_2 | apply IsS71.set_3 | apply IsS71.set_4 | apply IsS71.set_5) | exact HI0.out), by repeat (first | (with_reducible first | exact HB.out | apply below_alloc | apply pw_below_drewN | apply below_drew1 | refine below_set ?_ (IsS71.ge HI0.out)) | exact HB.out), by repeat (first | (with_reducible first | exact HK.out | apply KeepBut.set_ | apply keep_drewN | apply keep_drew | apply keep_alloc) | exact HK.out)⟩

/-! ### abacusref12_Compare: function 44 -/
mutual
def abacusref12_Compare.l0 : Nat → List (S59) → List (S59) → Int → Option (Int)
  | 0, _, _, _ => none
  | k + 1, x0, x1, x5 => if x5 < (x0.length : Int) then (abacusref12_Compare.j1 k x0 x1 x5 (decide (x5 < (x1.length : Int)))) else (abacusref12_Compare.j1 k x0 x1 x5 false)
def abacusref12_Compare.j1 : Nat → List (S59) → List (S59) → Int → Bool → Option (Int)
  | 0, _, _, _, _ => none
  | k + 1, x0, x1, x5, x15 => if x15 = true then (if 0 ≤ x5 then (if x5 < (x0.length : Int) then (if x5 < (x1.length : Int) then (if ((((rd_T59 x0 x5).f0).toList) == (((rd_T59 x1 x5).f0).toList) && ((((rd_T59 x0 x5).f1).toList) == (((rd_T59 x1 x5).f1).toList))) = true then (abacusref12_Compare.l0 k x0 x1 (wrap64 (x5 + 1))) else (if (Op.bytesLess (((rd_T59 x0 x5).f0).toList) (((rd_T59 x1 x5).f0).toList)) = true then (some (-1)) else (if ((rd_T59 x0 x5).f0).toList = ((rd_T59 x1 x5).f0).toList then (if (Op.bytesLess (((rd_T59 x0 x5).f1).toList) (((rd_T59 x1 x5).f1).toList)) = true then (some (-1)) else (some 1)) else (some 1)))) else (none)) else (none)) else (none)) else (if (x0.length : Int) < (x1.length : Int) then (some (-1)) else (if (x0.length : Int) > (x1.length : Int) then (some 1) else (some 0)))
end
def abacusref12_Compare.f (k : Nat) (l0 : List (S59)) (l1 : List (S59)) : Option (Int) := abacusref12_Compare.l0 k l0 l1 0
set_option maxHeartbeats 8000000 in
set_option maxRecDepth 100000 in
theorem abacusref12_Compare.calls (k : Nat) (A0 : Option Addr) (c0 : Nat) (l0 : List (S59)) (A1 : Option Addr) (c1 : Nat) (l1 : List (S59)) (r : Int) (w : World) (hr0 : Kd.C k59 w A0 l0.length l0) (hc0 : l0.length ≤ c0) (hr1 : Kd.C k59 w A1 l1.length l1) (hc1 : l1.length ≤ c1) (h : abacusref12_Compare.f k l0 l1 = some r) :
    Calls Tryd.prog 44 #[.slice A0 l0.length c0, .slice A1 l1.length c1] w fun e w' => e = .returned (.int .i64 r) ∧ Drawn0 w w' := by
  have hu59 := Tryd.underlying59
  have HR0 := Aside0.mk hr0
  have HC0 := Aside0.mk hc0
  clear hr0 hc0
  have HR1 := Aside0.mk hr1
  have HC1 := Aside0.mk hc1
  clear hr1 hc1
  have H : (abacusref12_Compare.l0 k l0 l1 0) = some r := h
  clear h
  have H' := Aside0.mk H
  clear H
  go_enter Tryd.func44, Tryd.ntmps44
  go_wp2
  repeat (go_quiet (fail); try go_wp2)
  go_loopg [5] k (fun kq v5 w' => ∃ (x5_1 : Int), v5 = .int .i64 x5_1 ∧ Aside0 (abacusref12_Compare.l0 kq l0 l1 x5_1 = some r) ∧ Aside0 (kq ≤ k) ∧ Drawn0 w w')
  case atStart => exact ⟨(0), zs, H', ⟨Nat.le_refl _⟩, by repeat (first | exact Drawn0.refl _ | apply Drawn0.step)⟩
  case round =>
    clear H'
    try clear c1
    try clear p2
    obtain ⟨x5_1, rfl, HA, HK1, ⟨m1, rfl⟩⟩ := hrel
    cases gk with
    | zero => exact absurd HA.out (by simp [abacusref12_Compare.l0])
    | succ k1 =>
      have H := HA.out
      clear HA
      simp only [abacusref12_Compare.l0] at H
      have HC3 := Aside0.mk H
      clear H
      go_upto_region 2 with (fail)
      repeat (go_quiet (fail); go_upto_region 2 with (fail))
      go_cut [15] (fun v15 wc => ∃ (kq : Nat) (x15_2 : Bool), v15 = .bool x15_2 ∧ Aside0 (abacusref12_Compare.j1 kq l0 l1 x5_1 x15_2 = some r) ∧ Aside0 (kq ≤ k1) ∧ Drawn0 w wc)
      case first =>
        have H := HC3.out
        clear HC3
        by_cases c4 : x5_1 < (l0.length : Int)
        · rw [if_pos c4] at H
          have c4b0 : decide (x5_1 < (l0.length : Int)) = true := decide_eq_true c4
          clear c4
          (first | rw [c4b0] | (simp only [i64_w, i32_w]; rw [c4b0]) | skip)
          have H' := Aside0.mk H
          clear H
          go_wp2
          repeat (go_quiet (fail); try go_wp2)
          go_meet
          case rel => exact ⟨_, (decide (x5_1 < (l1.length : Int))), zs, H', ⟨by have := HK1.out; first | omega | exact Nat.le_refl _⟩, by repeat (first | exact Drawn0.refl _ | apply Drawn0.step)⟩
        · rw [if_neg c4] at H
          have c4b0 : decide (x5_1 < (l0.length : Int)) = false := decide_eq_false c4
          clear c4
          (first | rw [c4b0] | (simp only [i64_w, i32_w]; rw [c4b0]) | skip)
          have H' := Aside0.mk H
          clear H
          go_wp2
          repeat (go_quiet (fail); try go_wp2)
          go_meet
          case rel => exact ⟨_, (false), zs, H', ⟨by have := HK1.out; first | omega | exact Nat.le_refl _⟩, by repeat (first | exact Drawn0.refl _ | apply Drawn0.step)⟩
      case rest =>
        clear HC3
        try clear c1
        try clear p2
        try clear c4
        try clear c4b0
        try clear p2
        obtain ⟨kq, x15_2, rfl, HA, HJ2, ⟨mc2, rfl⟩⟩ := hcut
        cases kq with
        | zero => exact absurd HA.out (by simp [abacusref12_Compare.j1])
        | succ kj2 =>
          have H := HA.out
          clear HA
          simp only [abacusref12_Compare.j1] at H
          by_cases c5 : x15_2 = true
          · subst c5
            have H1 : (if 0 ≤ x5_1 then (if x5_1 < (l0.length : Int) then (if x5_1 < (l1.length : Int) then (if ((((rd_T59 l0 x5_1).f0).toList) == (((rd_T59 l1 x5_1).f0).toList) && ((((rd_T59 l0 x5_1).f1).toList) == (((rd_T59 l1 x5_1).f1).toList))) = true then (abacusref12_Compare.l0 kj2 l0 l1 (wrap64 (x5_1 + 1))) else (if (Op.bytesLess (((rd_T59 l0 x5_1).f0).toList) (((rd_T59 l1 x5_1).f0).toList)) = true then (some (-1)) else (if ((rd_T59 l0 x5_1).f0).toList = ((rd_T59 l1 x5_1).f0).toList then (if (Op.bytesLess (((rd_T59 l0 x5_1).f1).toList) (((rd_T59 l1 x5_1).f1).toList)) = true then (some (-1)) else (some 1)) else (some 1)))) else (none)) else (none)) else (none)) = some r := by rw [if_pos rfl] at H; exact H
            clear H
            have H := H1
            clear H1
            by_cases c6 : 0 ≤ x5_1
            · rw [if_pos c6] at H
              have c6b0 : decide (0 ≤ x5_1) = true := decide_eq_true c6
              clear c6
              by_cases c7 : x5_1 < (l0.length : Int)
              · rw [if_pos c7] at H
                have c7b0 : decide (x5_1 < (l0.length : Int)) = true := decide_eq_true c7
                clear c7
                by_cases c8 : x5_1 < (l1.length : Int)
                · rw [if_pos c8] at H
                  have c8b0 : decide (x5_1 < (l1.length : Int)) = true := decide_eq_true c8
                  clear c8
                  by_cases c9 : ((((rd_T59 l0 x5_1).f0).toList) == (((rd_T59 l1 x5_1).f0).toList) && ((((rd_T59 l0 x5_1).f1).toList) == (((rd_T59 l1 x5_1).f1).toList))) = true
                  · rw [if_pos c9] at H
                    have c9b0 : ((((rd_T59 l0 x5_1).f0).toList) == (((rd_T59 l1 x5_1).f0).toList) && ((((rd_T59 l0 x5_1).f1).toList) == (((rd_T59 l1 x5_1).f1).toList))) = true := c9
                    (try (have c9b1 : decide ((((rd_T59 l0 x5_1).f0).toList) = (((rd_T59 l1 x5_1).f0).toList) && ((((rd_T59 l0 x5_1).f1).toList) == (((rd_T59 l1 x5_1).f1).toList))) = true := by simpa using c9))
                    (try (have c9b2 : ((((rd_T59 l0 x5_1).f0).toList) == (((rd_T59 l1 x5_1).f0).toList) && ((((rd_T59 l0 x5_1).f1).toList) == (((rd_T59 l1 x5_1).f1).toList))) = true := by simpa using c9))
                    clear c9
                    have H' := Aside0.mk H
                    clear H
                    have p458 : 0 ≤ (x5_1 : Int) := of_decide_eq_true za
                    have q458 : x5_1 < (l0.length : Int) := of_decide_eq_true za
                    obtain ⟨ad458, e458, hx458_0, hx458_1⟩ := at_T59 HR0.out x5_1 p458 q458
                    cases e458
                    replace p458 := eq_true p458
                    replace q458 := eq_true q458
                    have p459 : 0 ≤ (x5_1 : Int) := of_decide_eq_true za
                    have q459 : x5_1 < (l1.length : Int) := of_decide_eq_true za
                    obtain ⟨ad459, e459, hx459_0, hx459_1⟩ := at_T59 HR1.out x5_1 p459 q459
                    cases e459
                    replace p459 := eq_true p459
                    replace q459 := eq_true q459
                    go_wp2
                    repeat (go_quiet (fail); try go_wp2)
                    go_roundg kj2
                    case measure => have := HK1.out; have := HJ2.out; omega
                    case rel => exact ⟨(wrap64 (x5_1 + 1)), zs, H', ⟨by have := HK1.out; have := HJ2.out; omega⟩, by repeat (first | exact Drawn0.refl _ | apply Drawn0.step)⟩
                  · rw [if_neg c9] at H
                    have c9b0 : ((((rd_T59 l0 x5_1).f0).toList) == (((rd_T59 l1 x5_1).f0).toList) && ((((rd_T59 l0 x5_1).f1).toList) == (((rd_T59 l1 x5_1).f1).toList))) = false := by simpa using c9
                    (try (have c9b1 : decide ((((rd_T59 l0 x5_1).f0).toList) = (((rd_T59 l1 x5_1).f0).toList) && ((((rd_T59 l0 x5_1).f1).toList) == (((rd_T59 l1 x5_1).f1).toList))) = false := by simpa using c9))
                    (try (have c9b2 : ((((rd_T59 l0 x5_1).f0).toList) == (((rd_T59 l1 x5_1).f0).toList) && ((((rd_T59 l0 x5_1).f1).toList) == (((rd_T59 l1 x5_1).f1).toList))) = false := by simpa using c9))
                    (try (have c9b3 : ¬ ((((rd_T59 l0 x5_1).f0).toList) = (((rd_T59 l1 x5_1).f0).toList) && ((((rd_T59 l0 x5_1).f1).toList) == (((rd_T59 l1 x5_1).f1).toList))) := by simpa using c9))
                    clear c9
                    by_cases c10 : (Op.bytesLess (((rd_T59 l0 x5_1).f0).toList) (((rd_T59 l1 x5_1).f0).toList)) = true
                    · rw [if_pos c10] at H
                      have c10b0 : (Op.bytesLess (((rd_T59 l0 x5_1).f0).toList) (((rd_T59 l1 x5_1).f0).toList)) = true := c10
                      clear c10
                      obtain rfl := Option.some.inj H
                      have p458 : 0 ≤ (x5_1 : Int) := of_decide_eq_true za
                      have q458 : x5_1 < (l0.length : Int) := of_decide_eq_true za
                      obtain ⟨ad458, e458, hx458_0, hx458_1⟩ := at_T59 HR0.out x5_1 p458 q458
                      cases e458
                      replace p458 := eq_true p458
                      replace q458 := eq_true q458
                      have p459 : 0 ≤ (x5_1 : Int) := of_decide_eq_true za
                      have q459 : x5_1 < (l1.length : Int) := of_decide_eq_true za
                      obtain ⟨ad459, e459, hx459_0, hx459_1⟩ := at_T59 HR1.out x5_1 p459 q459
                      cases e459
                      replace p459 := eq_true p459
                      replace q459 := eq_true q459
                      have p460 : 0 ≤ (x5_1 : Int) := of_decide_eq_true za
                      have q460 : x5_1 < (l0.length : Int) := of_decide_eq_true za
                      obtain ⟨ad460, e460, hx460_0, hx460_1⟩ := at_T59 HR0.out x5_1 p460 q460
                      obtain rfl : ad458 = ad460 := (by injection e460)
                      replace p460 := eq_true p460
                      replace q460 := eq_true q460
                      have p461 : 0 ≤ (x5_1 : Int) := of_decide_eq_true za
                      have q461 : x5_1 < (l1.length : Int) := of_decide_eq_true za
                      obtain ⟨ad461, e461, hx461_0, hx461_1⟩ := at_T59 HR1.out x5_1 p461 q461
                      obtain rfl : ad459 = ad461 := (by injection e461)
                      replace p461 := eq_true p461
                      replace q461 := eq_true q461
                      go_wp2
                      repeat (go_quiet (fail); try go_wp2)
                      go_ret
                      exact ⟨zs, by repeat (first | exact Drawn0.refl _ | apply Drawn0.step)⟩
                    · rw [if_neg c10] at H
                      have c10b0 : (Op.bytesLess (((rd_T59 l0 x5_1).f0).toList) (((rd_T59 l1 x5_1).f0).toList)) = false := by simpa using c10
                      clear c10
                      by_cases c11 : ((rd_T59 l0 x5_1).f0).toList = ((rd_T59 l1 x5_1).f0).toList
                      · rw [if_pos c11] at H
                        have c11b0 : (((rd_T59 l0 x5_1).f0).toList == ((rd_T59 l1 x5_1).f0).toList) = true := beq_iff_eq.mpr c11
                        have c11b1 : (((rd_T59 l0 x5_1).f0).toList != ((rd_T59 l1 x5_1).f0).toList) = false := bne_eq_false_iff_eq.mpr c11
                        have c9z : ((((rd_T59 l0 x5_1).f1).toList) == (((rd_T59 l1 x5_1).f1).toList)) = false := by simpa [c11b0] using c9b0
                        clear c11
                        by_cases c12 : (Op.bytesLess (((rd_T59 l0 x5_1).f1).toList) (((rd_T59 l1 x5_1).f1).toList)) = true
                        · rw [if_pos c12] at H
                          have c12b0 : (Op.bytesLess (((rd_T59 l0 x5_1).f1).toList) (((rd_T59 l1 x5_1).f1).toList)) = true := c12
                          clear c12
                          obtain rfl := Option.some.inj H
                          have p458 : 0 ≤ (x5_1 : Int) := of_decide_eq_true za
                          have q458 : x5_1 < (l0.length : Int) := of_decide_eq_true za
                          obtain ⟨ad458, e458, hx458_0, hx458_1⟩ := at_T59 HR0.out x5_1 p458 q458
                          cases e458
                          replace p458 := eq_true p458
                          replace q458 := eq_true q458
                          have p459 : 0 ≤ (x5_1 : Int) := of_decide_eq_true za
                          have q459 : x5_1 < (l1.length : Int) := of_decide_eq_true za
                          obtain ⟨ad459, e459, hx459_0, hx459_1⟩ := at_T59 HR1.out x5_1 p459 q459
                          cases e459
                          replace p459 := eq_true p459
                          replace q459 := eq_true q459
                          have p460 : 0 ≤ (x5_1 : Int) := of_decide_eq_true za
                          have q460 : x5_1 < (l0.length : Int) := of_decide_eq_true za
                          obtain ⟨ad460, e460, hx460_0, hx460_1⟩ := at_T59 HR0.out x5_1 p460 q460
                          obtain rfl : ad458 = ad460 := (by injection e460)
                          replace p460 := eq_true p460
                          replace q460 := eq_true q460
                          have p461 : 0 ≤ (x5_1 : Int) := of_decide_eq_true za
                          have q461 : x5_1 < (l1.length : Int) := of_decide_eq_true za
                          obtain ⟨ad461, e461, hx461_0, hx461_1⟩ := at_T59 HR1.out x5_1 p461 q461
                          obtain rfl : ad459 = ad461 := (by injection e461)
                          replace p461 := eq_true p461
                          replace q461 := eq_true q461
                          have p462 : 0 ≤ (x5_1 : Int) := of_decide_eq_true za
                          have q462 : x5_1 < (l0.length : Int) := of_decide_eq_true za
                          obtain ⟨ad462, e462, hx462_0, hx462_1⟩ := at_T59 HR0.out x5_1 p462 q462
                          obtain rfl : ad458 = ad462 := (by injection e462)
                          replace p462 := eq_true p462
                          replace q462 := eq_true q462
                          have p463 : 0 ≤ (x5_1 : Int) := of_decide_eq_true za
                          have q463 : x5_1 < (l1.length : Int) := of_decide_eq_true za
                          obtain ⟨ad463, e463, hx463_0, hx463_1⟩ := at_T59 HR1.out x5_1 p463 q463
                          obtain rfl : ad459 = ad463 := (by injection e463)
                          replace p463 := eq_true p463
                          replace q463 := eq_true q463
                          have p464 : 0 ≤ (x5_1 : Int) := of_decide_eq_true za
                          have q464 : x5_1 < (l0.length : Int) := of_decide_eq_true za
                          obtain ⟨ad464, e464, hx464_0, hx464_1⟩ := at_T59 HR0.out x5_1 p464 q464
                          obtain rfl : ad458 = ad464 := (by injection e464)
                          replace p464 := eq_true p464
                          replace q464 := eq_true q464
                          have p465 : 0 ≤ (x5_1 : Int) := of_decide_eq_true za
                          have q465 : x5_1 < (l1.length : Int) := of_decide_eq_true za
                          obtain ⟨ad465, e465, hx465_0, hx465_1⟩ := at_T59 HR1.out x5_1 p465 q465
                          obtain rfl : ad459 = ad465 := (by injection e465)
                          replace p465 := eq_true p465
                          replace q465 := eq_true q465
                          go_wp2
                          repeat (go_quiet (fail); try go_wp2)
                          go_ret
                          exact ⟨zs, by repeat (first | exact Drawn0.refl _ | apply Drawn0.step)⟩
                        · rw [if_neg c12] at H
                          have c12b0 : (Op.bytesLess (((rd_T59 l0 x5_1).f1).toList) (((rd_T59 l1 x5_1).f1).toList)) = false := by simpa using c12
                          clear c12
                          obtain rfl := Option.some.inj H
                          have p458 : 0 ≤ (x5_1 : Int) := of_decide_eq_true za
                          have q458 : x5_1 < (l0.length : Int) := of_decide_eq_true za
                          obtain ⟨ad458, e458, hx458_0, hx458_1⟩ := at_T59 HR0.out x5_1 p458 q458
                          cases e458
                          replace p458 := eq_true p458
                          replace q458 := eq_true q458
                          have p459 : 0 ≤ (x5_1 : Int) := of_decide_eq_true za
                          have q459 : x5_1 < (l1.length : Int) := of_decide_eq_true za
                          obtain ⟨ad459, e459, hx459_0, hx459_1⟩ := at_T59 HR1.out x5_1 p459 q459
                          cases e459
                          replace p459 := eq_true p459
                          replace q459 := eq_true q459
                          have p460 : 0 ≤ (x5_1 : Int) := of_decide_eq_true za
                          have q460 : x5_1 < (l0.length : Int) := of_decide_eq_true za
                          obtain ⟨ad460, e460, hx460_0, hx460_1⟩ := at_T59 HR0.out x5_1 p460 q460
                          obtain rfl : ad458 = ad460 := (by injection e460)
                          replace p460 := eq_true p460
                          replace q460 := eq_true q460
                          have p461 : 0 ≤ (x5_1 : Int) := of_decide_eq_true za
                          have q461 : x5_1 < (l1.length : Int) := of_decide_eq_true za
                          obtain ⟨ad461, e461, hx461_0, hx461_1⟩ := at_T59 HR1.out x5_1 p461 q461
                          obtain rfl : ad459 = ad461 := (by injection e461)
                          replace p461 := eq_true p461
                          replace q461 := eq_true q461
                          have p462 : 0 ≤ (x5_1 : Int) := of_decide_eq_true za
                          have q462 : x5_1 < (l0.length : Int) := of_decide_eq_true za
                          obtain ⟨ad462, e462, hx462_0, hx462_1⟩ := at_T59 HR0.out x5_1 p462 q462
                          obtain rfl : ad458 = ad462 := (by injection e462)
                          replace p462 := eq_true p462
                          replace q462 := eq_true q462
                          have p463 : 0 ≤ (x5_1 : Int) := of_decide_eq_true za
                          have q463 : x5_1 < (l1.length : Int) := of_decide_eq_true za
                          obtain ⟨ad463, e463, hx463_0, hx463_1⟩ := at_T59 HR1.out x5_1 p463 q463
                          obtain rfl : ad459 = ad463 := (by injection e463)
                          replace p463 := eq_true p463
                          replace q463 := eq_true q463
                          have p464 : 0 ≤ (x5_1 : Int) := of_decide_eq_true za
                          have q464 : x5_1 < (l0.length : Int) := of_decide_eq_true za
                          obtain ⟨ad464, e464, hx464_0, hx464_1⟩ := at_T59 HR0.out x5_1 p464 q464
                          obtain rfl : ad458 = ad464 := (by injection e464)
                          replace p464 := eq_true p464
                          replace q464 := eq_true q464
                          have p465 : 0 ≤ (x5_1 : Int) := of_decide_eq_true za
                          have q465 : x5_1 < (l1.length : Int) := of_decide_eq_true za
                          obtain ⟨ad465, e465, hx465_0, hx465_1⟩ := at_T59 HR1.out x5_1 p465 q465
                          obtain rfl : ad459 = ad465 := (by injection e465)
                          replace p465 := eq_true p465
                          replace q465 := eq_true q465
                          go_wp2
                          repeat (go_quiet (fail); try go_wp2)
                          go_ret
                          exact ⟨zs, by repeat (first | exact Drawn0.refl _ | apply Drawn0.step)⟩
                      · rw [if_neg c11] at H
                        have c11b0 : (((rd_T59 l0 x5_1).f0).toList == ((rd_T59 l1 x5_1).f0).toList) = false := beq_eq_false_iff_ne.mpr c11
                        have c11b1 : (((rd_T59 l0 x5_1).f0).toList != ((rd_T59 l1 x5_1).f0).toList) = true := bne_iff_ne.mpr c11
                        obtain rfl := Option.some.inj H
                        have p458 : 0 ≤ (x5_1 : Int) := of_decide_eq_true za
                        have q458 : x5_1 < (l0.length : Int) := of_decide_eq_true za
                        obtain ⟨ad458, e458, hx458_0, hx458_1⟩ := at_T59 HR0.out x5_1 p458 q458
                        cases e458
                        replace p458 := eq_true p458
                        replace q458 := eq_true q458
                        have p459 : 0 ≤ (x5_1 : Int) := of_decide_eq_true za
                        have q459 : x5_1 < (l1.length : Int) := of_decide_eq_true za
                        obtain ⟨ad459, e459, hx459_0, hx459_1⟩ := at_T59 HR1.out x5_1 p459 q459
                        cases e459
                        replace p459 := eq_true p459
                        replace q459 := eq_true q459
                        have p460 : 0 ≤ (x5_1 : Int) := of_decide_eq_true za
                        have q460 : x5_1 < (l0.length : Int) := of_decide_eq_true za
                        obtain ⟨ad460, e460, hx460_0, hx460_1⟩ := at_T59 HR0.out x5_1 p460 q460
                        obtain rfl : ad458 = ad460 := (by injection e460)
                        replace p460 := eq_true p460
                        replace q460 := eq_true q460
                        have p461 : 0 ≤ (x5_1 : Int) := of_decide_eq_true za
                        have q461 : x5_1 < (l1.length : Int) := of_decide_eq_true za
                        obtain ⟨ad461, e461, hx461_0, hx461_1⟩ := at_T59 HR1.out x5_1 p461 q461
                        obtain rfl : ad459 = ad461 := (by injection e461)
                        replace p461 := eq_true p461
                        replace q461 := eq_true q461
                        have p462 : 0 ≤ (x5_1 : Int) := of_decide_eq_true za
                        have q462 : x5_1 < (l0.length : Int) := of_decide_eq_true za
                        obtain ⟨ad462, e462, hx462_0, hx462_1⟩ := at_T59 HR0.out x5_1 p462 q462
                        obtain rfl : ad458 = ad462 := (by injection e462)
                        replace p462 := eq_true p462
                        replace q462 := eq_true q462
                        have p463 : 0 ≤ (x5_1 : Int) := of_decide_eq_true za
                        have q463 : x5_1 < (l1.length : Int) := of_decide_eq_true za
                        obtain ⟨ad463, e463, hx463_0, hx463_1⟩ := at_T59 HR1.out x5_1 p463 q463
                        obtain rfl : ad459 = ad463 := (by injection e463)
                        replace p463 := eq_true p463
                        replace q463 := eq_true q463
                        go_wp2
                        repeat (go_quiet (fail); try go_wp2)
                        go_ret
                        exact ⟨zs, by repeat (first | exact Drawn0.refl _ | apply Drawn0.step)⟩
                · rw [if_neg c8] at H
                  exact absurd H (by simp)
              · rw [if_neg c7] at H
                exact absurd H (by simp)
            · rw [if_neg c6] at H
              exact absurd H (by simp)
          · replace c5 := Bool.eq_false_iff.mpr c5
            subst c5
            have H1 : (if (l0.length : Int) < (l1.length : Int) then (some (-1)) else (if (l0.length : Int) > (l1.length : Int) then (some 1) else (some 0))) = some r := by rw [if_neg (show ¬ (false = true) by decide)] at H; exact H
            clear H
            have H := H1
            clear H1
            by_cases c13 : (l0.length : Int) < (l1.length : Int)
            · rw [if_pos c13] at H
              have c13b0 : decide ((l0.length : Int) < (l1.length : Int)) = true := decide_eq_true c13
              have c13b1 : decide (l0.length < l1.length) = true := decide_eq_true (Int.ofNat_lt.mp c13)
              clear c13
              obtain rfl := Option.some.inj H
              go_wp2
              repeat (go_quiet (fail); try go_wp2)
              go_ret
              exact ⟨zs, by repeat (first | exact Drawn0.refl _ | apply Drawn0.step)⟩
            · rw [if_neg c13] at H
              have c13b0 : decide ((l0.length : Int) < (l1.length : Int)) = false := decide_eq_false c13
              have c13b1 : decide (l0.length < l1.length) = false := decide_eq_false (fun h => c13 (Int.ofNat_lt.mpr h))
              clear c13
              by_cases c14 : (l0.length : Int) > (l1.length : Int)
              · rw [if_pos c14] at H
                have c14b0 : decide ((l1.length : Int) < (l0.length : Int)) = true := decide_eq_true c14
                have c14b1 : decide (l1.length < l0.length) = true := decide_eq_true (Int.ofNat_lt.mp c14)
                clear c14
                obtain rfl := Option.some.inj H
                go_wp2
                repeat (go_quiet (fail); try go_wp2)
                go_ret
                exact ⟨zs, by repeat (first | exact Drawn0.refl _ | apply Drawn0.step)⟩
              · rw [if_neg c14] at H
                have c14b0 : decide ((l1.length : Int) < (l0.length : Int)) = false := decide_eq_false c14
                have c14b1 : decide (l1.length < l0.length) = false := decide_eq_false (fun h => c14 (Int.ofNat_lt.mpr h))
                clear c14
                obtain rfl := Option.some.inj H
                go_wp2
                repeat (go_quiet (fail); try go_wp2)
                go_ret
                exact ⟨zs, by repeat (first | exact Drawn0.refl _ | apply Drawn0.step)⟩

/-! ### abacusref12_Same: function 16 -/
def abacusref12_Same.f (k : Nat) (l0 : List (S59)) (l1 : List (S59)) : Option (Bool) := if (l0.length : Int) = (l1.length : Int) then ((abacusref12_Compare.f k l0 l1).bind fun t466 => (some (t466 == 0))) else (some false)
set_option maxHeartbeats 8000000 in
set_option maxRecDepth 100000 in
theorem abacusref12_Same.calls (k : Nat) (A0 : Option Addr) (c0 : Nat) (l0 : List (S59)) (A1 : Option Addr) (c1 : Nat) (l1 : List (S59)) (r : Bool) (w : World) (hr0 : Kd.C k59 w A0 l0.length l0) (hc0 : l0.length ≤ c0) (hr1 : Kd.C k59 w A1 l1.length l1) (hc1 : l1.length ≤ c1) (h : abacusref12_Same.f k l0 l1 = some r) :
    Calls Tryd.prog 16 #[.slice A0 l0.length c0, .slice A1 l1.length c1] w fun e w' => e = .returned (.bool r) ∧ Drawn0 w w' := by
  have HR0 := Aside0.mk hr0
  have HC0 := Aside0.mk hc0
  clear hr0 hc0
  have HR1 := Aside0.mk hr1
  have HC1 := Aside0.mk hc1
  clear hr1 hc1
  have H : (if (l0.length : Int) = (l1.length : Int) then ((abacusref12_Compare.f k l0 l1).bind fun t466 => (some (t466 == 0))) else (some false)) = some r := h
  clear h
  by_cases c3 : (l0.length : Int) = (l1.length : Int)
  · rw [if_pos c3] at H
    have c3b0 : ((l0.length : Int) == (l1.length : Int)) = true := beq_iff_eq.mpr c3
    have c3b1 : ((l0.length : Int) != (l1.length : Int)) = false := bne_eq_false_iff_eq.mpr c3
    have c3b2 : (l0.length == l1.length) = true := by first | simpa using c3 | (simp at c3 ⊢; omega)
    clear c3
    replace H := Option.bind_eq_some_iff.mp H
    obtain ⟨t466, A40, H⟩ := H
    replace H : (some (t466 == 0)) = some r := H
    have A4 := Aside0.mk A40
    clear A40
    obtain rfl := Option.some.inj H
    go_enter Tryd.func16, Tryd.ntmps16
    go_wp2_with (first | (go_at_call 44; (with_reducible refine (abacusref12_Compare.calls k _ _ l0 _ _ l1 t466 _ ?side1 ?side2 ?side3 ?side4 A4.out).mono ?_); (case side1 => repeat (first | exact HR0.out | (with_reducible refine Kd.C_alloc ?_ _) | (with_reducible refine Kd.C_drewN ?_ _) | (with_reducible refine Kd.C_drew ?_))); (case side2 => exact HC0.out); (case side3 => repeat (first | exact HR1.out | (with_reducible refine Kd.C_alloc ?_ _) | (with_reducible refine Kd.C_drewN ?_ _) | (with_reducible refine Kd.C_drew ?_))); (case side4 => exact HC1.out); rintro e w' ⟨rfl, ⟨nd, rfl⟩⟩))
    go_ret
    exact ⟨zs, by repeat (first | exact Drawn0.refl _ | apply Drawn0.step)⟩
  · rw [if_neg c3] at H
    have c3b0 : ((l0.length : Int) == (l1.length : Int)) = false := beq_eq_false_iff_ne.mpr c3
    have c3b1 : ((l0.length : Int) != (l1.length : Int)) = true := bne_iff_ne.mpr c3
    have c3b2 : (l0.length == l1.length) = false := by first | simpa using c3 | (simp at c3 ⊢; omega)
    obtain rfl := Option.some.inj H
    go_enter Tryd.func16, Tryd.ntmps16
    go_wp2
    go_ret
    exact ⟨zs, by repeat (first | exact Drawn0.refl _ | apply Drawn0.step)⟩

/-! ### labels_Get: function 40 -/
def labels_Get.l0 : Nat → ByteArray → List (S59) → Int → Int → Option (ByteArray × Bool)
  | 0, _, _, _, _ => none
  | k + 1, x1, x8, x9, x10 => if x10 < x9 then (if 0 ≤ x10 then (if x10 < (x8.length : Int) then (if ((rd_T59 x8 x10).f0).toList = x1.toList then (some ((rd_T59 x8 x10).f1, true)) else (labels_Get.l0 k x1 x8 x9 (wrap64 (x10 + 1)))) else (none)) else (none)) else (some ((⟨#[]⟩ : ByteArray), false))
def labels_Get.f (k : Nat) (l0 : List (S59)) (a1 : ByteArray) : Option (ByteArray × Bool) := labels_Get.l0 k a1 l0 (l0.length : Int) 0
theorem labels_Get.mono_l : ∀ k, (∀ y0 y1 y2 y3, LeO (labels_Get.l0 k y0 y1 y2 y3) (labels_Get.l0 (k + 1) y0 y1 y2 y3))
  | 0 => fun _ _ _ _ r h => by simp [labels_Get.l0] at h
  | k + 1 => by
    have ih0 := labels_Get.mono_l k
    · intro y0 y1 y2 y3
      unfold labels_Get.l0
      repeat' first
      | (with_reducible exact ih0 _ _ _ _)
      | (with_reducible exact LeO.refl _)
      | (with_reducible exact LeO.none _)
      | (with_reducible refine LeO.ite ?_ ?_)
      | (with_reducible refine LeO.bind ?_ (fun _ => ?_))
      | exact ih0 _ _ _ _
      | exact LeO.none _
      | refine LeO.ite ?_ ?_
      | refine LeO.bind ?_ (fun _ => ?_)
theorem labels_Get.mono : ∀ a0 a1 k, LeO (labels_Get.f k a0 a1) (labels_Get.f (k + 1) a0 a1) := by
  intro a0 a1 k
  have ih0 := labels_Get.mono_l k
  unfold labels_Get.f
  repeat' first
      | (with_reducible exact ih0 _ _ _ _)
      | (with_reducible exact LeO.refl _)
      | (with_reducible exact LeO.none _)
      | (with_reducible refine LeO.ite ?_ ?_)
      | (with_reducible refine LeO.bind ?_ (fun _ => ?_))
      | exact ih0 _ _ _ _
      | exact LeO.none _
      | refine LeO.ite ?_ ?_
      | refine LeO.bind ?_ (fun _ => ?_)
set_option maxHeartbeats 8000000 in
set_option maxRecDepth 100000 in
theorem labels_Get.calls (k : Nat) (A0 : Option Addr) (c0 : Nat) (l0 : List (S59)) (a1 : ByteArray) (r1 : ByteArray) (r2 : Bool) (w : World) (hr0 : Kd.C k59 w A0 l0.length l0) (hc0 : l0.length ≤ c0) (h : labels_Get.f k l0 a1 = some (r1, r2)) :
    Calls Tryd.prog 40 #[.slice A0 l0.length c0, .string a1] w fun e w' => e = .returned (.tuple #[.string r1, .bool r2]) ∧ Below w.heap.size w w' := by
  have hu59 := Tryd.underlying59
  have HR0 := Aside0.mk hr0
  have HC0 := Aside0.mk hc0
  clear hr0 hc0
  have HB := Aside0.mk (Below.refl w.heap.size w)
  have H : (labels_Get.l0 k a1 l0 (l0.length : Int) 0) = some (r1, r2) := h
  clear h
  have H' := Aside0.mk H
  clear H
  go_enter Tryd.func40, Tryd.ntmps40
  go_wp2
  go_loopg [10] k (fun kq v10 w' => ∃ (x10_1 : Int), v10 = .int .i64 x10_1 ∧ Aside0 (labels_Get.l0 kq a1 l0 (l0.length : Int) x10_1 = some (r1, r2)) ∧ Aside0 (kq ≤ k) ∧ Aside0 (Below w.heap.size w w'))
  case atStart => exact ⟨(0), zs, H', ⟨Nat.le_refl _⟩, ⟨zb HB.out⟩⟩
  case round =>
    clear H'
    try clear p2
    obtain ⟨x10_1, rfl, HA, HK1, HB⟩ := hrel
    cases gk with
    | zero => exact absurd HA.out (by simp [labels_Get.l0])
    | succ k1 =>
      have H := HA.out
      clear HA
      simp only [labels_Get.l0] at H
      by_cases c3 : x10_1 < (l0.length : Int)
      · rw [if_pos c3] at H
        have c3b0 : decide (x10_1 < (l0.length : Int)) = true := decide_eq_true c3
        clear c3
        by_cases c4 : 0 ≤ x10_1
        · rw [if_pos c4] at H
          have c4b0 : decide (0 ≤ x10_1) = true := decide_eq_true c4
          clear c4
          by_cases c5 : x10_1 < (l0.length : Int)
          · rw [if_pos c5] at H
            have c5b0 : decide (x10_1 < (l0.length : Int)) = true := decide_eq_true c5
            clear c5
            by_cases c6 : ((rd_T59 l0 x10_1).f0).toList = a1.toList
            · rw [if_pos c6] at H
              have c6b0 : (((rd_T59 l0 x10_1).f0).toList == a1.toList) = true := beq_iff_eq.mpr c6
              have c6b1 : (((rd_T59 l0 x10_1).f0).toList != a1.toList) = false := bne_eq_false_iff_eq.mpr c6
              clear c6
              simp only [Option.some.injEq, Prod.mk.injEq] at H
              obtain ⟨rfl, rfl⟩ := H
              have p467 : 0 ≤ (x10_1 : Int) := of_decide_eq_true za
              have q467 : x10_1 < (l0.length : Int) := of_decide_eq_true za
              obtain ⟨ad467, e467, hx467_0, hx467_1⟩ := at_T59 HR0.out x10_1 p467 q467
              cases e467
              replace hx467_0 := (HB.out.cell (World.block_lt_of_cell? w _ hx467_0)).trans hx467_0
              replace hx467_1 := (HB.out.cell (World.block_lt_of_cell? w _ hx467_1)).trans hx467_1
              replace p467 := eq_true p467
              replace q467 := eq_true q467
              go_wp2_with (first | ((with_reducible refine gate_dst (N := 7) rfl ?_); refine box_event ?hg (N := 7) ?hd (cs := #[.string (⟨#[]⟩ : ByteArray), .string (⟨#[]⟩ : ByteArray)]) (t := 59) ?hr ?_; (case hd => rfl); (case hg => rfl); (case hr => first | (go_simp; done) | (go_simp; rfl)); intro gb468 hg w7 hbox hb; have n0_ := Aside0.mk (below_step (zb HB.out) hb); have n1_ := Aside0.mk (hbox); have n2_ := Aside0.mk ((by rw [hg]; exact (below_size (zb HB.out)) : w.heap.size ≤ gb468)); have n3_ := Aside0.mk ((by rw [hg]; exact (below_size (zb HB.out)) : w.heap.size ≤ gb468)); clear HB; have HB := n0_; have BK468 := n1_; have GW468 := n2_; have GE468 := n3_; clear n0_ n1_ n2_ n3_; clear hb hbox hg; have hcz8_0 : w7.cell? ⟨gb468, 0, none⟩ = some (.string (⟨#[]⟩ : ByteArray)) := (blk_cell BK468.out 0).trans rfl; have hcz8_1 : w7.cell? ⟨gb468, 1, none⟩ = some (.string (⟨#[]⟩ : ByteArray)) := (blk_cell BK468.out 1).trans rfl; have hfz8_0 := blk_frozen BK468.out 0; have hfz8_1 := blk_frozen BK468.out 1))
              go_ret2
              exact ⟨ze, by repeat (first | (with_reducible first | exact HB.out | apply below_alloc | apply pw_below_drewN | apply below_drew1 | refine below_set ?_ GE468.out) | exact HB.out)⟩
            · rw [if_neg c6] at H
              have c6b0 : (((rd_T59 l0 x10_1).f0).toList == a1.toList) = false := beq_eq_false_iff_ne.mpr c6
              have c6b1 : (((rd_T59 l0 x10_1).f0).toList != a1.toList) = true := bne_iff_ne.mpr c6
              have H' := Aside0.mk H
              clear H
              have p467 : 0 ≤ (x10_1 : Int) := of_decide_eq_true za
              have q467 : x10_1 < (l0.length : Int) := of_decide_eq_true za
              obtain ⟨ad467, e467, hx467_0, hx467_1⟩ := at_T59 HR0.out x10_1 p467 q467
              cases e467
              replace hx467_0 := (HB.out.cell (World.block_lt_of_cell? w _ hx467_0)).trans hx467_0
              replace hx467_1 := (HB.out.cell (World.block_lt_of_cell? w _ hx467_1)).trans hx467_1
              replace p467 := eq_true p467
              replace q467 := eq_true q467
              go_wp2_with (first | ((with_reducible refine gate_dst (N := 7) rfl ?_); refine box_event ?hg (N := 7) ?hd (cs := #[.string (⟨#[]⟩ : ByteArray), .string (⟨#[]⟩ : ByteArray)]) (t := 59) ?hr ?_; (case hd => rfl); (case hg => rfl); (case hr => first | (go_simp; done) | (go_simp; rfl)); intro gb468 hg w9 hbox hb; have n0_ := Aside0.mk (below_step (zb HB.out) hb); have n1_ := Aside0.mk (hbox); have n2_ := Aside0.mk ((by rw [hg]; exact (below_size (zb HB.out)) : w.heap.size ≤ gb468)); have n3_ := Aside0.mk ((by rw [hg]; exact (below_size (zb HB.out)) : w.heap.size ≤ gb468)); clear HB; have HB := n0_; have BK468 := n1_; have GW468 := n2_; have GE468 := n3_; clear n0_ n1_ n2_ n3_; clear hb hbox hg; have hcz10_0 : w9.cell? ⟨gb468, 0, none⟩ = some (.string (⟨#[]⟩ : ByteArray)) := (blk_cell BK468.out 0).trans rfl; have hcz10_1 : w9.cell? ⟨gb468, 1, none⟩ = some (.string (⟨#[]⟩ : ByteArray)) := (blk_cell BK468.out 1).trans rfl; have hfz10_0 := blk_frozen BK468.out 0; have hfz10_1 := blk_frozen BK468.out 1))
              go_roundg k1
              case measure => have := HK1.out; omega
              case rel => exact ⟨(wrap64 (x10_1 + 1)), zs, H', ⟨by have := HK1.out; omega⟩, ⟨by repeat (first | (with_reducible first | exact HB.out | apply below_alloc | apply pw_below_drewN | apply below_drew1 | refine below_set ?_ GE468.out) | exact HB.out)⟩⟩
          · rw [if_neg c5] at H
            exact absurd H (by simp)
        · rw [if_neg c4] at H
          exact absurd H (by simp)
      · rw [if_neg c3] at H
        have c3b0 : decide (x10_1 < (l0.length : Int)) = false := decide_eq_false c3
        clear c3
        simp only [Option.some.injEq, Prod.mk.injEq] at H
        obtain ⟨rfl, rfl⟩ := H
        go_wp2
        go_ret2
        exact ⟨ze, zb HB.out⟩

/-! ### labels_sign: function 64 -/
def labels_sign.f (a0 : Int) : Option (ByteArray) := (some (([(⟨#[]⟩ : ByteArray), (⟨#[61]⟩ : ByteArray), (⟨#[33, 61]⟩ : ByteArray), (⟨#[61, 126]⟩ : ByteArray), (⟨#[33, 126]⟩ : ByteArray)] : List ByteArray) : List ByteArray)).bind fun y641 => (if 0 ≤ a0 then (if a0 < (y641.length : Int) then (some (rdOf ByteArray.empty y641 a0)) else (none)) else (none))
set_option maxHeartbeats 8000000 in
set_option maxRecDepth 100000 in
theorem labels_sign.calls (a0 : Int) (r : ByteArray) (w : World) (h : labels_sign.f a0 = some r) :
    Calls Tryd.prog 64 #[.int .u8 a0] w fun e w' => e = .returned (.string r) ∧ Below w.heap.size w w' := by
  have HB := Aside0.mk (Below.refl w.heap.size w)
  have H : ((some (([(⟨#[]⟩ : ByteArray), (⟨#[61]⟩ : ByteArray), (⟨#[33, 61]⟩ : ByteArray), (⟨#[61, 126]⟩ : ByteArray), (⟨#[33, 126]⟩ : ByteArray)] : List ByteArray) : List ByteArray)).bind fun y641 => (if 0 ≤ a0 then (if a0 < (y641.length : Int) then (some (rdOf ByteArray.empty y641 a0)) else (none)) else (none))) = some r := h
  clear h
  obtain ⟨y641, hy641⟩ : ∃ y_ : List ByteArray, y_ = (([(⟨#[]⟩ : ByteArray), (⟨#[61]⟩ : ByteArray), (⟨#[33, 61]⟩ : ByteArray), (⟨#[61, 126]⟩ : ByteArray), (⟨#[33, 126]⟩ : ByteArray)] : List ByteArray)) := ⟨_, rfl⟩
  replace H : (if 0 ≤ a0 then (if a0 < (y641.length : Int) then (some (rdOf ByteArray.empty y641 a0)) else (none)) else (none)) = some r := by first | (rw [hy641]; with_reducible exact H) | (have H2_ := (Option.bind_some _ _).symm.trans H; rw [hy641]; with_reducible exact H2_) | (have H2_ := (Option.bind_some _ _).symm.trans H; with_reducible exact H2_) | with_reducible exact H | (rw [hy641]; exact H) | exact H
  have Ny641 := Aside0.mk hy641
  clear hy641
  by_cases c2 : 0 ≤ a0
  · rw [if_pos c2] at H
    have c2b0 : decide (0 ≤ a0) = true := decide_eq_true c2
    clear c2
    by_cases c3 : a0 < (y641.length : Int)
    · rw [if_pos c3] at H
      have c3b0 : decide (a0 < (y641.length : Int)) = true := decide_eq_true c3
      clear c3
      obtain rfl := Option.some.inj H
      go_enter Tryd.func64, Tryd.ntmps64
      go_wp2_with (first | ((with_reducible refine gate_dst (N := 3) rfl ?_); refine Kd.R_lit Kd.string _ 9 ?hg (N := 3) ?hd (xs := ([(⟨#[]⟩ : ByteArray), (⟨#[61]⟩ : ByteArray), (⟨#[33, 61]⟩ : ByteArray), (⟨#[61, 126]⟩ : ByteArray), (⟨#[33, 126]⟩ : ByteArray)] : List ByteArray)) (inner := [.string (⟨#[]⟩ : ByteArray), .string (⟨#[61]⟩ : ByteArray), .string (⟨#[33, 61]⟩ : ByteArray), .string (⟨#[61, 126]⟩ : ByteArray), .string (⟨#[33, 126]⟩ : ByteArray)]) (ok := fun _ => True) (okp := fun _ => True) ?hr ?hp (fun _ hk => hk) trivial (Below.refl _ _) (Nat.le_refl _) (by simp) ?_; (case hd => rfl); (case hg => rfl); (case hr => first | (go_simp; done) | (go_simp; rfl)); (case hp => exact (Reps.one (show Kd.M Kd.string _ _ _ (⟨#[]⟩ : ByteArray) [.string (⟨#[]⟩ : ByteArray)] from rfl) (Reps.one (show Kd.M Kd.string _ _ _ (⟨#[61]⟩ : ByteArray) [.string (⟨#[61]⟩ : ByteArray)] from rfl) (Reps.one (show Kd.M Kd.string _ _ _ (⟨#[33, 61]⟩ : ByteArray) [.string (⟨#[33, 61]⟩ : ByteArray)] from rfl) (Reps.one (show Kd.M Kd.string _ _ _ (⟨#[61, 126]⟩ : ByteArray) [.string (⟨#[61, 126]⟩ : ByteArray)] from rfl) (Reps.one (show Kd.M Kd.string _ _ _ (⟨#[33, 126]⟩ : ByteArray) [.string (⟨#[33, 126]⟩ : ByteArray)] from rfl) (Reps.none _ _))))))); intro v642 w4 ho5 hb hg_ hnew_; clear hg_ hnew_; (first | rw [← Ny641.out] at ho5 | (simp only [Int.reduceToNat] at ho5; rw [← Ny641.out] at ho5)); have n0_ := Aside0.mk (Kd.R_lower ho5 (below_size (zb HB.out))); have n1_ := Aside0.mk (below_step (zb HB.out) hb); clear HB; have HO643 := n0_; have HB := n1_; clear n0_ n1_; clear hb ho5; obtain ⟨Ao6, co6, eo6⟩ := Kd.R_slice HO643.out; subst eo6; have p644 : 0 ≤ (a0 : Int) := of_decide_eq_true za; have q644 : a0 < (y641.length : Int) := of_decide_eq_true za; obtain ⟨ad644, e644, hx644_0⟩ := Kd.at_string (Kd.R_reads' HO643.out).2.2 a0 p644 q644; cases e644; replace p644 := eq_true p644; replace q644 := eq_true q644))
      go_ret
      exact ⟨ze, zb HB.out⟩
    · rw [if_neg c3] at H
      exact absurd H (by simp)
  · rw [if_neg c2] at H
    exact absurd H (by simp)

/-! ### labels_PrintMatch_1: function 63 -/
def labels_PrintMatch_1.f (k : Nat) (a0_0 : Int) (a0_1 : ByteArray) (a0_2 : ByteArray) : Option (ByteArray) := (labels_sign.f a0_0).bind fun t646 => (if a0_1.size + t646.size ≤ 9223372036854775807 then ((labels_quoted.f k a0_2).bind fun t647 => (if (a0_1 ++ t646).size + t647.size ≤ 9223372036854775807 then (some ((a0_1 ++ t646) ++ t647)) else (none))) else (none))
def labels_PrintMatch_1.T1 : Bool × List (List Nat × List Nat) := (true, [([], []), ([0], [0]), ([], []), ([2], [2]), ([3], [3]), ([1, 4], [1, 4]), ([], []), ([6], [6]), ([7, 4], [7]), ([5, 8], [5, 8]), ([9, 8, 0, 1, 2, 3, 4, 5, 6, 7, 8, 9], [9])])
def labels_PrintMatch_1.B1 : List Nat := [0, 1, 0, 4, 12, 31, 0, 64, 220, 511, 1023]
theorem labels_PrintMatch_1.tab1 : rtab .any (opsOf Tryd.f63 1) = labels_PrintMatch_1.T1 := by kernel_rfl
theorem labels_PrintMatch_1.bits1 : waitsOk labels_PrintMatch_1.T1.2 labels_PrintMatch_1.B1 = true := by kernel_rfl
set_option maxHeartbeats 8000000 in
set_option maxRecDepth 100000 in
theorem labels_PrintMatch_1.calls (k : Nat) (a0_0 : Int) (a0_1 : ByteArray) (a0_2 : ByteArray) (r : ByteArray) (w : World) (h : labels_PrintMatch_1.f k a0_0 a0_1 a0_2 = some r) :
    Calls Tryd.prog 63 #[.agg #[.int .u8 a0_0, .string a0_1, .string a0_2]] w fun e w' => e = .returned (.string r) ∧ Below w.heap.size w w' := by
  have hu36 := Tryd.underlying36
  have HB := Aside0.mk (Below.refl w.heap.size w)
  have H : ((labels_sign.f a0_0).bind fun t646 => (if a0_1.size + t646.size ≤ 9223372036854775807 then ((labels_quoted.f k a0_2).bind fun t647 => (if (a0_1 ++ t646).size + t647.size ≤ 9223372036854775807 then (some ((a0_1 ++ t646) ++ t647)) else (none))) else (none))) = some r := h
  clear h
  replace H := Option.bind_eq_some_iff.mp H
  obtain ⟨t646, A20, H⟩ := H
  replace H : (if a0_1.size + t646.size ≤ 9223372036854775807 then ((labels_quoted.f k a0_2).bind fun t647 => (if (a0_1 ++ t646).size + t647.size ≤ 9223372036854775807 then (some ((a0_1 ++ t646) ++ t647)) else (none))) else (none)) = some r := H
  have A2 := Aside0.mk A20
  clear A20
  by_cases c3 : a0_1.size + t646.size ≤ 9223372036854775807
  · rw [if_pos c3] at H
    have c3b0 := eq_true c3
    have c3b1 : decide (a0_1.size + t646.size ≤ 9223372036854775807) = true := decide_eq_true c3
    try have c3b2 : (9223372036854775807 < a0_1.size + t646.size) = False := eq_false (Nat.not_lt.2 c3)
    replace H := Option.bind_eq_some_iff.mp H
    obtain ⟨t647, A40, H⟩ := H
    replace H : (if (a0_1 ++ t646).size + t647.size ≤ 9223372036854775807 then (some ((a0_1 ++ t646) ++ t647)) else (none)) = some r := H
    have A4 := Aside0.mk A40
    clear A40
    by_cases c5 : (a0_1 ++ t646).size + t647.size ≤ 9223372036854775807
    · rw [if_pos c5] at H
      have c5b0 := eq_true c5
      have c5b1 : decide ((a0_1 ++ t646).size + t647.size ≤ 9223372036854775807) = true := decide_eq_true c5
      try have c5b2 : (9223372036854775807 < (a0_1 ++ t646).size + t647.size) = False := eq_false (Nat.not_lt.2 c5)
      try have c5z : (9223372036854775807 < a0_1.size + t646.size + t647.size) = False := by first | (rw [ByteArray.size_append] at c5b2; exact c5b2) | (simp only [ByteArray.size_append] at c5b2; exact c5b2)
      obtain rfl := Option.some.inj H
      go_enter Tryd.func63, Tryd.ntmps63
      try go_wp2_with (first | ((with_reducible refine gate_dst (N := 1) rfl ?_); refine box_event ?hg (N := 1) ?hd (cs := #[.int .u8 a0_0, .string a0_1, .string a0_2]) (t := 36) ?hr ?_; (case hd => rfl); (case hg => rfl); (case hr => first | (go_simp; done) | (go_simp; rfl)); intro gb645 hg w6 hbox hb; have n0_ := Aside0.mk (below_step (zb HB.out) hb); have n1_ := Aside0.mk (hbox); have n2_ := Aside0.mk ((by rw [hg]; exact (below_size (zb HB.out)) : w.heap.size ≤ gb645)); have n3_ := Aside0.mk ((by rw [hg]; exact (below_size (zb HB.out)) : w.heap.size ≤ gb645)); clear HB; have HB := n0_; have BK645 := n1_; have GW645 := n2_; have GE645 := n3_; clear n0_ n1_ n2_ n3_; clear hb hbox hg))
      have n0_ := Aside0.mk (blk_drew BK645.out)
      have n1_ := Aside0.mk (below_drew1 HB.out)
      clear BK645
      clear HB
      have BK645 := n0_
      have HB := n1_
      clear n0_ n1_
      refine start_ (n := 11) (S := fun w' => w'.cell? ⟨gb645, 0, none⟩ = some (.int .u8 a0_0) ∧ w'.cell? ⟨gb645, 1, none⟩ = some (.string a0_1) ∧ w'.cell? ⟨gb645, 2, none⟩ = some (.string a0_2)) (ds := []) #[false, false, false, false, false, false, false, false, false, false, false] (by kernel_rfl) rfl rfl ⟨(blk_cell BK645.out 0).trans rfl, (blk_cell BK645.out 1).trans rfl, (blk_cell BK645.out 2).trans rfl⟩ (fun hHeld => ?_); refine with_tabW labels_PrintMatch_1.tab1 labels_PrintMatch_1.bits1 (fun HT_ HW_ => ?_)
      generalize w6.drew = w7 at BK645 HB hHeld ⊢
      refine pure_ (i := 0) (N := some 3) (v := ?_) (a' := ?_) #[true, false, false, false, false, false, false, false, false, false, false] rfl rfl (any_of HT_.out (by kernel_rfl)) (fun _ _ _ h => h) (Or.inl ⟨by rfl, ?_⟩) ?_ ?_
      rotate_left
      · intro w'
        go_simp
        with_reducible rfl
      rotate_left
      · simp only [Act.put, List.setIfInBounds_toArray, List.set_cons_zero, List.set_cons_succ, i64_w, i32_w]
        rfl
      refine pure_ (i := 2) (N := some 5) (v := ?_) (a' := ?_) #[true, false, true, false, false, false, false, false, false, false, false] rfl rfl (any_of HT_.out (by kernel_rfl)) (fun _ _ _ h => h) (Or.inl ⟨by rfl, ?_⟩) ?_ ?_
      rotate_left
      · intro w'
        go_simp
        with_reducible rfl
      rotate_left
      · simp only [Act.put, List.setIfInBounds_toArray, List.set_cons_zero, List.set_cons_succ, i64_w, i32_w]
        rfl
      refine pure_ (i := 6) (N := some 9) (v := ?_) (a' := ?_) #[true, false, true, false, false, false, true, false, false, false, false] rfl rfl (any_of HT_.out (by kernel_rfl)) (fun _ _ _ h => h) (Or.inl ⟨by rfl, ?_⟩) ?_ ?_
      rotate_left
      · intro w'
        go_simp
        with_reducible rfl
      rotate_left
      · simp only [Act.put, List.setIfInBounds_toArray, List.set_cons_zero, List.set_cons_succ, i64_w, i32_w]
        rfl
      refine take_ (i := 1) (N := some 4) (v := ?_) (a' := ?_) #[true, true, true, false, false, false, true, false, false, false, false] rfl rfl (take_ofW HT_.out HW_.out (by kernel_rfl)) (fun _ _ _ h => h) (Or.inl ⟨by rfl, ?_⟩) hHeld ?_ ?_
      rotate_left
      · rintro w' ⟨s0, s1, s2⟩
        go_simp
        with_reducible rfl
      rotate_left
      · simp only [Act.put, List.setIfInBounds_toArray, List.set_cons_zero, List.set_cons_succ, i64_w, i32_w]
        rfl
      refine take_ (i := 3) (N := some 6) (v := ?_) (a' := ?_) #[true, true, true, true, false, false, true, false, false, false, false] rfl rfl (take_ofW HT_.out HW_.out (by kernel_rfl)) (fun _ _ _ h => h) (Or.inl ⟨by rfl, ?_⟩) hHeld ?_ ?_
      rotate_left
      · rintro w' ⟨s0, s1, s2⟩
        go_simp
        with_reducible rfl
      rotate_left
      · simp only [Act.put, List.setIfInBounds_toArray, List.set_cons_zero, List.set_cons_succ, i64_w, i32_w]
        rfl
      refine take_ (i := 7) (N := some 10) (v := ?_) (a' := ?_) #[true, true, true, true, false, false, true, true, false, false, false] rfl rfl (take_ofW HT_.out HW_.out (by kernel_rfl)) (fun _ _ _ h => h) (Or.inl ⟨by rfl, ?_⟩) hHeld ?_ ?_
      rotate_left
      · rintro w' ⟨s0, s1, s2⟩
        go_simp
        with_reducible rfl
      rotate_left
      · simp only [Act.put, List.setIfInBounds_toArray, List.set_cons_zero, List.set_cons_succ, i64_w, i32_w]
        rfl
      refine one_ (i := 4) (N := some 7) #[true, true, true, true, true, false, true, true, false, false, false] rfl rfl (one_of HT_.out (by kernel_rfl)) (by decide) (fun K hK => ?_)
      refine goes_ Tryd.func64 (by kernel_rfl) rfl #[.int .u8 a0_0] (by rfl) rfl rfl zl ?_
      with_reducible refine (labels_sign.calls a0_0 t646 _ A2.out).mono ?_
      rintro e w8 ⟨rfl, hb⟩
      refine ⟨_, rfl, ?_⟩
      have n0_ := Aside0.mk (blk_below (g := gb645) (o := .cells #[.int .u8 a0_0, .string a0_1, .string a0_2] 36 (0, 0)) (by (with_reducible repeat (first | refine blk_drewN ?_ _ | refine blk_drew ?_ | refine blk_alloc ?_ _)); exact BK645.out) hb)
      have n1_ := Aside0.mk (below_step (by repeat (first | (with_reducible first | exact HB.out | apply below_alloc | apply pw_below_drewN | apply below_drew1 | refine below_set ?_ GE645.out) | exact HB.out)) hb)
      clear BK645
      clear HB
      have BK645 := n0_
      have HB := n1_
      clear n0_ n1_
      (try clear hb)
      (try clear hb2)
      (try clear hk)
      (try clear hi)
      refine hK.out _ _ ⟨(blk_cell BK645.out 0).trans rfl, (blk_cell BK645.out 1).trans rfl, (blk_cell BK645.out 2).trans rfl⟩ (fun hHeld => ?_)
      clear hK K
      refine norm_ (a' := ?_) ?_ ?_
      rotate_left
      · show Act.put _ (some 7) _ = _
        simp only [Act.put, List.setIfInBounds_toArray, List.set_cons_zero, List.set_cons_succ, i64_w, i32_w]
        rfl
      refine pure_ (i := 5) (N := some 8) (v := ?_) (a' := ?_) #[true, true, true, true, true, true, true, true, false, false, false] rfl rfl (any_of HT_.out (by kernel_rfl)) (fun _ _ _ h => h) (Or.inl ⟨by rfl, ?_⟩) ?_ ?_
      rotate_left
      · intro w'
        go_simp
        with_reducible rfl
      rotate_left
      · simp only [Act.put, List.setIfInBounds_toArray, List.set_cons_zero, List.set_cons_succ, i64_w, i32_w]
        rfl
      refine one_ (i := 8) (N := some 11) #[true, true, true, true, true, true, true, true, true, false, false] rfl rfl (one_of HT_.out (by kernel_rfl)) (by decide) (fun K hK => ?_)
      refine goes_ Tryd.func47 (by kernel_rfl) rfl #[.string a0_2] (by rfl) rfl rfl zl ?_
      with_reducible refine (labels_quoted.calls k a0_2 t647 _ A4.out).mono ?_
      rintro e w9 ⟨rfl, hb⟩
      refine ⟨_, rfl, ?_⟩
      have n0_ := Aside0.mk (blk_below (g := gb645) (o := .cells #[.int .u8 a0_0, .string a0_1, .string a0_2] 36 (0, 0)) (by (with_reducible repeat (first | refine blk_drewN ?_ _ | refine blk_drew ?_ | refine blk_alloc ?_ _)); exact BK645.out) hb)
      have n1_ := Aside0.mk (below_step (by repeat (first | (with_reducible first | exact HB.out | apply below_alloc | apply pw_below_drewN | apply below_drew1 | refine below_set ?_ GE645.out) | exact HB.out)) hb)
      clear BK645
      clear HB
      have BK645 := n0_
      have HB := n1_
      clear n0_ n1_
      (try clear hb)
      (try clear hb2)
      (try clear hk)
      (try clear hi)
      refine hK.out _ _ ⟨(blk_cell BK645.out 0).trans rfl, (blk_cell BK645.out 1).trans rfl, (blk_cell BK645.out 2).trans rfl⟩ (fun hHeld => ?_)
      clear hK K
      refine norm_ (a' := ?_) ?_ ?_
      rotate_left
      · show Act.put _ (some 11) _ = _
        simp only [Act.put, List.setIfInBounds_toArray, List.set_cons_zero, List.set_cons_succ, i64_w, i32_w]
        rfl
      refine pure_ (i := 9) (N := some 12) (v := ?_) (a' := ?_) #[true, true, true, true, true, true, true, true, true, true, false] rfl rfl (any_of HT_.out (by kernel_rfl)) (fun _ _ _ h => h) (Or.inl ⟨by rfl, ?_⟩) ?_ ?_
      rotate_left
      · intro w'
        go_simp
        with_reducible rfl
      rotate_left
      · simp only [Act.put, List.setIfInBounds_toArray, List.set_cons_zero, List.set_cons_succ, i64_w, i32_w]
        rfl
      refine pure_ (i := 10) (N := some 2) (v := ?_) (a' := ?_) #[true, true, true, true, true, true, true, true, true, true, true] rfl rfl (any_of HT_.out (by kernel_rfl)) (fun _ _ _ h => h) (Or.inl ⟨by rfl, ?_⟩) ?_ ?_
      rotate_left
      · intro w'
        go_simp
        with_reducible rfl
      rotate_left
      · simp only [Act.put, List.setIfInBounds_toArray, List.set_cons_zero, List.set_cons_succ, i64_w, i32_w]
        rfl
      refine done_ (done_of HT_.out (by kernel_rfl)) ?_
      try go_wp2
      go_ret
      exact ⟨ze, by repeat (first | (with_reducible first | exact HB.out | apply below_alloc | apply pw_below_drewN | apply below_drew1 | refine below_set ?_ GE645.out) | exact HB.out)⟩
    · rw [if_neg c5] at H
      exact absurd H (by simp)
  · rw [if_neg c3] at H
    exact absurd H (by simp)

end Go.Proofs.YtogegkfefpgbcaaDoor.PL
