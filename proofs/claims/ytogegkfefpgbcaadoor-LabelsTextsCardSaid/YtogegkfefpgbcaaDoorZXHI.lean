/- (*labels.reader).piece. -/
import Derived.Test.YtogegkfefpgbcaaDoorZXPLx0
import Derived.Test.YtogegkfefpgbcaaDoorZXQ1
import Derived.Test.YtogegkfefpgbcaaDoorZXQ2
import Derived.Test.YtogegkfefpgbcaaDoorZXQ3
import Derived.Test.YtogegkfefpgbcaaDoorZXQ4
import Derived.Test.YtogegkfefpgbcaaDoorZXHA
import Derived.Lib.Hide
import Derived.IntWalk
import Derived.StillTailTactics
import Derived.Deep.RegionHeld3
import Derived.Lib.QuoteLoop
namespace Go.Proofs.YtogegkfefpgbcaaDoor.PL
open Go.RowKit Go.Proofs.YtogegkfefpgbcaaDoorW.PrintWords Go.Proofs.YtogegkfefpgbcaaDoorW.PrintLast Go.Proofs.YtogegkfefpgbcaaDoorW.PrintMore
set_option linter.unusedVariables false
set_option linter.unusedSimpArgs false

def failP (why at_ code x : Int) : Int × Int := if why = 0 then (code, x) else (why, at_)
theorem fail_f (s : ByteArray) (i : Int) (m : Bool) (o : Value) (why at_ code x : Int) : labels_reader_fail.f s i m o why at_ code x = some (s, i, m, o, (failP why at_ code x).1, (failP why at_ code x).2) := by
  unfold labels_reader_fail.f failP; split <;> rfl

def charP (s : ByteArray) (i : Int) (m : Bool) (o : Value) (why at_ a1 : Int) (c n : Nat) : ByteArray × ByteArray × Int × Bool × Value × Int × Int :=
  let f := if a1 = 256 ∨ (c = 65533 ∧ n = 1) then failP why at_ 120 i else if 256 < a1 + n then failP why at_ 120 (i + 256 - a1) else (why, at_)
  (s.extract i.toNat (i.toNat + n), s, i + n, m, o, f.1, f.2)
def toldP (s : ByteArray) (i : Int) (m : Bool) (o : Value) (why at_ a1 c : Int) : ByteArray × ByteArray × Int × Bool × Value × Int × Int :=
  if a1 = 256 then (⟨#[]⟩, s, i, m, o, (failP why at_ 120 i).1, (failP why at_ 120 i).2)
  else if c = 110 then (⟨#[10]⟩, s, i + 2, m, o, why, at_)
  else if c = 34 then (⟨#[34]⟩, s, i + 2, m, o, why, at_)
  else if c = 92 then (⟨#[92]⟩, s, i + 2, m, o, why, at_)
  else (⟨#[]⟩, s, i + 1, m, o, (failP why at_ 120 (i + 1)).1, (failP why at_ 120 (i + 1)).2)
def behindP (s : ByteArray) (i : Int) : Int := if i + 1 < s.size then bt s (i + 1) else 0
def labels_reader_piece.f (s0_0 : ByteArray) (s0_1 : Int) (s0_2 : Bool) (s0_3 : Value) (s0_4 : Int) (s0_5 : Int) (a1 : Int) : Option (ByteArray × ByteArray × Int × Bool × Value × Int × Int) :=
  if 0 ≤ s0_1 ∧ s0_1 < s0_0.size ∧ s0_0.size ≤ 2305843009213693952 ∧ 0 ≤ a1 ∧ a1 ≤ 2305843009213693952 then
    (if bt s0_0 s0_1 = 92 then some (toldP s0_0 s0_1 s0_2 s0_3 s0_4 s0_5 a1 (behindP s0_0 s0_1))
     else some (charP s0_0 s0_1 s0_2 s0_3 s0_4 s0_5 a1 (Utf8.decode s0_0 s0_1.toNat).1 (Utf8.decode s0_0 s0_1.toNat).2))
  else none

theorem cell_below0 {W w' : World} {a : Addr} {v : Value} (h : W.cell? a = some v) (hb : Below W.heap.size W w') : w'.cell? a = some v := (hb.cell (World.block_lt_of_cell? W _ h)).trans h
theorem conv_at (W : World) (b : Nat) (hb : b = W.heap.size) (c : Int) : (convert 92 9 (.slice (some ⟨b, 0, none⟩) 1 1)).run Tryd.prog (W.alloc (.cells #[.int .u8 c] 5)) = .ok (.string (strOfNums [c])) (W.alloc (.cells #[.int .u8 c] 5)) := by
  subst hb; have h := World.ownsRow_lit (base := W.heap.size) (e := 5) (size := 1) W #[.int .u8 c] 1 (Nat.le_refl _) (by simp [maxLen]) (by simp); exact own_string (xs := [c]) Tryd.underlying92 Tryd.underlying5 Tryd.underlying9 h
set_option maxHeartbeats 2000000 in
set_option maxRecDepth 100000 in
theorem piece_full (g : Nat) (s : ByteArray) (i : Int) (m : Bool) (o : Value) (why at_ a1 : Int) (w0 w : World) (hI : IsS71 w0 w g s i m o why at_) (hB : Below w0.heap.size w0 w)
    (h0 : 0 ≤ i) (h1 : i < s.size) (hs : s.size ≤ 2305843009213693952) (hb : bt s i = 92) (ha : a1 = 256) :
    Calls Tryd.prog 107 #[.pointer (some ⟨g, 0, none⟩), .int .i64 a1] w fun e w' => e = .returned (.string ⟨#[]⟩) ∧ IsS71 w0 w' g s i m o (failP why at_ 120 i).1 (failP why at_ 120 i).2 ∧ Below w0.heap.size w0 w' ∧ KeepBut w w' g none := by
  subst ha; have HI := Lib.hid hI; have HB := Lib.hid hB; have hge := Lib.hid hI.2; have k0 := cellS71_0 hI.1; have k1 := cellS71_1 hI.1; have z1 := blk_frozen hI.1 1; have hx := bt_at s i; have p := eq_true h0; have q := eq_true h1; have HF := Lib.hid (fail_f s i m o why at_ 120 (i)); obtain ⟨f1, e1⟩ : ∃ f1, (failP why at_ 120 (i)).1 = f1 := ⟨_, rfl⟩; obtain ⟨f2, e2⟩ : ∃ f2, (failP why at_ 120 (i)).2 = f2 := ⟨_, rfl⟩; rw [e1, e2] at HF; rw [e1, e2]; clear e1 e2; have hb9 : (bt s i == 92) = true := beq_iff_eq.mpr hb; clear hb hI hB h0 h1 hs; go_enter Tryd.func107, Tryd.ntmps107; go_wp2; go_quiet (fail)
  go_wp2_with (first | (go_at_call 82; (with_reducible refine (labels_reader_fail.calls g s (i) m o why at_ 120 (i) s (i) m o f1 f2 w0 _ ?side1 ?side2 HF.out).mono ?_); (case side1 => repeat (first | exact HI.out | apply IsS71.alloc | apply IsS71.drewN | apply IsS71.drew | apply IsS71.set_1)); (case side2 => repeat (first | exact HB.out | apply below_alloc | apply pw_below_drewN | apply below_drew1 | refine below_set ?_ hge.out)); rintro e w3 ⟨rfl, hi3, hb3, hk3⟩; have HI3 := Lib.hid hi3; have HB3 := Lib.hid hb3; have HK3 := Lib.hid (KeepBut.trans (by repeat (first | exact KeepBut.refl w g none | apply KeepBut.set_ | apply keep_alloc | apply keep_drewN | apply keep_drew)) hk3 (.inl rfl)); have k03 := cellS71_0 hi3.1; have k13 := cellS71_1 hi3.1; have z13 := blk_frozen hi3.1 1; clear hi3 hb3 hk3))
  go_ret
  exact ⟨rfl, by repeat (first | exact HI3.out | apply IsS71.alloc | apply IsS71.drewN | apply IsS71.drew | apply IsS71.set_1), by repeat (first | exact HB3.out | apply below_alloc | apply pw_below_drewN | apply below_drew1 | refine below_set ?_ hge.out), (by repeat (first | exact KeepBut.refl w g none | exact HK3.out | apply KeepBut.set_ | apply keep_alloc | apply keep_drewN | apply keep_drew))⟩

set_option maxHeartbeats 2000000 in
set_option maxRecDepth 100000 in
theorem piece_told_n (g : Nat) (s : ByteArray) (i : Int) (m : Bool) (o : Value) (why at_ a1 : Int) (ok : Bool) (w0 w : World) (hI : IsS71 w0 w g s i m o why at_) (hB : Below w0.heap.size w0 w)
    (h0 : 0 ≤ i) (h1 : i < s.size) (hs : s.size ≤ 2305843009213693952) (hb : bt s i = 92) (ha : a1 ≠ 256) (hc : labels_reader_here.f s (i + 1) m o why at_ = some (110, ok, s, i + 1, m, o, why, at_)) :
    Calls Tryd.prog 107 #[.pointer (some ⟨g, 0, none⟩), .int .i64 a1] w fun e w' => e = .returned (.string ⟨#[10]⟩) ∧ IsS71 w0 w' g s (i + 2) m o why at_ ∧ Below w0.heap.size w0 w' ∧ KeepBut w w' g none := by
  have HI := Lib.hid hI; have HB := Lib.hid hB; have hge := Lib.hid hI.2; have k0 := cellS71_0 hI.1; have k1 := cellS71_1 hI.1; have z1 := blk_frozen hI.1 1; have hx := bt_at s i; have p := eq_true h0; have q := eq_true h1; have HH := Lib.hid hc; have hb9 : (bt s i == 92) = true := beq_iff_eq.mpr hb; have ha9 : (a1 == 256) = false := beq_eq_false_iff_ne.mpr ha; have hw1 : IntKind.i64.wrap (i + 1) = i + 1 := IntWalk.i64_in _ (by omega); have hw2 : IntKind.i64.wrap (i + 1 + 1) = i + 2 := by rw [show i + 1 + 1 = i + 2 by omega]; exact IntWalk.i64_in _ (by omega)
  clear hb ha hc hI hB h0 h1 hs; go_enter Tryd.func107, Tryd.ntmps107; go_wp2; go_quiet (fail)
  go_wp2_with (first | (go_at_call 80; (with_reducible refine (labels_reader_here.calls g s (i + 1) m o why at_ 110 ok s (i + 1) m o why at_ w0 _ ?side1 ?side2 HH.out).mono ?_); (case side1 => repeat (first | exact HI.out | apply IsS71.alloc | apply IsS71.drewN | apply IsS71.drew | apply IsS71.set_1)); (case side2 => repeat (first | exact HB.out | apply below_alloc | apply pw_below_drewN | apply below_drew1 | refine below_set ?_ hge.out)); rintro e w3 ⟨rfl, hi3, hb3, hk3⟩; have HI3 := Lib.hid hi3; have HB3 := Lib.hid hb3; have HK3 := Lib.hid (KeepBut.trans (by repeat (first | exact KeepBut.refl w g none | apply KeepBut.set_ | apply keep_alloc | apply keep_drewN | apply keep_drew)) hk3 (.inl rfl)); have k03 := cellS71_0 hi3.1; have k13 := cellS71_1 hi3.1; have z13 := blk_frozen hi3.1 1; clear hi3 hb3 hk3))
  go_ret
  exact ⟨rfl, by repeat (first | exact HI3.out | apply IsS71.alloc | apply IsS71.drewN | apply IsS71.drew | apply IsS71.set_1), by repeat (first | exact HB3.out | apply below_alloc | apply pw_below_drewN | apply below_drew1 | refine below_set ?_ hge.out), (by repeat (first | exact KeepBut.refl w g none | exact HK3.out | apply KeepBut.set_ | apply keep_alloc | apply keep_drewN | apply keep_drew))⟩

set_option maxHeartbeats 2000000 in
set_option maxRecDepth 100000 in
theorem piece_told_q (g : Nat) (s : ByteArray) (i : Int) (m : Bool) (o : Value) (why at_ a1 : Int) (ok : Bool) (w0 w : World) (hI : IsS71 w0 w g s i m o why at_) (hB : Below w0.heap.size w0 w)
    (h0 : 0 ≤ i) (h1 : i < s.size) (hs : s.size ≤ 2305843009213693952) (hb : bt s i = 92) (ha : a1 ≠ 256) (hc : labels_reader_here.f s (i + 1) m o why at_ = some (34, ok, s, i + 1, m, o, why, at_)) :
    Calls Tryd.prog 107 #[.pointer (some ⟨g, 0, none⟩), .int .i64 a1] w fun e w' => e = .returned (.string ⟨#[34]⟩) ∧ IsS71 w0 w' g s (i + 2) m o why at_ ∧ Below w0.heap.size w0 w' ∧ KeepBut w w' g none := by
  have HI := Lib.hid hI; have HB := Lib.hid hB; have hge := Lib.hid hI.2; have k0 := cellS71_0 hI.1; have k1 := cellS71_1 hI.1; have z1 := blk_frozen hI.1 1; have hx := bt_at s i; have p := eq_true h0; have q := eq_true h1; have HH := Lib.hid hc; have hb9 : (bt s i == 92) = true := beq_iff_eq.mpr hb; have ha9 : (a1 == 256) = false := beq_eq_false_iff_ne.mpr ha; have hw1 : IntKind.i64.wrap (i + 1) = i + 1 := IntWalk.i64_in _ (by omega); have hw2 : IntKind.i64.wrap (i + 1 + 1) = i + 2 := by rw [show i + 1 + 1 = i + 2 by omega]; exact IntWalk.i64_in _ (by omega)
  clear hb ha hc hI hB h0 h1 hs; go_enter Tryd.func107, Tryd.ntmps107; go_wp2; go_quiet (fail)
  go_wp2_with (first | (go_at_call 80; (with_reducible refine (labels_reader_here.calls g s (i + 1) m o why at_ 34 ok s (i + 1) m o why at_ w0 _ ?side1 ?side2 HH.out).mono ?_); (case side1 => repeat (first | exact HI.out | apply IsS71.alloc | apply IsS71.drewN | apply IsS71.drew | apply IsS71.set_1)); (case side2 => repeat (first | exact HB.out | apply below_alloc | apply pw_below_drewN | apply below_drew1 | refine below_set ?_ hge.out)); rintro e w3 ⟨rfl, hi3, hb3, hk3⟩; have HI3 := Lib.hid hi3; have HB3 := Lib.hid hb3; have HK3 := Lib.hid (KeepBut.trans (by repeat (first | exact KeepBut.refl w g none | apply KeepBut.set_ | apply keep_alloc | apply keep_drewN | apply keep_drew)) hk3 (.inl rfl)); have k03 := cellS71_0 hi3.1; have k13 := cellS71_1 hi3.1; have z13 := blk_frozen hi3.1 1; clear hi3 hb3 hk3; have hcv3 := fun v => conv_at (w3.setCell ⟨g, 1, none⟩ v) w3.heap.size (by simp) 34))
  go_ret
  exact ⟨rfl, by repeat (first | exact HI3.out | apply IsS71.alloc | apply IsS71.drewN | apply IsS71.drew | apply IsS71.set_1), by repeat (first | exact HB3.out | apply below_alloc | apply pw_below_drewN | apply below_drew1 | refine below_set ?_ hge.out), (by repeat (first | exact KeepBut.refl w g none | exact HK3.out | apply KeepBut.set_ | apply keep_alloc | apply keep_drewN | apply keep_drew))⟩

set_option maxHeartbeats 2000000 in
set_option maxRecDepth 100000 in
theorem piece_told_b (g : Nat) (s : ByteArray) (i : Int) (m : Bool) (o : Value) (why at_ a1 : Int) (ok : Bool) (w0 w : World) (hI : IsS71 w0 w g s i m o why at_) (hB : Below w0.heap.size w0 w)
    (h0 : 0 ≤ i) (h1 : i < s.size) (hs : s.size ≤ 2305843009213693952) (hb : bt s i = 92) (ha : a1 ≠ 256) (hc : labels_reader_here.f s (i + 1) m o why at_ = some (92, ok, s, i + 1, m, o, why, at_)) :
    Calls Tryd.prog 107 #[.pointer (some ⟨g, 0, none⟩), .int .i64 a1] w fun e w' => e = .returned (.string ⟨#[92]⟩) ∧ IsS71 w0 w' g s (i + 2) m o why at_ ∧ Below w0.heap.size w0 w' ∧ KeepBut w w' g none := by
  have HI := Lib.hid hI; have HB := Lib.hid hB; have hge := Lib.hid hI.2; have k0 := cellS71_0 hI.1; have k1 := cellS71_1 hI.1; have z1 := blk_frozen hI.1 1; have hx := bt_at s i; have p := eq_true h0; have q := eq_true h1; have HH := Lib.hid hc; have hb9 : (bt s i == 92) = true := beq_iff_eq.mpr hb; have ha9 : (a1 == 256) = false := beq_eq_false_iff_ne.mpr ha; have hw1 : IntKind.i64.wrap (i + 1) = i + 1 := IntWalk.i64_in _ (by omega); have hw2 : IntKind.i64.wrap (i + 1 + 1) = i + 2 := by rw [show i + 1 + 1 = i + 2 by omega]; exact IntWalk.i64_in _ (by omega)
  clear hb ha hc hI hB h0 h1 hs; go_enter Tryd.func107, Tryd.ntmps107; go_wp2; go_quiet (fail)
  go_wp2_with (first | (go_at_call 80; (with_reducible refine (labels_reader_here.calls g s (i + 1) m o why at_ 92 ok s (i + 1) m o why at_ w0 _ ?side1 ?side2 HH.out).mono ?_); (case side1 => repeat (first | exact HI.out | apply IsS71.alloc | apply IsS71.drewN | apply IsS71.drew | apply IsS71.set_1)); (case side2 => repeat (first | exact HB.out | apply below_alloc | apply pw_below_drewN | apply below_drew1 | refine below_set ?_ hge.out)); rintro e w3 ⟨rfl, hi3, hb3, hk3⟩; have HI3 := Lib.hid hi3; have HB3 := Lib.hid hb3; have HK3 := Lib.hid (KeepBut.trans (by repeat (first | exact KeepBut.refl w g none | apply KeepBut.set_ | apply keep_alloc | apply keep_drewN | apply keep_drew)) hk3 (.inl rfl)); have k03 := cellS71_0 hi3.1; have k13 := cellS71_1 hi3.1; have z13 := blk_frozen hi3.1 1; clear hi3 hb3 hk3; have hcv3 := fun v => conv_at (w3.setCell ⟨g, 1, none⟩ v) w3.heap.size (by simp) 92))
  go_ret
  exact ⟨rfl, by repeat (first | exact HI3.out | apply IsS71.alloc | apply IsS71.drewN | apply IsS71.drew | apply IsS71.set_1), by repeat (first | exact HB3.out | apply below_alloc | apply pw_below_drewN | apply below_drew1 | refine below_set ?_ hge.out), (by repeat (first | exact KeepBut.refl w g none | exact HK3.out | apply KeepBut.set_ | apply keep_alloc | apply keep_drewN | apply keep_drew))⟩

set_option maxHeartbeats 2000000 in
set_option maxRecDepth 100000 in
theorem piece_odd (g : Nat) (s : ByteArray) (i : Int) (m : Bool) (o : Value) (why at_ a1 : Int) (c : Int) (ok : Bool) (w0 w : World) (hI : IsS71 w0 w g s i m o why at_) (hB : Below w0.heap.size w0 w)
    (h0 : 0 ≤ i) (h1 : i < s.size) (hs : s.size ≤ 2305843009213693952) (hb : bt s i = 92) (ha : a1 ≠ 256) (hc : labels_reader_here.f s (i + 1) m o why at_ = some (c, ok, s, i + 1, m, o, why, at_)) (hc1 : c ≠ 110) (hc2 : c ≠ 34) (hc3 : c ≠ 92) :
    Calls Tryd.prog 107 #[.pointer (some ⟨g, 0, none⟩), .int .i64 a1] w fun e w' => e = .returned (.string ⟨#[]⟩) ∧ IsS71 w0 w' g s (i + 1) m o (failP why at_ 120 (i + 1)).1 (failP why at_ 120 (i + 1)).2 ∧ Below w0.heap.size w0 w' ∧ KeepBut w w' g none := by
  have HI := Lib.hid hI; have HB := Lib.hid hB; have hge := Lib.hid hI.2; have k0 := cellS71_0 hI.1; have k1 := cellS71_1 hI.1; have z1 := blk_frozen hI.1 1; have hx := bt_at s i; have p := eq_true h0; have q := eq_true h1; have HF := Lib.hid (fail_f s (i + 1) m o why at_ 120 (i + 1)); obtain ⟨f1, e1⟩ : ∃ f1, (failP why at_ 120 (i + 1)).1 = f1 := ⟨_, rfl⟩; obtain ⟨f2, e2⟩ : ∃ f2, (failP why at_ 120 (i + 1)).2 = f2 := ⟨_, rfl⟩; rw [e1, e2] at HF; rw [e1, e2]; clear e1 e2; have HH := Lib.hid hc; have hb9 : (bt s i == 92) = true := beq_iff_eq.mpr hb; have ha9 : (a1 == 256) = false := beq_eq_false_iff_ne.mpr ha; have hw1 : IntKind.i64.wrap (i + 1) = i + 1 := IntWalk.i64_in _ (by omega); have hd1 : (c == 110) = false := beq_eq_false_iff_ne.mpr hc1; have hd2 : (c == 34) = false := beq_eq_false_iff_ne.mpr hc2; have hd3 : (c == 92) = false := beq_eq_false_iff_ne.mpr hc3; clear hb ha hc hI hB h0 h1 hs hc1 hc2 hc3; go_enter Tryd.func107, Tryd.ntmps107; go_wp2; go_quiet (fail)
  go_wp2_with (first | (go_at_call 80; (with_reducible refine (labels_reader_here.calls g s (i + 1) m o why at_ c ok s (i + 1) m o why at_ w0 _ ?side1 ?side2 HH.out).mono ?_); (case side1 => repeat (first | exact HI.out | apply IsS71.alloc | apply IsS71.drewN | apply IsS71.drew | apply IsS71.set_1)); (case side2 => repeat (first | exact HB.out | apply below_alloc | apply pw_below_drewN | apply below_drew1 | refine below_set ?_ hge.out)); rintro e w3 ⟨rfl, hi3, hb3, hk3⟩; have HI3 := Lib.hid hi3; have HB3 := Lib.hid hb3; have HK3 := Lib.hid (KeepBut.trans (by repeat (first | exact KeepBut.refl w g none | apply KeepBut.set_ | apply keep_alloc | apply keep_drewN | apply keep_drew)) hk3 (.inl rfl)); have k03 := cellS71_0 hi3.1; have k13 := cellS71_1 hi3.1; have z13 := blk_frozen hi3.1 1; clear hi3 hb3 hk3) | (go_at_call 82; (with_reducible refine (labels_reader_fail.calls g s (i + 1) m o why at_ 120 (i + 1) s (i + 1) m o f1 f2 w0 _ ?side1 ?side2 HF.out).mono ?_); (case side1 => repeat (first | exact HI3.out | apply IsS71.alloc | apply IsS71.drewN | apply IsS71.drew | apply IsS71.set_1)); (case side2 => repeat (first | exact HB3.out | apply below_alloc | apply pw_below_drewN | apply below_drew1 | refine below_set ?_ hge.out)); rintro e w4 ⟨rfl, hi3, hb3, hk3⟩; have HI4 := Lib.hid hi3; have HB4 := Lib.hid hb3; have HK4 := Lib.hid (KeepBut.trans (by repeat (first | exact KeepBut.refl w g none | exact HK3.out | apply KeepBut.set_ | apply keep_alloc | apply keep_drewN | apply keep_drew)) hk3 (.inl rfl)); have k04 := cellS71_0 hi3.1; have k14 := cellS71_1 hi3.1; have z14 := blk_frozen hi3.1 1; clear hi3 hb3 hk3))
  go_ret
  exact ⟨rfl, by repeat (first | exact HI4.out | apply IsS71.alloc | apply IsS71.drewN | apply IsS71.drew | apply IsS71.set_1), by repeat (first | exact HB4.out | apply below_alloc | apply pw_below_drewN | apply below_drew1 | refine below_set ?_ hge.out), (by repeat (first | exact KeepBut.refl w g none | exact HK4.out | apply KeepBut.set_ | apply keep_alloc | apply keep_drewN | apply keep_drew))⟩

set_option maxHeartbeats 2000000 in
set_option maxRecDepth 100000 in
theorem piece_c4b (g : Nat) (s : ByteArray) (i : Int) (m : Bool) (o : Value) (why at_ a1 : Int) (c n : Nat) (w0 w : World) (hI : IsS71 w0 w g s i m o why at_) (hB : Below w0.heap.size w0 w)
    (h0 : 0 ≤ i) (h1 : i < s.size) (hs : s.size ≤ 2305843009213693952) (hG : G w0) (hb : bt s i ≠ 92) (ha0 : 0 ≤ a1) (ha1 : a1 ≤ 2305843009213693952) (hd : Utf8.decode s i.toNat = (c, n)) (hn : i.toNat + n ≤ s.size) (ha : a1 ≠ 256) (hc : c ≠ 65533) (hm : a1 + n ≤ 256) :
    Calls Tryd.prog 107 #[.pointer (some ⟨g, 0, none⟩), .int .i64 a1] w fun e w' => e = .returned (.string (s.extract i.toNat (i.toNat + n))) ∧ IsS71 w0 w' g s (i + n) m o why at_ ∧ Below w0.heap.size w0 w' ∧ KeepBut w w' g none := by
  have HI := Lib.hid hI; have HB := Lib.hid hB; have hge := Lib.hid hI.2; have k0 := cellS71_0 hI.1; have k1 := cellS71_1 hI.1; have z1 := blk_frozen hI.1 1; have hx := bt_at s i; have p := eq_true h0; have q := eq_true h1; have HD := Lib.hid hd; have hlt : i.toNat < s.size := by omega
  have HL := Lib.hid hlt; have HG := Lib.hid (G.below hG hB); have hb9 : (bt s i == 92) = false := beq_eq_false_iff_ne.mpr hb; have hz2 : i ≤ (s.size : Int) := by omega
  have hnn : (n : Int) ≤ 2305843009213693952 := by omega
  have hw1 : IntKind.i64.wrap (i + n) = i + n := IntWalk.i64_in _ (by omega); have hw2 : IntKind.i64.wrap (i + n - n) = i := by rw [show i + n - n = i by omega]; exact IntWalk.i64_in _ (by omega)
  have hw0 : IntKind.i64.wrap i = i := IntWalk.i64_in _ (by omega); have hw3 : IntKind.i64.wrap (a1 + n) = a1 + n := IntWalk.i64_in _ (by omega); have hy1 : i ≤ i + (n : Int) := by omega
  have hy2 : i + (n : Int) ≤ (s.size : Int) := by omega
  have hy3 : (i + (n : Int)).toNat = i.toNat + n := by omega
  have h00 := h0; have ha9 : (a1 == 256) = false := beq_eq_false_iff_ne.mpr ha; have hc9 : ((c : Int) == 65533) = false := beq_eq_false_iff_ne.mpr (by omega); have hm9 : decide (256 < a1 + (n : Int)) = false := decide_eq_false (by omega); clear ha hc hm; obtain ⟨wx, hwx⟩ : ∃ wx : World, wx = w := ⟨_, rfl⟩; clear hnn; clear hd hn hb hlt hG hwx hI hB h1 hs ha0 ha1; go_enter Tryd.func107, Tryd.ntmps107; go_wp2; go_quiet (fail)
  go_wp2_with fail
  go_region_held3 (fun w' => w'.cell? ⟨g, 0, none⟩ = some (.string s) ∧ w'.cell? ⟨g, 1, none⟩ = some (.int .i64 i) ∧ Hid (Below w.heap.size w w')) (first | (exact ⟨k0, k1, Lib.hid (by repeat (first | exact Below.refl _ _ | apply pw_below_drewN | apply below_drew1))⟩) | (go_split_ands; exact ⟨cell_below0 (by assumption) hb3, cell_below0 (by assumption) hb3, Lib.hid (below_step (Hid.out (by assumption)) hb3)⟩)) (first | (go_at_call 88; (with_reducible refine (decode_tail s i.toNat HL.out c n HD.out _ ?hg).mono ?_); (case hg => exact HG.out); rintro e w' ⟨rfl, hb3⟩))
  have hS : Hid (Below w.heap.size w w') := by
    have h_ := ‹_ ∧ _ ∧ Hid (Below w.heap.size w w')›; exact h_.2.2
  have HI3 := Lib.hid (IsS71.below HI.out hS.out); have HB3 := Lib.hid (Below.trans HB.out (hS.out.mono HB.out.size)); have HK3 := Lib.hid (KeepBut.trans (KeepBut.refl w g none) (KeepBut.of_below hS.out g none) (.inl rfl)); have k03 := cellS71_0 HI3.out.1; have k13 := cellS71_1 HI3.out.1; have z13 := blk_frozen HI3.out.1 1; go_wp2; go_quiet (fail)
  go_wp2; go_ret
  exact ⟨rfl, by repeat (first | exact HI3.out | apply IsS71.alloc | apply IsS71.drewN | apply IsS71.drew | apply IsS71.set_1), by repeat (first | exact HB3.out | apply below_alloc | apply pw_below_drewN | apply below_drew1 | refine below_set ?_ hge.out), (by repeat (first | exact KeepBut.refl w g none | exact HK3.out | apply KeepBut.set_ | apply keep_alloc | apply keep_drewN | apply keep_drew))⟩

set_option maxHeartbeats 2000000 in
set_option maxRecDepth 100000 in
theorem piece_c4a (g : Nat) (s : ByteArray) (i : Int) (m : Bool) (o : Value) (why at_ a1 : Int) (c n : Nat) (w0 w : World) (hI : IsS71 w0 w g s i m o why at_) (hB : Below w0.heap.size w0 w)
    (h0 : 0 ≤ i) (h1 : i < s.size) (hs : s.size ≤ 2305843009213693952) (hG : G w0) (hb : bt s i ≠ 92) (ha0 : 0 ≤ a1) (ha1 : a1 ≤ 2305843009213693952) (hd : Utf8.decode s i.toNat = (c, n)) (hn : i.toNat + n ≤ s.size) (ha : a1 ≠ 256) (hc : c = 65533) (hn1 : n ≠ 1) (hm : a1 + n ≤ 256) :
    Calls Tryd.prog 107 #[.pointer (some ⟨g, 0, none⟩), .int .i64 a1] w fun e w' => e = .returned (.string (s.extract i.toNat (i.toNat + n))) ∧ IsS71 w0 w' g s (i + n) m o why at_ ∧ Below w0.heap.size w0 w' ∧ KeepBut w w' g none := by
  have HI := Lib.hid hI; have HB := Lib.hid hB; have hge := Lib.hid hI.2; have k0 := cellS71_0 hI.1; have k1 := cellS71_1 hI.1; have z1 := blk_frozen hI.1 1; have hx := bt_at s i; have p := eq_true h0; have q := eq_true h1; have HD := Lib.hid hd; have hlt : i.toNat < s.size := by omega
  have HL := Lib.hid hlt; have HG := Lib.hid (G.below hG hB); have hb9 : (bt s i == 92) = false := beq_eq_false_iff_ne.mpr hb; have hz2 : i ≤ (s.size : Int) := by omega
  have hnn : (n : Int) ≤ 2305843009213693952 := by omega
  have hw1 : IntKind.i64.wrap (i + n) = i + n := IntWalk.i64_in _ (by omega); have hw2 : IntKind.i64.wrap (i + n - n) = i := by rw [show i + n - n = i by omega]; exact IntWalk.i64_in _ (by omega)
  have hw0 : IntKind.i64.wrap i = i := IntWalk.i64_in _ (by omega); have hw3 : IntKind.i64.wrap (a1 + n) = a1 + n := IntWalk.i64_in _ (by omega); have hy1 : i ≤ i + (n : Int) := by omega
  have hy2 : i + (n : Int) ≤ (s.size : Int) := by omega
  have hy3 : (i + (n : Int)).toNat = i.toNat + n := by omega
  have h00 := h0; have ha9 : (a1 == 256) = false := beq_eq_false_iff_ne.mpr ha; subst hc; have hc9 : ((n : Int) == 1) = false := beq_eq_false_iff_ne.mpr (by omega); have hm9 : decide (256 < a1 + (n : Int)) = false := decide_eq_false (by omega); clear ha hn1 hm; obtain ⟨wx, hwx⟩ : ∃ wx : World, wx = w := ⟨_, rfl⟩; clear hnn; clear hd hn hb hlt hG hwx hI hB h1 hs ha0 ha1; go_enter Tryd.func107, Tryd.ntmps107; go_wp2; go_quiet (fail)
  go_wp2_with fail
  go_region_held3 (fun w' => w'.cell? ⟨g, 0, none⟩ = some (.string s) ∧ w'.cell? ⟨g, 1, none⟩ = some (.int .i64 i) ∧ Hid (Below w.heap.size w w')) (first | (exact ⟨k0, k1, Lib.hid (by repeat (first | exact Below.refl _ _ | apply pw_below_drewN | apply below_drew1))⟩) | (go_split_ands; exact ⟨cell_below0 (by assumption) hb3, cell_below0 (by assumption) hb3, Lib.hid (below_step (Hid.out (by assumption)) hb3)⟩)) (first | (go_at_call 88; (with_reducible refine (decode_tail s i.toNat HL.out 65533 n HD.out _ ?hg).mono ?_); (case hg => exact HG.out); rintro e w' ⟨rfl, hb3⟩))
  have hS : Hid (Below w.heap.size w w') := by
    have h_ := ‹_ ∧ _ ∧ Hid (Below w.heap.size w w')›; exact h_.2.2
  have HI3 := Lib.hid (IsS71.below HI.out hS.out); have HB3 := Lib.hid (Below.trans HB.out (hS.out.mono HB.out.size)); have HK3 := Lib.hid (KeepBut.trans (KeepBut.refl w g none) (KeepBut.of_below hS.out g none) (.inl rfl)); have k03 := cellS71_0 HI3.out.1; have k13 := cellS71_1 HI3.out.1; have z13 := blk_frozen HI3.out.1 1; go_wp2; go_quiet (fail)
  go_wp2; go_ret
  exact ⟨rfl, by repeat (first | exact HI3.out | apply IsS71.alloc | apply IsS71.drewN | apply IsS71.drew | apply IsS71.set_1), by repeat (first | exact HB3.out | apply below_alloc | apply pw_below_drewN | apply below_drew1 | refine below_set ?_ hge.out), (by repeat (first | exact KeepBut.refl w g none | exact HK3.out | apply KeepBut.set_ | apply keep_alloc | apply keep_drewN | apply keep_drew))⟩

set_option maxHeartbeats 2000000 in
set_option maxRecDepth 100000 in
theorem piece_c3b (g : Nat) (s : ByteArray) (i : Int) (m : Bool) (o : Value) (why at_ a1 : Int) (c n : Nat) (w0 w : World) (hI : IsS71 w0 w g s i m o why at_) (hB : Below w0.heap.size w0 w)
    (h0 : 0 ≤ i) (h1 : i < s.size) (hs : s.size ≤ 2305843009213693952) (hG : G w0) (hb : bt s i ≠ 92) (ha0 : 0 ≤ a1) (ha1 : a1 ≤ 2305843009213693952) (hd : Utf8.decode s i.toNat = (c, n)) (hn : i.toNat + n ≤ s.size) (ha : a1 ≠ 256) (hc : c ≠ 65533) (hm : 256 < a1 + n) :
    Calls Tryd.prog 107 #[.pointer (some ⟨g, 0, none⟩), .int .i64 a1] w fun e w' => e = .returned (.string (s.extract i.toNat (i.toNat + n))) ∧ IsS71 w0 w' g s (i + n) m o (failP why at_ 120 (i + 256 - a1)).1 (failP why at_ 120 (i + 256 - a1)).2 ∧ Below w0.heap.size w0 w' ∧ KeepBut w w' g none := by
  have HI := Lib.hid hI; have HB := Lib.hid hB; have hge := Lib.hid hI.2; have k0 := cellS71_0 hI.1; have k1 := cellS71_1 hI.1; have z1 := blk_frozen hI.1 1; have hx := bt_at s i; have p := eq_true h0; have q := eq_true h1; have HD := Lib.hid hd; have hlt : i.toNat < s.size := by omega
  have HL := Lib.hid hlt; have HG := Lib.hid (G.below hG hB); have hb9 : (bt s i == 92) = false := beq_eq_false_iff_ne.mpr hb; have hz2 : i ≤ (s.size : Int) := by omega
  have hnn : (n : Int) ≤ 2305843009213693952 := by omega
  have hw1 : IntKind.i64.wrap (i + n) = i + n := IntWalk.i64_in _ (by omega); have hw2 : IntKind.i64.wrap (i + n - n) = i := by rw [show i + n - n = i by omega]; exact IntWalk.i64_in _ (by omega)
  have hw0 : IntKind.i64.wrap i = i := IntWalk.i64_in _ (by omega); have hw3 : IntKind.i64.wrap (a1 + n) = a1 + n := IntWalk.i64_in _ (by omega); have hy1 : i ≤ i + (n : Int) := by omega
  have hy2 : i + (n : Int) ≤ (s.size : Int) := by omega
  have hy3 : (i + (n : Int)).toNat = i.toNat + n := by omega
  have h00 := h0; have ha9 : (a1 == 256) = false := beq_eq_false_iff_ne.mpr ha; have hc9 : ((c : Int) == 65533) = false := beq_eq_false_iff_ne.mpr (by omega); have hm9 : decide (256 < a1 + (n : Int)) = true := decide_eq_true (by omega); have hw4 : IntKind.i64.wrap (i + 256) = i + 256 := IntWalk.i64_in _ (by omega); have hw5 : IntKind.i64.wrap (i + 256 - a1) = i + 256 - a1 := IntWalk.i64_in _ (by omega); clear ha hc hm; have HF := Lib.hid (fail_f s i m o why at_ 120 (i + 256 - a1)); obtain ⟨f1, e1⟩ : ∃ f1, (failP why at_ 120 (i + 256 - a1)).1 = f1 := ⟨_, rfl⟩; obtain ⟨f2, e2⟩ : ∃ f2, (failP why at_ 120 (i + 256 - a1)).2 = f2 := ⟨_, rfl⟩; rw [e1, e2] at HF; rw [e1, e2]; clear e1 e2; obtain ⟨wx, hwx⟩ : ∃ wx : World, wx = w := ⟨_, rfl⟩; clear hnn; clear hd hn hb hlt hG hwx hI hB h1 hs ha0 ha1; go_enter Tryd.func107, Tryd.ntmps107; go_wp2; go_quiet (fail)
  go_wp2_with fail
  go_region_held3 (fun w' => w'.cell? ⟨g, 0, none⟩ = some (.string s) ∧ w'.cell? ⟨g, 1, none⟩ = some (.int .i64 i) ∧ Hid (Below w.heap.size w w')) (first | (exact ⟨k0, k1, Lib.hid (by repeat (first | exact Below.refl _ _ | apply pw_below_drewN | apply below_drew1))⟩) | (go_split_ands; exact ⟨cell_below0 (by assumption) hb3, cell_below0 (by assumption) hb3, Lib.hid (below_step (Hid.out (by assumption)) hb3)⟩)) (first | (go_at_call 88; (with_reducible refine (decode_tail s i.toNat HL.out c n HD.out _ ?hg).mono ?_); (case hg => exact HG.out); rintro e w' ⟨rfl, hb3⟩))
  have hS : Hid (Below w.heap.size w w') := by
    have h_ := ‹_ ∧ _ ∧ Hid (Below w.heap.size w w')›; exact h_.2.2
  have HI3 := Lib.hid (IsS71.below HI.out hS.out); have HB3 := Lib.hid (Below.trans HB.out (hS.out.mono HB.out.size)); have HK3 := Lib.hid (KeepBut.trans (KeepBut.refl w g none) (KeepBut.of_below hS.out g none) (.inl rfl)); have k03 := cellS71_0 HI3.out.1; have k13 := cellS71_1 HI3.out.1; have z13 := blk_frozen HI3.out.1 1; go_wp2_with (first | (go_at_call 82; (with_reducible refine (labels_reader_fail.calls g s (i) m o why at_ 120 (i + 256 - a1) s (i) m o f1 f2 w0 _ ?side1 ?side2 HF.out).mono ?_); (case side1 => repeat (first | exact HI3.out | apply IsS71.alloc | apply IsS71.drewN | apply IsS71.drew | apply IsS71.set_1)); (case side2 => repeat (first | exact HB3.out | apply below_alloc | apply pw_below_drewN | apply below_drew1 | refine below_set ?_ hge.out)); rintro e w4 ⟨rfl, hi3, hb3, hk3⟩; have HI4 := Lib.hid hi3; have HB4 := Lib.hid hb3; have HK4 := Lib.hid (KeepBut.trans (by repeat (first | exact KeepBut.refl w g none | exact HK3.out | apply KeepBut.set_ | apply keep_alloc | apply keep_drewN | apply keep_drew)) hk3 (.inl rfl)); have k04 := cellS71_0 hi3.1; have k14 := cellS71_1 hi3.1; have z14 := blk_frozen hi3.1 1; clear hi3 hb3 hk3))
  go_quiet (fail)
  go_wp2; go_ret
  exact ⟨rfl, by repeat (first | exact HI4.out | apply IsS71.alloc | apply IsS71.drewN | apply IsS71.drew | apply IsS71.set_1), by repeat (first | exact HB4.out | apply below_alloc | apply pw_below_drewN | apply below_drew1 | refine below_set ?_ hge.out), (by repeat (first | exact KeepBut.refl w g none | exact HK4.out | apply KeepBut.set_ | apply keep_alloc | apply keep_drewN | apply keep_drew))⟩

set_option maxHeartbeats 2000000 in
set_option maxRecDepth 100000 in
theorem piece_c3a (g : Nat) (s : ByteArray) (i : Int) (m : Bool) (o : Value) (why at_ a1 : Int) (c n : Nat) (w0 w : World) (hI : IsS71 w0 w g s i m o why at_) (hB : Below w0.heap.size w0 w)
    (h0 : 0 ≤ i) (h1 : i < s.size) (hs : s.size ≤ 2305843009213693952) (hG : G w0) (hb : bt s i ≠ 92) (ha0 : 0 ≤ a1) (ha1 : a1 ≤ 2305843009213693952) (hd : Utf8.decode s i.toNat = (c, n)) (hn : i.toNat + n ≤ s.size) (ha : a1 ≠ 256) (hc : c = 65533) (hn1 : n ≠ 1) (hm : 256 < a1 + n) :
    Calls Tryd.prog 107 #[.pointer (some ⟨g, 0, none⟩), .int .i64 a1] w fun e w' => e = .returned (.string (s.extract i.toNat (i.toNat + n))) ∧ IsS71 w0 w' g s (i + n) m o (failP why at_ 120 (i + 256 - a1)).1 (failP why at_ 120 (i + 256 - a1)).2 ∧ Below w0.heap.size w0 w' ∧ KeepBut w w' g none := by
  have HI := Lib.hid hI; have HB := Lib.hid hB; have hge := Lib.hid hI.2; have k0 := cellS71_0 hI.1; have k1 := cellS71_1 hI.1; have z1 := blk_frozen hI.1 1; have hx := bt_at s i; have p := eq_true h0; have q := eq_true h1; have HD := Lib.hid hd; have hlt : i.toNat < s.size := by omega
  have HL := Lib.hid hlt; have HG := Lib.hid (G.below hG hB); have hb9 : (bt s i == 92) = false := beq_eq_false_iff_ne.mpr hb; have hz2 : i ≤ (s.size : Int) := by omega
  have hnn : (n : Int) ≤ 2305843009213693952 := by omega
  have hw1 : IntKind.i64.wrap (i + n) = i + n := IntWalk.i64_in _ (by omega); have hw2 : IntKind.i64.wrap (i + n - n) = i := by rw [show i + n - n = i by omega]; exact IntWalk.i64_in _ (by omega)
  have hw0 : IntKind.i64.wrap i = i := IntWalk.i64_in _ (by omega); have hw3 : IntKind.i64.wrap (a1 + n) = a1 + n := IntWalk.i64_in _ (by omega); have hy1 : i ≤ i + (n : Int) := by omega
  have hy2 : i + (n : Int) ≤ (s.size : Int) := by omega
  have hy3 : (i + (n : Int)).toNat = i.toNat + n := by omega
  have h00 := h0; have ha9 : (a1 == 256) = false := beq_eq_false_iff_ne.mpr ha; subst hc; have hc9 : ((n : Int) == 1) = false := beq_eq_false_iff_ne.mpr (by omega); have hm9 : decide (256 < a1 + (n : Int)) = true := decide_eq_true (by omega); have hw4 : IntKind.i64.wrap (i + 256) = i + 256 := IntWalk.i64_in _ (by omega); have hw5 : IntKind.i64.wrap (i + 256 - a1) = i + 256 - a1 := IntWalk.i64_in _ (by omega); clear ha hn1 hm; have HF := Lib.hid (fail_f s i m o why at_ 120 (i + 256 - a1)); obtain ⟨f1, e1⟩ : ∃ f1, (failP why at_ 120 (i + 256 - a1)).1 = f1 := ⟨_, rfl⟩; obtain ⟨f2, e2⟩ : ∃ f2, (failP why at_ 120 (i + 256 - a1)).2 = f2 := ⟨_, rfl⟩; rw [e1, e2] at HF; rw [e1, e2]; clear e1 e2; obtain ⟨wx, hwx⟩ : ∃ wx : World, wx = w := ⟨_, rfl⟩; clear hnn; clear hd hn hb hlt hG hwx hI hB h1 hs ha0 ha1; go_enter Tryd.func107, Tryd.ntmps107; go_wp2; go_quiet (fail)
  go_wp2_with fail
  go_region_held3 (fun w' => w'.cell? ⟨g, 0, none⟩ = some (.string s) ∧ w'.cell? ⟨g, 1, none⟩ = some (.int .i64 i) ∧ Hid (Below w.heap.size w w')) (first | (exact ⟨k0, k1, Lib.hid (by repeat (first | exact Below.refl _ _ | apply pw_below_drewN | apply below_drew1))⟩) | (go_split_ands; exact ⟨cell_below0 (by assumption) hb3, cell_below0 (by assumption) hb3, Lib.hid (below_step (Hid.out (by assumption)) hb3)⟩)) (first | (go_at_call 88; (with_reducible refine (decode_tail s i.toNat HL.out 65533 n HD.out _ ?hg).mono ?_); (case hg => exact HG.out); rintro e w' ⟨rfl, hb3⟩))
  have hS : Hid (Below w.heap.size w w') := by
    have h_ := ‹_ ∧ _ ∧ Hid (Below w.heap.size w w')›; exact h_.2.2
  have HI3 := Lib.hid (IsS71.below HI.out hS.out); have HB3 := Lib.hid (Below.trans HB.out (hS.out.mono HB.out.size)); have HK3 := Lib.hid (KeepBut.trans (KeepBut.refl w g none) (KeepBut.of_below hS.out g none) (.inl rfl)); have k03 := cellS71_0 HI3.out.1; have k13 := cellS71_1 HI3.out.1; have z13 := blk_frozen HI3.out.1 1; go_wp2_with (first | (go_at_call 82; (with_reducible refine (labels_reader_fail.calls g s (i) m o why at_ 120 (i + 256 - a1) s (i) m o f1 f2 w0 _ ?side1 ?side2 HF.out).mono ?_); (case side1 => repeat (first | exact HI3.out | apply IsS71.alloc | apply IsS71.drewN | apply IsS71.drew | apply IsS71.set_1)); (case side2 => repeat (first | exact HB3.out | apply below_alloc | apply pw_below_drewN | apply below_drew1 | refine below_set ?_ hge.out)); rintro e w4 ⟨rfl, hi3, hb3, hk3⟩; have HI4 := Lib.hid hi3; have HB4 := Lib.hid hb3; have HK4 := Lib.hid (KeepBut.trans (by repeat (first | exact KeepBut.refl w g none | exact HK3.out | apply KeepBut.set_ | apply keep_alloc | apply keep_drewN | apply keep_drew)) hk3 (.inl rfl)); have k04 := cellS71_0 hi3.1; have k14 := cellS71_1 hi3.1; have z14 := blk_frozen hi3.1 1; clear hi3 hb3 hk3))
  go_quiet (fail)
  go_wp2; go_ret
  exact ⟨rfl, by repeat (first | exact HI4.out | apply IsS71.alloc | apply IsS71.drewN | apply IsS71.drew | apply IsS71.set_1), by repeat (first | exact HB4.out | apply below_alloc | apply pw_below_drewN | apply below_drew1 | refine below_set ?_ hge.out), (by repeat (first | exact KeepBut.refl w g none | exact HK4.out | apply KeepBut.set_ | apply keep_alloc | apply keep_drewN | apply keep_drew))⟩

set_option maxHeartbeats 2000000 in
set_option maxRecDepth 100000 in
theorem piece_c2 (g : Nat) (s : ByteArray) (i : Int) (m : Bool) (o : Value) (why at_ a1 : Int) (c n : Nat) (w0 w : World) (hI : IsS71 w0 w g s i m o why at_) (hB : Below w0.heap.size w0 w)
    (h0 : 0 ≤ i) (h1 : i < s.size) (hs : s.size ≤ 2305843009213693952) (hG : G w0) (hb : bt s i ≠ 92) (ha0 : 0 ≤ a1) (ha1 : a1 ≤ 2305843009213693952) (hd : Utf8.decode s i.toNat = (c, n)) (hn : i.toNat + n ≤ s.size) (ha : a1 ≠ 256) (hc : c = 65533) (hn1 : n = 1) :
    Calls Tryd.prog 107 #[.pointer (some ⟨g, 0, none⟩), .int .i64 a1] w fun e w' => e = .returned (.string (s.extract i.toNat (i.toNat + n))) ∧ IsS71 w0 w' g s (i + n) m o (failP why at_ 120 (i)).1 (failP why at_ 120 (i)).2 ∧ Below w0.heap.size w0 w' ∧ KeepBut w w' g none := by
  have HI := Lib.hid hI; have HB := Lib.hid hB; have hge := Lib.hid hI.2; have k0 := cellS71_0 hI.1; have k1 := cellS71_1 hI.1; have z1 := blk_frozen hI.1 1; have hx := bt_at s i; have p := eq_true h0; have q := eq_true h1; have HD := Lib.hid hd; have hlt : i.toNat < s.size := by omega
  have HL := Lib.hid hlt; have HG := Lib.hid (G.below hG hB); have hb9 : (bt s i == 92) = false := beq_eq_false_iff_ne.mpr hb; have hz2 : i ≤ (s.size : Int) := by omega
  have hnn : (n : Int) ≤ 2305843009213693952 := by omega
  have hw1 : IntKind.i64.wrap (i + n) = i + n := IntWalk.i64_in _ (by omega); have hw2 : IntKind.i64.wrap (i + n - n) = i := by rw [show i + n - n = i by omega]; exact IntWalk.i64_in _ (by omega)
  have hw0 : IntKind.i64.wrap i = i := IntWalk.i64_in _ (by omega); have hw3 : IntKind.i64.wrap (a1 + n) = a1 + n := IntWalk.i64_in _ (by omega); have hy1 : i ≤ i + (n : Int) := by omega
  have hy2 : i + (n : Int) ≤ (s.size : Int) := by omega
  have hy3 : (i + (n : Int)).toNat = i.toNat + n := by omega
  have h00 := h0; have ha9 : (a1 == 256) = false := beq_eq_false_iff_ne.mpr ha; subst hc; have hc9 : ((n : Int) == 1) = true := beq_iff_eq.mpr (by omega); clear ha hn1; have HF := Lib.hid (fail_f s i m o why at_ 120 (i)); obtain ⟨f1, e1⟩ : ∃ f1, (failP why at_ 120 (i)).1 = f1 := ⟨_, rfl⟩; obtain ⟨f2, e2⟩ : ∃ f2, (failP why at_ 120 (i)).2 = f2 := ⟨_, rfl⟩; rw [e1, e2] at HF; rw [e1, e2]; clear e1 e2; obtain ⟨wx, hwx⟩ : ∃ wx : World, wx = w := ⟨_, rfl⟩; clear hnn; clear hd hn hb hlt hG hwx hI hB h1 hs ha0 ha1; go_enter Tryd.func107, Tryd.ntmps107; go_wp2; go_quiet (fail)
  go_wp2_with fail
  go_region_held3 (fun w' => w'.cell? ⟨g, 0, none⟩ = some (.string s) ∧ w'.cell? ⟨g, 1, none⟩ = some (.int .i64 i) ∧ Hid (Below w.heap.size w w')) (first | (exact ⟨k0, k1, Lib.hid (by repeat (first | exact Below.refl _ _ | apply pw_below_drewN | apply below_drew1))⟩) | (go_split_ands; exact ⟨cell_below0 (by assumption) hb3, cell_below0 (by assumption) hb3, Lib.hid (below_step (Hid.out (by assumption)) hb3)⟩)) (first | (go_at_call 88; (with_reducible refine (decode_tail s i.toNat HL.out 65533 n HD.out _ ?hg).mono ?_); (case hg => exact HG.out); rintro e w' ⟨rfl, hb3⟩))
  have hS : Hid (Below w.heap.size w w') := by
    have h_ := ‹_ ∧ _ ∧ Hid (Below w.heap.size w w')›; exact h_.2.2
  have HI3 := Lib.hid (IsS71.below HI.out hS.out); have HB3 := Lib.hid (Below.trans HB.out (hS.out.mono HB.out.size)); have HK3 := Lib.hid (KeepBut.trans (KeepBut.refl w g none) (KeepBut.of_below hS.out g none) (.inl rfl)); have k03 := cellS71_0 HI3.out.1; have k13 := cellS71_1 HI3.out.1; have z13 := blk_frozen HI3.out.1 1; go_wp2_with (first | (go_at_call 82; (with_reducible refine (labels_reader_fail.calls g s (i) m o why at_ 120 (i) s (i) m o f1 f2 w0 _ ?side1 ?side2 HF.out).mono ?_); (case side1 => repeat (first | exact HI3.out | apply IsS71.alloc | apply IsS71.drewN | apply IsS71.drew | apply IsS71.set_1)); (case side2 => repeat (first | exact HB3.out | apply below_alloc | apply pw_below_drewN | apply below_drew1 | refine below_set ?_ hge.out)); rintro e w4 ⟨rfl, hi3, hb3, hk3⟩; have HI4 := Lib.hid hi3; have HB4 := Lib.hid hb3; have HK4 := Lib.hid (KeepBut.trans (by repeat (first | exact KeepBut.refl w g none | exact HK3.out | apply KeepBut.set_ | apply keep_alloc | apply keep_drewN | apply keep_drew)) hk3 (.inl rfl)); have k04 := cellS71_0 hi3.1; have k14 := cellS71_1 hi3.1; have z14 := blk_frozen hi3.1 1; clear hi3 hb3 hk3))
  go_quiet (fail)
  go_wp2; go_ret
  exact ⟨rfl, by repeat (first | exact HI4.out | apply IsS71.alloc | apply IsS71.drewN | apply IsS71.drew | apply IsS71.set_1), by repeat (first | exact HB4.out | apply below_alloc | apply pw_below_drewN | apply below_drew1 | refine below_set ?_ hge.out), (by repeat (first | exact KeepBut.refl w g none | exact HK4.out | apply KeepBut.set_ | apply keep_alloc | apply keep_drewN | apply keep_drew))⟩

set_option maxHeartbeats 2000000 in
set_option maxRecDepth 100000 in
theorem piece_c1 (g : Nat) (s : ByteArray) (i : Int) (m : Bool) (o : Value) (why at_ a1 : Int) (c n : Nat) (w0 w : World) (hI : IsS71 w0 w g s i m o why at_) (hB : Below w0.heap.size w0 w)
    (h0 : 0 ≤ i) (h1 : i < s.size) (hs : s.size ≤ 2305843009213693952) (hG : G w0) (hb : bt s i ≠ 92) (ha0 : 0 ≤ a1) (ha1 : a1 ≤ 2305843009213693952) (hd : Utf8.decode s i.toNat = (c, n)) (hn : i.toNat + n ≤ s.size) (ha : a1 = 256) :
    Calls Tryd.prog 107 #[.pointer (some ⟨g, 0, none⟩), .int .i64 a1] w fun e w' => e = .returned (.string (s.extract i.toNat (i.toNat + n))) ∧ IsS71 w0 w' g s (i + n) m o (failP why at_ 120 (i)).1 (failP why at_ 120 (i)).2 ∧ Below w0.heap.size w0 w' ∧ KeepBut w w' g none := by
  have HI := Lib.hid hI; have HB := Lib.hid hB; have hge := Lib.hid hI.2; have k0 := cellS71_0 hI.1; have k1 := cellS71_1 hI.1; have z1 := blk_frozen hI.1 1; have hx := bt_at s i; have p := eq_true h0; have q := eq_true h1; have HD := Lib.hid hd; have hlt : i.toNat < s.size := by omega
  have HL := Lib.hid hlt; have HG := Lib.hid (G.below hG hB); have hb9 : (bt s i == 92) = false := beq_eq_false_iff_ne.mpr hb; have hz2 : i ≤ (s.size : Int) := by omega
  have hnn : (n : Int) ≤ 2305843009213693952 := by omega
  have hw1 : IntKind.i64.wrap (i + n) = i + n := IntWalk.i64_in _ (by omega); have hw2 : IntKind.i64.wrap (i + n - n) = i := by rw [show i + n - n = i by omega]; exact IntWalk.i64_in _ (by omega)
  have hw0 : IntKind.i64.wrap i = i := IntWalk.i64_in _ (by omega); have hw3 : IntKind.i64.wrap (a1 + n) = a1 + n := IntWalk.i64_in _ (by omega); have hy1 : i ≤ i + (n : Int) := by omega
  have hy2 : i + (n : Int) ≤ (s.size : Int) := by omega
  have hy3 : (i + (n : Int)).toNat = i.toNat + n := by omega
  have h00 := h0; subst ha; have HF := Lib.hid (fail_f s i m o why at_ 120 (i)); obtain ⟨f1, e1⟩ : ∃ f1, (failP why at_ 120 (i)).1 = f1 := ⟨_, rfl⟩; obtain ⟨f2, e2⟩ : ∃ f2, (failP why at_ 120 (i)).2 = f2 := ⟨_, rfl⟩; rw [e1, e2] at HF; rw [e1, e2]; clear e1 e2; obtain ⟨wx, hwx⟩ : ∃ wx : World, wx = w := ⟨_, rfl⟩; clear hnn; clear hd hn hb hlt hG hwx hI hB h1 hs ha0 ha1; go_enter Tryd.func107, Tryd.ntmps107; go_wp2; go_quiet (fail)
  go_wp2_with fail
  go_region_held3 (fun w' => w'.cell? ⟨g, 0, none⟩ = some (.string s) ∧ w'.cell? ⟨g, 1, none⟩ = some (.int .i64 i) ∧ Hid (Below w.heap.size w w')) (first | (exact ⟨k0, k1, Lib.hid (by repeat (first | exact Below.refl _ _ | apply pw_below_drewN | apply below_drew1))⟩) | (go_split_ands; exact ⟨cell_below0 (by assumption) hb3, cell_below0 (by assumption) hb3, Lib.hid (below_step (Hid.out (by assumption)) hb3)⟩)) (first | (go_at_call 88; (with_reducible refine (decode_tail s i.toNat HL.out c n HD.out _ ?hg).mono ?_); (case hg => exact HG.out); rintro e w' ⟨rfl, hb3⟩))
  have hS : Hid (Below w.heap.size w w') := by
    have h_ := ‹_ ∧ _ ∧ Hid (Below w.heap.size w w')›; exact h_.2.2
  have HI3 := Lib.hid (IsS71.below HI.out hS.out); have HB3 := Lib.hid (Below.trans HB.out (hS.out.mono HB.out.size)); have HK3 := Lib.hid (KeepBut.trans (KeepBut.refl w g none) (KeepBut.of_below hS.out g none) (.inl rfl)); have k03 := cellS71_0 HI3.out.1; have k13 := cellS71_1 HI3.out.1; have z13 := blk_frozen HI3.out.1 1; go_wp2_with (first | (go_at_call 82; (with_reducible refine (labels_reader_fail.calls g s (i) m o why at_ 120 (i) s (i) m o f1 f2 w0 _ ?side1 ?side2 HF.out).mono ?_); (case side1 => repeat (first | exact HI3.out | apply IsS71.alloc | apply IsS71.drewN | apply IsS71.drew | apply IsS71.set_1)); (case side2 => repeat (first | exact HB3.out | apply below_alloc | apply pw_below_drewN | apply below_drew1 | refine below_set ?_ hge.out)); rintro e w4 ⟨rfl, hi3, hb3, hk3⟩; have HI4 := Lib.hid hi3; have HB4 := Lib.hid hb3; have HK4 := Lib.hid (KeepBut.trans (by repeat (first | exact KeepBut.refl w g none | exact HK3.out | apply KeepBut.set_ | apply keep_alloc | apply keep_drewN | apply keep_drew)) hk3 (.inl rfl)); have k04 := cellS71_0 hi3.1; have k14 := cellS71_1 hi3.1; have z14 := blk_frozen hi3.1 1; clear hi3 hb3 hk3))
  go_quiet (fail)
  go_wp2; go_ret
  exact ⟨rfl, by repeat (first | exact HI4.out | apply IsS71.alloc | apply IsS71.drewN | apply IsS71.drew | apply IsS71.set_1), by repeat (first | exact HB4.out | apply below_alloc | apply pw_below_drewN | apply below_drew1 | refine below_set ?_ hge.out), (by repeat (first | exact KeepBut.refl w g none | exact HK4.out | apply KeepBut.set_ | apply keep_alloc | apply keep_drewN | apply keep_drew))⟩

theorem here_f (s : ByteArray) (j : Int) (m : Bool) (o : Value) (why at_ : Int) (h : 0 ≤ j) : labels_reader_here.f s j m o why at_ = some ((if j < s.size then bt s j else 0), decide (j < s.size), s, j, m, o, why, at_) := by
  unfold labels_reader_here.f; by_cases hj : j < (s.size : Int)
  · rw [if_pos hj, if_pos h, if_pos hj, decide_eq_true hj]
  · rw [if_neg hj, if_neg hj, decide_eq_false hj]
theorem width_fits (s : ByteArray) (pos : Nat) (h : pos < s.size) : pos + (Utf8.decode s pos).2 ≤ s.size := by
  have h1 := Lib.width_le (s.extract pos s.size) (by simp; omega); rw [Lib.tail_decode] at h1; simp at h1
  omega

set_option maxHeartbeats 1000000 in
theorem labels_reader_piece.calls (g : Nat) (s0_0 : ByteArray) (s0_1 : Int) (s0_2 : Bool) (s0_3 : Value) (s0_4 : Int) (s0_5 : Int) (a1 : Int) (r1 : ByteArray) (r2 : ByteArray) (r3 : Int) (r4 : Bool) (r5 : Value) (r6 : Int) (r7 : Int) (w0 w : World) (hI : IsS71 w0 w g s0_0 s0_1 s0_2 s0_3 s0_4 s0_5) (hB : Below w0.heap.size w0 w) (hG : G w0) (h : labels_reader_piece.f s0_0 s0_1 s0_2 s0_3 s0_4 s0_5 a1 = some (r1, r2, r3, r4, r5, r6, r7)) :
    Calls Tryd.prog 107 #[.pointer (some ⟨g, 0, none⟩), .int .i64 a1] w fun e w' => e = .returned (.string r1) ∧ IsS71 w0 w' g r2 r3 r4 r5 r6 r7 ∧ Below w0.heap.size w0 w' ∧ KeepBut w w' g none := by
  unfold labels_reader_piece.f at h; by_cases hc : 0 ≤ s0_1 ∧ s0_1 < s0_0.size ∧ s0_0.size ≤ 2305843009213693952 ∧ 0 ≤ a1 ∧ a1 ≤ 2305843009213693952
  case neg => rw [if_neg hc] at h; cases h
  rw [if_pos hc] at h; obtain ⟨h0, h1, hs, ha0, ha1⟩ := hc; by_cases hb : bt s0_0 s0_1 = 92
  · rw [if_pos hb] at h
    have hh := here_f s0_0 (s0_1 + 1) s0_2 s0_3 s0_4 s0_5 (by omega); rw [show (if s0_1 + 1 < (s0_0.size : Int) then bt s0_0 (s0_1 + 1) else 0) = behindP s0_0 s0_1 from rfl] at hh; have h := Option.some.inj h; unfold toldP at h; by_cases ha : a1 = 256
    · rw [if_pos ha] at h
      cases h; exact piece_full g s0_0 s0_1 s0_2 s0_3 s0_4 s0_5 a1 w0 w hI hB h0 h1 hs hb ha
    · rw [if_neg ha] at h
      by_cases c1 : behindP s0_0 s0_1 = 110
      · rw [if_pos c1] at h
        cases h; rw [c1] at hh; exact piece_told_n g s0_0 s0_1 s0_2 s0_3 s0_4 s0_5 a1 _ w0 w hI hB h0 h1 hs hb ha hh
      · rw [if_neg c1] at h
        by_cases c2 : behindP s0_0 s0_1 = 34
        · rw [if_pos c2] at h
          cases h; rw [c2] at hh; exact piece_told_q g s0_0 s0_1 s0_2 s0_3 s0_4 s0_5 a1 _ w0 w hI hB h0 h1 hs hb ha hh
        · rw [if_neg c2] at h
          by_cases c3 : behindP s0_0 s0_1 = 92
          · rw [if_pos c3] at h
            cases h; rw [c3] at hh; exact piece_told_b g s0_0 s0_1 s0_2 s0_3 s0_4 s0_5 a1 _ w0 w hI hB h0 h1 hs hb ha hh
          · rw [if_neg c3] at h
            cases h; exact piece_odd g s0_0 s0_1 s0_2 s0_3 s0_4 s0_5 a1 _ _ w0 w hI hB h0 h1 hs hb ha hh c1 c2 c3
  · rw [if_neg hb] at h
    have hn := width_fits s0_0 s0_1.toNat (by omega); have h := Option.some.inj h; obtain ⟨⟨c, n⟩, hd⟩ : ∃ d, Utf8.decode s0_0 s0_1.toNat = d := ⟨_, rfl⟩; rw [hd] at h hn; dsimp only [charP] at h hn; by_cases ha : a1 = 256
    · rw [if_pos (.inl ha)] at h
      cases h; exact piece_c1 g s0_0 s0_1 s0_2 s0_3 s0_4 s0_5 a1 c n w0 w hI hB h0 h1 hs hG hb ha0 ha1 hd hn ha
    · by_cases hc : c = 65533
      · by_cases hn1 : n = 1
        · rw [if_pos (.inr ⟨hc, hn1⟩)] at h
          cases h; exact piece_c2 g s0_0 s0_1 s0_2 s0_3 s0_4 s0_5 a1 c n w0 w hI hB h0 h1 hs hG hb ha0 ha1 hd hn ha hc hn1
        · rw [if_neg (by omega)] at h
          by_cases hm : 256 < a1 + n
          · rw [if_pos hm] at h
            cases h; exact piece_c3a g s0_0 s0_1 s0_2 s0_3 s0_4 s0_5 a1 c n w0 w hI hB h0 h1 hs hG hb ha0 ha1 hd hn ha hc hn1 hm
          · rw [if_neg hm] at h
            cases h; exact piece_c4a g s0_0 s0_1 s0_2 s0_3 s0_4 s0_5 a1 c n w0 w hI hB h0 h1 hs hG hb ha0 ha1 hd hn ha hc hn1 (by omega)
      · rw [if_neg (by omega)] at h
        by_cases hm : 256 < a1 + n
        · rw [if_pos hm] at h
          cases h; exact piece_c3b g s0_0 s0_1 s0_2 s0_3 s0_4 s0_5 a1 c n w0 w hI hB h0 h1 hs hG hb ha0 ha1 hd hn ha hc hm
        · rw [if_neg hm] at h
          cases h; exact piece_c4b g s0_0 s0_1 s0_2 s0_3 s0_4 s0_5 a1 c n w0 w hI hB h0 h1 hs hG hb ha0 ha1 hd hn ha hc (by omega)
end Go.Proofs.YtogegkfefpgbcaaDoor.PL
