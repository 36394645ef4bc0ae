/- slices.Clone and labels.sorted at labels. -/
import Derived.Test.YtogegkfefpgbcaaDoorZXPLx0
import Derived.Test.YtogegkfefpgbcaaDoorZXShelf
import Derived.Test.YtogegkfefpgbcaaDoorZXHB
import Derived.Lib.Hide
import Derived.WalkSpells
import Derived.Deep.RegionHeld3
import Derived.Lib.OwnBridge
import Derived.Shelf.SlSortCmp.NoneTotal
import Derived.WalkLawsBesides
import Derived.Outline
namespace Go.Proofs.YtogegkfefpgbcaaDoor.PL
open Go.RowKit Go.Proofs.YtogegkfefpgbcaaDoorW.PrintWords Go.Proofs.YtogegkfefpgbcaaDoorW.PrintLast Go.Proofs.YtogegkfefpgbcaaDoorW.PrintMore
set_option linter.unusedVariables false
set_option linter.unusedSimpArgs false

def api_Label_77.f (l0 : List (S59)) : Option (List (S59)) := if l0.length < 4398046511104 then some l0 else none
set_option maxHeartbeats 1000000 in
set_option maxRecDepth 100000 in
theorem api_Label_77.calls (A0 : Option Addr) (c0 : Nat) (l0 : List (S59)) (r : List (S59)) (w : World) (hr0 : Kd.C k59 w A0 l0.length l0) (hc0 : l0.length ≤ c0) (h : api_Label_77.f l0 = some r) :
    Calls Tryd.prog 77 #[.slice A0 l0.length c0] w fun e w' => ∃ v0_ : Value, e = .returned (v0_) ∧ Kd.R k59 59 w' w.heap.size (fun _ => True) v0_ r ∧ Below w.heap.size w w' := by
  unfold api_Label_77.f at h; by_cases hlen0 : l0.length < 4398046511104
  case neg => rw [if_neg hlen0] at h; cases h
  rw [if_pos hlen0] at h; obtain rfl := Option.some.inj h; clear h; have HC := Lib.hid hr0; have hlen : Hid (l0.length < 4398046511104) := Lib.hid hlen0; clear hr0 hlen0; have hrun := fun (w : World) (a : Option Addr) (n c n' c' : Nat) => Lib.run_eql_slice_nil (P := Tryd.prog) w 22 59 a n c n' c' Tryd.underlying22
  cases A0 with
  | none =>
    have hnil : l0 = [] := by
      cases l0 with
      | nil => rfl
      | cons x l =>
        obtain ⟨ad, c, e, _⟩ := Kd.C_get HC.out x 0 (by omega) (by simp)
        cases e
    subst hnil; go_enter Tryd.func77, Tryd.ntmps77; go_wp2; go_ret
    exact ⟨_, rfl, Kd.R_nil _ _ _ _ _, Below.refl _ _⟩
  | some ad =>
    go_enter Tryd.func77, Tryd.ntmps77; go_wp2_with (first | ((with_reducible refine gate_dst (N := 5) rfl ?_); refine Kd.R_lit k59 _ 59 ?hg (N := 5) ?hd (xs := ([] : List (S59))) (inner := []) (ok := fun _ => True) (okp := fun _ => True) ?hr ?hp (fun _ hk => hk) trivial (Below.refl _ _) (Nat.le_refl _) (by simp) ?_; (case hd => rfl); (case hg => rfl); (case hr => first | (go_simp; done) | (go_simp; rfl)); (case hp => exact (Reps.none _ _)); intro v554 w17 ho18 hb hg_ hnew_; clear hg_ hnew_; have H18 := Lib.hid ho18; have HB := Lib.hid hb; clear hb ho18) | ((with_reducible refine gate_builtin (b := .append) (xs := #[.tmp 5, .tmp 6]) rfl ?_); at_builtin; refine Kd.R_append_rows k59 (w0 := w) w.heap.size rfl (.tmp 5) (.tmp 6) 22 59 (.agg #[(.string ⟨#[]⟩), (.string ⟨#[]⟩)]) 32 rfl Tryd.underlying22 info59 rfl (by decide) (by omega) _ [] l0 _ _ _ (fun _ => True) (fun _ => False) rfl rfl ?aO ?aR (fun _ _ h => h) (fun _ h => h.elim) ?aF ?aB ?aS ?aL ?_; (case aR => exact Kd.C_below HC.out HB.out); (case aB => exact HB.out); (case aF => exact fun _ _ => trivial); (case aO => exact H18.out); (case aS => exact HB.out.size); (case aL => have := hlen.out; simp; omega); intro v557 w19 ho hb hg hat; have H19 := Lib.hid ho; have HB2 := Lib.hid hb; clear ho hb hg hat))
    go_ret
    exact ⟨_, rfl, H19.out, HB2.out⟩

open Go.Lib Go.Sort in
def enc59 (x : S59) : List Value := [.string x.f0, .string x.f1]
def cmpName (x y : S59) : Int := if Op.bytesLess x.f0.toList y.f0.toList = true then -1 else if Op.bytesLess y.f0.toList x.f0.toList = true then 1 else 0

def Grew (W w : World) : Prop := ∃ q os, w = Go.Sort.grow (W.drewN q) os
theorem Grew.refl (W : World) : Grew W W := ⟨0, #[], by simp; rfl⟩
theorem Grew.alloc {W w : World} (h : Grew W w) (o : Obj) : Grew W (w.alloc o) := by
  obtain ⟨q, os, rfl⟩ := h; exact ⟨q, _, by rw [Go.Sort.alloc_eq_grow, Go.Sort.grow_grow]⟩
theorem Grew.drewN {W w : World} (h : Grew W w) (n : Nat) : Grew W (w.drewN n) := by
  obtain ⟨q, os, rfl⟩ := h; exact ⟨q + n, os, by rw [← World.drewN_drewN]; rfl⟩
theorem Grew.drew {W w : World} (h : Grew W w) : Grew W w.drew := Grew.drewN h 1

set_option maxHeartbeats 400000 in
set_option maxRecDepth 100000 in
theorem isNaN_any (a : ByteArray) (w : World) : Calls Tryd.prog 92 #[.string a] w fun e w' => e = .returned (.bool false) ∧ w = w' := by
  go_enter Tryd.func92, Tryd.ntmps92; go_wp2; go_ret
  exact ⟨rfl, rfl⟩

set_option maxHeartbeats 400000 in
set_option maxRecDepth 100000 in
theorem cmp_any (x y : S59) (w : World) : Calls Tryd.prog 76 #[.string x.f0, .string y.f0] w fun e w' => e = .returned (.int .i64 (cmpName x y)) ∧ w = w' := by
  unfold cmpName; obtain ⟨a, ha⟩ : ∃ a, x.f0 = a := ⟨_, rfl⟩; obtain ⟨b, hb⟩ : ∃ b, y.f0 = b := ⟨_, rfl⟩; rw [ha, hb]; clear ha hb; by_cases h1 : Op.bytesLess a.toList b.toList = true
  · rw [if_pos h1]
    go_enter Tryd.func76, Tryd.ntmps76; go_wp2_with (first | (go_at_call 92; (with_reducible refine (isNaN_any _ _).mono ?_); rintro e w' ⟨rfl, rfl⟩))
    go_ret
    exact ⟨rfl, rfl⟩
  · rw [if_neg h1]
    have h1' : Op.bytesLess a.toList b.toList = false := by simpa using h1
    by_cases h2 : Op.bytesLess b.toList a.toList = true
    · rw [if_pos h2]
      have h3 := bl_ne h2; go_enter Tryd.func76, Tryd.ntmps76; go_wp2_with (first | (go_at_call 92; (with_reducible refine (isNaN_any _ _).mono ?_); rintro e w' ⟨rfl, rfl⟩))
      go_ret
      exact ⟨rfl, rfl⟩
    · rw [if_neg h2]
      have h2' : Op.bytesLess b.toList a.toList = false := by simpa using h2
      have h3 := bl_eq h1' h2'; go_enter Tryd.func76, Tryd.ntmps76; go_wp2_with (first | (go_at_call 92; (with_reducible refine (isNaN_any _ _).mono ?_); rintro e w' ⟨rfl, rfl⟩))
      go_ret
      exact ⟨rfl, rfl⟩

set_option maxHeartbeats 400000 in
set_option maxRecDepth 100000 in
theorem name_exact (a b : ByteArray) (w : World) : Calls Tryd.prog 51 #[.agg #[.string a, .string b]] w fun e w' => e = .returned (.string a) ∧ w' = w.alloc (.cells #[.string a, .string b] 59) := by
  go_enter Tryd.func51, Tryd.ntmps51; go_wp2; go_ret
  exact ⟨rfl, rfl⟩

theorem cell_below1 {w w1 : World} {u : Value} {t : Nat} (hb : Below (w.alloc (.cells #[u] t)).heap.size (w.alloc (.cells #[u] t)) w1) : w1.cell? ⟨w.heap.size, 0, none⟩ = some u := by
  have h0 : (w.alloc (.cells #[u] t)).cell? ⟨w.heap.size, 0, none⟩ = some u := (blk_cell (heap_alloc_new w (.cells #[u] t)) 0).trans rfl; exact (hb.cell (World.block_lt_of_cell? _ _ h0)).trans h0
theorem cell_allocD {W : World} {a : Addr} {v : Value} (h : W.cell? a = some v) (o : Obj) : (W.alloc o).cell? a = some v := ((below_alloc (Below.refl W.heap.size W) o).cell (World.block_lt_of_cell? W _ h)).trans h
theorem two_boxes (W : World) (a0 a1 b0 b1 : Value) (t : Nat) :
    ((W.alloc (.cells #[a0, a1] t)).alloc (.cells #[b0, b1] t)).cell? ⟨W.heap.size, 0, none⟩ = some a0 ∧ ((W.alloc (.cells #[a0, a1] t)).alloc (.cells #[b0, b1] t)).cell? ⟨W.heap.size, 1, none⟩ = some a1 ∧
    ((W.alloc (.cells #[a0, a1] t)).alloc (.cells #[b0, b1] t)).cell? ⟨W.heap.size + 1, 0, none⟩ = some b0 ∧ ((W.alloc (.cells #[a0, a1] t)).alloc (.cells #[b0, b1] t)).cell? ⟨W.heap.size + 1, 1, none⟩ = some b1 := by
  refine ⟨cell_allocD ?_ _, cell_allocD ?_ _, ?_, ?_⟩
  · exact (blk_cell (heap_alloc_new W (.cells #[a0, a1] t)) 0).trans rfl
  · exact (blk_cell (heap_alloc_new W (.cells #[a0, a1] t)) 1).trans rfl
  · have := heap_alloc_new (W.alloc (.cells #[a0, a1] t)) (.cells #[b0, b1] t)
    rw [show (W.alloc (.cells #[a0, a1] t)).heap.size = W.heap.size + 1 by simp] at this; exact (blk_cell this 0).trans rfl
  · have := heap_alloc_new (W.alloc (.cells #[a0, a1] t)) (.cells #[b0, b1] t)
    rw [show (W.alloc (.cells #[a0, a1] t)).heap.size = W.heap.size + 1 by simp] at this; exact (blk_cell this 1).trans rfl
set_option maxHeartbeats 1000000 in
set_option maxRecDepth 100000 in
theorem sorted1_any (x y : S59) (bk : Nat) (W : World) (hk : W.cell? ⟨bk, 0, none⟩ = some (.func (.func 51) #[] #[])) :
    Calls Tryd.prog 84 #[.agg #[.string x.f0, .string x.f1], .agg #[.string y.f0, .string y.f1], .pointer (some ⟨bk, 0, none⟩)] W fun e w' => e = .returned (.int .i64 (cmpName x y)) ∧ Grew W w' := by
  have hu59 := Tryd.underlying59; have hlt := World.block_lt_of_cell? W _ hk; obtain ⟨c, hc⟩ : ∃ c, cmpName x y = c := ⟨_, rfl⟩; have HX := Lib.hid hc; have hcmp : ∀ w, Calls Tryd.prog 76 #[.string x.f0, .string y.f0] w fun e w' => e = .returned (.int .i64 c) ∧ w = w' := fun w => by rw [← HX.out]; exact cmp_any x y w
  have HC := Lib.hid hcmp; clear hcmp; rw [hc]; clear hc; go_enter Tryd.func84, Tryd.ntmps84; go_wp2_with fail
  obtain ⟨k1, k2, k3, k4⟩ := two_boxes W (.string x.f0) (.string x.f1) (.string y.f0) (.string y.f1) 59; have k0 := cell_allocD (cell_allocD hk (.cells #[.string x.f0, .string x.f1] 59)) (.cells #[.string y.f0, .string y.f1] 59); have kg : Hid (Grew W ((W.alloc (.cells #[.string x.f0, .string x.f1] 59)).alloc (.cells #[.string y.f0, .string y.f1] 59))) := Lib.hid (((Grew.refl W).alloc _).alloc _); clear hk; go_region_held3 (fun w' => w'.cell? ⟨bk, 0, none⟩ = some (.func (.func 51) #[] #[]) ∧ w'.cell? ⟨W.heap.size, 0, none⟩ = some (.string x.f0) ∧ w'.cell? ⟨W.heap.size, 1, none⟩ = some (.string x.f1) ∧ w'.cell? ⟨W.heap.size + 1, 0, none⟩ = some (.string y.f0) ∧ w'.cell? ⟨W.heap.size + 1, 1, none⟩ = some (.string y.f1) ∧ Hid (Grew W w')) (first | (exact ⟨k0, k1, k2, k3, k4, Lib.hid (Grew.drew kg.out)⟩) | (go_split_ands; exact ⟨cell_allocD (by assumption) _, cell_allocD (by assumption) _, cell_allocD (by assumption) _, cell_allocD (by assumption) _, cell_allocD (by assumption) _, Lib.hid (Grew.alloc (Hid.out (by assumption)) _)⟩) | assumption) (first | (go_at_call 51; refine (name_exact _ _ _).mono ?_; rintro e w' ⟨rfl, rfl⟩) | (go_at_call 76; refine (HC.out _).mono ?_; rintro e w' ⟨rfl, rfl⟩))
  go_wp2
  all_goals
    go_ret
    exact ⟨rfl, by repeat (first | with_reducible exact Grew.refl _ | with_reducible apply Grew.alloc | with_reducible apply Grew.drew | with_reducible apply Grew.drewN)⟩

theorem cmpName_lt (x y : S59) : Go.Proofs.ltOf cmpName x y = Op.bytesLess x.f0.toList y.f0.toList := by
  unfold Go.Proofs.ltOf cmpName
  cases h1 : Op.bytesLess x.f0.toList y.f0.toList
  · cases h2 : Op.bytesLess y.f0.toList x.f0.toList <;> simp
  · simp
theorem swoName : Go.Sort.SWO (Go.Proofs.ltOf cmpName) where
  irrefl x := by rw [cmpName_lt]; exact bl_irrefl _
  trans x y z h1 h2 := by rw [cmpName_lt] at *; rw [bytesLess_eq] at *; simp only [decide_eq_true_eq] at *; exact List.lt_trans h1 h2
  ntrans x y z h1 h2 := by rw [cmpName_lt] at *; rw [bytesLess_eq] at *; simp only [decide_eq_false_iff_not, List.not_lt] at *; exact List.le_trans h2 h1

instance : Inhabited S59 := ⟨z59⟩
theorem cmpLays84 (bk blk off size : Nat) (w : World) (hk : w.cell? ⟨bk, 0, none⟩ = some (.func (.func 51) #[] #[])) (hne : bk ≠ blk) : Go.Proofs.CmpLays Tryd.prog 84 #[.pointer (some ⟨bk, 0, none⟩)] enc59 2 cmpName blk off size w :=
  fun m os dk _ x y => sorted1_any x y bk _ ((Go.Proofs.cell?_sortWorldK_other _ _ _ _ _ _ _ _ _ hne (World.block_lt_of_cell? w _ hk)).trans hk)

theorem flat_take (ys : List S59) (j : Nat) (x : S59) (h : ys[j]? = some x) : ((Go.Sort.flatK enc59 2 ys.toArray).toList.drop (j * 2)).take 2 = [.string x.f0, .string x.f1] := by
  have hj : j < ys.length := (List.getElem?_eq_some_iff.1 h).1; have hx : ys[j] = x := (List.getElem?_eq_some_iff.1 h).2
  have g : ∀ i, i < 2 → (Go.Sort.flatK enc59 2 ys.toArray).toList[j * 2 + i]? = some ((enc59 x)[i]!) := by
    intro i hi; rw [Array.getElem?_toList, Array.getElem?_eq_getElem (by simp; omega), ← getElem!_pos, Go.Sort.get_flatK _ _ _ _ (by simp; omega)]; rw [show (j * 2 + i) / 2 = j by omega, show (j * 2 + i) % 2 = i by omega]; simp [getElem!_pos, hj, hx]
  apply List.ext_getElem?
  intro i; rw [List.getElem?_take, List.getElem?_drop]; by_cases hi : i < 2
  · rw [if_pos hi, g i hi]
    have : i = 0 ∨ i = 1 := by omega
    rcases this with rfl | rfl <;> rfl
  · rw [if_neg hi]
    simp; omega

theorem R_holds {W : World} {base : Nat} {ok : Nat → Prop} {g n cap : Nat} {xs : List S59} (h : Kd.R k59 59 W base ok (.slice (some ⟨g, 0, none⟩) n cap) xs) : Go.Sort.HoldsK enc59 2 W g 0 xs.toArray ∧ n = xs.length ∧ g < W.heap.size ∧ base ≤ g := by
  obtain ⟨h0, inner, ⟨hl, ho⟩, hr⟩ := h; rcases ho with ⟨e0, _⟩ | ⟨g', cap', cur, e0, hb, hh, hn, hm, hs, ht⟩
  · cases e0
  · injection e0 with e1 e2 e3
    injection e1 with e1
    injection e1 with e1
    subst e1; subst e3; subst e2
    have hlt : g < W.heap.size := by
      rcases Nat.lt_or_ge g W.heap.size with h' | h'
      · exact h'
      · rw [Array.getElem?_eq_none h'] at hh; cases hh
    refine ⟨fun j hj => ?_, rfl, hlt, hb⟩; have hj' : j < xs.length * 2 := by simpa using hj
    refine ⟨?_, by simp [World.frozen?, hh]⟩; have hd : j / 2 < xs.length := by omega
    have e := flat_take xs (j / 2) xs[j / 2] (List.getElem?_eq_getElem hd); have e2 := k59_openM (hr.2 (j / 2) _ (List.getElem?_eq_getElem hd)); have e3 : ((Go.Sort.flatK enc59 2 xs.toArray).toList.drop (j / 2 * 2)).take 2 = (inner.drop (j / 2 * k59.sz)).take k59.sz := by rw [e, e2]
    have e4 := congrArg (·[j % 2]?) e3; simp only [show k59.sz = 2 from rfl, List.getElem?_take, List.getElem?_drop, show j % 2 < 2 by omega, if_true, show j / 2 * 2 + j % 2 = j by omega] at e4; rw [← ht, List.getElem?_take, if_pos (by simpa [show k59.sz = 2 from rfl] using hj'), Array.getElem?_toList, Array.getElem?_toList] at e4; simp only [World.cell?, hh, Nat.zero_add]; simp only [Option.isSome_none, Bool.false_eq_true, if_false]; rw [← e4, Array.getElem?_eq_getElem hj, ← getElem!_pos]; rfl

theorem R_sorted {W : World} {base : Nat} {ok : Nat → Prop} {g n cap q : Nat} {os : Array Obj} {xs ys : List S59} (h : Kd.R k59 59 W base ok (.slice (some ⟨g, 0, none⟩) n cap) xs) (hy : ys.length = xs.length) :
    Kd.R k59 59 (Go.Proofs.sortWorldK enc59 2 W g 0 q ys.toArray os) base ok (.slice (some ⟨g, 0, none⟩) n cap) ys := by
  obtain ⟨h0, inner, ⟨hl, ho⟩, hr⟩ := h; rcases ho with ⟨e0, _⟩ | ⟨g', cap', cur, e0, hb, hh, hn, hm, hs, ht⟩
  · cases e0
  · injection e0 with e1 e2 e3
    injection e1 with e1
    injection e1 with e1
    subst e1; subst e3; subst e2
    have hlt : g < W.heap.size := by
      rcases Nat.lt_or_ge g W.heap.size with h' | h'
      · exact h'
      · rw [Array.getElem?_eq_none h'] at hh; cases hh
    have hsz : k59.sz = 2 := rfl; refine ⟨h0, (Go.Sort.flatK enc59 2 ys.toArray).toList, ⟨by simp [hsz], .inr ⟨g, cap, Go.Sort.putCells id 0 (Go.Sort.flatK enc59 2 ys.toArray) cur, by rw [hy], hb, ?_, by omega, hm, by simpa [Go.Sort.putCells] using hs, ?_⟩⟩, by simp [hsz], fun j p hp => ?_⟩
    · show ((Go.Sort.putRow id (Go.Sort.ahead W q) g 0 (Go.Sort.flatK enc59 2 ys.toArray)).heap ++ os)[g]? = _
      rw [Array.getElem?_append_left (by simpa [Go.Sort.putRow, Go.Sort.mapBlock, Go.Sort.ahead] using hlt)]; simp [Go.Sort.putRow, Go.Sort.mapBlock, Go.Sort.ahead, Array.getElem?_modify, hh, Go.Sort.onCells]
    · apply List.ext_getElem?
      intro j; rw [List.getElem?_take, Array.getElem?_toList, Array.getElem?_toList]; by_cases hj : j < ys.length * 2
      · have hjc : j < cur.size := by rw [hs, hsz]; omega
        rw [if_pos (by simpa [hsz] using hj)]; simp only [Go.Sort.putCells, Array.getElem?_mapIdx, Array.getElem?_eq_getElem hjc, Option.map_some]; rw [if_pos (by simp; omega), Array.getElem?_eq_getElem (by simpa using hj), ← getElem!_pos]; simp
      · rw [if_neg (by simpa [hsz] using hj), Array.getElem?_eq_none (by simp; omega)]
    · have e := flat_take ys j p hp
      rw [show k59.sz = 2 from rfl, e]; exact k59_mkM _ _ _ p

theorem below_sorted {B : Nat} {w0 W : World} {g q : Nat} {F : Array S59} {os : Array Obj} (h : Below B w0 W) (hB : B ≤ W.heap.size) (hg : B ≤ g) : Below B w0 (Go.Proofs.sortWorldK enc59 2 W g 0 q F os) := by
  have h1 := Lib.below_putRow (enc := id) (g := g) (q := q) (d := Go.Sort.flatK enc59 2 F) h hg; refine ⟨h1.os, h1.tape, h1.output, ?_, fun k hk => ?_⟩
  · have := h.size
    show _ ≤ ((Go.Sort.putRow id (Go.Sort.ahead W q) g 0 (Go.Sort.flatK enc59 2 F)).heap ++ os).size
    simp; omega
  · rw [← h1.block k hk]
    show ((Go.Sort.putRow id (Go.Sort.ahead W q) g 0 (Go.Sort.flatK enc59 2 F)).heap ++ os)[k]? = _
    rw [Array.getElem?_append_left]; simp [Go.Sort.putRow, Go.Sort.mapBlock, Go.Sort.ahead]; omega

def sortN (l : List S59) : List S59 := (Go.Sort.pdq (Go.Proofs.ltOf cmpName) l.toArray 0 l.length (Lib.bitLen l.length) true true).toList
theorem sortN_length (l : List S59) : (sortN l).length = l.length := by
  have := (Go.Sort.pdq_sorts (Go.Proofs.ltOf cmpName) swoName l.toArray 0 l.length (Lib.bitLen l.length) true true (Nat.zero_le _) (by simp) (Or.inl rfl)).1.1; simpa [sortN] using this
def api_Label_string_50.f (l0 : List (S59)) : Option (List (S59)) := if l0.length < 4398046511104 then some (sortN l0) else none

theorem sort_any (l : List S59) (Ao : Option Addr) (co bk base : Nat) (W : World) (ho : Kd.R k59 59 W base (fun _ => True) (.slice Ao l.length co) l) (hlen : l.length < 4398046511104)
    (hk : W.cell? ⟨bk, 0, none⟩ = some (.func (.func 51) #[] #[])) (hne : bk < base) (hB : base ≤ W.heap.size) :
    Calls Tryd.prog 83 #[.slice Ao l.length co, .func (.func 84) #[] #[.pointer (some ⟨bk, 0, none⟩)]] W fun e w' => e = .returned (.tuple #[]) ∧ Kd.R k59 59 w' base (fun _ => True) (.slice Ao l.length co) (sortN l) ∧ Below base W w' := by
  by_cases h0 : l.length = 0
  · have hl : l = [] := List.length_eq_zero_iff.1 h0
    subst hl; have hs : sortN [] = [] := List.length_eq_zero_iff.1 (sortN_length []); refine (AnyF.slices_SortFunc_none Tryd.sortL Ao co (.func (.func 84) #[] #[.pointer (some ⟨bk, 0, none⟩)]) W).mono ?_; rintro e w' ⟨he, rfl⟩; exact ⟨he, by rw [hs]; exact ho, Below.refl _ _⟩
  · obtain ⟨g, rfl⟩ : ∃ g, Ao = some ⟨g, 0, none⟩ := by
      obtain ⟨_, inner, ⟨hl, ho⟩, hr⟩ := ho; rcases ho with ⟨e0, e1⟩ | ⟨g', cap', cur, e0, _⟩
      · exact absurd e1 h0
      · injection e0 with e1
        exact ⟨g', e1⟩
    obtain ⟨hH, hn, hg, hbg⟩ := R_holds ho; have eg : ∀ args w, (callFunc 84 args).run Tryd.prog w = .ok (.enter 84 args) w := enters_of Tryd.func84 (by kernel_rfl) rfl; have hcon := AnyQ.slices_SortFunc_eq Tryd.sortL 2 Tryd.isAgg59 Tryd.sizeOf59 enc59 (fun _ => rfl) (fun x v hv => by simp [enc59] at hv; rcases hv with rfl | rfl <;> rfl) cmpName swoName 84 #[.pointer (some ⟨bk, 0, none⟩)] g 0 co l.toArray W eg (cmpLays84 bk g 0 _ W hk (by omega)) hH hg (by simp; omega); change Calls Tryd.prog 83 _ _ _ at hcon
    refine hcon.mono ?_; rintro e w' ⟨he, n, os, rfl⟩; have hs := R_sorted (q := n) (os := os) ho (sortN_length l); exact ⟨he, hs, below_sorted (Below.refl _ _) hB hbg⟩
set_option maxHeartbeats 1000000 in
set_option maxRecDepth 100000 in
theorem api_Label_string_50.calls (A0 : Option Addr) (c0 : Nat) (l0 : List (S59)) (r : List (S59)) (w : World) (hr0 : Kd.C k59 w A0 l0.length l0) (hc0 : l0.length ≤ c0) (h : api_Label_string_50.f l0 = some r) :
    Calls Tryd.prog 50 #[.slice A0 l0.length c0, .func (.func 51) #[] #[]] w fun e w' => ∃ v0_ : Value, e = .returned (v0_) ∧ Kd.R k59 59 w' w.heap.size (fun _ => True) v0_ r ∧ Below w.heap.size w w' := by
  unfold api_Label_string_50.f at h; by_cases hlen0 : l0.length < 4398046511104
  case neg => rw [if_neg hlen0] at h; cases h
  rw [if_pos hlen0] at h; have HR := Lib.hid (Option.some.inj h); clear h; have HC := Lib.hid hr0; have HC0 := Lib.hid hc0; have hlen : Hid (l0.length < 4398046511104) := Lib.hid hlen0; clear hr0 hlen0 hc0; have eg : ∀ args w, (callFunc 84 args).run Tryd.prog w = .ok (.enter 84 args) w := enters_of Tryd.func84 (by kernel_rfl) rfl; have EG := Lib.hid eg; clear eg; go_enter Tryd.func50, Tryd.ntmps50; go_wp2_with (first | (go_at_call 77; (with_reducible refine (api_Label_77.calls _ _ l0 l0 _ (Kd.C_below HC.out (below_alloc (Below.refl _ _) _)) HC0.out (by unfold api_Label_77.f; rw [if_pos hlen.out])).mono ?_); rintro e w1 ⟨v, rfl, ho, hb⟩; obtain ⟨Ao, co, rfl⟩ := Kd.R_slice ho; have HO := Lib.hid ho; have HB := Lib.hid hb; have HK : Hid (w1.cell? ⟨w.heap.size, 0, none⟩ = some (.func (.func 51) #[] #[])) := Lib.hid (cell_below1 hb); clear ho hb) | (go_at_call 83; (with_reducible refine (sort_any l0 Ao co w.heap.size _ _ HO.out hlen.out HK.out (by simp) HB.out.size).mono ?_); rintro e w2 ⟨rfl, ho2, hb2⟩; have HO2 := Lib.hid ho2; have HB2 := Lib.hid hb2; clear ho2 hb2))
  go_ret
  refine ⟨_, rfl, ?_, ?_⟩
  · have := HO2.out
    rw [HR.out] at this; exact Kd.R_lower this (by simp)
  · exact (Below.refl w.heap.size w |>.alloc (Nat.le_refl _) _).trans (HB.out.mono (by simp)) |>.trans (HB2.out.mono (by simp))
end Go.Proofs.YtogegkfefpgbcaaDoor.PL
