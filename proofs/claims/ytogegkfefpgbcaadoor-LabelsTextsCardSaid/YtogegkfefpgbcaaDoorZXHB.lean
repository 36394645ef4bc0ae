/- labels.rising at labels by their names. -/
import Derived.Test.YtogegkfefpgbcaaDoorZXPLx0
import Derived.Lib.Hide
import Derived.IntWalk
import Derived.Deep.RegionHeld3
import Derived.Outline
namespace Go.Proofs.YtogegkfefpgbcaaDoor.PL
open Go.RowKit Go.Proofs.YtogegkfefpgbcaaDoorW.PrintWords Go.Proofs.YtogegkfefpgbcaaDoorW.PrintLast Go.Proofs.YtogegkfefpgbcaaDoorW.PrintMore
set_option linter.unusedVariables false
set_option linter.unusedSimpArgs false

def risingF (l : List S59) : Nat → Int → Bool
  | 0, _ => true
  | f + 1, i => if i < (l.length : Int) then (if Op.bytesLess (rd_T59 l (i - 1)).f0.toList (rd_T59 l i).f0.toList = true then risingF l f (i + 1) else false) else true
def api_Label_string_66.f (l0 : List (S59)) : Option (Bool) := if l0.length ≤ 9223372036854775807 then some (risingF l0 l0.length 1) else none

set_option maxHeartbeats 400000 in
set_option maxRecDepth 100000 in
theorem name_any (a b : ByteArray) (w : World) : Calls Tryd.prog 51 #[.agg #[.string a, .string b]] w fun e w' => e = .returned (.string a) ∧ Below w.heap.size w w' := by
  go_enter Tryd.func51, Tryd.ntmps51; go_wp2; go_ret
  refine ⟨rfl, ?_⟩
  repeat (first | exact Below.refl _ _ | apply below_alloc | (refine below_set ?_ (by simp)))

theorem cell_below {W w' : World} {a : Addr} {v : Value} (h : W.cell? a = some v) (hb : Below W.heap.size W w') : w'.cell? a = some v := (hb.cell (World.block_lt_of_cell? W _ h)).trans h
set_option maxHeartbeats 2000000 in
set_option maxRecDepth 100000 in
theorem api_Label_string_66.calls (A0 : Option Addr) (c0 : Nat) (l0 : List (S59))  (r : Bool) (w : World) (hr0 : Kd.C k59 w A0 l0.length l0) (hc0 : l0.length ≤ c0) (h : api_Label_string_66.f l0 = some r) :
    Calls Tryd.prog 66 #[.slice A0 l0.length c0, .func (.func 51) #[] #[]] w fun e w' => e = .returned (.bool r) ∧ Below w.heap.size w w' := by
  unfold api_Label_string_66.f at h; by_cases hlen0 : l0.length ≤ 9223372036854775807
  case neg => rw [if_neg hlen0] at h; cases h
  rw [if_pos hlen0] at h; have hlen : Hid ((l0.length : Int) ≤ 9223372036854775807) := Lib.hid (by omega); clear hlen0; have HR : Hid (risingF l0 l0.length 1 = r) := Lib.hid (Option.some.inj h); have H0 := Lib.hid hr0; have hu59 := Tryd.underlying59; clear h hr0; have HC0 := Lib.hid hc0; clear hc0; go_enter Tryd.func66, Tryd.ntmps66; go_wp2; go_loopw [5] (fun v wr => ∃ (i : Int) (f : Nat), v = .int .i64 i ∧ 1 ≤ i ∧ Hid (i ≤ l0.length ∨ i = 1) ∧ Hid (Below w.heap.size w wr) ∧ Hid (risingF l0 f i = r) ∧ Hid ((l0.length : Int) ≤ i + f)) (fun v _ => l0.length - (intOf v).toNat)
  case atStart => exact ⟨1, l0.length, rfl, by omega, Lib.hid (.inr rfl), Lib.hid (Below.refl _ _), HR, Lib.hid (by omega)⟩
  case round =>
    obtain ⟨i, f, rfl, hi1, hi2, hb, hf, hle⟩ := hrel; by_cases hp : i < (l0.length : Int)
    · obtain ⟨f, rfl⟩ : ∃ f', f = f' + 1 := ⟨f - 1, by have := hle.out; omega⟩
      have hC := Kd.C_below H0.out hb.out; obtain ⟨j, hj⟩ : ∃ j : Int, IntKind.i64.wrap (i - 1) = j := ⟨_, rfl⟩; have hj2 : j = i - 1 := by rw [← hj]; exact IntWalk.i64_in _ (by have := hlen.out; omega)
      have HF : Hid (if Op.bytesLess (rd_T59 l0 j).f0.toList (rd_T59 l0 i).f0.toList = true then risingF l0 f (i + 1) = r else false = r) := Lib.hid (by have := hf.out; simp only [risingF, if_pos hp] at this; rw [hj2]; split <;> simp_all); have hj0 : 0 ≤ j := by omega
      have hjl : j < (l0.length : Int) := by omega
      have hi0 : 0 ≤ i := by omega
      obtain ⟨ad, e1, hx0, hx1⟩ := at_T59 hC j hj0 hjl; obtain ⟨ad2, e2, hy0, hy1⟩ := at_T59 hC i hi0 hp; subst e1; obtain rfl : ad = ad2 := by injection e2
      clear e2 hj2 hf hC; have hiw : IntKind.i64.wrap (i + 1) = i + 1 := IntWalk.i64_in _ (by have := hlen.out; omega); by_cases hB : Op.bytesLess (rd_T59 l0 j).f0.toList (rd_T59 l0 i).f0.toList = true
      · go_wp2_with fail
        go_region_held3 (fun w' => w'.cell? (ad.add (j.toNat * 2)) = some (.string (rd_T59 l0 j).f0) ∧ w'.cell? ⟨(ad.add (j.toNat * 2)).block, (ad.add (j.toNat * 2)).off + 1, none⟩ = some (.string (rd_T59 l0 j).f1) ∧ w'.cell? (ad.add (i.toNat * 2)) = some (.string (rd_T59 l0 i).f0) ∧ w'.cell? ⟨(ad.add (i.toNat * 2)).block, (ad.add (i.toNat * 2)).off + 1, none⟩ = some (.string (rd_T59 l0 i).f1) ∧ Hid (Below w.heap.size w w')) (first | (exact ⟨hx0, hx1, hy0, hy1, Lib.hid (below_drew hb.out)⟩) | (go_split_ands; exact ⟨cell_below (by assumption) hb3, cell_below (by assumption) hb3, cell_below (by assumption) hb3, cell_below (by assumption) hb3, Lib.hid (below_step (Hid.out (by assumption)) hb3)⟩)) (first | (go_at_call 51; refine (name_any _ _ _).mono ?_; rintro e w' ⟨rfl, hb3⟩))
        go_wp2
        have hS : Hid (Below w.heap.size w w') := by
          have h_ := ‹_ ∧ _ ∧ _ ∧ _ ∧ Hid (Below w.heap.size w w')›; exact h_.2.2.2.2
        go_roundw
        case rel => exact ⟨i + 1, f, rfl, by omega, Lib.hid (.inl (by omega)), hS, Lib.hid (by have := HF.out; rw [if_pos hB] at this; exact this), Lib.hid (by have := hle.out; omega)⟩
        case measure => simp [intOf]; omega
      · have hB2 : Op.bytesLess (rd_T59 l0 j).f0.toList (rd_T59 l0 i).f0.toList = false := by simpa using hB
        go_wp2_with fail
        go_region_held3 (fun w' => w'.cell? (ad.add (j.toNat * 2)) = some (.string (rd_T59 l0 j).f0) ∧ w'.cell? ⟨(ad.add (j.toNat * 2)).block, (ad.add (j.toNat * 2)).off + 1, none⟩ = some (.string (rd_T59 l0 j).f1) ∧ w'.cell? (ad.add (i.toNat * 2)) = some (.string (rd_T59 l0 i).f0) ∧ w'.cell? ⟨(ad.add (i.toNat * 2)).block, (ad.add (i.toNat * 2)).off + 1, none⟩ = some (.string (rd_T59 l0 i).f1) ∧ Hid (Below w.heap.size w w')) (first | (exact ⟨hx0, hx1, hy0, hy1, Lib.hid (below_drew hb.out)⟩) | (go_split_ands; exact ⟨cell_below (by assumption) hb3, cell_below (by assumption) hb3, cell_below (by assumption) hb3, cell_below (by assumption) hb3, Lib.hid (below_step (Hid.out (by assumption)) hb3)⟩)) (first | (go_at_call 51; refine (name_any _ _ _).mono ?_; rintro e w' ⟨rfl, hb3⟩))
        go_wp2
        have hS : Hid (Below w.heap.size w w') := by
          have h_ := ‹_ ∧ _ ∧ _ ∧ _ ∧ Hid (Below w.heap.size w w')›; exact h_.2.2.2.2
        go_ret
        exact ⟨congrArg (fun b => Ending.returned (.bool b)) (by have := HF.out; rw [if_neg hB] at this; exact this), hS.out⟩
    · have hge : decide (i < (l0.length : Int)) = false := decide_eq_false hp
      go_wp2; go_ret
      have := hf.out
      cases f with
      | zero => exact ⟨by rw [← this]; rfl, hb.out⟩
      | succ f => exact ⟨by rw [← this]; simp [risingF, hp], hb.out⟩
end Go.Proofs.YtogegkfefpgbcaaDoor.PL
