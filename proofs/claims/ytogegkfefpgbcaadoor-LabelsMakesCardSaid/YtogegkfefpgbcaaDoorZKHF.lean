/- labels.Make. -/
import Derived.Test.YtogegkfefpgbcaaDoorZKPLx0
import Derived.Test.YtogegkfefpgbcaaDoorZKQ1
import Derived.Test.YtogegkfefpgbcaaDoorZKQ2
import Derived.Test.YtogegkfefpgbcaaDoorZKQ3
import Derived.Test.YtogegkfefpgbcaaDoorZKQ4
import Derived.Test.YtogegkfefpgbcaaDoorZKPA
import Derived.Test.YtogegkfefpgbcaaDoorZKHD
import Derived.Lib.Hide
import Derived.IntWalk
import Derived.Deep.RegionHeld3
import Derived.Outline
namespace Go.Proofs.YtogegkfefpgbcaaDoor.PL
open Go.RowKit Go.Proofs.YtogegkfefpgbcaaDoorW.PrintWords Go.Proofs.YtogegkfefpgbcaaDoorW.PrintLast Go.Proofs.YtogegkfefpgbcaaDoorW.PrintMore
set_option linter.unusedVariables false
set_option linter.unusedSimpArgs false

def sameName (x y : S59) : Bool := y.f0.toList == x.f0.toList

set_option maxHeartbeats 400000 in
set_option maxRecDepth 100000 in
theorem make1_any (x y : S59) (nb : Nat) (W : World) (hk : W.cell? ⟨nb, 0, none⟩ = some (.string x.f0)) :
    Calls Tryd.prog 72 #[.agg #[.string y.f0, .string y.f1], .pointer (some ⟨nb, 0, none⟩)] W fun e w' => e = .returned (.bool (sameName x y)) ∧ Below W.heap.size W w' := by
  have hu59 := Tryd.underlying59
  have hk2 := cell_allocD hk (.cells #[.string y.f0, .string y.f1] 59)
  unfold sameName
  go_enter Tryd.func72, Tryd.ntmps72
  go_wp2
  go_ret
  refine ⟨rfl, ?_⟩
  repeat (first | with_reducible exact Below.refl _ _ | with_reducible apply below_alloc | with_reducible apply pw_below_drewN | with_reducible apply below_drew1)

/-- The first place from i on (n of them) with that name; -1: none. -/
def idxF (x : S59) (ys : List S59) : Nat → Int → Int
  | 0, _ => -1
  | n + 1, i => if sameName x (rd_T59 ys i) = true then i else idxF x ys n (i + 1)

set_option maxHeartbeats 1000000 in
set_option maxRecDepth 100000 in
theorem index_any (x : S59) (nb : Nat) (A : Option Addr) (c : Nat) (ys : List S59) (w : World) (hr : Kd.C k59 w A ys.length ys) (hk : w.cell? ⟨nb, 0, none⟩ = some (.string x.f0)) :
    Calls Tryd.prog 91 #[.slice A ys.length c, .func (.func 72) #[] #[.pointer (some ⟨nb, 0, none⟩)]] w fun e w' => e = .returned (.int .i64 (idxF x ys ys.length 0)) ∧ Below w.heap.size w w' := by
  have hlen : Hid ((ys.length : Int) ≤ 9223372036854775807) := Lib.hid (by have := hr.2.1; omega)
  have H0 := Lib.hid hr
  have HK := Lib.hid hk
  have hu59 := Tryd.underlying59
  clear hr hk
  obtain ⟨R, hR⟩ : ∃ R, idxF x ys ys.length 0 = R := ⟨_, rfl⟩
  have HR := Lib.hid hR
  rw [hR]
  clear hR
  go_enter Tryd.func91, Tryd.ntmps91
  go_wp2
  go_loopw [8] (fun v wr => ∃ (i : Int) (n : Nat), v = .int .i64 i ∧ 0 ≤ i ∧ Hid (i + n = ys.length) ∧ Hid (Below w.heap.size w wr) ∧ Hid (idxF x ys n i = R)) (fun v _ => ys.length - (intOf v).toNat)
  case atStart => exact ⟨0, ys.length, rfl, by omega, Lib.hid (by omega), Lib.hid (Below.refl _ _), HR⟩
  case round =>
    obtain ⟨i, n, rfl, hi0, hin, hb, hf⟩ := hrel
    by_cases hp : i < (ys.length : Int)
    · obtain ⟨n, rfl⟩ : ∃ n', n = n' + 1 := ⟨n - 1, by have := hin.out; omega⟩
      have hC := Kd.C_below H0.out hb.out
      have hK := cell_below HK.out hb.out
      obtain ⟨ad, e1, hx0, hx1⟩ := at_T59 hC i hi0 hp
      subst e1
      obtain ⟨q, hq⟩ : ∃ q, sameName x (rd_T59 ys i) = q := ⟨_, rfl⟩
      have HF : Hid (if q = true then i = R else idxF x ys n (i + 1) = R) := Lib.hid (by have := hf.out; simp only [idxF, hq] at this; split <;> simp_all)
      have HC := Lib.hid hC
      have HK2 := Lib.hid hK
      have hiw : IntKind.i64.wrap (i + 1) = i + 1 := IntWalk.i64_in _ (by have := hlen.out; omega)
      clear hf hC hK
      have HQ := Lib.hid hq
      clear hq
      cases q
      · go_wp2_with (first | (go_at_call 72; (with_reducible refine (make1_any x (rd_T59 ys i) nb _ HK2.out).mono ?_); rw [HQ.out]; rintro e w' ⟨rfl, hb3⟩; have hb4 := Lib.hid hb3; clear hb3))
        go_roundw
        case rel => exact ⟨i + 1, n, rfl, by omega, Lib.hid (by have := hin.out; omega), Lib.hid (below_step hb.out hb4.out), Lib.hid (by have := HF.out; rw [if_neg (by simp)] at this; exact this)⟩
        case measure => simp [intOf]; omega
      · go_wp2_with (first | (go_at_call 72; (with_reducible refine (make1_any x (rd_T59 ys i) nb _ HK2.out).mono ?_); rw [HQ.out]; rintro e w' ⟨rfl, hb3⟩; have hb4 := Lib.hid hb3; clear hb3))
        go_ret
        exact ⟨congrArg (fun z => Ending.returned (.int .i64 z)) (by have := HF.out; simpa using this), below_step hb.out hb4.out⟩
    · have hge : decide (i < (ys.length : Int)) = false := decide_eq_false hp
      obtain rfl : n = 0 := by have := hin.out; omega
      go_wp2
      go_ret
      exact ⟨congrArg (fun z => Ending.returned (.int .i64 z)) (by have := hf.out; simpa [idxF] using this), hb.out⟩

theorem idxF_any (x : S59) (ys : List S59) : ∀ (n : Nat) (i : Int), 0 ≤ i → i + n = ys.length → decide (0 ≤ idxF x ys n i) = (ys.drop i.toNat).any (sameName x) := by
  intro n
  induction n with
  | zero =>
    intro i h0 h1
    rw [List.drop_eq_nil_of_le (by omega)]
    rfl
  | succ n ih =>
    intro i h0 h1
    have hl : i.toNat < ys.length := by omega
    rw [List.drop_eq_getElem_cons hl, List.any_cons]
    have e : rd_T59 ys i = ys[i.toNat] := by simp [rd_T59, hl]
    unfold idxF
    rw [e]
    cases h : sameName x ys[i.toNat]
    · have := ih (i + 1) (by omega) (by omega)
      rw [show (i + 1).toNat = i.toNat + 1 by omega] at this
      simpa using this
    · simpa using h0

set_option maxHeartbeats 400000 in
set_option maxRecDepth 100000 in
theorem contains_any (x : S59) (nb : Nat) (A : Option Addr) (c : Nat) (ys : List S59) (w : World) (hr : Kd.C k59 w A ys.length ys) (hk : w.cell? ⟨nb, 0, none⟩ = some (.string x.f0)) :
    Calls Tryd.prog 71 #[.slice A ys.length c, .func (.func 72) #[] #[.pointer (some ⟨nb, 0, none⟩)]] w fun e w' => e = .returned (.bool (ys.any (sameName x))) ∧ Below w.heap.size w w' := by
  have hA := idxF_any x ys ys.length 0 (by omega) (by omega)
  obtain ⟨z, hz⟩ : ∃ z, idxF x ys ys.length 0 = z := ⟨_, rfl⟩
  have hc := index_any x nb A c ys w hr hk
  rw [hz] at hc hA
  have HC := Lib.hid hc
  have HA := Lib.hid hA
  clear hc hr hk hA hz
  obtain ⟨q, hq⟩ : ∃ q, ys.any (sameName x) = q := ⟨_, rfl⟩
  rw [hq]
  have HQ := Lib.hid hq
  clear hq
  go_enter Tryd.func71, Tryd.ntmps71
  go_wp2_with (first | (go_at_call 91; (with_reducible refine HC.out.mono ?_); rintro e w' ⟨rfl, hb3⟩; have hb4 := Lib.hid hb3; clear hb3))
  go_ret
  exact ⟨congrArg (fun z => Ending.returned (.bool z)) (by rw [← HQ.out]; simpa using HA.out), hb4.out⟩

theorem C_take0 {A : Option Addr} {l : List S59} {w : World} (h : Kd.C k59 w A l.length l) (m : Nat) (hm : m ≤ l.length) : Kd.C k59 w A (l.take m).length (l.take m) := by
  refine ⟨rfl, by have := h.2.1; simp; omega, fun h0 => ?_⟩
  obtain ⟨ad, e, hc⟩ := h.2.2 (by simp at h0; omega)
  refine ⟨ad, e, fun j p hp => hc j p ?_⟩
  rw [List.getElem?_take] at hp
  split at hp
  · exact hp
  · cases hp
theorem contains_take (x : S59) (nb : Nat) (A : Option Addr) (c m : Nat) (l : List S59) (w : World) (hr : Kd.C k59 w A l.length l) (hm : m ≤ l.length) (hk : w.cell? ⟨nb, 0, none⟩ = some (.string x.f0)) (q : Bool) (hq : (l.take m).any (sameName x) = q) :
    Calls Tryd.prog 71 #[.slice A m c, .func (.func 72) #[] #[.pointer (some ⟨nb, 0, none⟩)]] w fun e w' => e = .returned (.bool q) ∧ Below w.heap.size w w' := by
  have := contains_any x nb A c (l.take m) w (C_take0 hr m hm) hk
  rw [List.length_take, Nat.min_eq_left hm, hq] at this
  exact this
/-- The first label from i on (n of them) that is not fine. -/
def firstBad (l : List S59) : Nat → Int → Option Int
  | 0, _ => none
  | n + 1, i => if fineB (rd_T59 l i).f0 (rd_T59 l i).f1 = true then firstBad l n (i + 1) else some i
/-- The first label from i on (n of them) whose name stands ahead of it, too. -/
def firstTwice (l : List S59) : Nat → Int → Option Int
  | 0, _ => none
  | n + 1, i => if (l.take i.toNat).any (sameName (rd_T59 l i)) = true then some i else firstTwice l n (i + 1)
def labels_Make.f (l0 : List (S59)) : Option ((List (S59)) × Int × Int) :=
  match firstBad l0 l0.length 0 with
  | some i => some ([], 120, i)
  | none => match firstTwice l0 l0.length 0 with
    | some i => some ([], 121, i)
    | none => if 32 < l0.length then some ([], 3, 0) else some (sortN l0, 0, 0)
def MakeIs (l0 : List S59) (r1 : List S59) (r2 r3 : Int) : Prop := labels_Make.f l0 = some (r1, r2, r3)

set_option maxHeartbeats 2000000 in
set_option maxRecDepth 100000 in
theorem labels_Make.calls (A0 : Option Addr) (c0 : Nat) (l0 : List (S59)) (r1 : List (S59)) (r2 : Int) (r3 : Int) (w : World) (hr0 : Kd.C k59 w A0 l0.length l0) (hc0 : l0.length ≤ c0) (hG : G w) (h : labels_Make.f l0 = some (r1, r2, r3)) :
    Calls Tryd.prog 34 #[.slice A0 l0.length c0] w fun e w' => ∃ v0_ : Value, e = .returned (.tuple #[v0_, .int .i64 r2, .int .i64 r3]) ∧ Kd.R k59 59 w' w.heap.size (fun _ => True) v0_ r1 ∧ Below w.heap.size w w' := by
  have hlen : Hid ((l0.length : Int) ≤ 9223372036854775807) := Lib.hid (by have := hr0.2.1; omega)
  have HC0 := Lib.hid hc0
  have H0 := Lib.hid hr0
  have HG := Lib.hid hG
  have hu59 := Tryd.underlying59
  have HM : Hid (MakeIs l0 r1 r2 r3) := Lib.hid h
  obtain ⟨R, hR⟩ : ∃ R, firstBad l0 l0.length 0 = R := ⟨_, rfl⟩
  have HR := Lib.hid hR
  clear hr0 hG h hR hc0
  go_enter Tryd.func34, Tryd.ntmps34
  go_wp2
  go_loopw [11] (fun v wr => ∃ (i : Int) (n : Nat), v = .int .i64 i ∧ 0 ≤ i ∧ Hid (i + n = l0.length) ∧ Hid (Below w.heap.size w wr) ∧ Hid (firstBad l0 n i = R)) (fun v _ => l0.length - (intOf v).toNat)
  case atStart => exact ⟨0, l0.length, rfl, by omega, Lib.hid (by omega), Lib.hid (Below.refl _ _), HR⟩
  case round =>
    obtain ⟨i, n, rfl, hi0, hin, hb, hf⟩ := hrel
    by_cases hp : i < (l0.length : Int)
    · obtain ⟨n, rfl⟩ : ∃ n', n = n' + 1 := ⟨n - 1, by have := hin.out; omega⟩
      obtain ⟨ad, e1, hx0, hx1⟩ := at_T59 (Kd.C_below H0.out hb.out) i hi0 hp
      subst e1
      obtain ⟨q, hq⟩ : ∃ q, fineB (rd_T59 l0 i).f0 (rd_T59 l0 i).f1 = q := ⟨_, rfl⟩
      have HF : Hid (if q = true then firstBad l0 n (i + 1) = R else some i = R) := Lib.hid (by have := hf.out; simp only [firstBad, hq] at this; split <;> simp_all)
      have hiw : IntKind.i64.wrap (i + 1) = i + 1 := IntWalk.i64_in _ (by have := hlen.out; omega)
      clear hf
      have HQ := Lib.hid ((fine_f (rd_T59 l0 i).f0 (rd_T59 l0 i).f1 70 (by omega)).trans (congrArg some hq))
      clear hq
      cases q
      · go_wp2_with (first | (go_at_call 65; (with_reducible refine (labels_fine.calls 70 (rd_T59 l0 i).f0 (rd_T59 l0 i).f1 false _ ?hg HQ.out).mono ?_); (case hg => exact G.below HG.out (by repeat (first | exact hb.out | apply below_alloc | (refine below_set ?_ hb.out.size)))); rintro e w' ⟨rfl, hb3⟩; have hb4 := Lib.hid hb3; clear hb3))
        go_ret3
        have hR2 : firstBad l0 l0.length 0 = some i := by have := HF.out; rw [if_neg (by simp)] at this; rw [HR.out, this]
        have hM := HM.out
        unfold MakeIs labels_Make.f at hM
        rw [hR2] at hM
        simp only [Option.some.injEq, Prod.mk.injEq] at hM
        obtain ⟨rfl, rfl, rfl⟩ := hM
        exact ⟨_, rfl, Kd.R_nil _ _ _ _ _, below_step (by repeat (first | exact hb.out | apply below_alloc | (refine below_set ?_ hb.out.size))) hb4.out⟩
      · go_wp2_with (first | (go_at_call 65; (with_reducible refine (labels_fine.calls 70 (rd_T59 l0 i).f0 (rd_T59 l0 i).f1 true _ ?hg HQ.out).mono ?_); (case hg => exact G.below HG.out (by repeat (first | exact hb.out | apply below_alloc | (refine below_set ?_ hb.out.size)))); rintro e w' ⟨rfl, hb3⟩; have hb4 := Lib.hid hb3; clear hb3))
        go_roundw
        case rel => exact ⟨i + 1, n, rfl, by omega, Lib.hid (by have := hin.out; omega), Lib.hid (below_step (by repeat (first | exact hb.out | apply below_alloc | (refine below_set ?_ hb.out.size))) hb4.out), Lib.hid (by simpa using HF.out)⟩
        case measure => simp [intOf]; omega
    · have hge : decide (i < (l0.length : Int)) = false := decide_eq_false hp
      obtain rfl : n = 0 := by have := hin.out; omega
      have hR0 : R = none := by have := hf.out; simpa [firstBad] using this.symm
      subst hR0
      obtain ⟨S, hS⟩ : ∃ S, firstTwice l0 l0.length 0 = S := ⟨_, rfl⟩
      have HS := Lib.hid hS
      clear hS hf
      have HB1 := hb
      clear hb
      obtain ⟨wo, hwo⟩ : ∃ wo : World, wo = wr := ⟨_, rfl⟩
      subst hwo
      go_wp2
      go_loopw [23] (fun v wr => ∃ (i : Int) (n : Nat), v = .int .i64 i ∧ 0 ≤ i ∧ Hid (i + n = l0.length) ∧ Hid (Below w.heap.size w wr) ∧ Hid (firstTwice l0 n i = S)) (fun v _ => l0.length - (intOf v).toNat)
      case atStart => exact ⟨0, l0.length, rfl, by omega, Lib.hid (by omega), HB1, HS⟩
      case round =>
        obtain ⟨i, n, rfl, hi0, hin, hb, hf⟩ := hrel
        by_cases hp : i < (l0.length : Int)
        · obtain ⟨n, rfl⟩ : ∃ n', n = n' + 1 := ⟨n - 1, by have := hin.out; omega⟩
          obtain ⟨ad, e1, hx0, hx1⟩ := at_T59 (Kd.C_below H0.out hb.out) i hi0 hp
          subst e1
          obtain ⟨q, hq⟩ : ∃ q, (l0.take i.toNat).any (sameName (rd_T59 l0 i)) = q := ⟨_, rfl⟩
          have HF : Hid (if q = true then some i = S else firstTwice l0 n (i + 1) = S) := Lib.hid (by have := hf.out; simp only [firstTwice, hq] at this; split <;> simp_all)
          have hiw : IntKind.i64.wrap (i + 1) = i + 1 := IntWalk.i64_in _ (by have := hlen.out; omega)
          have hiL : i.toNat ≤ l0.length := by omega
          have hic : i ≤ (c0 : Int) := by have := HC0.out; omega
          clear hf
          have HQ := Lib.hid hq
          clear hq
          cases q
          · go_wp2_with (first | (go_at_call 71; (with_reducible refine (contains_take (rd_T59 l0 i) wr.heap.size (some ad) c0 i.toNat l0 _ ?hr hiL ?hk false HQ.out).mono ?_); (case hr => exact Kd.C_below H0.out (by repeat (first | exact hb.out | apply below_alloc | (refine below_set ?_ hb.out.size)))); (case hk => first | exact (blk_cell (heap_alloc_new _ _) 0).trans rfl | go_simp); rintro e w' ⟨rfl, hb3⟩; have hb4 := Lib.hid hb3; clear hb3))
            go_roundw
            case rel => exact ⟨i + 1, n, rfl, by omega, Lib.hid (by have := hin.out; omega), Lib.hid (below_step (by repeat (first | exact hb.out | apply below_alloc | (refine below_set ?_ hb.out.size))) hb4.out), Lib.hid (by simpa using HF.out)⟩
            case measure => simp [intOf]; omega
          · go_wp2_with (first | (go_at_call 71; (with_reducible refine (contains_take (rd_T59 l0 i) wr.heap.size (some ad) c0 i.toNat l0 _ ?hr hiL ?hk true HQ.out).mono ?_); (case hr => exact Kd.C_below H0.out (by repeat (first | exact hb.out | apply below_alloc | (refine below_set ?_ hb.out.size)))); (case hk => first | exact (blk_cell (heap_alloc_new _ _) 0).trans rfl | go_simp); rintro e w' ⟨rfl, hb3⟩; have hb4 := Lib.hid hb3; clear hb3))
            go_ret3
            have hS2 : firstTwice l0 l0.length 0 = some i := by have := HF.out; simp only [if_true] at this; rw [HS.out, this]
            have hM := HM.out
            unfold MakeIs labels_Make.f at hM
            rw [HR.out, hS2] at hM
            simp only [Option.some.injEq, Prod.mk.injEq] at hM
            obtain ⟨rfl, rfl, rfl⟩ := hM
            exact ⟨_, rfl, Kd.R_nil _ _ _ _ _, below_step (by repeat (first | exact hb.out | apply below_alloc | (refine below_set ?_ hb.out.size))) hb4.out⟩
        · have hge : decide (i < (l0.length : Int)) = false := decide_eq_false hp
          obtain rfl : n = 0 := by have := hin.out; omega
          have hS0 : S = none := by have := hf.out; simpa [firstTwice] using this.symm
          subst hS0
          by_cases h32 : 32 < l0.length
          · have h32i : decide ((32 : Int) < (l0.length : Int)) = true := decide_eq_true (by omega)
            have h32n : decide (32 < l0.length) = true := decide_eq_true h32
            go_wp2
            go_ret3
            have hM := HM.out
            unfold MakeIs labels_Make.f at hM
            rw [HR.out, HS.out] at hM
            simp only [if_pos h32, Option.some.injEq, Prod.mk.injEq] at hM
            obtain ⟨rfl, rfl, rfl⟩ := hM
            exact ⟨_, rfl, Kd.R_nil _ _ _ _ _, hb.out⟩
          · have h32i : decide ((32 : Int) < (l0.length : Int)) = false := decide_eq_false (by omega)
            have h32n : decide (32 < l0.length) = false := decide_eq_false h32
            have hsm : Hid (api_Label_string_50.f l0 = some (sortN l0)) := Lib.hid (by unfold api_Label_string_50.f; rw [if_pos (by omega)])
            go_wp2_with (first | (go_at_call 50; (with_reducible refine (api_Label_string_50.calls _ _ l0 (sortN l0) _ (Kd.C_below H0.out hb.out) HC0.out hsm.out).mono ?_); rintro e w' ⟨v0, rfl, ho3, hb3⟩; have ho4 := Lib.hid ho3; have hb4 := Lib.hid hb3; clear ho3 hb3))
            go_ret3
            have hM := HM.out
            unfold MakeIs labels_Make.f at hM
            rw [HR.out, HS.out] at hM
            simp only [if_neg h32, Option.some.injEq, Prod.mk.injEq] at hM
            obtain ⟨rfl, rfl, rfl⟩ := hM
            exact ⟨_, rfl, Kd.R_lower ho4.out hb.out.size, below_step hb.out hb4.out⟩
end Go.Proofs.YtogegkfefpgbcaaDoor.PL
