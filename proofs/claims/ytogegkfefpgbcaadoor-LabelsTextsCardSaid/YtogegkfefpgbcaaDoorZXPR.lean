/- The document's reading is the code's: name, relation, named, value. -/
import Derived.Test.YtogegkfefpgbcaaDoorZXPLx0
import Derived.Test.YtogegkfefpgbcaaDoorZXQ1
import Derived.Test.YtogegkfefpgbcaaDoorZXQ2
import Derived.Test.YtogegkfefpgbcaaDoorZXQ3
import Derived.Test.YtogegkfefpgbcaaDoorZXQ4
import Derived.Test.YtogegkfefpgbcaaDoorZXQ5
import Derived.Test.YtogegkfefpgbcaaDoorZXQ6
import Derived.Test.YtogegkfefpgbcaaDoorZXQ7
import Derived.Test.YtogegkfefpgbcaaDoorZXPO
import Derived.Test.YtogegkfefpgbcaaDoorZXPI
import Derived.Test.YtogegkfefpgbcaaDoorZXHJ
namespace Go.Proofs.YtogegkfefpgbcaaDoor.PL
open Go Go.RowKit Go.Proofs.YtogegkfefpgbcaaDoorW.PrintWords Go.Proofs.YtogegkfefpgbcaaDoorW.PrintLast Go.Proofs.YtogegkfefpgbcaaDoorW.PrintMore
set_option linter.unusedVariables false
set_option linter.unusedSimpArgs false
def badOf (w a : Int) : Int := if w = 0 then -1 else a
def isB (s : ByteArray) (i c : Int) : Bool := decide (i < s.size) && (bt s i == c)
theorem is_f (s : ByteArray) (i : Int) (m : Bool) (b y c : Int) (h : 0 ≤ i) : abacusref12_reading_is.f s i m b y c = some (isB s i c, s, i, m, b, y) := by
 unfold abacusref12_reading_is.f isB; by_cases h1 : i < (s.size : Int)
 ·rw [if_pos h1, if_pos h, decide_eq_true h1]; rfl
 ·rw [if_neg h1, decide_eq_false h1]; rfl
theorem isB_here {s : ByteArray} {i c : Int} (hc : c ≠ 0) : isB s i c = true ↔ hereB s i = c := by
 unfold isB hereB; by_cases h : i < (s.size : Int)
 ·rw [if_pos h, decide_eq_true h]; simp
 ·rw [if_neg h, decide_eq_false h]; simp; exact fun e => hc e.symm
theorem isB_lt {s : ByteArray} {i c : Int} (h : isB s i c = true) : i < s.size := by
 unfold isB at h; rw [Bool.and_eq_true, decide_eq_true_iff] at h; exact h.1
theorem failR (s : ByteArray) (i : Int) (m : Bool) (c x : Int) : abacusref12_reading_fail.f s i m (-1) 0 c x = some (s, i, m, x, c) := by
 unfold abacusref12_reading_fail.f; rw [if_pos (by omega)]
theorem failB (s : ByteArray) (i : Int) (m : Bool) (b y c x : Int) (h : 0 ≤ b) : abacusref12_reading_fail.f s i m b y c x = some (s, i, m, b, y) := by
 unfold abacusref12_reading_fail.f; rw [if_neg (by omega)]
theorem wants_yes (s : ByteArray) (i : Int) (m : Bool) (b y c : Int) (h : 0 ≤ i) (hs : s.size ≤ 2305843009213693952) (hc : isB s i c = true) : abacusref12_reading_wants.f s i m b y c = some (s, i + 1, m, b, y) := by
 have := isB_lt hc; unfold abacusref12_reading_wants.f; rw [is_f s i m b y c h, hc]; simp only [Option.bind_some, if_true]; rw [wrap64_in (by omega)]
theorem wants_no (s : ByteArray) (i : Int) (m : Bool) (c : Int) (h : 0 ≤ i) (hc : isB s i c = false) : abacusref12_reading_wants.f s i m (-1) 0 c = some (s, i, m, i, 120) := by
 unfold abacusref12_reading_wants.f; rw [is_f s i m _ _ c h, hc]; simp only [Option.bind_some, Bool.false_eq_true, if_false, failR]
theorem wants_bad (s : ByteArray) (i : Int) (m : Bool) (b y c : Int) (h : 0 ≤ i) (hi : i ≤ s.size) (hs : s.size ≤ 2305843009213693952) (hb : 0 ≤ b) : ∃ j, abacusref12_reading_wants.f s i m b y c = some (s, j, m, b, y) ∧ 0 ≤ j ∧ j ≤ s.size := by
 cases hc : isB s i c
 ·unfold abacusref12_reading_wants.f
  rw [is_f s i m _ _ c h, hc]; simp only [Option.bind_some, Bool.false_eq_true, if_false, failB s i m b y _ _ hb]; exact ⟨_, rfl, h, hi⟩
 ·have := isB_lt hc
  exact ⟨i + 1, wants_yes s i m b y c h hs hc, by omega, by omega⟩
def nameR (s : ByteArray) (i : Nat) : Nat := if i < s.size ∧ letterB (bt s (i : Int)) = true then runN s (s.size - i) (i : Int) else 0
theorem runN_max (s : ByteArray) : ∀ (n i : Nat), s.size ≤ i + n → ¬ ((i + runN s n (i : Int) < s.size) ∧ namedB (bt s ((i + runN s n (i : Int) : Nat) : Int)) = true) := by
 intro n
 induction n with
 | zero => intro i h e; simp only [runN] at e; omega
 | succ n ih =>
  intro i h e; simp only [runN] at e; by_cases hc : (i : Int) < s.size ∧ namedB (bt s (i : Int)) = true
  ·rw [if_pos hc, show ((i : Int) + 1) = ((i + 1 : Nat) : Int) by omega] at e
   refine ih (i + 1) (by omega) ?_; rw [show i + 1 + runN s n ((i + 1 : Nat) : Int) = i + (runN s n ((i + 1 : Nat) : Int) + 1) by omega]; exact e
  ·rw [if_neg hc] at e
   exact hc ⟨by omega, by simpa using e.2⟩
theorem runN_min (s : ByteArray) : ∀ (n N i : Nat), s.size ≤ i + N → runN s n (i : Int) = min n (runN s N (i : Int)) := by
 intro n
 induction n with
 | zero => intro N i h; simp [runN]
 | succ n ih =>
  intro N i h
  cases N with
  | zero =>
   simp only [runN]; rw [if_neg (by omega)]; simp
  | succ N =>
   simp only [runN]; by_cases hc : (i : Int) < s.size ∧ namedB (bt s (i : Int)) = true
   ·rw [if_pos hc, if_pos hc, show ((i : Int) + 1) = ((i + 1 : Nat) : Int) by omega, ih N (i + 1) (by omega)]
    omega
   ·rw [if_neg hc, if_neg hc]
    simp
theorem runN_fit (s : ByteArray) (n i : Nat) (h : i ≤ s.size) : i + runN s n (i : Int) ≤ s.size := by
 have := runN_le s n (i : Int) (by omega); omega
theorem refnm_l (s : ByteArray) (hs : s.size ≤ 2305843009213693952) (i : Nat) (m : Bool) (b y : Int) : ∀ (n j k : Nat), i < j → j + n = s.size → n + 2 ≤ k → abacusref12_reading_name.l0 k (i : Int) s (j : Int) m b y = abacusref12_reading_name.j1 1 (i : Int) s ((j + runN s n (j : Int) : Nat) : Int) m b y := by
 intro n
 induction n with
 | zero =>
  intro j k hij hj hk; obtain ⟨k, rfl⟩ : ∃ n, k = n + 2 := ⟨k - 2, by omega⟩; simp only [abacusref12_reading_name.l0, runN]; rw [if_neg (by omega)]; simp only [abacusref12_reading_name.j1, Nat.add_zero]
 | succ n ih =>
  intro j k hij hj hk; obtain ⟨k, rfl⟩ : ∃ n, k = n + 2 := ⟨k - 2, by omega⟩; have nx := ih (j + 1) (k + 1) (by omega) (by omega) (by omega); rw [show ((j + 1 : Nat) : Int) = (j : Int) + 1 by omega] at nx; rw [abacusref12_reading_name.l0]; rw [if_pos (by omega), if_pos (by omega), refletter_f, refdigit_f]; simp only [Option.bind_some]; rw [wrap64_in (by omega), nx, if_pos (show (j : Int) > (i : Int) by omega)]; by_cases hc : namedB (bt s (j : Int)) = true
  ·have hrun : runN s (n + 1) (j : Int) = runN s n ((j : Int) + 1) + 1 := by
    simp only [runN]; rw [if_pos ⟨by omega, hc⟩]
   rw [hrun, show j + 1 + runN s n ((j : Int) + 1) = j + (runN s n ((j : Int) + 1) + 1) by omega]; unfold namedB at hc
   cases hL : letterB (bt s (j : Int))
   ·rw [hL, Bool.false_or] at hc
    rw [hc]; simp
   ·simp
  ·have hrun : runN s (n + 1) (j : Int) = 0 := by
    simp only [runN]; rw [if_neg (fun e => hc e.2)]
   rw [hrun]; unfold namedB at hc; simp only [Bool.or_eq_true, not_or, Bool.not_eq_true] at hc; rw [hc.1, hc.2]; simp only [Bool.false_eq_true, if_false, abacusref12_reading_name.j1, Nat.add_zero]
theorem refname_f' (s : ByteArray) (hs : s.size ≤ 2305843009213693952) (i : Nat) (hi : i ≤ s.size) (m : Bool) (b y : Int) (k : Nat) (hk : s.size + 5 ≤ k) : abacusref12_reading_name.f k s (i : Int) m b y = abacusref12_reading_name.j1 1 (i : Int) s ((i + nameR s i : Nat) : Int) m b y := by
 obtain ⟨k, rfl⟩ : ∃ n, k = n + 2 := ⟨k - 2, by omega⟩; unfold abacusref12_reading_name.f nameR; rw [abacusref12_reading_name.l0]; by_cases hlt : i < s.size
 ·rw [if_pos (by omega), if_pos (by omega), refletter_f]
  simp only [Option.bind_some]
  cases hl : letterB (bt s (i : Int))
  ·rw [if_neg (by simp), if_neg (show ¬ ((i : Int) > (i : Int)) by omega), if_neg (by simp)]
   simp only [abacusref12_reading_name.j1, Nat.add_zero]
  ·rw [if_pos rfl, if_pos ⟨hlt, rfl⟩, wrap64_in (by omega)]
   have := refnm_l s hs i m b y (s.size - i - 1) (i + 1) (k + 1) (by omega) (by omega) (by omega); rw [show ((i + 1 : Nat) : Int) = (i : Int) + 1 by omega] at this; rw [this]; obtain ⟨n, hn⟩ : ∃ n, s.size - i = n + 1 := ⟨s.size - i - 1, by omega⟩
   have e : runN s (s.size - i) (i : Int) = runN s (s.size - i - 1) ((i : Int) + 1) + 1 := by
    rw [hn]; simp only [runN, Nat.add_sub_cancel]; rw [if_pos ⟨by omega, by unfold namedB; rw [hl]; rfl⟩]
   rw [e]; congr 1
   omega
 ·rw [if_neg (by omega), if_neg (fun e => hlt e.1)]
  simp only [abacusref12_reading_name.j1, Nat.add_zero]
theorem nameR_fit (s : ByteArray) (i : Nat) (hi : i ≤ s.size) : i + nameR s i ≤ s.size := by
 unfold nameR; split
 ·exact runN_fit s _ i hi
 ·omega
theorem nameN_min (s : ByteArray) (i : Nat) : nameN s (i : Int) = min 64 (nameR s i) := by
 unfold nameN nameR; by_cases h : i < s.size ∧ letterB (bt s (i : Int)) = true
 ·rw [if_pos ⟨by omega, h.2⟩, if_pos h, runN_min s 64 (s.size - i) i (by omega)]
 ·rw [if_neg (fun e => h ⟨by omega, e.2⟩), if_neg h]
  simp
theorem name_next (s : ByteArray) (i : Nat) (hi : i ≤ s.size) : (nameN s (i : Int) = 0 ∨ ((i : Int) + (nameN s (i : Int) : Int) < s.size ∧ namedB (bt s ((i : Int) + (nameN s (i : Int) : Int))) = true)) ↔ (nameR s i = 0 ∨ 64 < nameR s i) := by
 rw [nameN_min]; by_cases h : i < s.size ∧ letterB (bt s (i : Int)) = true
 ·have hR : nameR s i = runN s (s.size - i) (i : Int) := by unfold nameR; rw [if_pos h]
  have hmax := runN_max s (s.size - i) i (by omega); rw [← hR] at hmax; by_cases h64 : 64 < nameR s i
  ·rw [show min 64 (nameR s i) = 64 by omega]
   refine ⟨fun _ => .inr h64, fun _ => .inr ⟨by have := nameR_fit s i hi; omega, ?_⟩⟩; have ha := (runN_all s (s.size - i) i).2; rw [← hR] at ha; have hlen : ((bs s).drop i).length = s.size - i := by simp [bs_len]
   have hfit := nameR_fit s i hi
   have hx : ∃ x, ((bs s).drop i)[64]? = some x := by
    rw [List.getElem?_eq_getElem (by omega)]; exact ⟨_, rfl⟩
   obtain ⟨x, hx⟩ := hx
   have hm : x ∈ ((bs s).drop i).take (nameR s i) := by
    refine List.mem_of_getElem? (i := 64) ?_; rw [List.getElem?_take, if_pos h64]; exact hx
   rw [List.getElem?_drop, bs_get s (i + 64) (by omega)] at hx; have := ha x hm; rw [show ((i : Int) + ((64 : Nat) : Int)) = ((i + 64 : Nat) : Int) by omega, bt_get, Option.some.inj hx]; exact this
  ·rw [show min 64 (nameR s i) = nameR s i by omega]
   constructor
   ·rintro (e | e)
    ·exact .inl e
    ·exact absurd ⟨by omega, by rw [show ((i + nameR s i : Nat) : Int) = (i : Int) + (nameR s i : Int) by omega]; exact e.2⟩ hmax
   ·rintro (e | e)
    ·exact .inl e
    ·exact absurd e h64
 ·have hR : nameR s i = 0 := by unfold nameR; rw [if_neg h]
  rw [hR]; simp
theorem refname (s : ByteArray) (hs : s.size ≤ 2305843009213693952) (i : Nat) (hi : i ≤ s.size) (m : Bool) (at_ : Int) (k : Nat) (hk : s.size + 5 ≤ k) :
  ∃ (t : ByteArray) (j : Nat), abacusref12_reading_name.f k s (i : Int) m (-1) 0 = some (t, s, (j : Int), m, badOf (nameP s (i : Int) 0 at_).2.2.1 (nameP s (i : Int) 0 at_).2.2.2, (nameP s (i : Int) 0 at_).2.2.1) ∧ (i ≤ j ∧ j ≤ s.size) ∧ ((nameP s (i : Int) 0 at_).2.2.1 = 0 → t = (nameP s (i : Int) 0 at_).1 ∧ (j : Int) = (nameP s (i : Int) 0 at_).2.1) := by
 have hfit := nameR_fit s i hi; have hnx := name_next s i hi; have hmin := nameN_min s i; rw [refname_f' s hs i hi m _ _ k hk]; refine ⟨s.extract i (i + nameR s i), i + nameR s i, ?_, ⟨by omega, hfit⟩, ?_⟩
 ·simp only [abacusref12_reading_name.j1, failR, Option.bind_some]
  rw [wrap64_in (by omega), wrap64_in (by omega)]; unfold nameP badOf; simp only; by_cases h0 : nameR s i = 0
  ·rw [if_pos (hnx.2 (.inl h0)), if_pos (by omega), if_neg (by omega), if_pos (by omega), if_pos (by omega), if_pos (by omega)]
   simp only [failP, if_true, Int.toNat_natCast]; rw [hmin, h0]; simp
  ·rw [if_neg (by omega)]
   by_cases h64 : 64 < nameR s i
   ·rw [if_pos (hnx.2 (.inr h64)), if_pos (by omega), if_pos (by omega), if_pos (by omega), if_pos (by omega)]
    simp only [failP, if_true, Int.toNat_natCast]; rw [hmin, show min 64 (nameR s i) = 64 by omega]; simp
   ·have hn := fun e => (by rcases hnx.1 e with e | e; exact h0 e; exact h64 e : False)
    rw [if_neg (by omega), if_pos (by omega), if_pos (by omega), if_pos (by omega), if_neg hn]; simp
    rw [show ((i : Int) + (nameR s i : Int)).toNat = i + nameR s i by omega]
 ·unfold nameP
  simp only; intro hz; by_cases hc : nameR s i = 0 ∨ 64 < nameR s i
  ·rw [if_pos (hnx.2 hc)] at hz
   simp [failP] at hz
  ·have : nameN s (i : Int) = nameR s i := by rw [hmin]; omega
   rw [this]; refine ⟨?_, by omega⟩; rw [show ((i : Int) + (nameR s i : Int)).toNat = i + nameR s i by omega]; simp
def relP (s : ByteArray) (i : Int) (m : Bool) (at_ : Int) : Int × Int × Int × Int :=
 if (kindP s i m 0 at_).2.2.1 ≠ 0 then kindP s i m 0 at_
 else if hereB s (kindP s i m 0 at_).2.1 = 126 ∧ m = true ∧ (kindP s i m 0 at_).1 = 1 then (3, (kindP s i m 0 at_).2.1 + 1, (kindP s i m 0 at_).2.2) else kindP s i m 0 at_
theorem take_is {s : ByteArray} {i c : Int} (at_ : Int) (h : isB s i c = true) : takeP s i 0 at_ c = (true, i + 1, 0, at_) := by
 unfold isB at h; rw [Bool.and_eq_true, decide_eq_true_iff, beq_iff_eq] at h; unfold takeP; rw [if_pos h]
theorem take_isnt {s : ByteArray} {i c : Int} (at_ : Int) (h : isB s i c = false) : takeP s i 0 at_ c = (false, i, 120, i) := by
 unfold isB at h; unfold takeP; rw [if_neg (fun e => by rw [decide_eq_true e.1, beq_iff_eq.2 e.2] at h; cases h)]; rfl
theorem refrel (s : ByteArray) (hs : s.size ≤ 2305843009213693952) (i : Nat) (hi : i ≤ s.size) (m : Bool) (at_ : Int) (k : Nat) (hk : 2 ≤ k) :
  ∃ (c : Int) (j : Nat), abacusref12_reading_relation.f k s (i : Int) m (-1) 0 = some (c, s, (j : Int), m, badOf (relP s (i : Int) m at_).2.2.1 (relP s (i : Int) m at_).2.2.2, (relP s (i : Int) m at_).2.2.1) ∧ (i ≤ j ∧ j ≤ s.size) ∧ ((relP s (i : Int) m at_).2.2.1 = 0 → c = (relP s (i : Int) m at_).1 ∧ (j : Int) = (relP s (i : Int) m at_).2.1) := by
 obtain ⟨k, rfl⟩ : ∃ n, k = n + 1 := ⟨k - 1, by omega⟩; unfold abacusref12_reading_relation.f; rw [is_f s (i : Int) m _ _ _ (by omega)]; simp only [Option.bind_some]; by_cases h61 : isB s (i : Int) 61 = true
 ·have hlt := isB_lt h61
  have hh := (isB_here (by decide)).1 h61
  have hK : kindP s (i : Int) m 0 at_ = (1, (i : Int) + 1, 0, at_) := by
   unfold kindP; rw [if_neg (show ¬ (hereB s (i : Int) = 33 ∧ m = true) by rw [hh]; simp), take_is at_ h61]
  unfold relP; rw [hK, if_pos h61, wrap64_in (by omega)]; simp only [ne_eq, not_true_eq_false, if_false]
  cases m
  ·rw [if_neg (by simp), if_neg (by simp)]
   exact ⟨1, i + 1, rfl, ⟨by omega, by omega⟩, fun _ => ⟨rfl, rfl⟩⟩
  ·rw [if_pos rfl, is_f s ((i : Int) + 1) true _ _ _ (by omega)]
   simp only [Option.bind_some]; by_cases h126 : isB s ((i : Int) + 1) 126 = true
   ·have hlt2 := isB_lt h126
    rw [if_pos h126, if_pos ⟨(isB_here (by decide)).1 h126, by trivial, by trivial⟩, wrap64_in (by omega)]; exact ⟨3, i + 2, by simp only [badOf, if_true]; congr 4 <;> omega, ⟨by omega, by omega⟩, fun _ => ⟨rfl, by simp only; omega⟩⟩
   ·rw [if_neg h126, if_neg (fun e => h126 ((isB_here (by decide)).2 e.1))]
    exact ⟨1, i + 1, rfl, ⟨by omega, by omega⟩, fun _ => ⟨rfl, rfl⟩⟩
 ·have h61' : isB s (i : Int) 61 = false := by simpa using h61
  rw [if_neg h61]
  have hF : ∀ x : Int × Int × Int × Int, x = (1, (i : Int), 120, (i : Int)) → kindP s (i : Int) m 0 at_ = x → ∃ (c : Int) (j : Nat), abacusref12_reading_relation.j0 (k + 1) false s (i : Int) m (-1) 0 = some (c, s, (j : Int), m, badOf (relP s (i : Int) m at_).2.2.1 (relP s (i : Int) m at_).2.2.2, (relP s (i : Int) m at_).2.2.1) ∧ (i ≤ j ∧ j ≤ s.size) ∧ ((relP s (i : Int) m at_).2.2.1 = 0 → c = (relP s (i : Int) m at_).1 ∧ (j : Int) = (relP s (i : Int) m at_).2.1) := by
   rintro x rfl hK; unfold relP; rw [hK]; simp only [abacusref12_reading_relation.j0, Bool.false_eq_true, if_false, failR, Option.bind_some]; rw [if_pos (by simp)]; exact ⟨0, i, rfl, ⟨by omega, hi⟩, fun h => absurd h (by simp)⟩
  cases m
  ·rw [if_neg (by simp)]
   refine hF _ rfl ?_; unfold kindP; rw [if_neg (by simp), take_isnt at_ h61']
  ·rw [if_pos rfl, is_f s (i : Int) true _ _ _ (by omega)]
   simp only [Option.bind_some]; by_cases h33 : isB s (i : Int) 33 = true
   ·have hlt := isB_lt h33
    have hh := (isB_here (by decide)).1 h33; rw [h33]; simp only [abacusref12_reading_relation.j0, if_true]; rw [wrap64_in (by omega), is_f s ((i : Int) + 1) true _ _ _ (by omega)]; simp only [Option.bind_some]; by_cases h2 : isB s ((i : Int) + 1) 61 = true
    ·have hlt2 := isB_lt h2
     have hh2 := (isB_here (by decide)).1 h2
     have hK : kindP s (i : Int) true 0 at_ = (2, (i : Int) + 1 + 1, 0, at_) := by
      unfold kindP; rw [if_pos ⟨hh, rfl⟩, if_neg (by rw [hh2]; simp), take_is at_ h2]
     unfold relP; rw [hK, if_pos h2, wrap64_in (by omega)]; simp only [ne_eq, not_true_eq_false, if_false]; rw [if_neg (by simp)]; exact ⟨2, i + 2, by simp only [badOf, if_true]; congr 4 <;> omega, ⟨by omega, by omega⟩, fun _ => ⟨rfl, by simp only; omega⟩⟩
    ·have h2' : isB s ((i : Int) + 1) 61 = false := by simpa using h2
     rw [if_neg h2, is_f s ((i : Int) + 1) true _ _ _ (by omega)]; simp only [Option.bind_some]; by_cases h3 : isB s ((i : Int) + 1) 126 = true
     ·have hlt2 := isB_lt h3
      have hK : kindP s (i : Int) true 0 at_ = (4, (i : Int) + 2, 0, at_) := by
       unfold kindP; rw [if_pos ⟨hh, rfl⟩, if_pos ((isB_here (by decide)).1 h3)]
      unfold relP; rw [hK, if_pos h3, wrap64_in (by omega)]; simp only [ne_eq, not_true_eq_false, if_false]; rw [if_neg (by simp)]; exact ⟨4, i + 2, by simp only [badOf, if_true]; congr 4 <;> omega, ⟨by omega, by omega⟩, fun _ => ⟨rfl, by simp only; omega⟩⟩
     ·have hK : kindP s (i : Int) true 0 at_ = (2, (i : Int) + 1, 120, (i : Int) + 1) := by
       unfold kindP; rw [if_pos ⟨hh, rfl⟩, if_neg (fun e => h3 ((isB_here (by decide)).2 e)), take_isnt at_ h2']
      unfold relP; rw [hK, if_neg h3]; simp only [failR, Option.bind_some]; rw [if_pos (by simp)]; exact ⟨0, i + 1, rfl, ⟨by omega, by omega⟩, fun h => absurd h (by simp)⟩
   ·have h33' : isB s (i : Int) 33 = false := by simpa using h33
    rw [h33']; refine hF _ rfl ?_; unfold kindP; rw [if_neg (fun e => h33 ((isB_here (by decide)).2 e.1)), take_isnt at_ h61']
theorem refrel_bad (s : ByteArray) (hs : s.size ≤ 2305843009213693952) (i : Nat) (hi : i ≤ s.size) (m : Bool) (b y : Int) (hb : 0 ≤ b) (k : Nat) (hk : 2 ≤ k) :
  ∃ (c : Int) (j : Nat), abacusref12_reading_relation.f k s (i : Int) m b y = some (c, s, (j : Int), m, b, y) ∧ (i ≤ j ∧ j ≤ s.size) := by
 obtain ⟨k, rfl⟩ : ∃ n, k = n + 1 := ⟨k - 1, by omega⟩; unfold abacusref12_reading_relation.f; rw [is_f s (i : Int) m _ _ _ (by omega)]; simp only [Option.bind_some]
 have j0f : ∃ (c : Int) (j : Nat), abacusref12_reading_relation.j0 (k + 1) false s (i : Int) m b y = some (c, s, (j : Int), m, b, y) ∧ (i ≤ j ∧ j ≤ s.size) := by
  simp only [abacusref12_reading_relation.j0, Bool.false_eq_true, if_false, failB s _ m b y _ _ hb, Option.bind_some]; exact ⟨_, i, rfl, by omega, hi⟩
 by_cases h61 : isB s (i : Int) 61 = true
 ·have hlt := isB_lt h61
  rw [if_pos h61, wrap64_in (by omega)]
  cases m
  ·rw [if_neg (by simp)]
   exact ⟨_, i + 1, rfl, by omega, by omega⟩
  ·rw [if_pos rfl, is_f s ((i : Int) + 1) true _ _ _ (by omega)]
   simp only [Option.bind_some]; by_cases h126 : isB s ((i : Int) + 1) 126 = true
   ·have hlt2 := isB_lt h126
    rw [if_pos h126, wrap64_in (by omega)]; exact ⟨_, i + 2, by congr 4 <;> omega, by omega, by omega⟩
   ·rw [if_neg h126]
    exact ⟨_, i + 1, rfl, by omega, by omega⟩
 ·rw [if_neg h61]
  cases m
  ·rw [if_neg (by simp)]
   exact j0f
  ·rw [if_pos rfl, is_f s (i : Int) true _ _ _ (by omega)]
   simp only [Option.bind_some]
   cases h33 : isB s (i : Int) 33
   ·exact j0f
   ·have hlt := isB_lt h33
    simp only [abacusref12_reading_relation.j0, if_true]; rw [wrap64_in (by omega), is_f s ((i : Int) + 1) true _ _ _ (by omega)]; simp only [Option.bind_some]; by_cases h2 : isB s ((i : Int) + 1) 61 = true
    ·have hlt2 := isB_lt h2
     rw [if_pos h2, wrap64_in (by omega)]; exact ⟨_, i + 2, by congr 4 <;> omega, by omega, by omega⟩
    ·rw [if_neg h2, is_f s ((i : Int) + 1) true _ _ _ (by omega)]
     simp only [Option.bind_some]; by_cases h3 : isB s ((i : Int) + 1) 126 = true
     ·have hlt2 := isB_lt h3
      rw [if_pos h3, wrap64_in (by omega)]; exact ⟨_, i + 2, by congr 4 <;> omega, by omega, by omega⟩
     ·rw [if_neg h3, failB s _ _ b y _ _ hb]
      simp only [Option.bind_some]; exact ⟨_, i + 1, rfl, by omega, by omega⟩
end Go.Proofs.YtogegkfefpgbcaaDoor.PL
