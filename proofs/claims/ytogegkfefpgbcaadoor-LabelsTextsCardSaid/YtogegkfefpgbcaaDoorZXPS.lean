/- The document's named and value are the code's. -/
import Derived.Test.YtogegkfefpgbcaaDoorZXPLx0
import Derived.Test.YtogegkfefpgbcaaDoorZXQ1
import Derived.Test.YtogegkfefpgbcaaDoorZXQ2
import Derived.Test.YtogegkfefpgbcaaDoorZXQ3
import Derived.Test.YtogegkfefpgbcaaDoorZXQ4
import Derived.Test.YtogegkfefpgbcaaDoorZXQ5
import Derived.Test.YtogegkfefpgbcaaDoorZXQ6
import Derived.Test.YtogegkfefpgbcaaDoorZXQ7
import Derived.Test.YtogegkfefpgbcaaDoorZXPR
namespace Go.Proofs.YtogegkfefpgbcaaDoor.PL
open Go Go.RowKit Go.Proofs.YtogegkfefpgbcaaDoorW.PrintWords Go.Proofs.YtogegkfefpgbcaaDoorW.PrintLast Go.Proofs.YtogegkfefpgbcaaDoorW.PrintMore
set_option linter.unusedVariables false
set_option linter.unusedSimpArgs false
theorem dupF_keep (m : Bool) (nm : ByteArray) (from_ : Int) (l : List S36) : ∀ (n : Nat) (j : Int) (p : Int × Int), p.1 ≠ 0 → dupF m nm from_ l n j p = p := by
 intro n
 induction n with
 | zero => intro j p _; rfl
 | succ n ih =>
  intro j p h; simp only [dupF]
  have : (if m = false ∧ (rd_T36 l j).f1.toList = nm.toList then failP p.1 p.2 121 from_ else p) = p := by
   split
   ·unfold failP
    rw [if_neg h]
   ·rfl
  rw [this]; exact ih _ _ h
theorem dupF_true (nm : ByteArray) (from_ : Int) (l : List S36) : ∀ (n : Nat) (j : Int) (p : Int × Int), dupF true nm from_ l n j p = p := by
 intro n
 induction n with
 | zero => intro j p; rfl
 | succ n ih =>
  intro j p; simp only [dupF]; rw [if_neg (by simp)]; exact ih _ _
theorem fail_of (s : ByteArray) (i : Int) (m : Bool) (p : Int × Int) (hp : p.1 ≠ 0 → 0 ≤ p.2) (c x : Int) (hc : c ≠ 0) : abacusref12_reading_fail.f s i m (badOf p.1 p.2) p.1 c x = some (s, i, m, badOf (failP p.1 p.2 c x).1 (failP p.1 p.2 c x).2, (failP p.1 p.2 c x).1) := by
 unfold abacusref12_reading_fail.f badOf failP; by_cases h : p.1 = 0
 ·simp [h, hc]
 ·have := hp h
  rw [if_neg h, if_neg h, if_neg (by omega)]; simp [h]
theorem refnamed_l (s : ByteArray) (i : Int) (m : Bool) (l : List S36) (hl : l.length ≤ 9223372036854775807) (nm : ByteArray) (from_ : Int) (hf : 0 ≤ from_) : ∀ (n j k : Nat) (p : Int × Int), j + n = l.length → 2 * n + 2 ≤ k → (p.1 ≠ 0 → 0 ≤ p.2) →
  abacusref12_reading_named.l0 k l nm from_ (j : Int) s i m (badOf p.1 p.2) p.1 = some (s, i, m, badOf (dupF m nm from_ l n (j : Int) p).1 (dupF m nm from_ l n (j : Int) p).2, (dupF m nm from_ l n (j : Int) p).1) := by
 intro n
 induction n with
 | zero =>
  intro j k p hj hk hp; obtain ⟨k, rfl⟩ : ∃ n, k = n + 2 := ⟨k - 2, by omega⟩; simp only [abacusref12_reading_named.l0, abacusref12_reading_named.j1, dupF]; rw [if_neg (by omega), if_neg (by simp)]
 | succ n ih =>
  intro j k p hj hk hp; obtain ⟨k, rfl⟩ : ∃ n, k = n + 2 := ⟨k - 2, by omega⟩; simp only [abacusref12_reading_named.l0, abacusref12_reading_named.j1]; rw [if_pos (by omega)]
  cases m
  ·simp only [Bool.not_false, if_true]
   rw [if_pos (by omega), if_pos (by omega)]; simp only [dupF]; rw [wrap64_in (by omega), show ((j : Int) + 1) = ((j + 1 : Nat) : Int) by omega]; by_cases hc : (rd_T36 l (j : Int)).f1.toList = nm.toList
   ·rw [if_pos hc, if_pos ⟨by trivial, hc⟩, fail_of s i false p hp 121 from_ (by decide)]
    simp only [Option.bind_some]; refine ih (j + 1) k _ (by omega) (by omega) fun _ => ?_
    unfold failP; split
    ·exact hf
    ·rename_i h; exact hp h
   ·rw [if_neg hc, if_neg (fun e => hc e.2)]
    exact ih (j + 1) k p (by omega) (by omega) hp
  ·simp only [Bool.not_true, Bool.false_eq_true, if_false, dupF_true]
theorem refnamed (s : ByteArray) (i : Int) (m : Bool) (l : List S36) (hl : l.length ≤ 32) (nm : ByteArray) (from_ a : Int) (hf : 0 ≤ from_) (k : Nat) (hk : 80 ≤ k) :
  abacusref12_reading_named.f k s i m (-1) 0 l nm from_ = some (s, i, m, badOf (dupF m nm from_ l l.length 0 (if l.length = 32 then (3, from_) else (0, a))).1 (dupF m nm from_ l l.length 0 (if l.length = 32 then (3, from_) else (0, a))).2, (dupF m nm from_ l l.length 0 (if l.length = 32 then (3, from_) else (0, a))).1) := by
 unfold abacusref12_reading_named.f; by_cases h : l.length = 32
 ·rw [if_pos h, if_pos (by omega), failR, dupF_keep _ _ _ _ _ _ _ (by simp)]
  rfl
 ·rw [if_neg h, if_neg (by omega)]
  have := refnamed_l s i m l (by omega) nm from_ hf l.length 0 k (0, a) (by omega) (by omega) (fun h => absurd rfl h); exact this
def btsL (s : ByteArray) (i : Nat) : Nat → List Int
 | 0 => []
 | n + 1 => bt s (i : Int) :: btsL s (i + 1) n
theorem btsL_len (s : ByteArray) : ∀ (n i : Nat), (btsL s i n).length = n := by
 intro n
 induction n with
 | zero => intro i; rfl
 | succ n ih => intro i; simp [btsL, ih]
theorem drop_next' (v : ByteArray) (j : Nat) (h : j < v.size) : ∃ x : UInt8, (bs v).drop j = x :: (bs v).drop (j + 1) ∧ bt v (j : Int) = (x.toNat : Int) := by
 cases hd : (bs v).drop j with
 | nil => exact absurd hd (drop_ne h)
 | cons x t =>
  obtain ⟨_, p2, p3⟩ := drop_bt hd; exact ⟨x, by rw [p3], p2⟩
theorem btsL_bytes (s : ByteArray) : ∀ (n i : Nat), i + n ≤ s.size → bytesOf (s.extract i (i + n)) = btsL s i n := by
 intro n
 induction n with
 | zero =>
  intro i h; rw [bytesOf_bs, ext_bs]; simp [btsL, numL]
 | succ n ih =>
  intro i h; obtain ⟨x, hx, hb⟩ := drop_next' s i (by omega); have := ih (i + 1) (by omega); rw [bytesOf_bs, ext_bs] at this ⊢; rw [show i + (n + 1) - i = n + 1 by omega, hx, List.take_succ_cons]; rw [show i + 1 + n - (i + 1) = n by omega] at this; simp only [btsL, hb, ← this]; rfl
theorem l1_bad (s : ByteArray) (hs : s.size ≤ 140737488355000) (m : Bool) (b y : Int) (hb : 0 ≤ b) (w : Nat) (hw : w ≤ 1000) : ∀ (n c i k : Nat) (out : List Int), c + n = w → n + 3 ≤ k → i + n ≤ s.size → out.length + n ≤ 1000 →
  abacusref12_reading_value.l1 k out (w : Int) (c : Int) s (i : Int) m b y = some ((⟨#[]⟩ : ByteArray), s, ((i + n : Nat) : Int), m, b, y) := by
 intro n
 induction n with
 | zero =>
  intro c i k out hc hk hi ho; obtain ⟨k, rfl⟩ : ∃ n, k = n + 2 := ⟨k - 2, by omega⟩; simp only [abacusref12_reading_value.l1]; rw [if_neg (by omega)]; simp only [abacusref12_reading_value.l0]; rw [if_neg (by omega)]; rfl
 | succ n ih =>
  intro c i k out hc hk hi ho; obtain ⟨k, rfl⟩ : ∃ n, k = n + 1 := ⟨k - 1, by omega⟩; simp only [abacusref12_reading_value.l1]; rw [if_pos (by omega), failB s _ m b y _ _ hb]; simp only [Option.bind_some]; have nx := ih (c + 1) (i + 1) k (out ++ [bt s (i : Int)]) (by omega) (by omega) (by omega) (by simp; omega); rw [wrap64_in (by omega), wrap64_in (by omega), show ((c : Int) + 1) = ((c + 1 : Nat) : Int) by omega, show ((i : Int) + 1) = ((i + 1 : Nat) : Int) by omega, nx]; rw [show i + 1 + n = i + (n + 1) by omega]; have q1 : (0 : Int) ≤ (i : Int) := by omega
  have q2 : (i : Int) < (s.size : Int) := by omega
  have q3 : out.length < 140737488355328 := by omega
  simp only [q1, q2, q3, if_true]; split <;> rfl
theorem l1_over (s : ByteArray) (hs : s.size ≤ 140737488355000) (m : Bool) (w : Nat) (hw : w ≤ 1000) : ∀ (n c i k : Nat) (out : List Int), c + n = w → n + 3 ≤ k → i + n ≤ s.size → out.length ≤ 256 → 256 < out.length + n → n ≤ 100 →
  abacusref12_reading_value.l1 k out (w : Int) (c : Int) s (i : Int) m (-1) 0 = some ((⟨#[]⟩ : ByteArray), s, ((i + n : Nat) : Int), m, (i : Int) + 256 - (out.length : Int), 120) := by
 intro n
 induction n with
 | zero => intro c i k out _ _ _ _ h; omega
 | succ n ih =>
  intro c i k out hc hk hi ho hov hn; obtain ⟨k, rfl⟩ : ∃ n, k = n + 1 := ⟨k - 1, by omega⟩; simp only [abacusref12_reading_value.l1]; rw [if_pos (by omega)]; by_cases h : (out.length : Int) ≥ 256
  ·rw [if_pos h, failR]
   simp only [Option.bind_some]; have nx := l1_bad s hs m (i : Int) 120 (by omega) w hw n (c + 1) (i + 1) k (out ++ [bt s (i : Int)]) (by omega) (by omega) (by omega) (by simp; omega); rw [wrap64_in (by omega), wrap64_in (by omega), show ((c : Int) + 1) = ((c + 1 : Nat) : Int) by omega, show ((i : Int) + 1) = ((i + 1 : Nat) : Int) by omega, nx, if_pos (by omega), if_pos (by omega), if_pos (by omega), show i + 1 + n = i + (n + 1) by omega, show (i : Int) + 256 - (out.length : Int) = (i : Int) by omega]
  ·rw [if_neg h, if_pos (by omega), if_pos (by omega), if_pos (by omega)]
   have nx := ih (c + 1) (i + 1) k (out ++ [bt s (i : Int)]) (by omega) (by omega) (by omega) (by simp; omega) (by simp; omega) (by omega); rw [wrap64_in (by omega), wrap64_in (by omega), show ((c : Int) + 1) = ((c + 1 : Nat) : Int) by omega, show ((i : Int) + 1) = ((i + 1 : Nat) : Int) by omega, nx, show i + 1 + n = i + (n + 1) by omega]; rw [show (((i + 1 : Nat) : Int) + 256 - ((out ++ [bt s (i : Int)]).length : Int)) = (i : Int) + 256 - (out.length : Int) by simp; omega]
theorem l1_fit (s : ByteArray) (hs : s.size ≤ 140737488355000) (m : Bool) (w : Nat) (hw : w ≤ 1000) (K : Nat) (r : Option (ByteArray × ByteArray × Int × Bool × Int × Int)) : ∀ (n c i k : Nat) (out : List Int), c + n = w → n + 1 + K ≤ k → i + n ≤ s.size → out.length + n ≤ 256 →
  (∀ k, K ≤ k → abacusref12_reading_value.l0 k (out ++ btsL s i n) s ((i + n : Nat) : Int) m (-1) 0 = r) → abacusref12_reading_value.l1 k out (w : Int) (c : Int) s (i : Int) m (-1) 0 = r := by
 intro n
 induction n with
 | zero =>
  intro c i k out hc hk hi ho hr; obtain ⟨k, rfl⟩ : ∃ n, k = n + 1 := ⟨k - 1, by omega⟩; simp only [abacusref12_reading_value.l1]; rw [if_neg (by omega)]; have := hr k (by omega); simpa [btsL] using this
 | succ n ih =>
  intro c i k out hc hk hi ho hr; obtain ⟨k, rfl⟩ : ∃ n, k = n + 1 := ⟨k - 1, by omega⟩; simp only [abacusref12_reading_value.l1]; rw [if_pos (by omega), if_neg (by omega), if_pos (by omega), if_pos (by omega), if_pos (by omega), wrap64_in (by omega), wrap64_in (by omega), show ((c : Int) + 1) = ((c + 1 : Nat) : Int) by omega, show ((i : Int) + 1) = ((i + 1 : Nat) : Int) by omega]; refine ih (c + 1) (i + 1) k _ (by omega) (by omega) (by omega) (by simp; omega) fun k hk => ?_
  have := hr k hk; simp only [btsL] at this; rw [List.append_assoc, show i + 1 + n = i + (n + 1) by omega]; exact this
theorem refvalue_l (s : ByteArray) (hs : s.size ≤ 140737488355000) (m : Bool) : ∀ (f : Nat) (out : List Int) (i : Nat) (at_ : Int), i ≤ s.size → out.length ≤ 256 → ∀ r, valueL s m f out (i : Int) 0 at_ = some r →
  ∃ (t : ByteArray) (j k0 : Nat), (∀ k, k0 ≤ k → abacusref12_reading_value.l0 k out s (i : Int) m (-1) 0 = some (t, s, (j : Int), m, badOf r.2.2.1 r.2.2.2, r.2.2.1)) ∧ j ≤ s.size ∧ (r.2.2.1 = 0 → t = r.1 ∧ (j : Int) = r.2.1) := by
 intro f
 induction f with
 | zero => intro out i at_ hi ho r h; cases h
 | succ f ih =>
  intro out i at_ hi ho r h; simp only [valueL, if_true] at h; by_cases hlt : i < s.size
  ·rw [if_pos (by omega)] at h
   have dg := dec_ge s i; have dl := dec_le s i hlt
   have d4 : (Utf8.decode s i).2 ≤ 4 := by
    rw [Lib.decode_at]; unfold Lib.decodeN
    repeat' split
    all_goals first | omega | (simp only; omega)
   have start : ∀ k, abacusref12_reading_value.l0 (k + 1) out s (i : Int) m (-1) 0 = (if bt s (i : Int) = 34 then (if (out.length : Int) = 0 then (if m = true then (some (strOfNums out, s, (i : Int) + 1, m, -1, 0)) else (some (strOfNums out, s, (i : Int) + 1, m, (i : Int), 120))) else (some (strOfNums out, s, (i : Int) + 1, m, -1, 0))) else (if bt s (i : Int) = 92 then (if (out.length : Int) ≥ 256 then some ((⟨#[]⟩ : ByteArray), s, (i : Int), m, (i : Int), 120) else (if (i : Int) + 1 ≥ (s.size : Int) then (abacusref12_reading_value.j1 k out true s ((i : Int) + 1) m (-1) 0) else (if bt s ((i : Int) + 1) = 92 then (abacusref12_reading_value.j1 k out false s ((i : Int) + 1) m (-1) 0) else (if bt s ((i : Int) + 1) = 34 then (abacusref12_reading_value.j1 k out false s ((i : Int) + 1) m (-1) 0) else (abacusref12_reading_value.j1 k out (bt s ((i : Int) + 1) != 110) s ((i : Int) + 1) m (-1) 0))))) else ((abacusref12_Char.f k s (i : Int)).bind fun t425 => (if t425 = 0 then (abacusref12_reading_value.j2 k out (i : Int) t425 true s (i : Int) m (-1) 0) else (abacusref12_reading_value.j2 k out (i : Int) t425 (bt s (i : Int) == 10) s (i : Int) m (-1) 0))))) := by
    intro k; simp only [abacusref12_reading_value.l0, failR, Option.bind_some]; rw [if_pos (by omega), if_neg (by omega), if_pos (by omega), if_pos (by omega), wrap64_in (by omega)]; by_cases g : (i : Int) + 1 ≥ (s.size : Int)
    ·simp only [g, if_true]
    ·simp only [g, if_false]
     rw [if_pos (show (0 : Int) ≤ (i : Int) + 1 by omega), if_pos (show (i : Int) + 1 < (s.size : Int) by omega)]
   by_cases h10 : bt s (i : Int) = 10
   ·rw [if_pos h10] at h
    cases h; refine ⟨⟨#[]⟩, i, 20, fun k hk => ?_, hi, fun e => absurd e (by simp [failP])⟩; obtain ⟨k, rfl⟩ : ∃ n, k = n + 2 := ⟨k - 2, by omega⟩; rw [start, if_neg (by omega), if_neg (by omega), refchar_f s (by omega) i hlt (k + 1) (by omega)]; simp only [Option.bind_some, h10]
    have j2 : ∀ c, abacusref12_reading_value.j2 (k + 1) out (i : Int) c true s (i : Int) m (-1) 0 = some ((⟨#[]⟩ : ByteArray), s, (i : Int), m, (i : Int), 120) := fun c => by
     simp only [abacusref12_reading_value.j2, if_true, failR, Option.bind_some, failB s _ m (i : Int) 120 _ _ (by omega)]; split <;> rfl
    have : badOf (failP 0 at_ 120 (i : Int)).1 (failP 0 at_ 120 (i : Int)).2 = (i : Int) := by simp [badOf, failP]
    rw [this]; generalize (if tornAt s i = true then (0 : Int) else ((Utf8.decode s i).2 : Int)) = c; split
    ·exact j2 c
    ·exact j2 c
   ·rw [if_neg h10] at h
    by_cases h34 : bt s (i : Int) = 34
    ·rw [if_pos h34] at h
     by_cases hc : out = [] ∧ m = false
     ·rw [if_pos hc] at h
      cases h; obtain ⟨rfl, rfl⟩ := hc; refine ⟨strOfNums [], i + 1, 2, fun k hk => ?_, by omega, fun e => absurd e (by simp [failP])⟩; obtain ⟨k, rfl⟩ : ∃ n, k = n + 1 := ⟨k - 1, by omega⟩; rw [start, if_pos h34, if_pos (by simp), if_neg (by simp)]; simp [badOf, failP]
     ·rw [if_neg hc] at h
      cases h; refine ⟨strOfNums out, i + 1, 2, fun k hk => ?_, by omega, fun _ => ⟨rfl, by simp only; omega⟩⟩; obtain ⟨k, rfl⟩ : ∃ n, k = n + 1 := ⟨k - 1, by omega⟩; rw [start, if_pos h34]; have : badOf 0 at_ = -1 := rfl; by_cases h0 : (out.length : Int) = 0
      ·have h0' : out = [] := List.length_eq_zero_iff.1 (by omega)
       rw [if_pos h0, if_pos (by cases m with | true => rfl | false => exact absurd ⟨h0', rfl⟩ hc)]; rfl
      ·rw [if_neg h0]
       rfl
    ·rw [if_neg h34] at h
     split at h
     ·rename_i hlim
      by_cases h92 : bt s (i : Int) = 92
      ·-- a backslash
       have hP : pieceP s (i : Int) 0 at_ (out.length : Int) = (if (out.length : Int) = 256 then ((⟨#[]⟩ : ByteArray), (i : Int), failP 0 at_ 120 (i : Int)) else if behindP s (i : Int) = 110 then (⟨#[10]⟩, (i : Int) + 2, 0, at_) else if behindP s (i : Int) = 34 then (⟨#[34]⟩, (i : Int) + 2, 0, at_) else if behindP s (i : Int) = 92 then (⟨#[92]⟩, (i : Int) + 2, 0, at_) else (⟨#[]⟩, (i : Int) + 1, failP 0 at_ 120 ((i : Int) + 1))) := by
        unfold pieceP; rw [if_pos h92]
       rw [hP] at h; by_cases h256 : (out.length : Int) = 256
       ·rw [if_pos h256] at h
        obtain ⟨f, rfl⟩ : ∃ n, f = n + 1 := by
         cases f with
         | zero => simp only [valueL] at h; cases h
         | succ f => exact ⟨f, rfl⟩
        simp only [valueL, failP, if_true] at h; rw [if_neg (by decide)] at h
        cases h; refine ⟨⟨#[]⟩, i, 2, fun k hk => ?_, hi, fun e => absurd e (by simp)⟩; obtain ⟨k, rfl⟩ : ∃ n, k = n + 1 := ⟨k - 1, by omega⟩; rw [start, if_neg h34, if_pos h92, if_pos (by omega)]; simp [badOf]
       ·rw [if_neg h256] at h
        have good : ∀ x : UInt8, (x = 10 ∨ x = 34 ∨ x = 92) → i + 1 < s.size → valueL s m f (out ++ [(x.toNat : Int)]) ((i : Int) + 2) 0 at_ = some r → (∀ k, abacusref12_reading_value.l0 (k + 2) out s (i : Int) m (-1) 0 = abacusref12_reading_value.l0 k (out ++ [(x.toNat : Int)]) s ((i : Int) + 2) m (-1) 0) →
          ∃ (t : ByteArray) (j k0 : Nat), (∀ k, k0 ≤ k → abacusref12_reading_value.l0 k out s (i : Int) m (-1) 0 = some (t, s, (j : Int), m, badOf r.2.2.1 r.2.2.2, r.2.2.1)) ∧ j ≤ s.size ∧ (r.2.2.1 = 0 → t = r.1 ∧ (j : Int) = r.2.1) := by
         intro x _ hi1 hv hr; rw [show ((i : Int) + 2) = ((i + 2 : Nat) : Int) by omega] at hv; obtain ⟨t, j, k0, g1, g2, g3⟩ := ih (out ++ [(x.toNat : Int)]) (i + 2) at_ (by omega) (by simp; omega) r hv; refine ⟨t, j, k0 + 2, fun k hk => ?_, g2, g3⟩; obtain ⟨k, rfl⟩ : ∃ n, k = n + 2 := ⟨k - 2, by omega⟩; rw [hr k, show ((i : Int) + 2) = ((i + 2 : Nat) : Int) by omega]; exact g1 k (by omega)
        have j1 : ∀ k (c : Int), bt s ((i : Int) + 1) = c → i + 1 < s.size → abacusref12_reading_value.j1 (k + 1) out false s ((i : Int) + 1) m (-1) 0 = abacusref12_reading_value.l0 k (out ++ [if c = 110 then 10 else c]) s ((i : Int) + 2) m (-1) 0 := by
         intro k c hc hi1; simp only [abacusref12_reading_value.j1, Bool.false_eq_true, if_false]; rw [if_pos (by omega), if_pos (by omega), hc, wrap64_in (by omega), show (i : Int) + 1 + 1 = (i : Int) + 2 by omega]; by_cases hq : c = 110
         ·rw [if_pos hq, if_pos hq, if_pos (by omega)]
         ·rw [if_neg hq, if_neg hq, if_pos (by omega)]
        have beh : ∀ c, behindP s (i : Int) = c → c ≠ 0 → i + 1 < s.size ∧ bt s ((i : Int) + 1) = c := by
         intro c hc h0; unfold behindP at hc; split at hc
         ·exact ⟨by omega, hc⟩
         ·exact absurd hc.symm h0
        by_cases c1 : behindP s (i : Int) = 110
        ·obtain ⟨hi1, hb⟩ := beh 110 c1 (by decide)
         rw [if_pos c1] at h; refine good 10 (.inl rfl) hi1 h fun k => ?_
         rw [start, if_neg h34, if_pos h92, if_neg (by omega), if_neg (by omega), hb, if_neg (by decide), if_neg (by decide)]; have := j1 k 110 hb hi1; rw [if_pos rfl] at this; exact this
        ·rw [if_neg c1] at h
         by_cases c2 : behindP s (i : Int) = 34
         ·obtain ⟨hi1, hb⟩ := beh 34 c2 (by decide)
          rw [if_pos c2] at h; refine good 34 (.inr (.inl rfl)) hi1 h fun k => ?_
          rw [start, if_neg h34, if_pos h92, if_neg (by omega), if_neg (by omega), hb, if_neg (by decide), if_pos rfl]; have := j1 k 34 hb hi1; rw [if_neg (by decide)] at this; exact this
         ·rw [if_neg c2] at h
          by_cases c3 : behindP s (i : Int) = 92
          ·obtain ⟨hi1, hb⟩ := beh 92 c3 (by decide)
           rw [if_pos c3] at h; refine good 92 (.inr (.inr rfl)) hi1 h fun k => ?_
           rw [start, if_neg h34, if_pos h92, if_neg (by omega), if_neg (by omega), hb, if_pos rfl]; have := j1 k 92 hb hi1; rw [if_neg (by decide)] at this; exact this
          ·rw [if_neg c3] at h
           obtain ⟨f, rfl⟩ : ∃ n, f = n + 1 := by
            cases f with
            | zero => simp only [valueL] at h; cases h
            | succ f => exact ⟨f, rfl⟩
           simp only [valueL, failP, if_true] at h; rw [if_neg (by decide)] at h
           cases h; refine ⟨⟨#[]⟩, i + 1, 3, fun k hk => ?_, by omega, fun e => absurd e (by simp)⟩; obtain ⟨k, rfl⟩ : ∃ n, k = n + 2 := ⟨k - 2, by omega⟩
           have jt : abacusref12_reading_value.j1 (k + 1) out true s ((i : Int) + 1) m (-1) 0 = some ((⟨#[]⟩ : ByteArray), s, (i : Int) + 1, m, (i : Int) + 1, 120) := by
            simp only [abacusref12_reading_value.j1, if_true, failR, Option.bind_some]
           have fin : some ((⟨#[]⟩ : ByteArray), s, (i : Int) + 1, m, (i : Int) + 1, (120 : Int)) = some (⟨#[]⟩, s, ((i + 1 : Nat) : Int), m, badOf 120 ((i : Int) + 1), 120) := by
            simp [badOf]
           rw [start, if_neg h34, if_pos h92, if_neg (by omega)]; by_cases hend : (i : Int) + 1 ≥ (s.size : Int)
           ·rw [if_pos hend, jt]
            exact fin
           ·rw [if_neg hend]
            have hbp : behindP s (i : Int) = bt s ((i : Int) + 1) := by unfold behindP; rw [if_pos (by omega)]
            rw [hbp] at c1 c2 c3; rw [if_neg c3, if_neg c2, bne_iff_ne.2 c1, jt]; exact fin
      ·-- a character
       have hP : pieceP s (i : Int) 0 at_ (out.length : Int) = (s.extract i (i + (Utf8.decode s i).2), (i : Int) + ((Utf8.decode s i).2 : Int), if (out.length : Int) = 256 ∨ ((Utf8.decode s i).1 = 65533 ∧ (Utf8.decode s i).2 = 1) then failP 0 at_ 120 (i : Int) else if 256 < (out.length : Int) + ((Utf8.decode s i).2 : Int) then failP 0 at_ 120 ((i : Int) + 256 - (out.length : Int)) else (0, at_)) := by
        unfold pieceP; rw [if_neg h92]; rfl
       rw [hP] at h; simp only at h
       have st : ∀ k, 12 ≤ k → abacusref12_reading_value.l0 (k + 1) out s (i : Int) m (-1) 0 = (if tornAt s i = true then (abacusref12_reading_value.j2 k out (i : Int) 0 true s (i : Int) m (-1) 0) else (abacusref12_reading_value.j2 k out (i : Int) ((Utf8.decode s i).2 : Int) false s (i : Int) m (-1) 0)) := by
        intro k hk; rw [start, if_neg h34, if_neg h92, refchar_f s (by omega) i hlt k hk]; simp only [Option.bind_some]; have e10 : (bt s (i : Int) == 10) = false := by simpa using h10
        rw [e10]
        cases tornAt s i
        ·simp only [Bool.false_eq_true, if_false]
         rw [if_neg (by omega)]
        ·simp only [if_true]
       by_cases ht : tornAt s i = true
       ·rw [if_pos (.inr ((tornAt_iff s i).1 ht))] at h
        obtain ⟨f, rfl⟩ : ∃ n, f = n + 1 := by
         cases f with
         | zero => simp only [valueL] at h; cases h
         | succ f => exact ⟨f, rfl⟩
        simp only [valueL, failP, if_true] at h; rw [if_neg (by decide)] at h
        cases h; refine ⟨⟨#[]⟩, i, 20, fun k hk => ?_, hi, fun e => absurd e (by simp)⟩; obtain ⟨k, rfl⟩ : ∃ n, k = n + 2 := ⟨k - 2, by omega⟩; rw [st (k + 1) (by omega), if_pos ht]; simp only [abacusref12_reading_value.j2, if_true, failR, Option.bind_some, failB s _ m (i : Int) 120 _ _ (by omega)]; have : badOf 120 (i : Int) = (i : Int) := by simp [badOf]
        rw [this]; split <;> rfl
       ·have ht' : ¬ ((Utf8.decode s i).1 = 65533 ∧ (Utf8.decode s i).2 = 1) := fun e => ht ((tornAt_iff s i).2 e)
        by_cases hov : 256 < out.length + (Utf8.decode s i).2
        ·-- too long
         have hval : (if (out.length : Int) = 256 ∨ ((Utf8.decode s i).1 = 65533 ∧ (Utf8.decode s i).2 = 1) then failP 0 at_ 120 (i : Int) else if 256 < (out.length : Int) + ((Utf8.decode s i).2 : Int) then failP 0 at_ 120 ((i : Int) + 256 - (out.length : Int)) else (0, at_)) = (120, (i : Int) + 256 - (out.length : Int)) := by
          by_cases e : (out.length : Int) = 256
          ·rw [if_pos (.inl e)]
           simp only [failP, if_true, Prod.mk.injEq, true_and]; omega
          ·rw [if_neg (by rintro (q | q); exact e q; exact ht' q), if_pos (by omega)]
           simp only [failP, if_true]
         rw [hval] at h
         obtain ⟨f, rfl⟩ : ∃ n, f = n + 1 := by
          cases f with
          | zero => simp only [valueL] at h; cases h
          | succ f => exact ⟨f, rfl⟩
         simp only [valueL] at h; rw [if_neg (by decide)] at h
         cases h; refine ⟨⟨#[]⟩, i + (Utf8.decode s i).2, 30, fun k hk => ?_, by omega, fun e => absurd e (by simp)⟩; obtain ⟨k, rfl⟩ : ∃ n, k = n + 2 := ⟨k - 2, by omega⟩; rw [st (k + 1) (by omega), if_neg ht]; simp only [abacusref12_reading_value.j2, Bool.false_eq_true, if_false]; have := l1_over s hs m (Utf8.decode s i).2 (by omega) (Utf8.decode s i).2 0 i k out (by omega) (by omega) (by omega) ho (by omega) (by omega); rw [show ((0 : Nat) : Int) = 0 from rfl] at this; rw [this]; simp [badOf]
        ·have hval : (if (out.length : Int) = 256 ∨ ((Utf8.decode s i).1 = 65533 ∧ (Utf8.decode s i).2 = 1) then failP 0 at_ 120 (i : Int) else if 256 < (out.length : Int) + ((Utf8.decode s i).2 : Int) then failP 0 at_ 120 ((i : Int) + 256 - (out.length : Int)) else (0, at_)) = (0, at_) := by
          rw [if_neg (by rintro (q | q); omega; exact ht' q), if_neg (by omega)]
         rw [hval, btsL_bytes s _ i (by omega), show ((i : Int) + ((Utf8.decode s i).2 : Int)) = ((i + (Utf8.decode s i).2 : Nat) : Int) by omega] at h; obtain ⟨t, j, k0, g1, g2, g3⟩ := ih _ (i + (Utf8.decode s i).2) at_ (by omega) (by simp only [List.length_append, btsL_len]; omega) r h; refine ⟨t, j, k0 + 40, fun k hk => ?_, g2, g3⟩; obtain ⟨k, rfl⟩ : ∃ n, k = n + 2 := ⟨k - 2, by omega⟩; rw [st (k + 1) (by omega), if_neg ht]; simp only [abacusref12_reading_value.j2, Bool.false_eq_true, if_false]; exact l1_fit s hs m (Utf8.decode s i).2 (by omega) k0 _ (Utf8.decode s i).2 0 i k out (by omega) (by omega) (by omega) (by omega) g1
     ·cases h
  ·rw [if_neg (by omega)] at h
   cases h; refine ⟨⟨#[]⟩, i, 2, fun k hk => ?_, hi, fun e => absurd e (by simp [failP])⟩; obtain ⟨k, rfl⟩ : ∃ n, k = n + 1 := ⟨k - 1, by omega⟩; simp only [abacusref12_reading_value.l0, failR, Option.bind_some]; rw [if_pos (by omega), if_pos (by omega)]; simp [badOf, failP]
theorem refvalue (s : ByteArray) (hs : s.size ≤ 140737488355000) (m : Bool) (i : Nat) (hi : i ≤ s.size) (at_ : Int) (r : ByteArray × Int × Int × Int) (h : valueO s (i : Int) m 0 at_ = some r) :
  ∃ (t : ByteArray) (j k0 : Nat), (∀ k, k0 ≤ k → abacusref12_reading_value.f k s (i : Int) m (-1) 0 = some (t, s, (j : Int), m, badOf r.2.2.1 r.2.2.2, r.2.2.1)) ∧ j ≤ s.size ∧ (r.2.2.1 = 0 → t = r.1 ∧ (j : Int) = r.2.1) := by
 unfold valueO at h
 cases h34 : isB s (i : Int) 34
 ·rw [take_isnt at_ h34] at h
  simp only [Bool.false_eq_true, if_false] at h
  cases h; refine ⟨⟨#[]⟩, i, 3, fun k hk => ?_, hi, fun e => absurd e (by simp)⟩; obtain ⟨k, rfl⟩ : ∃ n, k = n + 1 := ⟨k - 1, by omega⟩; unfold abacusref12_reading_value.f; rw [wants_no s (i : Int) m 34 (by omega) h34]; simp only [Option.bind_some, abacusref12_reading_value.l0]; rw [if_neg (by omega)]; simp [badOf]
 ·have hlt := isB_lt h34
  rw [take_is at_ h34] at h; simp only [if_true] at h; rw [show ((i : Int) + 1) = ((i + 1 : Nat) : Int) by omega] at h; obtain ⟨t, j, k0, g1, g2, g3⟩ := refvalue_l s hs m _ [] (i + 1) at_ (by omega) (by simp) r h; refine ⟨t, j, k0, fun k hk => ?_, g2, g3⟩; unfold abacusref12_reading_value.f; rw [wants_yes s (i : Int) m _ _ 34 (by omega) (by omega) h34]; simp only [Option.bind_some]; rw [show ((i : Int) + 1) = ((i + 1 : Nat) : Int) by omega]; exact g1 k hk
end Go.Proofs.YtogegkfefpgbcaaDoor.PL
