/- The document's own Name, Char, torn, Value, Right: the same as the code's. -/
import Derived.Test.YtogegkfefpgbcaaDoorZXPLx0
import Derived.Test.YtogegkfefpgbcaaDoorZXQ1
import Derived.Test.YtogegkfefpgbcaaDoorZXQ2
import Derived.Test.YtogegkfefpgbcaaDoorZXQ3
import Derived.Test.YtogegkfefpgbcaaDoorZXQ4
import Derived.Test.YtogegkfefpgbcaaDoorZXQ5
import Derived.Test.YtogegkfefpgbcaaDoorZXQ6
import Derived.Test.YtogegkfefpgbcaaDoorZXQ7
import Derived.Test.YtogegkfefpgbcaaDoorZXPF
import Derived.Lib.DecodeNEq
namespace Go.Proofs.YtogegkfefpgbcaaDoor.PL
open Go Go.RowKit Go.Proofs.YtogegkfefpgbcaaDoorW.PrintWords Go.Proofs.YtogegkfefpgbcaaDoorW.PrintLast Go.Proofs.YtogegkfefpgbcaaDoorW.PrintMore
set_option linter.unusedVariables false
set_option linter.unusedSimpArgs false
theorem bt_get (s : ByteArray) (j : Nat) : bt s (j : Int) = ((s.get! j).toNat : Int) := by
  unfold bt; by_cases h : j < s.size
  · rw [dif_pos (by simpa using h)]
    simp [ByteArray.get!, getElem!_pos, h]
    rfl
  · rw [dif_neg (by simpa using h)]
    cases s with
    | mk a =>
      have : ¬ j < a.size := h; simp [ByteArray.get!, getElem!_neg, this]
      rfl
def SlowOk (n b1 b2 b3 sz lo hi : Nat) : Prop := sz ≤ n ∧ (lo ≤ b1 ∧ b1 ≤ hi) ∧ (sz ≤ 2 ∨ ((128 ≤ b2 ∧ b2 ≤ 191) ∧ (sz ≤ 3 ∨ (128 ≤ b3 ∧ b3 ≤ 191))))
instance (n b1 b2 b3 sz lo hi : Nat) : Decidable (SlowOk n b1 b2 b3 sz lo hi) := by unfold SlowOk; infer_instance
theorem slow_good {n b0 b1 b2 b3 sz lo hi : Nat} (h : SlowOk n b1 b2 b3 sz lo hi) (h2 : 2 ≤ sz) (h4 : sz ≤ 4) : (Lib.slowN n b0 b1 b2 b3 sz lo hi).2 = sz := by
  unfold SlowOk at h; unfold Lib.slowN
  repeat' split
  all_goals first | rfl | omega
theorem slow_bad {n b0 b1 b2 b3 sz lo hi : Nat} (h : ¬ SlowOk n b1 b2 b3 sz lo hi) : Lib.slowN n b0 b1 b2 b3 sz lo hi = (65533, 1) := by
  unfold SlowOk at h; unfold Lib.slowN
  repeat' split
  all_goals first | rfl | (exfalso; omega)
theorem refchar_j3 (s : ByteArray) (i : Nat) (hi : i < s.size) (hs : s.size ≤ 2305843009213693952) (sz lo hi_ : Nat) (h2 : 2 ≤ sz) (h4 : sz ≤ 4) (k : Nat) (hk : 8 ≤ k) :
    abacusref12_Char.j3 k s (i : Int) (sz : Int) (lo : Int) (hi_ : Int) = some (if SlowOk (s.size - i) (s.get! (i + 1)).toNat (s.get! (i + 2)).toNat (s.get! (i + 3)).toNat sz lo hi_ then (sz : Int) else 0) := by
  obtain ⟨k, rfl⟩ : ∃ n, k = n + 8 := ⟨k - 8, by omega⟩; have e1 := bt_get s (i + 1); have e2 := bt_get s (i + 2); have e3 := bt_get s (i + 3); generalize (s.get! (i + 1)).toNat = b1 at *; generalize (s.get! (i + 2)).toNat = b2 at *; generalize (s.get! (i + 3)).toNat = b3 at *; simp only [abacusref12_Char.j3]; rw [wrap64_in (by omega), wrap64_in (by omega), show ((i : Int) + 1) = ((i + 1 : Nat) : Int) by omega, e1]; by_cases c0 : (i : Int) + sz > s.size
  · rw [if_pos c0]
    simp only [abacusref12_Char.j4, if_true]; rw [if_neg (by unfold SlowOk; omega)]
  · rw [if_neg c0, if_pos (by omega), if_pos (by omega)]
    by_cases c1 : (b1 : Int) < lo
    · rw [if_pos c1]
      simp only [abacusref12_Char.j4, if_true]; rw [if_neg (by unfold SlowOk; omega)]
    · rw [if_neg c1]
      by_cases c2 : (b1 : Int) > hi_
      · rw [decide_eq_true c2]
        simp only [abacusref12_Char.j4, if_true]; rw [if_neg (by unfold SlowOk; omega)]
      · rw [decide_eq_false c2]
        simp only [abacusref12_Char.j4, Bool.false_eq_true, if_false]; simp only [abacusref12_Char.l0]; by_cases s2 : sz = 2
        · subst s2
          rw [if_neg (by omega), if_pos (by unfold SlowOk; omega)]
        · rw [if_pos (by omega), wrap64_in (by omega), if_pos (by omega), if_pos (by omega), show ((i : Int) + 2) = ((i + 2 : Nat) : Int) by omega, e2]
          by_cases c3 : (b2 : Int) < 128
          · rw [if_pos c3, if_neg (by unfold SlowOk; omega)]
          · rw [if_neg c3]
            by_cases c4 : (b2 : Int) > 191
            · rw [if_pos c4, if_neg (by unfold SlowOk; omega)]
            · rw [if_neg c4, wrap64_in (by omega), show (2 : Int) + 1 = 3 from rfl]
              by_cases s3 : sz = 3
              · subst s3
                rw [if_neg (by omega), if_pos (by unfold SlowOk; omega)]
              · rw [if_pos (by omega), wrap64_in (by omega), if_pos (by omega), if_pos (by omega), show ((i : Int) + 3) = ((i + 3 : Nat) : Int) by omega, e3]
                by_cases c5 : (b3 : Int) < 128
                · rw [if_pos c5, if_neg (by unfold SlowOk; omega)]
                · rw [if_neg c5]
                  by_cases c6 : (b3 : Int) > 191
                  · rw [if_pos c6, if_neg (by unfold SlowOk; omega)]
                  · rw [if_neg c6, wrap64_in (by omega), if_neg (by omega), if_pos (by unfold SlowOk; omega)]
theorem byte_lt (s : ByteArray) (j : Nat) : (s.get! j).toNat < 256 := UInt8.toNat_lt _
theorem refchar_of {s : ByteArray} {i sz lo hi : Nat} (hd : Lib.slowN (s.size - i) (s.get! i).toNat (s.get! (i + 1)).toNat (s.get! (i + 2)).toNat (s.get! (i + 3)).toNat sz lo hi = Utf8.decode s i) (h2 : 2 ≤ sz) (h4 : sz ≤ 4) :
    some (if SlowOk (s.size - i) (s.get! (i + 1)).toNat (s.get! (i + 2)).toNat (s.get! (i + 3)).toNat sz lo hi then (sz : Int) else 0) = some (if tornAt s i = true then (0 : Int) else ((Utf8.decode s i).2 : Int)) := by
  unfold tornAt; rw [← hd]; by_cases h : SlowOk (s.size - i) (s.get! (i + 1)).toNat (s.get! (i + 2)).toNat (s.get! (i + 3)).toNat sz lo hi
  · have g := slow_good (b0 := (s.get! i).toNat) h h2 h4
    rw [if_pos h, g, if_neg]; simp
    omega
  · rw [if_neg h, slow_bad h]
    simp
theorem refchar_f (s : ByteArray) (hs : s.size ≤ 2305843009213693952) (i : Nat) (hi : i < s.size) (k : Nat) (hk : 12 ≤ k) : abacusref12_Char.f k s (i : Int) = some (if tornAt s i = true then (0 : Int) else ((Utf8.decode s i).2 : Int)) := by
  have hd := Lib.decode_at s i; have hn : 1 ≤ s.size - i := by omega
  have q0 := byte_lt s i; have q1 := byte_lt s (i + 1); have q2 := byte_lt s (i + 2); have q3 := byte_lt s (i + 3); unfold abacusref12_Char.f; rw [if_pos (by omega), if_pos (by omega), bt_get]; obtain ⟨k, rfl⟩ : ∃ n, k = n + 4 := ⟨k - 4, by omega⟩
  have fin : ∀ (k sz lo hi_ : Nat), 2 ≤ sz → sz ≤ 4 → 8 ≤ k → Lib.slowN (s.size - i) (s.get! i).toNat (s.get! (i + 1)).toNat (s.get! (i + 2)).toNat (s.get! (i + 3)).toNat sz lo hi_ = Lib.decodeN (s.size - i) (s.get! i).toNat (s.get! (i + 1)).toNat (s.get! (i + 2)).toNat (s.get! (i + 3)).toNat → abacusref12_Char.j3 k s (i : Int) (sz : Int) (lo : Int) (hi_ : Int) = some (if tornAt s i = true then (0 : Int) else ((Utf8.decode s i).2 : Int)) := by
    intro k sz lo hi_ h2 h4 hk e; rw [refchar_j3 s i hi hs sz lo hi_ h2 h4 k hk]; exact refchar_of (e.trans hd.symm) h2 h4
  have bad : Lib.firstT (s.get! i).toNat = 241 → some (0 : Int) = some (if tornAt s i = true then (0 : Int) else ((Utf8.decode s i).2 : Int)) := by
    intro e; unfold tornAt; rw [hd, Lib.bad_eq _ _ _ _ _ q0 e]; simp
  generalize hb0 : (s.get! i).toNat = b0 at *; by_cases c0 : (b0 : Int) < 128
  · rw [if_pos c0]
    unfold tornAt; rw [hd, Lib.ascii_eq _ _ _ _ _ (by unfold Lib.firstT; rw [if_pos (by omega)])]; rw [if_neg (by simp; omega)]; rfl
  rw [if_neg c0]; have e128 : (128 : Int) = ((128 : Nat) : Int) := rfl; have e191 : (191 : Int) = ((191 : Nat) : Int) := rfl; have e160 : (160 : Int) = ((160 : Nat) : Int) := rfl; have e159 : (159 : Int) = ((159 : Nat) : Int) := rfl; have e144 : (144 : Int) = ((144 : Nat) : Int) := rfl; have e143 : (143 : Int) = ((143 : Nat) : Int) := rfl; by_cases c1 : (b0 : Int) ≥ 194
  · rw [if_pos c1]
    by_cases c2 : (b0 : Int) ≤ 223
    · rw [decide_eq_true c2]
      simp only [abacusref12_Char.j0, if_true]; exact fin _ 2 128 191 (by omega) (by omega) (by omega) (Lib.slow_C2 _ _ _ _ _ hn q1 q2 q3 (by omega))
    · rw [decide_eq_false c2]
      simp only [abacusref12_Char.j0, Bool.false_eq_true, if_false]; rw [if_pos (by omega)]; by_cases c3 : (b0 : Int) ≤ 239
      · rw [decide_eq_true c3]
        simp only [abacusref12_Char.j1, if_true]; by_cases c4 : (b0 : Int) = 224
        · rw [if_pos c4, if_neg (by omega)]
          exact fin _ 3 160 191 (by omega) (by omega) (by omega) (Lib.slow_E0 _ _ _ _ _ hn q1 q2 q3 (by omega))
        · rw [if_neg c4]
          by_cases c5 : (b0 : Int) = 237
          · rw [if_pos c5]
            exact fin _ 3 128 159 (by omega) (by omega) (by omega) (Lib.slow_ED _ _ _ _ _ hn q1 q2 q3 (by omega))
          · rw [if_neg c5]
            exact fin _ 3 128 191 (by omega) (by omega) (by omega) (Lib.slow_E1 _ _ _ _ _ hn q1 q2 q3 (by omega))
      · rw [decide_eq_false c3]
        simp only [abacusref12_Char.j1, Bool.false_eq_true, if_false]; rw [if_pos (by omega)]; by_cases c4 : (b0 : Int) ≤ 244
        · rw [decide_eq_true c4]
          simp only [abacusref12_Char.j2, if_true]; by_cases c5 : (b0 : Int) = 240
          · rw [if_pos c5, if_neg (by omega)]
            exact fin _ 4 144 191 (by omega) (by omega) (by omega) (Lib.slow_F0 _ _ _ _ _ hn q1 q2 q3 (by omega))
          · rw [if_neg c5]
            by_cases c6 : (b0 : Int) = 244
            · rw [if_pos c6]
              exact fin _ 4 128 143 (by omega) (by omega) (by omega) (Lib.slow_F4 _ _ _ _ _ hn q1 q2 q3 (by omega))
            · rw [if_neg c6]
              exact fin _ 4 128 191 (by omega) (by omega) (by omega) (Lib.slow_F1 _ _ _ _ _ hn q1 q2 q3 (by omega))
        · rw [decide_eq_false c4]
          simp only [abacusref12_Char.j2, Bool.false_eq_true, if_false]; refine bad ?_; unfold Lib.firstT
          repeat' split
          all_goals omega
  · rw [if_neg c1]
    obtain ⟨k, rfl⟩ : ∃ n, k = n + 1 := ⟨k - 1, by omega⟩; simp only [abacusref12_Char.j0, Bool.false_eq_true, if_false]; rw [if_neg (by omega)]; simp only [abacusref12_Char.j1, Bool.false_eq_true, if_false]; rw [if_neg (by omega)]; simp only [abacusref12_Char.j2, Bool.false_eq_true, if_false]; refine bad ?_; unfold Lib.firstT; rw [if_neg (by omega), if_pos (by omega)]
theorem width_le_n (n b0 b1 b2 b3 : Nat) (hn : 1 ≤ n) : (Lib.decodeN n b0 b1 b2 b3).2 ≤ n := by
  unfold Lib.decodeN
  repeat' split
  all_goals first | omega | (simp only; omega)
theorem width_ge (n b0 b1 b2 b3 : Nat) : 1 ≤ (Lib.decodeN n b0 b1 b2 b3).2 := by
  unfold Lib.decodeN
  repeat' split
  all_goals first | omega | (simp only; omega)
theorem reftorn_l (s : ByteArray) (hs : s.size ≤ 2305843009213693952) : ∀ (f pos k : Nat), s.size ≤ pos + f → pos ≤ s.size → f + 14 ≤ k → abacusref12_torn.l0 k s (pos : Int) = some (brokenF s f pos) := by
  intro f
  induction f with
  | zero =>
    intro pos k h1 h2 hk; obtain ⟨k, rfl⟩ : ∃ n, k = n + 1 := ⟨k - 1, by omega⟩; simp only [abacusref12_torn.l0]; rw [if_neg (by omega)]; rfl
  | succ f ih =>
    intro pos k h1 h2 hk; obtain ⟨k, rfl⟩ : ∃ n, k = n + 1 := ⟨k - 1, by omega⟩; simp only [abacusref12_torn.l0, brokenF]; by_cases h : pos < s.size
    · rw [if_pos (by omega), if_pos h, refchar_f s hs pos h k (by omega)]
      simp only [Option.bind_some]; have w1 : 1 ≤ (Utf8.decode s pos).2 := by rw [Lib.decode_at]; exact width_ge _ _ _ _ _
      have w2 : (Utf8.decode s pos).2 ≤ s.size - pos := by rw [Lib.decode_at]; exact width_le_n _ _ _ _ _ (by omega)
      cases ht : tornAt s pos
      · simp only [Bool.false_eq_true, if_false]
        rw [if_neg (by omega), wrap64_in (by omega), show ((pos : Int) + ((Utf8.decode s pos).2 : Int)) = ((pos + (Utf8.decode s pos).2 : Nat) : Int) by omega]; exact ih _ k (by omega) (by omega) (by omega)
      · simp
    · rw [if_neg (by omega), if_neg h]
theorem reftorn_f (s : ByteArray) (hs : s.size ≤ 2305843009213693952) (k : Nat) (hk : s.size + 14 ≤ k) : abacusref12_torn.f k s = some (brokenF s s.size 0) := reftorn_l s hs s.size 0 k (by omega) (by omega) hk
theorem broken_rng (s : ByteArray) : ∀ (f pos : Nat), -1 ≤ brokenF s f pos ∧ brokenF s f pos < (s.size : Int) := by
  intro f
  induction f with
  | zero => intro pos; simp only [brokenF]; omega
  | succ f ih =>
    intro pos; simp only [brokenF]; have := ih (pos + (Utf8.decode s pos).2)
    repeat' split
    all_goals omega
theorem refvalue_f (s : ByteArray) (hs : s.size ≤ 2305843009213693952) (k : Nat) (hk : s.size + 20 ≤ k) : abacusref12_Value.f k s = some (valueI s) := by
  unfold abacusref12_Value.f; rw [reftorn_f s hs k (by omega)]; obtain ⟨k, rfl⟩ : ∃ n, k = n + 1 := ⟨k - 1, by omega⟩; simp only [Option.bind_some, abacusref12_Value.j0, valueI, toList_nil]; have hr := broken_rng s s.size 0; generalize brokenF s s.size 0 = t at *; simp only [decide_eq_true_eq, Bool.false_eq_true, if_false]
  repeat' split
  all_goals first | rfl | (exfalso; omega) | (congr 1; omega)
theorem refletter_f (c : Int) : abacusref12_letter.f c = some (letterB c) := by
  unfold abacusref12_letter.f letterB; by_cases h1 : c ≥ 97 <;> by_cases h2 : c ≤ 122 <;> by_cases h3 : c ≥ 65 <;> by_cases h4 : c ≤ 90 <;> by_cases h5 : c = 95 <;> simp [h1, h2, h3, h4, h5] <;> first | done | (exfalso; omega) | omega
theorem refdigit_f (c : Int) : abacusref12_digit.f c = some (digitB c) := by
  unfold abacusref12_digit.f digitB; by_cases h1 : c ≥ 48 <;> by_cases h2 : c ≤ 57 <;> simp [h1, h2] <;> first | done | (exfalso; omega) | omega
theorem refname_l (s : ByteArray) (hs : s.size ≤ 64) : ∀ (n k : Nat) (i : Int), 0 ≤ i → i + n = s.size → n < k → abacusref12_Name.l0 k s i = some (namedFrom s n i) := by
  intro n
  induction n with
  | zero =>
    intro k i h0 h1 hk; obtain ⟨k, rfl⟩ : ∃ m, k = m + 1 := ⟨k - 1, by omega⟩; simp only [abacusref12_Name.l0, namedFrom]; rw [if_neg (by omega)]
  | succ n ih =>
    intro k i h0 h1 hk; obtain ⟨k, rfl⟩ : ∃ m, k = m + 1 := ⟨k - 1, by omega⟩; simp only [abacusref12_Name.l0, namedFrom, namedB]; rw [if_pos (by omega), if_pos h0, refletter_f, refdigit_f]; simp only [Option.bind_some]; rw [wrap64_in (by omega), ih k (i + 1) (by omega) (by omega) (by omega)]
    cases letterB (bt s i) <;> cases digitB (bt s i) <;> simp
theorem refname_f (s : ByteArray) (k : Nat) (hk : 66 < k) : abacusref12_Name.f k s = some (nameB s) := by
  unfold abacusref12_Name.f nameB; obtain ⟨k, rfl⟩ : ∃ m, k = m + 1 := ⟨k - 1, by omega⟩; by_cases h1 : (s.size : Int) < 1
  · rw [if_pos h1]
    simp only [abacusref12_Name.j0, if_true]; rw [show decide (1 ≤ s.size) = false from decide_eq_false (by omega)]; simp
  · rw [if_neg h1]
    by_cases h2 : (s.size : Int) > 64
    · rw [if_pos h2]
      simp only [abacusref12_Name.j0, if_true]; rw [show decide (s.size ≤ 64) = false from decide_eq_false (by omega)]; simp
    · rw [if_neg h2, if_pos (by omega), refletter_f]
      simp only [Option.bind_some, abacusref12_Name.j0]; rw [show decide (1 ≤ s.size) = true from decide_eq_true (by omega), show decide (s.size ≤ 64) = true from decide_eq_true (by omega)]
      cases h : letterB (bt s 0)
      · simp
      · rw [if_neg (by simp), refname_l s (by omega) s.size k 0 (by omega) (by omega) (by omega)]
        simp
def Texts (n : Nat) (l : List S59) : Prop := ∀ x ∈ l, x.f1.size ≤ n
theorem rd59_mem {l : List S59} {j : Nat} (h : j < l.length) : rd_T59 l (j : Int) ∈ l := by
  have : rd_T59 l (j : Int) = l[j] := by simp [rd_T59, List.getD, h]
  rw [this]; exact List.getElem_mem h
theorem refright_l (l : List S59) (B : Nat) (hB : B ≤ 2305843009213693952) (ht : Texts B l) (h0 : l.length ≤ 9223372036854775807) : ∀ (n j k : Nat), j + n = l.length → n + B + 70 ≤ k →
    abacusref12_Right.l0 k l (j : Int) = some ((l.drop j).all (fun x => fineB x.f0 x.f1) && (match j with | 0 => risingF l l.length 1 | j + 1 => risingF l n ((j : Int) + 1))) := by
  intro n
  induction n with
  | zero =>
    intro j k hj hk; obtain ⟨k, rfl⟩ : ∃ n, k = n + 1 := ⟨k - 1, by omega⟩; simp only [abacusref12_Right.l0]; rw [if_neg (by omega), List.drop_eq_nil_of_le (by omega)]
    cases j with
    | zero => rw [show l.length = 0 by omega]; rfl
    | succ j => rfl
  | succ n ih =>
    intro j k hj hk; obtain ⟨k, rfl⟩ : ∃ n, k = n + 1 := ⟨k - 1, by omega⟩; simp only [abacusref12_Right.l0]; have hb := ht _ (rd59_mem (l := l) (j := j) (by omega)); rw [if_pos (by omega), if_pos (by omega), refname_f _ k (by omega), refvalue_f _ (by omega) k (by omega), rd59_drop (l := l) (j := j) (by omega)]; simp only [Option.bind_some, List.all_cons]; have key : (j + 1 : Nat) = (j + 1 : Nat) := rfl; have nx := ih (j + 1) k (by omega) (by omega); simp only at nx; generalize hx : rd_T59 l (j : Int) = x at *
    cases hn : nameB x.f0
    · simp [fineB, hn]
    · by_cases hv : valueI x.f1 ≥ 0
      · have : fineB x.f0 x.f1 = false := by unfold fineB; rw [hn, decide_eq_false (by omega)]; rfl
        rw [if_pos rfl, if_pos hv, this]; simp
      · have hf : fineB x.f0 x.f1 = true := by unfold fineB; rw [hn, decide_eq_true (by omega)]; rfl
        rw [if_pos rfl, if_neg hv, hf]
        cases j with
        | zero =>
          rw [if_neg (by omega), wrap64_in (by omega)]; show abacusref12_Right.l0 k l ((1 : Nat) : Int) = _
          rw [nx]; simp only [Bool.true_and, Option.some.injEq]; congr 1
          show risingF l n ((0 : Nat) + 1 : Int) = risingF l l.length 1
          have a := rising_drop l l.length 0 n (by omega) (by omega); have b := rising_drop l l.length 0 l.length (by omega) (by omega); rw [Bool.eq_iff_iff]; exact a.trans b.symm
        | succ j =>
          rw [if_pos (by omega), wrap64_in (by omega), if_pos (by omega), if_pos (by omega), wrap64_in (by omega)]; simp only [Bool.true_and, risingF]; have e1 : ((j : Int) + 1) = ((j + 1 : Nat) : Int) := by omega
          have e2 : ((j + 1 : Nat) : Int) - 1 = (j : Int) := by omega
          rw [e1, e2, hx, if_pos (show ((j + 1 : Nat) : Int) < l.length by omega)]; by_cases hc : Op.bytesLess (rd_T59 l (j : Int)).f0.toList x.f0.toList = true
          · rw [if_pos hc, if_pos hc]
            rw [show ((j + 1 : Nat) : Int) + 1 = ((j + 1 + 1 : Nat) : Int) by omega]; rw [nx, show ((j + 1 + 1 : Nat) : Int) = ((j + 1 : Nat) : Int) + 1 by omega]
          · rw [if_neg hc, if_neg hc]
            simp
theorem refright_f (l : List S59) (B : Nat) (hB : B ≤ 2305843009213693952) (ht : Texts B l) (h0 : l.length ≤ 9223372036854775807) (k : Nat) (hk : l.length + B + 70 ≤ k) : abacusref12_Right.f k l = some (rightB l) := by
  unfold abacusref12_Right.f rightB; by_cases h : (l.length : Int) > 32
  · rw [if_pos h, show decide (l.length ≤ 32) = false from decide_eq_false (by omega)]
    simp
  · rw [if_neg h, show decide (l.length ≤ 32) = true from decide_eq_true (by omega)]
    have := refright_l l B hB ht h0 l.length 0 k (by omega) hk; rw [show ((0 : Nat) : Int) = 0 from rfl] at this; rw [this]; simp
end Go.Proofs.YtogegkfefpgbcaaDoor.PL
