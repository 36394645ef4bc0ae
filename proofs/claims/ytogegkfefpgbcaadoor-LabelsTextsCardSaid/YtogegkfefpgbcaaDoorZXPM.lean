/- Texts as lists of bytes; valid characters; the escape of a value and the way back. -/
import Derived.Test.YtogegkfefpgbcaaDoorZXPK
import Derived.Test.YtogegkfefpgbcaaDoorZXPC
namespace Go.Proofs.YtogegkfefpgbcaaDoor.PL
open Go Go.RowKit Go.Proofs.YtogegkfefpgbcaaDoorW.PrintWords Go.Proofs.YtogegkfefpgbcaaDoorW.PrintLast Go.Proofs.YtogegkfefpgbcaaDoorW.PrintMore
set_option linter.unusedVariables false
set_option linter.unusedSimpArgs false
def bs (s : ByteArray) : List UInt8 := s.data.toList
theorem bs_len (s : ByteArray) : (bs s).length = s.size := rfl
theorem bs_inj {s t : ByteArray} (h : bs s = bs t) : s = t := by
  cases s; cases t; congr 1
  exact Array.toList_inj.1 h
theorem bs_get (s : ByteArray) (i : Nat) (h : i < s.size) : (bs s)[i]? = some (s.get! i) := by
  cases s with
  | mk a =>
    have h' : i < a.size := h; simp only [bs, Array.getElem?_toList, ByteArray.get!]; rw [Array.getElem?_eq_getElem h', getElem!_pos a i h']
theorem drop_bt {s : ByteArray} {i : Nat} {x : UInt8} {t : List UInt8} (h : (bs s).drop i = x :: t) : i < s.size ∧ bt s (i : Int) = (x.toNat : Int) ∧ (bs s).drop (i + 1) = t := by
  have hi : i < s.size := by
    rcases Nat.lt_or_ge i s.size with h' | h'
    · exact h'
    · rw [List.drop_eq_nil_of_le (by rw [bs_len]; exact h')] at h; cases h
  refine ⟨hi, ?_, ?_⟩
  · have e : (bs s)[i]? = some x := by
      have := congrArg List.head? h; simpa [List.head?_drop] using this
    rw [bs_get s i hi] at e; rw [bt_get, Option.some.inj e]
  · have := congrArg List.tail h
    simpa using this
theorem drop_app {s : ByteArray} {i : Nat} {a b : List UInt8} (h : (bs s).drop i = a ++ b) : (bs s).drop (i + a.length) = b := by
  rw [← List.drop_drop, h, List.drop_left]
theorem ext_bs (s : ByteArray) (i j : Nat) : bs (s.extract i j) = ((bs s).drop i).take (j - i) := by
  unfold bs; rw [ByteArray.data_extract, Array.toList_extract]
def Chr (c : List UInt8) : Prop := c ≠ [] ∧ (Lib.decodeL c).2 = c.length ∧ ¬ ((Lib.decodeL c).1 = 65533 ∧ (Lib.decodeL c).2 = 1)
inductive ValidL : List UInt8 → Prop
  | nil : ValidL []
  | cons (c t : List UInt8) (hc : Chr c) (ht : ValidL t) : ValidL (c ++ t)
theorem ValidL.app {a b : List UInt8} (ha : ValidL a) (hb : ValidL b) : ValidL (a ++ b) := by
  induction ha with
  | nil => simpa using hb
  | cons c t hc _ ih => rw [List.append_assoc]; exact .cons c _ hc ih
theorem getD_app {a t : List UInt8} {k : Nat} (h : k < a.length) : (a ++ t).getD k 0 = a.getD k 0 := by
  simp [List.getD, List.getElem?_append_left h]
theorem getD_take {a : List UInt8} {k w : Nat} (h : k < w) : (a.take w).getD k 0 = a.getD k 0 := by
  simp [List.getD, List.getElem?_take, h]
theorem decodeN_own (n n' b0 b1 b2 b3 c1 c2 c3 : Nat) (hw : (Lib.decodeN n b0 b1 b2 b3).2 ≤ n') (h1 : 2 ≤ (Lib.decodeN n b0 b1 b2 b3).2 → c1 = b1) (h2 : 3 ≤ (Lib.decodeN n b0 b1 b2 b3).2 → c2 = b2) (h3 : 4 ≤ (Lib.decodeN n b0 b1 b2 b3).2 → c3 = b3)
    (ht : ¬ ((Lib.decodeN n b0 b1 b2 b3).1 = 65533 ∧ (Lib.decodeN n b0 b1 b2 b3).2 = 1)) : Lib.decodeN n' b0 c1 c2 c3 = Lib.decodeN n b0 b1 b2 b3 := by
  rcases Lib.decodeN_shape n b0 b1 b2 b3 with ⟨c, e⟩ | ⟨p1, p2, p3, pv, e⟩ | ⟨p1, p2, p3, p4, pv, ps, e⟩ | ⟨p1, p2, p3, p4, p5, pv, pw, e⟩ | e
  · rw [e]
    unfold Lib.decodeN; rw [if_pos c]
  · rw [e] at hw h1 ⊢
    obtain rfl := h1 (by simp); unfold Lib.decodeN; have hn : 1 < n' := hw; rw [if_neg (by omega), if_pos ⟨p1, hn, p3⟩, if_pos pv]
  · rw [e] at hw h1 h2 ⊢
    obtain rfl := h1 (by simp); obtain rfl := h2 (by simp); unfold Lib.decodeN; have hn : 2 < n' := hw; rw [if_neg (by omega), if_neg (by omega), if_pos ⟨p1, ⟨by omega, p3⟩, hn, p4⟩, if_pos ⟨pv, by omega⟩]
  · rw [e] at hw h1 h2 h3 ⊢
    obtain rfl := h1 (by simp); obtain rfl := h2 (by simp); obtain rfl := h3 (by simp); unfold Lib.decodeN; have hn : 3 < n' := hw; rw [if_neg (by omega), if_neg (by omega), if_neg (by omega), if_pos ⟨p1, ⟨by omega, p3⟩, ⟨by omega, p4⟩, hn, p5⟩, if_pos ⟨pv, by omega⟩]
  · rw [e] at ht
    exact absurd ⟨rfl, rfl⟩ ht
theorem chr_app {c : List UInt8} (hc : Chr c) (t : List UInt8) : Lib.decodeL (c ++ t) = Lib.decodeL c := by
  obtain ⟨h0, h1, h2⟩ := hc; have hp : 0 < c.length := List.length_pos_iff.2 h0; rw [Lib.decodeL_N] at h1 h2; rw [Lib.decodeL_N, Lib.decodeL_N, getD_app hp]; exact decodeN_own _ _ _ _ _ _ _ _ _ (by rw [h1]; simp) (fun h => by rw [getD_app (by omega)]) (fun h => by rw [getD_app (by omega)]) (fun h => by rw [getD_app (by omega)]) h2
theorem decodeL_fit (l : List UInt8) (h : l ≠ []) : (Lib.decodeL l).2 ≤ l.length := Lib.decodeL_le l h
theorem decodeL_pos (l : List UInt8) : 1 ≤ (Lib.decodeL l).2 := Lib.decodeL_width l
theorem chr_take {l : List UInt8} (h : l ≠ []) (ht : ¬ ((Lib.decodeL l).1 = 65533 ∧ (Lib.decodeL l).2 = 1)) : Chr (l.take (Lib.decodeL l).2) ∧ Lib.decodeL (l.take (Lib.decodeL l).2) = Lib.decodeL l := by
  have hf := decodeL_fit l h; have hp := decodeL_pos l; have hlen : (l.take (Lib.decodeL l).2).length = (Lib.decodeL l).2 := by simp; omega
  have e : Lib.decodeL (l.take (Lib.decodeL l).2) = Lib.decodeL l := by
    have ht' := ht; rw [Lib.decodeL_N l] at ht'
    have key := decodeN_own l.length (l.take (Lib.decodeL l).2).length (l.getD 0 0).toNat (l.getD 1 0).toNat (l.getD 2 0).toNat (l.getD 3 0).toNat ((l.take (Lib.decodeL l).2).getD 1 0).toNat ((l.take (Lib.decodeL l).2).getD 2 0).toNat ((l.take (Lib.decodeL l).2).getD 3 0).toNat
      (by rw [hlen, ← Lib.decodeL_N l]; exact Nat.le_refl _) (fun h => by rw [← Lib.decodeL_N l] at h; rw [getD_take (by omega)]) (fun h => by rw [← Lib.decodeL_N l] at h; rw [getD_take (by omega)]) (fun h => by rw [← Lib.decodeL_N l] at h; rw [getD_take (by omega)]) ht'
    rw [Lib.decodeL_N (l.take _), getD_take (show 0 < (Lib.decodeL l).2 by omega), key, ← Lib.decodeL_N l]
  refine ⟨⟨?_, ?_, ?_⟩, e⟩
  · intro h0
    rw [h0] at hlen; simp at hlen
    omega
  · rw [e, hlen]
  · rw [e]; exact ht
theorem decode_bs (s : ByteArray) (i : Nat) : Lib.decodeL ((bs s).drop i) = Utf8.decode s i := decode_list s i
theorem torn_bs (s : ByteArray) (i : Nat) : tornAt s i = true ↔ ((Lib.decodeL ((bs s).drop i)).1 = 65533 ∧ (Lib.decodeL ((bs s).drop i)).2 = 1) := by rw [decode_bs]; exact tornAt_iff s i
theorem drop_ne {s : ByteArray} {i : Nat} (h : i < s.size) : (bs s).drop i ≠ [] := by
  intro e; have := congrArg List.length e; simp only [List.length_drop, bs_len, List.length_nil] at this; omega
theorem valid_of_broken (s : ByteArray) : ∀ (f i : Nat), s.size ≤ i + f → brokenF s f i = -1 → ValidL ((bs s).drop i) := by
  intro f
  induction f with
  | zero => intro i h _; rw [List.drop_eq_nil_of_le (by rw [bs_len]; omega)]; exact .nil
  | succ f ih =>
    intro i h hb; simp only [brokenF] at hb; by_cases hi : i < s.size
    · rw [if_pos hi] at hb
      by_cases ht : tornAt s i = true
      · rw [if_pos ht] at hb; omega
      · rw [if_neg ht] at hb
        have hw := dec_ge s i; have := ih _ (by omega) hb; have hc := (chr_take (drop_ne hi) (fun e => ht ((torn_bs s i).2 e))).1
        have e : (bs s).drop i = ((bs s).drop i).take (Lib.decodeL ((bs s).drop i)).2 ++ (bs s).drop (i + (Utf8.decode s i).2) := by
          rw [← List.drop_drop, decode_bs]; exact (List.take_append_drop _ _).symm
        rw [e]; exact .cons _ _ hc this
    · rw [List.drop_eq_nil_of_le (by rw [bs_len]; omega)]
      exact .nil
theorem broken_of_valid (s : ByteArray) : ∀ (l : List UInt8), ValidL l → ∀ (f i : Nat), (bs s).drop i = l → brokenF s f i = -1 := by
  intro l hl
  induction hl with
  | nil =>
    intro f i h
    cases f with
    | zero => rfl
    | succ f =>
      simp only [brokenF]; have := congrArg List.length h; simp only [List.length_drop, bs_len, List.length_nil] at this; rw [if_neg (by omega)]
  | cons c t hc ht ih =>
    intro f i h
    cases f with
    | zero => rfl
    | succ f =>
      simp only [brokenF]; have hlen := congrArg List.length h; have hp : 0 < c.length := List.length_pos_iff.2 hc.1; simp only [List.length_drop, bs_len, List.length_append] at hlen; have hd : Utf8.decode s i = Lib.decodeL c := by rw [← decode_bs, h, chr_app hc]
      have hnt : ¬ tornAt s i = true := fun e => hc.2.2 (by have := (tornAt_iff s i).1 e; rwa [hd] at this)
      rw [if_pos (by omega), if_neg hnt, hd, hc.2.1]; exact ih f _ (drop_app h)
theorem value_fine (v : ByteArray) : valueI v < 0 ↔ (v.size ≠ 0 ∧ v.size ≤ 256 ∧ ValidL (bs v)) := by
  have hr := broken_rng v v.size 0
  have e1 : brokenF v v.size 0 = -1 ↔ ValidL (bs v) := by
    constructor
    · intro h
      have := valid_of_broken v v.size 0 (by omega) h; simpa using this
    · intro h
      exact broken_of_valid v (bs v) h v.size 0 (by simp)
  rw [← e1]; unfold valueI
  repeat' split
  all_goals omega
def escB (b : UInt8) : List UInt8 := if b = 92 ∨ b = 34 then [92, b] else if b = 10 then [92, 110] else [b]
def escL (l : List UInt8) : List UInt8 := l.flatMap escB
theorem escB_len (b : UInt8) : 1 ≤ (escB b).length ∧ (escB b).length ≤ 2 := by
  unfold escB
  repeat' split
  all_goals simp
theorem escL_len (l : List UInt8) : l.length ≤ (escL l).length ∧ (escL l).length ≤ 2 * l.length := by
  induction l with
  | nil => simp [escL]
  | cons b t ih =>
    have := escB_len b; have e : escL (b :: t) = escB b ++ escL t := by simp [escL]
    rw [e]; simp only [List.length_append, List.length_cons]; omega
theorem chr_low {b : UInt8} (h : b.toNat < 128) : Chr [b] := by
  have e : Lib.decodeL [b] = (b.toNat, 1) := by
    rw [Lib.decodeL_N]; unfold Lib.decodeN; simp only [List.getD_cons_zero]; rw [if_pos h]
  refine ⟨by simp, ?_, ?_⟩
  · rw [e]; rfl
  · rw [e]
    simp
    omega
end Go.Proofs.YtogegkfefpgbcaaDoor.PL
