/- Says, Matches: that they answer, and what of: a pattern without signs, the pattern *; LabelsWants answers true. -/
import Derived.Test.YtogegkfefpgbcaaDoorZBPLx0
import Derived.Test.YtogegkfefpgbcaaDoorZBQ1
import Derived.Test.YtogegkfefpgbcaaDoorZBQ2
import Derived.Test.YtogegkfefpgbcaaDoorZBQ3
import Derived.Test.YtogegkfefpgbcaaDoorZBQ4
import Derived.Test.YtogegkfefpgbcaaDoorZBQ5
import Derived.Test.YtogegkfefpgbcaaDoorZBQ6
import Derived.Test.YtogegkfefpgbcaaDoorZBPH
import Derived.Lib.MapLaws
namespace Go.Proofs.YtogegkfefpgbcaaDoor.PL
open Go Go.RowKit Go.Proofs.YtogegkfefpgbcaaDoorW.PrintWords Go.Proofs.YtogegkfefpgbcaaDoorW.PrintLast Go.Proofs.YtogegkfefpgbcaaDoorW.PrintMore
set_option linter.unusedVariables false
set_option linter.unusedSimpArgs false
/-- The characters of a text from a place on; -1 for a byte that begins none. -/
def charsL (s : ByteArray) : Nat → Nat → List Int
  | 0, _ => []
  | f + 1, pos => if pos < s.size then (if tornAt s pos = true then -1 else ((Utf8.decode s pos).1 : Int)) :: charsL s f (pos + (Utf8.decode s pos).2) else []
theorem charsL_len (s : ByteArray) : ∀ (f pos : Nat), (charsL s f pos).length ≤ f := by
  intro f
  induction f with
  | zero => intro pos; simp [charsL]
  | succ f ih =>
    intro pos
    have := ih (pos + (Utf8.decode s pos).2)
    simp only [charsL]
    split
    · simp only [List.length_cons]; omega
    · simp
theorem charsF_eq (s : ByteArray) : ∀ (f pos : Nat) (acc : List Int), acc.length + f ≤ 35184372088832 → charsF s f pos acc = some (acc ++ charsL s f pos) := by
  intro f
  induction f with
  | zero => intro pos acc _; simp [charsF, charsL]
  | succ f ih =>
    intro pos acc h
    simp only [charsF, charsL]
    by_cases hp : pos < s.size
    · rw [if_pos hp, if_pos hp, if_pos (by omega), ih _ _ (by simp; omega)]
      simp
    · rw [if_neg hp, if_neg hp]
      simp
def charsC (s : ByteArray) : List Int := charsL s s.size 0
theorem chars_f (s : ByteArray) (hs : s.size ≤ 35184372088832) : labels_chars.f s = some (charsC s) := by
  unfold labels_chars.f charsC
  rw [charsF_eq s s.size 0 [] (by simpa using hs)]
  rfl
theorem charsC_len (s : ByteArray) : (charsC s).length ≤ s.size := charsL_len s s.size 0
/-- parts answers, with no more than it was given. -/
theorem parts_l (cs : List Int) (h0 : cs.length ≤ 1099511627776) : ∀ (n j k : Nat) (out : List Int), j + n = cs.length → n + 1 ≤ k → out.length ≤ j → ∃ r, labels_parts.l0 k cs out (j : Int) = some r ∧ r.length ≤ cs.length := by
  intro n
  induction n using Nat.strongRecOn with
  | ind n ih =>
    intro j k out hj hk ho
    obtain ⟨k, rfl⟩ : ∃ n, k = n + 1 := ⟨k - 1, by omega⟩
    simp only [labels_parts.l0]
    by_cases hn : n = 0
    · rw [if_neg (by omega)]
      exact ⟨out, rfl, by omega⟩
    · have nx : ∀ c : Int, ∃ r, labels_parts.l0 k cs (out ++ [c]) (wrap64 ((j : Int) + 1)) = some r ∧ r.length ≤ cs.length := fun c => by
        have := ih (n - 1) (by omega) (j + 1) k (out ++ [c]) (by omega) (by omega) (by simp; omega)
        rw [wrap64_in (by omega), show ((j : Int) + 1) = ((j + 1 : Nat) : Int) by omega]
        exact this
      rw [if_pos (by omega), if_pos (by omega)]
      have ol : out.length < 35184372088832 := by omega
      simp only [ol, if_true]
      split
      · exact nx _
      · split
        · exact nx _
        · split
          · rw [wrap64_in (by omega)]
            by_cases hj1 : (j : Int) + 1 < cs.length
            · rw [if_pos hj1, if_pos (by omega)]
              have := ih (n - 2) (by omega) (j + 2) k (out ++ [rd cs ((j : Int) + 1)]) (by omega) (by omega) (by simp; omega)
              rw [wrap64_in (by omega), show ((j : Int) + 1 + 1) = ((j + 2 : Nat) : Int) by omega]
              exact this
            · rw [if_neg hj1]
              have := nx (rd cs (j : Int))
              rw [wrap64_in (by omega)] at this
              exact this
          · exact nx _
theorem parts_some (p : ByteArray) (hp : p.size ≤ 1099511627776) (k : Nat) (hk : p.size + 1 ≤ k) : ∃ r, labels_parts.f k p = some r ∧ r.length ≤ p.size := by
  unfold labels_parts.f
  rw [chars_f p (by omega)]
  have hl := charsC_len p
  obtain ⟨r, h1, h2⟩ := parts_l (charsC p) (by omega) (charsC p).length 0 k [] (by omega) (by omega) (by simp)
  exact ⟨r, h1, by omega⟩
theorem says_l1 (p : List Int) (h0 : p.length ≤ 1099511627776) : ∀ (n i k : Nat), i + n = p.length → n + 1 ≤ k → ∃ r, labels_Says.l1 k p (i : Int) = some r := by
  intro n
  induction n with
  | zero =>
    intro i k hi hk
    obtain ⟨k, rfl⟩ : ∃ n, k = n + 1 := ⟨k - 1, by omega⟩
    simp only [labels_Says.l1]
    rw [if_neg (by omega)]
    exact ⟨_, rfl⟩
  | succ n ih =>
    intro i k hi hk
    obtain ⟨k, rfl⟩ : ∃ n, k = n + 1 := ⟨k - 1, by omega⟩
    simp only [labels_Says.l1]
    rw [if_pos (by omega), if_pos (by omega)]
    split
    · rw [wrap64_in (by omega), show ((i : Int) + 1) = ((i + 1 : Nat) : Int) by omega]
      exact ih (i + 1) k (by omega) (by omega)
    · exact ⟨_, rfl⟩
theorem says_l0 (p l : List Int) (hp : p.length ≤ 1099511627776) (hl : l.length ≤ 1099511627776) : ∀ (m i k bk f : Nat) (st : Int), i ≤ p.length → bk ≤ k → k ≤ l.length → -1 ≤ st → st < p.length →
    (l.length - bk) * (p.length + l.length + 3) + (p.length - i) + (l.length - k) ≤ m → 3 * m + p.length + 10 ≤ f → ∃ r, labels_Says.l0 f p l (i : Int) (k : Int) st (bk : Int) = some r := by
  intro m
  induction m using Nat.strongRecOn with
  | ind m ih =>
    intro i k bk f st hi hbk hk hs0 hs1 hm hf
    obtain ⟨f, rfl⟩ : ∃ n, f = n + 3 := ⟨f - 3, by omega⟩
    simp only [labels_Says.l0]
    by_cases ck : k < l.length
    · rw [if_pos (by omega)]
      have same : ∃ r, labels_Says.l0 f p l ((i + 1 : Nat) : Int) ((k + 1 : Nat) : Int) st (bk : Int) = some r ∨ p.length ≤ i := by
        by_cases ci : i < p.length
        · obtain ⟨r, h⟩ := ih (m - 2) (by omega) (i + 1) (k + 1) bk f st (by omega) (by omega) (by omega) hs0 hs1 (by omega) (by omega)
          exact ⟨r, .inl h⟩
        · exact ⟨false, .inr (by omega)⟩
      have back : ∃ r, labels_Says.j3 (f + 1) p l (i : Int) (k : Int) st (bk : Int) false = some r := by
        simp only [labels_Says.j3, Bool.false_eq_true, if_false]
        by_cases cs : st ≥ 0
        · rw [if_pos cs]
          obtain ⟨sn, rfl⟩ := Int.eq_ofNat_of_zero_le cs
          rw [wrap64_in (by omega), wrap64_in (by omega), show ((sn : Int) + 1) = ((sn + 1 : Nat) : Int) by omega, show ((bk : Int) + 1) = ((bk + 1 : Nat) : Int) by omega]
          have e : (l.length - bk) * (p.length + l.length + 3) = (l.length - (bk + 1)) * (p.length + l.length + 3) + (p.length + l.length + 3) := by
            rw [← Nat.succ_mul]
            congr 1
            omega
          generalize hA : (l.length - (bk + 1)) * (p.length + l.length + 3) = A at e
          exact ih (m - 1) (by omega) (sn + 1) (bk + 1) (bk + 1) f sn (by omega) (by omega) (by omega) (by omega) hs1 (by rw [hA]; omega) (by omega)
        · rw [if_neg cs]
          exact ⟨_, rfl⟩
      have on : ∀ b, (b = true → i < p.length) → ∃ r, labels_Says.j3 (f + 1) p l (i : Int) (k : Int) st (bk : Int) b = some r := by
        intro b hb
        cases b
        · exact back
        · simp only [labels_Says.j3, if_true]
          rw [wrap64_in (by omega), wrap64_in (by omega)]
          obtain ⟨r, h⟩ := same
          rcases h with h | h
          · exact ⟨r, h⟩
          · have := hb rfl
            omega
      have mid : ∃ r, labels_Says.j2 (f + 2) p l (i : Int) (k : Int) st (bk : Int) false = some r := by
        simp only [labels_Says.j2, Bool.false_eq_true, if_false]
        by_cases ci : i < p.length
        · rw [if_pos (by omega), if_pos (by omega)]
          split
          · exact on true (fun _ => ci)
          · rw [if_pos (by omega), if_pos (by omega)]
            split
            · exact on _ (fun _ => ci)
            · exact back
        · rw [if_neg (by omega)]
          exact back
      by_cases ci : i < p.length
      · rw [if_pos (by omega), if_pos (by omega)]
        cases hstar : (rd p (i : Int) == (-3))
        · exact mid
        · simp only [labels_Says.j2, if_true]
          rw [wrap64_in (by omega), show ((i : Int) + 1) = ((i + 1 : Nat) : Int) by omega]
          have e : (l.length - k) * (p.length + l.length + 3) ≤ (l.length - bk) * (p.length + l.length + 3) := Nat.mul_le_mul_right _ (by omega)
          generalize hA : (l.length - k) * (p.length + l.length + 3) = A at e
          generalize hB : (l.length - bk) * (p.length + l.length + 3) = B at *
          exact ih (m - 1) (by omega) (i + 1) k k (f + 1) i (by omega) (by omega) (by omega) (by omega) (by omega) (by rw [hA]; omega) (by omega)
      · rw [if_neg (by omega)]
        exact mid
    · rw [if_neg (by omega)]
      exact says_l1 p hp (p.length - i) i (f + 2) (by omega) (by omega)
/-- How many rounds are enough. -/
def saysK (p s : ByteArray) : Nat := 3 * (s.size * (p.size + s.size + 3) + p.size + s.size) + 2 * p.size + 40
theorem says_some (p s : ByteArray) (hp : p.size ≤ 1099511627776) (hs : s.size ≤ 1099511627776) : ∃ r, labels_Says.f (saysK p s) p s = some r := by
  unfold labels_Says.f
  have j1 : ∀ k, 1 ≤ k → labels_Says.j0 k p s true = some false := fun k hk => by
    obtain ⟨k, rfl⟩ : ∃ n, k = n + 1 := ⟨k - 1, by omega⟩
    simp [labels_Says.j0]
  have h1 : 1 ≤ saysK p s := by unfold saysK; omega
  split
  · exact ⟨_, j1 _ h1⟩
  · unfold labels_broken.f
    simp only [Option.bind_some]
    cases decide (brokenF p p.size 0 ≥ 0)
    · obtain ⟨k, hk⟩ : ∃ k, saysK p s = k + 1 := ⟨saysK p s - 1, by omega⟩
      rw [hk]
      simp only [labels_Says.j0, Bool.false_eq_true, if_false]
      obtain ⟨r, e1, e2⟩ := parts_some p hp k (by unfold saysK at hk; omega)
      rw [e1, chars_f s (by omega)]
      simp only [Option.bind_some]
      have hl := charsC_len s
      have a1 : ((charsC s).length - 0) * (r.length + (charsC s).length + 3) ≤ s.size * (p.size + s.size + 3) := Nat.mul_le_mul (by omega) (by omega)
      unfold saysK at hk
      generalize s.size * (p.size + s.size + 3) = A at *
      exact says_l0 r (charsC s) (by omega) (by omega) (A + p.size + s.size) 0 0 0 k (-1) (by omega) (by omega) (by omega) (by omega) (by omega) (by omega) (by omega)
    · exact ⟨_, j1 _ h1⟩
def saysB (p s : ByteArray) : Bool := (labels_Says.f (saysK p s) p s).getD false
theorem says_up (p s : ByteArray) (r : Bool) (k : Nat) (h : labels_Says.f k p s = some r) : ∀ n, labels_Says.f (k + n) p s = some r := by
  intro n
  induction n with
  | zero => exact h
  | succ n ih => exact labels_Says.mono p s (k + n) r ih
theorem says_f (p s : ByteArray) (hp : p.size ≤ 1099511627776) (hs : s.size ≤ 1099511627776) (k : Nat) (hk : saysK p s ≤ k) : labels_Says.f k p s = some (saysB p s) := by
  obtain ⟨r, h⟩ := says_some p s hp hs
  have := says_up p s r _ h (k - saysK p s)
  rw [show saysK p s + (k - saysK p s) = k by omega] at this
  unfold saysB
  rw [this, h]
  rfl
/-- What one run says, all say. -/
theorem says_is (p s : ByteArray) (hp : p.size ≤ 1099511627776) (hs : s.size ≤ 1099511627776) (k : Nat) (r : Bool) (h : labels_Says.f k p s = some r) : saysB p s = r := by
  have a := says_up p s r k h (saysK p s)
  have b := says_f p s hp hs (k + saysK p s) (by omega)
  exact Option.some.inj (b.symm.trans a)
/-- The pattern *. -/
theorem star_l (l : List Int) (hl : l.length ≤ 1099511627776) : ∀ (n k f : Nat), k + n = l.length → 3 * n + 5 ≤ f → labels_Says.l0 f [-3] l 1 (k : Int) 0 (k : Int) = some true := by
  intro n
  induction n with
  | zero =>
    intro k f hk hf
    obtain ⟨f, rfl⟩ : ∃ n, f = n + 2 := ⟨f - 2, by omega⟩
    simp only [labels_Says.l0]
    rw [if_neg (by omega)]
    simp [labels_Says.l1]
  | succ n ih =>
    intro k f hk hf
    obtain ⟨f, rfl⟩ : ∃ n, f = n + 3 := ⟨f - 3, by omega⟩
    simp only [labels_Says.l0]
    rw [if_pos (by omega), if_neg (by simp)]
    simp only [labels_Says.j2, Bool.false_eq_true, if_false]
    rw [if_neg (by simp)]
    simp only [labels_Says.j3, Bool.false_eq_true, if_false]
    rw [if_pos (by omega), wrap64_in (by omega), wrap64_in (by omega), show ((k : Int) + 1) = ((k + 1 : Nat) : Int) by omega]
    exact ih (k + 1) f (by omega) (by omega)
theorem star_says (s : ByteArray) (hs : s.size ≤ 1099511627776) : saysB (⟨#[42]⟩ : ByteArray) s = true := by
  refine says_is _ s (by decide) hs (3 * s.size + 100) true ?_
  have hl := charsC_len s
  unfold labels_Says.f
  rw [if_neg (by decide)]
  have hb : brokenF (⟨#[42]⟩ : ByteArray) (⟨#[42]⟩ : ByteArray).size 0 = -1 := by kernel_rfl
  have hc : charsC (⟨#[42]⟩ : ByteArray) = [42] := by kernel_rfl
  unfold labels_broken.f
  simp only [Option.bind_some, hb]
  rw [show decide ((-1 : Int) ≥ 0) = false from by decide]
  rw [show 3 * s.size + 100 = (3 * s.size + 99) + 1 from rfl]
  simp only [labels_Says.j0, Bool.false_eq_true, if_false]
  unfold labels_parts.f
  rw [chars_f _ (by decide), chars_f s (by omega), hc]
  simp only [Option.bind_some]
  rw [show 3 * s.size + 99 = (3 * s.size + 97) + 2 from rfl]
  have hp : labels_parts.l0 ((3 * s.size + 97) + 2) [42] [] 0 = some [-3] := by
    simp [labels_parts.l0, rd, wrap64]
  rw [hp]
  simp only [Option.bind_some]
  by_cases h0 : (charsC s).length = 0
  · simp only [labels_Says.l0]
    rw [if_neg (by omega)]
    rw [show 3 * s.size + 98 = (3 * s.size + 96) + 2 from rfl]
    simp [labels_Says.l1, rd, wrap64]
  · simp only [labels_Says.l0]
    rw [if_pos (by omega), if_pos (by simp), if_pos (by omega)]
    simp only [labels_Says.j2]
    rw [if_pos (by simp [rd])]
    have := star_l (charsC s) (by omega) (charsC s).length 0 (3 * s.size + 97) (by omega) (by omega)
    simpa [wrap64] using this
/-- A pattern without signs. -/
theorem rd_drop {l : List Int} {j : Nat} (h : j < l.length) : l.drop j = rd l (j : Int) :: l.drop (j + 1) := by
  rw [List.drop_eq_getElem_cons h]
  congr 1
  simp [rd, List.getD, h]
theorem plain_l (p l : List Int) (hp : p.length ≤ 1099511627776) (hl : l.length ≤ 1099511627776) (h0 : ∀ c ∈ p, 0 ≤ c) : ∀ (n j f : Nat), j + n = l.length → j ≤ p.length → 3 * n + 5 ≤ f → labels_Says.l0 f p l (j : Int) (j : Int) (-1) 0 = some (decide (p.drop j = l.drop j)) := by
  intro n
  induction n with
  | zero =>
    intro j f hj hjp hf
    obtain ⟨f, rfl⟩ : ∃ n, f = n + 2 := ⟨f - 2, by omega⟩
    simp only [labels_Says.l0]
    rw [if_neg (by omega), show l.drop j = [] from List.drop_eq_nil_of_le (by omega)]
    simp only [labels_Says.l1]
    by_cases c : j < p.length
    · have hc := h0 (rd p (j : Int)) (by
        have : rd p (j : Int) = p[j] := by simp [rd, List.getD, c]
        rw [this]; exact List.getElem_mem c)
      rw [if_pos (by omega), if_pos (by omega), if_neg (by omega), rd_drop c]
      simp
      omega
    · rw [if_neg (by omega), show p.drop j = [] from List.drop_eq_nil_of_le (by omega)]
      simp
      omega
  | succ n ih =>
    intro j f hj hjp hf
    obtain ⟨f, rfl⟩ : ∃ n, f = n + 3 := ⟨f - 3, by omega⟩
    simp only [labels_Says.l0]
    rw [if_pos (by omega)]
    have no : ∀ f, labels_Says.j3 (f + 1) p l (j : Int) (j : Int) (-1) 0 false = some false := fun f => by simp [labels_Says.j3]
    by_cases c : j < p.length
    · have hc := h0 (rd p (j : Int)) (by
        have : rd p (j : Int) = p[j] := by simp [rd, List.getD, c]
        rw [this]; exact List.getElem_mem c)
      rw [if_pos (by omega), if_pos (by omega), rd_drop c, rd_drop (l := l) (j := j) (by omega)]
      have e : (rd p (j : Int) == (-3)) = false := by simpa using (by omega : rd p (j : Int) ≠ -3)
      rw [e]
      simp only [labels_Says.j2, Bool.false_eq_true, if_false]
      rw [if_pos (by omega), if_pos (by omega), if_neg (by omega), if_pos (by omega), if_pos (by omega)]
      by_cases hq : rd p (j : Int) = rd l (j : Int)
      · rw [if_pos hq, decide_eq_true (by omega)]
        simp only [labels_Says.j3, if_true]
        rw [wrap64_in (by omega), show ((j : Int) + 1) = ((j + 1 : Nat) : Int) by omega, ih (j + 1) f (by omega) (by omega) (by omega)]
        simp [hq]
      · rw [if_neg hq, no]
        simp [hq]
    · rw [if_neg (by omega), show p.drop j = [] from List.drop_eq_nil_of_le (by omega), rd_drop (l := l) (j := j) (by omega)]
      simp only [labels_Says.j2, Bool.false_eq_true, if_false]
      rw [if_neg (by omega), no]
      simp
theorem parts_plain (cs : List Int) (h0 : cs.length ≤ 1099511627776) (h : ∀ c ∈ cs, c ≠ 42 ∧ c ≠ 63 ∧ c ≠ 92) : ∀ (n j k : Nat) (out : List Int), j + n = cs.length → n + 1 ≤ k → out.length ≤ j → labels_parts.l0 k cs out (j : Int) = some (out ++ cs.drop j) := by
  intro n
  induction n with
  | zero =>
    intro j k out hj hk ho
    obtain ⟨k, rfl⟩ : ∃ n, k = n + 1 := ⟨k - 1, by omega⟩
    simp only [labels_parts.l0]
    rw [if_neg (by omega), show cs.drop j = [] from List.drop_eq_nil_of_le (by omega)]
    simp
  | succ n ih =>
    intro j k out hj hk ho
    obtain ⟨k, rfl⟩ : ∃ n, k = n + 1 := ⟨k - 1, by omega⟩
    have c : j < cs.length := by omega
    have hc := h (rd cs (j : Int)) (by
        have : rd cs (j : Int) = cs[j] := by simp [rd, List.getD, c]
        rw [this]; exact List.getElem_mem c)
    simp only [labels_parts.l0]
    rw [if_pos (by omega), if_pos (by omega), if_neg hc.1, if_neg hc.2.1, if_neg hc.2.2, if_pos (by omega), wrap64_in (by omega), show ((j : Int) + 1) = ((j + 1 : Nat) : Int) by omega, ih (j + 1) k _ (by omega) (by omega) (by simp; omega), rd_drop c]
    simp
theorem decode_list (s : ByteArray) (i : Nat) : Lib.decodeL (s.data.toList.drop i) = Utf8.decode s i := by
  have e : ∀ j, ((s.data.toList.drop i).getD j 0) = s.get! (i + j) := fun j => by
    cases s with
    | mk a =>
      simp only [List.getD, List.getElem?_drop, Array.getElem?_toList, ByteArray.get!]
      by_cases h : i + j < a.size
      · rw [Array.getElem?_eq_getElem h, getElem!_pos a (i + j) h]
        rfl
      · rw [Array.getElem?_eq_none (by omega), getElem!_neg a (i + j) (by omega)]
        rfl
  rw [Lib.decodeL_N, Lib.decode_at, e, e, e, e]
  simp
theorem tornAt_iff (s : ByteArray) (i : Nat) : tornAt s i = true ↔ ((Utf8.decode s i).1 = 65533 ∧ (Utf8.decode s i).2 = 1) := by simp [tornAt]
theorem dec_ge (s : ByteArray) (i : Nat) : 1 ≤ (Utf8.decode s i).2 := by rw [Lib.decode_at]; exact width_ge _ _ _ _ _
theorem dec_le (s : ByteArray) (i : Nat) (h : i < s.size) : (Utf8.decode s i).2 ≤ s.size - i := by rw [Lib.decode_at]; exact width_le_n _ _ _ _ _ (by omega)
/-- The bytes of a character that stands. -/
theorem char_bytes (s : ByteArray) (i : Nat) (h : i < s.size) (ht : tornAt s i = false) : s.data.toList.drop i = Lib.encodeRune ((Utf8.decode s i).1 : Int) ++ s.data.toList.drop (i + (Utf8.decode s i).2) := by
  have hv : ¬ ((Utf8.decode s i).1 = 65533 ∧ (Utf8.decode s i).2 = 1) := fun e => by rw [(tornAt_iff s i).2 e] at ht; cases ht
  have hne : s.data.toList.drop i ≠ [] := by
    intro e
    have := congrArg List.length e
    simp at this
    have : s.size = s.data.size := rfl
    omega
  have := Lib.encode_decode (s.data.toList.drop i) hne (by rw [decode_list]; exact hv)
  rw [decode_list] at this
  rw [this, ← List.drop_drop, List.take_append_drop]
/-- The same characters, all of them standing: the same text. -/
theorem chars_inj (s t : ByteArray) : ∀ (f i g j : Nat), s.size ≤ i + f → t.size ≤ j + g → brokenF s f i = -1 → charsL s f i = charsL t g j → s.data.toList.drop i = t.data.toList.drop j := by
  intro f
  have nil : ∀ (u : ByteArray) (n : Nat), u.size ≤ n → u.data.toList.drop n = [] := fun u n h => List.drop_eq_nil_of_le (by simpa using h)
  induction f with
  | zero =>
    intro i g j hi hj hb hc
    rw [nil s i (by omega)]
    cases g with
    | zero => rw [nil t j (by omega)]
    | succ g =>
      simp only [charsL] at hc
      split at hc
      · cases hc
      · rw [nil t j (by omega)]
  | succ f ih =>
    intro i g j hi hj hb hc
    by_cases h : i < s.size
    · simp only [brokenF] at hb
      rw [if_pos h] at hb
      cases ht : tornAt s i
      · rw [ht] at hb
        simp only [Bool.false_eq_true, if_false] at hb
        simp only [charsL] at hc
        rw [if_pos h, ht] at hc
        simp only [Bool.false_eq_true, if_false] at hc
        cases g with
        | zero => simp only [charsL] at hc; cases hc
        | succ g =>
          simp only [charsL] at hc
          by_cases h2 : j < t.size
          · rw [if_pos h2] at hc
            injection hc with e1 e2
            cases ht2 : tornAt t j
            · rw [ht2] at e1
              simp only [Bool.false_eq_true, if_false] at e1
              have w1 := dec_ge s i
              have w2 := dec_ge t j
              rw [char_bytes s i h ht, char_bytes t j h2 ht2, ih _ g _ (by omega) (by omega) hb e2, e1]
            · rw [ht2] at e1
              simp only [if_true] at e1
              omega
          · rw [if_neg h2] at hc
            cases hc
      · rw [ht] at hb
        simp only [if_true] at hb
        omega
    · rw [nil s i (by omega)]
      simp only [charsL] at hc
      rw [if_neg h] at hc
      cases g with
      | zero => rw [nil t j (by omega)]
      | succ g =>
        simp only [charsL] at hc
        split at hc
        · cases hc
        · rw [nil t j (by omega)]
theorem chars_pos (s : ByteArray) : ∀ (f i : Nat), brokenF s f i = -1 → ∀ c ∈ charsL s f i, 0 ≤ c := by
  intro f
  induction f with
  | zero => intro i _ c hc; simp [charsL] at hc
  | succ f ih =>
    intro i hb c hc
    simp only [brokenF] at hb
    simp only [charsL] at hc
    split at hc
    · rename_i h
      rw [if_pos h] at hb
      cases ht : tornAt s i
      · rw [ht] at hb hc
        simp only [Bool.false_eq_true, if_false] at hb hc
        rcases List.mem_cons.1 hc with rfl | hc
        · omega
        · exact ih _ hb c hc
      · rw [ht] at hb
        simp only [if_true] at hb
        omega
    · cases hc
/-- A character below 128 is a byte that stands in the text. -/
theorem chars_low (s : ByteArray) : ∀ (f i : Nat) (c : Int), c ∈ charsL s f i → 0 ≤ c → c < 128 → ∃ j, j < s.size ∧ bt s (j : Int) = c := by
  intro f
  induction f with
  | zero => intro i c hc; simp [charsL] at hc
  | succ f ih =>
    intro i c hc h0 h1
    simp only [charsL] at hc
    split at hc
    · rename_i h
      rcases List.mem_cons.1 hc with e | hc
      · refine ⟨i, h, ?_⟩
        split at e
        · omega
        · rw [bt_get]
          rw [Lib.decode_at] at e
          by_cases hb : (s.get! i).toNat < 128
          · unfold Lib.decodeN at e
            rw [if_pos hb] at e
            exact e.symm
          · exfalso
            have : 128 ≤ (Lib.decodeN (s.size - i) (s.get! i).toNat (s.get! (i + 1)).toNat (s.get! (i + 2)).toNat (s.get! (i + 3)).toNat).1 := by
              unfold Lib.decodeN
              rw [if_neg hb]
              repeat' split
              all_goals first | omega | (simp only; omega)
            omega
      · exact ih _ c hc h0 h1
    · cases hc
/-- No sign stands in the text. -/
def NoSigns (s : ByteArray) : Prop := ∀ j : Nat, j < s.size → bt s (j : Int) ≠ 42 ∧ bt s (j : Int) ≠ 63 ∧ bt s (j : Int) ≠ 92
theorem plain_says (s t : ByteArray) (hs : s.size ≤ 256) (hb : brokenF s s.size 0 = -1) (hn : NoSigns s) (ht : t.size ≤ 1099511627776) : saysB s t = decide (charsC s = charsC t) := by
  refine says_is s t (by omega) ht (3 * t.size + 400) _ ?_
  have hl := charsC_len t
  have hl2 := charsC_len s
  unfold labels_Says.f
  rw [if_neg (by omega)]
  unfold labels_broken.f
  simp only [Option.bind_some, hb]
  rw [show decide ((-1 : Int) ≥ 0) = false from by decide, show 3 * t.size + 400 = (3 * t.size + 399) + 1 from rfl]
  simp only [labels_Says.j0, Bool.false_eq_true, if_false]
  unfold labels_parts.f
  rw [chars_f s (by omega), chars_f t (by omega)]
  simp only [Option.bind_some]
  have hc : ∀ c ∈ charsC s, c ≠ 42 ∧ c ≠ 63 ∧ c ≠ 92 := fun c hc => by
    have h0 := chars_pos s s.size 0 hb c hc
    by_cases h1 : c < 128
    · obtain ⟨j, hj, e⟩ := chars_low s s.size 0 c hc h0 h1
      have := hn j hj
      rw [e] at this
      exact this
    · omega
  have := parts_plain (charsC s) (by omega) hc (charsC s).length 0 (3 * t.size + 399) [] (by omega) (by omega) (by simp)
  rw [show ((0 : Nat) : Int) = 0 from rfl, List.drop_zero, List.nil_append] at this
  rw [this]
  simp only [Option.bind_some]
  have := plain_l (charsC s) (charsC t) (by omega) (by omega) (chars_pos s s.size 0 hb) (charsC t).length 0 (3 * t.size + 399) (by omega) (by omega) (by omega)
  rw [show ((0 : Nat) : Int) = 0 from rfl, List.drop_zero, List.drop_zero] at this
  exact this
theorem plain_same (s t : ByteArray) (hb : brokenF s s.size 0 = -1) : decide (charsC s = charsC t) = (s.toList == t.toList) := by
  rw [Bool.eq_iff_iff, decide_eq_true_iff, beq_iff_eq, Lib.toList_data, Lib.toList_data]
  constructor
  · intro h
    have := chars_inj s t s.size 0 t.size 0 (by omega) (by omega) hb h
    simpa using this
  · intro h
    have : s = t := by
      cases s; cases t
      congr 1
      exact Array.toList_inj.1 h
    rw [this]
theorem bad_says (s t : ByteArray) (hs : s.size ≤ 1099511627776) (ht : t.size ≤ 1099511627776) (h : 256 < s.size ∨ brokenF s s.size 0 ≥ 0) : saysB s t = false := by
  refine says_is s t hs ht 1 false ?_
  unfold labels_Says.f labels_broken.f
  by_cases h1 : (s.size : Int) > 256
  · rw [if_pos h1]
    simp [labels_Says.j0]
  · rw [if_neg h1]
    simp only [Option.bind_some]
    rw [decide_eq_true (by omega)]
    simp [labels_Says.j0]
/-! ### matchers -/
def rightM (m : S36) : Bool := decide (1 ≤ m.f0) && decide (m.f0 ≤ 4) && nameB m.f1 && (decide (m.f2.size = 0) || decide (valueI m.f2 < 0))
theorem rightM_f (a : Int) (b c : ByteArray) (k : Nat) (hk : 66 < k) : labels_rightMatch.f k a b c = some (rightM ⟨a, b, c⟩) := by
  unfold labels_rightMatch.f rightM
  rw [name_f b k hk, value_f]
  simp only [Option.bind_some, toList_nil]
  by_cases h1 : a ≥ 1
  · by_cases h2 : a ≤ 4
    · rw [if_pos h1, if_pos h2, decide_eq_true (p := 1 ≤ a) h1, decide_eq_true h2]
      cases nameB b
      · simp
      · by_cases h3 : c.size = 0
        · simp [h3]
        · simp [h3]
    · rw [if_pos h1, if_neg h2, decide_eq_false h2]
      simp
  · rw [if_neg h1, decide_eq_false (p := 1 ≤ a) (by omega)]
    simp
def checkedP (a : List S36) : Int := if 32 < a.length then 3 else if a.all rightM = true then 0 else 122
theorem rd36_drop {l : List S36} {j : Nat} (h : j < l.length) : l.drop j = rd_T36 l (j : Int) :: l.drop (j + 1) := by
  rw [List.drop_eq_getElem_cons h]
  congr 1
  simp [rd_T36, List.getD, h]
theorem rd36_mem {l : List S36} {j : Nat} (h : j < l.length) : rd_T36 l (j : Int) ∈ l := by
  have : rd_T36 l (j : Int) = l[j] := by simp [rd_T36, List.getD, h]
  rw [this]
  exact List.getElem_mem h
theorem checked_l (l : List S36) (h0 : l.length ≤ 32) : ∀ (n j k : Nat), j + n = l.length → n + 70 ≤ k → labels_checked.l0 k l (l.length : Int) (j : Int) = some (if (l.drop j).all rightM = true then 0 else 122) := by
  intro n
  induction n with
  | zero =>
    intro j k hj hk
    obtain ⟨k, rfl⟩ : ∃ n, k = n + 1 := ⟨k - 1, by omega⟩
    simp only [labels_checked.l0]
    rw [if_neg (by omega), List.drop_eq_nil_of_le (by omega)]
    rfl
  | succ n ih =>
    intro j k hj hk
    obtain ⟨k, rfl⟩ : ∃ n, k = n + 1 := ⟨k - 1, by omega⟩
    simp only [labels_checked.l0]
    rw [if_pos (by omega), if_pos (by omega), if_pos (by omega), rightM_f _ _ _ k (by omega), rd36_drop (l := l) (j := j) (by omega), wrap64_in (by omega), show ((j : Int) + 1) = ((j + 1 : Nat) : Int) by omega, ih (j + 1) k (by omega) (by omega)]
    simp only [Option.bind_some]
    show (if rightM (rd_T36 l (j : Int)) = true then _ else _) = _
    by_cases hq : rightM (rd_T36 l (j : Int)) = true
    · rw [if_pos hq]
      simp [hq]
    · rw [if_neg hq]
      simp [hq]
theorem checked_f (l : List S36) (h0 : l.length ≤ 9223372036854775807) (k : Nat) (hk : 200 ≤ k) : labels_checked.f k l = some (checkedP l) := by
  unfold labels_checked.f checkedP
  by_cases h : 32 < l.length
  · rw [if_pos (by omega), if_pos h]
  · rw [if_neg (by omega), if_neg h]
    have := checked_l l (by omega) l.length 0 k (by omega) (by omega)
    rw [show ((0 : Nat) : Int) = 0 from rfl, List.drop_zero] at this
    exact this
/-- What a matcher wants of a value. -/
def wantsB (m : S36) (v : ByteArray) : Bool := if m.f0 = 1 then (v.toList == m.f2.toList) else if m.f0 = 2 then (v.toList != m.f2.toList) else if m.f0 = 3 then saysB m.f2 v else !saysB m.f2 v
theorem wants_f (a : Int) (b c v : ByteArray) (hc : c.size ≤ 1099511627776) (hv : v.size ≤ 1099511627776) (k : Nat) (hk : saysK c v ≤ k) : labels_wants.f k a b c v = some (wantsB ⟨a, b, c⟩ v) := by
  unfold labels_wants.f wantsB
  rw [says_f c v hc hv k hk]
  simp only [Option.bind_some]
  repeat' split
  all_goals rfl
/-- A bound on all texts. -/
def Texts36 (n : Nat) (l : List S36) : Prop := ∀ x ∈ l, x.f2.size ≤ n
theorem getP_size (B : Nat) (l : List S59) (ht : Texts B l) (a : ByteArray) : (getP l a).1.size ≤ B := by
  induction l with
  | nil => simp [getP]; exact Nat.zero_le _
  | cons x l ih =>
    simp only [getP]
    split
    · exact ht x (by simp)
    · exact ih (fun y hy => ht y (by simp [hy]))
def bigK (B : Nat) : Nat := 3 * (B * (B + B + 3) + B + B) + 2 * B + 40
theorem saysK_le {p s : ByteArray} {B : Nat} (hp : p.size ≤ B) (hs : s.size ≤ B) : saysK p s ≤ bigK B := by
  unfold saysK bigK
  have := Nat.mul_le_mul hs (show p.size + s.size + 3 ≤ B + B + 3 by omega)
  omega
def allWant (l : List S59) (a : List S36) : Bool := a.all (fun m => wantsB m (getP l m.f1).1)
theorem matches_l (l : List S59) (a : List S36) (B : Nat) (hB : B ≤ 1099511627776) (hl : Texts B l) (ha : Texts36 B a) (h0 : l.length ≤ 32) (h1 : a.length ≤ 32) : ∀ (n j k : Nat), j + n = a.length → n + bigK B + 100 ≤ k →
    labels_Matches.l0 k l a (a.length : Int) (j : Int) = some (allWant l (a.drop j), 0) := by
  intro n
  induction n with
  | zero =>
    intro j k hj hk
    obtain ⟨k, rfl⟩ : ∃ n, k = n + 1 := ⟨k - 1, by omega⟩
    simp only [labels_Matches.l0]
    rw [if_neg (by omega), List.drop_eq_nil_of_le (by omega)]
    rfl
  | succ n ih =>
    intro j k hj hk
    obtain ⟨k, rfl⟩ : ∃ n, k = n + 1 := ⟨k - 1, by omega⟩
    have hx := ha _ (rd36_mem (l := a) (j := j) (by omega))
    have hv := getP_size B l hl (rd_T36 a (j : Int)).f1
    simp only [labels_Matches.l0]
    rw [if_pos (by omega), if_pos (by omega), if_pos (by omega), get_f l _ (by omega) k (by omega)]
    simp only [Option.bind_some]
    rw [wants_f _ _ _ _ (by omega) (by omega) k (Nat.le_trans (saysK_le hx hv) (by omega)), rd36_drop (l := a) (j := j) (by omega), wrap64_in (by omega), show ((j : Int) + 1) = ((j + 1 : Nat) : Int) by omega, ih (j + 1) k (by omega) (by omega)]
    simp only [Option.bind_some, allWant, List.all_cons]
    cases wantsB (rd_T36 a (j : Int)) (getP l (rd_T36 a (j : Int)).f1).1 <;> simp
def matchesP (l : List S59) (a : List S36) : Bool × Int := if rightB l = true then (if checkedP a = 0 then (allWant l a, 0) else (false, checkedP a)) else (false, 120)
theorem matches_f (l : List S59) (a : List S36) (B : Nat) (hB : B ≤ 1099511627776) (hl : Texts B l) (ha : Texts36 B a) (h0 : l.length ≤ 9223372036854775807) (h1 : a.length ≤ 9223372036854775807) (k : Nat) (hk : l.length + bigK B + 400 ≤ k) : labels_Matches.f k l a = some (matchesP l a) := by
  unfold labels_Matches.f matchesP
  rw [right_f l h0 k (by omega), checked_f a h1 k (by omega)]
  simp only [Option.bind_some]
  cases hr : rightB l
  · simp
  · have b0 := ((rightB_iff l).1 hr).2.1
    simp only [if_true]
    by_cases hc : checkedP a = 0
    · rw [if_pos hc, if_pos hc]
      have b1 : a.length ≤ 32 := by
        unfold checkedP at hc
        split at hc
        · cases hc
        · omega
      have := matches_l l a B hB hl ha b0 b1 a.length 0 k (by omega) (by omega)
      rw [show ((0 : Nat) : Int) = 0 from rfl, List.drop_zero] at this
      exact this
    · rw [if_neg hc, if_neg hc]
theorem matches_both {l : List S59} {a b : List S36} (h1 : (matchesP l a).2 = 0) (h2 : (matchesP l b).2 = 0) (h3 : (matchesP l (a ++ b)).2 = 0) : (matchesP l (a ++ b)).1 = ((matchesP l a).1 && (matchesP l b).1) := by
  unfold matchesP at *
  split at h1
  · rename_i hr
    rw [if_pos hr] at *
    split at h1
    · split at h2
      · split at h3
        · rename_i q1 q2 q3
          rw [if_pos q1, if_pos q2, if_pos q3]
          simp [allWant, hr]
        · contradiction
      · contradiction
    · contradiction
  · cases h1
/-- The matcher that wants the other. -/
def flip (m : S36) : S36 := if m.f0 = 1 then ⟨2, m.f1, m.f2⟩ else if m.f0 = 2 then ⟨1, m.f1, m.f2⟩ else if m.f0 = 3 then ⟨4, m.f1, m.f2⟩ else if m.f0 = 4 then ⟨3, m.f1, m.f2⟩ else m
theorem flip_right (m : S36) : rightM (flip m) = rightM m := by
  unfold flip
  split
  · rename_i h; simp [rightM, h]
  · split
    · rename_i h; simp [rightM, h]
    · split
      · rename_i h; simp [rightM, h]
      · split
        · rename_i h; simp [rightM, h]
        · rfl
theorem flip_wants (m : S36) (v : ByteArray) (h : rightM m = true) : wantsB (flip m) v = !wantsB m v := by
  have hr : 1 ≤ m.f0 ∧ m.f0 ≤ 4 := by
    simp only [rightM, Bool.and_eq_true, decide_eq_true_eq] at h
    exact ⟨h.1.1.1, h.1.1.2⟩
  unfold flip
  by_cases h1 : m.f0 = 1
  · rw [if_pos h1]; simp [wantsB, h1, bne]
  · rw [if_neg h1]
    by_cases h2 : m.f0 = 2
    · rw [if_pos h2]; simp [wantsB, h2, bne]
    · rw [if_neg h2]
      by_cases h3 : m.f0 = 3
      · rw [if_pos h3]; simp [wantsB, h3]
      · rw [if_neg h3]
        have h4 : m.f0 = 4 := by omega
        rw [if_pos h4]
        simp [wantsB, h4]
theorem matches_flip (l : List S59) (m : S36) : (matchesP l [m]).2 = (matchesP l [flip m]).2 ∧ ((matchesP l [m]).2 = 0 → (matchesP l [m]).1 ≠ (matchesP l [flip m]).1) := by
  unfold matchesP
  have hc : checkedP [flip m] = checkedP [m] := by simp [checkedP, flip_right]
  rw [hc]
  split
  · split
    · rename_i h
      have hr : rightM m = true := by
        unfold checkedP at h
        by_cases hr : rightM m = true
        · exact hr
        · simp [hr] at h
      have hn : (flip m).f1 = m.f1 := by
        unfold flip
        repeat' split
        all_goals rfl
      refine ⟨rfl, fun _ => ?_⟩
      simp only [allWant, List.all_cons, List.all_nil, Bool.and_true, hn, flip_wants m _ hr]
      cases wantsB m (getP l m.f1).1 <;> simp
    · rename_i h
      exact ⟨rfl, fun e => absurd e h⟩
  · exact ⟨rfl, fun e => by cases e⟩
/-! ### the law -/
theorem wants_l1 (s t : ByteArray) (B : Nat) (hB : B ≤ 1099511627776) (hs : s.size ≤ B) (ht : t.size ≤ B) : ∀ (n j k : Nat), j + n = s.size → n + bigK B + 100 ≤ k → (∀ i : Nat, i < j → bt s (i : Int) ≠ 42 ∧ bt s (i : Int) ≠ 63 ∧ bt s (i : Int) ≠ 92) → abacuslaw12_LabelsWants.l1 k s t (j : Int) = some true := by
  intro n
  have h42 : (⟨#[42]⟩ : ByteArray).size = 1 := rfl
  have star : ∀ k, bigK B + 50 ≤ k → labels_Says.f k (⟨#[42]⟩ : ByteArray) t = some true := fun k hk => by
    rw [says_f _ t (by omega) (by omega) k ?_, star_says t (by omega)]
    have : saysK (⟨#[42]⟩ : ByteArray) t ≤ bigK B + 50 := by
      by_cases h0 : B = 0
      · subst h0
        have : t.size = 0 := by omega
        simp [saysK, bigK, this, h42]
      · exact Nat.le_trans (saysK_le (B := B) (by omega) ht) (by omega)
    omega
  induction n with
  | zero =>
    intro j k hj hk hn
    have hns : NoSigns s := fun i hi => hn i (by omega)
    obtain ⟨k, rfl⟩ : ∃ n, k = n + 2 := ⟨k - 2, by omega⟩
    simp only [abacuslaw12_LabelsWants.l1]
    rw [if_neg (by omega), value_f]
    simp only [Option.bind_some, toList_nil]
    have hr := broken_rng s s.size 0
    have plain : s.size ≤ 256 → brokenF s s.size 0 = -1 → abacuslaw12_LabelsWants.j4 (k + 1) s t false = some true := fun h1 h2 => by
      simp only [abacuslaw12_LabelsWants.j4, Bool.false_eq_true, if_false]
      rw [says_f s s (by omega) (by omega) k (Nat.le_trans (saysK_le hs hs) (by omega)), says_f s t (by omega) (by omega) k (Nat.le_trans (saysK_le hs ht) (by omega)), plain_says s s h1 h2 hns (by omega), plain_says s t h1 h2 hns (by omega), plain_same s t h2, star k (by omega)]
      simp
    by_cases h0 : s.size = 0
    · rw [if_pos h0]
      exact plain (by omega) (by omega)
    · rw [if_neg h0]
      unfold valueI
      rw [if_neg h0]
      have bad : (256 < s.size ∨ brokenF s s.size 0 ≥ 0) → abacuslaw12_LabelsWants.j4 (k + 1) s t true = some true := fun h => by
        simp only [abacuslaw12_LabelsWants.j4, if_true]
        rw [says_f s s (by omega) (by omega) k (Nat.le_trans (saysK_le hs hs) (by omega)), bad_says s s (by omega) (by omega) h, star k (by omega)]
        simp
      by_cases h1 : 256 < s.size ∧ (brokenF s s.size 0 < 0 ∨ 256 < brokenF s s.size 0)
      · rw [if_pos h1, decide_eq_true (by omega)]
        exact bad (.inl h1.1)
      · rw [if_neg h1]
        by_cases h2 : brokenF s s.size 0 ≥ 0
        · rw [decide_eq_true h2]
          exact bad (.inr h2)
        · rw [decide_eq_false h2]
          exact plain (by omega) (by omega)
  | succ n ih =>
    intro j k hj hk hn
    obtain ⟨k, rfl⟩ : ∃ n, k = n + 1 := ⟨k - 1, by omega⟩
    simp only [abacuslaw12_LabelsWants.l1]
    rw [if_pos (by omega), if_pos (by omega), star k (by omega)]
    by_cases h1 : bt s (j : Int) = 42
    · rw [if_pos h1]; rfl
    · rw [if_neg h1]
      by_cases h2 : bt s (j : Int) = 63
      · rw [if_pos h2]; rfl
      · rw [if_neg h2]
        by_cases h3 : bt s (j : Int) = 92
        · rw [if_pos h3]; rfl
        · rw [if_neg h3, wrap64_in (by omega), show ((j : Int) + 1) = ((j + 1 : Nat) : Int) by omega]
          refine ih (j + 1) k (by omega) (by omega) fun i hi => ?_
          by_cases e : i = j
          · subst e; exact ⟨h1, h2, h3⟩
          · exact hn i (by omega)
theorem wants_l0 (l : List S59) (a : List S36) (s t : ByteArray) (B : Nat) (hB : B ≤ 1099511627776) (hl : Texts B l) (ha : Texts36 B a) (hs : s.size ≤ B) (ht : t.size ≤ B) (h0 : l.length ≤ 9223372036854775807) (h1 : a.length ≤ 9223372036854775807) : ∀ (n j k : Nat), j + n = a.length →
    2 * n + l.length + s.size + bigK B + 500 ≤ k → abacuslaw12_LabelsWants.l0 k l a s t (j : Int) = some true := by
  intro n
  induction n with
  | zero =>
    intro j k hj hk
    obtain ⟨k, rfl⟩ : ∃ n, k = n + 1 := ⟨k - 1, by omega⟩
    simp only [abacuslaw12_LabelsWants.l0]
    rw [if_neg (by omega)]
    exact wants_l1 s t B hB hs ht s.size 0 k (by omega) (by omega) (fun i hi => by omega)
  | succ n ih =>
    intro j k hj hk
    obtain ⟨k, rfl⟩ : ∃ n, k = n + 2 := ⟨k - 2, by omega⟩
    have hx := ha _ (rd36_mem (l := a) (j := j) (by omega))
    have nx := ih (j + 1) k (by omega) (by omega)
    simp only [abacuslaw12_LabelsWants.l0]
    rw [if_pos (by omega), if_pos (by omega)]
    generalize hm : rd_T36 a (j : Int) = m at *
    have hf : (flip m).f2 = m.f2 := by
      unfold flip
      repeat' split
      all_goals rfl
    have key : ∀ q : S36, q = flip m → abacuslaw12_LabelsWants.j2 (k + 1) l a s t (j : Int) q.f0 q.f1 q.f2 = some true := by
      rintro q rfl
      simp only [abacuslaw12_LabelsWants.j2]
      rw [if_pos (by omega), if_pos (by omega), hm]
      rw [matches_f l [⟨m.f0, m.f1, m.f2⟩] B hB hl (fun x hx => by simp at hx; rw [hx]; assumption) h0 (by simp) k (by omega)]
      rw [matches_f l [⟨(flip m).f0, (flip m).f1, (flip m).f2⟩] B hB hl (fun x hx => by simp at hx; rw [hx]; show (flip m).f2.size ≤ B; rw [hf]; assumption) h0 (by simp) k (by omega)]
      obtain ⟨e1, e2⟩ := matches_flip l m
      simp only [Option.bind_some]
      rw [if_pos e1]
      rw [wrap64_in (by omega), show ((j : Int) + 1) = ((j + 1 : Nat) : Int) by omega, nx]
      by_cases h : (matchesP l [m]).2 = 0
      · rw [if_pos h, if_neg (by simpa using e2 h)]
      · rw [if_neg h]
    by_cases c1 : m.f0 = 1
    · rw [if_pos c1]
      exact key ⟨2, m.f1, m.f2⟩ (by simp [flip, c1])
    · rw [if_neg c1]
      by_cases c2 : m.f0 = 2
      · rw [if_pos c2]
        exact key ⟨1, m.f1, m.f2⟩ (by simp [flip, c2])
      · rw [if_neg c2]
        by_cases c3 : m.f0 = 3
        · rw [if_pos c3]
          exact key ⟨4, m.f1, m.f2⟩ (by simp [flip, c3])
        · rw [if_neg c3]
          by_cases c4 : m.f0 = 4
          · rw [if_pos c4]
            exact key ⟨3, m.f1, m.f2⟩ (by simp [flip, c4])
          · rw [if_neg c4]
            exact key m (by simp [flip, c1, c2, c3, c4])
theorem LabelsWants_true (l : List S59) (a b : List S36) (s t : ByteArray) (B : Nat) (hB : B ≤ 1048576) (hl : Texts B l) (ha : Texts36 B a) (hb : Texts36 B b) (hs : s.size ≤ B) (ht : t.size ≤ B) (h0 : l.length ≤ 1048576) (h1 : a.length ≤ 1048576) (h2 : b.length ≤ 1048576) (k : Nat) (hk : 2 * a.length + l.length + s.size + bigK B + 2000 ≤ k) :
    abacuslaw12_LabelsWants.f k l a b s t = some true := by
  have hab : Texts36 B (a ++ b) := fun x hx => by
    rcases List.mem_append.1 hx with h | h
    · exact ha x h
    · exact hb x h
  unfold abacuslaw12_LabelsWants.f
  rw [begins_true k (by omega), matches_f l a B (by omega) hl ha (by omega) (by omega) k (by omega), matches_f l b B (by omega) hl hb (by omega) (by omega) k (by omega)]
  simp only [Option.bind_some, if_true, List.nil_append, List.length_nil, Nat.zero_add]
  rw [if_pos (by omega), if_pos (by omega), matches_f l (a ++ b) B (by omega) hl hab (by omega) (by simp; omega) k (by omega)]
  simp only [Option.bind_some]
  obtain ⟨k, rfl⟩ : ∃ n, k = n + 1 := ⟨k - 1, by omega⟩
  have j0 : ∀ q, q = false → abacuslaw12_LabelsWants.j0 (k + 1) l a s t q = some true := by
    rintro q rfl
    simp only [abacuslaw12_LabelsWants.j0, Bool.false_eq_true, if_false]
    exact wants_l0 l a s t B (by omega) hl ha hs ht (by omega) (by omega) a.length 0 k (by omega) (by omega)
  have both := @matches_both l a b
  generalize matchesP l a = x at *
  generalize matchesP l b = y at *
  generalize matchesP l (a ++ b) = z at *
  split
  · split
    · split
      · rename_i q1 q2 q3
        have := both q1 q2 q3
        split
        · rename_i q4
          exact j0 _ (by rw [this, q4]; simp)
        · rename_i q4
          exact j0 _ (by rw [this]; simp at q4; simp [q4])
      · exact j0 _ rfl
    · exact j0 _ rfl
  · exact j0 _ rfl
end Go.Proofs.YtogegkfefpgbcaaDoor.PL
