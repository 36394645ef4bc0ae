/- What the reader's methods answer, in plain words. -/
import Derived.Test.YtogegkfefpgbcaaDoorZXPLx0
import Derived.Test.YtogegkfefpgbcaaDoorZXQ1
import Derived.Test.YtogegkfefpgbcaaDoorZXQ2
import Derived.Test.YtogegkfefpgbcaaDoorZXQ3
import Derived.Test.YtogegkfefpgbcaaDoorZXQ4
import Derived.Test.YtogegkfefpgbcaaDoorZXQ5
import Derived.Test.YtogegkfefpgbcaaDoorZXQ6
import Derived.Test.YtogegkfefpgbcaaDoorZXPA
namespace Go.Proofs.YtogegkfefpgbcaaDoor.PL
open Go.RowKit Go.Proofs.YtogegkfefpgbcaaDoorW.PrintWords Go.Proofs.YtogegkfefpgbcaaDoorW.PrintLast Go.Proofs.YtogegkfefpgbcaaDoorW.PrintMore
set_option linter.unusedVariables false
set_option linter.unusedSimpArgs false

def hereB (s : ByteArray) (i : Int) : Int := if i < s.size then bt s i else 0
theorem here_g (s : ByteArray) (j : Int) (m : Bool) (o : Value) (why at_ : Int) (h : 0 ≤ j) : labels_reader_here.f s j m o why at_ = some (hereB s j, decide (j < s.size), s, j, m, o, why, at_) := here_f s j m o why at_ h
def takeP (s : ByteArray) (i why at_ c : Int) : Bool × Int × Int × Int :=
  if i < s.size ∧ bt s i = c then (true, i + 1, why, at_) else (false, i, (failP why at_ 120 i).1, (failP why at_ 120 i).2)
theorem take_f (s : ByteArray) (i : Int) (m : Bool) (o : Value) (why at_ c : Int) (h : 0 ≤ i) (hs : s.size ≤ 2305843009213693952) :
    labels_reader_take.f s i m o why at_ c = some ((takeP s i why at_ c).1, s, (takeP s i why at_ c).2.1, m, o, (takeP s i why at_ c).2.2.1, (takeP s i why at_ c).2.2.2) := by
  unfold labels_reader_take.f takeP; rw [here_g s i m o why at_ h]; simp only [Option.bind_some, fail_f]; by_cases h1 : i < (s.size : Int)
  · rw [decide_eq_true h1, if_pos rfl]
    simp only [hereB, if_pos h1]; by_cases h2 : bt s i = c
    · rw [if_pos h2, if_pos ⟨h1, h2⟩, wrap_in (by omega)]
    · rw [if_neg h2, if_neg (by simp [h2])]
  · rw [decide_eq_false h1, if_neg (by simp), if_neg (by simp [h1])]

def runN (s : ByteArray) : Nat → Int → Nat
  | 0, _ => 0
  | n + 1, i => if i < s.size ∧ namedB (bt s i) = true then runN s n (i + 1) + 1 else 0
def nameN (s : ByteArray) (i : Int) : Nat := if i < s.size ∧ letterB (bt s i) = true then runN s 64 i else 0
def nameP (s : ByteArray) (i why at_ : Int) : ByteArray × Int × Int × Int :=
  let j := i + nameN s i
  let f := if nameN s i = 0 ∨ (j < s.size ∧ namedB (bt s j) = true) then failP why at_ 120 j else (why, at_)
  (s.extract i.toNat j.toNat, j, f.1, f.2)
theorem name_j2 (s : ByteArray) (i : Int) (j : Int) (m : Bool) (o : Value) (why at_ : Int) (k : Nat) (hi : 0 ≤ i) (hij : i ≤ j) (hj : j ≤ s.size) (hs : s.size ≤ 2305843009213693952) (hk : 0 < k) :
    labels_reader_name.j2 k i s j m o why at_ = some (s.extract i.toNat j.toNat, s, j, m, o, (if j = i ∨ (j < s.size ∧ namedB (bt s j) = true) then failP why at_ 120 j else (why, at_)).1, (if j = i ∨ (j < s.size ∧ namedB (bt s j) = true) then failP why at_ 120 j else (why, at_)).2) := by
  obtain ⟨k, rfl⟩ : ∃ q, k = q + 1 := ⟨k - 1, by omega⟩; simp only [labels_reader_name.j2]; rw [here_g s j m o why at_ (by omega)]; simp only [Option.bind_some, fail_f, named_f]; by_cases h1 : j = i
  · rw [if_pos h1, if_pos hi, if_pos hij, if_pos hj, if_pos (.inl h1)]
  · rw [if_neg h1]
    by_cases h2 : j < (s.size : Int)
    · rw [decide_eq_true h2, if_pos rfl]
      simp only [hereB, if_pos h2]
      cases h3 : namedB (bt s j)
      · rw [if_neg (by simp), if_pos hi, if_pos hij, if_pos hj, if_neg (by simp [h1])]
      · rw [if_pos rfl, if_pos hi, if_pos hij, if_pos hj, if_pos (.inr ⟨h2, rfl⟩)]
    · rw [decide_eq_false h2, if_neg (by simp), if_pos hi, if_pos hij, if_pos hj, if_neg (by simp [h1, h2])]

theorem name_l1 (s : ByteArray) (i : Int) (m : Bool) (o : Value) (why at_ : Int) (hi : 0 ≤ i) (hs : s.size ≤ 2305843009213693952) : ∀ (n : Nat) (j : Int) (k : Nat), i ≤ j → j ≤ s.size → j + n = i + 64 → 2 * n + 4 < k → (j = i → letterB (hereB s j) = true ∨ ¬ (j < s.size)) →
    labels_reader_name.l0 k i (hereB s j) (decide (j < s.size)) s j m o why at_ = labels_reader_name.j2 1 i s (j + runN s n j) m o why at_ := by
  intro n
  induction n with
  | zero =>
    intro j k h1 h2 h3 hk hl; obtain ⟨k, rfl⟩ : ∃ q, k = q + 2 := ⟨k - 2, by omega⟩; have hne : ¬ j = i := by omega
    simp only [labels_reader_name.l0, labels_reader_name.j1, runN, named_f, Option.bind_some]; rw [show j + ((0 : Nat) : Int) = j by omega, wrap_in (i := j - i) (by omega), if_neg hne, if_pos (show j - i = 64 by omega)]; rw [name_j2 s i j m o why at_ k hi h1 h2 hs (by omega), ← name_j2 s i j m o why at_ 1 hi h1 h2 hs (by omega)]
    repeat' split
    all_goals rfl
  | succ n ih =>
    intro j k h1 h2 h3 hk hl; obtain ⟨k, rfl⟩ : ∃ q, k = q + 2 := ⟨k - 2, by omega⟩; simp only [labels_reader_name.l0, labels_reader_name.j1, named_f, Option.bind_some]; by_cases c1 : j < (s.size : Int)
    · rw [decide_eq_true c1, if_pos rfl]
      have hh : hereB s j = bt s j := by simp [hereB, c1]
      rw [hh] at hl ⊢
      cases c2 : namedB (bt s j)
      · rw [if_neg (by simp), name_j2 s i j m o why at_ _ hi h1 h2 hs (by omega), ← name_j2 s i j m o why at_ 1 hi h1 h2 hs (by omega)]
        simp [runN, c2]
      · have hstep : labels_reader_name.l0 k i (hereB s (j + 1)) (decide (j + 1 < (s.size : Int))) s (j + 1) m o why at_ = labels_reader_name.j2 1 i s (j + runN s (n + 1) j) m o why at_ := by
          rw [ih (j + 1) k (by omega) (by omega) (by omega) (by omega) (by omega)]; rw [show runN s (n + 1) j = runN s n (j + 1) + 1 by simp [runN, c1, c2]]; congr 1
          omega
        rw [if_pos rfl, wrap_in (i := j - i) (by omega), wrap_in (i := j + 1) (by omega), here_g s (j + 1) m o why at_ (by omega)]; simp only [Option.bind_some, letter_f]; by_cases c3 : j = i
        · rw [if_pos c3]
          have hlt := (hl c3).resolve_right (by simp [c1]); rw [hlt, if_pos rfl, if_neg (by omega)]; exact hstep
        · rw [if_neg c3, if_neg (by omega)]
          exact hstep
    · rw [decide_eq_false c1, if_neg (by simp), if_neg (by simp), name_j2 s i j m o why at_ _ hi h1 h2 hs (by omega), ← name_j2 s i j m o why at_ 1 hi h1 h2 hs (by omega)]
      simp [runN, c1]
theorem runN_le (s : ByteArray) : ∀ (n : Nat) (i : Int), i ≤ s.size → i + runN s n i ≤ s.size := by
  intro n
  induction n with
  | zero => intro i h; simp [runN]; omega
  | succ n ih =>
    intro i h; unfold runN; split
    · have := ih (i + 1) (by omega)
      omega
    · simp; omega
theorem name_g (s : ByteArray) (i : Int) (m : Bool) (o : Value) (why at_ : Int) (k : Nat) (hi : 0 ≤ i) (his : i ≤ s.size) (hs : s.size ≤ 2305843009213693952) (hk : 140 < k) :
    labels_reader_name.f k s i m o why at_ = some ((nameP s i why at_).1, s, (nameP s i why at_).2.1, m, o, (nameP s i why at_).2.2.1, (nameP s i why at_).2.2.2) := by
  unfold labels_reader_name.f; rw [here_g s i m o why at_ hi]; simp only [Option.bind_some]
  have fin : ∀ n : Nat, nameN s i = n → i + n ≤ s.size → labels_reader_name.j2 1 i s (i + n) m o why at_ = some ((nameP s i why at_).1, s, (nameP s i why at_).2.1, m, o, (nameP s i why at_).2.2.1, (nameP s i why at_).2.2.2) := by
    intro n hn hle; rw [name_j2 s i (i + n) m o why at_ 1 hi (by omega) hle hs (by omega)]; unfold nameP; dsimp only; rw [hn]; have : (i + (n : Int) = i) = (n = 0) := by rw [eq_iff_iff]; omega
    simp only [this]
  by_cases hl : letterB (hereB s i) = true ∨ ¬ (i < s.size)
  · rw [name_l1 s i m o why at_ hi hs 64 i k (by omega) his (by omega) (by omega) (fun _ => hl)]
    refine fin _ ?_ (runN_le s 64 i his); unfold nameN; by_cases c1 : i < (s.size : Int)
    · have h2 : letterB (bt s i) = true := by have := hl.resolve_right (by simp [c1]); simpa [hereB, c1] using this
      rw [if_pos ⟨c1, h2⟩]
    · rw [if_neg (by simp [c1])]
      simp [runN, c1]
  · have c1 : i < (s.size : Int) := by
      rcases Int.lt_or_le i s.size with h | h
      · exact h
      · exact absurd (.inr (by omega)) hl
    have c2 : letterB (bt s i) = false := by
      have : hereB s i = bt s i := by simp [hereB, c1]
      rw [this] at hl
      cases h : letterB (bt s i)
      · rfl
      · exact absurd (.inl h) hl
    have := fin 0 (by unfold nameN; rw [if_neg (by simp [c2])]) (by omega); rw [← this]; obtain ⟨k, rfl⟩ : ∃ q, k = q + 2 := ⟨k - 2, by omega⟩; simp only [labels_reader_name.l0, labels_reader_name.j1, named_f, Option.bind_some, decide_eq_true c1, if_true]; have hh : hereB s i = bt s i := by simp [hereB, c1]
    rw [hh]; have e := name_j2 s i i m o why at_ k hi (by omega) his hs (by omega); have e1 := name_j2 s i (i + ((0 : Nat) : Int)) m o why at_ 1 hi (by omega) (by omega) hs (by omega); rw [show i + ((0 : Nat) : Int) = i by omega] at e1 ⊢
    cases c3 : namedB (bt s i)
    · rw [if_neg (by simp), e, e1]
    · rw [if_pos rfl]
      simp only [letter_f, c2, Option.bind_some]; rw [if_neg (by simp), e, e1]

def kindP (s : ByteArray) (i : Int) (m : Bool) (why at_ : Int) : Int × Int × Int × Int :=
  if hereB s i = 33 ∧ m = true then
    (if hereB s (i + 1) = 126 then (4, i + 2, why, at_) else (2, (takeP s (i + 1) why at_ 61).2))
  else (1, (takeP s i why at_ 61).2)
theorem kind_g (s : ByteArray) (i : Int) (m : Bool) (o : Value) (why at_ : Int) (k : Nat) (hi : 0 ≤ i) (his : i ≤ s.size) (hs : s.size ≤ 2305843009213693952) (hk : 2 < k) :
    labels_reader_kind.f k s i m o why at_ = some ((kindP s i m why at_).1, s, (kindP s i m why at_).2.1, m, o, (kindP s i m why at_).2.2.1, (kindP s i m why at_).2.2.2) := by
  obtain ⟨k, rfl⟩ : ∃ q, k = q + 1 := ⟨k - 1, by omega⟩; unfold labels_reader_kind.f kindP; rw [here_g s i m o why at_ hi]; simp only [Option.bind_some, labels_reader_kind.j0]; rw [wrap_in (i := i + 1) (by omega), here_g s (i + 1) m o why at_ (by omega), take_f s i m o why at_ 61 hi hs]; simp only [Option.bind_some]; rw [take_f s (i + 1) m o why at_ 61 (by omega) hs]; simp only [Option.bind_some]; rw [wrap_in (i := i + 1 + 1) (by omega)]; by_cases h1 : hereB s i = 33
  · cases m
    · simp [h1]
    · by_cases h2 : hereB s (i + 1) = 126
      · simp [h1, h2]
        omega
      · simp [h1, h2]
  · cases m <;> simp [h1]

def pieceP (s : ByteArray) (i why at_ a1 : Int) : ByteArray × Int × Int × Int :=
  if bt s i = 92 then
    (let c := behindP s i
     if a1 = 256 then (⟨#[]⟩, i, failP why at_ 120 i)
     else if c = 110 then (⟨#[10]⟩, i + 2, why, at_)
     else if c = 34 then (⟨#[34]⟩, i + 2, why, at_)
     else if c = 92 then (⟨#[92]⟩, i + 2, why, at_)
     else (⟨#[]⟩, i + 1, failP why at_ 120 (i + 1)))
  else
    (let d := Utf8.decode s i.toNat
     (s.extract i.toNat (i.toNat + d.2), i + d.2, if a1 = 256 ∨ (d.1 = 65533 ∧ d.2 = 1) then failP why at_ 120 i else if 256 < a1 + d.2 then failP why at_ 120 (i + 256 - a1) else (why, at_)))
theorem piece_g (s : ByteArray) (i : Int) (m : Bool) (o : Value) (why at_ a1 : Int) (h0 : 0 ≤ i) (h1 : i < s.size) (hs : s.size ≤ 2305843009213693952) (h2 : 0 ≤ a1) (h3 : a1 ≤ 2305843009213693952) :
    labels_reader_piece.f s i m o why at_ a1 = some ((pieceP s i why at_ a1).1, s, (pieceP s i why at_ a1).2.1, m, o, (pieceP s i why at_ a1).2.2.1, (pieceP s i why at_ a1).2.2.2) := by
  unfold labels_reader_piece.f; rw [if_pos ⟨h0, h1, hs, h2, h3⟩]; unfold pieceP toldP charP; dsimp only
  repeat' split
  all_goals rfl

def valueL (s : ByteArray) (m : Bool) : Nat → List Int → Int → Int → Int → Option (ByteArray × Int × Int × Int)
  | 0, _, _, _, _ => none
  | f + 1, out, i, why, at_ =>
    if why = 0 then
      (if i < s.size then
        (if bt s i = 10 then some (strOfNums out, i, failP why at_ 120 i)
         else if bt s i = 34 then (if out = [] ∧ m = false then some (strOfNums out, i + 1, failP why at_ 120 i) else some (strOfNums out, i + 1, why, at_))
         else (if out.length + (pieceP s i why at_ out.length).1.size < 140737488355328 then valueL s m f (out ++ bytesOf (pieceP s i why at_ out.length).1) (pieceP s i why at_ out.length).2.1 (pieceP s i why at_ out.length).2.2.1 (pieceP s i why at_ out.length).2.2.2 else none))
       else some (strOfNums out, i, failP why at_ 120 i))
    else some (strOfNums out, i, why, at_)
def valueO (s : ByteArray) (i : Int) (m : Bool) (why at_ : Int) : Option (ByteArray × Int × Int × Int) :=
  if (takeP s i why at_ 34).1 = true then valueL s m (s.size + 2) [] (takeP s i why at_ 34).2.1 (takeP s i why at_ 34).2.2.1 (takeP s i why at_ 34).2.2.2 else some (⟨#[]⟩, (takeP s i why at_ 34).2)
theorem piece_le (s : ByteArray) (i why at_ a1 : Int) (h0 : 0 ≤ i) (h1 : i < s.size) : i ≤ (pieceP s i why at_ a1).2.1 ∧ (pieceP s i why at_ a1).2.1 ≤ s.size := by
  unfold pieceP; by_cases hb : bt s i = 92
  · rw [if_pos hb]
    dsimp only
    have hbe : ∀ c, c ≠ 0 → behindP s i = c → i + 1 < s.size := by
      intro c hc h; unfold behindP at h; split at h
      · assumption
      · exact absurd h.symm hc
    repeat' split
    all_goals (dsimp only; first | omega | (have := hbe 110 (by decide) (by assumption); omega) | (have := hbe 34 (by decide) (by assumption); omega) | (have := hbe 92 (by decide) (by assumption); omega))
  · rw [if_neg hb]
    dsimp only; have := width_fits s i.toNat (by omega); omega
theorem value_l (s : ByteArray) (m : Bool) (hs : s.size ≤ 140737488355000) (o : Value) : ∀ (f : Nat) (out : List Int) (i why at_ : Int) (r : ByteArray × Int × Int × Int) (k : Nat), 0 ≤ i → i ≤ s.size → out.length ≤ 140737488355328 → 2 * f + 2 < k →
    valueL s m f out i why at_ = some r → labels_reader_value.l0 k out s i m o why at_ = some (r.1, s, r.2.1, m, o, r.2.2.1, r.2.2.2) := by
  intro f
  induction f with
  | zero => intro out i why at_ r k _ _ _ _ h; cases h
  | succ f ih =>
    intro out i why at_ r k h0 h1 hl hk h; obtain ⟨k, rfl⟩ : ∃ q, k = q + 3 := ⟨k - 3, by omega⟩; simp only [valueL] at h; simp only [labels_reader_value.l0, labels_reader_value.j1, labels_reader_value.j2]; by_cases hw : why = 0
    · rw [if_pos hw] at h ⊢
      rw [here_g s i m o why at_ h0]; simp only [Option.bind_some]; by_cases hi : i < (s.size : Int)
      · rw [if_pos hi] at h
        have hh : hereB s i = bt s i := by simp [hereB, hi]
        rw [decide_eq_true hi, if_pos rfl, hh]; by_cases hn : bt s i = 10
        · rw [if_pos hn] at h
          rw [hn]; simp only [fail_f, Option.bind_some, show ((10 : Int) == 10) = true from rfl, if_true]
          cases h; rfl
        · rw [if_neg hn] at h
          rw [if_neg (by simpa using hn)]; by_cases hq : bt s i = 34
          · rw [if_pos hq] at h ⊢
            rw [wrap_in (i := i + 1) (by omega)]; simp only [fail_f, Option.bind_some]; rw [wrap_in (i := i + 1) (by omega)]; by_cases ho : out = []
            · subst ho
              cases m
              · simp at h ⊢
                rw [← h]; exact ⟨rfl, rfl, rfl, rfl⟩
              · simp at h ⊢
                rw [← h]; exact ⟨rfl, rfl, rfl, rfl⟩
            · have hol : ¬ ((out.length : Int) = 0) := by
                have := List.length_pos_iff.2 ho; omega
              rw [if_neg (by simp [ho])] at h; rw [if_neg hol, if_neg (by simp)]
              cases h; rfl
          · rw [if_neg hq] at h ⊢
            rw [piece_g s i m o why at_ _ h0 hi (by omega) (by omega) (by omega)]; simp only [Option.bind_some]; by_cases hlim : out.length + (pieceP s i why at_ out.length).1.size < 140737488355328
            · rw [if_pos hlim] at h ⊢
              have hp := piece_le s i why at_ out.length h0 hi; refine ih _ _ _ _ r (k + 1) (by omega) (by omega) ?_ (by omega) h; simp [bytesOf]
              omega
            · rw [if_neg hlim] at h
              cases h
      · rw [if_neg hi] at h
        rw [decide_eq_false hi, if_neg (by simp)]; simp only [fail_f, Option.bind_some, if_true]
        cases h; rfl
    · rw [if_neg hw] at h ⊢
      cases h; rfl
theorem value_g (s : ByteArray) (i : Int) (m : Bool) (o : Value) (why at_ : Int) (hi : 0 ≤ i) (his : i ≤ s.size) (hs : s.size ≤ 140737488355000) (r : ByteArray × Int × Int × Int) (h : valueO s i m why at_ = some r) :
    labels_reader_value.f (2 * s.size + 10) s i m o why at_ = some (r.1, s, r.2.1, m, o, r.2.2.1, r.2.2.2) := by
  unfold labels_reader_value.f; unfold valueO at h; rw [take_f s i m o why at_ 34 hi (by omega)]; simp only [Option.bind_some]; by_cases ht : (takeP s i why at_ 34).1 = true
  · rw [if_pos ht] at h ⊢
    refine value_l s m hs o _ _ _ _ _ r _ ?_ ?_ (by simp) (by omega) h
    · unfold takeP; split <;> simp <;> omega
    · unfold takeP; split <;> simp <;> omega
  · rw [if_neg ht] at h ⊢
    cases h; rfl
end Go.Proofs.YtogegkfefpgbcaaDoor.PL
