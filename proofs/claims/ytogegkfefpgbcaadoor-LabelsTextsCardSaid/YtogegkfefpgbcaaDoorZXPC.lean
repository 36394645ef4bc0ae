/- What one and read answer, in plain words. -/
import Derived.Test.YtogegkfefpgbcaaDoorZXHG
namespace Go.Proofs.YtogegkfefpgbcaaDoor.PL
open Go.RowKit Go.Proofs.YtogegkfefpgbcaaDoorW.PrintWords Go.Proofs.YtogegkfefpgbcaaDoorW.PrintLast Go.Proofs.YtogegkfefpgbcaaDoorW.PrintMore
set_option linter.unusedVariables false
set_option linter.unusedSimpArgs false

theorem hereB_lt {s : ByteArray} {i c : Int} (h : hereB s i = c) (hc : c ≠ 0) : i < s.size := by
  unfold hereB at h; split at h
  · assumption
  · exact absurd h.symm hc
theorem nameP_le (s : ByteArray) (i why at_ : Int) (hi : i ≤ s.size) : i ≤ (nameP s i why at_).2.1 ∧ (nameP s i why at_).2.1 ≤ s.size := by
  have : (nameP s i why at_).2.1 = i + nameN s i := rfl; rw [this]; unfold nameN; split
  · have := runN_le s 64 i hi
    omega
  · simp
    omega
theorem takeP_le (s : ByteArray) (i why at_ c : Int) (hi : i ≤ s.size) : i ≤ (takeP s i why at_ c).2.1 ∧ (takeP s i why at_ c).2.1 ≤ s.size := by
  unfold takeP; split
  · simp; omega
  · simp; omega
theorem kindP_le (s : ByteArray) (i : Int) (m : Bool) (why at_ : Int) (hi : i ≤ s.size) : i ≤ (kindP s i m why at_).2.1 ∧ (kindP s i m why at_).2.1 ≤ s.size := by
  unfold kindP; split
  · rename_i h
    have h1 := hereB_lt h.1 (by decide); split
    · rename_i h2
      have h3 := hereB_lt h2 (by decide); simp
      omega
    · have := takeP_le s (i + 1) why at_ 61 (by omega)
      simp
      omega
  · exact takeP_le s i why at_ 61 hi
theorem valueL_le (s : ByteArray) (m : Bool) : ∀ (f : Nat) (out : List Int) (i why at_ : Int) (r : ByteArray × Int × Int × Int), 0 ≤ i → i ≤ s.size → valueL s m f out i why at_ = some r → i ≤ r.2.1 ∧ r.2.1 ≤ s.size := by
  intro f
  induction f with
  | zero => intro out i why at_ r _ _ h; cases h
  | succ f ih =>
    intro out i why at_ r h0 h1 h; simp only [valueL] at h; split at h
    · split at h
      · rename_i hi
        split at h
        · cases h; simp; omega
        · split at h
          · split at h
            · cases h; simp; omega
            · cases h; simp; omega
          · split at h
            · have := piece_le s i why at_ out.length h0 hi
              have := ih _ _ _ _ r (by omega) (by omega) h; omega
            · cases h
      · cases h; simp; omega
    · cases h; simp; omega
theorem valueO_le (s : ByteArray) (i : Int) (m : Bool) (why at_ : Int) (r : ByteArray × Int × Int × Int) (h0 : 0 ≤ i) (h1 : i ≤ s.size) (h : valueO s i m why at_ = some r) : i ≤ r.2.1 ∧ r.2.1 ≤ s.size := by
  have ht := takeP_le s i why at_ 34 h1; unfold valueO at h; split at h
  · have := valueL_le s m _ _ _ _ _ r (by omega) (by omega) h
    omega
  · cases h
    exact ht

def oneF (s : ByteArray) (i : Int) (m : Bool) (l : List S36) (why at_ : Int) : Option (Int × List S36 × Int × Int) :=
  if (nameP s i why at_).2.2.1 ≠ 0 then some ((nameP s i why at_).2.1, l, (nameP s i why at_).2.2)
  else if (kindP s (nameP s i why at_).2.1 m 0 (nameP s i why at_).2.2.2).2.2.1 ≠ 0 then
    some ((kindP s (nameP s i why at_).2.1 m 0 (nameP s i why at_).2.2.2).2.1, l, (kindP s (nameP s i why at_).2.1 m 0 (nameP s i why at_).2.2.2).2.2)
  else oneTail s i m l (nameP s i why at_).1 (kindP s (nameP s i why at_).2.1 m 0 (nameP s i why at_).2.2.2).1 (kindP s (nameP s i why at_).2.1 m 0 (nameP s i why at_).2.2.2).2.1
    (dupF m (nameP s i why at_).1 i l l.length 0 (if l.length = 32 then (3, i) else (0, (kindP s (nameP s i why at_).2.1 m 0 (nameP s i why at_).2.2.2).2.2.2)))
theorem dupF_ne (m : Bool) (nm : ByteArray) (from_ : Int) (l : List S36) : ∀ (n : Nat) (j : Int) (p : Int × Int), p.1 ≠ 0 → (dupF m nm from_ l n j p).1 ≠ 0 := by
  intro n
  induction n with
  | zero => intro j p h; exact h
  | succ n ih =>
    intro j p h; simp only [dupF]; apply ih
    split
    · unfold failP
      rw [if_neg h]; exact h
    · exact h
theorem oneTail_le (s : ByteArray) (from_ : Int) (m : Bool) (l : List S36) (nm : ByteArray) (kd i2 : Int) (p : Int × Int) (r : Int × List S36 × Int × Int) (h0 : 0 ≤ i2) (h1 : i2 ≤ s.size) (h : oneTail s from_ m l nm kd i2 p = some r) :
    i2 ≤ r.1 ∧ r.1 ≤ s.size ∧ r.2.1.length = l.length + 1 ∧ (p.1 ≠ 0 → r.2.2.1 ≠ 0) := by
  unfold oneTail at h; split at h
  · rename_i hp
    split at h
    · rename_i hc
      have hl := hereB_lt hc.1 (by decide); obtain ⟨q, hq, rfl⟩ := Option.map_eq_some_iff.1 h; have := valueO_le s (i2 + 1) m p.1 p.2 q (by omega) (by omega) hq; exact ⟨by simp; omega, by simp; omega, by simp, fun h => absurd hp h⟩
    · obtain ⟨q, hq, rfl⟩ := Option.map_eq_some_iff.1 h
      have := valueO_le s i2 m p.1 p.2 q (by omega) (by omega) hq; exact ⟨by simp; omega, by simp; omega, by simp, fun h => absurd hp h⟩
  · rename_i hp
    cases h; exact ⟨by simp, by simpa using h1, by simp, fun h => h⟩
theorem oneF_le (s : ByteArray) (i : Int) (m : Bool) (l : List S36) (why at_ : Int) (r : Int × List S36 × Int × Int) (h0 : 0 ≤ i) (h1 : i ≤ s.size) (h : oneF s i m l why at_ = some r) :
    i ≤ r.1 ∧ r.1 ≤ s.size ∧ r.2.1.length ≤ l.length + 1 ∧ (r.2.2.1 = 0 → l.length ≠ 32) := by
  have hn := nameP_le s i why at_ h1; unfold oneF at h; split at h
  · rename_i hw
    cases h; exact ⟨hn.1, hn.2, by simp, fun h => absurd h hw⟩
  · have hk := kindP_le s (nameP s i why at_).2.1 m 0 (nameP s i why at_).2.2.2 hn.2
    split at h
    · rename_i hw
      cases h; exact ⟨by simp; omega, hk.2, by simp, fun h => absurd h hw⟩
    · have ht := oneTail_le _ _ _ _ _ _ _ _ r (by omega) hk.2 h
      refine ⟨by omega, ht.2.1, by omega, fun hz h32 => ht.2.2.2 ?_ hz⟩; rw [if_pos h32]; exact dupF_ne _ _ _ _ _ _ _ (by simp)

def readL (s : ByteArray) (m : Bool) : Nat → Int → List S36 → Int → Int → Option (Int × List S36 × Int × Int)
  | 0, _, _, _, _ => none
  | f + 1, i, l, why, at_ =>
    if why = 0 ∧ hereB s i = 44 then
      (match oneF s (i + 1) m l why at_ with
       | none => none
       | some r => readL s m f r.1 r.2.1 r.2.2.1 r.2.2.2)
    else some (i, l, why, at_)
def restF (s : ByteArray) (r : Int × List S36 × Int × Int) : Int × List S36 × Int × Int :=
  if r.2.2.1 = 0 ∧ r.1 < s.size then (r.1, r.2.1, failP r.2.2.1 r.2.2.2 120 r.1) else r
def closeF (s : ByteArray) (r : Int × List S36 × Int × Int) : Int × List S36 × Int × Int :=
  if r.2.2.1 = 0 then ((takeP s r.1 r.2.2.1 r.2.2.2 125).2.1, r.2.1, (takeP s r.1 r.2.2.1 r.2.2.2 125).2.2) else r
def readF (s : ByteArray) (m : Bool) : Option (Int × List S36 × Int × Int) :=
  if (takeP s 0 0 0 123).1 = true then
    (if hereB s (takeP s 0 0 0 123).2.1 = 125 then some (restF s ((takeP s 0 0 0 123).2.1 + 1, [], (takeP s 0 0 0 123).2.2))
     else ((oneF s (takeP s 0 0 0 123).2.1 m [] (takeP s 0 0 0 123).2.2.1 (takeP s 0 0 0 123).2.2.2).bind fun r => readL s m (s.size + 2) r.1 r.2.1 r.2.2.1 r.2.2.2).map fun r => restF s (closeF s r))
  else some ((takeP s 0 0 0 123).2.1, [], (takeP s 0 0 0 123).2.2)
end Go.Proofs.YtogegkfefpgbcaaDoor.PL
