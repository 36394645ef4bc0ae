/- What value and name read: of a text that was written, and of any text. -/
import Derived.Test.YtogegkfefpgbcaaDoorZXPM
namespace Go.Proofs.YtogegkfefpgbcaaDoor.PL
open Go Go.RowKit Go.Proofs.YtogegkfefpgbcaaDoorW.PrintWords Go.Proofs.YtogegkfefpgbcaaDoorW.PrintLast Go.Proofs.YtogegkfefpgbcaaDoorW.PrintMore
set_option linter.unusedVariables false
set_option linter.unusedSimpArgs false
def numL (l : List UInt8) : List Int := l.map fun b => (b.toNat : Int)
theorem numL_app (a b : List UInt8) : numL (a ++ b) = numL a ++ numL b := by simp [numL]
theorem numL_len (a : List UInt8) : (numL a).length = a.length := by simp [numL]
theorem bytesOf_bs (s : ByteArray) : bytesOf s = numL (bs s) := rfl
theorem str_numL (l : List UInt8) : strOfNums (numL l) = ⟨l.toArray⟩ := by
  unfold strOfNums numL; congr 2
  rw [List.map_map]; conv => rhs; rw [← List.map_id l]
  apply List.map_congr_left
  intro b _; simp
theorem bs_numL (l : List UInt8) : bs (strOfNums (numL l)) = l := by rw [str_numL]; simp [bs]
theorem value_total (s : ByteArray) (m : Bool) : ∀ (f : Nat) (out : List Int) (i : Nat) (at_ : Int), i ≤ s.size → out.length ≤ 256 → s.size + 2 ≤ i + f → (∃ w, out = numL w ∧ ValidL w) → (0 ≤ at_ ∧ at_ ≤ s.size) →
    ∃ r, valueL s m f out (i : Int) 0 at_ = some r ∧ (0 ≤ r.2.2.2 ∧ r.2.2.2 ≤ s.size) ∧ (r.2.2.1 = 0 → ValidL (bs r.1) ∧ r.1.size ≤ 256 ∧ (m = false → r.1.size ≠ 0)) := by
  intro f
  induction f with
  | zero => intro out i at_ hi _ hf; omega
  | succ f ih =>
    intro out i at_ hi ho hf hv hat; simp only [valueL, if_true]; by_cases hlt : i < s.size
    · rw [if_pos (by omega)]
      by_cases h10 : bt s (i : Int) = 10
      · rw [if_pos h10]
        exact ⟨_, rfl, by simp [failP]; omega, by simp [failP]⟩
      · rw [if_neg h10]
        by_cases h34 : bt s (i : Int) = 34
        · rw [if_pos h34]
          split
          · exact ⟨_, rfl, by simp [failP]; omega, by simp [failP]⟩
          · rename_i hne
            refine ⟨_, rfl, hat, fun _ => ?_⟩; obtain ⟨w, rfl, hw⟩ := hv; rw [numL_len] at ho; refine ⟨by rw [bs_numL]; exact hw, by rw [← bs_len, bs_numL]; exact ho, fun hm h0 => hne ⟨?_, hm⟩⟩; rw [← bs_len, bs_numL] at h0; rw [List.length_eq_zero_iff.1 h0]; rfl
        · rw [if_neg h34]
          have hple := piece_le s (i : Int) 0 at_ (out.length : Int) (by omega) (by omega)
          -- what the piece is
          have key : (pieceP s (i : Int) 0 at_ (out.length : Int)).1.size ≤ 4 ∧ (0 ≤ (pieceP s (i : Int) 0 at_ (out.length : Int)).2.2.2 ∧ (pieceP s (i : Int) 0 at_ (out.length : Int)).2.2.2 ≤ s.size) ∧
              ((pieceP s (i : Int) 0 at_ (out.length : Int)).2.2.1 = 0 → (i : Int) < (pieceP s (i : Int) 0 at_ (out.length : Int)).2.1 ∧ (out.length + (pieceP s (i : Int) 0 at_ (out.length : Int)).1.size ≤ 256) ∧ Chr (bs (pieceP s (i : Int) 0 at_ (out.length : Int)).1)) := by
            unfold pieceP; by_cases h92 : bt s (i : Int) = 92
            · rw [if_pos h92]
              simp only; by_cases ha : (out.length : Int) = 256
              · rw [if_pos ha]
                exact ⟨Nat.le_of_ble_eq_true rfl, by simp [failP]; omega, by simp [failP]⟩
              · rw [if_neg ha]
                split
                · exact ⟨Nat.le_of_ble_eq_true rfl, hat, fun _ => ⟨by simp; omega, by show out.length + 1 ≤ 256; omega, chr_low (b := 10) (by decide)⟩⟩
                · split
                  · exact ⟨Nat.le_of_ble_eq_true rfl, hat, fun _ => ⟨by simp; omega, by show out.length + 1 ≤ 256; omega, chr_low (b := 34) (by decide)⟩⟩
                  · split
                    · exact ⟨Nat.le_of_ble_eq_true rfl, hat, fun _ => ⟨by simp; omega, by show out.length + 1 ≤ 256; omega, chr_low (b := 92) (by decide)⟩⟩
                    · exact ⟨Nat.le_of_ble_eq_true rfl, by simp [failP]; omega, by simp [failP]⟩
            · rw [if_neg h92]
              simp only [Int.toNat_natCast]; have hne := drop_ne hlt; have hfit := decodeL_fit _ hne; have hpos := decodeL_pos ((bs s).drop i); rw [decode_bs] at hfit hpos; simp only [List.length_drop, bs_len] at hfit; have hex : bs (s.extract i (i + (Utf8.decode s i).2)) = ((bs s).drop i).take (Utf8.decode s i).2 := by rw [ext_bs, show i + (Utf8.decode s i).2 - i = (Utf8.decode s i).2 by omega]
              have hsz : (s.extract i (i + (Utf8.decode s i).2)).size = (Utf8.decode s i).2 := by rw [← bs_len, hex]; simp [bs_len]; omega
              have h4 : (Utf8.decode s i).2 ≤ 4 := by
                rw [Lib.decode_at]; unfold Lib.decodeN
                repeat' split
                all_goals first | omega | (simp only; omega)
              refine ⟨by rw [hsz]; exact h4, ?_, ?_⟩
              · split
                · simp [failP]; omega
                · split
                  · simp [failP]; omega
                  · exact hat
              · intro hz
                split at hz
                · simp [failP] at hz
                · rename_i hok
                  split at hz
                  · simp [failP] at hz
                  · rename_i hok2
                    refine ⟨by omega, by rw [hsz]; omega, ?_⟩; rw [hex]; have := (chr_take hne (fun e => hok (.inr (by rw [decode_bs] at e; exact e)))).1; rwa [decode_bs] at this
          generalize hP : pieceP s (i : Int) 0 at_ (out.length : Int) = P at *; obtain ⟨k1, k2, k3⟩ := key; rw [if_pos (by omega)]; by_cases hz : P.2.2.1 = 0
          · obtain ⟨g1, g2, g3⟩ := k3 hz
            rw [hz]; obtain ⟨j, hj⟩ : ∃ j : Nat, P.2.1 = (j : Int) := ⟨P.2.1.toNat, by omega⟩; rw [hj] at hple g1 ⊢; obtain ⟨w, rfl, hw⟩ := hv; refine ih _ j _ (by omega) (by rw [bytesOf_bs, List.length_append, numL_len, numL_len, bs_len]; rw [numL_len] at g2; omega) (by omega) ⟨w ++ bs P.1, by rw [bytesOf_bs, numL_app], hw.app ?_⟩ k2; have := ValidL.cons _ _ g3 ValidL.nil; simpa using this
          · cases f with
            | zero => omega
            | succ f =>
              simp only [valueL]; rw [if_neg hz]; exact ⟨_, rfl, k2, fun h => absurd h hz⟩
    · rw [if_neg (by omega)]
      exact ⟨_, rfl, by simp [failP]; omega, by simp [failP]⟩
theorem valueO_total (s : ByteArray) (m : Bool) (i : Nat) (at_ : Int) (hi : i ≤ s.size) (hat : 0 ≤ at_ ∧ at_ ≤ s.size) :
    ∃ r, valueO s (i : Int) m 0 at_ = some r ∧ (0 ≤ r.2.2.2 ∧ r.2.2.2 ≤ s.size) ∧ (r.2.2.1 = 0 → ValidL (bs r.1) ∧ r.1.size ≤ 256 ∧ (m = false → r.1.size ≠ 0)) := by
  unfold valueO takeP; by_cases h : (i : Int) < s.size ∧ bt s (i : Int) = 34
  · rw [if_pos h]
    simp only [if_true]; rw [show ((i : Int) + 1) = ((i + 1 : Nat) : Int) by omega]; exact value_total s m (s.size + 2) [] (i + 1) at_ (by omega) (by simp) (by omega) ⟨[], rfl, .nil⟩ hat
  · rw [if_neg h]
    simp only [Bool.false_eq_true, if_false]; exact ⟨_, rfl, by simp [failP]; omega, by simp [failP]⟩
def NameL (l : List UInt8) : Prop := (∃ b t, l = b :: t ∧ letterB (b.toNat : Int) = true) ∧ l.length ≤ 64 ∧ ∀ b ∈ l, namedB (b.toNat : Int) = true
theorem namedFrom_iff (s : ByteArray) : ∀ (n i : Nat), i + n = s.size → (namedFrom s n (i : Int) = true ↔ ∀ b ∈ (bs s).drop i, namedB (b.toNat : Int) = true) := by
  intro n
  induction n with
  | zero =>
    intro i hi; rw [List.drop_eq_nil_of_le (by rw [bs_len]; omega)]; simp [namedFrom]
  | succ n ih =>
    intro i hi; have hlt : i < s.size := by omega
    obtain ⟨x, t, h⟩ : ∃ x t, (bs s).drop i = x :: t := by
      cases h : (bs s).drop i with
      | nil => exact absurd h (drop_ne hlt)
      | cons x t => exact ⟨x, t, rfl⟩
    obtain ⟨_, p2, p3⟩ := drop_bt h; have := ih (i + 1) (by omega); rw [p3] at this; simp only [namedFrom]; rw [h, p2, Bool.and_eq_true, show ((i : Int) + 1) = ((i + 1 : Nat) : Int) by omega, this]; simp
theorem nameB_iff (n : ByteArray) : nameB n = true ↔ NameL (bs n) := by
  unfold nameB NameL; rw [Bool.and_eq_true, Bool.and_eq_true, Bool.and_eq_true, decide_eq_true_iff, decide_eq_true_iff, bs_len]; have hn := namedFrom_iff n n.size 0 (by omega); rw [List.drop_zero] at hn; rw [show (0 : Int) = ((0 : Nat) : Int) from rfl, hn]; constructor
  · rintro ⟨⟨⟨h1, h2⟩, h3⟩, h4⟩
    refine ⟨?_, h2, h4⟩
    cases h : bs n with
    | nil =>
      have h' : (bs n).length = 0 := by rw [h]; rfl
      rw [bs_len] at h'; omega
    | cons b t =>
      obtain ⟨_, p2, _⟩ := drop_bt (s := n) (i := 0) (x := b) (t := t) (by simpa using h); rw [p2] at h3; exact ⟨b, t, rfl, h3⟩
  · rintro ⟨⟨b, t, h, hl⟩, h2, h4⟩
    obtain ⟨p1, p2, _⟩ := drop_bt (s := n) (i := 0) (x := b) (t := t) (by simpa using h); exact ⟨⟨⟨by omega, h2⟩, by rw [p2]; exact hl⟩, h4⟩
theorem runN_all (s : ByteArray) : ∀ (n i : Nat), runN s n (i : Int) ≤ n ∧ ∀ b ∈ ((bs s).drop i).take (runN s n (i : Int)), namedB (b.toNat : Int) = true := by
  intro n
  induction n with
  | zero => intro i; simp [runN]
  | succ n ih =>
    intro i; simp only [runN]; split
    · rename_i h
      obtain ⟨h1, h2⟩ := ih (i + 1); rw [show ((i : Int) + 1) = ((i + 1 : Nat) : Int) by omega]; refine ⟨by omega, ?_⟩; have hlt : i < s.size := by omega
      cases hd : (bs s).drop i with
      | nil => exact absurd hd (drop_ne hlt)
      | cons x t =>
        obtain ⟨_, p2, p3⟩ := drop_bt hd; rw [p3] at h2; intro b hb; rw [List.take_succ_cons] at hb; rcases List.mem_cons.1 hb with rfl | hb
        · rw [← p2]; exact h.2
        · exact h2 b hb
    · simp
theorem nameG (s : ByteArray) (i : Nat) (hi : i ≤ s.size) (at_ : Int) (hat : 0 ≤ at_ ∧ at_ ≤ s.size) :
    (0 ≤ (nameP s (i : Int) 0 at_).2.2.2 ∧ (nameP s (i : Int) 0 at_).2.2.2 ≤ s.size) ∧ ((nameP s (i : Int) 0 at_).2.2.1 = 0 → nameB (nameP s (i : Int) 0 at_).1 = true) := by
  have hle : (i : Int) + (nameN s (i : Int) : Int) ≤ s.size := by
    unfold nameN; split
    · exact runN_le s 64 i (by omega)
    · omega
  unfold nameP; simp only; split
  · refine ⟨by simp [failP]; omega, by simp [failP]⟩
  · rename_i hne
    refine ⟨hat, fun _ => ?_⟩; rw [not_or] at hne; have hN := hne.1; rw [nameB_iff]; unfold nameN at hN ⊢; by_cases hc : (i : Int) < s.size ∧ letterB (bt s (i : Int)) = true
    · rw [if_pos hc] at hN ⊢
      obtain ⟨r1, r2⟩ := runN_all s 64 i
      have hx : bs (s.extract (i : Int).toNat ((i : Int) + (runN s 64 (i : Int) : Int)).toNat) = ((bs s).drop i).take (runN s 64 (i : Int)) := by
        rw [ext_bs, show (i : Int).toNat = i by omega, show ((i : Int) + (runN s 64 (i : Int) : Int)).toNat - i = runN s 64 (i : Int) by omega]
      rw [hx]; refine ⟨?_, by simp; omega, r2⟩; have hlt : i < s.size := by omega
      cases hd : (bs s).drop i with
      | nil => exact absurd hd (drop_ne hlt)
      | cons x t =>
        obtain ⟨_, p2, _⟩ := drop_bt hd; obtain ⟨q, hq⟩ : ∃ q, runN s 64 (i : Int) = q + 1 := ⟨runN s 64 (i : Int) - 1, by omega⟩; rw [hq, List.take_succ_cons]; exact ⟨x, _, rfl, by rw [← p2]; exact hc.2⟩
    · rw [if_neg hc] at hN
      exact absurd rfl hN
end Go.Proofs.YtogegkfefpgbcaaDoor.PL
