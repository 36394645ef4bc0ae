/- What value and name read: of a text that was written, and of any text. -/
import Derived.Test.YtogegkfefpgbcaaDoorZBPM
namespace Go.Proofs.YtogegkfefpgbcaaDoor.PL
open Go Go.RowKit Go.Proofs.YtogegkfefpgbcaaDoorW.PrintWords Go.Proofs.YtogegkfefpgbcaaDoorW.PrintLast Go.Proofs.YtogegkfefpgbcaaDoorW.PrintMore
set_option linter.unusedVariables false
set_option linter.unusedSimpArgs false
def numL (l : List UInt8) : List Int := l.map fun b => (b.toNat : Int)
theorem numL_app (a b : List UInt8) : numL (a ++ b) = numL a ++ numL b := by simp [numL]
theorem numL_len (a : List UInt8) : (numL a).length = a.length := by simp [numL]
theorem bytesOf_bs (s : ByteArray) : bytesOf s = numL (bs s) := rfl
theorem str_numL (l : List UInt8) : strOfNums (numL l) = ⟨l.toArray⟩ := by
  unfold strOfNums numL
  congr 2
  rw [List.map_map]
  conv => rhs; rw [← List.map_id l]
  apply List.map_congr_left
  intro b _
  simp
theorem bs_numL (l : List UInt8) : bs (strOfNums (numL l)) = l := by rw [str_numL]; simp [bs]
theorem str_bs (v : ByteArray) : strOfNums (numL (bs v)) = v := bs_inj (bs_numL _)
/-- A character that stands plain. -/
theorem piece_plain (s : ByteArray) (i : Nat) (c rest : List UInt8) (h : (bs s).drop i = c ++ rest) (hc : Chr c) (at_ : Int) (a1 : Nat) (ha : a1 + c.length ≤ 256) (h92 : bt s (i : Int) ≠ 92) :
    pieceP s (i : Int) 0 at_ (a1 : Int) = (s.extract i (i + c.length), ((i + c.length : Nat) : Int), 0, at_) := by
  have hl := chr_len hc
  have hd : Utf8.decode s i = Lib.decodeL c := by rw [← decode_bs, h, chr_app hc]
  unfold pieceP
  rw [if_neg h92]
  have h2' : (Utf8.decode s i).2 = c.length := by rw [hd]; exact hc.2.1
  have ht : ¬ ((Utf8.decode s i).1 = 65533 ∧ (Utf8.decode s i).2 = 1) := by rw [hd]; exact hc.2.2
  simp only [Int.toNat_natCast]
  rw [if_neg, if_neg (by omega), h2']
  · congr 1
  · rintro (e | e)
    · omega
    · exact ht e
theorem piece_chr (s : ByteArray) (i : Nat) (c rest : List UInt8) (h : (bs s).drop i = escL c ++ rest) (hc : Chr c) (at_ : Int) (a1 : Nat) (ha : a1 + c.length ≤ 256) :
    i < s.size ∧ bt s (i : Int) ≠ 34 ∧ bt s (i : Int) ≠ 10 ∧ ∃ t, pieceP s (i : Int) 0 at_ (a1 : Int) = (t, ((i + (escL c).length : Nat) : Int), 0, at_) ∧ bs t = c := by
  rcases chr_kind hc with ⟨b, rfl, hb⟩ | hh
  · have e1 : escL [b] = escB b := by simp [escL]
    rw [e1] at h ⊢
    simp only [List.length_singleton] at ha
    unfold escB at h ⊢
    by_cases q1 : b = 92 ∨ b = 34
    · rw [if_pos q1] at h ⊢
      obtain ⟨p1, p2, p3⟩ := drop_bt h
      obtain ⟨r1, r2, r3⟩ := drop_bt p3
      have p2' : bt s (i : Int) = 92 := p2
      have hbe : behindP s (i : Int) = (b.toNat : Int) := by
        unfold behindP
        rw [if_pos (by omega), ← r2]
        rfl
      refine ⟨p1, by omega, by omega, ?_⟩
      unfold pieceP
      rw [if_pos p2']
      simp only [hbe]
      rw [if_neg (by omega)]
      rcases q1 with rfl | rfl
      · exact ⟨⟨#[92]⟩, by simp, rfl⟩
      · exact ⟨⟨#[34]⟩, by simp, rfl⟩
    · rw [if_neg q1] at h ⊢
      by_cases q2 : b = 10
      · rw [if_pos q2] at h ⊢
        subst q2
        obtain ⟨p1, p2, p3⟩ := drop_bt h
        obtain ⟨r1, r2, r3⟩ := drop_bt p3
        have p2' : bt s (i : Int) = 92 := p2
        have hbe : behindP s (i : Int) = 110 := by
          unfold behindP
          rw [if_pos (by omega)]
          exact r2
        refine ⟨p1, by omega, by omega, ?_⟩
        unfold pieceP
        rw [if_pos p2']
        simp only [hbe]
        rw [if_neg (by omega)]
        exact ⟨⟨#[10]⟩, by simp, rfl⟩
      · rw [if_neg q2] at h ⊢
        obtain ⟨p1, p2, p3⟩ := drop_bt h
        have n1 : b.toNat ≠ 92 := fun e => q1 (.inl (UInt8.toNat_inj.1 e))
        have n2 : b.toNat ≠ 34 := fun e => q1 (.inr (UInt8.toNat_inj.1 e))
        have n3 : b.toNat ≠ 10 := fun e => q2 (UInt8.toNat_inj.1 e)
        refine ⟨p1, by omega, by omega, _, piece_plain s i [b] rest h hc at_ a1 (by simpa using ha) (by omega), ext_drop h⟩
  · rw [escL_high hh] at h ⊢
    have hl := chr_len hc
    obtain ⟨b, t, rfl⟩ : ∃ b t, c = b :: t := by
      cases c with
      | nil => simp at hl
      | cons b t => exact ⟨b, t, rfl⟩
    have hb := hh b (by simp)
    obtain ⟨p1, p2, p3⟩ := drop_bt (h.trans (List.cons_append ..))
    exact ⟨p1, by omega, by omega, _, piece_plain s i (b :: t) rest h hc at_ a1 ha (by omega), ext_drop h⟩
theorem value_read (s : ByteArray) (m : Bool) (at_ : Int) (rest : List UInt8) : ∀ (w : List UInt8), ValidL w → ∀ (i : Nat) (out : List Int) (f : Nat), (bs s).drop i = escL w ++ 34 :: rest → out.length + w.length ≤ 256 → w.length + 1 ≤ f → (out.length + w.length = 0 → m = true) →
    valueL s m f out (i : Int) 0 at_ = some (strOfNums (out ++ numL w), ((i + (escL w).length + 1 : Nat) : Int), 0, at_) := by
  intro w hw
  induction hw with
  | nil =>
    intro i out f h hl hf hm
    obtain ⟨f, rfl⟩ : ∃ n, f = n + 1 := ⟨f - 1, by omega⟩
    have h' : (bs s).drop i = 34 :: rest := h
    obtain ⟨p1, p2, p3⟩ := drop_bt h'
    have p2' : bt s (i : Int) = 34 := p2
    simp only [valueL, if_true]
    rw [if_pos (by omega), if_neg (by omega), if_pos p2', if_neg]
    · simp [numL, escL]
    · rintro ⟨rfl, e⟩
      rw [hm rfl] at e
      cases e
  | cons c t hc ht ih =>
    intro i out f h hl hf hm
    have hcl := chr_len hc
    simp only [List.length_append] at hl hf hm
    obtain ⟨f, rfl⟩ : ∃ n, f = n + 1 := ⟨f - 1, by omega⟩
    rw [escL_app, List.append_assoc] at h
    obtain ⟨p1, p2, p3, q, hq, hb⟩ := piece_chr s i c _ h hc at_ out.length (by omega)
    have hqs : q.size = c.length := by rw [← bs_len, hb]
    simp only [valueL, if_true]
    rw [if_pos (by omega), if_neg p3, if_neg p2, hq]
    simp only
    rw [if_pos (by omega), bytesOf_bs, hb, ih _ _ f (drop_app h) (by simp only [List.length_append, numL_len]; omega) (by omega) (by simp only [List.length_append, numL_len]; omega)]
    rw [numL_app, List.append_assoc, escL_app, List.length_append]
    congr 3
    omega
theorem valueO_read (s : ByteArray) (m : Bool) (at_ : Int) (rest : List UInt8) (v : ByteArray) (hv : ValidL (bs v)) (i : Nat) (h : (bs s).drop i = 34 :: (escL (bs v) ++ 34 :: rest)) (hl : v.size ≤ 256) (hm : v.size = 0 → m = true) :
    valueO s (i : Int) m 0 at_ = some (v, ((i + (escL (bs v)).length + 2 : Nat) : Int), 0, at_) := by
  obtain ⟨p1, p2, p3⟩ := drop_bt h
  have p2' : bt s (i : Int) = 34 := p2
  have hs : (escL (bs v)).length ≤ s.size := by
    have := congrArg List.length p3
    simp only [List.length_drop, bs_len, List.length_append, List.length_cons] at this
    omega
  have he := (escL_len (bs v)).1
  rw [bs_len] at he
  unfold valueO takeP
  rw [if_pos (show (i : Int) < s.size ∧ bt s (i : Int) = 34 from ⟨by omega, p2'⟩)]
  simp only [if_true]
  rw [show ((i : Int) + 1) = ((i + 1 : Nat) : Int) by omega, value_read s m at_ rest (bs v) hv (i + 1) [] (s.size + 2) p3 (by simpa [bs_len] using hl) (by rw [bs_len]; omega) (by simpa [bs_len] using hm)]
  simp only [List.nil_append, str_bs]
  congr 3
  omega
/-! ### any text -/
theorem value_total (s : ByteArray) (m : Bool) : ∀ (f : Nat) (out : List Int) (i : Nat) (at_ : Int), i ≤ s.size → out.length ≤ 256 → s.size + 2 ≤ i + f → (∃ w, out = numL w ∧ ValidL w) → (0 ≤ at_ ∧ at_ ≤ s.size) →
    ∃ r, valueL s m f out (i : Int) 0 at_ = some r ∧ (0 ≤ r.2.2.2 ∧ r.2.2.2 ≤ s.size) ∧ (r.2.2.1 = 0 → ValidL (bs r.1) ∧ r.1.size ≤ 256 ∧ (m = false → r.1.size ≠ 0)) := by
  intro f
  induction f with
  | zero => intro out i at_ hi _ hf; omega
  | succ f ih =>
    intro out i at_ hi ho hf hv hat
    simp only [valueL, if_true]
    by_cases hlt : i < s.size
    · rw [if_pos (by omega)]
      by_cases h10 : bt s (i : Int) = 10
      · rw [if_pos h10]
        exact ⟨_, rfl, by simp [failP]; omega, by simp [failP]⟩
      · rw [if_neg h10]
        by_cases h34 : bt s (i : Int) = 34
        · rw [if_pos h34]
          split
          · exact ⟨_, rfl, by simp [failP]; omega, by simp [failP]⟩
          · rename_i hne
            refine ⟨_, rfl, hat, fun _ => ?_⟩
            obtain ⟨w, rfl, hw⟩ := hv
            rw [numL_len] at ho
            refine ⟨by rw [bs_numL]; exact hw, by rw [← bs_len, bs_numL]; exact ho, fun hm h0 => hne ⟨?_, hm⟩⟩
            rw [← bs_len, bs_numL] at h0
            rw [List.length_eq_zero_iff.1 h0]
            rfl
        · rw [if_neg h34]
          have hple := piece_le s (i : Int) 0 at_ (out.length : Int) (by omega) (by omega)
          -- what the piece is
          have key : (pieceP s (i : Int) 0 at_ (out.length : Int)).1.size ≤ 4 ∧ (0 ≤ (pieceP s (i : Int) 0 at_ (out.length : Int)).2.2.2 ∧ (pieceP s (i : Int) 0 at_ (out.length : Int)).2.2.2 ≤ s.size) ∧
              ((pieceP s (i : Int) 0 at_ (out.length : Int)).2.2.1 = 0 → (i : Int) < (pieceP s (i : Int) 0 at_ (out.length : Int)).2.1 ∧ (out.length + (pieceP s (i : Int) 0 at_ (out.length : Int)).1.size ≤ 256) ∧ Chr (bs (pieceP s (i : Int) 0 at_ (out.length : Int)).1)) := by
            unfold pieceP
            by_cases h92 : bt s (i : Int) = 92
            · rw [if_pos h92]
              simp only
              by_cases ha : (out.length : Int) = 256
              · rw [if_pos ha]
                exact ⟨Nat.le_of_ble_eq_true rfl, by simp [failP]; omega, by simp [failP]⟩
              · rw [if_neg ha]
                split
                · exact ⟨Nat.le_of_ble_eq_true rfl, hat, fun _ => ⟨by simp; omega, by show out.length + 1 ≤ 256; omega, chr_low (b := 10) (by decide)⟩⟩
                · split
                  · exact ⟨Nat.le_of_ble_eq_true rfl, hat, fun _ => ⟨by simp; omega, by show out.length + 1 ≤ 256; omega, chr_low (b := 34) (by decide)⟩⟩
                  · split
                    · exact ⟨Nat.le_of_ble_eq_true rfl, hat, fun _ => ⟨by simp; omega, by show out.length + 1 ≤ 256; omega, chr_low (b := 92) (by decide)⟩⟩
                    · exact ⟨Nat.le_of_ble_eq_true rfl, by simp [failP]; omega, by simp [failP]⟩
            · rw [if_neg h92]
              simp only [Int.toNat_natCast]
              have hne := drop_ne hlt
              have hfit := decodeL_fit _ hne
              have hpos := decodeL_pos ((bs s).drop i)
              rw [decode_bs] at hfit hpos
              simp only [List.length_drop, bs_len] at hfit
              have hex : bs (s.extract i (i + (Utf8.decode s i).2)) = ((bs s).drop i).take (Utf8.decode s i).2 := by rw [ext_bs, show i + (Utf8.decode s i).2 - i = (Utf8.decode s i).2 by omega]
              have hsz : (s.extract i (i + (Utf8.decode s i).2)).size = (Utf8.decode s i).2 := by rw [← bs_len, hex]; simp [bs_len]; omega
              have h4 : (Utf8.decode s i).2 ≤ 4 := by
                rw [Lib.decode_at]
                unfold Lib.decodeN
                repeat' split
                all_goals first | omega | (simp only; omega)
              refine ⟨by rw [hsz]; exact h4, ?_, ?_⟩
              · split
                · simp [failP]; omega
                · split
                  · simp [failP]; omega
                  · exact hat
              · intro hz
                split at hz
                · simp [failP] at hz
                · rename_i hok
                  split at hz
                  · simp [failP] at hz
                  · rename_i hok2
                    refine ⟨by omega, by rw [hsz]; omega, ?_⟩
                    rw [hex]
                    have := (chr_take hne (fun e => hok (.inr (by rw [decode_bs] at e; exact e)))).1
                    rwa [decode_bs] at this
          generalize hP : pieceP s (i : Int) 0 at_ (out.length : Int) = P at *
          obtain ⟨k1, k2, k3⟩ := key
          rw [if_pos (by omega)]
          by_cases hz : P.2.2.1 = 0
          · obtain ⟨g1, g2, g3⟩ := k3 hz
            rw [hz]
            obtain ⟨j, hj⟩ : ∃ j : Nat, P.2.1 = (j : Int) := ⟨P.2.1.toNat, by omega⟩
            rw [hj] at hple g1 ⊢
            obtain ⟨w, rfl, hw⟩ := hv
            refine ih _ j _ (by omega) (by rw [bytesOf_bs, List.length_append, numL_len, numL_len, bs_len]; rw [numL_len] at g2; omega) (by omega) ⟨w ++ bs P.1, by rw [bytesOf_bs, numL_app], hw.app ?_⟩ k2
            have := ValidL.cons _ _ g3 ValidL.nil
            simpa using this
          · cases f with
            | zero => omega
            | succ f =>
              simp only [valueL]
              rw [if_neg hz]
              exact ⟨_, rfl, k2, fun h => absurd h hz⟩
    · rw [if_neg (by omega)]
      exact ⟨_, rfl, by simp [failP]; omega, by simp [failP]⟩
theorem valueO_total (s : ByteArray) (m : Bool) (i : Nat) (at_ : Int) (hi : i ≤ s.size) (hat : 0 ≤ at_ ∧ at_ ≤ s.size) :
    ∃ r, valueO s (i : Int) m 0 at_ = some r ∧ (0 ≤ r.2.2.2 ∧ r.2.2.2 ≤ s.size) ∧ (r.2.2.1 = 0 → ValidL (bs r.1) ∧ r.1.size ≤ 256 ∧ (m = false → r.1.size ≠ 0)) := by
  unfold valueO takeP
  by_cases h : (i : Int) < s.size ∧ bt s (i : Int) = 34
  · rw [if_pos h]
    simp only [if_true]
    rw [show ((i : Int) + 1) = ((i + 1 : Nat) : Int) by omega]
    exact value_total s m (s.size + 2) [] (i + 1) at_ (by omega) (by simp) (by omega) ⟨[], rfl, .nil⟩ hat
  · rw [if_neg h]
    simp only [Bool.false_eq_true, if_false]
    exact ⟨_, rfl, by simp [failP]; omega, by simp [failP]⟩
/-! ### names -/
def NameL (l : List UInt8) : Prop := (∃ b t, l = b :: t ∧ letterB (b.toNat : Int) = true) ∧ l.length ≤ 64 ∧ ∀ b ∈ l, namedB (b.toNat : Int) = true
theorem namedFrom_iff (s : ByteArray) : ∀ (n i : Nat), i + n = s.size → (namedFrom s n (i : Int) = true ↔ ∀ b ∈ (bs s).drop i, namedB (b.toNat : Int) = true) := by
  intro n
  induction n with
  | zero =>
    intro i hi
    rw [List.drop_eq_nil_of_le (by rw [bs_len]; omega)]
    simp [namedFrom]
  | succ n ih =>
    intro i hi
    have hlt : i < s.size := by omega
    obtain ⟨x, t, h⟩ : ∃ x t, (bs s).drop i = x :: t := by
      cases h : (bs s).drop i with
      | nil => exact absurd h (drop_ne hlt)
      | cons x t => exact ⟨x, t, rfl⟩
    obtain ⟨_, p2, p3⟩ := drop_bt h
    have := ih (i + 1) (by omega)
    rw [p3] at this
    simp only [namedFrom]
    rw [h, p2, Bool.and_eq_true, show ((i : Int) + 1) = ((i + 1 : Nat) : Int) by omega, this]
    simp
theorem nameB_iff (n : ByteArray) : nameB n = true ↔ NameL (bs n) := by
  unfold nameB NameL
  rw [Bool.and_eq_true, Bool.and_eq_true, Bool.and_eq_true, decide_eq_true_iff, decide_eq_true_iff, bs_len]
  have hn := namedFrom_iff n n.size 0 (by omega)
  rw [List.drop_zero] at hn
  rw [show (0 : Int) = ((0 : Nat) : Int) from rfl, hn]
  constructor
  · rintro ⟨⟨⟨h1, h2⟩, h3⟩, h4⟩
    refine ⟨?_, h2, h4⟩
    cases h : bs n with
    | nil =>
      have h' : (bs n).length = 0 := by rw [h]; rfl
      rw [bs_len] at h'
      omega
    | cons b t =>
      obtain ⟨_, p2, _⟩ := drop_bt (s := n) (i := 0) (x := b) (t := t) (by simpa using h)
      rw [p2] at h3
      exact ⟨b, t, rfl, h3⟩
  · rintro ⟨⟨b, t, h, hl⟩, h2, h4⟩
    obtain ⟨p1, p2, _⟩ := drop_bt (s := n) (i := 0) (x := b) (t := t) (by simpa using h)
    exact ⟨⟨⟨by omega, h2⟩, by rw [p2]; exact hl⟩, h4⟩
theorem runN_read (s : ByteArray) (x : UInt8) (rest : List UInt8) (hx : namedB (x.toNat : Int) = false) : ∀ (l : List UInt8) (n i : Nat), (∀ b ∈ l, namedB (b.toNat : Int) = true) → (bs s).drop i = l ++ x :: rest → l.length ≤ n → runN s n (i : Int) = l.length := by
  intro l
  induction l with
  | nil =>
    intro n i _ h _
    cases n with
    | zero => rfl
    | succ n =>
      obtain ⟨_, p2, _⟩ := drop_bt (s := s) (i := i) (x := x) (t := rest) h
      simp only [runN]
      rw [if_neg (by rw [p2, hx]; simp)]
      rfl
  | cons b t ih =>
    intro n i hb h hn
    simp only [List.length_cons] at hn
    obtain ⟨n, rfl⟩ : ∃ k, n = k + 1 := ⟨n - 1, by omega⟩
    obtain ⟨p1, p2, p3⟩ := drop_bt (h.trans (List.cons_append ..))
    simp only [runN]
    rw [if_pos ⟨by omega, by rw [p2]; exact hb b (by simp)⟩, show ((i : Int) + 1) = ((i + 1 : Nat) : Int) by omega, ih n (i + 1) (fun c hc => hb c (by simp [hc])) p3 (by omega)]
    rfl
theorem name_read (s n : ByteArray) (x : UInt8) (rest : List UInt8) (hx : namedB (x.toNat : Int) = false) (hn : nameB n = true) (i : Nat) (h : (bs s).drop i = bs n ++ x :: rest) (at_ : Int) :
    nameP s (i : Int) 0 at_ = (n, ((i + n.size : Nat) : Int), 0, at_) := by
  obtain ⟨⟨b, t, hb, hlb⟩, h64, hall⟩ := (nameB_iff n).1 hn
  have hlen := bs_len n
  have h1 : 1 ≤ n.size := by rw [← hlen, hb]; simp
  have hi : (bs s).drop i = b :: (t ++ x :: rest) := by rw [h, hb]; rfl
  obtain ⟨p1, p2, _⟩ := drop_bt hi
  have hN : nameN s (i : Int) = n.size := by
    unfold nameN
    rw [if_pos ⟨by omega, by rw [p2]; exact hlb⟩, runN_read s x rest hx (bs n) 64 i hall h h64, hlen]
  obtain ⟨q1, q2, _⟩ := drop_bt (drop_app h)
  rw [hlen] at q1 q2
  unfold nameP
  simp only [hN]
  rw [show ((i : Int) + (n.size : Int)) = ((i + n.size : Nat) : Int) by omega, if_neg]
  · simp only [Int.toNat_natCast]
    congr 1
    refine bs_inj ?_
    have := ext_drop h
    rwa [hlen] at this
  · rintro (e | e)
    · omega
    · rw [q2, hx] at e
      cases e.2
theorem runN_all (s : ByteArray) : ∀ (n i : Nat), runN s n (i : Int) ≤ n ∧ ∀ b ∈ ((bs s).drop i).take (runN s n (i : Int)), namedB (b.toNat : Int) = true := by
  intro n
  induction n with
  | zero => intro i; simp [runN]
  | succ n ih =>
    intro i
    simp only [runN]
    split
    · rename_i h
      obtain ⟨h1, h2⟩ := ih (i + 1)
      rw [show ((i : Int) + 1) = ((i + 1 : Nat) : Int) by omega]
      refine ⟨by omega, ?_⟩
      have hlt : i < s.size := by omega
      cases hd : (bs s).drop i with
      | nil => exact absurd hd (drop_ne hlt)
      | cons x t =>
        obtain ⟨_, p2, p3⟩ := drop_bt hd
        rw [p3] at h2
        intro b hb
        rw [List.take_succ_cons] at hb
        rcases List.mem_cons.1 hb with rfl | hb
        · rw [← p2]; exact h.2
        · exact h2 b hb
    · simp
theorem nameG (s : ByteArray) (i : Nat) (hi : i ≤ s.size) (at_ : Int) (hat : 0 ≤ at_ ∧ at_ ≤ s.size) :
    (0 ≤ (nameP s (i : Int) 0 at_).2.2.2 ∧ (nameP s (i : Int) 0 at_).2.2.2 ≤ s.size) ∧ ((nameP s (i : Int) 0 at_).2.2.1 = 0 → nameB (nameP s (i : Int) 0 at_).1 = true) := by
  have hle : (i : Int) + (nameN s (i : Int) : Int) ≤ s.size := by
    unfold nameN
    split
    · exact runN_le s 64 i (by omega)
    · omega
  unfold nameP
  simp only
  split
  · refine ⟨by simp [failP]; omega, by simp [failP]⟩
  · rename_i hne
    refine ⟨hat, fun _ => ?_⟩
    rw [not_or] at hne
    have hN := hne.1
    rw [nameB_iff]
    unfold nameN at hN ⊢
    by_cases hc : (i : Int) < s.size ∧ letterB (bt s (i : Int)) = true
    · rw [if_pos hc] at hN ⊢
      obtain ⟨r1, r2⟩ := runN_all s 64 i
      have hx : bs (s.extract (i : Int).toNat ((i : Int) + (runN s 64 (i : Int) : Int)).toNat) = ((bs s).drop i).take (runN s 64 (i : Int)) := by
        rw [ext_bs, show (i : Int).toNat = i by omega, show ((i : Int) + (runN s 64 (i : Int) : Int)).toNat - i = runN s 64 (i : Int) by omega]
      rw [hx]
      refine ⟨?_, by simp; omega, r2⟩
      have hlt : i < s.size := by omega
      cases hd : (bs s).drop i with
      | nil => exact absurd hd (drop_ne hlt)
      | cons x t =>
        obtain ⟨_, p2, _⟩ := drop_bt hd
        obtain ⟨q, hq⟩ : ∃ q, runN s 64 (i : Int) = q + 1 := ⟨runN s 64 (i : Int) - 1, by omega⟩
        rw [hq, List.take_succ_cons]
        exact ⟨x, _, rfl, by rw [← p2]; exact hc.2⟩
    · rw [if_neg hc] at hN
      exact absurd rfl hN
end Go.Proofs.YtogegkfefpgbcaaDoor.PL
