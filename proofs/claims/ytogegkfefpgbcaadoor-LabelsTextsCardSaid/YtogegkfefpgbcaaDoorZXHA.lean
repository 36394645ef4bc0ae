/- labels.broken and labels.chars: ranges over a string. -/
import Derived.Test.YtogegkfefpgbcaaDoorZXPLx0
import Derived.Test.YtogegkfefpgbcaaDoorZXShelf
import Derived.Lib.OthersKept
import Derived.Lib.RuneCountTail
import Derived.Laws.RangeAny
import Derived.Lib.Hide
import Derived.WalkLawsBesides
import Derived.WalkSpells
import Derived.Outline
namespace Go.Proofs.YtogegkfefpgbcaaDoor.PL
open Go.RowKit Go.Proofs.YtogegkfefpgbcaaDoorW.PrintWords Go.Proofs.YtogegkfefpgbcaaDoorW.PrintLast Go.Proofs.YtogegkfefpgbcaaDoorW.PrintMore
set_option linter.unusedVariables false
set_option linter.unusedSimpArgs false

def tornAt (s : ByteArray) (pos : Nat) : Bool := decide ((Utf8.decode s pos).1 = 65533) && decide ((Utf8.decode s pos).2 = 1)
theorem width_pos (s : ByteArray) (pos : Nat) (h : pos < s.size) : 1 ≤ (Utf8.decode s pos).2 := by
  by_cases ha : (s[pos]'h).toNat < 128
  · rw [decode_ascii s pos h ha]
    exact Nat.le_refl _
  · exact (decode_high s pos h (by omega)).2
def brokenF (s : ByteArray) : Nat → Nat → Int
  | 0, _ => -1
  | f + 1, pos => if pos < s.size then (if tornAt s pos = true then (pos : Int) else brokenF s f (pos + (Utf8.decode s pos).2)) else -1
def labels_broken.f (a0 : ByteArray) : Option (Int) := some (brokenF a0 a0.size 0)

theorem brokenF_end (s : ByteArray) (f pos : Nat) (h : ¬ pos < s.size) : brokenF s f pos = -1 := by
  cases f with
  | zero => rfl
  | succ f => simp [brokenF, h]
theorem decodeGo_tail' (s : ByteArray) (pos : Nat) (h : pos < s.size) : Lib.decodeGo (s.extract pos s.size) = Utf8.decode s pos := by
  unfold Lib.decodeGo; rw [if_neg (by simp; omega), Lib.tail_decode]; rfl
theorem decode_tail (s : ByteArray) (pos : Nat) (h : pos < s.size) (c n : Nat) (hd : Utf8.decode s pos = (c, n)) (W : World) (hT : G W) :
    Calls Tryd.prog 88 #[.string (s.extract pos s.size)] W fun e w' => e = .returned (.tuple #[.int .i32 (c : Int), .int .i64 (n : Int)]) ∧ Below W.heap.size W w' := by
  have := Tryd.utf8_DecodeRuneInString (s.extract pos s.size) W hT; rw [decodeGo_tail' s pos h, hd] at this; exact this
theorem iterPos_at {W : World} {k : Nat} {s : ByteArray} {p : Nat} (h : W.heap[k]? = some (.stringIter s p)) : W.iterPos k = p := by simp [World.iterPos, h]
theorem iter_below {k : Nat} {W W' : World} {s : ByteArray} {p : Nat} (h : W.heap[k]? = some (.stringIter s p)) (hb : Below W.heap.size W W') : W'.heap[k]? = some (.stringIter s p) := by
  have hk : k < W.heap.size := by
    rcases Nat.lt_or_ge k W.heap.size with h' | h'
    · exact h'
    · rw [Array.getElem?_eq_none h'] at h
      cases h
  rw [hb.block k hk, h]
theorem iter_grown {k : Nat} {W W' : World} {s : ByteArray} {p : Nat} {row : Option Nat} (h : W.heap[k]? = some (.stringIter s p)) (hg : W.grownBy W' row) (hr : ∀ j, row = some j → j ≠ k) : W'.heap[k]? = some (.stringIter s p) := by
  have hk : k < W.heap.size := by
    rcases Nat.lt_or_ge k W.heap.size with h' | h'
    · exact h'
    · rw [Array.getElem?_eq_none h'] at h
      cases h
  rw [hg.block k hk (fun e => hr k e.symm rfl), h]
theorem ret_int {k : IntKind} {a b : Int} (h : a = b) : Ending.returned (.int k a) = .returned (.int k b) := by rw [h]

set_option maxHeartbeats 1000000 in
set_option maxRecDepth 100000 in
theorem labels_broken.calls (a0 : ByteArray) (r : Int) (w : World) (hG : G w) (h : labels_broken.f a0 = some r) :
    Calls Tryd.prog 56 #[.string a0] w fun e w' => e = .returned (.int .i64 r) ∧ Below w.heap.size w w' := by
  obtain rfl := Option.some.inj h; clear h; obtain ⟨R, hR⟩ : ∃ R, brokenF a0 a0.size 0 = R := ⟨_, rfl⟩; have HR := Lib.hid hR; rw [hR]; clear hR; have HG := Lib.hid hG; clear hG; go_enter Tryd.func56, Tryd.ntmps56; go_wp2; go_loopw [2] (fun v wr => ∃ pos f : Nat, v = .int .i64 0 ∧ Hid (wr.heap[w.heap.size]? = some (.stringIter a0 pos)) ∧ Hid (Below w.heap.size w wr) ∧ Hid (brokenF a0 f pos = R) ∧ a0.size ≤ pos + f) (fun _ wr => a0.size - wr.iterPos w.heap.size)
  case atStart => exact ⟨0, a0.size, rfl, Lib.hid (World.iter_heap w a0 0), Lib.hid ((Below.refl _ _).alloc (Nat.le_refl _) _), HR, by omega⟩
  case round =>
    obtain ⟨pos, f, rfl, hit, hb, hf, hle⟩ := hrel; by_cases hp : pos < a0.size
    · have hnx : ∀ ty, (Instr.next (.pointer (some ⟨w.heap.size, 0, none⟩)) true ty).run Tryd.prog wr = _ := fun ty => Lib.run_next_any_at wr w.heap.size a0 pos ty hit.out hp
      have hW := width_pos a0 pos hp; obtain ⟨f, rfl⟩ : ∃ f', f = f' + 1 := ⟨f - 1, by omega⟩; have HF : Hid (if tornAt a0 pos = true then (pos : Int) = R else brokenF a0 f (pos + (Utf8.decode a0 pos).2) = R) := Lib.hid (by have := hf.out; simp only [brokenF, if_pos hp] at this; split <;> simp_all); have HX : Hid (tornAt a0 pos = (decide ((Utf8.decode a0 pos).1 = 65533) && decide ((Utf8.decode a0 pos).2 = 1))) := Lib.hid rfl; clear hf; obtain ⟨⟨c, n⟩, hd⟩ : ∃ d, Utf8.decode a0 pos = d := ⟨_, rfl⟩; rw [hd] at hnx hW HF HX; have HD := Lib.hid hd; clear hd; dsimp only at hnx hW HF HX; have hit2 := Lib.hid (Lib.iterAt_heap wr w.heap.size a0 pos (pos + n) hit.out); have hb2 := Lib.hid (Lib.below_iterAt hb.out (Nat.le_refl _) a0 (pos + n)); have hG2 := Lib.hid (G.below HG.out hb2.out); have hs2 := Lib.iterAt_size wr w.heap.size a0 (pos + n); have hlt : Hid (w.heap.size < wr.heap.size) := Lib.hid (by have := hit.out; rcases Nat.lt_or_ge w.heap.size wr.heap.size with h | h; exact h; rw [Array.getElem?_eq_none h] at this; cases this); obtain ⟨W2, hW2⟩ : ∃ W2, wr.iterAt w.heap.size a0 (pos + n) = W2 := ⟨_, rfl⟩; rw [hW2] at hnx hit2 hb2 hG2 hs2; clear hW2; have hs3 := Lib.hid hs2; clear hs2; have hz1 : (0 : Int) ≤ (pos : Int) := by omega
      have hz2 : (pos : Int) ≤ (a0.size : Int) := by omega
      by_cases hc : c = 65533
      · subst hc
        by_cases hn : n = 1
        · subst hn
          go_wp2_with (first | (go_at_call 88; (with_reducible refine (decode_tail a0 pos hp 65533 1 HD.out _ hG2.out).mono ?_); rintro e w' ⟨rfl, hb3⟩; have hb4 := Lib.hid hb3; clear hb3))
          go_ret
          exact ⟨ret_int (by have := HF.out; rw [HX.out] at this; simpa using this), below_step hb2.out hb4.out⟩
        · have hn1 : ((n : Int) == 1) = false := by simpa using (by omega : ¬ (n : Int) = 1)
          go_wp2_with (first | (go_at_call 88; (with_reducible refine (decode_tail a0 pos hp 65533 n HD.out _ hG2.out).mono ?_); rintro e w' ⟨rfl, hb3⟩; have hb4 := Lib.hid hb3; clear hb3))
          have hn2 : tornAt a0 pos = false := by rw [HX.out]; simp [hn]
          go_roundw
          case rel => exact ⟨pos + n, f, rfl, Lib.hid (iter_below hit2.out hb4.out), Lib.hid (below_step hb2.out hb4.out), Lib.hid (by have := HF.out; rw [if_neg (by simp [hn2])] at this; exact this), by omega⟩
          case measure => rw [iterPos_at (iter_below hit2.out hb4.out), iterPos_at hit.out]; omega
      · have hc1 : ((c : Int) != 65533) = true := by simpa using (by omega : ¬ (c : Int) = 65533)
        go_wp2; have hn2 : tornAt a0 pos = false := by rw [HX.out]; simp [hc]
        go_roundw
        case rel => exact ⟨pos + n, f, rfl, hit2, hb2, Lib.hid (by have := HF.out; rw [if_neg (by simp [hn2])] at this; exact this), by omega⟩
        case measure => rw [iterPos_at hit2.out, iterPos_at hit.out]; omega
    · have hnx : ∀ ty, (Instr.next (.pointer (some ⟨w.heap.size, 0, none⟩)) true ty).run Tryd.prog wr = _ := fun ty => Lib.run_next_end_at wr w.heap.size a0 pos ty hit.out hp
      go_wp2; go_ret
      exact ⟨ret_int (by rw [← hf.out, brokenF_end a0 f pos hp]), hb.out⟩

def charsF (s : ByteArray) : Nat → Nat → List Int → Option (List Int)
  | 0, _, acc => some acc
  | f + 1, pos, acc => if pos < s.size then (if acc.length < 35184372088832 then charsF s f (pos + (Utf8.decode s pos).2) (acc ++ [if tornAt s pos = true then -1 else ((Utf8.decode s pos).1 : Int)]) else none) else some acc
def labels_chars.f (a0 : ByteArray) : Option (List Int) := charsF a0 a0.size 0 []
theorem charsF_end (s : ByteArray) (f pos : Nat) (acc : List Int) (h : ¬ pos < s.size) : charsF s f pos acc = some acc := by
  cases f with
  | zero => rfl
  | succ f => simp [charsF, h]

set_option maxHeartbeats 1000000 in
set_option maxRecDepth 100000 in
theorem labels_chars.calls (a0 : ByteArray) (r : List Int) (w : World) (hG : G w) (h : labels_chars.f a0 = some r) :
    Calls Tryd.prog 58 #[.string a0] w fun e w' => ∃ v0_ : Value, e = .returned (v0_) ∧ Kd.R (Kd.int .i32) 21 w' w.heap.size (fun _ => True) v0_ r ∧ Below w.heap.size w w' := by
  have HR : Hid (charsF a0 a0.size 0 [] = some r) := Lib.hid h; clear h; have HG := Lib.hid hG; clear hG; go_enter Tryd.func58, Tryd.ntmps58; go_wp2; go_loopw [3] (fun v wr => ∃ (pos f : Nat) (acc : List Int), Hid (Kd.R (Kd.int .i32) 21 wr w.heap.size (fun k => k ≠ w.heap.size) v acc) ∧ Hid (wr.heap[w.heap.size]? = some (.stringIter a0 pos)) ∧ Hid (Below w.heap.size w wr) ∧ Hid (charsF a0 f pos acc = some r) ∧ a0.size ≤ pos + f) (fun _ wr => a0.size - wr.iterPos w.heap.size)
  case atStart => exact ⟨0, a0.size, [], Lib.hid (Kd.R_nil _ _ _ _ _), Lib.hid (World.iter_heap w a0 0), Lib.hid ((Below.refl _ _).alloc (Nat.le_refl _) _), HR, by omega⟩
  case round =>
    obtain ⟨pos, f, acc, hO, hit, hb, hf, hle⟩ := hrel; by_cases hp : pos < a0.size
    · have hnx : ∀ ty, (Instr.next (.pointer (some ⟨w.heap.size, 0, none⟩)) true ty).run Tryd.prog wr = _ := fun ty => Lib.run_next_any_at wr w.heap.size a0 pos ty hit.out hp
      have hW := width_pos a0 pos hp; obtain ⟨f, rfl⟩ : ∃ f', f = f' + 1 := ⟨f - 1, by omega⟩
      have hL : acc.length < 35184372088832 := by
        have := hf.out; simp only [charsF, if_pos hp] at this; split at this
        · assumption
        · cases this
      have HF : Hid (charsF a0 f (pos + (Utf8.decode a0 pos).2) (acc ++ [if tornAt a0 pos = true then -1 else ((Utf8.decode a0 pos).1 : Int)]) = some r) := Lib.hid (by have := hf.out; simp only [charsF, if_pos hp, if_pos hL] at this; exact this); have HX : Hid (tornAt a0 pos = (decide ((Utf8.decode a0 pos).1 = 65533) && decide ((Utf8.decode a0 pos).2 = 1))) := Lib.hid rfl; clear hf; obtain ⟨⟨c, n⟩, hd⟩ : ∃ d, Utf8.decode a0 pos = d := ⟨_, rfl⟩; rw [hd] at hnx hW HF HX; have HD := Lib.hid hd; clear hd; dsimp only at hnx hW HF HX; have hit2 := Lib.hid (Lib.iterAt_heap wr w.heap.size a0 pos (pos + n) hit.out); have hb2 := Lib.hid (Lib.below_iterAt hb.out (Nat.le_refl _) a0 (pos + n)); have hG2 := Lib.hid (G.below HG.out hb2.out); have hs2 := Lib.iterAt_size wr w.heap.size a0 (pos + n); have hO2 := Lib.hid (Kd.R_step hO.out (fun k hk _ => Lib.iterAt_other wr w.heap.size k a0 (pos + n) hk)); have hlt : Hid (w.heap.size < wr.heap.size) := Lib.hid (by have := hit.out; rcases Nat.lt_or_ge w.heap.size wr.heap.size with h | h; exact h; rw [Array.getElem?_eq_none h] at this; cases this); obtain ⟨W2, hW2⟩ : ∃ W2, wr.iterAt w.heap.size a0 (pos + n) = W2 := ⟨_, rfl⟩; rw [hW2] at hnx hit2 hb2 hG2 hs2 hO2; clear hW2; have hs3 : Hid (w.heap.size < W2.heap.size) := Lib.hid (by have := hlt.out; omega); clear hs2; have hz1 : (0 : Int) ≤ (pos : Int) := by omega
      have hz2 : (pos : Int) ≤ (a0.size : Int) := by omega
      by_cases hc : c = 65533
      · subst hc
        by_cases hn : n = 1
        · subst hn
          go_wp2_with (first | (go_at_call 88; (with_reducible refine (decode_tail a0 pos hp 65533 1 HD.out _ hG2.out).mono ?_); rintro e w' ⟨rfl, hb3⟩; have hb4 := Lib.hid hb3; clear hb3; have hO3 := Lib.hid (Kd.R_below hO2.out hb4.out); have hb5 := Lib.hid (below_step hb2.out hb4.out); have hs4 : Hid (w.heap.size < w'.heap.size) := Lib.hid (Nat.lt_of_lt_of_le hs3.out hb4.out.size); have hit3 := Lib.hid (iter_below hit2.out hb4.out)) | ((with_reducible refine gate_builtin (b := .append) (xs := #[.tmp 25, .tmp 27]) rfl ?_); (try (refine gate_guard (by rfl) ?_; dsimp only)); at_builtin; refine Kd.R_append (Kd.int .i32) (w0 := w) w.heap.size rfl (.tmp 25) (.tmp 27) 77 21 (.int .i32 0) 4 rfl Tryd.underlying77 info21 rfl (by decide) (by omega) u3 acc (-1) [.int .i32 (-1)] (fun k => k ≠ w.heap.size) (fun _ => False) rfl rfl ?aP (fun _ hk => hk.elim) ?aF ?aO ?aB ?aS ?aL ?_; (case aP => exact rfl); (case aB => exact hb5.out); (case aF => intro k_ hk; have := hs4.out; omega); (case aO => exact hO3.out); (case aS => have := hs4.out; omega); (case aL => omega); intro v1 w1 ho hb7 hg hat; have ho1 := Lib.hid ho; have hb6 := Lib.hid hb7; have hg1 := Lib.hid hg; clear ho hb7 hg hat))
          have hn2 : tornAt a0 pos = true := by rw [HX.out]; simp []
          go_roundw
          case rel => exact ⟨pos + 1, f, acc ++ [(-1)], ho1, Lib.hid (iter_grown hit3.out hg1.out hO3.out.1), hb6, Lib.hid (by have := HF.out; simp only [hn2] at this; simpa using this), by omega⟩
          case measure => rw [iterPos_at (iter_grown hit3.out hg1.out hO3.out.1), iterPos_at hit.out]; omega
        · have hn1 : ((n : Int) == 1) = false := by simpa using (by omega : ¬ (n : Int) = 1)
          go_wp2_with (first | (go_at_call 88; (with_reducible refine (decode_tail a0 pos hp 65533 n HD.out _ hG2.out).mono ?_); rintro e w' ⟨rfl, hb3⟩; have hb4 := Lib.hid hb3; clear hb3; have hO3 := Lib.hid (Kd.R_below hO2.out hb4.out); have hb5 := Lib.hid (below_step hb2.out hb4.out); have hs4 : Hid (w.heap.size < w'.heap.size) := Lib.hid (Nat.lt_of_lt_of_le hs3.out hb4.out.size); have hit3 := Lib.hid (iter_below hit2.out hb4.out)) | ((with_reducible refine gate_builtin (b := .append) (xs := #[.tmp 25, .tmp 27]) rfl ?_); (try (refine gate_guard (by rfl) ?_; dsimp only)); at_builtin; refine Kd.R_append (Kd.int .i32) (w0 := w) w.heap.size rfl (.tmp 25) (.tmp 27) 77 21 (.int .i32 0) 4 rfl Tryd.underlying77 info21 rfl (by decide) (by omega) u3 acc 65533 [.int .i32 65533] (fun k => k ≠ w.heap.size) (fun _ => False) rfl rfl ?aP (fun _ hk => hk.elim) ?aF ?aO ?aB ?aS ?aL ?_; (case aP => exact rfl); (case aB => exact hb5.out); (case aF => intro k_ hk; have := hs4.out; omega); (case aO => exact hO3.out); (case aS => have := hs4.out; omega); (case aL => omega); intro v1 w1 ho hb7 hg hat; have ho1 := Lib.hid ho; have hb6 := Lib.hid hb7; have hg1 := Lib.hid hg; clear ho hb7 hg hat))
          have hn2 : tornAt a0 pos = false := by rw [HX.out]; simp [hn]
          go_roundw
          case rel => exact ⟨pos + n, f, acc ++ [65533], ho1, Lib.hid (iter_grown hit3.out hg1.out hO3.out.1), hb6, Lib.hid (by have := HF.out; simp only [hn2] at this; simpa using this), by omega⟩
          case measure => rw [iterPos_at (iter_grown hit3.out hg1.out hO3.out.1), iterPos_at hit.out]; omega
      · have hc1 : ((c : Int) == 65533) = false := by simpa using (by omega : ¬ (c : Int) = 65533)
        go_wp2_with (first | ((with_reducible refine gate_builtin (b := .append) (xs := #[.tmp 25, .tmp 27]) rfl ?_); (try (refine gate_guard (by rfl) ?_; dsimp only)); at_builtin; refine Kd.R_append (Kd.int .i32) (w0 := w) w.heap.size rfl (.tmp 25) (.tmp 27) 77 21 (.int .i32 0) 4 rfl Tryd.underlying77 info21 rfl (by decide) (by omega) u3 acc (c : Int) [.int .i32 (c : Int)] (fun k => k ≠ w.heap.size) (fun _ => False) rfl rfl ?aP (fun _ hk => hk.elim) ?aF ?aO ?aB ?aS ?aL ?_; (case aP => exact rfl); (case aB => exact hb2.out); (case aF => intro k_ hk; have := hs3.out; omega); (case aO => exact hO2.out); (case aS => have := hs3.out; omega); (case aL => omega); intro v1 w1 ho hb5 hg hat; have ho1 := Lib.hid ho; have hb6 := Lib.hid hb5; have hg1 := Lib.hid hg; clear ho hb5 hg hat))
        have hn2 : tornAt a0 pos = false := by rw [HX.out]; simp [hc]
        go_roundw
        case rel => exact ⟨pos + n, f, acc ++ [(c : Int)], ho1, Lib.hid (iter_grown hit2.out hg1.out hO2.out.1), hb6, Lib.hid (by have := HF.out; rw [if_neg (by simp [hn2])] at this; exact this), by omega⟩
        case measure => rw [iterPos_at (iter_grown hit2.out hg1.out hO2.out.1), iterPos_at hit.out]; omega
    · have hnx : ∀ ty, (Instr.next (.pointer (some ⟨w.heap.size, 0, none⟩)) true ty).run Tryd.prog wr = _ := fun ty => Lib.run_next_end_at wr w.heap.size a0 pos ty hit.out hp
      go_wp2; go_ret
      refine ⟨_, rfl, ?_, hb.out⟩; have := hf.out; rw [charsF_end a0 f pos acc hp] at this; obtain rfl := Option.some.inj this; exact Kd.R_mono hO.out (fun _ _ => trivial)
end Go.Proofs.YtogegkfefpgbcaaDoor.PL
