/- All: the words of a quota, as a new list. -/
import Derived.Test.YtigacfgoldnoiaaDoorB5
namespace Go.Proofs.YtigacfgoldnoiaaDoor
open Go.RowKit
set_option linter.unusedVariables false
set_option linter.unusedSimpArgs false
attribute [local go_sem] World.cell?_alloc_old World.frozen?_alloc_old

theorem Moves.grown {S : List Nat} {a w w' : World} {row : Option Nat} (h : Moves S a w) (hg : w.grownBy w' row) (hr : ∀ k, row = some k → k ∈ S ∨ a.heap.size ≤ k) : Moves S a w' :=
  ⟨hg.os.trans h.os, hg.tape.trans h.tape, hg.output.trans h.output, Nat.le_trans h.size hg.size, fun k hk hn =>
    (hg.block k (Nat.lt_of_lt_of_le hk h.size) (fun e => by rcases hr k e.symm with h1 | h1; exact hn h1; omega)).trans (h.block k hk hn)⟩
theorem own_block {w : World} {base e size n : Nat} {v : Value} {xs : List Value} (h : w.ownsRow base e size v n xs) : ∀ k, v.ownBlock = some k → base ≤ k ∧ k < w.heap.size := by
  intro k hk
  rcases h.2 with ⟨rfl, _⟩ | ⟨g, cap, cur, rfl, hb, hh, _⟩
  · simp [Value.ownBlock] at hk
  · simp only [Value.ownBlock, Option.some.injEq] at hk
    subst hk
    refine ⟨hb, ?_⟩
    rcases Nat.lt_or_ge g w.heap.size with h1 | h1
    · exact h1
    · rw [Array.getElem?_eq_none h1] at hh; cases hh
theorem own_moves {S : List Nat} {a w : World} {base e size n : Nat} {v : Value} {xs : List Value} (h : a.ownsRow base e size v n xs) (hm : Moves S a w) (hS : ∀ k, v.ownBlock = some k → k ∉ S) : w.ownsRow base e size v n xs := by
  refine ⟨h.1, ?_⟩
  rcases h.2 with h0 | ⟨g, cap, cur, rfl, hb, hh, hr⟩
  · exact .inl h0
  · exact .inr ⟨g, cap, cur, rfl, hb, hm.has (g := g) hh (hS g rfl), hr⟩

/-- Words, as values. -/
def wvs (l : List Nat) : List Value := l.map fun x : Nat => Value.int .u64 (x : Int)
theorem wvs_take (l : List Nat) (k x : Nat) (h : l[k]? = some x) : wvs (l.take k) ++ [.int .u64 x] = wvs (l.take (k + 1)) := by
  have hk : k < l.length := by obtain ⟨h1, _⟩ := List.getElem?_eq_some_iff.1 h; exact h1
  rw [List.take_succ_eq_append_getElem hk]
  simp [wvs, (List.getElem?_eq_some_iff.1 h).2]

theorem clen_any (bc bw n : Nat) (w : World) (hc : w.cell? ⟨bc, 0, none⟩ = some (.slice (some ⟨bw, 0, none⟩) n n)) :
    Calls Tryd.prog 48 #[.pointer (some ⟨bc, 0, none⟩)] w fun e w' => e = .returned (.int .i64 n) ∧ w = w' := by
  go_enter Tryd.func48, Tryd.ntmps48
  go_wp2
  go_ret
  exact ⟨rfl, rfl⟩

theorem info39 : (Tryd.prog.info? 39).map (fun i => (i.zero, i.size, i.bytes)) = some (some (.int .u64 0), 1, 8) := by kernel_rfl

set_option maxHeartbeats 1000000 in
set_option maxRecDepth 100000 in
theorem call_any (bc bw n : Nat) (l : List Nat) (w : World) (hc : Has w bc 87 #[.slice (some ⟨bw, 0, none⟩) n n]) (hw : Has w bw 99 (wds l)) (hl : l.length = n) (hn : n ≤ 65) :
    Calls Tryd.prog 36 #[.pointer (some ⟨bc, 0, none⟩)] w fun e w' => ∃ v, e = .returned v ∧ w'.ownsRow w.heap.size 39 1 v n (wvs l) ∧ Moves [] w w' := by
  obtain ⟨i0, hi, hz0, hz1, hz2⟩ := info_parts info39
  have hc0 := hc.cell 0
  have HL := Lib.hid hl
  clear hl
  go_enter Tryd.func36, Tryd.ntmps36
  go_wp2_with (go_at_call 48; refine (clen_any bc bw n _ hc0).mono ?_; rintro e w' ⟨rfl, rfl⟩)
  go_loopw [3, 7] (fun v i wr => ∃ k : Nat, k ≤ n ∧ i = .int .i64 k ∧ wr.ownsRow w.heap.size 39 1 v k (wvs (l.take k)) ∧ Moves [] w wr) (fun _ i _ => n - (intOf i).toNat)
  case atStart => exact ⟨0, Nat.zero_le _, rfl, ⟨by simp [wvs], .inl ⟨rfl, rfl⟩⟩, Moves.refl _ _⟩
  case round =>
    rename_i v0 i0' wr
    obtain ⟨k, hk, rfl, hown, hm⟩ := hrel
    have hcr := (hm.has hc (by simp)).cell 0
    by_cases hlt : k < n
    · obtain ⟨x, hx⟩ : ∃ x, l[k]? = some x := ⟨_, getD_of (by have := HL.out; omega)⟩
      have hwx : wr.cell? ⟨bw, k, none⟩ = some (.int .u64 (x : Int)) := ((hm.has hw (by simp)).cell k).trans (by simp only [wds, List.getElem?_toArray, List.getElem?_map, hx, Option.map_some])
      have HX := Lib.hid hx
      have hsz := hm.size
      clear hx
      go_wp2_with (first | (go_at_call 49; refine (load_any bw k _ _ hwx).mono ?_; rintro e w' ⟨rfl, rfl⟩) | (at_builtin; go_must (refine wpList_append_own _ rfl _ _ 42 rfl w.heap.size 39 i0 (.int .u64 0) 1 8 Tryd.underlying42 hi hz0 hz1 hz2 rfl (by decide) _ _ _ rfl (hown.alloc _) ⟨wr.heap.size, 0, none⟩ 1 1 [.int .u64 (x : Int)] rfl rfl (cell_one_new _ _ _) (by simp [Value.oneCell']) (by unfold maxLen; omega) (by omega) (by simp only [World.size_alloc]; omega) ?_; intro v2 w2 hown2 hgrow2 _; (have hm2 := (hm.alloc (.cells #[.int .u64 (x : Int)] 39)).grown hgrow2 (fun g hg => .inr (own_block hown g hg).1)); (have hown3 := wvs_take l k x HX.out ▸ hown2); clear hown2 hgrow2)))
      go_roundw
      case rel => exact ⟨k + 1, by omega, by go_num, hown3, hm2⟩
      case measure => simp [intOf]; omega
    · obtain rfl : k = n := by omega
      rw [List.take_of_length_le (by rw [HL.out]; exact Nat.le_refl _)] at hown
      go_wp2
      go_ret
      exact ⟨_, rfl, hown, hm⟩

theorem all_any (bq bc bw batch n : Nat) (l : List Nat) (w : World) (hQ : Quo w bq bc bw batch n l) (hn : n ≤ 64) :
    Calls Tryd.prog 22 #[.pointer (some ⟨bq, 0, none⟩)] w fun e w' => ∃ v, e = .returned v ∧ w'.ownsRow w.heap.size 39 1 v (n + 1) (wvs l) ∧ Moves [] w w' := by
  have hq0 := hQ.q.cell 0
  have hc := Lib.hid (call_any bc bw (n + 1) l w hQ.c hQ.m hQ.len (by omega))
  go_enter Tryd.func22, Tryd.ntmps22
  go_wp2_with (go_at_call 36; go_must (refine (hc.out).mono ?_; rintro e w1 ⟨v, rfl, hown, hm⟩))
  go_ret
  exact ⟨_, rfl, hown, hm⟩
theorem all_nil (w : World) : Calls Tryd.prog 22 #[.pointer none] w fun e w' => e = .returned (.slice none 0 0) ∧ w = w' := by
  go_enter Tryd.func22, Tryd.ntmps22
  go_wp2
  go_ret
  exact ⟨rfl, rfl⟩
end Go.Proofs.YtigacfgoldnoiaaDoor
