/- The document's own cells: Copy and one action. -/
import Derived.Test.YtigacfgoldnoiaaDoorG4
namespace Go.Proofs.YtigacfgoldnoiaaDoor
open Go Go.RowKit
set_option linter.unusedVariables false
set_option linter.unusedSimpArgs false
attribute [local go_sem] World.cell?_alloc_old World.frozen?_alloc_old

set_option maxHeartbeats 1000000 in
set_option maxRecDepth 100000 in
theorem copy_any (v : Value) (l : List Nat) (w : World) (h : Rds w v l) (hb : l.length ≤ 65) :
    Calls Tryd.prog 47 #[v] w fun e w' => ∃ v', e = .returned v' ∧ w'.ownsRow w.heap.size 39 1 v' l.length (wvs l) ∧ Moves [] w w' := by
  obtain ⟨g, cap, rfl, hc, hg, hcell⟩ := h
  obtain ⟨i0, hi, hz0, hz1, hz2⟩ := info_parts info39
  obtain ⟨n, hn⟩ : ∃ n, n = l.length := ⟨_, rfl⟩
  rw [← hn] at hc hb ⊢
  have HN := Lib.hid hn
  have HC := Lib.hid hcell
  clear hn hcell
  go_enter Tryd.func47, Tryd.ntmps47
  go_wp2_with fail
  go_loopw [3, 4] (fun v i wr => ∃ k : Nat, k ≤ n ∧ i = .int .i64 k ∧ wr.ownsRow w.heap.size 39 1 v k (wvs (l.take k)) ∧ Moves [] w wr) (fun _ i _ => n - (intOf i).toNat)
  case atStart => exact ⟨0, Nat.zero_le _, rfl, ⟨by simp [wvs], .inl ⟨rfl, rfl⟩⟩, Moves.refl _ _⟩
  case round =>
    obtain ⟨k, hk, rfl, hown, hm⟩ := hrel
    by_cases hlt : k < n
    · obtain ⟨x, hx⟩ : ∃ x, l[k]? = some x := ⟨_, getD_of (by have := HN.out; omega)⟩
      have cx : wr.cell? ⟨g, k, none⟩ = some (.int .u64 (x : Int)) := by rw [cell_kept hm (by simp) hg]; exact HC.out k x hx
      have HX := Lib.hid hx
      have hsz := hm.size
      clear hx
      go_wp2_with (at_builtin; go_must (refine wpList_append_own _ rfl _ _ 42 rfl w.heap.size 39 i0 (.int .u64 0) 1 8 Tryd.underlying42 hi hz0 hz1 hz2 rfl (by decide) _ _ _ rfl (hown.alloc _) ⟨wr.heap.size, 0, none⟩ 1 1 [.int .u64 (x : Int)] rfl rfl (cell_one_new _ _ _) (by simp [Value.oneCell']) (by unfold maxLen; omega) (by omega) (by simp only [World.size_alloc]; omega) ?_; intro v2 w2 hown2 hgrow2 _; (have hm2 := (hm.alloc (.cells #[.int .u64 (x : Int)] 39)).grown hgrow2 (fun g hg => .inr (own_block hown g hg).1)); (have hown3 := wvs_take l k x HX.out ▸ hown2); clear hown2 hgrow2))
      go_roundw
      case rel => exact ⟨k + 1, by omega, by go_num, hown3, hm2⟩
      case measure => simp [intOf]; omega
    · obtain rfl : k = n := by omega
      rw [List.take_of_length_le (by rw [← HN.out]; exact Nat.le_refl _)] at hown
      go_wp2_with fail
      go_ret
      exact ⟨_, rfl, hown, hm⟩

theorem own_put {w : World} {base n : Nat} {v : Value} {l : List Nat} (h : w.ownsRow base 39 1 v n (wvs l)) (hl : l.length = n) (g cap i x : Nat) (hv : v = .slice (some ⟨g, 0, none⟩) n cap) (hi : i < n) :
    (w.setCell ⟨g, i, none⟩ (.int .u64 (x : Int))).ownsRow base 39 1 v n (wvs (l.set i x)) := by
  refine ⟨by simp [wvs, hl], ?_⟩
  rcases h.2 with ⟨h1, h0⟩ | ⟨g', cap', cur, h1, hb, hh, hnc, hcm, hs, ht⟩
  · omega
  · rw [hv] at h1
    simp only [Value.slice.injEq, Option.some.injEq, Addr.mk.injEq, and_true, true_and] at h1
    obtain ⟨rfl, rfl⟩ := h1
    refine .inr ⟨g, cap, cur.setIfInBounds i (.int .u64 (x : Int)), hv, hb, Has.put (g := g) hh i _, hnc, hcm, by simpa using hs, ?_⟩
    rw [Array.toList_setIfInBounds, List.take_set, ht]
    simp [wvs, List.map_set]

theorem own_far {w : World} {base e size n g cap : Nat} {xs : List Value} {p : Addr} {u : Value} (h : w.ownsRow base e size (.slice (some ⟨g, 0, none⟩) n cap) n xs) (hp : p.block ≠ g) : (w.setCell p u).ownsRow base e size (.slice (some ⟨g, 0, none⟩) n cap) n xs :=
  own_moves h ((Moves.refl [p.block] w).setOld (p := p) (by simp) u) (fun k hk => by cases hk; simpa using Ne.symm hp)
theorem own_drew {w : World} {base e size n : Nat} {v : Value} {xs : List Value} (h : w.ownsRow base e size v n xs) : w.drew.ownsRow base e size v n xs := h
theorem own_base {w : World} {base base' e size n : Nat} {v : Value} {xs : List Value} (h : w.ownsRow base e size v n xs) (hb : base' ≤ base) : w.ownsRow base' e size v n xs := by
  refine ⟨h.1, ?_⟩
  rcases h.2 with h0 | ⟨g, cap, cur, hv, hg, hr⟩
  · exact .inl h0
  · exact .inr ⟨g, cap, cur, hv, Nat.le_trans hb hg, hr⟩
theorem own_frozen {w : World} {base e size n g cap : Nat} {xs : List Value} (h : w.ownsRow base e size (.slice (some ⟨g, 0, none⟩) n cap) n xs) (i : Nat) : w.frozen? ⟨g, i, none⟩ = false := by
  rcases h.2 with ⟨h1, _⟩ | ⟨g', cap', cur, h1, _, hh, _⟩
  · cases h1
  · simp only [Value.slice.injEq, Option.some.injEq, Addr.mk.injEq, and_true, true_and] at h1
    obtain ⟨rfl, _⟩ := h1
    exact Has.frozen (g := g) hh i

/-- What an action of the document's comes to. -/
def ActIs (l : List Nat) (kind i old y put : Nat) (ok : Bool) : Prop :=
  ∀ (W : World) (v : Value), Rds W v l → Calls Tryd.prog 35 #[v, .int .u8 kind, .int .i64 i, .int .u64 old, .int .u64 y] W fun e w' =>
    ∃ v', e = .returned (.tuple #[v', did kind i (l.getD i 0) put ok]) ∧ w'.ownsRow W.heap.size 39 1 v' l.length (wvs (l.set i put)) ∧ Moves [] W w'

set_option maxHeartbeats 1000000 in
set_option maxRecDepth 100000 in
theorem act_load (l : List Nat) (i x : Nat)  (hx : l[i]? = some x) (hb : l.length ≤ 65) (W : World) (v : Value) (hR : Rds W v l) :
    Calls Tryd.prog 35 #[v, .int .u8 1, .int .i64 i, .int .u64 0, .int .u64 0] W fun e w' =>
      ∃ v', e = .returned (.tuple #[v', did 1 i x (x) true]) ∧ w'.ownsRow W.heap.size 39 1 v' l.length (wvs (l.set i (x))) ∧ Moves [] W w' := by
  have hcp0 := fun W' (hm : Moves [] W W') => copy_any v l W' (hR.moves hm (fun _ _ => by simp)) hb
  have hi : i < l.length := (List.getElem?_eq_some_iff.1 hx).1
  have hR0 := hR
  obtain ⟨g, cap, rfl, hc, hg, hcell⟩ := hR
  have cx : W.cell? ⟨g, i, none⟩ = some (.int .u64 (x : Int)) := hcell i _ hx
  have HX := Lib.hid hx
  have HCP := Lib.hid hcp0
  have ng : ¬ g = W.heap.size := by omega
  have ng1 : ¬ g = W.heap.size + 1 := by omega
  have ng2 : ¬ W.heap.size + 1 = W.heap.size := by omega
  have ng3 : ¬ W.heap.size = W.heap.size + 1 := by omega
  have hii : (i : Int) < (l.length : Int) := by omega
  obtain ⟨n, hn⟩ : ∃ n, n = l.length := ⟨_, rfl⟩
  rw [← hn] at hc hb hi hii HCP ⊢
  have HN := Lib.hid hn
  clear hcell hx hcp0 hn
  go_enter Tryd.func35, Tryd.ntmps35
  go_wp2_with fail
  go_region
  all_goals go_wp2_with (go_at_call 47; go_must (refine (HCP.out _ ?hR).mono ?_; (case hR => repeat (first | with_reducible exact Moves.refl [] _ | with_reducible apply Moves.drew | with_reducible apply Moves.drewN | with_reducible apply Moves.alloc | fail)); rintro e w1 ⟨v', rfl, hown, hm⟩; obtain ⟨g', cap', rfl, hgb, hgl, _, _, hc'⟩ := own_form hown (by omega); (have hd1 : Has w1 (W.heap.size + 1) 46 #[.int .u8 1, .int .i64 i, .int .u64 x, .int .u64 (x : Nat), .bool true] := hm.has (Has.drew (Has.new' (by simp))) (by simp)); (have dc1 := hd1.cell); (have df1 := hd1.frozen); (have hd0 : Has w1 W.heap.size 46 #[.int .u8 0, .int .i64 0, .int .u64 0, .int .u64 0, .bool false] := hm.has (Has.drew (Has.alloc (Has.new' rfl) _)) (by simp)); (have dc0 := hd0.cell); (have df0 := hd0.frozen); (simp at hgb); (have ng5 : ¬ W.heap.size + 1 = g' := by omega); (have ng6 : ¬ W.heap.size = g' := by omega); (have ng7 : ¬ g' = W.heap.size + 1 := by omega); (have ng8 : ¬ g' = W.heap.size := by omega); (have cg := hc' i (.int .u64 (x : Int)) (by simp only [wvs, List.getElem?_map, HX.out, Option.map_some])); (have ff := own_frozen hown i)))
  all_goals go_region
  all_goals go_wp2_with fail
  all_goals refine bodyPost_ret (v := .tuple #[.slice (some ⟨g', 0, none⟩) n cap', did 1 i x (x) true]) (by simp only [results, Tryd.results35, did]; go_simp) rfl ?_
  all_goals (have hm0 : Moves [] W w1 := Moves.trans (((Moves.refl [] W).alloc _).alloc _).drew hm (by simp))
  all_goals (have ho1 := own_put (own_base (base' := W.heap.size) hown (by simp; omega)) HN.out.symm g' cap' i (x) rfl hi)
  all_goals refine ⟨_, rfl, ?_, ?_⟩
  all_goals (try simp only [Int.natCast_add] at ho1)
  · repeat (first | with_reducible exact ho1 | with_reducible refine own_drew ?_ | (with_reducible refine own_far ?_ ?_; rotate_left; (solve | simp | (simp; omega))) | fail)
  · repeat (first | with_reducible exact hm0 | with_reducible apply Moves.drew | (with_reducible refine Moves.setNew ?_ ?_ _; rotate_left; (solve | simp | (simp; omega))) | fail)
set_option maxHeartbeats 1000000 in
set_option maxRecDepth 100000 in
theorem act_add (l : List Nat) (i x : Nat) (y : Nat) (hxy : x + y ≤ 18446744073709551615) (hx : l[i]? = some x) (hb : l.length ≤ 65) (W : World) (v : Value) (hR : Rds W v l) :
    Calls Tryd.prog 35 #[v, .int .u8 3, .int .i64 i, .int .u64 0, .int .u64 (y : Nat)] W fun e w' =>
      ∃ v', e = .returned (.tuple #[v', did 3 i x (x + y) true]) ∧ w'.ownsRow W.heap.size 39 1 v' l.length (wvs (l.set i (x + y))) ∧ Moves [] W w' := by
  have hcp0 := fun W' (hm : Moves [] W W') => copy_any v l W' (hR.moves hm (fun _ _ => by simp)) hb
  have hi : i < l.length := (List.getElem?_eq_some_iff.1 hx).1
  have hR0 := hR
  obtain ⟨g, cap, rfl, hc, hg, hcell⟩ := hR
  have cx : W.cell? ⟨g, i, none⟩ = some (.int .u64 (x : Int)) := hcell i _ hx
  have HX := Lib.hid hx
  have HCP := Lib.hid hcp0
  have ng : ¬ g = W.heap.size := by omega
  have ng1 : ¬ g = W.heap.size + 1 := by omega
  have ng2 : ¬ W.heap.size + 1 = W.heap.size := by omega
  have ng3 : ¬ W.heap.size = W.heap.size + 1 := by omega
  have hii : (i : Int) < (l.length : Int) := by omega
  obtain ⟨n, hn⟩ : ∃ n, n = l.length := ⟨_, rfl⟩
  rw [← hn] at hc hb hi hii HCP ⊢
  have HN := Lib.hid hn
  clear hcell hx hcp0 hn
  go_enter Tryd.func35, Tryd.ntmps35
  go_wp2_with fail
  go_region
  all_goals go_wp2_with (go_at_call 47; go_must (refine (HCP.out _ ?hR).mono ?_; (case hR => repeat (first | with_reducible exact Moves.refl [] _ | with_reducible apply Moves.drew | with_reducible apply Moves.drewN | with_reducible apply Moves.alloc | fail)); rintro e w1 ⟨v', rfl, hown, hm⟩; obtain ⟨g', cap', rfl, hgb, hgl, _, _, hc'⟩ := own_form hown (by omega); (have hd1 : Has w1 (W.heap.size + 1) 46 #[.int .u8 3, .int .i64 i, .int .u64 x, .int .u64 ((x + y : Nat) : Int), .bool true] := hm.has (Has.drew (Has.new' (by simp))) (by simp)); (have dc1 := hd1.cell); (have df1 := hd1.frozen); (have hd0 : Has w1 W.heap.size 46 #[.int .u8 0, .int .i64 0, .int .u64 0, .int .u64 0, .bool false] := hm.has (Has.drew (Has.alloc (Has.new' rfl) _)) (by simp)); (have dc0 := hd0.cell); (have df0 := hd0.frozen); (simp at hgb); (have ng5 : ¬ W.heap.size + 1 = g' := by omega); (have ng6 : ¬ W.heap.size = g' := by omega); (have ng7 : ¬ g' = W.heap.size + 1 := by omega); (have ng8 : ¬ g' = W.heap.size := by omega); (have cg := hc' i (.int .u64 (x : Int)) (by simp only [wvs, List.getElem?_map, HX.out, Option.map_some])); (have ff := own_frozen hown i)))
  all_goals go_region
  all_goals go_wp2_with fail
  all_goals refine bodyPost_ret (v := .tuple #[.slice (some ⟨g', 0, none⟩) n cap', did 3 i x (x + y) true]) (by simp only [results, Tryd.results35, did]; go_simp) rfl ?_
  all_goals (have hm0 : Moves [] W w1 := Moves.trans (((Moves.refl [] W).alloc _).alloc _).drew hm (by simp))
  all_goals (have ho1 := own_put (own_base (base' := W.heap.size) hown (by simp; omega)) HN.out.symm g' cap' i (x + y) rfl hi)
  all_goals refine ⟨_, rfl, ?_, ?_⟩
  all_goals (try simp only [Int.natCast_add] at ho1)
  · repeat (first | with_reducible exact ho1 | with_reducible refine own_drew ?_ | (with_reducible refine own_far ?_ ?_; rotate_left; (solve | simp | (simp; omega))) | fail)
  · repeat (first | with_reducible exact hm0 | with_reducible apply Moves.drew | (with_reducible refine Moves.setNew ?_ ?_ _; rotate_left; (solve | simp | (simp; omega))) | fail)
set_option maxHeartbeats 1000000 in
set_option maxRecDepth 100000 in
theorem act_swap (l : List Nat) (i x : Nat) (y : Nat)  (hx : l[i]? = some x) (hb : l.length ≤ 65) (W : World) (v : Value) (hR : Rds W v l) :
    Calls Tryd.prog 35 #[v, .int .u8 4, .int .i64 i, .int .u64 0, .int .u64 (y : Nat)] W fun e w' =>
      ∃ v', e = .returned (.tuple #[v', did 4 i x (y) true]) ∧ w'.ownsRow W.heap.size 39 1 v' l.length (wvs (l.set i (y))) ∧ Moves [] W w' := by
  have hcp0 := fun W' (hm : Moves [] W W') => copy_any v l W' (hR.moves hm (fun _ _ => by simp)) hb
  have hi : i < l.length := (List.getElem?_eq_some_iff.1 hx).1
  have hR0 := hR
  obtain ⟨g, cap, rfl, hc, hg, hcell⟩ := hR
  have cx : W.cell? ⟨g, i, none⟩ = some (.int .u64 (x : Int)) := hcell i _ hx
  have HX := Lib.hid hx
  have HCP := Lib.hid hcp0
  have ng : ¬ g = W.heap.size := by omega
  have ng1 : ¬ g = W.heap.size + 1 := by omega
  have ng2 : ¬ W.heap.size + 1 = W.heap.size := by omega
  have ng3 : ¬ W.heap.size = W.heap.size + 1 := by omega
  have hii : (i : Int) < (l.length : Int) := by omega
  obtain ⟨n, hn⟩ : ∃ n, n = l.length := ⟨_, rfl⟩
  rw [← hn] at hc hb hi hii HCP ⊢
  have HN := Lib.hid hn
  clear hcell hx hcp0 hn
  go_enter Tryd.func35, Tryd.ntmps35
  go_wp2_with fail
  go_region
  all_goals go_wp2_with (go_at_call 47; go_must (refine (HCP.out _ ?hR).mono ?_; (case hR => repeat (first | with_reducible exact Moves.refl [] _ | with_reducible apply Moves.drew | with_reducible apply Moves.drewN | with_reducible apply Moves.alloc | fail)); rintro e w1 ⟨v', rfl, hown, hm⟩; obtain ⟨g', cap', rfl, hgb, hgl, _, _, hc'⟩ := own_form hown (by omega); (have hd1 : Has w1 (W.heap.size + 1) 46 #[.int .u8 4, .int .i64 i, .int .u64 x, .int .u64 (y : Nat), .bool true] := hm.has (Has.drew (Has.new' (by simp))) (by simp)); (have dc1 := hd1.cell); (have df1 := hd1.frozen); (have hd0 : Has w1 W.heap.size 46 #[.int .u8 0, .int .i64 0, .int .u64 0, .int .u64 0, .bool false] := hm.has (Has.drew (Has.alloc (Has.new' rfl) _)) (by simp)); (have dc0 := hd0.cell); (have df0 := hd0.frozen); (simp at hgb); (have ng5 : ¬ W.heap.size + 1 = g' := by omega); (have ng6 : ¬ W.heap.size = g' := by omega); (have ng7 : ¬ g' = W.heap.size + 1 := by omega); (have ng8 : ¬ g' = W.heap.size := by omega); (have cg := hc' i (.int .u64 (x : Int)) (by simp only [wvs, List.getElem?_map, HX.out, Option.map_some])); (have ff := own_frozen hown i)))
  all_goals go_region
  all_goals go_wp2_with fail
  all_goals refine bodyPost_ret (v := .tuple #[.slice (some ⟨g', 0, none⟩) n cap', did 4 i x (y) true]) (by simp only [results, Tryd.results35, did]; go_simp) rfl ?_
  all_goals (have hm0 : Moves [] W w1 := Moves.trans (((Moves.refl [] W).alloc _).alloc _).drew hm (by simp))
  all_goals (have ho1 := own_put (own_base (base' := W.heap.size) hown (by simp; omega)) HN.out.symm g' cap' i (y) rfl hi)
  all_goals refine ⟨_, rfl, ?_, ?_⟩
  all_goals (try simp only [Int.natCast_add] at ho1)
  · repeat (first | with_reducible exact ho1 | with_reducible refine own_drew ?_ | (with_reducible refine own_far ?_ ?_; rotate_left; (solve | simp | (simp; omega))) | fail)
  · repeat (first | with_reducible exact hm0 | with_reducible apply Moves.drew | (with_reducible refine Moves.setNew ?_ ?_ _; rotate_left; (solve | simp | (simp; omega))) | fail)
set_option maxHeartbeats 1000000 in
set_option maxRecDepth 100000 in
theorem act_hit (l : List Nat) (i x : Nat) (y : Nat)  (hx : l[i]? = some x) (hb : l.length ≤ 65) (W : World) (v : Value) (hR : Rds W v l) :
    Calls Tryd.prog 35 #[v, .int .u8 5, .int .i64 i, .int .u64 (x : Nat), .int .u64 (y : Nat)] W fun e w' =>
      ∃ v', e = .returned (.tuple #[v', did 5 i x (y) true]) ∧ w'.ownsRow W.heap.size 39 1 v' l.length (wvs (l.set i (y))) ∧ Moves [] W w' := by
  have hcp0 := fun W' (hm : Moves [] W W') => copy_any v l W' (hR.moves hm (fun _ _ => by simp)) hb
  have hi : i < l.length := (List.getElem?_eq_some_iff.1 hx).1
  have hR0 := hR
  obtain ⟨g, cap, rfl, hc, hg, hcell⟩ := hR
  have cx : W.cell? ⟨g, i, none⟩ = some (.int .u64 (x : Int)) := hcell i _ hx
  have HX := Lib.hid hx
  have HCP := Lib.hid hcp0
  have ng : ¬ g = W.heap.size := by omega
  have ng1 : ¬ g = W.heap.size + 1 := by omega
  have ng2 : ¬ W.heap.size + 1 = W.heap.size := by omega
  have ng3 : ¬ W.heap.size = W.heap.size + 1 := by omega
  have hii : (i : Int) < (l.length : Int) := by omega
  have okb : ((x : Int) == (x : Int)) = true := by simp
  obtain ⟨n, hn⟩ : ∃ n, n = l.length := ⟨_, rfl⟩
  rw [← hn] at hc hb hi hii HCP ⊢
  have HN := Lib.hid hn
  clear hcell hx hcp0 hn
  go_enter Tryd.func35, Tryd.ntmps35
  go_wp2_with fail
  go_region
  all_goals go_wp2_with (go_at_call 47; go_must (refine (HCP.out _ ?hR).mono ?_; (case hR => repeat (first | with_reducible exact Moves.refl [] _ | with_reducible apply Moves.drew | with_reducible apply Moves.drewN | with_reducible apply Moves.alloc | fail)); rintro e w1 ⟨v', rfl, hown, hm⟩; obtain ⟨g', cap', rfl, hgb, hgl, _, _, hc'⟩ := own_form hown (by omega); (have hd1 : Has w1 (W.heap.size + 1) 46 #[.int .u8 5, .int .i64 i, .int .u64 x, .int .u64 (y : Nat), .bool true] := hm.has (Has.drew (Has.new' (by simp))) (by simp)); (have dc1 := hd1.cell); (have df1 := hd1.frozen); (have hd0 : Has w1 W.heap.size 46 #[.int .u8 0, .int .i64 0, .int .u64 0, .int .u64 0, .bool false] := hm.has (Has.drew (Has.alloc (Has.new' rfl) _)) (by simp)); (have dc0 := hd0.cell); (have df0 := hd0.frozen); (simp at hgb); (have ng5 : ¬ W.heap.size + 1 = g' := by omega); (have ng6 : ¬ W.heap.size = g' := by omega); (have ng7 : ¬ g' = W.heap.size + 1 := by omega); (have ng8 : ¬ g' = W.heap.size := by omega); (have cg := hc' i (.int .u64 (x : Int)) (by simp only [wvs, List.getElem?_map, HX.out, Option.map_some])); (have ff := own_frozen hown i)))
  all_goals go_region
  all_goals go_wp2_with fail
  all_goals refine bodyPost_ret (v := .tuple #[.slice (some ⟨g', 0, none⟩) n cap', did 5 i x (y) true]) (by simp only [results, Tryd.results35, did]; go_simp) rfl ?_
  all_goals (have hm0 : Moves [] W w1 := Moves.trans (((Moves.refl [] W).alloc _).alloc _).drew hm (by simp))
  all_goals (have ho1 := own_put (own_base (base' := W.heap.size) hown (by simp; omega)) HN.out.symm g' cap' i (y) rfl hi)
  all_goals refine ⟨_, rfl, ?_, ?_⟩
  all_goals (try simp only [Int.natCast_add] at ho1)
  · repeat (first | with_reducible exact ho1 | with_reducible refine own_drew ?_ | (with_reducible refine own_far ?_ ?_; rotate_left; (solve | simp | (simp; omega))) | fail)
  · repeat (first | with_reducible exact hm0 | with_reducible apply Moves.drew | (with_reducible refine Moves.setNew ?_ ?_ _; rotate_left; (solve | simp | (simp; omega))) | fail)
set_option maxHeartbeats 1000000 in
set_option maxRecDepth 100000 in
theorem act_miss (l : List Nat) (i x : Nat) (y : Nat) (z : Nat) (hne : x ≠ z) (hx : l[i]? = some x) (hb : l.length ≤ 65) (W : World) (v : Value) (hR : Rds W v l) :
    Calls Tryd.prog 35 #[v, .int .u8 5, .int .i64 i, .int .u64 (z : Nat), .int .u64 (y : Nat)] W fun e w' =>
      ∃ v', e = .returned (.tuple #[v', did 5 i x (x) false]) ∧ w'.ownsRow W.heap.size 39 1 v' l.length (wvs (l.set i (x))) ∧ Moves [] W w' := by
  have hcp0 := fun W' (hm : Moves [] W W') => copy_any v l W' (hR.moves hm (fun _ _ => by simp)) hb
  have hi : i < l.length := (List.getElem?_eq_some_iff.1 hx).1
  have hR0 := hR
  obtain ⟨g, cap, rfl, hc, hg, hcell⟩ := hR
  have cx : W.cell? ⟨g, i, none⟩ = some (.int .u64 (x : Int)) := hcell i _ hx
  have HX := Lib.hid hx
  have HCP := Lib.hid hcp0
  have ng : ¬ g = W.heap.size := by omega
  have ng1 : ¬ g = W.heap.size + 1 := by omega
  have ng2 : ¬ W.heap.size + 1 = W.heap.size := by omega
  have ng3 : ¬ W.heap.size = W.heap.size + 1 := by omega
  have hii : (i : Int) < (l.length : Int) := by omega
  have okb : ((x : Int) == (z : Int)) = false := by simp; omega
  clear hne
  obtain ⟨n, hn⟩ : ∃ n, n = l.length := ⟨_, rfl⟩
  rw [← hn] at hc hb hi hii HCP ⊢
  have HN := Lib.hid hn
  clear hcell hx hcp0 hn
  go_enter Tryd.func35, Tryd.ntmps35
  go_wp2_with fail
  go_region
  all_goals go_wp2_with (go_at_call 47; go_must (refine (HCP.out _ ?hR).mono ?_; (case hR => repeat (first | with_reducible exact Moves.refl [] _ | with_reducible apply Moves.drew | with_reducible apply Moves.drewN | with_reducible apply Moves.alloc | fail)); rintro e w1 ⟨v', rfl, hown, hm⟩; obtain ⟨g', cap', rfl, hgb, hgl, _, _, hc'⟩ := own_form hown (by omega); (have hd1 : Has w1 (W.heap.size + 1) 46 #[.int .u8 5, .int .i64 i, .int .u64 x, .int .u64 (x : Nat), .bool false] := hm.has (Has.drew (Has.new' (by simp))) (by simp)); (have dc1 := hd1.cell); (have df1 := hd1.frozen); (have hd0 : Has w1 W.heap.size 46 #[.int .u8 0, .int .i64 0, .int .u64 0, .int .u64 0, .bool false] := hm.has (Has.drew (Has.alloc (Has.new' rfl) _)) (by simp)); (have dc0 := hd0.cell); (have df0 := hd0.frozen); (simp at hgb); (have ng5 : ¬ W.heap.size + 1 = g' := by omega); (have ng6 : ¬ W.heap.size = g' := by omega); (have ng7 : ¬ g' = W.heap.size + 1 := by omega); (have ng8 : ¬ g' = W.heap.size := by omega); (have cg := hc' i (.int .u64 (x : Int)) (by simp only [wvs, List.getElem?_map, HX.out, Option.map_some])); (have ff := own_frozen hown i)))
  all_goals go_region
  all_goals go_wp2_with fail
  all_goals refine bodyPost_ret (v := .tuple #[.slice (some ⟨g', 0, none⟩) n cap', did 5 i x (x) false]) (by simp only [results, Tryd.results35, did]; go_simp) rfl ?_
  all_goals (have hm0 : Moves [] W w1 := Moves.trans (((Moves.refl [] W).alloc _).alloc _).drew hm (by simp))
  all_goals (have ho1 := own_put (own_base (base' := W.heap.size) hown (by simp; omega)) HN.out.symm g' cap' i (x) rfl hi)
  all_goals refine ⟨_, rfl, ?_, ?_⟩
  all_goals (try simp only [Int.natCast_add] at ho1)
  · repeat (first | with_reducible exact ho1 | with_reducible refine own_drew ?_ | (with_reducible refine own_far ?_ ?_; rotate_left; (solve | simp | (simp; omega))) | fail)
  · repeat (first | with_reducible exact hm0 | with_reducible apply Moves.drew | (with_reducible refine Moves.setNew ?_ ?_ _; rotate_left; (solve | simp | (simp; omega))) | fail)
end Go.Proofs.YtigacfgoldnoiaaDoor
