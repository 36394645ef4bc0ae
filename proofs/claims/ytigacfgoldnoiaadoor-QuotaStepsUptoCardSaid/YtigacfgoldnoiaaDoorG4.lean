/- QuotaConserved: the walk. -/
import Derived.Test.YtigacfgoldnoiaaDoorG3
import Derived.Test.YtigacfgoldnoiaaDoorM1
import Derived.Deep.CutBlock
namespace Go.Proofs.YtigacfgoldnoiaaDoor
open Go Go.RowKit
set_option linter.unusedVariables false
set_option linter.unusedSimpArgs false
attribute [local go_sem] World.cell?_alloc_old World.frozen?_alloc_old

set_option maxHeartbeats 2000000 in
set_option maxRecDepth 100000 in
theorem conserved_bad (limit batch workers : Int) (v u : Value) (w : World) (hu : Uses w) (hz : 0 < w.heap.size) (h : fitsB limit batch workers = false) :
    Calls Tryd.prog 6 #[.int .i64 limit, .int .i64 batch, .int .i64 workers, v, u] w fun e w' => e = .returned (.bool true) ∧ Moves [] w w' := by
  have hbg := Lib.hid (fun W hu hz => begins_any W hu hz)
  have hnw := Lib.hid (fun W => new_bad limit batch workers W h)
  clear h
  go_enter Tryd.func6, Tryd.ntmps6
  go_wp2_with (first | (go_at_call 13; go_must (refine (hbg.out _ hu hz).mono ?_; rintro e w1 ⟨rfl, hm1⟩)) | (go_at_call 11; go_must (refine (hnw.out _).mono ?_; rintro e w2 ⟨rfl, hm2⟩)))
  go_ret
  exact ⟨rfl, hm1.trans hm2 (by simp)⟩

/-- Pointers to operations, as values; kinds and workers of operations, as cells. -/
def pvl (bs : List Nat) : List Value := bs.map fun b : Nat => Value.pointer (some ⟨b, 0, none⟩)
def kvl (ko : List (Nat × Nat)) : List Value := ko.flatMap fun q => [Value.int .u8 (q.1 : Int), Value.int .i64 (q.2 : Int)]
theorem pvl_at {bs : List Nat} {k b : Nat} (h : bs[k]? = some b) : (pvl bs)[k]? = some (.pointer (some ⟨b, 0, none⟩)) := by simp [pvl, h]
theorem pvl_snoc (bs : List Nat) (b : Nat) : pvl bs ++ [.pointer (some ⟨b, 0, none⟩)] = pvl (bs ++ [b]) := by simp [pvl]
theorem kvl_snoc (ko : List (Nat × Nat)) (q : Nat × Nat) : kvl ko ++ [.int .u8 (q.1 : Int), .int .i64 (q.2 : Int)] = kvl (ko ++ [q]) := by simp [kvl]
theorem kvl_at {ko : List (Nat × Nat)} {k : Nat} {q : Nat × Nat} (h : ko[k]? = some q) : (kvl ko)[k * 2]? = some (.int .u8 (q.1 : Int)) ∧ (kvl ko)[k * 2 + 1]? = some (.int .i64 (q.2 : Int)) := by
  induction ko generalizing k with
  | nil => simp at h
  | cons a ko ih =>
    cases k with
    | zero =>
      simp only [List.getElem?_cons_zero, Option.some.injEq] at h
      subst h
      simp [kvl]
    | succ k =>
      simp only [List.getElem?_cons_succ] at h
      have := ih h
      have e : (k + 1) * 2 = k * 2 + 1 + 1 := by omega
      rw [e]
      simpa [kvl] using this

theorem cell_kept {S : List Nat} {a w : World} (h : Moves S a w) {b o : Nat} (hb : b ∉ S) (hl : b < a.heap.size) : w.cell? ⟨b, o, none⟩ = a.cell? ⟨b, o, none⟩ := by
  simp only [World.cell?]
  rw [h.block b hl hb]
theorem cell_two_new (w : World) (t : TypeId) (x y : Value) (j : Nat) (u : Value) (hj : [x, y][j]? = some u) : (w.alloc (.cells #[x, y] t)).cell? ((⟨w.heap.size, 0, none⟩ : Addr).add j) = some u := by
  have h := (Has.new w t #[x, y]).cell j
  have e : (⟨w.heap.size, 0, none⟩ : Addr).add j = ⟨w.heap.size, j, none⟩ := by
    rw [Go.WideShapes.add_plain, Nat.zero_add]
  rw [e, h]
  simpa using hj
theorem Quo.apartS {a w : World} {S : List Nat} {base e bq bc bw batch n : Nat} {l : List Nat} (h : Quo a bq bc bw batch n l) (hm : Moves S a w) (hS : ∀ g ∈ S, base ≤ g ∧ ∃ cs, Has a g e cs) (hb : 0 < base) (he : e ≠ 74 ∧ e ≠ 87 ∧ e ≠ 99) : Quo w bq bc bw batch n l := by
  have hS' : ∀ g ∈ S, ∃ cs, Has a g e cs := fun g hg => (hS g hg).2
  exact h.moves hm ⟨apart_types hS' h.q (Ne.symm he.1), apart_types hS' h.c (Ne.symm he.2.1), fun h0 => by have := (hS 0 h0).1; omega⟩ (hm.has h.m (apart_types hS' h.m (Ne.symm he.2.2))) rfl
theorem Fam.apartS {a w : World} {S : List Nat} {base e base' bq : Nat} {ps : List (Nat × Pn)} (h : Fam a base' bq (al ps)) (hb : ∀ q ∈ ps, q.2.nx.bare = true) (hm : Moves S a w) (hS : ∀ g ∈ S, base ≤ g ∧ ∃ cs, Has a g e cs) (he : e ≠ 77) : Fam w base' bq (al ps) :=
  h.bareMoves hb hm (fun x cs hx => apart_types (fun g hg => (hS g hg).2) hx (Ne.symm he))
theorem own_slice {w : World} {base e size n : Nat} {v : Value} {xs : List Value} (h : w.ownsRow base e size v n xs) : ∃ A cap, v = .slice A n cap := by
  rcases h.2 with ⟨h1, h0⟩ | ⟨g, cap, cur, h1, _⟩
  · exact ⟨none, 0, by rw [h1, h0]⟩
  · exact ⟨_, _, h1⟩
theorem made_nums (n : Nat) : madeCells (Value.cells (.int .u64 0)) (n * 1) = wds (List.replicate n 0) := by
  have h := toList_madeCells_one (.int .u64 0) n
  have e : Value.cells (.int .u64 0) = #[.int .u64 0] := rfl
  rw [e, Nat.mul_one]
  apply Array.toList_inj.1
  rw [h]
  simp [wds]
theorem make_nums (n : Nat) (hn : n * 8 ≤ 140737488355328) (w : World) : (Instr.makeSlice 42 (.int .i64 n) (.int .i64 n)).run Tryd.prog w = .ok (.slice (some ⟨w.heap.size, 0, none⟩) n n) (w.alloc (.cells (wds (List.replicate n 0)) 39)) := by
  obtain ⟨i0, hi, hz0, hz1, hz2⟩ := info_parts info39
  have h := run_make (P := Tryd.prog) w 42 39 i0 _ Tryd.underlying42 hi hz0 .i64 .i64 n n (by omega) (Int.le_refl _) (by rw [hz2]; omega) (by omega)
  rw [h, hz1]
  simp only [Int.toNat_natCast, made_nums]
theorem keep_step (batch n b : Nat) (l : List Nat) (p : Pn) (h : (qstep batch n l p).2.1.nx = .keep b) (he : p.nx.ended = false) : p.nx.hand = 0 := by
  obtain ⟨nx, own, saw, left, ans⟩ := p
  cases nx with
  | keep c => simp [qstep] at h
  | give c => simp [qstep] at h
  | _ => rfl
theorem info37 : (Tryd.prog.info? 37).map (fun i => (i.zero, i.size, i.bytes)) = some (some (.agg #[.int .u8 0, .int .i64 0]), 2, 16) := by kernel_rfl

theorem Kept.snoc {batch n limit : Nat} {l : List Nat} {ps : List (Nat × Pn)} {ko : List (Nat × Nat)} (h : Kept batch n limit l (ps.map (·.2)) (ko.map (·.1)) 0) (bp k x : Nat) (hl : ∀ m, Loc n m (st k x)) (hk : Kinds k (st k x)) :
    Kept batch n limit l ((ps ++ [(bp, st k x)]).map (·.2)) ((ko ++ [(k, x)]).map (·.1)) 0 := by
  refine ⟨h.len, by simpa using h.klen, ?_, fun j p hj => ?_⟩
  · have := h.sum
    have hh := st_hand k x
    simp only [List.map_append, List.sum_append, List.map_cons, List.map_nil, List.sum_cons, List.sum_nil] at *
    omega
  · have hlen : ko.length = ps.length := by simpa using h.klen
    rw [List.map_append, List.getElem?_append] at hj
    simp only [List.length_map] at hj
    split at hj
    · rename_i hlt
      have := h.each j p hj
      refine ⟨this.1, ?_⟩
      have e : ((ko ++ [(k, x)]).map (·.1)).getD j 0 = (ko.map (·.1)).getD j 0 := by
        simp only [List.getD, List.map_append]
        rw [List.getElem?_append_left (by simp; omega)]
      rw [e]
      exact this.2
    · rename_i hge
      have h0 : j - ps.length = 0 := by
        rcases Nat.eq_zero_or_pos (j - ps.length) with h0 | h0
        · exact h0
        · rw [List.getElem?_eq_none (by simp; omega)] at hj; cases hj
      rw [h0] at hj
      simp only [List.map_cons, List.map_nil, List.getElem?_cons_zero, Option.some.injEq] at hj
      subst hj
      refine ⟨hl _, ?_⟩
      have e : ((ko ++ [(k, x)]).map (·.1)).getD j 0 = k := by
        have : j = ko.length := by omega
        subst this
        simp [List.getD]
      rw [e]
      exact hk
theorem Kept.begin (batch n limit : Nat) : Kept batch n limit (limit :: List.replicate n 0) (([] : List (Nat × Pn)).map (·.2)) (([] : List (Nat × Nat)).map (·.1)) 0 :=
  ⟨by simp, rfl, by simp, fun k p h => by simp at h⟩

/-- The slots that a piece of the law's code writes. -/
def m6loop1 : List Bool := [false, false, false, false, false, false, false, false, false, false, false, false, false, true, true, true, true, true, false, false, false, false, false, false, false, false, false, false, false, false, false, false, false, false, false, false, false, false, false, false, false, false, false, false, false, true, true, true, true, true, true, true, true, true, true, true, true, true, true, true, true, true, true, true, true, true, true, true, true, true, true, true, true, true, true, true, true, false, false, false, false, false, false, false, false, false, false, false, false, false, false, false, false, false, false, false, false, false, false, false, false, false, false, false, false, false, false, false, false, false, false, false, false, false, false, false, false, false, false, false, false, false, false, false, false, false, false, false, false, false, false, false, false, false, false, false, false, false, false, false, false, false, false, false, false, false, false, false, false, false, false, false, false, false, false, false, false, false, false, false, false, false, false, false, false, false, false, false, false, false, false, false, false, false, false, false, false, false, false, false, false, false, false, false, false, false, false, false, false, false, false, false, false, false, false, false, false, false, false, false, false, false, false, false, false, false, false, false, false, false, false, false, false, false, false, false, false, false, false, false, false, false, false, false, false, false, false, false, false, false, false, false, false, false, false, false, false, false, false, false, false, false, false, false, false, false, false, false, false]
def m6loop2 : List Bool := [false, false, false, false, false, false, false, false, false, false, true, false, false, false, false, false, false, false, false, true, true, true, true, true, true, true, true, true, false, false, false, false, false, false, false, false, false, false, false, false, false, false, false, false, false, false, false, false, false, false, false, false, false, false, false, false, false, false, false, false, false, false, false, false, false, false, false, false, false, false, false, false, false, false, false, false, false, false, false, false, true, true, true, true, true, true, true, true, true, true, true, true, true, true, true, true, true, true, true, true, true, true, true, true, true, true, true, true, true, true, true, true, true, true, true, true, true, true, true, true, true, true, true, true, true, true, true, true, true, true, true, true, true, true, true, true, true, true, true, true, true, true, true, true, true, true, true, true, true, true, true, true, true, true, true, true, true, true, true, true, true, true, true, true, true, true, true, true, true, true, true, true, true, true, true, true, true, true, true, true, true, true, true, true, true, true, true, true, true, true, true, true, true, true, true, true, true, true, true, true, true, true, true, true, true, true, true, true, true, true, true, true, true, true, true, true, true, true, true, true, true, true, true, true, true, true, true, true, true, true, true, true, true, true, true, true, true, true, true, true, true, true, true, true, true, true, true, true, true]
def m6cut1 : List Bool := [false, false, false, false, false, false, false, false, false, false, true, false, false, false, false, false, false, false, false, false, false, false, false, false, false, false, false, false, false, false, false, false, false, false, false, false, false, false, false, false, false, false, false, false, false, false, false, false, false, false, false, false, false, false, false, false, false, false, false, false, false, false, false, false, false, false, false, false, false, false, false, false, false, false, false, false, false, false, false, false, true, true, true, true, true, true, true, true, true, true, true, true, true, true, true, true, true, true, true, true, true, true, true, true, true, true, true, true, true, true, true, true, true, true, true, true, true, true, true, true, true, true, true, true, true, true, true, true, true, true, true, true, true, true, true, true, true, true, true, true, true, true, true, true, true, true, true, true, true, true, true, true, true, true, true, true, true, true, true, true, true, true, true, true, true, true, true, true, true, true, true, true, true, true, true, true, true, true, true, true, true, true, true, true, true, true, true, true, true, true, true, true, true, true, true, true, true, true, true, true, true, true, true, true, true, true, true, true, true, true, true, true, true, true, true, true, true, true, true, true, true, true, true, true, true, true, true, true, true, true, true, true, true, true, true, true, true, true, true, true, true, true, true, true, true, true, true, true, true]
def m6cut2 : List Bool := [false, false, false, false, false, false, false, false, false, false, true, false, false, false, false, false, false, false, false, true, false, false, false, false, false, false, false, false, false, false, false, false, false, false, false, false, false, false, false, false, false, false, false, false, false, false, false, false, false, false, false, false, false, false, false, false, false, false, false, false, false, false, false, false, false, false, false, false, false, false, false, false, false, false, false, false, false, false, false, false, true, true, true, true, true, true, true, true, true, true, true, true, true, true, true, true, true, true, true, true, true, true, true, true, true, true, true, true, true, true, true, true, true, true, true, true, true, true, true, true, true, true, true, true, true, true, true, true, true, true, true, true, true, true, true, true, true, true, true, true, true, true, true, true, true, true, true, true, true, true, true, true, true, true, true, true, true, true, true, true, true, true, true, true, true, true, true, true, true, true, true, true, true, true, true, true, true, true, true, true, true, true, true, true, true, true, true, true, true, true, true, true, true, true, true, true, true, true, true, true, true, true, true, true, true, true, true, true, true, true, true, true, true, true, true, true, true, true, true, true, true, true, true, true, true, true, true, true, true, true, true, true, true, true, true, true, true, true, true, true, true, true, true, true, true, true, true, true, true]
def m6loop3 : List Bool := [false, false, false, false, false, false, false, false, false, false, false, false, false, false, false, false, false, false, false, false, false, false, false, false, true, false, true, false, false, false, false, false, false, false, false, false, false, false, false, false, false, false, false, false, false, false, false, false, false, false, false, false, false, false, false, false, false, false, false, false, false, false, false, false, false, false, false, false, false, false, false, false, false, false, false, false, false, false, false, false, false, false, false, false, false, false, false, false, false, false, false, false, false, false, false, false, false, false, false, false, false, false, false, false, false, false, false, false, false, false, false, false, false, false, false, false, false, false, false, false, false, false, false, false, false, false, false, false, false, false, false, false, false, false, false, false, false, false, false, false, false, false, false, false, false, false, false, false, false, false, false, false, false, false, false, false, false, false, false, false, false, false, false, false, false, false, false, false, false, false, false, false, false, false, false, false, false, false, false, false, false, false, false, false, false, false, false, false, false, false, false, false, false, false, false, false, false, false, false, false, false, false, false, false, false, false, false, false, true, true, true, true, true, true, true, true, true, true, true, true, false, false, false, false, false, false, false, false, false, false, false, false, false, false, false, false, false, false, false, false, false, false, false, false, false, false, false, false, false]
def m6loop4 : List Bool := [false, false, false, false, false, false, false, false, false, false, false, false, false, false, false, false, false, false, false, false, false, false, false, false, true, false, false, true, false, false, false, false, false, false, false, false, false, false, false, false, false, false, false, false, false, false, false, false, false, false, false, false, false, false, false, false, false, false, false, false, false, false, false, false, false, false, false, false, false, false, false, false, false, false, false, false, false, false, false, false, false, false, false, false, false, false, false, false, false, false, false, false, false, false, false, false, false, false, false, false, false, false, false, false, false, false, false, false, false, false, false, false, false, false, false, false, false, false, false, false, false, false, false, false, false, false, false, false, false, false, false, false, false, false, false, false, false, false, false, false, false, false, false, false, false, false, false, false, false, false, false, false, false, false, false, false, false, false, false, false, false, false, false, false, false, false, false, false, false, false, false, false, false, false, false, false, false, false, false, false, false, false, false, false, false, false, false, false, false, false, false, false, false, false, false, false, false, false, false, false, false, false, false, false, false, false, false, false, false, false, false, false, false, false, false, false, false, false, false, false, true, true, true, true, true, true, true, true, true, true, true, true, false, false, false, false, false, false, false, false, false, false, false, false, false, false, false, false, false]

set_option maxHeartbeats 4000000 in
set_option maxRecDepth 100000 in
theorem conserved_good (limit batch n : Nat) (v u : Value) (ops : List (Int × Int)) (xs : List Int) (w : World) (hv : Rdo w v ops) (hb : ops.length * 16 ≤ 140737488355328) (hu' : Rdi w u xs) (hu : Uses w) (hz : 0 < w.heap.size) (hf : fitsB limit batch n = true) (hf1 : limit ≤ 1099511627776) (hf2 : batch ≤ 1048576) (hf3 : n ≤ 64) :
    Calls Tryd.prog 6 #[.int .i64 limit, .int .i64 batch, .int .i64 n, v, u] w fun e w' => e = .returned (.bool true) ∧ Moves [] w w' := by
  have hbg := Lib.hid (fun W hu hz => begins_any W hu hz)
  have hnw := Lib.hid (fun W hu hz => new_good limit batch n W hf hf1 hf2 hf3 hu hz)
  have hb1 : 1 ≤ batch := by have := hf; simp only [fitsB, decide_eq_true_eq] at this; omega
  have hn1 : 1 ≤ n := by have := hf; simp only [fitsB, decide_eq_true_eq] at this; omega
  clear hf
  obtain ⟨KA, kcap, rfl, hks⟩ := hv
  obtain ⟨A, cap, rfl, hlen, hxs⟩ := hu'
  obtain ⟨slen, hlenE⟩ : ∃ len, len = xs.length := ⟨_, rfl⟩
  obtain ⟨len, hklenE⟩ : ∃ len, len = ops.length := ⟨_, rfl⟩
  rw [← hlenE] at hlen hxs ⊢
  rw [← hklenE] at hb hks ⊢
  have HLEN := Lib.hid hlenE
  have HKLEN := Lib.hid hklenE
  have HKS := Lib.hid hks
  have HXS := Lib.hid hxs
  clear hlenE hklenE hks hxs
  obtain ⟨i32, hi32, hz32, hs32, hb32⟩ := info_parts info32
  obtain ⟨i37, hi37, hz37, hs37, hb37⟩ := info_parts info37
  go_enter Tryd.func6, Tryd.ntmps6
  go_wp2_with (first | (go_at_call 13; go_must (refine (hbg.out _ hu hz).mono ?_; rintro e w1 ⟨rfl, hm1⟩)) | (go_at_call 11; go_must (refine (hnw.out _ (hu.moves hm1 hz (by simp)) (Nat.lt_of_lt_of_le hz hm1.size)).mono ?_; rintro e w2 ⟨bq, bc, bw, rfl, gq, gc, gw, hQ, hm2⟩)))
  have hm02 : Moves [] w w2 := hm1.trans hm2 (by simp)
  have gbw : w.heap.size ≤ bw := by have := hm1.size; omega
  have hs02 := hm02.size
  refine wp_loop_mix m6loop1 (fun k f wr => ∃ (i : Nat) (ps : List (Nat × Pn)) (ko : List (Nat × Nat)), k = len - i ∧ i ≤ len ∧ ps.length ≤ i ∧ f 15 = .int .i64 (i : Nat) ∧ Kept batch n limit (limit :: List.replicate n 0) (ps.map (·.2)) (ko.map (·.1)) 0 ∧ (∀ q ∈ ps, q.2.nx.bare = true) ∧
      Quo wr bq bc bw batch n (limit :: List.replicate n 0) ∧ wr.ownsRow w.heap.size 32 1 (f 13) ps.length (pvl (ps.map (·.1))) ∧ wr.ownsRow w.heap.size 37 2 (f 14) ps.length (kvl ko) ∧ Fam wr w.heap.size bq (al ps) ∧ Moves [] w wr) len ?_ ?_
  · exact ⟨0, [], [], by omega, Nat.zero_le _, Nat.le_refl _, rfl, Kept.begin batch n limit, by simp, hQ, ⟨rfl, .inl ⟨rfl, rfl⟩⟩, ⟨rfl, .inl ⟨rfl, rfl⟩⟩, ⟨fun k bp p h => by simp [al] at h, fun i j bp p q h => by simp [al] at h⟩, hm02⟩
  · rintro gk f wr hrel J1 K1 hJ1 hK1
    dsimp only [mix, m6loop1]
    generalize f 13 = a13 at hrel ⊢
    generalize f 14 = a14 at hrel ⊢
    generalize f 15 = a15 at hrel ⊢
    obtain ⟨i, ps, ko, rfl, hi, hpi, rfl, hK, hbare, hQr, hownL, hownK, hF, hmr⟩ := hrel
    have hkl : ko.length = ps.length := by simpa using hK.klen
    have HKL := Lib.hid hkl
    clear hkl
    by_cases hlt : i < len
    · obtain ⟨b, off, rfl, hbl, hcells⟩ := HKS.out (by omega)
      obtain ⟨q, hq⟩ : ∃ x, ops[i]? = some x := ⟨_, List.getElem?_eq_getElem (by have := HKLEN.out; omega)⟩
      obtain ⟨kd, wk⟩ := q
      have cx0 := hcells i kd wk hq
      have ck : wr.cell? ⟨b, off + i * 2, none⟩ = some (.int .u8 kd) := by
        have := cx0.1
        simp only [World.cell?] at this ⊢
        rw [hmr.block b hbl (by simp)]
        exact this
      have cw : wr.cell? ⟨b, off + (i * 2 + 1), none⟩ = some (.int .i64 wk) := by
        have := cx0.2
        simp only [World.cell?] at this ⊢
        rw [hmr.block b hbl (by simp)]
        exact this
      have cw' : wr.cell? ⟨b, off + i * 2 + 1, none⟩ = some (.int .i64 wk) := cw
      clear hcells cx0 hq
      have hi' : (i : Int) < (len : Int) := by omega
      rcases start_all bq n kd wk hn1 hf3 with ⟨k, x, rfl, rfl, hk1, hk3, hxn, hk0, hSt, hLoc, hKd⟩ | ⟨hno, hSt⟩
      · have hS := Lib.hid hSt
        clear hSt
        have hwr := hmr.size
        have hbr : b < wr.heap.size := by omega
        go_wp2_with (first
          | (go_at_call 14; go_must (refine (hS.out _ ?hq).mono ?_; (case hq => exact hQr.q.cell 2); rintro e w3 ⟨bp, rfl, gbp, hP3, hm3⟩; (have hL3 := own_moves hownL hm3 (fun _ _ => by simp)); (have hK3 := own_moves hownK hm3 (fun _ _ => by simp)); (have hsz3 := hm3.size)))
          | (at_builtin; refine wpList_append_own (o := ⟨some 69, _, _, _, _, _⟩) _ rfl _ _ 31 rfl w.heap.size 32 i32 (.pointer none) 1 8 Tryd.underlying31 hi32 hz32 hs32 hb32 rfl (by decide) _ _ _ rfl (hL3.alloc _) ⟨w3.heap.size, 0, none⟩ 1 1 [.pointer (some ⟨bp, 0, none⟩)] rfl rfl (cell_one_new _ _ _) (by simp [Value.oneCell']) (by unfold maxLen; omega) (by omega) (by simp only [World.size_alloc]; omega) ?_; intro v2 w4 hown2 hgrow2 _; obtain ⟨S, hmS, hSS⟩ := grown_moves (hL3.alloc _) hgrow2; clear hgrow2; (have hsz4 := hmS.size); (simp only [World.size_alloc] at hsz4); (have hbS : b ∉ S := fun h => by have := (hSS b h).1; omega); (have ck4 : w4.cell? ⟨b, off + i * 2, none⟩ = some (.int .u8 k) := by rw [cell_kept hmS hbS (by simp; omega), cell_kept (Moves.alloc (Moves.refl [] _) _) (by simp) (by omega), cell_kept hm3 (by simp) hbr]; exact ck); (have cw4 : w4.cell? ⟨b, off + (i * 2 + 1), none⟩ = some (.int .i64 x) := by rw [cell_kept hmS hbS (by simp; omega), cell_kept (Moves.alloc (Moves.refl [] _) _) (by simp) (by omega), cell_kept hm3 (by simp) hbr]; exact cw); (have cw4' : w4.cell? ⟨b, off + i * 2 + 1, none⟩ = some (.int .i64 x) := cw4); (have hK4 := own_moves (hK3.alloc (.cells #[.pointer (some ⟨bp, 0, none⟩)] 32)) hmS (fun g hg hm => by obtain ⟨c1, h1⟩ := (own_has (hK3.alloc (.cells #[.pointer (some ⟨bp, 0, none⟩)] 32)) g hg).2; obtain ⟨c2, h2⟩ := (hSS g hm).2; exact h1.ne_type h2 (by decide) rfl)))
          | (at_builtin; refine wpList_append_own (o := ⟨some 76, _, _, _, _, _⟩) _ rfl _ _ 22 rfl w.heap.size 37 i37 (.agg #[.int .u8 0, .int .i64 0]) 2 16 Tryd.underlying22 hi37 hz37 hs37 hb37 rfl (by decide) _ _ _ rfl (hK4.alloc _) ⟨w4.heap.size, 0, none⟩ 1 1 [.int .u8 k, .int .i64 x] rfl rfl (cell_two_new _ _ _ _) (by simp [Value.oneCell']) (by unfold maxLen; omega) (by omega) (by simp only [World.size_alloc]; omega) ?_; intro v3 w5 hown3 hgrow3 _; obtain ⟨S', hmS', hSS'⟩ := grown_moves (hK4.alloc _) hgrow3; clear hgrow3))
        refine Handed.intro (len - (i + 1)) (by omega) (hJ1 _ _ _ (by rfl) ?_)
        case _ =>
          have hbare' : ∀ q ∈ ps ++ [(bp, st k x)], q.2.nx.bare = true := by
            intro q hq
            rcases List.mem_append.1 hq with h | h
            · exact hbare q h
            · simp only [List.mem_cons, List.not_mem_nil, or_false] at h
              subst h
              exact st_bare k x
          have hF3 := hF.snoc hm3 gbp (by omega) hP3
          have hF4 := (hF3.still ((Moves.refl [] _).alloc (.cells #[.pointer (some ⟨bp, 0, none⟩)] 32))).apartS hbare' hmS hSS (by decide)
          have hF5 := (hF4.still ((Moves.refl [] _).alloc (.cells #[.int .u8 k, .int .i64 x] 37))).apartS hbare' hmS' hSS' (by decide)
          have hQ5 := ((((hQr.still hm3).alloc (.cells #[.pointer (some ⟨bp, 0, none⟩)] 32)).apartS hmS hSS hz (by decide)).alloc (.cells #[.int .u8 k, .int .i64 x] 37)).apartS hmS' hSS' hz (by decide)
          have hL5 := own_moves (hown2.alloc (.cells #[.int .u8 k, .int .i64 x] 37)) hmS' (fun g hg hm => by obtain ⟨c1, h1⟩ := (own_has (hown2.alloc (.cells #[.int .u8 k, .int .i64 x] 37)) g hg).2; obtain ⟨c2, h2⟩ := (hSS' g hm).2; exact h1.ne_type h2 (by decide) rfl)
          rw [pvl_snoc, show (ps.map (·.1)) ++ [bp] = (ps ++ [(bp, st k x)]).map (·.1) by simp] at hL5
          have e3 := kvl_snoc ko (k, x)
          simp only at e3
          rw [e3] at hown3
          refine ⟨i + 1, ps ++ [(bp, st k x)], ko ++ [(k, x)], rfl, by omega, by simp; omega, rfl, hK.snoc bp k x hLoc hKd, hbare', hQ5, ?_, ?_, hF5, ?_⟩
          · rw [List.length_append]
            exact hL5
          · rw [List.length_append]
            exact hown3
          · exact (((hmr.trans hm3 (by simp)).alloc _).trans hmS (fun y hy => .inr (hSS y hy).1)).alloc _ |>.trans hmS' (fun y hy => .inr (hSS' y hy).1)
      · have hS := Lib.hid hSt
        clear hSt
        have q2 := hQr.q.cell 2
        go_wp2_with (go_at_call 14; go_must (refine (hS.out _ ?hq).mono ?_; (case hq => go_simp); rintro e w3 ⟨rfl, hm3⟩))
        refine Handed.intro (len - (i + 1)) (by omega) (hJ1 _ _ _ (by rfl) ?_)
        case _ => exact ⟨i + 1, ps, ko, rfl, by omega, by omega, rfl, hK, hbare, hQr.still hm3, own_moves hownL hm3 (fun _ _ => by simp), own_moves hownK hm3 (fun _ _ => by simp), hF.still hm3, hmr.trans hm3 (by simp)⟩
    · obtain rfl : i = len := by omega
      obtain ⟨LA, lcap, rfl⟩ := own_slice hownL
      obtain ⟨KB, kcap', rfl⟩ := own_slice hownK
      obtain ⟨m, hm⟩ : ∃ m, m = ps.length := ⟨_, rfl⟩
      rw [← hm] at hownL hownK hpi ⊢
      have HM := Lib.hid hm
      clear hm
      have hmk := make_nums m (by omega)
      have hwr := hmr.size
      obtain ⟨hb, hhb⟩ : ∃ hb, hb = wr.heap.size := ⟨_, rfl⟩
      have hhb0 : w.heap.size ≤ hb := by omega
      have HHB := Lib.hid hhb
      clear hhb
      go_wp2_with fail
      rw [← HHB.out]
      refine wp_loop_mix m6loop2 (fun k f wx => ∃ (T i : Nat) (l : List Nat) (ps' : List (Nat × Pn)), k = slen - i ∧ i ≤ slen ∧ f 19 = .int .u64 (T : Nat) ∧ f 20 = .int .i64 (i : Nat) ∧ ps'.map (·.1) = ps.map (·.1) ∧ Kept batch n limit l (ps'.map (·.2)) (ko.map (·.1)) T ∧
        Quo wx bq bc bw batch n l ∧ wx.ownsRow w.heap.size 32 1 (.slice LA m lcap) m (pvl (ps.map (·.1))) ∧ wx.ownsRow w.heap.size 37 2 (.slice KB m kcap') m (kvl ko) ∧ Has wx hb 39 (wds (ps'.map (·.2.nx.hand))) ∧ Fam wx w.heap.size bq (al ps') ∧ Moves [] w wx) slen ?_ ?_
      · have h0 : ps.map (·.2.nx.hand) = List.replicate m 0 := by
          rw [HM.out]
          apply List.ext_getElem?
          intro j
          rw [List.getElem?_map, List.getElem?_replicate]
          split
          · rename_i hj
            rw [List.getElem?_eq_getElem hj]
            have := hbare _ (List.getElem_mem hj)
            simp only [Option.map_some, Option.some.injEq]
            cases hnx : (ps[j]).2.nx <;> rw [hnx] at this <;> first | rfl | cases this
          · rename_i hj
            rw [List.getElem?_eq_none (by omega)]
            rfl
        refine ⟨0, 0, _, ps, by omega, Nat.zero_le _, rfl, rfl, rfl, hK, hQr.alloc _, hownL.alloc _, hownK.alloc _, ?_, hF.still ((Moves.refl [] _).alloc _), hmr.alloc _⟩
        rw [h0]
        exact Has.new' HHB.out.symm
      · rintro gk f wr hrel J2 K2 hJ2 hK2'
        dsimp only [mix, m6loop2]
        generalize f 19 = a19 at hrel ⊢
        generalize f 20 = a20 at hrel ⊢
        obtain ⟨T, i, l, ps', rfl, hi, rfl, rfl, hps, hK, hQx, hownL', hownK', hH, hFx, hmx⟩ := hrel
        by_cases hlt : i < slen
        · obtain ⟨b, off, rfl, hbl, hcells⟩ := HXS.out (by omega)
          obtain ⟨x, hx⟩ : ∃ x, xs[i]? = some x := ⟨_, List.getElem?_eq_getElem (by have := HLEN.out; omega)⟩
          have cx0 := hcells i x hx
          have cx : wr.cell? ⟨b, off + i, none⟩ = some (.int .i64 x) := by rw [cell_kept hmx (by simp) hbl]; exact cx0
          clear hcells cx0 hx
          have hi' : (i : Int) < (slen : Int) := by omega
          by_cases hx0 : x < 0
          · go_wp2_with fail
            refine Handed.intro (slen - (i + 1)) (by omega) (hJ2 _ _ _ (by rfl) ?_)
            case _ => exact ⟨T, i + 1, l, ps', rfl, by omega, rfl, rfl, hps, hK, hQx, hownL', hownK', hH, hFx, hmx⟩
          · by_cases hxm : (m : Int) ≤ x
            · go_wp2_with fail
              refine Handed.intro (slen - (i + 1)) (by omega) (hJ2 _ _ _ (by rfl) ?_)
              case _ => exact ⟨T, i + 1, l, ps', rfl, by omega, rfl, rfl, hps, hK, hQx, hownL', hownK', hH, hFx, hmx⟩
            · obtain ⟨k, rfl⟩ := Int.eq_ofNat_of_zero_le (show 0 ≤ x by omega)
              have hkm : k < m := by omega
              have hpl0 : ps'.length = m := by have h1 := congrArg List.length hps; simp only [List.length_map] at h1; rw [h1, ← HM.out]
              have hkl0 : ko.length = m := by have h1 := hK.klen; simp only [List.length_map] at h1; rw [h1, hpl0]
              obtain ⟨⟨bp, p⟩, hk⟩ : ∃ q, ps'[k]? = some q := ⟨_, List.getElem?_eq_getElem (by omega)⟩
              obtain ⟨⟨kk, wk⟩, hko⟩ : ∃ q, ko[k]? = some q := ⟨_, List.getElem?_eq_getElem (by omega)⟩
              have HPL := Lib.hid hpl0
              have HKL0 := Lib.hid hkl0
              clear hpl0 hkl0
              have hbpk : (ps.map (·.1))[k]? = some bp := by rw [← hps]; simp [hk]
              obtain ⟨gl, capl, eL, hgl0, hgl, _, _, hcellL⟩ := own_at hownL' (by omega)
              obtain ⟨gk, capk, eK, hgk0, hgk, _, _, hcellK⟩ := own_at hownK' (by omega)
              simp only [Value.slice.injEq, true_and] at eL eK
              obtain ⟨rfl, rfl⟩ := eL
              obtain ⟨rfl, rfl⟩ := eK
              have cL : wr.cell? ⟨gl, k, none⟩ = some (.pointer (some ⟨bp, 0, none⟩)) := hcellL k _ (pvl_at hbpk)
              have cK : wr.cell? ⟨gk, k * 2, none⟩ = some (.int .u8 (kk : Int)) := hcellK (k * 2) _ (kvl_at hko).1
              obtain ⟨hbase, hP⟩ := hFx.pend k bp p (al_get hk)
              have hD0 := done_any bp bq p wr hP
              have hkp : (ps'.map (·.2))[k]? = some p := by simp [hk]
              have hpsn := hps
              have HPS := Lib.hid hps
              clear hps hbpk hcellL hcellK hpsn
              cases he : p.nx.ended with
              | true =>
                rw [he] at hD0
                have HD := Lib.hid hD0
                clear hD0 he
                have HKP := Lib.hid hkp
                have HK := Lib.hid hk
                have HKO := Lib.hid hko
                clear hkp hk hko
                go_wp2_with (go_at_call 19; refine (HD.out).mono ?_; rintro e w' ⟨rfl, rfl⟩)
                refine Handed.intro (slen - (i + 1)) (by omega) (hJ2 _ _ _ (by rfl) ?_)
                case _ => exact ⟨T, i + 1, l, ps', rfl, by omega, rfl, rfl, HPS.out, hK, hQx, hownL', hownK', hH, hFx, hmx⟩
              | false =>
                rw [he] at hD0
                have HD := Lib.hid hD0
                clear hD0
                have hloc := hK.each k p hkp
                have hkk : (ko.map (·.1)).getD k 0 = kk := by simp [List.getD, hko]
                rw [hkk] at hloc
                have htot : l.sum + p.nx.hand ≤ limit := by
                  have h1 := getD_le_sum ((ps'.map (·.2)).map (·.nx.hand)) k
                  have h2 : ((ps'.map (·.2)).map (·.nx.hand)).getD k 0 = p.nx.hand := by simp [List.getD, hk]
                  have h3 := hK.sum
                  rw [h2] at h1
                  omega
                have hst0 := step_any bp bq bc bw batch n l p wr hP hQx (hloc.1.wf hb1 hf3 hf1 htot)
                have hks := kinds_step batch n limit kk l p hK.len hloc.1 hb1 hloc.2 he
                have hK2 := (hK.step hb1 hkp).resolve_right (by rw [he]; simp)
                have hkeep := fun b h => keep_step batch n b l p h he
                obtain ⟨R, hR⟩ : ∃ R, R = qstep batch n l p := ⟨_, rfl⟩
                rw [← hR] at hst0 hks hK2 hkeep
                clear hR
                obtain ⟨l2, p2, d⟩ := R
                obtain ⟨dk, dc, ds, dp, dok⟩ := d
                simp only at hst0 hks hK2 hkeep
                obtain ⟨eb, heb⟩ : ∃ eb, eb = p2.nx.ended := ⟨_, rfl⟩
                rw [← heb] at hst0
                have HEB := Lib.hid heb
                clear heb
                obtain ⟨hk1, hk2, hk3, hk4⟩ := hks
                have hst := Lib.hid hst0
                have HKP := Lib.hid hkp
                have HK := Lib.hid hk
                have HKO := Lib.hid hko
                have H3 := Lib.hid hk3
                have H4 := Lib.hid hk4
                have H2 := Lib.hid hk2
                have H1 := Lib.hid hk1
                have HKEEP := Lib.hid hkeep
                have HKK := Lib.hid hkk
                have HE := Lib.hid he
                clear hkp hk hko hst0 hk1 hk2 hk3 hk4 hkk he hkeep
                go_upto_block 4 with (first | (go_at_call 19; refine (HD.out).mono ?_; rintro e w' ⟨rfl, rfl⟩) | (go_at_call 17; go_must (refine (hst.out).mono ?_; rintro e w5 ⟨rfl, hP5, hQ5, hm5⟩; simp only [Dd.val, did])))
                obtain ⟨cs77, hP77⟩ := hP.at
                have hHT : hb ∉ [bp, bw] := by
                  simp only [List.mem_cons, List.not_mem_nil, or_false, not_or]
                  exact ⟨hH.ne_type hP77 (by decide), hH.ne_type hQx.m (by decide)⟩
                have hLT : gl ∉ [bp, bw] := by
                  obtain ⟨cs, h1⟩ := (own_has hownL' gl rfl).2
                  simp only [List.mem_cons, List.not_mem_nil, or_false, not_or]
                  exact ⟨h1.ne_type hP77 (by decide), h1.ne_type hQx.m (by decide)⟩
                have hKT : gk ∉ [bp, bw] := by
                  obtain ⟨cs, h1⟩ := (own_has hownK' gk rfl).2
                  simp only [List.mem_cons, List.not_mem_nil, or_false, not_or]
                  exact ⟨h1.ne_type hP77 (by decide), h1.ne_type hQx.m (by decide)⟩
                have hgH : gl ≠ hb ∧ gk ≠ hb ∧ bq ≠ hb ∧ bp ≠ hb := by
                  obtain ⟨cs, h1⟩ := (own_has hownK' gk rfl).2
                  obtain ⟨cs', h2⟩ := (own_has hownL' gl rfl).2
                  exact ⟨h2.ne_type hH (by decide), h1.ne_type hH (by decide), hQx.q.ne_type hH (by decide), hP77.ne_type hH (by decide)⟩
                have hH5 := hm5.has hH hHT
                have cL5 : w5.cell? ⟨gl, k, none⟩ = some (.pointer (some ⟨bp, 0, none⟩)) := by rw [cell_kept hm5 hLT hgl]; exact cL
                have cK5 : w5.cell? ⟨gk, k * 2, none⟩ = some (.int .u8 (kk : Int)) := by rw [cell_kept hm5 hKT hgk]; exact cK
                have hL5 := own_moves hownL' hm5 (fun g hg => by cases hg; exact hLT)
                have hKr5 := own_moves hownK' hm5 (fun g hg => by cases hg; exact hKT)
                have hF5 := hFx.step (al_get HK.out) hm5 hQx.m hP5
                rw [al_set] at hF5
                have hM5 := hmx.trans hm5 (fun y hy => by
                  simp only [List.mem_cons, List.not_mem_nil, or_false] at hy
                  rcases hy with rfl | rfl
                  · exact .inr hbase
                  · exact .inr gbw)
                have cH5 : w5.cell? ⟨hb, k, none⟩ = some (.int .u64 (p.nx.hand : Int)) := by
                  rw [hH5.cell k]
                  have h1 := HK.out
                  simp [wds, h1]
                have fH5 := hH5.frozen k
                have hhl5 := hH5.lt
                have hgl5 : gl < w5.heap.size := Nat.lt_of_lt_of_le hgl hm5.size
                have hgk5 : gk < w5.heap.size := Nat.lt_of_lt_of_le hgk hm5.size
                have n1 : ¬ gl = w5.heap.size := by omega
                have n2 : ¬ gk = w5.heap.size := by omega
                have n3 : ¬ hb = w5.heap.size := by omega
                have n4 : ¬ w5.heap.size = hb := by omega
                have hkl : k < ps'.length := (List.getElem?_eq_some_iff.1 HK.out).1
                have RA : ∀ (o : Obj), (p2.nx.ended = false → p.nx.hand = p2.nx.hand) → ∃ h' : Nat, (p2.nx.ended = false → h' = p2.nx.hand) ∧ Quo (w5.alloc o) bq bc bw batch n l2 ∧ (w5.alloc o).ownsRow w.heap.size 32 1 (.slice (some ⟨gl, 0, none⟩) m lcap) m (pvl (ps.map (·.1))) ∧
                    (w5.alloc o).ownsRow w.heap.size 37 2 (.slice (some ⟨gk, 0, none⟩) m kcap') m (kvl ko) ∧ Has (w5.alloc o) hb 39 (wds ((ps'.map (·.2.nx.hand)).set k h')) ∧ Fam (w5.alloc o) w.heap.size bq (al (ps'.set k (bp, p2))) ∧ Moves [] w (w5.alloc o) := by
                  intro o h0
                  refine ⟨p.nx.hand, h0, hQ5.alloc o, hL5.alloc o, hKr5.alloc o, ?_, hF5.still ((Moves.refl [] _).alloc o), hM5.alloc o⟩
                  rw [set_same _ _ _ (by have h1 := HK.out; simp [h1])]
                  exact hH5.alloc o
                have RB : ∀ (o : Obj) (hv : Nat), (p2.nx.ended = false → hv = p2.nx.hand) → ∃ h' : Nat, (p2.nx.ended = false → h' = p2.nx.hand) ∧ Quo ((w5.setCell ⟨hb, k, none⟩ (.int .u64 hv)).alloc o) bq bc bw batch n l2 ∧ ((w5.setCell ⟨hb, k, none⟩ (.int .u64 hv)).alloc o).ownsRow w.heap.size 32 1 (.slice (some ⟨gl, 0, none⟩) m lcap) m (pvl (ps.map (·.1))) ∧
                    ((w5.setCell ⟨hb, k, none⟩ (.int .u64 hv)).alloc o).ownsRow w.heap.size 37 2 (.slice (some ⟨gk, 0, none⟩) m kcap') m (kvl ko) ∧ Has ((w5.setCell ⟨hb, k, none⟩ (.int .u64 hv)).alloc o) hb 39 (wds ((ps'.map (·.2.nx.hand)).set k h')) ∧ Fam ((w5.setCell ⟨hb, k, none⟩ (.int .u64 hv)).alloc o) w.heap.size bq (al (ps'.set k (bp, p2))) ∧ Moves [] w ((w5.setCell ⟨hb, k, none⟩ (.int .u64 hv)).alloc o) := by
                  intro o hv h0
                  have hmH : Moves [hb] w5 (w5.setCell ⟨hb, k, none⟩ (.int .u64 (hv : Int))) := (Moves.refl [hb] _).setOld (p := ⟨hb, k, none⟩) (by simp) _
                  refine ⟨hv, h0, (hQ5.off hH5 (by decide) (by omega) _).alloc o, (own_moves hL5 hmH (fun g hg => by cases hg; simpa using hgH.1)).alloc o, (own_moves hKr5 hmH (fun g hg => by cases hg; simpa using hgH.2.1)).alloc o, ((hH5.put k _).of_eq (wds_set _ k hv)).alloc o, Fam.still ?_ ((Moves.refl [] _).alloc o), (hM5.setNew (p := ⟨hb, k, none⟩) hhb0 _).alloc o⟩
                  refine hF5.writeNum (k := k) hmH hH5 (by rw [wds_size, al_length]; simp) (fun bp' p' b' hk' hn' hcs => ?_) (by rw [al_length]; simpa using hkl)
                  have h1 := al_of hk'
                  rw [List.getElem?_set_self hkl] at h1
                  simp only [Option.some.injEq, Prod.mk.injEq] at h1
                  obtain ⟨rfl, rfl⟩ := h1
                  have h2 := HKEEP.out b' hn'
                  have h3 := (hK2.each k p2 (by rw [List.getElem?_set_self (by simpa using hkl)])).1.2.2
                  rw [hn'] at h3
                  have h4 : (wds (ps'.map (·.2.nx.hand)))[k]? = some (.int .u64 ((p.nx.hand : Nat) : Int)) := by
                    have h5 := HK.out
                    simp [wds, h5]
                  rw [hcs, h2] at h4
                  have hk0 : k = 0 := by
                    rcases Nat.eq_zero_or_pos k with h6 | h6
                    · exact h6
                    · rw [Array.getElem?_eq_none (by simp; omega)] at h4; cases h4
                  subst hk0
                  simp only [List.getElem?_toArray, List.getElem?_cons_zero, Option.some.injEq, Value.int.injEq, true_and] at h4
                  simp only at h3
                  omega
                refine wp_cut_mix m6cut1 (fun f wx => ∃ h' : Nat, (p2.nx.ended = false → h' = p2.nx.hand) ∧ Quo wx bq bc bw batch n l2 ∧ wx.ownsRow w.heap.size 32 1 (.slice (some ⟨gl, 0, none⟩) m lcap) m (pvl (ps.map (·.1))) ∧
                    wx.ownsRow w.heap.size 37 2 (.slice (some ⟨gk, 0, none⟩) m kcap') m (kvl ko) ∧ Has wx hb 39 (wds ((ps'.map (·.2.nx.hand)).set k h')) ∧ Fam wx w.heap.size bq (al (ps'.set k (bp, p2))) ∧ Moves [] w wx) ?_ ?_
                · intro JC KC hJC hKC
                  by_cases c1 : kk = 1
                  · have b1 : ((kk : Int) == 1) = true := by simp [c1]
                    have b2 : ((kk : Int) == 2) = false := by simp [c1]
                    by_cases c5 : dk = 5
                    · have b5 : ((dk : Int) == 5) = true := by simp [c5]
                      by_cases c6 : dc = 0
                      · have b6 : ((dc : Int) == 0) = true := by simp [c6]
                        cases c7 : dok with
                        | true =>
                          have hs := H2.out (by simp [saysBorrowed, c1, c5, c6, c7])
                          have i1 : (dp : Int) + 1 ≤ ds := by omega
                          have i2 : (ds : Int) ≤ (dp : Int) + batch := by omega
                          subst c7
                          have RBx := Lib.hid (fun o => RB o (ds - dp) (fun e => by have h := H3.out; simp [e, saysBorrowed, c1, c5, c6] at h; exact h.symm))
                          have i3 : ((ds - dp : Nat) : Int) = (ds : Int) - (dp : Int) := by omega
                          have I3 := Lib.hid i3
                          clear i3 hs
                          go_wp2_with fail
                          refine Met.intro (hJC _ _ (by rfl) ?_)
                          rw [← I3.out]
                          exact RBx.out _
                        | false =>
                          subst c7
                          have RAx := Lib.hid (fun o => RA o (fun e => by have h := H3.out; simp [e, saysBorrowed, saysEmptied, c1] at h; exact h.symm))
                          go_wp2_with fail
                          refine Met.intro (hJC _ _ (by rfl) ?_)
                          exact RAx.out _
                      · have b6 : ((dc : Int) == 0) = false := by simp; omega
                        have RAx := Lib.hid (fun o => RA o (fun e => by have h := H3.out; simp [e, saysBorrowed, saysEmptied, c1, c6] at h; exact h.symm))
                        go_wp2_with fail
                        refine Met.intro (hJC _ _ (by rfl) ?_)
                        exact RAx.out _
                    · have b5 : ((dk : Int) == 5) = false := by simp; omega
                      have RAx := Lib.hid (fun o => RA o (fun e => by have h := H3.out; simp [e, saysBorrowed, saysEmptied, c1, c5] at h; exact h.symm))
                      go_wp2_with fail
                      refine Met.intro (hJC _ _ (by rfl) ?_)
                      exact RAx.out _
                  · have b1 : ((kk : Int) == 1) = false := by simp; omega
                    by_cases c2 : kk = 2
                    · have b2 : ((kk : Int) == 2) = true := by simp [c2]
                      by_cases c3 : dk = 4
                      · have b3 : ((dk : Int) == 4) = true := by simp [c3]
                        have RBx := Lib.hid (fun o => RB o ds (fun e => by have h := H3.out; simp [e, saysBorrowed, saysEmptied, c1, c2, c3] at h; exact h.symm))
                        go_wp2_with fail
                        refine Met.intro (hJC _ _ (by rfl) ?_)
                        exact RBx.out _
                      · have b3 : ((dk : Int) == 4) = false := by simp; omega
                        have RAx := Lib.hid (fun o => RA o (fun e => by have h := H3.out; simp [e, saysBorrowed, saysEmptied, c1, c3] at h; exact h.symm))
                        go_wp2_with fail
                        refine Met.intro (hJC _ _ (by rfl) ?_)
                        exact RAx.out _
                    · have b2 : ((kk : Int) == 2) = false := by simp; omega
                      have RAx := Lib.hid (fun o => RA o (fun e => by have h := H3.out; simp [e, saysBorrowed, saysEmptied, c1, c2] at h; exact h.symm))
                      go_wp2_with fail
                      refine Met.intro (hJC _ _ (by rfl) ?_)
                      exact RAx.out _
                · intro f wc hcut
                  dsimp only [mix, m6cut1]
                  obtain ⟨h', hh', hQ6, hL6, hK6, hH6, hF6, hM6⟩ := hcut
                  obtain ⟨T2, hT2⟩ : ∃ T2, T2 = T + took p p2 := ⟨_, rfl⟩
                  rw [← hT2] at hK2
                  have h4 := H4.out
                  have hmap : (ps'.map (·.2)).set k p2 = (ps'.set k (bp, p2)).map (·.2) := by simp [List.map_set]
                  have hmapH : (ps'.map (·.2.nx.hand)).set k p2.nx.hand = (ps'.set k (bp, p2)).map (·.2.nx.hand) := by simp [List.map_set]
                  have hk2 : (ps'.set k (bp, p2))[k]? = some (bp, p2) := List.getElem?_set_self hkl
                  rw [hmap] at hK2
                  obtain ⟨qs, hqs⟩ : ∃ qs, qs = ps'.set k (bp, p2) := ⟨_, rfl⟩
                  have hps2 : qs.map (·.1) = ps.map (·.1) := by
                    rw [← HPS.out, hqs, List.map_set]
                    have h1 := HK.out
                    apply List.ext_getElem?
                    intro j
                    rw [List.getElem?_set]
                    split
                    · rename_i e
                      subst e
                      simp only [List.length_map, hkl, if_true]
                      simp [h1]
                    · rfl
                  rw [← hqs] at hK2 hmapH hk2 hF6
                  have hKs := hK2.sum
                  have hqn : k < qs.length := (List.getElem?_eq_some_iff.1 hk2).1
                  have HPS2 := Lib.hid hps2
                  have HK2 := Lib.hid hk2
                  have HMH := Lib.hid hmapH
                  have HT2 := Lib.hid hT2
                  have H4b := Lib.hid h4
                  have HQS := Lib.hid hqs
                  clear hps2 hk2 hmapH hT2 h4 hmap hqs
                  have hcH : gl ≠ hb := hgH.1
                  have m1 : ¬ gl = hb := hgH.1
                  have m2 : ¬ gk = hb := hgH.2.1
                  obtain ⟨gl', capl, eL, _, hglc, _, _, hcellL⟩ := own_at hL6 (by omega)
                  obtain ⟨gk', capk, eK, _, hgkc, _, _, hcellK⟩ := own_at hK6 (by omega)
                  simp only [Value.slice.injEq, Option.some.injEq, Addr.mk.injEq, true_and, and_true] at eL eK
                  obtain ⟨rfl, rfl⟩ := eL
                  obtain ⟨rfl, rfl⟩ := eK
                  have cL6 : wc.cell? ⟨gl, k, none⟩ = some (.pointer (some ⟨bp, 0, none⟩)) := hcellL k _ (pvl_at (by rw [← HPS2.out]; have h1 := HK2.out; simp [h1]))
                  have cK6 : wc.cell? ⟨gk, k * 2, none⟩ = some (.int .u8 (kk : Int)) := hcellK (k * 2) _ (kvl_at HKO.out).1
                  obtain ⟨hx, cH6⟩ : ∃ hx, wc.cell? ⟨hb, k, none⟩ = some hx := ⟨.int .u64 (h' : Int), by
                    rw [hH6.cell k]
                    simp only [wds, List.getElem?_toArray, List.getElem?_map]
                    rw [List.getElem?_set_self (by simpa using hkl)]
                    rfl⟩
                  have fH6 := hH6.frozen k
                  go_upto_if 173 with fail
                  refine wp_cut_mix m6cut2 (fun f wx => f 19 = .int .u64 (T2 : Nat) ∧ Quo wx bq bc bw batch n l2 ∧ wx.ownsRow w.heap.size 32 1 (.slice (some ⟨gl, 0, none⟩) m lcap) m (pvl (ps.map (·.1))) ∧
                    wx.ownsRow w.heap.size 37 2 (.slice (some ⟨gk, 0, none⟩) m kcap') m (kvl ko) ∧ Has wx hb 39 (wds (qs.map (·.2.nx.hand))) ∧ Fam wx w.heap.size bq (al qs) ∧ Moves [] w wx) ?_ ?_
                  · intro JC KC hJC hKC
                    cases eb with
                    | false =>
                      have e2 := HEB.out.symm
                      have hT : T2 = T := by
                        have h1 := HT2.out
                        have h2 := H4b.out
                        rw [e2] at h2
                        simp at h2
                        omega
                      subst hT
                      have hh := hh' e2
                      subst hh
                      rw [HMH.out] at hH6
                      have E2 := Lib.hid e2
                      clear e2
                      go_wp2_with fail
                      refine Met.intro (hJC _ _ (by rfl) ?_)
                      exact ⟨rfl, hQ6, hL6, hK6, hH6, hF6, hM6⟩
                    | true =>
                      have e2 := HEB.out.symm
                      have h0 : p2.nx.hand = 0 := by cases hn : p2.nx <;> rw [hn] at e2 <;> first | rfl | cases e2
                      have hmH : Moves [hb] wc (wc.setCell ⟨hb, k, none⟩ (.int .u64 0)) := (Moves.refl [hb] _).setOld (p := ⟨hb, k, none⟩) (by simp) _
                      have hQ7 := hQ6.off (k := k) hH6 (by decide) (by omega) (.int .u64 0)
                      have hL7 := own_moves hL6 hmH (fun g hg => by cases hg; simpa using hgH.1)
                      have hK7 := own_moves hK6 hmH (fun g hg => by cases hg; simpa using hgH.2.1)
                      have hH7 : Has (wc.setCell ⟨hb, k, none⟩ (.int .u64 0)) hb 39 (wds (qs.map (·.2.nx.hand))) := by
                        have h1 := (hH6.put k (.int .u64 ((0 : Nat) : Int))).of_eq (wds_set _ k 0)
                        rw [List.set_set] at h1
                        have h2 := HMH.out
                        rw [h0] at h2
                        rw [h2] at h1
                        exact h1
                      have hF7 : Fam (wc.setCell ⟨hb, k, none⟩ (.int .u64 0)) w.heap.size bq (al qs) := by
                        refine hF6.writeNum (k := k) hmH hH6 (by rw [wds_size, al_length, HQS.out]; simp) (fun bp' p' b' hk' hn' hcs => ?_) (by rw [al_length]; exact hqn)
                        have h1 := al_of hk'
                        rw [HK2.out] at h1
                        simp only [Option.some.injEq, Prod.mk.injEq] at h1
                        obtain ⟨rfl, rfl⟩ := h1
                        rw [hn'] at e2
                        cases e2
                      have hM7 := hM6.setNew (p := ⟨hb, k, none⟩) hhb0 (.int .u64 0)
                      have hP7 := (hF7.pend k bp p2 (al_get HK2.out)).2
                      have HA0 := answer_any bp bq p2 _ hP7
                      have han : p2.answer = p2.ans := by simp [Pn.answer, e2]
                      rw [han] at HA0
                      have HA := Lib.hid HA0
                      have hkin := H1.out
                      have E2 := Lib.hid e2
                      by_cases c1 : kk = 1
                      · have b1 : ((kk : Int) == 1) = true := by simp [c1]
                        have ha1 : p2.ans ≤ 1 := by
                          have h1 := H1.out
                          cases hn : p2.nx <;> rw [hn] at e2 <;> first | cases e2 | skip
                          simp only [Kinds, hn] at h1
                          exact h1 c1
                        have hT : T2 = T + p2.ans := by
                          have h1 := HT2.out
                          have h2 := H4b.out
                          rw [e2] at h2
                          simp [c1] at h2
                          omega
                        have hTl : T + p2.ans ≤ 1099511627776 := by omega
                        have HTT := Lib.hid hT
                        clear hT e2 h0 HA0 han hkin hP7 hh'
                        go_wp2_with (go_at_call 20; refine (HA.out).mono ?_; rintro e w' ⟨rfl, rfl⟩)
                        refine Met.intro (hJC _ _ (by rfl) ?_)
                        refine ⟨?_, hQ7, hL7, hK7, hH7, hF7, hM7⟩
                        rw [HTT.out]
                        go_num
                      · have b1 : ((kk : Int) == 1) = false := by simp; omega
                        have hT : T2 = T := by
                          have h1 := HT2.out
                          have h2 := H4b.out
                          simp [c1] at h2
                          omega
                        subst hT
                        clear e2 h0 HA0 han hkin hP7 hh'
                        go_wp2_with fail
                        refine Met.intro (hJC _ _ (by rfl) ?_)
                        exact ⟨rfl, hQ7, hL7, hK7, hH7, hF7, hM7⟩
                  · intro f wc hcut
                    dsimp only [mix, m6cut2]
                    generalize f 19 = a19 at hcut ⊢
                    obtain ⟨rfl, hQ7, hL7, hK7, hH7, hF7, hM7⟩ := hcut
                    obtain ⟨n1, hn1e⟩ : ∃ n1, n1 = n + 1 := ⟨_, rfl⟩
                    have hA0 := all_any bq bc bw batch n l2 wc hQ7 hf3
                    rw [← hn1e] at hA0
                    have hA := Lib.hid hA0
                    have hlen2 : l2.length = n1 := by rw [hK2.len, hn1e]
                    have hn1b : n1 ≤ 65 := by omega
                    have hn1z : 0 < n1 := by omega
                    have hne : ((n1 : Int) != (n : Int) + 1) = false := by simp; omega
                    have hT2l : (T2 : Int) ≤ (limit : Int) := by omega
                    have hl2l : T2 + l2.sum ≤ limit := by omega
                    have HL2 := Lib.hid hlen2
                    have hhsum : T2 + l2.sum + (qs.map (·.2.nx.hand)).sum = limit := by
                      rw [List.map_map] at hKs
                      have e : ((fun x => x.nx.hand) ∘ fun x : Nat × Pn => x.2) = fun x => x.2.nx.hand := rfl
                      rw [e] at hKs
                      omega
                    have HHS := Lib.hid hhsum
                    have HN1E := Lib.hid hn1e
                    have hqm : qs.length = m := by have h1 := congrArg List.length HPS2.out; simp only [List.length_map] at h1; rw [h1, ← HM.out]
                    have HQM := Lib.hid hqm
                    clear hA0 hlen2 hhsum hn1e hKs hqm
                    go_wp2_with (go_at_call 22; go_must (refine (hA.out).mono ?_; rintro e w8 ⟨v8, rfl, hown8, hm8⟩; obtain ⟨g8, cap8, rfl, _, hg8, _, _, hc8⟩ := own_form hown8 hn1z))
                    have HC8 := Lib.hid hc8
                    clear hc8
                    refine wp_loop_mix m6loop3 (fun k f wx => ∃ c : Nat, k = n1 - c ∧ c ≤ n1 ∧ f 24 = .int .u64 ((T2 + (l2.take c).sum : Nat) : Int) ∧ f 26 = .int .i64 (c : Nat) ∧ wx = w8) n1 ?_ ?_
                    · exact ⟨0, by omega, Nat.zero_le _, rfl, rfl, rfl⟩
                    · rintro gk f wr hrel J3 K3 hJ3 hK3
                      dsimp only [mix, m6loop3]
                      generalize f 24 = a24 at hrel ⊢
                      generalize f 26 = a26 at hrel ⊢
                      obtain ⟨c, rfl, hc, ha, rfl, rfl⟩ := hrel
                      by_cases hlt : c < n1
                      · have hx : l2[c]? = some (l2.getD c 0) := getD_of (by rw [HL2.out]; exact hlt)
                        have cx : wr.cell? ⟨g8, c, none⟩ = some (.int .u64 ((l2.getD c 0 : Nat) : Int)) := HC8.out c _ (by simp only [wvs, List.getElem?_map, hx, Option.map_some])
                        have hs : (l2.take (c + 1)).sum = (l2.take c).sum + l2.getD c 0 := by
                          rw [List.take_add_one, hx]
                          simp
                        have hsb : (l2.take (c + 1)).sum ≤ l2.sum := by
                          have h1 := congrArg List.sum (List.take_append_drop (c + 1) l2)
                          rw [List.sum_append] at h1
                          omega
                        obtain ⟨A, hA1⟩ : ∃ A, A = T2 + (l2.take c).sum := ⟨_, rfl⟩
                        obtain ⟨B, hB1⟩ : ∃ B, B = l2.getD c 0 := ⟨_, rfl⟩
                        have hAB : A + B ≤ 1099511627776 := by omega
                        rw [← hA1] at ha
                        rw [← hB1] at cx
                        have HAB : Hid (A + B = T2 + (l2.take (c + 1)).sum) := Lib.hid (by omega)
                        subst ha
                        clear hx hs hA1 hB1
                        go_wp2_with fail
                        refine Handed.intro (n1 - (c + 1)) (by omega) (hJ3 _ _ _ (by rfl) ?_)
                        exact ⟨c + 1, rfl, by omega, by rw [← HAB.out]; rfl, rfl, rfl⟩
                      · obtain rfl : c = n1 := by omega
                        rw [List.take_of_length_le (by rw [HL2.out]; exact Nat.le_refl _)] at ha
                        subst ha
                        obtain ⟨w9, hw9⟩ : ∃ w9, w9 = wr := ⟨_, rfl⟩
                        subst hw9
                        have hcH : ∀ j, j < m → w9.cell? ⟨hb, j, none⟩ = some (.int .u64 (((qs.map (·.2.nx.hand)).getD j 0 : Nat) : Int)) := by
                          intro j hj
                          rw [cell_kept hm8 (by simp) hH7.lt, hH7.cell]
                          exact wds_get _ _ (by simp only [List.length_map]; rw [HQM.out]; exact hj)
                        have HCH := Lib.hid hcH
                        clear hcH
                        obtain ⟨hs, hhs⟩ : ∃ hs, hs = qs.map (·.2.nx.hand) := ⟨_, rfl⟩
                        have hhl : hs.length = m := by rw [hhs]; simp only [List.length_map]; exact HQM.out
                        rw [← hhs] at HCH HHS
                        have HHL := Lib.hid hhl
                        have HHE := Lib.hid hhs
                        clear hhl hhs
                        obtain ⟨U, hU⟩ : ∃ U, U = T2 + l2.sum := ⟨_, rfl⟩
                        rw [← hU] at HHS hl2l ⊢
                        clear hU
                        go_wp2_with fail
                        refine wp_loop_mix m6loop4 (fun k f wx => ∃ c : Nat, k = m - c ∧ c ≤ m ∧ f 24 = .int .u64 ((U + (hs.take c).sum : Nat) : Int) ∧ f 27 = .int .i64 (c : Nat) ∧ wx = w9) m ?_ ?_
                        · exact ⟨0, by omega, Nat.zero_le _, rfl, rfl, rfl⟩
                        · rintro gk f wr hrel J4 K4 hJ4 hK4
                          dsimp only [mix, m6loop4]
                          generalize f 24 = a24 at hrel ⊢
                          generalize f 27 = a27 at hrel ⊢
                          obtain ⟨c, rfl, hc, ha, rfl, hwr9⟩ := hrel
                          subst hwr9
                          by_cases hlt : c < m
                          · have hx : hs[c]? = some (hs.getD c 0) := getD_of (by rw [HHL.out]; exact hlt)
                            have cx := HCH.out c hlt
                            have hsu : (hs.take (c + 1)).sum = (hs.take c).sum + hs.getD c 0 := by
                              rw [List.take_add_one, hx]
                              simp
                            have hsb : (hs.take (c + 1)).sum ≤ hs.sum := by
                              have h1 := congrArg List.sum (List.take_append_drop (c + 1) hs)
                              rw [List.sum_append] at h1
                              omega
                            have hle := HHS.out
                            obtain ⟨A, hA1⟩ : ∃ A, A = U + (hs.take c).sum := ⟨_, rfl⟩
                            obtain ⟨B, hB1⟩ : ∃ B, B = hs.getD c 0 := ⟨_, rfl⟩
                            have hAB : A + B ≤ 1099511627776 := by omega
                            rw [← hA1] at ha
                            rw [← hB1] at cx
                            have HAB : Hid (A + B = U + (hs.take (c + 1)).sum) := Lib.hid (by omega)
                            subst ha
                            clear hx hsu hA1 hB1 hle
                            go_wp2_with fail
                            refine Handed.intro (m - (c + 1)) (by omega) (hJ4 _ _ _ (by rfl) ?_)
                            exact ⟨c + 1, rfl, by omega, by rw [← HAB.out]; rfl, rfl, rfl⟩
                          · obtain rfl : c = m := by omega
                            rw [List.take_of_length_le (by rw [HHL.out]; exact Nat.le_refl _), HHS.out] at ha
                            subst ha
                            go_wp2_with fail
                            refine Handed.intro (slen - (i + 1)) (by omega) (hJ2 _ _ _ (by rfl) ?_)
                            case _ => exact ⟨T2, i + 1, l2, qs, rfl, by omega, rfl, rfl, HPS2.out, hK2, hQ7.still hm8, own_moves hL7 hm8 (fun _ _ => by simp), own_moves hK7 hm8 (fun _ _ => by simp), hm8.has hH7 (by simp), hF7.still hm8, hM7.trans hm8 (by simp)⟩
        · obtain rfl : i = slen := by omega
          go_wp2_with fail
          go_ret
          exact ⟨rfl, hmx⟩
end Go.Proofs.YtigacfgoldnoiaaDoor
