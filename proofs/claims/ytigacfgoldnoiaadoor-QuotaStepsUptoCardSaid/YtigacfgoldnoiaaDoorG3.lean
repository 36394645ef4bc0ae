/- Rows of the call's own, made beside operations that are all at their first action. -/
import Derived.Test.YtigacfgoldnoiaaDoorG2
namespace Go.Proofs.YtigacfgoldnoiaaDoor
open Go Go.RowKit
set_option linter.unusedVariables false
set_option linter.unusedSimpArgs false

theorem own_has {w : World} {base e size n : Nat} {v : Value} {xs : List Value} (h : w.ownsRow base e size v n xs) : ∀ k, v.ownBlock = some k → base ≤ k ∧ ∃ cs, Has w k e cs := by
  intro k hk
  rcases h.2 with ⟨rfl, _⟩ | ⟨g, cap, cur, rfl, hb, hh, _⟩
  · simp [Value.ownBlock] at hk
  · simp only [Value.ownBlock, Option.some.injEq] at hk
    subst hk
    exact ⟨hb, _, hh⟩

/-- What an append onto a row of the call's own turns: that row's block at the most. -/
theorem grown_moves {w w' : World} {base e size n : Nat} {v : Value} {xs : List Value} (h : w.ownsRow base e size v n xs) (hg : w.grownBy w' v.ownBlock) :
    ∃ S, Moves S w w' ∧ ∀ g ∈ S, base ≤ g ∧ ∃ cs, Has w g e cs := by
  cases hv : v.ownBlock with
  | none => exact ⟨[], (Moves.refl [] w).grown (row := none) (hv ▸ hg) (fun k hk => by cases hk), fun g hg => by cases hg⟩
  | some k =>
    refine ⟨[k], (Moves.refl [k] w).grown (row := some k) (hv ▸ hg) (fun j hj => by cases hj; exact .inl (by simp)), fun g hg => ?_⟩
    simp only [List.mem_cons, List.not_mem_nil, or_false] at hg
    subst hg
    exact own_has h g hv

theorem own_at {w : World} {base e size n : Nat} {v : Value} {xs : List Value} (h : w.ownsRow base e size v n xs) (hn : 0 < n) :
    ∃ g cap, v = .slice (some ⟨g, 0, none⟩) n cap ∧ base ≤ g ∧ g < w.heap.size ∧ n ≤ cap ∧ cap ≤ maxLen ∧ ∀ i u, xs[i]? = some u → w.cell? ⟨g, i, none⟩ = some u := by
  rcases h.2 with ⟨_, h0⟩ | ⟨g, cap, cur, rfl, hb, hh, hnc, hcm, hs, ht⟩
  · omega
  · refine ⟨g, cap, rfl, hb, Has.lt (g := g) hh, hnc, hcm, fun i u hu => ?_⟩
    rw [Has.cell (g := g) hh i]
    rw [← ht, List.getElem?_take] at hu
    split at hu
    · simpa using hu
    · cases hu

/-- A block is of one type alone. -/
theorem apart_types {w : World} {S : List Nat} {e : TypeId} (hS : ∀ g ∈ S, ∃ cs, Has w g e cs) {x : Nat} {t : TypeId} {cs : Array Value} (hx : Has w x t cs) (hne : t ≠ e) : x ∉ S := by
  intro hm
  obtain ⟨cs', h⟩ := hS x hm
  exact hx.ne_type h hne rfl

/-- The operations under way of a list, all of them there. -/
def al (ps : List (Nat × Pn)) : List (Option (Nat × Pn)) := ps.map some
theorem al_get {ps : List (Nat × Pn)} {k : Nat} {q : Nat × Pn} (h : ps[k]? = some q) : (al ps)[k]? = some (some q) := by simp [al, h]
theorem al_of {ps : List (Nat × Pn)} {k : Nat} {q : Nat × Pn} (h : (al ps)[k]? = some (some q)) : ps[k]? = some q := by
  simp only [al, List.getElem?_map, Option.map_eq_some_iff] at h
  obtain ⟨a, h1, h2⟩ := h
  cases h2
  exact h1
theorem al_set (ps : List (Nat × Pn)) (k : Nat) (q : Nat × Pn) : (al ps).set k (some q) = al (ps.set k q) := by simp [al, List.map_set]
theorem al_length (ps : List (Nat × Pn)) : (al ps).length = ps.length := by simp [al]

theorem Fam.bareMoves {S : List Nat} {a w : World} {base bq : Nat} {ps : List (Nat × Pn)} (h : Fam a base bq (al ps)) (hb : ∀ q ∈ ps, q.2.nx.bare = true) (hm : Moves S a w) (hS : ∀ x cs, Has a x 77 cs → x ∉ S) : Fam w base bq (al ps) := by
  refine ⟨fun k bp p hk => ?_, h.one⟩
  obtain ⟨h1, h2⟩ := h.pend k bp p hk
  obtain ⟨cs, h3⟩ := h2.at
  exact ⟨h1, h2.movesBare hm (hb _ (List.mem_of_getElem? (al_of hk))) (hS bp cs h3)⟩

theorem Fam.snoc {a w : World} {base bq bp : Nat} {p' : Pn} {ps : List (Nat × Pn)} (h : Fam a base bq (al ps)) (hm : Moves [] a w) (hb : a.heap.size ≤ bp) (hbase : base ≤ bp) (hp : PendAt w bp bq p') : Fam w base bq (al (ps ++ [(bp, p')])) := by
  have hs := h.still hm
  have low : ∀ (j bj : Nat) (q : Pn), (al ps)[j]? = some (some (bj, q)) → bj ≠ bp := fun j bj q hj => by
    obtain ⟨cs, h6⟩ := (h.pend j bj q hj).2.at
    have := h6.lt
    omega
  have key : ∀ (j bj : Nat) (q : Pn), (al (ps ++ [(bp, p')]))[j]? = some (some (bj, q)) → (j = ps.length ∧ bj = bp ∧ q = p') ∨ (bj ≠ bp ∧ (al ps)[j]? = some (some (bj, q))) := by
    intro j bj q hj
    have hj' := al_of hj
    rw [List.getElem?_append] at hj'
    split at hj'
    · exact .inr ⟨low j bj q (al_get hj'), al_get hj'⟩
    · rename_i hlt
      have hjl : j - ps.length = 0 := by
        rcases Nat.eq_zero_or_pos (j - ps.length) with h0 | h0
        · exact h0
        · rw [List.getElem?_eq_none (by simp; omega)] at hj'; cases hj'
      rw [hjl] at hj'
      simp only [List.getElem?_cons_zero, Option.some.injEq, Prod.mk.injEq] at hj'
      exact .inl ⟨by omega, hj'.1.symm, hj'.2.symm⟩
  refine ⟨fun j bj q hj => ?_, fun i j b q r hi hj => ?_⟩
  · rcases key j bj q hj with ⟨rfl, rfl, rfl⟩ | ⟨_, h1⟩
    · exact ⟨hbase, hp⟩
    · exact hs.pend j bj q h1
  · rcases key i b q hi with ⟨e0, e1, _⟩ | ⟨n1, h1⟩ <;> rcases key j b r hj with ⟨f0, e2, _⟩ | ⟨n2, h2⟩
    · omega
    · exact (n2 e1).elim
    · exact (n1 e2).elim
    · exact h.one i j b q r h1 h2

/-- A list of numbers, of as many places as there are operations, has turned: what an operation captured lies apart from it. -/
theorem Fam.writeNum {a w : World} {base bq bx k : Nat} {cs : Array Value} {ps : List (Option (Nat × Pn))} (h : Fam a base bq ps) (hm : Moves [bx] a w) (hx : Has a bx 39 cs) (hs : cs.size = ps.length)
    (hk : ∀ bp p b, ps[k]? = some (some (bp, p)) → p.nx = .keep b → cs ≠ #[.int .u64 b]) (hkl : k < ps.length) : Fam w base bq ps := by
  refine ⟨fun j bj q hj => ?_, h.one⟩
  obtain ⟨h1, h2⟩ := h.pend j bj q hj
  obtain ⟨cs3, h3⟩ := h2.at
  have hbj : bj ∉ [bx] := by
    simp only [List.mem_cons, List.not_mem_nil, or_false]
    exact h3.ne_type hx (by decide)
  refine ⟨h1, ?_⟩
  have hjl : j < ps.length := (List.getElem?_eq_some_iff.1 hj).1
  obtain ⟨f, h4, h5⟩ := h2
  refine ⟨f, hm.has h4 hbj, ?_⟩
  obtain ⟨nx, own, saw, left, ans⟩ := q
  cases nx with
  | keep b =>
    obtain ⟨g1, g2, hf, h6, h7⟩ := h5
    refine ⟨g1, g2, hf, hm.has h6 ?_, hm.has h7 ?_⟩
    · simp only [List.mem_cons, List.not_mem_nil, or_false]
      exact h6.ne_type hx (by decide)
    · simp only [List.mem_cons, List.not_mem_nil, or_false]
      rintro rfl
      have e := (h7.inj hx).2
      have hl1 : ps.length = 1 := by rw [← hs, ← e]; rfl
      obtain rfl : j = k := by omega
      exact hk bj _ b hj rfl e.symm
  | give x =>
    obtain ⟨g1, g2, hf, h6, h7⟩ := h5
    refine ⟨g1, g2, hf, hm.has h6 ?_, hm.has h7 ?_⟩
    · simp only [List.mem_cons, List.not_mem_nil, or_false]
      exact h6.ne_type hx (by decide)
    · simp only [List.mem_cons, List.not_mem_nil, or_false]
      exact h7.ne_type hx (by decide)
  | fin => exact h5
  | look => exact h5
  | use => exact h5
  | pool => exact h5
  | borrow => exact h5
  | empty => exact h5
  | sum => exact h5

/-- The start of an operation, whatever it is. -/
def st (kind worker : Nat) : Pn := ⟨if kind = 1 then .look else if kind = 2 then .empty else .sum, if kind = 3 then 1 else worker + 1, 0, 0, 0⟩
theorem st_bare (k x : Nat) : (st k x).nx.bare = true := by
  unfold st
  simp only
  split
  · rfl
  · split <;> rfl
theorem st_hand (k x : Nat) : (st k x).nx.hand = 0 := by
  unfold st
  simp only
  split
  · rfl
  · split <;> rfl
theorem st_ended (k x : Nat) : (st k x).nx.ended = false := by
  unfold st
  simp only
  split
  · rfl
  · split <;> rfl

theorem start_all (bq n : Nat) (kind worker : Int) (h0 : 0 < n) (hn : n ≤ 64) :
    (∃ k x : Nat, kind = k ∧ worker = x ∧ 1 ≤ k ∧ k ≤ 3 ∧ x < n ∧ (k = 3 → x = 0) ∧ StartIs bq n k x (st k x) ∧ (∀ m, Loc n m (st k x)) ∧ Kinds k (st k x)) ∨
    ((¬ ((kind = 1 ∨ kind = 2) ∧ 0 ≤ worker ∧ worker < n ∨ kind = 3 ∧ worker = 0)) ∧
      ∀ W : World, W.cell? ⟨bq, 2, none⟩ = some (.int .i64 n) → Calls Tryd.prog 14 #[.pointer (some ⟨bq, 0, none⟩), .agg #[.int .u8 kind, .int .i64 worker]] W fun e w' =>
        e = .returned (.tuple #[.pointer none, .int .i64 2]) ∧ Moves [] W w') := by
  by_cases c0 : worker < 0
  · exact .inr ⟨by omega, fun W hq => start_neg bq n kind worker W hq c0⟩
  by_cases c1 : (n : Int) ≤ worker
  · exact .inr ⟨by omega, fun W hq => start_high bq n kind worker W hq (by omega) c1⟩
  obtain ⟨x, rfl⟩ := Int.eq_ofNat_of_zero_le (show 0 ≤ worker by omega)
  have hx : x < n := by omega
  by_cases k1 : kind = 1
  · subst k1
    exact .inl ⟨1, x, rfl, rfl, by omega, by omega, hx, by omega, StartIs.take hx hn, fun m => ⟨by simp [st], by simp [st]; omega, trivial⟩, rfl⟩
  by_cases k2 : kind = 2
  · subst k2
    exact .inl ⟨2, x, rfl, rfl, by omega, by omega, hx, by omega, StartIs.back hx hn, fun m => ⟨by simp [st], by simp [st]; omega, trivial⟩, rfl⟩
  by_cases k3 : kind = 3
  · subst k3
    by_cases hx0 : x = 0
    · subst hx0
      exact .inl ⟨3, 0, rfl, rfl, by omega, by omega, hx, by omega, StartIs.sum h0 hn, fun m => ⟨by simp [st], by simp [st]; omega, by simp [st], by simp [st]⟩, rfl⟩
    · refine .inr ⟨by omega, fun W hq => start_left bq n (x : Int) W hq (by omega) (by omega) (by simp; omega)⟩
  · exact .inr ⟨by omega, fun W hq => start_other bq n kind (x : Int) W hq (by omega) (by omega) (by simpa using k1) (by simpa using k2) (by simpa using k3)⟩
end Go.Proofs.YtigacfgoldnoiaaDoor
