/- Many operations under way: how they lie in memory, each by itself. -/
import Derived.Test.YtigacfgoldnoiaaDoorF1
import Derived.Test.YtigacfgoldnoiaaDoorD2
namespace Go.Proofs.YtigacfgoldnoiaaDoor
open Go.RowKit
set_option linter.unusedVariables false
set_option linter.unusedSimpArgs false

/-- An operation that has captured nothing. -/
def Nx.bare : Nx → Bool
  | .keep _ => false
  | .give _ => false
  | _ => true
theorem PendAt.movesBare {S : List Nat} {a w : World} {bp bq : Nat} {p : Pn} (h : PendAt a bp bq p) (hm : Moves S a w) (hb : p.nx.bare = true) (hbp : bp ∉ S) : PendAt w bp bq p := by
  obtain ⟨nx, own, saw, left, ans⟩ := p
  obtain ⟨f, h1, h2⟩ := h
  cases nx <;> first
    | exact ⟨f, hm.has h1 hbp, h2⟩
    | cases hb
theorem PendAt.movesApart {S : List Nat} {a w : World} {bp bq : Nat} {p : Pn} (h : PendAt a bp bq p) (hm : Moves S a w)
    (hS : ∀ g v, (Has a g 32 #[v] ∨ Has a g 39 #[v] ∨ ∃ cs, Has a g 46 cs) → g ∉ S) (hbp : bp ∉ S) : PendAt w bp bq p := by
  obtain ⟨nx, own, saw, left, ans⟩ := p
  obtain ⟨f, h1, h2⟩ := h
  refine ⟨f, hm.has h1 hbp, ?_⟩
  cases nx with
  | keep b =>
    obtain ⟨g1, g2, hf, h3, h4⟩ := h2
    exact ⟨g1, g2, hf, hm.has h3 (hS g1 _ (.inl h3)), hm.has h4 (hS g2 _ (.inr (.inl h4)))⟩
  | give b =>
    obtain ⟨g1, g2, hf, h3, h4⟩ := h2
    exact ⟨g1, g2, hf, hm.has h3 (hS g1 _ (.inl h3)), hm.has h4 (hS g2 .nilFunc (.inr (.inr ⟨_, h4⟩)))⟩
  | fin => exact h2
  | look => exact h2
  | use => exact h2
  | pool => exact h2
  | borrow => exact h2
  | empty => exact h2
  | sum => exact h2
theorem PendAt.at {w : World} {bp bq : Nat} {p : Pn} (h : PendAt w bp bq p) : ∃ cs, Has w bp 77 cs := by
  obtain ⟨f, h1, _⟩ := h
  exact ⟨_, h1⟩

/-- The operations that are under way, each at its own place; all of them made here. -/
structure Fam (w : World) (base bq : Nat) (ps : List (Option (Nat × Pn))) : Prop where
  pend : ∀ (k bp : Nat) (p : Pn), ps[k]? = some (some (bp, p)) → base ≤ bp ∧ PendAt w bp bq p
  one : ∀ (i j bp : Nat) (p q : Pn), ps[i]? = some (some (bp, p)) → ps[j]? = some (some (bp, q)) → i = j

theorem Fam.moves {S : List Nat} {a w : World} {base bq : Nat} {ps : List (Option (Nat × Pn))} (h : Fam a base bq ps) (hm : Moves S a w)
    (hS : ∀ g t cs, (t = 32 ∨ t = 39 ∨ t = 46 ∨ t = 77) → Has a g t cs → g ∉ S) : Fam w base bq ps :=
  ⟨fun k bp p hk => by
    obtain ⟨h1, h2⟩ := h.pend k bp p hk
    obtain ⟨cs, h3⟩ := h2.at
    exact ⟨h1, h2.moves hm (fun g cs hg => by rcases hg with hg | hg | hg <;> exact hS g _ cs (by simp) hg) (hS bp 77 cs (by simp) h3)⟩, h.one⟩
theorem Fam.still {a w : World} {base bq : Nat} {ps : List (Option (Nat × Pn))} (h : Fam a base bq ps) (hm : Moves [] a w) : Fam w base bq ps := h.moves hm (fun _ _ _ _ _ => by simp)
/-- A block of another type has turned. -/
theorem Fam.other {a w : World} {base bq bx : Nat} {t : TypeId} {cs : Array Value} {ps : List (Option (Nat × Pn))} (h : Fam a base bq ps) (hm : Moves [bx] a w) (hx : Has a bx t cs) (ht : t ≠ 32 ∧ t ≠ 39 ∧ t ≠ 46 ∧ t ≠ 77) : Fam w base bq ps :=
  h.moves hm (fun g t' cs' ht' hg => by
    simp only [List.mem_cons, List.not_mem_nil, or_false]
    exact hg.ne_type hx (by obtain ⟨k1, k2, k3, k4⟩ := ht; rcases ht' with e | e | e | e <;> subst e <;> first | exact Ne.symm k1 | exact Ne.symm k2 | exact Ne.symm k3 | exact Ne.symm k4))

theorem Fam.drop {w : World} {base bq k : Nat} {ps : List (Option (Nat × Pn))} (h : Fam w base bq ps) : Fam w base bq (ps.set k none) := by
  have key : ∀ (j bp : Nat) (p : Pn), (ps.set k none)[j]? = some (some (bp, p)) → ps[j]? = some (some (bp, p)) := by
    intro j bp p hj
    rw [List.getElem?_set] at hj
    split at hj
    · split at hj <;> simp at hj
    · exact hj
  exact ⟨fun j bp p hj => h.pend j bp p (key j bp p hj), fun i j bp p q hi hj => h.one i j bp p q (key i bp p hi) (key j bp q hj)⟩

theorem Fam.step {a w : World} {base bq bw k bp : Nat} {cs : Array Value} {p p' : Pn} {ps : List (Option (Nat × Pn))} (h : Fam a base bq ps) (hk : ps[k]? = some (some (bp, p))) (hm : Moves [bp, bw] a w) (hw : Has a bw 99 cs) (hp : PendAt w bp bq p') :
    Fam w base bq (ps.set k (some (bp, p'))) := by
  have hkl : k < ps.length := (List.getElem?_eq_some_iff.1 hk).1
  obtain ⟨h1, h2⟩ := h.pend k bp p hk
  obtain ⟨cs2, h3⟩ := h2.at
  refine ⟨fun j bj q hj => ?_, fun i j b q r hi hj => ?_⟩
  · by_cases e : k = j
    · subst e
      rw [List.getElem?_set_self hkl] at hj
      simp only [Option.some.injEq, Prod.mk.injEq] at hj
      obtain ⟨rfl, rfl⟩ := hj
      exact ⟨h1, hp⟩
    · rw [List.getElem?_set_ne e] at hj
      obtain ⟨h4, h5⟩ := h.pend j bj q hj
      have hne : bj ≠ bp := by
        rintro rfl
        exact e (h.one k j _ _ _ hk hj)
      obtain ⟨cs5, h6⟩ := h5.at
      refine ⟨h4, h5.moves hm (fun g cs' hg => ?_) ?_⟩
      · simp only [List.mem_cons, List.not_mem_nil, or_false, not_or]
        rcases hg with hg | hg | hg <;> exact ⟨hg.ne_type h3 (by decide), hg.ne_type hw (by decide)⟩
      · simp only [List.mem_cons, List.not_mem_nil, or_false, not_or]
        exact ⟨hne, h6.ne_type hw (by decide)⟩
  · have key : ∀ (x : Nat) (s : Pn), (ps.set k (some (bp, p')))[x]? = some (some (b, s)) → ∃ s', ps[x]? = some (some (b, s')) := by
      intro x s hx
      by_cases e : k = x
      · subst e
        rw [List.getElem?_set_self hkl] at hx
        simp only [Option.some.injEq, Prod.mk.injEq] at hx
        obtain ⟨rfl, _⟩ := hx
        exact ⟨_, hk⟩
      · rw [List.getElem?_set_ne e] at hx
        exact ⟨_, hx⟩
    obtain ⟨s1, e1⟩ := key i q hi
    obtain ⟨s2, e2⟩ := key j r hj
    exact h.one i j b s1 s2 e1 e2

theorem Fam.add {a w : World} {base bq k bp : Nat} {p' : Pn} {ps : List (Option (Nat × Pn))} (h : Fam a base bq ps) (hk : ps[k]? = some none) (hm : Moves [] a w) (hb : a.heap.size ≤ bp) (hbase : base ≤ bp) (hp : PendAt w bp bq p') :
    Fam w base bq (ps.set k (some (bp, p'))) := by
  have hkl : k < ps.length := (List.getElem?_eq_some_iff.1 hk).1
  have hs := h.still hm
  have low : ∀ (j bj : Nat) (q : Pn), ps[j]? = some (some (bj, q)) → bj ≠ bp := fun j bj q hj => by
    obtain ⟨cs, h6⟩ := (h.pend j bj q hj).2.at
    have := h6.lt
    omega
  have key : ∀ (j bj : Nat) (q : Pn), (ps.set k (some (bp, p')))[j]? = some (some (bj, q)) → (j = k ∧ bj = bp ∧ q = p') ∨ (bj ≠ bp ∧ ps[j]? = some (some (bj, q))) := by
    intro j bj q hj
    by_cases e : k = j
    · subst e
      rw [List.getElem?_set_self hkl] at hj
      simp only [Option.some.injEq, Prod.mk.injEq] at hj
      exact .inl ⟨rfl, hj.1.symm, hj.2.symm⟩
    · rw [List.getElem?_set_ne e] at hj
      exact .inr ⟨low j bj q hj, hj⟩
  refine ⟨fun j bj q hj => ?_, fun i j b q r hi hj => ?_⟩
  · rcases key j bj q hj with ⟨rfl, rfl, rfl⟩ | ⟨_, h1⟩
    · exact ⟨hbase, hp⟩
    · exact hs.pend j bj q h1
  · rcases key i b q hi with ⟨rfl, e1, _⟩ | ⟨n1, h1⟩ <;> rcases key j b r hj with ⟨rfl, e2, _⟩ | ⟨n2, h2⟩
    · rfl
    · exact (n2 e1).elim
    · exact (n1 e2).elim
    · exact h.one i j b q r h1 h2

/-- A list of pointers, or of numbers, of as many places as there are operations, has turned: what an operation captured lies apart from it. -/
theorem Fam.write {a w : World} {base bq bx k : Nat} {t : TypeId} {cs : Array Value} {ps : List (Option (Nat × Pn))} (h : Fam a base bq ps) (hm : Moves [bx] a w) (hx : Has a bx t cs) (ht : t = 32 ∨ t = 39) (hs : cs.size = ps.length)
    (hk : ∀ bp p, ps[k]? = some (some (bp, p)) → p.nx.bare = true) (hkl : k < ps.length) : Fam w base bq ps := by
  refine ⟨fun j bj q hj => ?_, h.one⟩
  obtain ⟨h1, h2⟩ := h.pend j bj q hj
  obtain ⟨cs3, h3⟩ := h2.at
  have hbj : bj ∉ [bx] := by
    simp only [List.mem_cons, List.not_mem_nil, or_false]
    exact h3.ne_type hx (by rcases ht with rfl | rfl <;> decide)
  refine ⟨h1, ?_⟩
  cases hq : q.nx.bare with
  | true => exact h2.movesBare hm hq hbj
  | false =>
    have hjk : j ≠ k := by
      rintro rfl
      rw [hk bj q hj] at hq
      cases hq
    have hjl : j < ps.length := (List.getElem?_eq_some_iff.1 hj).1
    refine h2.movesApart hm (fun g v hg => ?_) hbj
    simp only [List.mem_cons, List.not_mem_nil, or_false]
    rintro rfl
    rcases hg with hg | hg | ⟨cs', hg⟩
    · have := (hg.inj hx).2
      rw [← this] at hs
      simp at hs
      omega
    · have := (hg.inj hx).2
      rw [← this] at hs
      simp at hs
      omega
    · have := (hg.inj hx).1
      rcases ht with rfl | rfl <;> cases this
end Go.Proofs.YtigacfgoldnoiaaDoor
