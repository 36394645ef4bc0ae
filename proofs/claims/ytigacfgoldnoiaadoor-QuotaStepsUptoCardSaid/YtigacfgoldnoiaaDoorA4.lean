/- An action of an operation under way. -/
import Derived.Test.YtigacfgoldnoiaaDoorA3
namespace Go.Proofs.YtigacfgoldnoiaaDoor
open Go.RowKit
set_option linter.unusedVariables false
set_option linter.unusedSimpArgs false

/-- What lies in memory of a quota: the quota itself, its cells, its words. -/
structure Quo (w : World) (bq bc bw batch n : Nat) (l : List Nat) : Prop where
  q : Has w bq 74 #[.pointer (some ⟨bc, 0, none⟩), .int .u64 batch, .int .i64 n]
  c : Has w bc 87 #[.slice (some ⟨bw, 0, none⟩) (n + 1) (n + 1)]
  m : Has w bw 99 (wds l)
  len : l.length = n + 1
  uses : Uses w

/-- What a call of Do comes to, whatever the world in which the quota lies. -/
def DoIs (bc bw n : Nat) (l : List Nat) (kind cell old new saw put : Nat) (ok : Bool) : Prop :=
  ∀ W : World, Has W bc 87 #[.slice (some ⟨bw, 0, none⟩) (n + 1) (n + 1)] → Has W bw 99 (wds l) → Uses W →
    Calls Tryd.prog 52 #[.pointer (some ⟨bc, 0, none⟩), .agg #[.int .u8 kind, .int .i64 cell, .int .u64 old, .int .u64 new]] W fun e w' =>
      e = .returned (.tuple #[did kind cell saw put ok, .int .i64 0]) ∧ Has w' bw 99 (wds (l.set cell put)) ∧ Moves [bw] W w'

theorem set_same (l : List Nat) (i x : Nat) (h : l[i]? = some x) : l.set i x = l := by
  obtain ⟨h1, h2⟩ := List.getElem?_eq_some_iff.1 h
  subst h2
  exact List.set_getElem_self h1

theorem DoIs.load {bc bw n : Nat} {l : List Nat} {i x : Nat} (hi : l[i]? = some x) (hl : l.length = n + 1) : DoIs bc bw n l 1 i 0 0 x x true := by
  intro W hc hw hu
  refine (Do_load bc bw i x (n + 1) l W hw hi hc hl hu).mono ?_
  rintro e w' ⟨rfl, hm⟩
  refine ⟨rfl, ?_, hm.more (fun x hx => by cases hx)⟩
  rw [set_same l i x hi]
  exact hm.has hw (by simp)
theorem DoIs.miss {bc bw n : Nat} {l : List Nat} {i x z y : Nat} (hi : l[i]? = some x) (hl : l.length = n + 1) (hne : x ≠ z) : DoIs bc bw n l 5 i z y x x false := by
  intro W hc hw hu
  refine (Do_miss bc bw i x (n + 1) l W hw hi hc hl hu z y (by omega)).mono ?_
  rintro e w' ⟨rfl, hm⟩
  refine ⟨rfl, ?_, hm.more (fun x hx => by cases hx)⟩
  rw [set_same l i x hi]
  exact hm.has hw (by simp)
theorem DoIs.hit {bc bw n : Nat} {l : List Nat} {i x y : Nat} (hi : l[i]? = some x) (hl : l.length = n + 1) : DoIs bc bw n l 5 i x y x y true :=
  fun W hc hw hu => Do_hit bc bw i x (n + 1) l W hw hi hc hl hu y
theorem DoIs.swap {bc bw n : Nat} {l : List Nat} {i x y : Nat} (hi : l[i]? = some x) (hl : l.length = n + 1) : DoIs bc bw n l 4 i 0 y x y true :=
  fun W hc hw hu => Do_swap bc bw i x (n + 1) l W hw hi hc hl hu y
theorem DoIs.add {bc bw n : Nat} {l : List Nat} {i x y : Nat} (hi : l[i]? = some x) (hl : l.length = n + 1) (hxy : x + y ≤ 9223372036854775807) : DoIs bc bw n l 3 i 0 y x (x + y) true :=
  fun W hc hw hu => Do_add bc bw i x (n + 1) l W hw hi hc hl hu y hxy

theorem Uses.moves {S : List Nat} {a w : World} (h : Uses a) (hm : Moves S a w) (h0 : 0 < a.heap.size) (hn : 0 ∉ S) : Uses w :=
  h.keep fun i => by simp only [World.cell?]; rw [hm.block 0 h0 hn]

set_option maxHeartbeats 1000000 in
theorem do_any (bp bq bc bw batch n kind cell old new saw put : Nat) (ok : Bool) (l : List Nat) (w : World) (hp : w.cell? ⟨bp, 0, none⟩ = some (.pointer (some ⟨bq, 0, none⟩)))
    (hQ : Quo w bq bc bw batch n l) (hk : 1 ≤ kind) (H0 : DoIs bc bw n l kind cell old new saw put ok) :
    Calls Tryd.prog 43 #[.pointer (some ⟨bp, 0, none⟩), .int .u8 kind, .int .i64 cell, .int .u64 old, .int .u64 new] w fun e w' =>
      e = .returned (did kind cell saw put ok) ∧ Has w' bw 99 (wds (l.set cell put)) ∧ Moves [bw] w w' := by
  have H := Lib.hid H0
  clear H0
  have hp1 : ∀ o, (w.alloc o).cell? ⟨bp, 0, none⟩ = some (.pointer (some ⟨bq, 0, none⟩)) := fun o => (World.cell?_alloc_lt w o ⟨bp, 0, none⟩ (World.block_lt_of_cell? w ⟨bp, 0, none⟩ hp)).trans hp
  have hq1 : ∀ o, (w.alloc o).cell? ⟨bq, 0, none⟩ = some (.pointer (some ⟨bc, 0, none⟩)) := fun o => (hQ.q.alloc o).cell 0
  have hkk : ((kind : Int) == 0) = false := by simp; omega
  have hb := hQ.m.lt
  have hz : 0 < w.heap.size := by omega
  go_enter Tryd.func43, Tryd.ntmps43
  go_wp2_with (go_at_call 52; go_must (refine (H.out _ (hQ.c.alloc _) (hQ.m.alloc _) (hQ.uses.alloc hz _)).mono ?_; rintro e w1 ⟨rfl, hw1, hm⟩; (have hd : Has w1 w.heap.size 46 #[.int .u8 0, .int .i64 0, .int .u64 0, .int .u64 0, .bool false] := hm.has (Has.new' rfl) (by simp; omega)); (have qc := fun o => (hd.alloc o).cell); (have qf := fun o => (hd.alloc o).frozen); (have hne : ¬ w.heap.size = w1.heap.size := by have := hd.lt; omega); (have hne' : ¬ w1.heap.size = w.heap.size := by omega); (have hmm : Moves [bw] w w1 := ((Moves.refl [bw] w).alloc _).trans hm (by simp)); simp only [did]))
  refine bodyPost_ret (v := did kind cell saw put ok) (by simp [results, Tryd.results43, go_sem, did, qc]) rfl ⟨rfl, ?_, ?_⟩
  · repeat (first | with_reducible exact hw1 | with_reducible apply Has.drew | with_reducible apply Has.alloc | (with_reducible refine Has.far ?_ ?_ _; rotate_left; (solve | simp | (simp; omega))))
  · repeat (first | with_reducible exact hmm | with_reducible apply Moves.drew | with_reducible apply Moves.alloc | (with_reducible refine Moves.setNew ?_ ?_ _; rotate_left; (solve | simp | (simp; omega))))

/-- An operation under way, as it lies: the quota, the worker's cell, what it does next, what it saw, how far it has come, its answer. -/
def pend (bq own : Nat) (f : Value) (saw left : Nat) (ans : Int) : Array Value := #[.pointer (some ⟨bq, 0, none⟩), .int .i64 own, f, .int .u64 saw, .int .i64 left, .int .i64 ans]

/-- A fact laid into the context, where it can be shown. -/
theorem lay {T G : Prop} (h : T) (k : T → G) : G := k h
/-- What a call that turns one word alone leaves of all other cells. -/
theorem Moves.cellB {b : Nat} {a w : World} (h : Moves [b] a w) : ∀ g o, g < a.heap.size → ¬ g = b → w.cell? ⟨g, o, none⟩ = a.cell? ⟨g, o, none⟩ := fun g o hg hn => by
  simp only [World.cell?]; rw [h.block g hg (by simpa using hn)]
theorem Moves.frozenB {b : Nat} {a w : World} (h : Moves [b] a w) : ∀ g o, g < a.heap.size → ¬ g = b → w.frozen? ⟨g, o, none⟩ = a.frozen? ⟨g, o, none⟩ := fun g o hg hn => by
  simp only [World.frozen?]; rw [h.block g hg (by simpa using hn)]

/-- A method of the operation's, as a value. -/
def mv (k bp : Nat) : Value := .func (.func k) #[.pointer (some ⟨bp, 0, none⟩)] #[]

section
variable {w w' : World} {bq bc bw batch n : Nat} {l : List Nat}
theorem Quo.alloc (h : Quo w bq bc bw batch n l) (o : Obj) : Quo (w.alloc o) bq bc bw batch n l :=
  ⟨h.q.alloc o, h.c.alloc o, h.m.alloc o, h.len, h.uses.alloc (by have := h.q.lt; omega) o⟩
theorem Quo.drew (h : Quo w bq bc bw batch n l) : Quo w.drew bq bc bw batch n l := ⟨h.q, h.c, h.m, h.len, h.uses⟩
theorem Quo.drewN (h : Quo w bq bc bw batch n l) (k : Nat) : Quo (w.drewN k) bq bc bw batch n l := ⟨h.q, h.c, h.m, h.len, h.uses⟩
theorem Quo.far (h : Quo w bq bc bw batch n l) {p : Addr} (hp : p.block ≠ bq ∧ p.block ≠ bc ∧ p.block ≠ bw ∧ p.block ≠ 0) (u : Value) : Quo (w.setCell p u) bq bc bw batch n l :=
  ⟨h.q.far (Ne.symm hp.1) u, h.c.far (Ne.symm hp.2.1) u, h.m.far (Ne.symm hp.2.2.1) u, h.len, h.uses.keep fun i => World.cell?_setCell_other w p ⟨0, i, none⟩ u (fun e => hp.2.2.2 (by rw [e]))⟩
theorem Quo.moves {S : List Nat} {l' : List Nat} (h : Quo w bq bc bw batch n l) (hm : Moves S w w') (hS : bq ∉ S ∧ bc ∉ S ∧ 0 ∉ S) (hw : Has w' bw 99 (wds l')) (hl : l'.length = l.length) : Quo w' bq bc bw batch n l' :=
  ⟨hm.has h.q hS.1, hm.has h.c hS.2.1, hw, hl.trans h.len, h.uses.moves hm (by have := h.q.lt; omega) hS.2.2⟩
theorem Quo.apart {bp own saw left : Nat} {ans : Int} {f : Value} (h : Quo w bq bc bw batch n l) (hP : Has w bp 77 (pend bq own f saw left ans)) : bp ≠ bq ∧ bp ≠ bc ∧ bp ≠ bw ∧ bp ≠ 0 :=
  ⟨hP.ne_type h.q (by decide), hP.ne_type h.c (by decide), hP.ne_type h.m (by decide), fun e => by
    have h0 := h.uses 0 _ rfl
    have h1 := hP.cell 0
    rw [e, h0] at h1
    simp [pend] at h1⟩
theorem Quo.apart_w (h : Quo w bq bc bw batch n l) : bw ≠ bq ∧ bw ≠ bc ∧ bw ≠ 0 :=
  ⟨h.m.ne_type h.q (by decide), h.m.ne_type h.c (by decide), fun e => by
    have h0 := h.uses 0 _ rfl
    have h1 := h.m.cell 0
    have h2 := h.len
    rw [e, h0] at h1
    cases l with
    | nil => simp at h2
    | cons a l => simp [wds] at h1⟩
end

end Go.Proofs.YtigacfgoldnoiaaDoor
