/- Words for memory that the quota's proofs share: a block that is known whole; which old blocks a call may have turned. -/
import Derived.Test.YtigacfgoldnoiaaDoorRows
import Derived.WalkKit
import Derived.WalkSpells
import Derived.WalkLawsBesides
import Derived.Laws.EntriesVeiled
import Derived.Laws.LoneSync
import Derived.Laws.Rows
import Derived.RegionTactic
import Derived.Outline
import Derived.Deep.Draws
import Derived.Deep.QuietTactic
import Derived.BigQuiet
import Derived.Lib.Hide
namespace Go.Proofs.YtigacfgoldnoiaaDoor
open Go.RowKit

/-- Block g is just these cells of type t, and none of them is shared by a string. -/
def Has (w : World) (g : Nat) (t : TypeId) (cs : Array Value) : Prop := w.heap[g]? = some (.cells cs t (0, 0))

section
variable {w w' : World} {g : Nat} {t : TypeId} {cs : Array Value}
theorem Has.lt (h : Has w g t cs) : g < w.heap.size := by
  unfold Has at h
  rcases Nat.lt_or_ge g w.heap.size with hlt | hge
  · exact hlt
  · simp [Array.getElem?_eq_none hge] at h
theorem Has.cell (h : Has w g t cs) (i : Nat) : w.cell? ⟨g, i, none⟩ = cs[i]? := cell_of_row w g i cs t (0, 0) h
theorem Has.frozen (h : Has w g t cs) (i : Nat) : w.frozen? ⟨g, i, none⟩ = false := by
  unfold Has at h
  simp [World.frozen?, h]
theorem Has.new (w : World) (t : TypeId) (cs : Array Value) : Has (w.alloc (.cells cs t)) w.heap.size t cs := by
  exact heap_alloc_new w _
theorem Has.new' {w : World} {t : TypeId} {cs : Array Value} {g : Nat} (h : w.heap.size = g) : Has (w.alloc (.cells cs t)) g t cs := h ▸ Has.new w t cs
theorem Has.drew (h : Has w g t cs) : Has w.drew g t cs := h
theorem Has.drewN (h : Has w g t cs) (n : Nat) : Has (w.drewN n) g t cs := h
theorem Has.alloc (h : Has w g t cs) (o : Obj) : Has (w.alloc o) g t cs := (Below.heap_alloc w o g h.lt).trans h
theorem Has.put (h : Has w g t cs) (i : Nat) (u : Value) : Has (w.setCell ⟨g, i, none⟩ u) g t (cs.setIfInBounds i u) := by
  unfold Has at h ⊢
  simp [World.setCell, Array.getElem?_modify, h]
theorem Has.far (h : Has w g t cs) {p : Addr} (hp : g ≠ p.block) (u : Value) : Has (w.setCell p u) g t cs := (Below.heap_setCell w p u g hp).trans h
theorem Has.of_eq {cs' : Array Value} (h : Has w g t cs) (e : cs = cs') : Has w g t cs' := e ▸ h
theorem Has.cell1 (h : Has w g t cs) (o : Obj) (i : Nat) : (w.alloc o).cell? ⟨g, i, none⟩ = cs[i]? := (h.alloc o).cell i
theorem Has.cell2 (h : Has w g t cs) (o o' : Obj) (i : Nat) : ((w.alloc o).alloc o').cell? ⟨g, i, none⟩ = cs[i]? := ((h.alloc o).alloc o').cell i
theorem Has.cell3 (h : Has w g t cs) (o o' o'' : Obj) (i : Nat) : (((w.alloc o).alloc o').alloc o'').cell? ⟨g, i, none⟩ = cs[i]? := (((h.alloc o).alloc o').alloc o'').cell i
theorem Has.frozen1 (h : Has w g t cs) (o : Obj) (i : Nat) : (w.alloc o).frozen? ⟨g, i, none⟩ = false := (h.alloc o).frozen i
theorem Has.frozen2 (h : Has w g t cs) (o o' : Obj) (i : Nat) : ((w.alloc o).alloc o').frozen? ⟨g, i, none⟩ = false := ((h.alloc o).alloc o').frozen i
theorem Has.frozen3 (h : Has w g t cs) (o o' o'' : Obj) (i : Nat) : (((w.alloc o).alloc o').alloc o'').frozen? ⟨g, i, none⟩ = false := (((h.alloc o).alloc o').alloc o'').frozen i
theorem Has.far' {p : Addr} {u : Value} (hp : g ≠ p.block) (h : Has w g t cs) : Has (w.setCell p u) g t cs := h.far hp u
theorem Has.ne_type {g' : Nat} {t' : TypeId} {cs' : Array Value} (h : Has w g t cs) (h' : Has w g' t' cs') (hne : t ≠ t') : g ≠ g' := by
  rintro rfl
  unfold Has at h h'
  rw [h] at h'
  simp only [Option.some.injEq, Obj.cells.injEq] at h'
  exact hne h'.2.1
theorem Has.inj {cs' : Array Value} {t' : TypeId} (h : Has w g t cs) (h' : Has w g t' cs') : t = t' ∧ cs = cs' := by
  unfold Has at h h'
  rw [h] at h'
  simp only [Option.some.injEq, Obj.cells.injEq] at h'
  exact ⟨h'.2.1, h'.1⟩
end

/-- Of the blocks that a had, w may have turned those in S alone; new ones may have come. -/
structure Moves (S : List Nat) (a w : World) : Prop where
  os : w.os = a.os
  tape : w.tape = a.tape
  output : w.output = a.output
  size : a.heap.size ≤ w.heap.size
  block : ∀ k, k < a.heap.size → k ∉ S → w.heap[k]? = a.heap[k]?

section
variable {S S' : List Nat} {a w b c : World}
theorem Moves.refl (S : List Nat) (a : World) : Moves S a a := ⟨rfl, rfl, rfl, Nat.le_refl _, fun _ _ _ => rfl⟩
theorem Moves.trans (h : Moves S a b) (k : Moves S' b c) (hs : ∀ x, x ∈ S' → x ∈ S ∨ a.heap.size ≤ x) : Moves S a c :=
  ⟨k.os.trans h.os, k.tape.trans h.tape, k.output.trans h.output, Nat.le_trans h.size k.size, fun i hi hn =>
    (k.block i (Nat.lt_of_lt_of_le hi h.size) (fun hm => by rcases hs i hm with h1 | h1; exact hn h1; omega)).trans (h.block i hi hn)⟩
theorem Moves.more (h : Moves S a w) (hs : ∀ x, x ∈ S → x ∈ S' ∨ a.heap.size ≤ x) : Moves S' a w :=
  (Moves.refl S' a).trans h hs
theorem Moves.drew (h : Moves S a w) : Moves S a w.drew := ⟨h.os, h.tape, h.output, h.size, h.block⟩
theorem Moves.drewN (h : Moves S a w) (n : Nat) : Moves S a (w.drewN n) := ⟨h.os, h.tape, h.output, h.size, h.block⟩
theorem Moves.alloc (h : Moves S a w) (o : Obj) : Moves S a (w.alloc o) :=
  ⟨h.os, h.tape, h.output, by have := h.size; simp only [World.size_alloc]; omega, fun k hk hn =>
    (Below.heap_alloc w o k (Nat.lt_of_lt_of_le hk h.size)).trans (h.block k hk hn)⟩
theorem Moves.setOld (h : Moves S a w) {p : Addr} (hp : p.block ∈ S) (u : Value) : Moves S a (w.setCell p u) :=
  ⟨h.os, h.tape, h.output, by simpa using h.size, fun k hk hn =>
    (Below.heap_setCell w p u k (fun e => hn (e ▸ hp))).trans (h.block k hk hn)⟩
theorem Moves.setNew (h : Moves S a w) {p : Addr} (hp : a.heap.size ≤ p.block) (u : Value) : Moves S a (w.setCell p u) :=
  ⟨h.os, h.tape, h.output, by simpa using h.size, fun k hk hn =>
    (Below.heap_setCell w p u k (by omega)).trans (h.block k hk hn)⟩
theorem Moves.has (h : Moves S a w) {g : Nat} {t : TypeId} {cs : Array Value} (hh : Has a g t cs) (hn : g ∉ S) : Has w g t cs :=
  (h.block g hh.lt hn).trans hh
end

/-- The words of an object: numbers of 64 bits. -/
def wds (l : List Nat) : Array Value := (l.map fun x : Nat => Value.int .u64 (x : Int)).toArray
theorem wds_get (l : List Nat) (i : Nat) (h : i < l.length) : (wds l)[i]? = some (.int .u64 ((l.getD i 0 : Nat) : Int)) := by
  simp [wds, h]
theorem wds_set (l : List Nat) (i x : Nat) : (wds l).setIfInBounds i (.int .u64 (x : Int)) = wds (l.set i x) := by
  simp [wds, List.map_set]
theorem wds_size (l : List Nat) : (wds l).size = l.length := by simp [wds]

/-- sync/atomic's Load of a word. -/
theorem load_any (b o : Nat) (x : Int) (w : World) (hc : w.cell? ⟨b, o, none⟩ = some (.int .u64 x)) :
    Calls Tryd.prog 49 #[.pointer (some ⟨b, o, none⟩)] w fun e w' => e = .returned (.int .u64 x) ∧ w = w' := by
  have hl := run_call_load (P := Tryd.prog) Tryd.func53 (by kernel_rfl) (by kernel_rfl) (by kernel_rfl) .u64 (by kernel_rfl) hc
  go_enter Tryd.func49, Tryd.ntmps49
  go_wp2
  go_ret
  exact ⟨rfl, rfl⟩
/-- sync/atomic's Store of a word. -/
theorem store_any (b o : Nat) (x y : Int) (w : World) (hc : w.cell? ⟨b, o, none⟩ = some (.int .u64 x)) (hz : w.frozen? ⟨b, o, none⟩ = false) :
    Calls Tryd.prog 41 #[.pointer (some ⟨b, o, none⟩), .int .u64 y] w fun e w' => e = .returned (.tuple #[]) ∧ w.setCell ⟨b, o, none⟩ (.int .u64 y) = w' := by
  have hl := run_call_store (P := Tryd.prog) Tryd.func50 (by kernel_rfl) (by kernel_rfl) (by kernel_rfl) (by kernel_rfl) (k := .u64) (y := y) hc hz
  go_enter Tryd.func41, Tryd.ntmps41
  go_wp2
  go_end0
  exact ⟨rfl, rfl⟩
theorem run_swap {a : Addr} {x y : Int} {w : World} (hc : w.cell? a = some (.int .u64 x)) (hz : w.frozen? a = false) :
    (callFunc 59 #[.pointer (some a), .int .u64 y]).run Tryd.prog w = .ok (.value (.int .u64 x)) (w.setCell a (.int .u64 y)) := by
  rw [run_callFunc_extern (e := Extern.Atomic.swapT (.int .u64)) Tryd.func59 (by kernel_rfl) (by kernel_rfl) (by kernel_rfl) (by kernel_rfl)]
  change (Sem.run Tryd.prog (do
    let a' ← asAddr (.pointer (some a))
    let old ← Extern.Atomic.read (.int .u64) a'
    store a' (.int .u64 y) .atomic
    pure old) w).andThen _ = _
  simp [Extern.Atomic.read, asAddr, hc, hz, run_store Tryd.prog w a (.int .u64 y) .atomic rfl, Result.andThen]
theorem swap_any (b o : Nat) (x y : Int) (w : World) (hc : w.cell? ⟨b, o, none⟩ = some (.int .u64 x)) (hz : w.frozen? ⟨b, o, none⟩ = false) :
    Calls Tryd.prog 56 #[.pointer (some ⟨b, o, none⟩), .int .u64 y] w fun e w' => e = .returned (.int .u64 x) ∧ w.setCell ⟨b, o, none⟩ (.int .u64 y) = w' := by
  have hl := run_swap (y := y) hc hz
  go_enter Tryd.func56, Tryd.ntmps56
  go_wp2
  go_ret
  exact ⟨rfl, rfl⟩
theorem add_any (b o : Nat) (x y : Nat) (w : World) (hc : w.cell? ⟨b, o, none⟩ = some (.int .u64 x)) (hz : w.frozen? ⟨b, o, none⟩ = false) (hxy : x + y ≤ 18446744073709551615) :
    Calls Tryd.prog 57 #[.pointer (some ⟨b, o, none⟩), .int .u64 y] w fun e w' => e = .returned (.int .u64 ((x + y : Nat) : Int)) ∧ w.setCell ⟨b, o, none⟩ (.int .u64 ((x + y : Nat) : Int)) = w' := by
  have hs : (Op.intArith .add .u64 (x : Int) (y : Int)).run Tryd.prog w = .ok (.int .u64 ((x + y : Nat) : Int)) w := by
    simp [go_sem]
    rw [IntKind.wrap_u64]
    omega
  have hl := run_call_add (P := Tryd.prog) Tryd.func60 (by kernel_rfl) (by kernel_rfl) (by kernel_rfl) .u64 (by kernel_rfl) hc hz hs
  clear hs
  go_enter Tryd.func57, Tryd.ntmps57
  go_wp2
  go_ret
  exact ⟨rfl, rfl⟩
theorem cas_hit (b o : Nat) (x y : Int) (w : World) (hc : w.cell? ⟨b, o, none⟩ = some (.int .u64 x)) (hz : w.frozen? ⟨b, o, none⟩ = false) :
    Calls Tryd.prog 58 #[.pointer (some ⟨b, o, none⟩), .int .u64 x, .int .u64 y] w fun e w' => e = .returned (.bool true) ∧ w.setCell ⟨b, o, none⟩ (.int .u64 y) = w' := by
  have hl := run_call_cas_hit (P := Tryd.prog) Tryd.func61 (by kernel_rfl) (by kernel_rfl) (by kernel_rfl) .u64 (by kernel_rfl) (y := y) hc hz
  go_enter Tryd.func58, Tryd.ntmps58
  go_wp2
  go_ret
  exact ⟨rfl, rfl⟩
theorem cas_miss (b o : Nat) (x z y : Int) (w : World) (hc : w.cell? ⟨b, o, none⟩ = some (.int .u64 x)) (hz : w.frozen? ⟨b, o, none⟩ = false) (hne : ¬ x = z) :
    Calls Tryd.prog 58 #[.pointer (some ⟨b, o, none⟩), .int .u64 z, .int .u64 y] w fun e w' => e = .returned (.bool false) ∧ w = w' := by
  have hl := run_call_cas_miss (P := Tryd.prog) Tryd.func61 (by kernel_rfl) (by kernel_rfl) (by kernel_rfl) .u64 (by kernel_rfl) (y := y) hc hz hne
  go_enter Tryd.func58, Tryd.ntmps58
  go_wp2
  go_ret
  exact ⟨rfl, rfl⟩
end Go.Proofs.YtigacfgoldnoiaaDoor
