/- A []Label that came in. -/
import Derived.Test.YtogegkfefpgbcaaDoorZTLC
import Derived.Test.YtogegkfefpgbcaaDoorZTPLx0
import Derived.Deep.SlicePairs
namespace Go.Proofs.YtogegkfefpgbcaaDoor.PL
open Go Go.Deep Go.ChangeShapes Go.WideShapes Go.RowKit Go.Proofs.YtogegkfefpgbcaaDoorW.PrintWords Go.Proofs.YtogegkfefpgbcaaDoorW.PrintLast Go.Proofs.YtogegkfefpgbcaaDoorW.PrintMore
set_option linter.unusedVariables false
set_option linter.unusedSimpArgs false
/-- A text out of a value. -/
def strV : Value → ByteArray
  | .string s => s
  | _ => ⟨#[]⟩
theorem cells59 : Tryd.prog.cellsOf 59 = 2 := by kernel_rfl
theorem cells9_ : Tryd.prog.cellsOf 9 = 1 := by kernel_rfl
theorem str_cell {H : Type} {enc : TypeId × Value → H} {W : World} {n : Nat} {V : Value} {D : DataW H} {P : List MemPlace} (h : DataW.trod enc Tryd.prog W 0 (fun _ => true) true n 9 [V] = some (D, P)) : V = .string (strV V) := by
  obtain ⟨s, hs, _⟩ := DataW.trod_string Tryd.underlying9 h
  simp only [List.cons.injEq, and_true] at hs
  subst hs
  rfl
set_option maxRecDepth 100000 in
theorem labs_of {H : Type} {enc : TypeId × Value → H} {W : World} {base : Nat} {v : Value} {d : DataW H} {ps : List MemPlace} (hval : Value.okWide Tryd.prog W .any base 22 v) (h : DataW.Trod enc Tryd.prog W 0 (fun _ => true) true 22 v d ps) :
    ∃ (A : Option Addr) (l : List S59) (c : Nat), v = .slice A l.length c ∧ l.length ≤ c ∧ Kd.C k59 W A l.length l := by
  obtain ⟨A, len, cap, rfl⟩ := okWide_slice Tryd.underlying22 hval
  obtain ⟨fuel, hf⟩ := h
  rcases open_slice_pairs Tryd.underlying22 Tryd.underlying59 cells59 rfl rfl cells9_ cells9_ hf with ⟨hcs, _⟩ | ⟨a, len', cap', m, n, V0, V1, D0, D1, P0, P1, hcs, _, hl, hm, hmm, hx, hall⟩
  · simp [Value.cells] at hcs
    obtain ⟨rfl, rfl, rfl⟩ := hcs
    exact ⟨none, [], 0, rfl, Nat.le_refl _, Kd.C_nil _ _⟩
  · simp [Value.cells] at hcs
    obtain ⟨rfl, rfl, rfl⟩ := hcs
    simp only [if_true] at hmm
    have hle : len ≤ 9223372036854775807 := by have : cap ≤ 9223372036854775807 := hm; omega
    refine ⟨some a, (List.range len).map fun i => (⟨strV (V0 i), strV (V1 i)⟩ : S59), cap, by simp, by simpa using hl, by simp, by simpa using hle, fun _ => ⟨a, rfl, fun j p hj => ?_⟩⟩
    simp only [List.getElem?_map, Option.map_eq_some_iff] at hj
    obtain ⟨i, hi, rfl⟩ := hj
    obtain ⟨hjl, hi⟩ := List.getElem?_eq_some_iff.1 hi
    simp only [List.getElem_range] at hi
    subst hi
    simp only [List.length_range] at hjl
    obtain ⟨h0, h1, t0, t1⟩ := hall j (by omega)
    refine ⟨[.string (strV (V0 j)), .string (strV (V1 j))], rfl, ⟨[.string (strV (V0 j))], [.string (strV (V1 j))], rfl, rfl, rfl⟩, fun i u hu => ?_⟩
    rcases i with _ | _ | i
    · simp only [List.getElem?_cons_zero, Option.some.injEq] at hu
      subst hu
      rw [← str_cell t0]
      exact h0
    · simp only [List.getElem?_cons_succ, List.getElem?_cons_zero, Option.some.injEq] at hu
      subst hu
      rw [← str_cell t1]
      exact h1
    · simp at hu
end Go.Proofs.YtogegkfefpgbcaaDoor.PL
