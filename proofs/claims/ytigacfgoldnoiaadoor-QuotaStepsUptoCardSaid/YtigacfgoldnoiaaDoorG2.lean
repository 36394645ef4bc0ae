/- A list of operations that came in. -/
import Derived.Test.YtigacfgoldnoiaaDoorG1
import Derived.Test.YtigacfgoldnoiaaDoorF3
import Derived.Test.YtigacfgoldnoiaaDoorRows
import Derived.Deep.SlicePairs
namespace Go.Proofs.YtigacfgoldnoiaaDoor
open Go Go.ChangeShapes Go.WideShapes Go.RowKit
set_option linter.unusedVariables false
set_option linter.unusedSimpArgs false

/-- A slice of operations that came in. -/
def Rdo (w : World) (v : Value) (ops : List (Int × Int)) : Prop :=
  ∃ A cap, v = .slice A ops.length cap ∧ (0 < ops.length → ∃ b off, A = some ⟨b, off, none⟩ ∧ b < w.heap.size ∧ ∀ (i : Nat) (k x : Int), ops[i]? = some (k, x) → w.cell? ⟨b, off + i * 2, none⟩ = some (.int .u8 k) ∧ w.cell? ⟨b, off + (i * 2 + 1), none⟩ = some (.int .i64 x))

theorem bulk_all {H : Type} : ∀ (l : List (DataW H)), l.length ≤ Rows.uptoBulkAll l := by
  intro l
  induction l with
  | nil => exact Nat.zero_le _
  | cons d l ih =>
    have h1 : 1 ≤ Rows.uptoBulk d := by
      cases d with
      | lit x => cases x <;> simp [Rows.uptoBulk]
      | _ => simp [Rows.uptoBulk]
    simp only [List.length_cons, Rows.uptoBulkAll]
    omega

set_option maxRecDepth 100000 in
theorem rdo_of {H : Type} {enc : TypeId × Value → H} {W : World} {base : Nat} {v : Value} {d : DataW H} {ps : List MemPlace} (hval : Value.okWide Tryd.prog W .any base 22 v) (h : DataW.Trod enc Tryd.prog W 0 (fun _ => true) true 22 v d ps) :
    ∃ ops, Rdo W v ops ∧ ops.length ≤ Rows.uptoBulk d := by
  obtain ⟨A, len, cap, rfl⟩ := okWide_slice Tryd.underlying22 hval
  obtain ⟨fuel, hf⟩ := h
  rcases Go.Deep.open_slice_pairs Tryd.underlying22 Tryd.underlying37 (by kernel_rfl) rfl rfl (by kernel_rfl) (by kernel_rfl) hf with ⟨hcs, hx⟩ | ⟨a, len', cap', m, n, V0, V1, D0, D1, P0, P1, hcs, _, hl, hm, hmm, hx, hcell⟩
  · simp [Value.cells] at hcs
    obtain ⟨rfl, rfl, rfl⟩ := hcs
    exact ⟨[], ⟨none, 0, rfl, by simp⟩, by simp⟩
  · simp [Value.cells] at hcs
    obtain ⟨rfl, rfl, rfl⟩ := hcs
    simp only [if_true] at hmm
    subst hmm
    simp only [Prod.mk.injEq] at hx
    have hbulk : len ≤ Rows.uptoBulk d := by
      rw [hx.1]
      have := bulk_all ((List.range len).map fun i => DataW.agg [D0 i, D1 i])
      simp only [List.length_map, List.length_range] at this
      simp only [Rows.uptoBulk]
      omega
    have num : ∀ i, i < m → ∃ q : Int × Int, V0 i = .int .u8 q.1 ∧ V1 i = .int .i64 q.2 := fun i hi => by
      obtain ⟨_, _, h0, h1⟩ := hcell i hi
      obtain ⟨x, e0, _, _⟩ := DataW.trod_int Tryd.underlying35 h0
      obtain ⟨y, e1, _, _⟩ := DataW.trod_int Tryd.underlying3 h1
      exact ⟨(x, y), by simpa using e0, by simpa using e1⟩
    have num' : ∀ i, ∃ q : Int × Int, i < m → V0 i = .int .u8 q.1 ∧ V1 i = .int .i64 q.2 := fun i => by
      by_cases hi : i < m
      · obtain ⟨q, hq⟩ := num i hi
        exact ⟨q, fun _ => hq⟩
      · exact ⟨(0, 0), fun h => (hi h).elim⟩
    obtain ⟨Q, hQ⟩ := Classical.axiomOfChoice num'
    have hlen : ((List.range len).map Q).length = len := by simp
    refine ⟨(List.range len).map Q, ⟨some a, m, by rw [hlen], fun hp => ?_⟩, by rw [hlen]; exact hbulk⟩
    rw [hlen] at hp
    obtain ⟨b, off, spot⟩ := a
    have hspot : spot = none := by simpa [Addr.add] using World.cell?_spot (hcell 0 (by omega)).1
    subst hspot
    have hc : ∀ j, j < m → W.cell? ⟨b, off + j * 2, none⟩ = some (V0 j) ∧ W.cell? ⟨b, off + (j * 2 + 1), none⟩ = some (V1 j) := fun j hj => by
      have := hcell j hj
      rw [← Go.WideShapes.add_plain, ← Go.WideShapes.add_plain]
      exact ⟨this.1, this.2.1⟩
    refine ⟨b, off, rfl, by simpa using W.block_lt_of_cell? _ (hc 0 (by omega)).1, fun i k x hx => ?_⟩
    have hi : i < len := by have := (List.getElem?_eq_some_iff.1 hx).1; simpa using this
    simp only [List.getElem?_map, List.getElem?_range hi, Option.map_some, Option.some.injEq] at hx
    have h1 := hQ i (by omega)
    rw [hx] at h1
    obtain ⟨c1, c2⟩ := hc i (by omega)
    exact ⟨by rw [c1, h1.1], by rw [c2, h1.2]⟩
end Go.Proofs.YtigacfgoldnoiaaDoor
