/- What the row's list of variables gives: the table of the fields that a kind uses, cell for cell. -/
import Derived.Test.YtigacfgoldnoiaaDoorA3
import Derived.Lib.LaidTab
import Derived.OpenShut
import Derived.Deep.DeepHandedRow
namespace Go.Proofs.YtigacfgoldnoiaaDoor
open Go Go.ChangeShapes Go.WideShapes
set_option linter.unusedSimpArgs false

theorem bools_of_tab {H : Type} {enc : TypeId × Value → H} {P : Program} {w : World} {base : Nat} {sp : Nat → Bool} {held : Bool} {fuel : Nat} {t e : TypeId} {n : Nat} {cs : List Value} {d : DataW H} {bs : List Bool} {p : List MemPlace}
    (ht : P.underlying t = some (.array n e)) (he : P.underlying e = some .bool) (hce : P.cellsOf e = 1) (hct : P.cellsOf t = n)
    (h : DataW.trod enc P w base sp held fuel t cs = some (d, p)) (hd : d = .agg (bs.map fun b => .lit (.bool b))) : cs = bs.map fun b => Value.bool b := by
  obtain ⟨xs, m, rfl, hx, hl, hxl, hi⟩ := DataW.trod_array ht h
  simp only [Prod.mk.injEq] at hx
  obtain ⟨hx1, _⟩ := hx
  rw [hd] at hx1
  simp only [DataW.agg.injEq] at hx1
  rw [hct] at hl
  have hbl : bs.length = n := by have := congrArg List.length hx1; simp at this; omega
  apply List.ext_getElem?
  intro i
  by_cases hin : i < n
  · have h1 := hi i hin
    rw [hce, Nat.mul_one] at h1
    have h2 : xs[i]? = some (xs[i]'(by omega)) := List.getElem?_eq_getElem (by omega)
    rw [h2] at h1
    obtain ⟨b, hb1, hb2⟩ := DataW.trod_bool he h1
    have h3 : (xs.map (·.1))[i]? = some (DataW.lit (.bool b) : DataW H) := by simp [h2, hb2]
    rw [← hx1] at h3
    simp only [List.getElem?_map, Option.map_eq_some_iff, DataW.lit.injEq, Lit.bool.injEq] at h3
    obtain ⟨b', hb', rfl⟩ := h3
    have h4 := congrArg (·[0]?) hb1
    simp [List.getElem?_take, List.getElem?_drop] at h4
    simp [h4, hb']
  · rw [List.getElem?_eq_none (by omega), List.getElem?_eq_none (by simp; omega)]

theorem gUses : Tryd.prog.globalNamed "abacus/cells.uses" = some 0 := by kernel_rfl
theorem gUsesType : (Tryd.prog.globals[0]?).map (·.type) = some 109 := by kernel_rfl
theorem cells109 : Tryd.prog.cellsOf 109 = 12 := by kernel_rfl
theorem cells108 : Tryd.prog.cellsOf 108 = 2 := by kernel_rfl
theorem cells4 : Tryd.prog.cellsOf 4 = 1 := by kernel_rfl

theorem uses_of_laid {W : World} (h : laidMet Tryd.prog [("abacus/cells.uses", Rows.laid_abacus_cells_uses)] W) : Uses W := by
  obtain ⟨ps, ⟨g', t', cs, fuel, p, q, hg', ht', hvar, hd, _, _⟩, _⟩ := h
  obtain rfl := Option.some.inj (gUses.symm.trans hg')
  obtain rfl := Option.some.inj (gUsesType.symm.trans ht')
  obtain ⟨xs, m, rfl, hx, hl, hxl, hi⟩ := DataW.trod_array Tryd.underlying109 hd
  rw [cells109] at hl
  rw [cells108] at hi
  simp only [Prod.mk.injEq, Rows.laid_abacus_cells_uses, DataW.agg.injEq] at hx
  obtain ⟨hx1, _⟩ := hx
  have row : ∀ i, i < 6 → ∀ b0 b1 : Bool, ([[false, false], [false, false], [false, true], [false, true], [false, true], [true, true]] : List (List Bool))[i]? = some [b0, b1] →
      cs[i * 2]? = some (.bool b0) ∧ cs[i * 2 + 1]? = some (.bool b1) := by
    intro i hi6 b0 b1 hb
    have h1 := hi i hi6
    have h2 : xs[i]? = some (xs[i]'(by omega)) := List.getElem?_eq_getElem (by omega)
    rw [h2] at h1
    have h3 : (xs.map (·.1))[i]? = some (xs[i]'(by omega)).1 := by simp [h2]
    rw [← hx1] at h3
    have h4 : (xs[i]'(by omega)).1 = .agg ([b0, b1].map fun b => .lit (.bool b)) := by
      have hi' : i = 0 ∨ i = 1 ∨ i = 2 ∨ i = 3 ∨ i = 4 ∨ i = 5 := by omega
      rcases hi' with rfl | rfl | rfl | rfl | rfl | rfl <;> simp at hb h3 <;> obtain ⟨rfl, rfl⟩ := hb <;> rw [← h3] <;> rfl
    have h5 := bools_of_tab (d := (xs[i]'(by omega)).1) (p := (xs[i]'(by omega)).2) Tryd.underlying108 Tryd.underlying4 cells4 cells108 h1 h4
    have e0 := congrArg (·[0]?) h5
    have e1 := congrArg (·[1]?) h5
    simp [List.getElem?_take, List.getElem?_drop] at e0 e1
    exact ⟨e0, e1⟩
  intro i b hib
  rw [World.var?_cell gUses hvar i]
  have r0 := row 0 (by decide) _ _ rfl
  have r1 := row 1 (by decide) _ _ rfl
  have r2 := row 2 (by decide) _ _ rfl
  have r3 := row 3 (by decide) _ _ rfl
  have r4 := row 4 (by decide) _ _ rfl
  have r5 := row 5 (by decide) _ _ rfl
  have hlt : i < 12 := by
    rcases Nat.lt_or_ge i 12 with h1 | h1
    · exact h1
    · rw [List.getElem?_eq_none (by simpa using h1)] at hib; cases hib
  have hi' : i = 0 ∨ i = 1 ∨ i = 2 ∨ i = 3 ∨ i = 4 ∨ i = 5 ∨ i = 6 ∨ i = 7 ∨ i = 8 ∨ i = 9 ∨ i = 10 ∨ i = 11 := by omega
  rcases hi' with rfl | rfl | rfl | rfl | rfl | rfl | rfl | rfl | rfl | rfl | rfl | rfl <;> simp only [List.getElem?_cons_zero, List.getElem?_cons_succ, Option.some.injEq] at hib <;> subst hib
  · exact r0.1
  · exact r0.2
  · exact r1.1
  · exact r1.2
  · exact r2.1
  · exact r2.2
  · exact r3.1
  · exact r3.2
  · exact r4.1
  · exact r4.2
  · exact r5.1
  · exact r5.2
end Go.Proofs.YtigacfgoldnoiaaDoor
