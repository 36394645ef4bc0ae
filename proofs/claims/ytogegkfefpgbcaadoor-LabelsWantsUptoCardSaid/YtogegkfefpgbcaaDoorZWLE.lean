/- A []Label and a []Match that came in, with what their datum is: their bulk bounds their lengths and texts. -/
import Derived.Test.YtogegkfefpgbcaaDoorZWLD
namespace Go.Proofs.YtogegkfefpgbcaaDoor.PL
open Go Go.Deep Go.ChangeShapes Go.WideShapes Go.RowKit Go.Proofs.YtogegkfefpgbcaaDoorW.PrintWords Go.Proofs.YtogegkfefpgbcaaDoorW.PrintLast Go.Proofs.YtogegkfefpgbcaaDoorW.PrintMore
set_option linter.unusedVariables false
set_option linter.unusedSimpArgs false
def labD {H : Type} (x : S59) : DataW H := .agg [.lit (.string x.f0.data.toList), .lit (.string x.f1.data.toList)]
def matD {H : Type} (x : S36) : DataW H := .agg [.lit (.int .u8 x.f0), .lit (.string x.f1.data.toList), .lit (.string x.f2.data.toList)]
theorem int_datum {H : Type} {enc : TypeId × Value → H} {W : World} {n : Nat} {V : Value} {D : DataW H} {P : List MemPlace} (h : DataW.trod enc Tryd.prog W 0 (fun _ => true) true n 34 [V] = some (D, P)) : D = .lit (.int .u8 (intV V)) := by
  obtain ⟨s, hs, hx, _⟩ := DataW.trod_int under34 h
  simp only [List.cons.injEq, and_true] at hs
  subst hs
  simp only [Prod.mk.injEq] at hx
  exact hx.1
set_option maxRecDepth 100000 in
theorem labs_gen {H : Type} {enc : TypeId × Value → H} {W : World} {base : Nat} {v : Value} {d : DataW H} {ps : List MemPlace} (hval : Value.okWide Tryd.prog W .any base 22 v) (h : DataW.Trod enc Tryd.prog W 0 (fun _ => true) true 22 v d ps) :
    ∃ (A : Option Addr) (l : List S59) (c : Nat), v = .slice A l.length c ∧ l.length ≤ c ∧ Kd.C k59 W A l.length l ∧ (d = .nil ∧ l = [] ∨ ∃ spare, d = .slice (l.map labD) spare) := by
  obtain ⟨A, len, cap, rfl⟩ := okWide_slice Tryd.underlying22 hval
  obtain ⟨fuel, hf⟩ := h
  rcases open_slice_pairs Tryd.underlying22 Tryd.underlying59 cells59 rfl rfl cells9_ cells9_ hf with ⟨hcs, hd0⟩ | ⟨a, len', cap', m, n, V0, V1, D0, D1, P0, P1, hcs, _, hl, hm, hmm, hx, hall⟩
  · simp [Value.cells] at hcs
    obtain ⟨rfl, rfl, rfl⟩ := hcs
    exact ⟨none, [], 0, rfl, Nat.le_refl _, Kd.C_nil _ _, .inl ⟨by simp only [Prod.mk.injEq] at hd0; exact hd0.1, rfl⟩⟩
  · simp [Value.cells] at hcs
    obtain ⟨rfl, rfl, rfl⟩ := hcs
    simp only [if_true] at hmm
    have hle : len ≤ 9223372036854775807 := by have : cap ≤ 9223372036854775807 := hm; omega
    simp only [Prod.mk.injEq] at hx
    refine ⟨some a, (List.range len).map fun i => (⟨strV (V0 i), strV (V1 i)⟩ : S59), cap, by simp, by simpa using hl, ⟨by simp, by simpa using hle, fun _ => ⟨a, rfl, fun j p hj => ?_⟩⟩, .inr ⟨_, hx.1.trans (congrArg (fun e => DataW.slice e _) ?_)⟩⟩
    · simp only [List.getElem?_map, Option.map_eq_some_iff] at hj
      obtain ⟨i, hi, rfl⟩ := hj
      obtain ⟨hjl, hi⟩ := List.getElem?_eq_some_iff.1 hi
      simp only [List.getElem_range] at hi
      subst hi
      simp only [List.length_range] at hjl
      obtain ⟨h0, h1, t0, t1⟩ := hall j (by omega)
      refine ⟨[.string (strV (V0 j)), .string (strV (V1 j))], rfl, ⟨[.string (strV (V0 j))], [.string (strV (V1 j))], rfl, rfl, rfl⟩, fun i u hu => ?_⟩
      rcases i with _ | _ | i
      · simp only [List.getElem?_cons_zero, Option.some.injEq] at hu
        subst hu
        rw [← str_cell t0]
        exact h0
      · simp only [List.getElem?_cons_succ, List.getElem?_cons_zero, Option.some.injEq] at hu
        subst hu
        rw [← str_cell t1]
        exact h1
      · simp at hu
    · rw [List.map_map]
      refine List.map_congr_left fun i hi => ?_
      obtain ⟨h0, h1, t0, t1⟩ := hall i (by have := List.mem_range.1 hi; omega)
      simp only [Function.comp, labD]
      rw [str_datum t0, str_datum t1]
set_option maxRecDepth 100000 in
theorem matches_gen {H : Type} {enc : TypeId × Value → H} {W : World} {base : Nat} {v : Value} {d : DataW H} {ps : List MemPlace} (hval : Value.okWide Tryd.prog W .any base 31 v) (h : DataW.Trod enc Tryd.prog W 0 (fun _ => true) true 31 v d ps) :
    ∃ (A : Option Addr) (l : List S36) (c : Nat), v = .slice A l.length c ∧ l.length ≤ c ∧ Kd.C k36 W A l.length l ∧ (d = .nil ∧ l = [] ∨ ∃ spare, d = .slice (l.map matD) spare) := by
  obtain ⟨A, len, cap, rfl⟩ := okWide_slice Tryd.underlying31 hval
  obtain ⟨fuel, hf⟩ := h
  rcases open_slice Tryd.underlying31 hf with ⟨hcs, hd0⟩ | ⟨a, len', cap', m, n, D, Pl, hcs, _, hl, hm, hmm, hx0, hx⟩
  · simp [Value.cells] at hcs
    obtain ⟨rfl, rfl, rfl⟩ := hcs
    exact ⟨none, [], 0, rfl, Nat.le_refl _, Kd.C_nil _ _, .inl ⟨by simp only [Prod.mk.injEq] at hd0; exact hd0.1, rfl⟩⟩
  · simp [Value.cells] at hcs
    obtain ⟨rfl, rfl, rfl⟩ := hcs
    simp only [if_true] at hmm
    have hle : len ≤ 9223372036854775807 := by have : cap ≤ 9223372036854775807 := hm; omega
    simp only [Prod.mk.injEq] at hx0
    have each : ∀ i, i < m → ∃ q : Value × Value × Value, W.cell? (a.add (i * 3)) = some q.1 ∧ W.cell? (a.add (i * 3 + 1)) = some q.2.1 ∧ W.cell? (a.add (i * 3 + 2)) = some q.2.2 ∧
        (q.1 = .int .u8 (intV q.1) ∧ (Lit.int .u8 (intV q.1)).wf = true) ∧ q.2.1 = .string (strV q.2.1) ∧ q.2.2 = .string (strV q.2.2) ∧ D i = matD ⟨intV q.1, strV q.2.1, strV q.2.2⟩ := by
      intro i hi
      obtain ⟨cs', h1, h2⟩ := hx i hi
      rw [cells36] at h1
      obtain ⟨_, hlen, hcell⟩ := World.cells?_some h1
      obtain ⟨xs, k, hk, hxy, _, hxl, hf⟩ := DataW.trod_struct Tryd.underlying36 h2
      match xs, hxl, cs', hlen with
      | [y0, y1, y2], _, [v0, v1, v2], _ =>
        have g0 := hf 0 _ rfl
        have g1 := hf 1 _ rfl
        have g2 := hf 2 _ rfl
        simp [cells34, cells9_] at g0 g1 g2
        have e0 := hcell 0 (by omega)
        have e1 := hcell 1 (by omega)
        have e2 := hcell 2 (by omega)
        rw [Deep.add_add] at e0 e1 e2
        refine ⟨(v0, v1, v2), by simpa using e0, by simpa using e1, by simpa using e2, int_cell g0, str_cell g1, str_cell g2, ?_⟩
        simp only [Prod.mk.injEq] at hxy
        rw [hxy.1]
        have a0 : y0.1 = .lit (.int .u8 (intV v0)) := int_datum (D := y0.1) (P := y0.2) g0
        have a1 : y1.1 = .lit (.string (strV v1).data.toList) := str_datum (D := y1.1) (P := y1.2) g1
        have a2 : y2.1 = .lit (.string (strV v2).data.toList) := str_datum (D := y2.1) (P := y2.2) g2
        simp only [List.map_cons, List.map_nil, matD, a0, a1, a2]
    obtain ⟨q, hq⟩ := choose_lt each
    refine ⟨some a, (List.range len).map fun i => (⟨intV (q i).1, strV (q i).2.1, strV (q i).2.2⟩ : S36), cap, by simp, by simpa using hl, ⟨by simp, by simpa using hle, fun _ => ⟨a, rfl, fun j p hj => ?_⟩⟩, .inr ⟨_, hx0.1.trans (congrArg (fun e => DataW.slice e _) ?_)⟩⟩
    · simp only [List.getElem?_map, Option.map_eq_some_iff] at hj
      obtain ⟨i, hi, rfl⟩ := hj
      obtain ⟨hjl, hi⟩ := List.getElem?_eq_some_iff.1 hi
      simp only [List.getElem_range] at hi
      subst hi
      simp only [List.length_range] at hjl
      obtain ⟨h0, h1, h2, t0, t1, t2, _⟩ := hq j (by omega)
      refine ⟨[.int .u8 (intV (q j).1), .string (strV (q j).2.1), .string (strV (q j).2.2)], rfl, ⟨[.int .u8 (intV (q j).1)], [.string (strV (q j).2.1), .string (strV (q j).2.2)], rfl, rfl, ⟨[.string (strV (q j).2.1)], [.string (strV (q j).2.2)], rfl, rfl, rfl⟩⟩, fun i u hu => ?_⟩
      rcases i with _ | _ | _ | i
      · simp only [List.getElem?_cons_zero, Option.some.injEq] at hu
        subst hu
        show W.cell? (a.add (j * 3 + 0)) = some (.int .u8 (intV (q j).1))
        rw [← t0.1]
        exact h0
      · simp only [List.getElem?_cons_succ, List.getElem?_cons_zero, Option.some.injEq] at hu
        subst hu
        show W.cell? (a.add (j * 3 + 1)) = some (.string (strV (q j).2.1))
        rw [← t1]
        exact h1
      · simp only [List.getElem?_cons_succ, List.getElem?_cons_zero, Option.some.injEq] at hu
        subst hu
        show W.cell? (a.add (j * 3 + 2)) = some (.string (strV (q j).2.2))
        rw [← t2]
        exact h2
      · simp at hu
    · rw [List.map_map]
      refine List.map_congr_left fun i hi => ?_
      exact (hq i (by have := List.mem_range.1 hi; omega)).2.2.2.2.2.2
/-- What bulk says. -/
theorem bulk_labs {H : Type} : ∀ (l : List S59), l.length ≤ Rows.uptoBulkAll (H := H) (l.map labD) ∧ ∀ x ∈ l, x.f0.size ≤ Rows.uptoBulkAll (H := H) (l.map labD) ∧ x.f1.size ≤ Rows.uptoBulkAll (H := H) (l.map labD) := by
  intro l
  induction l with
  | nil => exact ⟨by simp, fun x hx => by cases hx⟩
  | cons y ys ih =>
    have e : Rows.uptoBulkAll (H := H) ((y :: ys).map labD) = y.f0.size + 1 + (y.f1.size + 1 + 0) + 1 + Rows.uptoBulkAll (H := H) (ys.map labD) := by
      simp only [List.map_cons, Rows.uptoBulkAll, labD, Rows.uptoBulk]
      rfl
    rw [e]
    refine ⟨by simp only [List.length_cons]; omega, fun x hx => ?_⟩
    rcases List.mem_cons.1 hx with rfl | hx
    · omega
    · have := ih.2 x hx
      omega
theorem bulk_mats {H : Type} : ∀ (l : List S36), l.length ≤ Rows.uptoBulkAll (H := H) (l.map matD) ∧ ∀ x ∈ l, x.f1.size ≤ Rows.uptoBulkAll (H := H) (l.map matD) ∧ x.f2.size ≤ Rows.uptoBulkAll (H := H) (l.map matD) := by
  intro l
  induction l with
  | nil => exact ⟨by simp, fun x hx => by cases hx⟩
  | cons y ys ih =>
    have e : Rows.uptoBulkAll (H := H) ((y :: ys).map matD) = 1 + (y.f1.size + 1 + (y.f2.size + 1 + 0)) + 1 + Rows.uptoBulkAll (H := H) (ys.map matD) := by
      simp only [List.map_cons, Rows.uptoBulkAll, matD, Rows.uptoBulk]
      rfl
    rw [e]
    refine ⟨by simp only [List.length_cons]; omega, fun x hx => ?_⟩
    rcases List.mem_cons.1 hx with rfl | hx
    · omega
    · have := ih.2 x hx
      omega
theorem bulk_mem {H : Type} : ∀ {ds : List (DataW H)} {j : Nat} {d : DataW H}, ds[j]? = some d → Rows.uptoBulk d ≤ Rows.uptoBulkAll ds
  | d0 :: ds, 0, d, h => by
    simp only [List.getElem?_cons_zero, Option.some.injEq] at h
    subst h
    simp only [Rows.uptoBulkAll]
    omega
  | d0 :: ds, j + 1, d, h => by
    simp only [List.getElem?_cons_succ] at h
    have := bulk_mem h
    simp only [Rows.uptoBulkAll]
    omega
  | [], _, _, h => by simp at h
theorem small_mem {H : Type} {ds : List (DataW H)} (h : Rows.uptoSmall H ds = true) {j : Nat} {d : DataW H} (hd : ds[j]? = some d) : Rows.uptoBulk d ≤ 1048576 := by
  have := bulk_mem hd
  simp only [Rows.uptoSmall, decide_eq_true_eq] at h
  omega
def LabsSmall (l : List S59) : Prop := l.length ≤ 1048576 ∧ ∀ x ∈ l, x.f0.size ≤ 1048576 ∧ x.f1.size ≤ 1048576
def MatsSmall (l : List S36) : Prop := l.length ≤ 1048576 ∧ ∀ x ∈ l, x.f1.size ≤ 1048576 ∧ x.f2.size ≤ 1048576
theorem labs_small {H : Type} {d : DataW H} {l : List S59} (h : d = .nil ∧ l = [] ∨ ∃ spare, d = .slice (l.map labD) spare) (hb : Rows.uptoBulk d ≤ 1048576) : LabsSmall l := by
  rcases h with ⟨_, rfl⟩ | ⟨sp, rfl⟩
  · exact ⟨by simp, fun x hx => by cases hx⟩
  · obtain ⟨h1, h2⟩ := bulk_labs (H := H) l
    simp only [Rows.uptoBulk] at hb
    exact ⟨by omega, fun x hx => by have := h2 x hx; omega⟩
theorem mats_small {H : Type} {d : DataW H} {l : List S36} (h : d = .nil ∧ l = [] ∨ ∃ spare, d = .slice (l.map matD) spare) (hb : Rows.uptoBulk d ≤ 1048576) : MatsSmall l := by
  rcases h with ⟨_, rfl⟩ | ⟨sp, rfl⟩
  · exact ⟨by simp, fun x hx => by cases hx⟩
  · obtain ⟨h1, h2⟩ := bulk_mats (H := H) l
    simp only [Rows.uptoBulk] at hb
    exact ⟨by omega, fun x hx => by have := h2 x hx; omega⟩
theorem str_small {H : Type} {s : ByteArray} {d : DataW H} (hd : d = .lit (.string s.data.toList)) (hb : Rows.uptoBulk d ≤ 1048576) : s.size ≤ 1048576 := by
  subst hd
  have : s.data.toList.length + 1 ≤ 1048576 := hb
  have e : s.data.toList.length = s.size := rfl
  omega
end Go.Proofs.YtogegkfefpgbcaaDoor.PL
