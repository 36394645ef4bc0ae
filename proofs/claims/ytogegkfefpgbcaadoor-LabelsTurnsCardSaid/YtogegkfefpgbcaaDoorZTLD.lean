/- A []Label, a []string and a []Match that came in, with what the form's own reach says of their lengths. -/
import Derived.Test.YtogegkfefpgbcaaDoorZTLB
import Derived.SizedLaws
namespace Go.Proofs.YtogegkfefpgbcaaDoor.PL
open Go Go.Deep Go.ChangeShapes Go.WideShapes Go.RowKit Go.Proofs.YtogegkfefpgbcaaDoorW.PrintWords Go.Proofs.YtogegkfefpgbcaaDoorW.PrintLast Go.Proofs.YtogegkfefpgbcaaDoorW.PrintMore
set_option linter.unusedVariables false
set_option linter.unusedSimpArgs false
theorem under52 : Tryd.prog.underlying 52 = some (.slice 9) := by kernel_rfl
theorem under34 : Tryd.prog.underlying 34 = some (.int .u8) := by kernel_rfl
theorem cells34 : Tryd.prog.cellsOf 34 = 1 := by kernel_rfl
theorem cells36 : Tryd.prog.cellsOf 36 = 3 := by kernel_rfl
/-- No weight of this datum goes beyond the reach. -/
def InReach {H : Type} (t : TypeId) (d : DataW H) : Prop := ∀ n ∈ d.weights Tryd.prog t, n ≤ reachBytes
theorem inReach_of {H : Type} {ts : List TypeId} {ds : List (DataW H)} (h : (DataW.weightsEach Tryd.prog ts ds).all (· ≤ reachBytes) = true) {j : Nat} {t : TypeId} {d : DataW H} (ht : ts[j]? = some t) (hd : ds[j]? = some d) : InReach t d :=
  fun n hn => by simpa using List.all_eq_true.1 h n (DataW.weights_mem_each ht hd n hn)
theorem str_datum {H : Type} {enc : TypeId × Value → H} {W : World} {n : Nat} {V : Value} {D : DataW H} {P : List MemPlace} (h : DataW.trod enc Tryd.prog W 0 (fun _ => true) true n 9 [V] = some (D, P)) : D = .lit (.string (strV V).data.toList) := by
  obtain ⟨s, hs, hx, _⟩ := DataW.trod_string Tryd.underlying9 h
  simp only [List.cons.injEq, and_true] at hs
  subst hs
  simp only [Prod.mk.injEq] at hx
  exact hx.1
theorem InReach.str {H : Type} {s : ByteArray} (h : InReach (H := H) 9 (.lit (.string s.data.toList))) : s.size ≤ 140737488351232 := by
  have := h s.data.toList.length (by simp [DataW.weights])
  simpa [reachBytes] using this
theorem weightsAll_mem {H : Type} {e : TypeId} : ∀ {l : List (DataW H)} {d : DataW H}, d ∈ l → ∀ n ∈ d.weights Tryd.prog e, n ∈ DataW.weightsAll Tryd.prog e l
  | x :: l, d, hd, n, hn => by
    simp only [DataW.weightsAll, List.mem_append]
    rcases List.mem_cons.1 hd with rfl | hd
    · exact .inl hn
    · exact .inr (weightsAll_mem hd n hn)
theorem InReach.slice {H : Type} {t e : TypeId} {elems spare : List (DataW H)} (hu : Tryd.prog.underlying t = some (.slice e)) (h : InReach t (.slice elems spare)) : (elems.length + spare.length) * Tryd.prog.bytesOf e ≤ 140737488351232 ∧ ∀ d ∈ elems, InReach e d := by
  refine ⟨h _ (by simp [DataW.weights, hu]), fun d hd n hn => h n ?_⟩
  simp only [DataW.weights, hu, List.mem_cons, List.mem_append]
  exact .inr (.inl (weightsAll_mem hd n hn))
theorem bytes59 : Tryd.prog.bytesOf 59 = 32 := by kernel_rfl
theorem bytes36 : Tryd.prog.bytesOf 36 = 40 := by kernel_rfl
theorem bytes9 : Tryd.prog.bytesOf 9 = 16 := by kernel_rfl
def LabsOk (l : List S59) : Prop := l.length ≤ 4398046510976 ∧ ∀ x ∈ l, x.f0.size ≤ 140737488351232 ∧ x.f1.size ≤ 140737488351232
def NamesOk (l : List ByteArray) : Prop := l.length ≤ 8796093021952 ∧ ∀ x ∈ l, x.size ≤ 140737488351232
def MatchOk (l : List S36) : Prop := l.length ≤ 3518437208780 ∧ ∀ x ∈ l, (Lit.int .u8 x.f0).wf = true ∧ x.f1.size ≤ 140737488351232 ∧ x.f2.size ≤ 140737488351232
theorem labs_row {H : Type} {d0 d1 : DataW H} (h : InReach 59 (.agg [d0, d1])) : InReach 9 d0 ∧ InReach 9 d1 := by
  constructor
  · intro n hn
    refine h n ?_
    simp only [DataW.weights, Tryd.underlying59]
    exact DataW.weights_mem_each (j := 0) (t := 9) rfl rfl n hn
  · intro n hn
    refine h n ?_
    simp only [DataW.weights, Tryd.underlying59]
    exact DataW.weights_mem_each (j := 1) (t := 9) rfl rfl n hn
theorem match_row {H : Type} {d0 d1 d2 : DataW H} (h : InReach 36 (.agg [d0, d1, d2])) : InReach 9 d1 ∧ InReach 9 d2 := by
  constructor
  · intro n hn
    refine h n ?_
    simp only [DataW.weights, Tryd.underlying36]
    exact DataW.weights_mem_each (j := 1) (t := 9) rfl rfl n hn
  · intro n hn
    refine h n ?_
    simp only [DataW.weights, Tryd.underlying36]
    exact DataW.weights_mem_each (j := 2) (t := 9) rfl rfl n hn
set_option maxRecDepth 100000 in
theorem labs_big {H : Type} {enc : TypeId × Value → H} {W : World} {base : Nat} {v : Value} {d : DataW H} {ps : List MemPlace} (hval : Value.okWide Tryd.prog W .any base 22 v) (h : DataW.Trod enc Tryd.prog W 0 (fun _ => true) true 22 v d ps) (hr : InReach 22 d) :
    ∃ (A : Option Addr) (l : List S59) (c : Nat), v = .slice A l.length c ∧ l.length ≤ c ∧ Kd.C k59 W A l.length l ∧ LabsOk l := by
  obtain ⟨A, len, cap, rfl⟩ := okWide_slice Tryd.underlying22 hval
  obtain ⟨fuel, hf⟩ := h
  rcases open_slice_pairs Tryd.underlying22 Tryd.underlying59 cells59 rfl rfl cells9_ cells9_ hf with ⟨hcs, _⟩ | ⟨a, len', cap', m, n, V0, V1, D0, D1, P0, P1, hcs, _, hl, hm, hmm, hx, hall⟩
  · simp [Value.cells] at hcs
    obtain ⟨rfl, rfl, rfl⟩ := hcs
    exact ⟨none, [], 0, rfl, Nat.le_refl _, Kd.C_nil _ _, by simp, fun x hx => by cases hx⟩
  · simp [Value.cells] at hcs
    obtain ⟨rfl, rfl, rfl⟩ := hcs
    simp only [if_true] at hmm
    have hle : len ≤ 9223372036854775807 := by have : cap ≤ 9223372036854775807 := hm; omega
    simp only [Prod.mk.injEq] at hx
    rw [hx.1] at hr
    obtain ⟨b1, b2⟩ := hr.slice Tryd.underlying22
    rw [bytes59] at b1
    simp only [List.length_map, List.length_range] at b1
    refine ⟨some a, (List.range len).map fun i => (⟨strV (V0 i), strV (V1 i)⟩ : S59), cap, by simp, by simpa using hl, ⟨by simp, by simpa using hle, fun _ => ⟨a, rfl, fun j p hj => ?_⟩⟩, by simp; omega, fun x hx => ?_⟩
    · simp only [List.getElem?_map, Option.map_eq_some_iff] at hj
      obtain ⟨i, hi, rfl⟩ := hj
      obtain ⟨hjl, hi⟩ := List.getElem?_eq_some_iff.1 hi
      simp only [List.getElem_range] at hi
      subst hi
      simp only [List.length_range] at hjl
      obtain ⟨h0, h1, t0, t1⟩ := hall j (by omega)
      refine ⟨[.string (strV (V0 j)), .string (strV (V1 j))], rfl, ⟨[.string (strV (V0 j))], [.string (strV (V1 j))], rfl, rfl, rfl⟩, fun i u hu => ?_⟩
      rcases i with _ | _ | i
      · simp only [List.getElem?_cons_zero, Option.some.injEq] at hu
        subst hu
        rw [← str_cell t0]
        exact h0
      · simp only [List.getElem?_cons_succ, List.getElem?_cons_zero, Option.some.injEq] at hu
        subst hu
        rw [← str_cell t1]
        exact h1
      · simp at hu
    · simp only [List.mem_map, List.mem_range] at hx
      obtain ⟨i, hi, rfl⟩ := hx
      obtain ⟨h0, h1, t0, t1⟩ := hall i (by omega)
      obtain ⟨r0, r1⟩ := labs_row (b2 (.agg [D0 i, D1 i]) (List.mem_map.2 ⟨i, List.mem_range.2 hi, rfl⟩))
      rw [str_datum t0] at r0
      rw [str_datum t1] at r1
      exact ⟨r0.str, r1.str⟩
theorem str_big {H : Type} {s : ByteArray} {d : DataW H} (hd : d = .lit (.string s.data.toList)) (hr : InReach 9 d) : s.size ≤ 140737488351232 := by
  subst hd
  exact hr.str
set_option maxRecDepth 100000 in
theorem names_big {H : Type} {enc : TypeId × Value → H} {W : World} {base : Nat} {v : Value} {d : DataW H} {ps : List MemPlace} (hval : Value.okWide Tryd.prog W .any base 52 v) (h : DataW.Trod enc Tryd.prog W 0 (fun _ => true) true 52 v d ps) (hr : InReach 52 d) :
    ∃ (A : Option Addr) (l : List ByteArray) (c : Nat), v = .slice A l.length c ∧ l.length ≤ c ∧ Kd.C Kd.string W A l.length l ∧ NamesOk l := by
  obtain ⟨A, len, cap, rfl⟩ := okWide_slice under52 hval
  obtain ⟨fuel, hf⟩ := h
  rcases open_slice1 under52 cells9_ hf with ⟨hcs, _⟩ | ⟨a, len', cap', m, n, V, D, P, hcs, _, hl, hm, hmm, hx, hall⟩
  · simp [Value.cells] at hcs
    obtain ⟨rfl, rfl, rfl⟩ := hcs
    exact ⟨none, [], 0, rfl, Nat.le_refl _, Kd.C_nil _ _, by simp, fun x hx => by cases hx⟩
  · simp [Value.cells] at hcs
    obtain ⟨rfl, rfl, rfl⟩ := hcs
    simp only [if_true] at hmm
    have hle : len ≤ 9223372036854775807 := by have : cap ≤ 9223372036854775807 := hm; omega
    simp only [Prod.mk.injEq] at hx
    rw [hx.1] at hr
    obtain ⟨b1, b2⟩ := hr.slice under52
    rw [bytes9] at b1
    simp only [List.length_map, List.length_range] at b1
    refine ⟨some a, (List.range len).map fun i => strV (V i), cap, by simp, by simpa using hl, ⟨by simp, by simpa using hle, fun _ => ⟨a, rfl, fun j p hj => ?_⟩⟩, by simp; omega, fun x hx => ?_⟩
    · simp only [List.getElem?_map, Option.map_eq_some_iff] at hj
      obtain ⟨i, hi, rfl⟩ := hj
      obtain ⟨hjl, hi⟩ := List.getElem?_eq_some_iff.1 hi
      simp only [List.getElem_range] at hi
      subst hi
      simp only [List.length_range] at hjl
      obtain ⟨h0, t0⟩ := hall j (by omega)
      refine ⟨[.string (strV (V j))], rfl, rfl, fun i u hu => ?_⟩
      rcases i with _ | i
      · simp only [List.getElem?_cons_zero, Option.some.injEq] at hu
        subst hu
        rw [← str_cell t0, show Kd.string.sz = 1 from rfl, Nat.mul_one]
        exact h0
      · simp at hu
    · simp only [List.mem_map, List.mem_range] at hx
      obtain ⟨i, hi, rfl⟩ := hx
      obtain ⟨h0, t0⟩ := hall i (by omega)
      have r0 := b2 (D i) (List.mem_map.2 ⟨i, List.mem_range.2 hi, rfl⟩)
      rw [str_datum t0] at r0
      exact r0.str
/-- A number out of a value. -/
def intV : Value → Int
  | .int _ n => n
  | _ => 0
theorem int_cell {H : Type} {enc : TypeId × Value → H} {W : World} {n : Nat} {V : Value} {D : DataW H} {P : List MemPlace} (h : DataW.trod enc Tryd.prog W 0 (fun _ => true) true n 34 [V] = some (D, P)) : V = .int .u8 (intV V) ∧ (Lit.int .u8 (intV V)).wf = true := by
  obtain ⟨s, hs, _, hw⟩ := DataW.trod_int under34 h
  simp only [List.cons.injEq, and_true] at hs
  subst hs
  exact ⟨rfl, hw⟩
set_option maxRecDepth 100000 in
theorem matches_big {H : Type} {enc : TypeId × Value → H} {W : World} {base : Nat} {v : Value} {d : DataW H} {ps : List MemPlace} (hval : Value.okWide Tryd.prog W .any base 31 v) (h : DataW.Trod enc Tryd.prog W 0 (fun _ => true) true 31 v d ps) (hr : InReach 31 d) :
    ∃ (A : Option Addr) (l : List S36) (c : Nat), v = .slice A l.length c ∧ l.length ≤ c ∧ Kd.C k36 W A l.length l ∧ MatchOk l := by
  obtain ⟨A, len, cap, rfl⟩ := okWide_slice Tryd.underlying31 hval
  obtain ⟨fuel, hf⟩ := h
  rcases open_slice Tryd.underlying31 hf with ⟨hcs, _⟩ | ⟨a, len', cap', m, n, D, Pl, hcs, _, hl, hm, hmm, hx0, hx⟩
  · simp [Value.cells] at hcs
    obtain ⟨rfl, rfl, rfl⟩ := hcs
    exact ⟨none, [], 0, rfl, Nat.le_refl _, Kd.C_nil _ _, by simp, fun x hx => by cases hx⟩
  · simp [Value.cells] at hcs
    obtain ⟨rfl, rfl, rfl⟩ := hcs
    simp only [if_true] at hmm
    have hle : len ≤ 9223372036854775807 := by have : cap ≤ 9223372036854775807 := hm; omega
    simp only [Prod.mk.injEq] at hx0
    rw [hx0.1] at hr
    obtain ⟨b1, b2⟩ := hr.slice Tryd.underlying31
    rw [bytes36] at b1
    simp only [List.length_map, List.length_range] at b1
    have each : ∀ i, i < m → ∃ q : Value × Value × Value, W.cell? (a.add (i * 3)) = some q.1 ∧ W.cell? (a.add (i * 3 + 1)) = some q.2.1 ∧ W.cell? (a.add (i * 3 + 2)) = some q.2.2 ∧
        (q.1 = .int .u8 (intV q.1) ∧ (Lit.int .u8 (intV q.1)).wf = true) ∧ q.2.1 = .string (strV q.2.1) ∧ q.2.2 = .string (strV q.2.2) ∧ (i < len → (strV q.2.1).size ≤ 140737488351232 ∧ (strV q.2.2).size ≤ 140737488351232) := by
      intro i hi
      obtain ⟨cs', h1, h2⟩ := hx i hi
      rw [cells36] at h1
      obtain ⟨_, hlen, hcell⟩ := World.cells?_some h1
      obtain ⟨xs, k, hk, hxy, _, hxl, hf⟩ := DataW.trod_struct Tryd.underlying36 h2
      match xs, hxl, cs', hlen with
      | [y0, y1, y2], _, [v0, v1, v2], _ =>
        have g0 := hf 0 _ rfl
        have g1 := hf 1 _ rfl
        have g2 := hf 2 _ rfl
        simp [cells34, cells9_] at g0 g1 g2
        have e0 := hcell 0 (by omega)
        have e1 := hcell 1 (by omega)
        have e2 := hcell 2 (by omega)
        rw [Deep.add_add] at e0 e1 e2
        refine ⟨(v0, v1, v2), by simpa using e0, by simpa using e1, by simpa using e2, int_cell g0, str_cell g1, str_cell g2, fun hil => ?_⟩
        have r := b2 (D i) (List.mem_map.2 ⟨i, List.mem_range.2 hil, rfl⟩)
        simp only [Prod.mk.injEq] at hxy
        rw [hxy.1] at r
        obtain ⟨r1, r2⟩ := match_row r
        replace r1 : InReach 9 y1.1 := r1
        replace r2 : InReach 9 y2.1 := r2
        rw [str_datum (D := y1.1) (P := y1.2) g1] at r1
        rw [str_datum (D := y2.1) (P := y2.2) g2] at r2
        exact ⟨r1.str, r2.str⟩
    obtain ⟨q, hq⟩ := choose_lt each
    refine ⟨some a, (List.range len).map fun i => (⟨intV (q i).1, strV (q i).2.1, strV (q i).2.2⟩ : S36), cap, by simp, by simpa using hl, ⟨by simp, by simpa using hle, fun _ => ⟨a, rfl, fun j p hj => ?_⟩⟩, by simp; omega, fun x hx => ?_⟩
    · simp only [List.getElem?_map, Option.map_eq_some_iff] at hj
      obtain ⟨i, hi, rfl⟩ := hj
      obtain ⟨hjl, hi⟩ := List.getElem?_eq_some_iff.1 hi
      simp only [List.getElem_range] at hi
      subst hi
      simp only [List.length_range] at hjl
      obtain ⟨h0, h1, h2, t0, t1, t2, _⟩ := hq j (by omega)
      refine ⟨[.int .u8 (intV (q j).1), .string (strV (q j).2.1), .string (strV (q j).2.2)], rfl, ⟨[.int .u8 (intV (q j).1)], [.string (strV (q j).2.1), .string (strV (q j).2.2)], rfl, rfl, ⟨[.string (strV (q j).2.1)], [.string (strV (q j).2.2)], rfl, rfl, rfl⟩⟩, fun i u hu => ?_⟩
      rcases i with _ | _ | _ | i
      · simp only [List.getElem?_cons_zero, Option.some.injEq] at hu
        subst hu
        show W.cell? (a.add (j * 3 + 0)) = some (.int .u8 (intV (q j).1))
        rw [← t0.1]
        exact h0
      · simp only [List.getElem?_cons_succ, List.getElem?_cons_zero, Option.some.injEq] at hu
        subst hu
        show W.cell? (a.add (j * 3 + 1)) = some (.string (strV (q j).2.1))
        rw [← t1]
        exact h1
      · simp only [List.getElem?_cons_succ, List.getElem?_cons_zero, Option.some.injEq] at hu
        subst hu
        show W.cell? (a.add (j * 3 + 2)) = some (.string (strV (q j).2.2))
        rw [← t2]
        exact h2
      · simp at hu
    · simp only [List.mem_map, List.mem_range] at hx
      obtain ⟨i, hi, rfl⟩ := hx
      obtain ⟨h0, h1, h2, t0, t1, t2, t3⟩ := hq i (by omega)
      exact ⟨t0.2, t3 hi⟩
end Go.Proofs.YtogegkfefpgbcaaDoor.PL
