/- A []Label, a []string and a []Match that came in, with what the form's own reach says of their lengths. -/
import Derived.Test.YtogegkfefpgbcaaDoorZXLB
import Derived.SizedLaws
namespace Go.Proofs.YtogegkfefpgbcaaDoor.PL
open Go Go.Deep Go.ChangeShapes Go.WideShapes Go.RowKit Go.Proofs.YtogegkfefpgbcaaDoorW.PrintWords Go.Proofs.YtogegkfefpgbcaaDoorW.PrintLast Go.Proofs.YtogegkfefpgbcaaDoorW.PrintMore
set_option linter.unusedVariables false
set_option linter.unusedSimpArgs false
def InReach {H : Type} (t : TypeId) (d : DataW H) : Prop := ∀ n ∈ d.weights Tryd.prog t, n ≤ reachBytes
theorem inReach_of {H : Type} {ts : List TypeId} {ds : List (DataW H)} (h : (DataW.weightsEach Tryd.prog ts ds).all (· ≤ reachBytes) = true) {j : Nat} {t : TypeId} {d : DataW H} (ht : ts[j]? = some t) (hd : ds[j]? = some d) : InReach t d :=
  fun n hn => by simpa using List.all_eq_true.1 h n (DataW.weights_mem_each ht hd n hn)
theorem str_datum {H : Type} {enc : TypeId × Value → H} {W : World} {n : Nat} {V : Value} {D : DataW H} {P : List MemPlace} (h : DataW.trod enc Tryd.prog W 0 (fun _ => true) true n 9 [V] = some (D, P)) : D = .lit (.string (strV V).data.toList) := by
  obtain ⟨s, hs, hx, _⟩ := DataW.trod_string Tryd.underlying9 h; simp only [List.cons.injEq, and_true] at hs; subst hs; simp only [Prod.mk.injEq] at hx; exact hx.1
theorem InReach.str {H : Type} {s : ByteArray} (h : InReach (H := H) 9 (.lit (.string s.data.toList))) : s.size ≤ 140737488351232 := by
  have := h s.data.toList.length (by simp [DataW.weights]); simpa [reachBytes] using this
theorem weightsAll_mem {H : Type} {e : TypeId} : ∀ {l : List (DataW H)} {d : DataW H}, d ∈ l → ∀ n ∈ d.weights Tryd.prog e, n ∈ DataW.weightsAll Tryd.prog e l
  | x :: l, d, hd, n, hn => by
    simp only [DataW.weightsAll, List.mem_append]; rcases List.mem_cons.1 hd with rfl | hd
    · exact .inl hn
    · exact .inr (weightsAll_mem hd n hn)
theorem InReach.slice {H : Type} {t e : TypeId} {elems spare : List (DataW H)} (hu : Tryd.prog.underlying t = some (.slice e)) (h : InReach t (.slice elems spare)) : (elems.length + spare.length) * Tryd.prog.bytesOf e ≤ 140737488351232 ∧ ∀ d ∈ elems, InReach e d := by
  refine ⟨h _ (by simp [DataW.weights, hu]), fun d hd n hn => h n ?_⟩; simp only [DataW.weights, hu, List.mem_cons, List.mem_append]; exact .inr (.inl (weightsAll_mem hd n hn))
theorem bytes59 : Tryd.prog.bytesOf 59 = 32 := by kernel_rfl
def LabsOk (l : List S59) : Prop := l.length ≤ 4398046510976 ∧ ∀ x ∈ l, x.f0.size ≤ 140737488351232 ∧ x.f1.size ≤ 140737488351232
theorem labs_row {H : Type} {d0 d1 : DataW H} (h : InReach 59 (.agg [d0, d1])) : InReach 9 d0 ∧ InReach 9 d1 := by
  constructor
  · intro n hn
    refine h n ?_; simp only [DataW.weights, Tryd.underlying59]; exact DataW.weights_mem_each (j := 0) (t := 9) rfl rfl n hn
  · intro n hn
    refine h n ?_; simp only [DataW.weights, Tryd.underlying59]; exact DataW.weights_mem_each (j := 1) (t := 9) rfl rfl n hn
set_option maxRecDepth 100000 in
theorem labs_big {H : Type} {enc : TypeId × Value → H} {W : World} {base : Nat} {v : Value} {d : DataW H} {ps : List MemPlace} (hval : Value.okWide Tryd.prog W .any base 22 v) (h : DataW.Trod enc Tryd.prog W 0 (fun _ => true) true 22 v d ps) (hr : InReach 22 d) :
    ∃ (A : Option Addr) (l : List S59) (c : Nat), v = .slice A l.length c ∧ l.length ≤ c ∧ Kd.C k59 W A l.length l ∧ LabsOk l := by
  obtain ⟨A, len, cap, rfl⟩ := okWide_slice Tryd.underlying22 hval; obtain ⟨fuel, hf⟩ := h; rcases open_slice_pairs Tryd.underlying22 Tryd.underlying59 cells59 rfl rfl cells9_ cells9_ hf with ⟨hcs, _⟩ | ⟨a, len', cap', m, n, V0, V1, D0, D1, P0, P1, hcs, _, hl, hm, hmm, hx, hall⟩
  · simp [Value.cells] at hcs
    obtain ⟨rfl, rfl, rfl⟩ := hcs; exact ⟨none, [], 0, rfl, Nat.le_refl _, Kd.C_nil _ _, by simp, fun x hx => by cases hx⟩
  · simp [Value.cells] at hcs
    obtain ⟨rfl, rfl, rfl⟩ := hcs; simp only [if_true] at hmm; have hle : len ≤ 9223372036854775807 := by have : cap ≤ 9223372036854775807 := hm; omega
    simp only [Prod.mk.injEq] at hx; rw [hx.1] at hr; obtain ⟨b1, b2⟩ := hr.slice Tryd.underlying22; rw [bytes59] at b1; simp only [List.length_map, List.length_range] at b1; refine ⟨some a, (List.range len).map fun i => (⟨strV (V0 i), strV (V1 i)⟩ : S59), cap, by simp, by simpa using hl, ⟨by simp, by simpa using hle, fun _ => ⟨a, rfl, fun j p hj => ?_⟩⟩, by simp; omega, fun x hx => ?_⟩
    · simp only [List.getElem?_map, Option.map_eq_some_iff] at hj
      obtain ⟨i, hi, rfl⟩ := hj; obtain ⟨hjl, hi⟩ := List.getElem?_eq_some_iff.1 hi; simp only [List.getElem_range] at hi; subst hi; simp only [List.length_range] at hjl; obtain ⟨h0, h1, t0, t1⟩ := hall j (by omega); refine ⟨[.string (strV (V0 j)), .string (strV (V1 j))], rfl, ⟨[.string (strV (V0 j))], [.string (strV (V1 j))], rfl, rfl, rfl⟩, fun i u hu => ?_⟩; rcases i with _ | _ | i
      · simp only [List.getElem?_cons_zero, Option.some.injEq] at hu
        subst hu; rw [← str_cell t0]; exact h0
      · simp only [List.getElem?_cons_succ, List.getElem?_cons_zero, Option.some.injEq] at hu
        subst hu; rw [← str_cell t1]; exact h1
      · simp at hu
    · simp only [List.mem_map, List.mem_range] at hx
      obtain ⟨i, hi, rfl⟩ := hx; obtain ⟨h0, h1, t0, t1⟩ := hall i (by omega); obtain ⟨r0, r1⟩ := labs_row (b2 (.agg [D0 i, D1 i]) (List.mem_map.2 ⟨i, List.mem_range.2 hi, rfl⟩)); rw [str_datum t0] at r0; rw [str_datum t1] at r1; exact ⟨r0.str, r1.str⟩
theorem str_big {H : Type} {s : ByteArray} {d : DataW H} (hd : d = .lit (.string s.data.toList)) (hr : InReach 9 d) : s.size ≤ 140737488351232 := by
  subst hd; exact hr.str
end Go.Proofs.YtogegkfefpgbcaaDoor.PL
