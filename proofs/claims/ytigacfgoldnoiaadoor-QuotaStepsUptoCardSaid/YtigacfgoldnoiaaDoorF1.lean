/- QuotaEarly in plain terms: one operation a worker under way, whatever the schedule. -/
import Derived.Test.YtigacfgoldnoiaaDoorE1
namespace Go.Proofs.YtigacfgoldnoiaaDoor
open Go.RowKit
set_option linter.unusedVariables false
set_option linter.unusedSimpArgs false

/-- What a worker's operation under way has in hand. -/
def oh : Option (Nat × Pn) → Nat
  | none => 0
  | some (_, p) => p.nx.hand
/-- A worker's Take, or Back, under way; x is what the worker's cell has. -/
def Mine (take : Bool) (x : Nat) (p : Pn) : Prop :=
  match p.nx with
  | .look => take = true
  | .use => take = true
  | .pool => take = true ∧ x = 0
  | .borrow => take = true ∧ x = 0
  | .keep _ => take = true ∧ x = 0
  | .empty => take = false
  | .give _ => take = false
  | .sum => False
  | .fin => False

theorem mine_step (batch n m : Nat) (l : List Nat) (p : Pn) (take : Bool) (hl : l.length = n + 1) (hloc : Loc n m p) (hb : 1 ≤ batch) (hM : Mine take (l.getD p.own 0) p) (hB : l.getD p.own 0 + p.nx.hand ≤ batch) :
    (∀ j, j ≠ 0 → j ≠ p.own → (qstep batch n l p).1.getD j 0 = l.getD j 0) ∧ (qstep batch n l p).1.getD p.own 0 + (qstep batch n l p).2.1.nx.hand ≤ batch ∧
    (((qstep batch n l p).2.1.nx.ended = false ∧ Mine take ((qstep batch n l p).1.getD p.own 0) (qstep batch n l p).2.1) ∨
      ((qstep batch n l p).2.1.nx.ended = true ∧ (qstep batch n l p).2.1.nx.hand = 0 ∧
        (take = true → took p (qstep batch n l p).2.1 = (qstep batch n l p).2.1.ans ∧ ((qstep batch n l p).2.1.ans = 0 → l.getD 0 0 = 0)) ∧
        (take = false → took p (qstep batch n l p).2.1 = 0))) := by
  obtain ⟨nx, own, saw, left, ans⟩ := p
  obtain ⟨h1, h2, h3⟩ := hloc
  simp only at h1 h2 hM hB
  have hown : own < l.length := by omega
  cases nx with
  | fin => exact hM.elim
  | sum => exact hM.elim
  | look =>
    simp only [Mine] at hM
    simp only [Nx.hand] at hB
    by_cases hx : 0 < l.getD own 0
    · simp only [qstep, if_pos hx]
      exact ⟨by intros; trivial, hB, .inl ⟨rfl, hM⟩⟩
    · simp only [qstep, if_neg hx]
      exact ⟨by intros; trivial, hB, .inl ⟨rfl, hM, by omega⟩⟩
  | use =>
    simp only [Mine] at hM
    simp only [Nx.hand] at hB
    by_cases hx : l.getD own 0 = saw
    · simp only [qstep, if_pos hx]
      refine ⟨fun j _ hj => set_other _ _ _ _ hj, ?_, .inr ⟨rfl, rfl, fun _ => ⟨rfl, fun h => by simp at h⟩, fun h => by rw [hM] at h; cases h⟩⟩
      rw [set_here _ _ _ hown]
      simp only [Nx.hand]
      omega
    · simp only [qstep, if_neg hx]
      exact ⟨by intros; trivial, hB, .inl ⟨rfl, hM⟩⟩
  | pool =>
    simp only [Mine] at hM
    simp only [Nx.hand] at hB
    by_cases hx : 0 < l.getD 0 0
    · simp only [qstep, if_pos hx]
      exact ⟨by intros; trivial, hB, .inl ⟨rfl, hM⟩⟩
    · simp only [qstep, if_neg hx]
      exact ⟨by intros; trivial, hB, .inr ⟨rfl, rfl, fun _ => ⟨rfl, fun _ => by omega⟩, fun h => by rw [hM.1] at h; cases h⟩⟩
  | borrow =>
    simp only [Mine] at hM
    simp only [Nx.hand] at hB
    by_cases hx : l.getD 0 0 = saw
    · by_cases hm : min batch saw = 1
      · simp only [qstep, if_pos hx, if_pos hm]
        refine ⟨fun j hj _ => set_other _ _ _ _ hj, ?_, .inr ⟨rfl, rfl, fun _ => ⟨rfl, fun h => by simp at h⟩, fun h => by rw [hM.1] at h; cases h⟩⟩
        rw [set_other _ _ _ _ (by omega)]
        simp only [Nx.hand]
        omega
      · simp only [qstep, if_pos hx, if_neg hm]
        refine ⟨fun j hj _ => set_other _ _ _ _ hj, ?_, .inl ⟨rfl, hM.1, ?_⟩⟩
        · rw [set_other _ _ _ _ (by omega), hM.2]
          simp only [Nx.hand]
          omega
        · rw [set_other _ _ _ _ (by omega), hM.2]
    · simp only [qstep, if_neg hx]
      exact ⟨by intros; trivial, hB, .inl ⟨rfl, hM⟩⟩
  | keep b =>
    simp only [Mine] at hM
    simp only [Nx.hand] at hB
    simp only [qstep]
    refine ⟨fun j _ hj => set_other _ _ _ _ hj, ?_, .inr ⟨rfl, rfl, fun _ => ⟨rfl, fun h => by simp at h⟩, fun h => by rw [hM.1] at h; cases h⟩⟩
    rw [set_here _ _ _ hown]
    simp only [Nx.hand]
    omega
  | empty =>
    simp only [Mine] at hM
    simp only [Nx.hand] at hB
    by_cases hx : l.getD own 0 = 0
    · simp only [qstep, if_pos hx]
      refine ⟨fun j _ hj => set_other _ _ _ _ hj, ?_, .inr ⟨rfl, rfl, (fun h => by rw [hM] at h; cases h), fun _ => rfl⟩⟩
      rw [set_here _ _ _ hown]
      simp only [Nx.hand]
      omega
    · simp only [qstep, if_neg hx]
      refine ⟨fun j _ hj => set_other _ _ _ _ hj, ?_, .inl ⟨rfl, hM⟩⟩
      rw [set_here _ _ _ hown]
      simp only [Nx.hand]
      omega
  | give x =>
    simp only [Mine] at hM
    simp only [Nx.hand] at hB
    simp only [qstep]
    refine ⟨fun j hj _ => set_other _ _ _ _ hj, ?_, .inr ⟨rfl, rfl, (fun h => by rw [hM] at h; cases h), fun _ => rfl⟩⟩
    rw [set_other _ _ _ _ (by omega)]
    simp only [Nx.hand]
    omega

theorem pair_sum (b : Nat) : ∀ (t : List Nat) (ps : List (Option (Nat × Pn))), t.length = ps.length → (∀ k, k < t.length → t.getD k 0 + oh (ps.getD k none) ≤ b) → t.sum + (ps.map oh).sum ≤ t.length * b := by
  intro t
  induction t with
  | nil =>
    intro ps hl _
    cases ps with
    | nil => simp
    | cons a ps => simp at hl
  | cons a t ih =>
    intro ps hl h
    cases ps with
    | nil => simp at hl
    | cons q ps =>
      have h0 := h 0 (by simp)
      simp only [List.getD_cons_zero] at h0
      have h1 := ih ps (by simpa using hl) (fun k hk => by have := h (k + 1) (by simpa using hk); simpa using this)
      simp only [List.sum_cons, List.map_cons, List.length_cons, Nat.succ_mul]
      omega

theorem hands_set (ps : List (Option (Nat × Pn))) (k : Nat) (v : Option (Nat × Pn)) (h : k < ps.length) : ((ps.set k v).map oh).sum + oh (ps.getD k none) = (ps.map oh).sum + oh v := by
  have h1 := sum_set (ps.map oh) k (oh v) (by simpa using h)
  rw [List.map_set]
  have h2 : (ps.map oh).getD k 0 = oh (ps.getD k none) := by simp [List.getD, List.getElem?_eq_getElem h]
  omega

/-- What holds between two actions. -/
structure Early (batch n limit : Nat) (l : List Nat) (ps : List (Option (Nat × Pn))) (tk : List Bool) (T : Nat) : Prop where
  len : l.length = n + 1
  plen : ps.length = n
  tlen : tk.length = n
  sum : l.sum + (ps.map oh).sum + T = limit
  cell : ∀ k, k < n → l.getD (k + 1) 0 + oh (ps.getD k none) ≤ batch
  mine : ∀ k bp p, ps[k]? = some (some (bp, p)) → p.own = k + 1 ∧ Loc n limit p ∧ Mine (tk.getD k false) (l.getD (k + 1) 0) p

theorem getD_of_get {ps : List (Option (Nat × Pn))} {k : Nat} {v : Option (Nat × Pn)} (h : ps[k]? = some v) : ps.getD k none = v := by simp [List.getD, h]
theorem opt_set_getD (ps : List (Option (Nat × Pn))) (k j : Nat) (v : Option (Nat × Pn)) (h : k < ps.length) : (ps.set k v).getD j none = if k = j then v else ps.getD j none := by
  simp only [List.getD, List.getElem?_set]
  split <;> simp_all

theorem Early.start {batch n limit : Nat} {l : List Nat} {ps : List (Option (Nat × Pn))} {tk : List Bool} {T k : Nat} (h : Early batch n limit l ps tk T) (hk : ps[k]? = some none) (bp : Nat) (take : Bool) (p : Pn) (hp : p = ⟨if take then .look else .empty, k + 1, 0, 0, 0⟩) :
    Early batch n limit l (ps.set k (some (bp, p))) (tk.set k take) T := by
  have hkn : k < n := by have := (List.getElem?_eq_some_iff.1 hk).1; have := h.plen; omega
  have hh : oh (some (bp, p)) = 0 := by subst hp; cases take <;> rfl
  have h0 := getD_of_get hk
  refine ⟨h.len, by simp [h.plen], by simp [h.tlen], ?_, ?_, ?_⟩
  · have := hands_set ps k (some (bp, p)) (by rw [h.plen]; exact hkn)
    rw [h0, hh] at this
    simp only [oh, Nat.add_zero] at this
    rw [this]
    exact h.sum
  · intro j hj
    rw [opt_set_getD _ _ _ _ (by rw [h.plen]; exact hkn)]
    split
    · rename_i e; subst e
      have := h.cell k hj
      rw [h0] at this
      rw [hh]
      simpa [oh] using this
    · exact h.cell j hj
  · intro j bp' p' hj
    by_cases e : k = j
    · subst e
      rw [List.getElem?_set_self (by rw [h.plen]; exact hkn)] at hj
      simp only [Option.some.injEq, Prod.mk.injEq] at hj
      obtain ⟨rfl, rfl⟩ := hj
      have ht : (tk.set k take).getD k false = take := by simp [List.getD, h.tlen, hkn]
      rw [ht, hp]
      refine ⟨rfl, ⟨by simp, by simp only; omega, ?_⟩, ?_⟩
      · cases take <;> trivial
      · cases take <;> rfl
    · rw [List.getElem?_set_ne e] at hj
      have ht : (tk.set k take).getD j false = tk.getD j false := by simp [List.getD, List.getElem?_set_ne e]
      rw [ht]
      exact h.mine j bp' p' hj

/-- One action of the worker's operation. -/
theorem Early.step {batch n limit : Nat} {l : List Nat} {ps : List (Option (Nat × Pn))} {tk : List Bool} {T k bp : Nat} {p : Pn} (h : Early batch n limit l ps tk T) (hb : 1 ≤ batch) (hk : ps[k]? = some (some (bp, p))) :
    ((qstep batch n l p).2.1.nx.ended = false ∧ Early batch n limit (qstep batch n l p).1 (ps.set k (some (bp, (qstep batch n l p).2.1))) tk T) ∨
    ((qstep batch n l p).2.1.nx.ended = true ∧ tk.getD k false = true ∧ Early batch n limit (qstep batch n l p).1 (ps.set k none) tk (T + (qstep batch n l p).2.1.ans) ∧ ((qstep batch n l p).2.1.ans = 0 → limit ≤ T + n * batch)) ∨
    ((qstep batch n l p).2.1.nx.ended = true ∧ tk.getD k false = false ∧ Early batch n limit (qstep batch n l p).1 (ps.set k none) tk T) := by
  obtain ⟨m1, m2, m3⟩ := h.mine k bp p hk
  have hkn : k < n := by have := (List.getElem?_eq_some_iff.1 hk).1; have := h.plen; omega
  have h0 := getD_of_get hk
  have hc := h.cell k hkn
  rw [h0] at hc
  simp only [oh] at hc
  rw [← m1] at hc m3
  obtain ⟨s1, s2, s3⟩ := mine_step batch n limit l p _ h.len m2 hb m3 hc
  have st := qstep_total batch n limit l p h.len m2 hb
  have hs := h.sum
  have hand : ∀ v, ((ps.set k v).map oh).sum + p.nx.hand = (ps.map oh).sum + oh v := fun v => by
    have := hands_set ps k v (by rw [h.plen]; exact hkn)
    rwa [h0] at this
  have htot : l.sum + p.nx.hand ≤ limit := by
    have h1 := hand none
    simp only [oh, Nat.add_zero] at h1
    omega
  have hloc' := qstep_loc batch n limit l p m2 hb (by omega)
  have hown' := qstep_own batch n l p
  have hlen' : (qstep batch n l p).1.length = n + 1 := by rw [qstep_length, h.len]
  have common : ∀ v, oh v = (qstep batch n l p).2.1.nx.hand → (∀ bp' p', v = some (bp', p') → p'.own = k + 1 ∧ Loc n limit p' ∧ Mine (tk.getD k false) ((qstep batch n l p).1.getD (k + 1) 0) p') → ∀ T', (qstep batch n l p).1.sum + ((ps.set k v).map oh).sum + T' = limit → Early batch n limit (qstep batch n l p).1 (ps.set k v) tk T' := by
    intro v hv hv2 T' hT
    refine ⟨hlen', by simp [h.plen], h.tlen, hT, ?_, ?_⟩
    · intro j hj
      rw [opt_set_getD _ _ _ _ (by rw [h.plen]; exact hkn)]
      split
      · rename_i e; subst e
        rw [hv, ← m1]
        exact s2
      · rename_i e
        rw [s1 (j + 1) (by omega) (by omega)]
        exact h.cell j hj
    · intro j bp' p' hj
      by_cases e : k = j
      · subst e
        rw [List.getElem?_set_self (by rw [h.plen]; exact hkn)] at hj
        exact hv2 bp' p' (Option.some.inj hj)
      · rw [List.getElem?_set_ne e] at hj
        have := h.mine j bp' p' hj
        rw [s1 (j + 1) (by omega) (by omega)]
        exact this
  rcases s3 with ⟨e, hM⟩ | ⟨e, hz, ht, hf⟩
  · left
    refine ⟨e, common _ rfl ?_ T ?_⟩
    · intro bp' p' hbp
      simp only [Option.some.injEq, Prod.mk.injEq] at hbp
      obtain ⟨rfl, rfl⟩ := hbp
      exact ⟨by rw [hown', m1], hloc', by rw [← m1]; exact hM⟩
    · have h1 := hand (some (bp, (qstep batch n l p).2.1))
      have h2 : took p (qstep batch n l p).2.1 = 0 := by simp [took, e]
      simp only [oh] at h1
      omega
  · right
    have h1 := hand none
    simp only [oh, Nat.add_zero] at h1
    cases htk : tk.getD k false with
    | true =>
      left
      obtain ⟨t1, t2⟩ := ht htk
      refine ⟨e, rfl, common none (by rw [hz]; rfl) (fun bp' p' hbp => by cases hbp) _ (by omega), fun ha => ?_⟩
      have hl0 := t2 ha
      obtain ⟨a, t, hlt⟩ : ∃ a t, l = a :: t := by
        cases hl : l with
        | nil => have := h.len; rw [hl] at this; simp at this
        | cons a t => exact ⟨a, t, rfl⟩
      have hlen := h.len
      have hps := pair_sum batch t ps (by rw [h.plen]; rw [hlt] at hlen; simpa using hlen) (fun j hj => by
        have := h.cell j (by rw [hlt] at hlen; simp at hlen; omega)
        rw [hlt] at this
        simpa using this)
      rw [hlt] at hl0 hs hlen
      simp only [List.getD_cons_zero] at hl0
      simp only [List.sum_cons] at hs
      simp only [List.length_cons] at hlen
      rw [show t.length = n by omega] at hps
      omega
    | false =>
      right
      have := hf htk
      exact ⟨e, rfl, common none (by rw [hz]; rfl) (fun bp' p' hbp => by cases hbp) _ (by omega)⟩
end Go.Proofs.YtigacfgoldnoiaaDoor
