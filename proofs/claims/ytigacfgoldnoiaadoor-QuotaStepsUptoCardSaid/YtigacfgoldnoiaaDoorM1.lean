/- Loops and cuts over great frames: what is forgotten stands behind one function. -/
import Derived.Test.YtigacfgoldnoiaaDoorRows
import Derived.Deep.LoopGhost
import Derived.Deep.Cut
namespace Go.Proofs.YtigacfgoldnoiaaDoor
open Go

/-- A frame of which the marked slots are forgotten: they hold what a function says. -/
def mix (f : Nat → Value) : Nat → List Bool → List Value → List Value
  | i, true :: bs, _ :: vs => f i :: mix f (i + 1) bs vs
  | i, false :: bs, v :: vs => v :: mix f (i + 1) bs vs
  | _, [], vs => vs
  | _, _ :: _, [] => []
/-- What is not forgotten. -/
def strip : List Bool → List Value → List Value
  | true :: bs, _ :: vs => undef :: strip bs vs
  | false :: bs, v :: vs => v :: strip bs vs
  | [], vs => vs
  | _ :: _, [] => []
/-- What a slot holds. -/
def slot (l : List Value) (i : Nat) : Value := l.getD i undef

theorem mix_of (m : List Bool) : ∀ (l l' : List Value) (g : Nat → Value) (i : Nat), strip m l' = strip m l → (∀ j, g (i + j) = slot l' j) → mix g i m l = l' := by
  induction m with
  | nil =>
    intro l l' g i h _
    cases l <;> cases l' <;> simp_all [strip, mix]
  | cons b m ih =>
    intro l l' g i h hg
    cases l' with
    | nil => cases l <;> cases b <;> simp_all [strip, mix]
    | cons v' l' =>
      cases l with
      | nil => cases b <;> simp [strip] at h
      | cons v l =>
        have hn : ∀ j, g (i + 1 + j) = slot l' j := fun j => by
          have := hg (j + 1)
          rw [show i + 1 + j = i + (j + 1) by omega, this]
          rfl
        cases b with
        | true =>
          simp only [strip, List.cons.injEq, true_and] at h
          have h0 := hg 0
          simp only [Nat.add_zero] at h0
          simp only [mix]
          rw [ih l l' g (i + 1) h hn, h0]
          rfl
        | false =>
          simp only [strip, List.cons.injEq] at h
          simp only [mix]
          rw [ih l l' g (i + 1) h.2 hn, h.1]
theorem mix_slot (m : List Bool) (l l' : List Value) (h : strip m l' = strip m l) : mix (slot l') 0 m l = l' :=
  mix_of m l l' (slot l') 0 h (fun j => by simp)

/-- A loop: its relation speaks of the slots by number. -/
theorem wp_loop_mix {P : Program} {Q : Exit → Act → World → Prop} {w : World} {c : Code} {l : List Value} {d : List Deferred} (m : List Bool) (I : Nat → (Nat → Value) → World → Prop) (n₀ : Nat) (h₀ : I n₀ (slot l) w)
    (round : ∀ n f w, I n f w → ∀ (J : Nat → Act → World → Prop) (K : Act → World → Prop), (∀ k l' w', strip m l' = strip m l → I k (slot l') w' → J k ⟨l'.toArray, d⟩ w') → (∀ a' w', Handed J n a' w' → K a' w') →
      c.wp P (Exit.then K Q) ⟨(mix f 0 m l).toArray, d⟩ w) : (Code.loop c).wp P Q ⟨l.toArray, d⟩ w := by
  refine wp_loop_ghost_k (fun k a w => ∃ f, I k f w ∧ a = ⟨(mix f 0 m l).toArray, d⟩) n₀ ⟨slot l, h₀, by rw [mix_slot m l l rfl]⟩ ?_
  rintro n a w ⟨f, hI, rfl⟩ J K hJ hK
  exact round n f w hI J K (fun k l' w' he hI' => hJ k _ w' ⟨slot l', hI', by rw [mix_slot m l l' he]⟩) hK

/-- A cut: likewise. -/
theorem wp_cut_mix {P : Program} {s : Code} {K : Act → World → Prop} {Q' : Exit → Act → World → Prop} {w : World} {l : List Value} {d : List Deferred} (m : List Bool) (R : (Nat → Value) → World → Prop)
    (first : ∀ (J K' : Act → World → Prop), (∀ l' w', strip m l' = strip m l → R (slot l') w' → J ⟨l'.toArray, d⟩ w') → (∀ a' w', Met J a' w' → K' a' w') → s.wp P (Exit.then K' Q') ⟨l.toArray, d⟩ w)
    (rest : ∀ f w', R f w' → K ⟨(mix f 0 m l).toArray, d⟩ w') : s.wp P (Exit.then K Q') ⟨l.toArray, d⟩ w := by
  refine wp_cut (fun a' w' => ∃ f, R f w' ∧ a' = ⟨(mix f 0 m l).toArray, d⟩) ?_ ?_
  · rintro a' w' ⟨f, hR, rfl⟩
    exact rest f w' hR
  · intro J K' hJ hK
    exact first J K' (fun l' w' he hR => hJ _ w' ⟨slot l', hR, by rw [mix_slot m l l' he]⟩) hK
end Go.Proofs.YtigacfgoldnoiaaDoor
