/- LabelsMerged: what is printed answers true. -/
import Derived.Test.YtogegkfefpgbcaaDoorZMPLx0
import Derived.Test.YtogegkfefpgbcaaDoorZMQ1
import Derived.Test.YtogegkfefpgbcaaDoorZMQ2
import Derived.Test.YtogegkfefpgbcaaDoorZMQ3
import Derived.Test.YtogegkfefpgbcaaDoorZMQ4
import Derived.Test.YtogegkfefpgbcaaDoorZMQ5
import Derived.Test.YtogegkfefpgbcaaDoorZMQ6
import Derived.Test.YtogegkfefpgbcaaDoorZMPF
namespace Go.Proofs.YtogegkfefpgbcaaDoor.PL
open Go.RowKit Go.Proofs.YtogegkfefpgbcaaDoorW.PrintWords Go.Proofs.YtogegkfefpgbcaaDoorW.PrintLast Go.Proofs.YtogegkfefpgbcaaDoorW.PrintMore
set_option linter.unusedVariables false
set_option linter.unusedSimpArgs false
theorem parts_len (l : List S59) (p : S59 → Bool) : (l.filter p).length + (l.filter (fun x => !p x)).length = l.length := by
  induction l with
  | nil => rfl
  | cons x l ih =>
    simp only [List.filter_cons]
    cases p x <;> simp <;> omega
theorem mergeP_len {l0 l1 : List S59} (h0 : RightP l0) (h1 : RightP l1) : (mergeP l0 l1).1.length ≤ 64 := by
  rw [mergeP_right h0 h1]
  split
  · simp
  · simp only [(sortN_perm _).length_eq]
    omega
theorem merged_j2 (a : List S59) (ns : List ByteArray) (ha : RightP a) (hn : ns.length ≤ 9223372036854775807) (k : Nat) (hk : ns.length + 300 ≤ k) : abacuslaw12_LabelsMerged.j2 k a ns = some true := by
  obtain ⟨k, rfl⟩ : ∃ n, k = n + 1 := ⟨k - 1, by omega⟩
  have hb := ha.2.1
  have l1 := List.length_filter_le (fun x => inNames ns x.f0) a
  have l2 := List.length_filter_le (fun x => !inNames ns x.f0) a
  simp only [abacuslaw12_LabelsMerged.j2]
  rw [merge_f a a (by omega) (by omega) k (by omega), merge_self ha, keep_f a ns hn (by omega) k (by omega), without_f a ns hn (by omega) k (by omega)]
  simp only [Option.bind_some]
  rw [merge_f _ _ (by omega) (by omega) k (by omega), merge_parts ha]
  simp only [Option.bind_some]
  rw [same_self a (by omega) k (by omega)]
  have := parts_len a (fun x => inNames ns x.f0)
  simp only [Option.bind_some, if_true]
  rw [wrap64_in (by omega)]
  simp
  omega
theorem LabelsMerged_true (a b c : List S59) (ns : List ByteArray) (h0 : a.length ≤ 9223372036854775807) (h1 : b.length ≤ 9223372036854775807) (h2 : c.length ≤ 9223372036854775807) (h3 : ns.length ≤ 9223372036854775807) (k : Nat) (hk : a.length + b.length + c.length + ns.length + 1000 ≤ k) :
    abacuslaw12_LabelsMerged.f k a b c ns = some true := by
  have jt : ∀ a b c ns, abacuslaw12_LabelsMerged.j0 k a b c ns true = some true := fun a b c ns => by
    obtain ⟨k, rfl⟩ : ∃ n, k = n + 1 := ⟨k - 1, by omega⟩
    simp [abacuslaw12_LabelsMerged.j0]
  unfold abacuslaw12_LabelsMerged.f
  rw [begins_true k (by omega), right_f a h0 k (by omega), right_f b h1 k (by omega), right_f c h2 k (by omega)]
  simp only [Option.bind_some, if_true, jt]
  cases ra : rightB a
  · simp
  cases rb : rightB b
  · simp
  cases rc : rightB c
  · simp [jt]
  have ha := (rightB_iff a).1 ra
  have hb := (rightB_iff b).1 rb
  have hc := (rightB_iff c).1 rc
  have la := ha.2.1
  have lb := hb.2.1
  have lc := hc.2.1
  obtain ⟨k, rfl⟩ : ∃ n, k = n + 2 := ⟨k - 2, by omega⟩
  simp only [if_true, Bool.not_true, abacuslaw12_LabelsMerged.j0, Bool.false_eq_true, if_false]
  rw [merge_f a b h0 h1 _ (by omega), merge_f b c h1 h2 _ (by omega)]
  simp only [Option.bind_some]
  have g1 := mergeP_right ha hb
  have g2 := mergeP_right hb hc
  have hj : ∀ x y t, t = false → abacuslaw12_LabelsMerged.j1 (k + 1) a c ns x y t = some true := fun x y t ht => by
    subst ht
    simp only [abacuslaw12_LabelsMerged.j1, Bool.false_eq_true, if_false]
    exact merged_j2 a ns ha h3 k (by omega)
  by_cases c1 : 32 < (mergeU a b).length
  · rw [if_pos c1] at g1
    rw [g1, if_neg (by decide)]
    exact hj _ _ _ rfl
  rw [if_neg c1] at g1
  rw [g1, if_pos rfl]
  by_cases c2 : 32 < (mergeU b c).length
  · rw [if_pos c2] at g2
    rw [g2]
    exact hj _ _ _ rfl
  rw [if_neg c2] at g2
  rw [g2]
  have r1 := merged_right ha hb (by omega)
  have r2 := merged_right hb hc (by omega)
  have b1 := r1.2.1
  have b2 := r2.2.1
  have b3 := mergeP_len ha r2
  simp only [abacuslaw12_LabelsMerged.j1]
  rw [if_pos (by decide), merge_f _ _ (by omega) (by omega) k (by omega), merge_f _ _ (by omega) (by omega) k (by omega), merge_assoc ha hb hc (by omega) (by omega)]
  simp only [Option.bind_some, if_true]
  rw [same_self _ (by omega) k (by omega)]
  simp only [Option.bind_some, if_true]
  have g3 := mergeP_right ha r2
  by_cases c3 : 32 < (mergeU a (sortN (mergeU b c))).length
  · rw [if_pos c3] at g3
    rw [g3, if_neg (by decide)]
    exact merged_j2 a ns ha h3 k (by omega)
  · rw [if_neg c3] at g3
    have r3 := merged_right ha r2 (by omega)
    have b4 := r3.2.1
    rw [g3]
    dsimp only
    rw [if_pos rfl, right_f _ (by omega) k (by omega), (rightB_iff _).2 r3]
    simp only [Option.bind_some, if_true]
    exact merged_j2 a ns ha h3 k (by omega)
end Go.Proofs.YtogegkfefpgbcaaDoor.PL
