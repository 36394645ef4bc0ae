/- What is written is read as it was; LabelsBack answers true. -/
import Derived.Test.YtogegkfefpgbcaaDoorZXPLx0
import Derived.Test.YtogegkfefpgbcaaDoorZXQ1
import Derived.Test.YtogegkfefpgbcaaDoorZXQ2
import Derived.Test.YtogegkfefpgbcaaDoorZXQ3
import Derived.Test.YtogegkfefpgbcaaDoorZXQ4
import Derived.Test.YtogegkfefpgbcaaDoorZXQ5
import Derived.Test.YtogegkfefpgbcaaDoorZXQ6
import Derived.Test.YtogegkfefpgbcaaDoorZXQ7
import Derived.Test.YtogegkfefpgbcaaDoorZXPO
import Derived.Test.YtogegkfefpgbcaaDoorZXHP
namespace Go.Proofs.YtogegkfefpgbcaaDoor.PL
open Go Go.RowKit Go.Proofs.YtogegkfefpgbcaaDoorW.PrintWords Go.Proofs.YtogegkfefpgbcaaDoorW.PrintLast Go.Proofs.YtogegkfefpgbcaaDoorW.PrintMore
set_option linter.unusedVariables false
set_option linter.unusedSimpArgs false
theorem bs_append (a b : ByteArray) : bs (a ++ b) = bs a ++ bs b := by
  unfold bs; rw [ByteArray.data_append, Array.toList_append]
theorem size_append' (a b : ByteArray) : (a ++ b).size = a.size + b.size := by rw [← bs_len, bs_append, List.length_append, bs_len, bs_len]
theorem drop_next {v : ByteArray} {j : Nat} (h : j < v.size) : ∃ x : UInt8, (bs v).drop j = x :: (bs v).drop (j + 1) ∧ bt v (j : Int) = (x.toNat : Int) := by
  cases hd : (bs v).drop j with
  | nil => exact absurd hd (drop_ne h)
  | cons x t =>
    obtain ⟨_, p2, p3⟩ := drop_bt hd; exact ⟨x, by rw [p3], p2⟩
theorem quoted_l (v : ByteArray) (hv : v.size ≤ 1099511627776) : ∀ (n j k : Nat) (out : List UInt8), j + n = v.size → 2 * n + 2 ≤ k → out.length ≤ 2 * j + 1 → labels_quoted.l0 k v (numL out) (v.size : Int) (j : Int) = some (strOfNums (numL (out ++ escL ((bs v).drop j) ++ [34]))) := by
  intro n
  induction n with
  | zero =>
    intro j k out hj hk ho; obtain ⟨k, rfl⟩ : ∃ n, k = n + 1 := ⟨k - 1, by omega⟩; simp only [labels_quoted.l0]; rw [if_neg (by omega), if_pos (by rw [numL_len]; omega), List.drop_eq_nil_of_le (by rw [bs_len]; omega)]; simp [numL, escL]
  | succ n ih =>
    intro j k out hj hk ho; obtain ⟨k, rfl⟩ : ∃ n, k = n + 2 := ⟨k - 2, by omega⟩; obtain ⟨x, hx, hb⟩ := drop_next (v := v) (j := j) (by omega); have e : escL ((bs v).drop j) = escB x ++ escL ((bs v).drop (j + 1)) := by rw [hx]; simp [escL]
    have nx : ∀ l, l.length ≤ 2 → labels_quoted.l0 k v (numL (out ++ l)) (v.size : Int) (wrap64 ((j : Int) + 1)) = some (strOfNums (numL (out ++ l ++ escL ((bs v).drop (j + 1)) ++ [34]))) := fun l hl => by
      rw [wrap64_in (by omega), show ((j : Int) + 1) = ((j + 1 : Nat) : Int) by omega]; exact ih (j + 1) k (out ++ l) (by omega) (by omega) (by simp; omega)
    have lt1 : (numL out).length + 2 < 140737488355328 := by rw [numL_len]; omega
    have lt2 : (numL out).length < 140737488355328 := by omega
    rw [e, ← List.append_assoc]; simp only [labels_quoted.l0]; rw [if_pos (by omega), if_pos (by omega), if_pos (by omega), hb]; unfold escB; by_cases q1 : x = 92
    · subst q1
      rw [if_pos (show ((UInt8.toNat 92 : Nat) : Int) = 92 from rfl), if_pos (.inl rfl)]; simp only [labels_quoted.j1]; rw [if_pos (by rfl)]; simp only [Option.bind_some]; rw [if_pos (by simpa using lt1)]; have := nx [92, 92] (by simp); rw [numL_app] at this; exact this
    · have n1 : ¬ ((x.toNat : Int) = 92) := fun e => q1 (UInt8.toNat_inj.1 (by show x.toNat = 92; omega))
      rw [if_neg n1]; by_cases q2 : x = 34
      · subst q2
        rw [if_pos (.inr rfl)]; simp only [labels_quoted.j1]; rw [if_pos (by rfl)]; simp only [Option.bind_some]; rw [if_pos (by simpa using lt1)]; have := nx [92, 34] (by simp); rw [numL_app] at this; exact this
      · have n2 : ¬ ((x.toNat : Int) = 34) := fun e => q2 (UInt8.toNat_inj.1 (by show x.toNat = 34; omega))
        rw [if_neg (by rintro (h | h); exact q1 h; exact q2 h)]; simp only [labels_quoted.j1]; rw [if_neg (by simpa using n2)]; by_cases q3 : x = 10
        · subst q3
          rw [if_pos (by rfl), if_pos rfl]; simp only [Option.bind_some]; rw [if_pos (by simpa using lt1)]; have := nx [92, 110] (by simp); rw [numL_app] at this; exact this
        · have n3 : ¬ ((x.toNat : Int) = 10) := fun e => q3 (UInt8.toNat_inj.1 (by show x.toNat = 10; omega))
          rw [if_neg n3, if_neg q3, if_pos lt2]; have := nx [x] (by simp); rw [numL_app] at this; exact this
theorem quoted_f (v : ByteArray) (hv : v.size ≤ 1099511627776) (k : Nat) (hk : 2 * v.size + 2 ≤ k) : ∃ q, labels_quoted.f k v = some q ∧ bs q = 34 :: (escL (bs v) ++ [34]) := by
  have := quoted_l v hv v.size 0 k [34] (by omega) hk (by simp); rw [List.drop_zero] at this; exact ⟨_, this, by rw [bs_numL]; simp⟩
def matOf (x : S59) : S36 := ⟨1, x.f0, x.f1⟩
theorem item_len (x : S36) (h1 : x.f1.size ≤ 64) (h2 : x.f2.size ≤ 256) : (itemL x).length ≤ 600 := by
  have := (escL_len (bs x.f2)).2; unfold itemL signL; simp only [List.length_append, List.length_cons, List.length_nil, bs_len] at *
  repeat' split
  all_goals (simp only [List.length_cons, List.length_nil]; omega)
theorem print1_f (n v : ByteArray) (hn : n.size ≤ 64) (hv : v.size ≤ 256) (k : Nat) (hk : 600 ≤ k) : ∃ q, labels_Print_1.f k n v = some q ∧ bs q = itemL ⟨1, n, v⟩ := by
  obtain ⟨q, h1, h2⟩ := quoted_f v (by omega) k (by omega)
  have hq : q.size ≤ 600 := by
    have := (escL_len (bs v)).2; rw [← bs_len, h2]; simp only [List.length_cons, List.length_append, List.length_nil, bs_len] at *; omega
  unfold labels_Print_1.f; have h61 : (⟨#[61]⟩ : ByteArray).size = 1 := rfl; rw [if_pos (by omega), h1]; simp only [Option.bind_some]; rw [if_pos (by rw [size_append']; omega)]; refine ⟨_, rfl, ?_⟩; rw [bs_append, bs_append, h2, List.append_assoc]; rfl
theorem tail_drop {l : List S36} {j : Nat} (h : j < l.length) : tailL (l.drop j) = 44 :: (itemL (rd_T36 l (j : Int)) ++ tailL (l.drop (j + 1))) := by
  rw [rd36_drop h]; simp [tailL]
theorem matOf_at (l : List S59) (j : Nat) (h : j < l.length) : rd_T36 (l.map matOf) (j : Int) = matOf (rd_T59 l (j : Int)) := by
  simp [rd_T36, rd_T59, List.getD, h]
theorem print_l (l : List S59) (hl : l.length ≤ 32) (h : ∀ x ∈ l, x.f0.size ≤ 64 ∧ x.f1.size ≤ 256) : ∀ (n j k : Nat) (x5 : ByteArray), 1 ≤ j → j + n = l.length → n + 700 ≤ k → x5.size ≤ 700 * j + 1 → ∃ t, api_Label_45.l0 k x5 l (l.length : Int) (j : Int) = some t ∧ bs t = bs x5 ++ tailL ((l.map matOf).drop j) ++ [125] := by
  intro n; have h44 : (⟨#[44]⟩ : ByteArray).size = 1 := rfl
  induction n with
  | zero =>
    intro j k x5 _ hj hk hx; obtain ⟨k, rfl⟩ : ∃ n, k = n + 1 := ⟨k - 1, by omega⟩; simp only [api_Label_45.l0]; rw [if_neg (by omega), if_pos (by omega)]; refine ⟨_, rfl, ?_⟩; rw [bs_append, List.drop_eq_nil_of_le (by simp; omega)]; simp [tailL]
    rfl
  | succ n ih =>
    intro j k x5 hj1 hj hk hx; obtain ⟨k, rfl⟩ : ∃ n, k = n + 1 := ⟨k - 1, by omega⟩; have hm := h _ (rd59_mem (l := l) (j := j) (by omega)); obtain ⟨q, h1, h2⟩ := print1_f _ _ hm.1 hm.2 k (by omega); have hq : q.size ≤ 600 := by rw [← bs_len, h2]; exact item_len _ hm.1 hm.2
    simp only [api_Label_45.l0]; rw [if_pos (by omega), if_pos (by omega), if_pos (by omega), if_pos (by omega), if_pos (by omega), h1]; simp only [Option.bind_some]; rw [if_pos (by rw [size_append']; omega), wrap64_in (by omega), show ((j : Int) + 1) = ((j + 1 : Nat) : Int) by omega]; obtain ⟨t, t1, t2⟩ := ih (j + 1) k ((x5 ++ ⟨#[44]⟩) ++ q) (by omega) (by omega) (by omega) (by rw [size_append', size_append']; omega); refine ⟨t, t1, ?_⟩; rw [t2, tail_drop (l := l.map matOf) (j := j) (by simp; omega), matOf_at l j (by omega), bs_append, bs_append, h2]; simp only [show bs (⟨#[44]⟩ : ByteArray) = [44] from rfl, List.append_assoc, List.cons_append, List.nil_append, List.singleton_append]; rfl
theorem right_sizes {l : List S59} (h : RightP l) : ∀ x ∈ l, x.f0.size ≤ 64 ∧ x.f1.size ≤ 256 := by
  intro x hx; have := h.1 x hx; unfold fineB at this; rw [Bool.and_eq_true, decide_eq_true_iff, value_fine, nameB_iff] at this; exact ⟨by have := this.1.2.1; rwa [bs_len] at this, this.2.2.1⟩
theorem print_all (l : List S59) (hr : RightP l) (k : Nat) (hk : 1000 ≤ k) : ∃ t, api_Label_45.f k l = some t ∧ bs t = bracedL (l.map matOf) := by
  have h := right_sizes hr; have hl := hr.2.1; unfold api_Label_45.f; have h123 : (⟨#[123]⟩ : ByteArray).size = 1 := rfl; have h125 : (⟨#[125]⟩ : ByteArray).size = 1 := rfl; obtain ⟨k, rfl⟩ : ∃ n, k = n + 1 := ⟨k - 1, by omega⟩
  cases l with
  | nil =>
    simp only [api_Label_45.l0]; rw [if_neg (by simp), if_pos (by omega)]; exact ⟨_, rfl, rfl⟩
  | cons x xs =>
    have hm := h x (by simp); obtain ⟨q, h1, h2⟩ := print1_f _ _ hm.1 hm.2 k (by omega); have hq : q.size ≤ 600 := by rw [← bs_len, h2]; exact item_len _ hm.1 hm.2
    have e0 : rd_T59 (x :: xs) 0 = x := rfl; simp only [api_Label_45.l0, e0]; rw [if_pos (by simp <;> omega), if_pos (by omega), if_pos (by simp <;> omega), if_neg (by omega), h1]; simp only [Option.bind_some]; rw [if_pos (by omega)]; simp only [List.length_cons] at hl; obtain ⟨t, t1, t2⟩ := print_l (x :: xs) (by simpa using hl) h xs.length 1 k ((⟨#[123]⟩ : ByteArray) ++ q) (by omega) (by simp; omega) (by omega) (by rw [size_append']; omega); refine ⟨t, ?_, ?_⟩
    · rw [← t1, wrap64_in (by omega)]
      rfl
    · rw [t2, bs_append, h2]
      simp [bracedL]
      rfl
theorem print_f (l : List S59) (h0 : l.length ≤ 9223372036854775807) (k : Nat) (hk : l.length + 1000 ≤ k) : ∃ t, labels_Print.f k l = some (t, if rightB l = true then 0 else 120) ∧ (rightB l = true → bs t = bracedL (l.map matOf)) := by
  unfold labels_Print.f; rw [right_f l h0 k (by omega)]; simp only [Option.bind_some]
  cases hr : rightB l
  · exact ⟨_, rfl, fun h => by cases h⟩
  · obtain ⟨t, h1, h2⟩ := print_all l ((rightB_iff l).1 hr) k (by omega)
    rw [h1]; exact ⟨t, rfl, fun _ => h2⟩
theorem parse_any (s : ByteArray) (hs : s.size ≤ 140737488351232) : ∃ p : List S59 × Int × Int, labels_Parse.f s = some p ∧ (p.2.1 ≠ 0 → p.1 = [] ∧ 0 ≤ p.2.2 ∧ p.2.2 ≤ s.size) ∧ (p.2.1 = 0 → RightP p.1) := by
  obtain ⟨r, h1, h2, h3⟩ := readF_G s; unfold labels_Parse.f; rw [if_pos (by omega), h1]; simp only [Option.bind_some]; by_cases hw : r.2.2.1 = 0
  · obtain ⟨g1, g2, g3⟩ := h3 hw
    rw [if_neg (by simpa using hw), if_pos (by omega)]; refine ⟨_, rfl, fun h => absurd rfl h, fun _ => ?_⟩
    have hap : NamesApart (r.2.1.map labOf) := by
      unfold NamesApart; rw [List.pairwise_map]; exact g2
    refine ⟨fun x hx => ?_, by rw [(sortN_perm _).length_eq]; simpa using g3, sortN_lt _ hap⟩; obtain ⟨y, hy, rfl⟩ := List.mem_map.1 ((sortN_perm _).mem_iff.1 hx); have := g1 y hy; unfold fineB; rw [Bool.and_eq_true, decide_eq_true_iff]; exact this
  · rw [if_pos hw]
    exact ⟨_, rfl, fun _ => ⟨rfl, h2⟩, fun h => absurd h hw⟩
end Go.Proofs.YtogegkfefpgbcaaDoor.PL
