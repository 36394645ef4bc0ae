/- The plain law of sets of labels: a right set is a list that rises by its names; Get, Merge, Keep, Without over such lists. -/
import Derived.Test.YtogegkfefpgbcaaDoorZKPLx0
import Derived.Test.YtogegkfefpgbcaaDoorZKQ1
import Derived.Test.YtogegkfefpgbcaaDoorZKQ2
import Derived.Test.YtogegkfefpgbcaaDoorZKQ3
import Derived.Test.YtogegkfefpgbcaaDoorZKQ4
import Derived.Test.YtogegkfefpgbcaaDoorZKQ5
import Derived.Test.YtogegkfefpgbcaaDoorZKQ6
import Derived.Test.YtogegkfefpgbcaaDoorZKPE
namespace Go.Proofs.YtogegkfefpgbcaaDoor.PL
open Go.RowKit Go.Proofs.YtogegkfefpgbcaaDoorW.PrintWords Go.Proofs.YtogegkfefpgbcaaDoorW.PrintLast Go.Proofs.YtogegkfefpgbcaaDoorW.PrintMore
set_option linter.unusedVariables false
set_option linter.unusedSimpArgs false
/-- The one name stands ahead of the other. -/
def LtN (x y : S59) : Prop := Op.bytesLess x.f0.toList y.f0.toList = true
theorem LtN.trans {x y z : S59} (h1 : LtN x y) (h2 : LtN y z) : LtN x z := bl_trans h1 h2
theorem LtN.asymm {x y : S59} (h1 : LtN x y) (h2 : LtN y x) : False := bl_asymm h1 h2
theorem LtN.ne {x y : S59} (h1 : LtN x y) : x.f0.toList ≠ y.f0.toList := fun e => by unfold LtN at h1; rw [e, bl_irrefl] at h1; cases h1
theorem LtN.irrefl {x : S59} (h : LtN x x) : False := h.ne rfl
theorem pw2 {a b : S59} {l : List S59} : (a :: b :: l).Pairwise LtN ↔ LtN a b ∧ (b :: l).Pairwise LtN := by
  constructor
  · intro h
    rw [List.pairwise_cons] at h
    exact ⟨h.1 b (by simp), h.2⟩
  · rintro ⟨h1, h2⟩
    rw [List.pairwise_cons]
    refine ⟨fun y hy => ?_, h2⟩
    rcases List.mem_cons.1 hy with rfl | hy
    · exact h1
    · exact h1.trans ((List.pairwise_cons.1 h2).1 y hy)
theorem rising_drop (l : List S59) : ∀ (n j f : Nat), j + n = l.length → n ≤ f + 1 → (risingF l f ((j : Int) + 1) = true ↔ (l.drop j).Pairwise LtN) := by
  intro n
  induction n with
  | zero =>
    intro j f hj _
    rw [List.drop_eq_nil_of_le (by omega)]
    refine ⟨fun _ => .nil, fun _ => ?_⟩
    cases f with
    | zero => rfl
    | succ f => rw [risingF, if_neg (by omega)]
  | succ n ih =>
    intro j f hj hf
    rw [rd59_drop (l := l) (j := j) (by omega)]
    by_cases hn : n = 0
    · rw [List.drop_eq_nil_of_le (by omega)]
      refine ⟨fun _ => by simp, fun _ => ?_⟩
      cases f with
      | zero => rfl
      | succ f => rw [risingF, if_neg (by omega)]
    · obtain ⟨f, rfl⟩ : ∃ g, f = g + 1 := ⟨f - 1, by omega⟩
      rw [risingF, if_pos (by omega)]
      have := ih (j + 1) f (by omega) (by omega)
      rw [rd59_drop (l := l) (j := j + 1) (by omega), pw2] at *
      rw [show ((j : Int) + 1 - 1) = (j : Int) by omega, show ((j : Int) + 1) = ((j + 1 : Nat) : Int) by omega]
      show (if Op.bytesLess (rd_T59 l (j : Int)).f0.toList (rd_T59 l ((j + 1 : Nat) : Int)).f0.toList = true then _ else _) = true ↔ (LtN _ _ ∧ _)
      unfold LtN at *
      by_cases hc : Op.bytesLess (rd_T59 l (j : Int)).f0.toList (rd_T59 l ((j + 1 : Nat) : Int)).f0.toList = true
      · rw [if_pos hc]
        simp only [hc, true_and]
        exact this
      · rw [if_neg hc]
        simp only [Bool.false_eq_true, false_iff, not_and]
        exact fun h => absurd h hc
theorem rising_iff (l : List S59) : risingF l l.length 1 = true ↔ l.Pairwise LtN := by
  have := rising_drop l l.length 0 l.length (by omega) (by omega)
  simpa using this
/-- A right set, as a Bool and as a sentence. -/
def rightB (l : List S59) : Bool := l.all (fun x => fineB x.f0 x.f1) && decide (l.length ≤ 32) && risingF l l.length 1
def RightP (l : List S59) : Prop := (∀ x ∈ l, fineB x.f0 x.f1 = true) ∧ l.length ≤ 32 ∧ l.Pairwise LtN
theorem rightB_iff (l : List S59) : rightB l = true ↔ RightP l := by
  unfold rightB RightP
  rw [Bool.and_eq_true, Bool.and_eq_true, rising_iff, List.all_eq_true, decide_eq_true_iff, and_assoc]
theorem right_l (l0 l : List S59) (h0 : l.length ≤ 9223372036854775807) (h1 : l0.length ≤ 9223372036854775807) : ∀ (n j k : Nat), j + n = l.length → n + 70 ≤ k → labels_Right.l0 k l0 l (l.length : Int) (j : Int) = some ((l.drop j).all (fun x => fineB x.f0 x.f1) && decide (l0.length ≤ 32) && risingF l0 l0.length 1) := by
  intro n
  induction n with
  | zero =>
    intro j k hj hk
    obtain ⟨k, rfl⟩ : ∃ n, k = n + 1 := ⟨k - 1, by omega⟩
    simp only [labels_Right.l0]
    rw [if_neg (by omega), List.drop_eq_nil_of_le (by omega)]
    by_cases h : l0.length ≤ 32
    · rw [if_pos (by omega)]
      unfold api_Label_string_66.f
      rw [if_pos h1]
      simp [h]
    · rw [if_neg (by omega)]
      simp [h]
  | succ n ih =>
    intro j k hj hk
    obtain ⟨k, rfl⟩ : ∃ n, k = n + 1 := ⟨k - 1, by omega⟩
    simp only [labels_Right.l0]
    rw [if_pos (by omega), if_pos (by omega), if_pos (by omega), fine_f _ _ k (by omega), rd59_drop (l := l) (j := j) (by omega), wrap64_in (by omega)]
    simp only [Option.bind_some, List.all_cons]
    cases h : fineB (rd_T59 l (j : Int)).f0 (rd_T59 l (j : Int)).f1
    · simp
    · rw [if_pos rfl]
      rw [show ((j : Int) + 1) = ((j + 1 : Nat) : Int) by omega, ih (j + 1) k (by omega) (by omega)]
      simp
theorem right_f (l : List S59) (h0 : l.length ≤ 9223372036854775807) (k : Nat) (hk : l.length + 70 ≤ k) : labels_Right.f k l = some (rightB l) := by
  have := right_l l l h0 h0 l.length 0 k (by omega) hk
  rw [show ((0 : Nat) : Int) = 0 from rfl] at this
  unfold labels_Right.f rightB
  rw [this]
  simp
/-- The set has that name. -/
def hasN (l : List S59) (nm : List UInt8) : Bool := l.any (fun x => x.f0.toList == nm)
theorem hasN_iff (l : List S59) (nm : List UInt8) : hasN l nm = true ↔ ∃ x ∈ l, x.f0.toList = nm := by
  simp [hasN]
def getP : List S59 → ByteArray → ByteArray × Bool
  | [], _ => ((⟨#[]⟩ : ByteArray), false)
  | x :: l, a => if x.f0.toList = a.toList then (x.f1, true) else getP l a
theorem getP_has (l : List S59) (a : ByteArray) : (getP l a).2 = hasN l a.toList := by
  induction l with
  | nil => rfl
  | cons x l ih =>
    simp only [getP, hasN, List.any_cons]
    by_cases h : x.f0.toList = a.toList
    · rw [if_pos h]; simp [h]
    · rw [if_neg h, ih]; simp [h, hasN]
theorem get_l (a : ByteArray) (l : List S59) (h0 : l.length ≤ 9223372036854775807) : ∀ (n j k : Nat), j + n = l.length → n + 1 ≤ k → labels_Get.l0 k a l (l.length : Int) (j : Int) = some (getP (l.drop j) a) := by
  intro n
  induction n with
  | zero =>
    intro j k hj hk
    obtain ⟨k, rfl⟩ : ∃ n, k = n + 1 := ⟨k - 1, by omega⟩
    simp only [labels_Get.l0]
    rw [if_neg (by omega), List.drop_eq_nil_of_le (by omega)]
    rfl
  | succ n ih =>
    intro j k hj hk
    obtain ⟨k, rfl⟩ : ∃ n, k = n + 1 := ⟨k - 1, by omega⟩
    simp only [labels_Get.l0]
    rw [if_pos (by omega), if_pos (by omega), if_pos (by omega), rd59_drop (l := l) (j := j) (by omega), wrap64_in (by omega)]
    simp only [getP]
    split
    · rfl
    · rw [show ((j : Int) + 1) = ((j + 1 : Nat) : Int) by omega, ih (j + 1) k (by omega) (by omega)]
theorem get_f (l : List S59) (a : ByteArray) (h0 : l.length ≤ 9223372036854775807) (k : Nat) (hk : l.length + 1 ≤ k) : labels_Get.f k l a = some (getP l a) := by
  have := get_l a l h0 l.length 0 k (by omega) hk
  rw [show ((0 : Nat) : Int) = 0 from rfl] at this
  unfold labels_Get.f
  rw [this]
  simp
/-- What Merge puts together, ahead of its sort. -/
def mergeU (l0 l1 : List S59) : List S59 := l1 ++ l0.filter (fun x => !hasN l1 x.f0.toList)
def mergeP (l0 l1 : List S59) : List S59 × Int := if rightB l0 && rightB l1 then (if 32 < (mergeU l0 l1).length then ([], 3) else (sortN (mergeU l0 l1), 0)) else ([], 120)
theorem merge_l (l1 l : List S59) (h0 : l.length ≤ 32) (h1 : l1.length ≤ 32) : ∀ (n j k : Nat) (out : List S59), j + n = l.length → n + 40 ≤ k → out.length + n ≤ 64 →
    labels_Merge.l0 k l1 out l (l.length : Int) (j : Int) = some (if 32 < (out ++ (l.drop j).filter (fun x => !hasN l1 x.f0.toList)).length then ([], 3) else (sortN (out ++ (l.drop j).filter (fun x => !hasN l1 x.f0.toList)), 0)) := by
  intro n
  induction n with
  | zero =>
    intro j k out hj hk ho
    obtain ⟨k, rfl⟩ : ∃ n, k = n + 1 := ⟨k - 1, by omega⟩
    simp only [labels_Merge.l0]
    rw [if_neg (by omega), List.drop_eq_nil_of_le (by omega)]
    simp only [List.filter_nil, List.append_nil]
    by_cases h : 32 < out.length
    · rw [if_pos (by omega), if_pos h]
    · rw [if_neg (by omega), if_neg h]
      unfold api_Label_string_50.f
      rw [if_pos (by omega)]
      rfl
  | succ n ih =>
    intro j k out hj hk ho
    obtain ⟨k, rfl⟩ : ∃ n, k = n + 1 := ⟨k - 1, by omega⟩
    simp only [labels_Merge.l0]
    rw [if_pos (by omega), if_pos (by omega), if_pos (by omega), get_f l1 _ (by omega) k (by omega), rd59_drop (l := l) (j := j) (by omega), wrap64_in (by omega)]
    simp only [Option.bind_some, getP_has, List.filter_cons]
    rw [show ((j : Int) + 1) = ((j + 1 : Nat) : Int) by omega]
    cases h : hasN l1 (rd_T59 l (j : Int)).f0.toList
    · rw [if_neg (by simp), if_pos (by omega), ih (j + 1) k _ (by omega) (by omega) (by simp; omega)]
      simp
    · rw [if_pos rfl, ih (j + 1) k out (by omega) (by omega) (by omega)]
      simp
theorem merge_f (l0 l1 : List S59) (h0 : l0.length ≤ 9223372036854775807) (h1 : l1.length ≤ 9223372036854775807) (k : Nat) (hk : l0.length + l1.length + 120 ≤ k) : labels_Merge.f k l0 l1 = some (mergeP l0 l1) := by
  unfold labels_Merge.f mergeP
  rw [right_f l0 h0 k (by omega), right_f l1 h1 k (by omega)]
  obtain ⟨k, rfl⟩ : ∃ n, k = n + 1 := ⟨k - 1, by omega⟩
  simp only [Option.bind_some, labels_Merge.j0]
  cases hr0 : rightB l0
  · simp
  · cases hr1 : rightB l1
    · simp
    · obtain ⟨_, b0, _⟩ := (rightB_iff l0).1 hr0
      obtain ⟨_, b1, _⟩ := (rightB_iff l1).1 hr1
      simp only [Bool.not_true, Bool.false_eq_true, if_false, if_true, Bool.and_self]
      unfold api_Label_77.f
      rw [if_pos (by omega)]
      simp only [Option.bind_some]
      have := merge_l l1 l0 b0 b1 l0.length 0 k l1 (by omega) (by omega) (by omega)
      rw [show ((0 : Nat) : Int) = 0 from rfl, List.drop_zero] at this
      exact this
theorem sortN_perm (l : List S59) : (sortN l).Perm l := by
  have h := (Go.Sort.pdq_sorts (Go.Proofs.ltOf cmpName) swoName l.toArray 0 l.length (Lib.bitLen l.length) true true (Nat.zero_le _) (by simp) (Or.inl rfl)).1
  have h1 := h.1
  have h2 := h.2.2
  unfold sortN
  have e : ∀ (a : Array S59) (n : Nat), a.size = n → a.extract 0 n = a := fun a n hn => by subst hn; simp
  rw [e _ _ (by simpa using h1), e _ _ (by simp)] at h2
  simpa using h2
theorem sortN_sorted (l : List S59) : (sortN l).Pairwise (fun x y => Op.bytesLess y.f0.toList x.f0.toList = false) := by
  have h := Go.Sort.pdq_sorts (Go.Proofs.ltOf cmpName) swoName l.toArray 0 l.length (Lib.bitLen l.length) true true (Nat.zero_le _) (by simp) (Or.inl rfl)
  have h1 := h.1.1
  have h2 := h.2
  rw [List.pairwise_iff_getElem]
  intro i j hi hj hij
  have hs : (sortN l).length = l.length := by simpa [sortN] using h1
  have := h2 i j (Nat.zero_le _) hij (by omega)
  rw [cmpName_lt] at this
  unfold sortN at hi hj ⊢
  rw [Array.getElem_toList, Array.getElem_toList, ← getElem!_pos, ← getElem!_pos]
  exact this
/-- Names of their own: no two the same. -/
def NamesApart (l : List S59) : Prop := l.Pairwise (fun x y => x.f0.toList ≠ y.f0.toList)
theorem NamesApart.perm {l l' : List S59} (h : NamesApart l) (hp : l'.Perm l) : NamesApart l' := List.Pairwise.perm h hp.symm (fun h => Ne.symm h)
theorem apart_of_lt {l : List S59} (h : l.Pairwise LtN) : NamesApart l := h.imp fun h => h.ne
theorem sortN_lt (l : List S59) (h : NamesApart l) : (sortN l).Pairwise LtN := by
  have h1 := sortN_sorted l
  have h2 := h.perm (sortN_perm l)
  refine (h1.and h2).imp ?_
  rintro a b ⟨g1, g2⟩
  unfold LtN
  by_cases e : Op.bytesLess a.f0.toList b.f0.toList = true
  · exact e
  · exact absurd (bl_total _ _ (by simpa using e) g1) g2
theorem eq_of_lt {l l' : List S59} (h : l.Pairwise LtN) (h' : l'.Pairwise LtN) (hp : l.Perm l') : l = l' :=
  List.Perm.eq_of_pairwise (fun a b _ _ h1 h2 => (h1.asymm h2).elim) h h' hp
theorem eq_of_mem {l l' : List S59} (h : l.Pairwise LtN) (h' : l'.Pairwise LtN) (hm : ∀ x, x ∈ l ↔ x ∈ l') : l = l' :=
  eq_of_lt h h' ((List.perm_ext_iff_of_nodup (h.imp fun h e => by subst e; exact h.irrefl) (h'.imp fun h e => by subst e; exact h.irrefl)).2 hm)
theorem sortN_same (l : List S59) (h : l.Pairwise LtN) : sortN l = l := eq_of_lt (sortN_lt l (apart_of_lt h)) h (sortN_perm l)
theorem mem_mergeU (l0 l1 : List S59) (x : S59) : x ∈ mergeU l0 l1 ↔ x ∈ l1 ∨ (x ∈ l0 ∧ hasN l1 x.f0.toList = false) := by
  simp [mergeU, List.mem_append, List.mem_filter]
theorem hasN_mem {l l' : List S59} (h : ∀ x, x ∈ l ↔ x ∈ l') (nm : List UInt8) : hasN l nm = hasN l' nm := by
  rw [Bool.eq_iff_iff, hasN_iff, hasN_iff]
  exact ⟨fun ⟨x, hx, e⟩ => ⟨x, (h x).1 hx, e⟩, fun ⟨x, hx, e⟩ => ⟨x, (h x).2 hx, e⟩⟩
theorem hasN_mergeU (l0 l1 : List S59) (nm : List UInt8) : hasN (mergeU l0 l1) nm = (hasN l0 nm || hasN l1 nm) := by
  rw [Bool.eq_iff_iff, Bool.or_eq_true, hasN_iff, hasN_iff, hasN_iff]
  constructor
  · rintro ⟨x, hx, e⟩
    rcases (mem_mergeU l0 l1 x).1 hx with h | h
    · exact .inr ⟨x, h, e⟩
    · exact .inl ⟨x, h.1, e⟩
  · rintro (⟨x, hx, e⟩ | ⟨x, hx, e⟩)
    · by_cases h : hasN l1 x.f0.toList = true
      · obtain ⟨y, hy, e2⟩ := (hasN_iff _ _).1 h
        exact ⟨y, (mem_mergeU l0 l1 y).2 (.inl hy), e2.trans e⟩
      · exact ⟨x, (mem_mergeU l0 l1 x).2 (.inr ⟨hx, by simpa using h⟩), e⟩
    · exact ⟨x, (mem_mergeU l0 l1 x).2 (.inl hx), e⟩
theorem apart_mergeU {l0 l1 : List S59} (h0 : NamesApart l0) (h1 : NamesApart l1) : NamesApart (mergeU l0 l1) := by
  unfold mergeU NamesApart
  rw [List.pairwise_append]
  refine ⟨h1, List.Pairwise.filter _ h0, fun a ha b hb e => ?_⟩
  rw [List.mem_filter] at hb
  have : hasN l1 b.f0.toList = true := (hasN_iff _ _).2 ⟨a, ha, e⟩
  simp [this] at hb
theorem nodup_apart {l : List S59} (h : NamesApart l) : l.Nodup := List.Pairwise.imp (fun h e => h (by rw [e])) h
theorem perm_of_mem {l l' : List S59} (h : NamesApart l) (h' : NamesApart l') (hm : ∀ x, x ∈ l ↔ x ∈ l') : l.Perm l' :=
  (List.perm_ext_iff_of_nodup (nodup_apart h) (nodup_apart h')).2 hm
/-- What Merge answers of right sets. -/
theorem mergeP_right {l0 l1 : List S59} (h0 : RightP l0) (h1 : RightP l1) : mergeP l0 l1 = if 32 < (mergeU l0 l1).length then ([], 3) else (sortN (mergeU l0 l1), 0) := by
  unfold mergeP
  rw [if_pos (by rw [(rightB_iff l0).2 h0, (rightB_iff l1).2 h1]; rfl)]
theorem RightP.apart {l : List S59} (h : RightP l) : NamesApart l := apart_of_lt h.2.2
theorem merged_right {l0 l1 : List S59} (h0 : RightP l0) (h1 : RightP l1) (hn : (mergeU l0 l1).length ≤ 32) : RightP (sortN (mergeU l0 l1)) := by
  refine ⟨fun x hx => ?_, by rw [(sortN_perm _).length_eq]; exact hn, sortN_lt _ (apart_mergeU h0.apart h1.apart)⟩
  rcases (mem_mergeU l0 l1 x).1 ((sortN_perm _).mem_iff.1 hx) with h | h
  · exact h1.1 x h
  · exact h0.1 x h.1
theorem RightP.filter {l : List S59} (h : RightP l) (p : S59 → Bool) : RightP (l.filter p) :=
  ⟨fun x hx => h.1 x (List.mem_filter.1 hx).1, Nat.le_trans (List.length_filter_le _ _) h.2.1, List.Pairwise.filter _ h.2.2⟩
/-- Both ways of three sets. -/
theorem merge_assoc {a b c : List S59} (ha : RightP a) (hb : RightP b) (hc : RightP c) (h1 : (mergeU a b).length ≤ 32) (h2 : (mergeU b c).length ≤ 32) : mergeP (sortN (mergeU a b)) c = mergeP a (sortN (mergeU b c)) := by
  have r1 := merged_right ha hb h1
  have r2 := merged_right hb hc h2
  rw [mergeP_right r1 hc, mergeP_right ha r2]
  have m1 : ∀ x, x ∈ sortN (mergeU a b) ↔ x ∈ mergeU a b := fun x => (sortN_perm _).mem_iff
  have m2 : ∀ x, x ∈ sortN (mergeU b c) ↔ x ∈ mergeU b c := fun x => (sortN_perm _).mem_iff
  have hm : ∀ x, x ∈ mergeU (sortN (mergeU a b)) c ↔ x ∈ mergeU a (sortN (mergeU b c)) := by
    intro x
    rw [mem_mergeU, mem_mergeU, m1, m2, mem_mergeU, mem_mergeU, hasN_mem m2, hasN_mergeU]
    cases hasN b x.f0.toList <;> cases hasN c x.f0.toList <;> simp
    all_goals by_cases x ∈ c <;> by_cases x ∈ b <;> simp_all
  have p := perm_of_mem (apart_mergeU r1.apart hc.apart) (apart_mergeU ha.apart r2.apart) hm
  rw [p.length_eq, eq_of_lt (sortN_lt _ (apart_mergeU r1.apart hc.apart)) (sortN_lt _ (apart_mergeU ha.apart r2.apart)) (((sortN_perm _).trans p).trans (sortN_perm _).symm)]
theorem merge_self {a : List S59} (ha : RightP a) : mergeP a a = (a, 0) := by
  have e : mergeU a a = a := by
    unfold mergeU
    rw [List.filter_eq_nil_iff.2 (fun x hx => ?_), List.append_nil]
    rw [(hasN_iff a _).2 ⟨x, hx, rfl⟩]
    simp
  rw [mergeP_right ha ha, e, if_neg (by have := ha.2.1; omega), sortN_same a ha.2.2]
theorem merge_parts {a : List S59} (ha : RightP a) (p : S59 → Bool) : mergeP (a.filter p) (a.filter (fun x => !p x)) = (a, 0) := by
  have h0 := ha.filter p
  have h1 := ha.filter (fun x => !p x)
  have hm : ∀ x, x ∈ mergeU (a.filter p) (a.filter (fun x => !p x)) ↔ x ∈ a := by
    intro x
    rw [mem_mergeU, List.mem_filter, List.mem_filter]
    constructor
    · rintro (h | h)
      · exact h.1
      · exact h.1.1
    · intro hx
      cases hp : p x
      · exact .inl ⟨hx, by simp⟩
      · refine .inr ⟨⟨hx, rfl⟩, ?_⟩
        cases hh : hasN (a.filter (fun x => !p x)) x.f0.toList
        · rfl
        · obtain ⟨y, hy, e⟩ := (hasN_iff _ _).1 hh
          obtain ⟨hya, hyp⟩ := List.mem_filter.1 hy
          exfalso
          have hne : x ≠ y := by rintro rfl; simp [hp] at hyp
          have hA := ha.apart
          obtain ⟨i, hi, ei⟩ := List.mem_iff_getElem.1 hx
          obtain ⟨j, hj, ej⟩ := List.mem_iff_getElem.1 hya
          have hP := List.pairwise_iff_getElem.1 hA
          rcases Nat.lt_trichotomy i j with h | h | h
          · exact hP i j hi hj h (by rw [ei, ej]; exact e.symm)
          · subst h; exact hne (ei.symm.trans ej)
          · exact hP j i hj hi h (by rw [ei, ej]; exact e)
  have hp := perm_of_mem (apart_mergeU h0.apart h1.apart) ha.apart hm
  rw [mergeP_right h0 h1, hp.length_eq, if_neg (by have := ha.2.1; omega), eq_of_lt (sortN_lt _ (apart_mergeU h0.apart h1.apart)) ha.2.2 ((sortN_perm _).trans hp)]
/-- Index, Contains, chosen. -/
def inNames (ns : List ByteArray) (a : ByteArray) : Bool := ns.any (fun b => a.toList == b.toList)
theorem rdOf_drop {l : List ByteArray} {j : Nat} (h : j < l.length) : l.drop j = rdOf ByteArray.empty l (j : Int) :: l.drop (j + 1) := by
  rw [List.drop_eq_getElem_cons h]
  congr 1
  simp [rdOf, List.getD, h]
theorem index_l (l : List ByteArray) (a : ByteArray) (h0 : l.length ≤ 9223372036854775807) : ∀ (n j k : Nat), j + n = l.length → n + 1 ≤ k → ∃ c, slices_Index_string_string.l0 k l a (l.length : Int) (j : Int) = some c ∧ (decide (c ≥ 0)) = inNames (l.drop j) a := by
  intro n
  induction n with
  | zero =>
    intro j k hj hk
    obtain ⟨k, rfl⟩ : ∃ n, k = n + 1 := ⟨k - 1, by omega⟩
    simp only [slices_Index_string_string.l0]
    rw [if_neg (by omega), List.drop_eq_nil_of_le (by omega)]
    exact ⟨_, rfl, rfl⟩
  | succ n ih =>
    intro j k hj hk
    obtain ⟨k, rfl⟩ : ∃ n, k = n + 1 := ⟨k - 1, by omega⟩
    simp only [slices_Index_string_string.l0]
    rw [if_pos (by omega), if_pos (by omega), if_pos (by omega), rdOf_drop (l := l) (j := j) (by omega), wrap64_in (by omega)]
    by_cases h : a.toList = (rdOf ByteArray.empty l (j : Int)).toList
    · rw [if_pos h]
      refine ⟨_, rfl, ?_⟩
      simp [inNames, h]
    · rw [if_neg h, show ((j : Int) + 1) = ((j + 1 : Nat) : Int) by omega]
      obtain ⟨c, h1, h2⟩ := ih (j + 1) k (by omega) (by omega)
      refine ⟨c, h1, ?_⟩
      rw [h2]
      simp [inNames, h]
theorem contains_f (l : List ByteArray) (a : ByteArray) (h0 : l.length ≤ 9223372036854775807) (k : Nat) (hk : l.length + 1 ≤ k) : slices_Contains_string_string.f k l a = some (inNames l a) := by
  unfold slices_Contains_string_string.f slices_Index_string_string.f
  obtain ⟨c, h1, h2⟩ := index_l l a h0 l.length 0 k (by omega) hk
  rw [show ((0 : Nat) : Int) = 0 from rfl] at h1
  rw [h1]
  simp only [Option.bind_some, h2, List.drop_zero]
theorem chosen_l (ns : List ByteArray) (b : Bool) (l : List S59) (hn : ns.length ≤ 9223372036854775807) (h0 : l.length ≤ 9223372036854775807) : ∀ (n j k : Nat) (out : List S59), j + n = l.length → n + ns.length + 2 ≤ k → out.length + n < 4398046511104 →
    labels_chosen.l0 k ns b out l (l.length : Int) (j : Int) = some (out ++ (l.drop j).filter (fun x => inNames ns x.f0 == b)) := by
  intro n
  induction n with
  | zero =>
    intro j k out hj hk ho
    obtain ⟨k, rfl⟩ : ∃ n, k = n + 1 := ⟨k - 1, by omega⟩
    simp only [labels_chosen.l0]
    rw [if_neg (by omega), List.drop_eq_nil_of_le (by omega)]
    simp
  | succ n ih =>
    intro j k out hj hk ho
    obtain ⟨k, rfl⟩ : ∃ n, k = n + 1 := ⟨k - 1, by omega⟩
    simp only [labels_chosen.l0]
    rw [if_pos (by omega), if_pos (by omega), if_pos (by omega), contains_f ns _ hn k (by omega), rd59_drop (l := l) (j := j) (by omega), wrap64_in (by omega)]
    simp only [Option.bind_some, List.filter_cons]
    rw [show ((j : Int) + 1) = ((j + 1 : Nat) : Int) by omega]
    cases h : (inNames ns (rd_T59 l (j : Int)).f0 == b)
    · rw [if_neg (by simp), ih (j + 1) k out (by omega) (by omega) (by omega), if_neg (by simp)]
    · rw [if_pos rfl, if_pos (by omega), ih (j + 1) k _ (by omega) (by omega) (by simp; omega), if_pos rfl]
      simp
theorem chosen_f (l : List S59) (ns : List ByteArray) (b : Bool) (hn : ns.length ≤ 9223372036854775807) (h0 : l.length < 4398046511104) (k : Nat) (hk : l.length + ns.length + 2 ≤ k) : labels_chosen.f k l ns b = some (l.filter (fun x => inNames ns x.f0 == b)) := by
  have := chosen_l ns b l hn (by omega) l.length 0 k [] (by omega) hk (by simp; omega)
  rw [show ((0 : Nat) : Int) = 0 from rfl] at this
  unfold labels_chosen.f
  rw [this]
  simp
theorem keep_f (l : List S59) (ns : List ByteArray) (hn : ns.length ≤ 9223372036854775807) (h0 : l.length < 4398046511104) (k : Nat) (hk : l.length + ns.length + 2 ≤ k) : labels_Keep.f k l ns = some (l.filter (fun x => inNames ns x.f0)) := by
  unfold labels_Keep.f
  rw [chosen_f l ns true hn h0 k hk]
  simp
theorem without_f (l : List S59) (ns : List ByteArray) (hn : ns.length ≤ 9223372036854775807) (h0 : l.length < 4398046511104) (k : Nat) (hk : l.length + ns.length + 2 ≤ k) : labels_Without.f k l ns = some (l.filter (fun x => !inNames ns x.f0)) := by
  unfold labels_Without.f
  rw [chosen_f l ns false hn h0 k hk]
  simp
theorem lexL_same (l : List S59) : lexL cmpS l l = 0 := (lexL_cmp cmpS_cmp).refl l
theorem same_self (l : List S59) (h0 : l.length ≤ 9223372036854775807) (k : Nat) (hk : 2 * l.length + 4 ≤ k) : abacusref12_Same.f k l l = some true := by
  rw [same_f l l h0 k hk, lexL_same]
  rfl
end Go.Proofs.YtogegkfefpgbcaaDoor.PL
