/- The document's Print and Parse are the code's; LabelsTexts answers true. -/
import Derived.Test.YtogegkfefpgbcaaDoorZXPLx0
import Derived.Test.YtogegkfefpgbcaaDoorZXQ1
import Derived.Test.YtogegkfefpgbcaaDoorZXQ2
import Derived.Test.YtogegkfefpgbcaaDoorZXQ3
import Derived.Test.YtogegkfefpgbcaaDoorZXQ4
import Derived.Test.YtogegkfefpgbcaaDoorZXQ5
import Derived.Test.YtogegkfefpgbcaaDoorZXQ6
import Derived.Test.YtogegkfefpgbcaaDoorZXQ7
import Derived.Test.YtogegkfefpgbcaaDoorZXPT
import Derived.Test.YtogegkfefpgbcaaDoorZXPQ
import Derived.Test.YtogegkfefpgbcaaDoorZXPJ
namespace Go.Proofs.YtogegkfefpgbcaaDoor.PL
open Go Go.RowKit Go.Proofs.YtogegkfefpgbcaaDoorW.PrintWords Go.Proofs.YtogegkfefpgbcaaDoorW.PrintLast Go.Proofs.YtogegkfefpgbcaaDoorW.PrintMore
set_option linter.unusedVariables false
set_option linter.unusedSimpArgs false
theorem refquote_l (v : ByteArray) (hv : v.size ≤ 1099511627776) : ∀ (n j k : Nat) (out : List UInt8), j + n = v.size → 2 * n + 2 ≤ k → out.length ≤ 2 * j + 1 → abacusref12_Quote.l0 k v (numL out) (j : Int) = some (strOfNums (numL (out ++ escL ((bs v).drop j) ++ [34]))) := by
 intro n
 induction n with
 | zero =>
  intro j k out hj hk ho; obtain ⟨k, rfl⟩ : ∃ n, k = n + 1 := ⟨k - 1, by omega⟩; simp only [abacusref12_Quote.l0]; rw [if_neg (by omega), if_pos (by rw [numL_len]; omega), List.drop_eq_nil_of_le (by rw [bs_len]; omega)]; simp [numL, escL]
 | succ n ih =>
  intro j k out hj hk ho; obtain ⟨k, rfl⟩ : ∃ n, k = n + 2 := ⟨k - 2, by omega⟩; obtain ⟨x, hx, hb⟩ := drop_next (v := v) (j := j) (by omega); have e : escL ((bs v).drop j) = escB x ++ escL ((bs v).drop (j + 1)) := by rw [hx]; simp [escL]
  have nx : ∀ l, l.length ≤ 2 → abacusref12_Quote.l0 k v (numL (out ++ l)) (wrap64 ((j : Int) + 1)) = some (strOfNums (numL (out ++ l ++ escL ((bs v).drop (j + 1)) ++ [34]))) := fun l hl => by
   rw [wrap64_in (by omega), show ((j : Int) + 1) = ((j + 1 : Nat) : Int) by omega]; exact ih (j + 1) k (out ++ l) (by omega) (by omega) (by simp; omega)
  have lt1 : (numL out).length + 2 < 140737488355328 := by rw [numL_len]; omega
  have lt2 : (numL out).length < 140737488355328 := by omega
  have q1 : (0 : Int) ≤ (j : Int) := by omega
  have q2 : (j : Int) < (v.size : Int) := by omega
  rw [e, ← List.append_assoc]; simp only [abacusref12_Quote.l0, q1, q2, if_true]; rw [hb]; unfold escB; by_cases c1 : x = 92
  ·subst c1
   rw [if_pos (show ((UInt8.toNat 92 : Nat) : Int) = 92 from rfl), if_pos (.inl rfl)]; simp only [abacusref12_Quote.j1, q1, q2, if_true]; rw [if_pos (by rfl), hb]; simp only [Option.bind_some]; rw [if_pos (by simpa using lt1)]; have := nx [92, 92] (by simp); rw [numL_app] at this; exact this
  ·have n1 : ¬ ((x.toNat : Int) = 92) := fun e => c1 (UInt8.toNat_inj.1 (by show x.toNat = 92; omega))
   rw [if_neg n1]; by_cases c2 : x = 34
   ·subst c2
    rw [if_pos (.inr rfl)]; simp only [abacusref12_Quote.j1, q1, q2, if_true]; rw [if_pos (by rfl), hb]; simp only [Option.bind_some]; rw [if_pos (by simpa using lt1)]; have := nx [92, 34] (by simp); rw [numL_app] at this; exact this
   ·have n2 : ¬ ((x.toNat : Int) = 34) := fun e => c2 (UInt8.toNat_inj.1 (by show x.toNat = 34; omega))
    rw [if_neg (by rintro (h | h); exact c1 h; exact c2 h)]; simp only [abacusref12_Quote.j1, q1, q2, if_true]; rw [if_neg (by simpa using n2)]; by_cases c3 : x = 10
    ·subst c3
     rw [if_pos (by rfl), if_pos rfl]; simp only [Option.bind_some]; rw [if_pos (by simpa using lt1)]; have := nx [92, 110] (by simp); rw [numL_app] at this; exact this
    ·have n3 : ¬ ((x.toNat : Int) = 10) := fun e => c3 (UInt8.toNat_inj.1 (by show x.toNat = 10; omega))
     rw [if_neg n3, if_neg c3, if_pos lt2, hb]; have := nx [x] (by simp); rw [numL_app] at this; exact this
theorem refquote_f (v : ByteArray) (hv : v.size ≤ 1099511627776) (k : Nat) (hk : 2 * v.size + 2 ≤ k) : ∃ q, abacusref12_Quote.f k v = some q ∧ bs q = 34 :: (escL (bs v) ++ [34]) := by
 have := refquote_l v hv v.size 0 k [34] (by omega) hk (by simp); rw [List.drop_zero] at this; exact ⟨_, this, by rw [bs_numL]; simp⟩
theorem quote_size {v q : ByteArray} (hv : v.size ≤ 256) (h : bs q = 34 :: (escL (bs v) ++ [34])) : q.size ≤ 600 := by
 have := (escL_len (bs v)).2; rw [← bs_len, h]; simp only [List.length_cons, List.length_append, List.length_nil, bs_len] at *; omega
theorem refprint_l (l : List S59) (hl : l.length ≤ 32) (h : ∀ x ∈ l, x.f0.size ≤ 64 ∧ x.f1.size ≤ 256) : ∀ (n j k : Nat) (x5 : ByteArray), 1 ≤ j → j + n = l.length → n + 700 ≤ k → x5.size ≤ 700 * j + 1 → ∃ t, abacusref12_Print.l0 k l x5 (j : Int) = some (t, 0) ∧ bs t = bs x5 ++ tailL ((l.map matOf).drop j) ++ [125] := by
 intro n; have h44 : (⟨#[44]⟩ : ByteArray).size = 1 := rfl; have h61 : (⟨#[61]⟩ : ByteArray).size = 1 := rfl
 induction n with
 | zero =>
  intro j k x5 _ hj hk hx; obtain ⟨k, rfl⟩ : ∃ n, k = n + 1 := ⟨k - 1, by omega⟩; simp only [abacusref12_Print.l0]; rw [if_neg (by omega), if_pos (by omega)]; refine ⟨_, rfl, ?_⟩; rw [bs_append, List.drop_eq_nil_of_le (by simp; omega)]; simp [tailL]
  rfl
 | succ n ih =>
  intro j k x5 hj1 hj hk hx; obtain ⟨k, rfl⟩ : ∃ n, k = n + 1 := ⟨k - 1, by omega⟩; have hm := h _ (rd59_mem (l := l) (j := j) (by omega)); obtain ⟨q, h1, h2⟩ := refquote_f (rd_T59 l (j : Int)).f1 (by omega) k (by omega); have hq := quote_size hm.2 h2; simp only [abacusref12_Print.l0]; rw [if_pos (by omega), if_pos (by omega), if_pos (by omega), if_pos (by omega), if_pos (by rw [size_append']; omega), if_pos (by rw [size_append', size_append']; omega), h1]; simp only [Option.bind_some]; rw [if_pos (by rw [size_append', size_append', size_append']; omega), wrap64_in (by omega), show ((j : Int) + 1) = ((j + 1 : Nat) : Int) by omega]; obtain ⟨t, t1, t2⟩ := ih (j + 1) k _ (by omega) (by omega) (by omega) (show ((((x5 ++ (⟨#[44]⟩ : ByteArray)) ++ (rd_T59 l (j : Int)).f0) ++ (⟨#[61]⟩ : ByteArray)) ++ q).size ≤ 700 * (j + 1) + 1 by rw [size_append', size_append', size_append', size_append']; omega); refine ⟨t, t1, ?_⟩; rw [t2, tail_drop (l := l.map matOf) (j := j) (by simp; omega), matOf_at l j (by omega), bs_append, bs_append, bs_append, bs_append, h2]; unfold itemL signL matOf; simp only [if_true, show bs (⟨#[44]⟩ : ByteArray) = [44] from rfl, show bs (⟨#[61]⟩ : ByteArray) = [61] from rfl, List.append_assoc, List.cons_append, List.nil_append, List.singleton_append]
theorem refprint_f (l : List S59) (B : Nat) (hB : B ≤ 2305843009213693952) (ht : Texts B l) (h0 : l.length ≤ 9223372036854775807) (k : Nat) (hk : l.length + B + 2000 ≤ k) : ∃ t, abacusref12_Print.f k l = some (t, if rightB l = true then 0 else 120) ∧ (rightB l = true → bs t = bracedL (l.map matOf)) ∧ (rightB l = false → t = ⟨#[]⟩) := by
 unfold abacusref12_Print.f; rw [refright_f l B hB ht h0 k (by omega)]; simp only [Option.bind_some]
 cases hr : rightB l
 ·exact ⟨_, rfl, (fun h => by cases h), fun _ => rfl⟩
 ·have hR := (rightB_iff l).1 hr
  have hl := hR.2.1; have h := right_sizes hR; simp only [if_true]; have h123 : (⟨#[123]⟩ : ByteArray).size = 1 := rfl; have h61 : (⟨#[61]⟩ : ByteArray).size = 1 := rfl; obtain ⟨k, rfl⟩ : ∃ n, k = n + 1 := ⟨k - 1, by omega⟩
  cases l with
  | nil =>
   simp only [abacusref12_Print.l0]; rw [if_neg (by simp), if_pos (by omega)]; exact ⟨_, rfl, fun _ => rfl, fun h => by cases h⟩
  | cons x xs =>
   have hm := h x (by simp); obtain ⟨q, h1, h2⟩ := refquote_f x.f1 (by omega) k (by simp at hk; omega); have hq := quote_size hm.2 h2; have e0 : rd_T59 (x :: xs) 0 = x := rfl; simp only [abacusref12_Print.l0, e0]; rw [if_pos (by simp <;> omega), if_neg (by omega), if_pos (by omega), if_pos (by omega), if_pos (by rw [size_append']; omega), h1]; simp only [Option.bind_some]; rw [if_pos (by rw [size_append', size_append']; omega), wrap64_in (by omega)]; simp only [List.length_cons] at hl hk; obtain ⟨t, t1, t2⟩ := refprint_l (x :: xs) (by simpa using hl) h xs.length 1 k _ (by omega) (by simp; omega) (by omega) (show ((((⟨#[123]⟩ : ByteArray) ++ x.f0) ++ (⟨#[61]⟩ : ByteArray)) ++ q).size ≤ 700 * 1 + 1 by rw [size_append', size_append', size_append']; omega); refine ⟨t, t1, fun _ => ?_, fun h => by cases h⟩; rw [t2, bs_append, bs_append, bs_append, h2]; simp only [bracedL, List.map_cons, List.drop_succ_cons, List.drop_zero]; unfold itemL signL matOf; simp only [if_true, show bs (⟨#[123]⟩ : ByteArray) = [123] from rfl, show bs (⟨#[61]⟩ : ByteArray) = [61] from rfl, List.append_assoc, List.cons_append, List.nil_append, List.singleton_append]
theorem print_f0 (l : List S59) (h0 : l.length ≤ 9223372036854775807) (k : Nat) (hk : l.length + 1000 ≤ k) (h : rightB l = false) : labels_Print.f k l = some (⟨#[]⟩, 120) := by
 unfold labels_Print.f; rw [right_f l h0 k (by omega), h]; rfl
theorem print_same (l : List S59) (B : Nat) (hB : B ≤ 2305843009213693952) (ht : Texts B l) (h0 : l.length ≤ 9223372036854775807) (k : Nat) (hk : l.length + B + 2000 ≤ k) : ∃ t : ByteArray × Int, labels_Print.f k l = some t ∧ abacusref12_Print.f k l = some t := by
 obtain ⟨t, t1, t2, t3⟩ := refprint_f l B hB ht h0 k hk; obtain ⟨u, u1, u2⟩ := print_f l h0 k (by omega)
 cases hr : rightB l
 ·refine ⟨(⟨#[]⟩, 120), print_f0 l h0 k (by omega) hr, ?_⟩
  rw [t1, t3 hr, hr]; rfl
 ·refine ⟨(u, 0), ?_, ?_⟩
  ·rw [u1, hr]; rfl
  ·rw [t1, hr, bs_inj ((t2 hr).trans (u2 hr).symm)]
   rfl
theorem labAt (l : List S36) (j : Nat) (h : j < l.length) : (l.map labOf).drop j = ⟨(rd_T36 l (j : Int)).f1, (rd_T36 l (j : Int)).f2⟩ :: (l.map labOf).drop (j + 1) := by
 rw [List.drop_eq_getElem_cons (by simpa using h)]; congr 1
 simp [labOf, rd_T36, List.getD, h]
theorem refparse_l (l : List S36) (hl : l.length ≤ 32) (a b : Int) : ∀ (n j k : Nat) (out : List S59), j + n = l.length → n + 200 ≤ k → out.length ≤ j → abacusref12_Parse.l0 k l a b out (j : Int) = some (putAll out ((l.map labOf).drop j), a, b) := by
 intro n
 induction n with
 | zero =>
  intro j k out hj hk ho; obtain ⟨k, rfl⟩ : ∃ n, k = n + 1 := ⟨k - 1, by omega⟩; simp only [abacusref12_Parse.l0]; rw [if_neg (by omega), List.drop_eq_nil_of_le (by simp; omega)]; rfl
 | succ n ih =>
  intro j k out hj hk ho; obtain ⟨k, rfl⟩ : ∃ n, k = n + 1 := ⟨k - 1, by omega⟩; simp only [abacusref12_Parse.l0]; have hp := put_f out ⟨(rd_T36 l (j : Int)).f1, (rd_T36 l (j : Int)).f2⟩ (by omega) k (by omega); have hlen := putD_len ⟨(rd_T36 l (j : Int)).f1, (rd_T36 l (j : Int)).f2⟩ out false; simp only [Bool.false_eq_true, if_false] at hlen hp; rw [if_pos (by omega), if_pos (by omega), hp, labAt l j (by omega), wrap64_in (by omega)]; simp only [Option.bind_some]; rw [show ((j : Int) + 1) = ((j + 1 : Nat) : Int) by omega, ih (j + 1) k _ (by omega) (by omega) (by omega)]; rfl
theorem refparse (s : ByteArray) (hs : s.size ≤ 140737488351232) : ∃ k0 : Nat, ∀ k, k0 ≤ k → abacusref12_Parse.f k s = labels_Parse.f s := by
 obtain ⟨r, h1, h2, h3⟩ := readF_G s; obtain ⟨k0, g⟩ := refread s (by omega) false r h1; refine ⟨k0 + 500, fun k hk => ?_⟩; unfold abacusref12_Parse.f labels_Parse.f; rw [g k (by omega), if_pos (show s.size ≤ 140737488355000 by omega), h1]; simp only [Option.bind_some]; by_cases hw : r.2.2.1 = 0
 ·obtain ⟨g1, g2, g3⟩ := h3 hw
  rw [if_pos hw, if_pos hw, if_neg (by simpa using hw), if_pos (by omega), hw]; have := refparse_l r.2.1 g3 0 0 r.2.1.length 0 k [] (by omega) (by omega) (by simp); rw [show ((0 : Nat) : Int) = 0 from rfl, List.drop_zero] at this; rw [this]
  have hap : NamesApart (r.2.1.map labOf) := by
   unfold NamesApart; rw [List.pairwise_map]; exact g2
  rw [putAll_sort _ hap]
 ·rw [if_neg hw, if_neg hw, if_pos hw]
  have := refparse_l [] (by simp) r.2.2.1 r.2.2.2 0 0 k [] (by simp) (by omega) (by simp); rw [show ((0 : Nat) : Int) = 0 from rfl] at this; exact this
theorem parse_len (s : ByteArray) (hs : s.size ≤ 140737488351232) : ∃ p : List S59 × Int × Int, labels_Parse.f s = some p ∧ p.1.length ≤ 32 := by
 obtain ⟨p, h1, h2, h3⟩ := parse_any s hs; refine ⟨p, h1, ?_⟩; by_cases h : p.2.1 = 0
 ·exact (h3 h).2.1
 ·rw [(h2 h).1]; simp
theorem LabelsTexts_ev (l : List S59) (s : ByteArray) (B : Nat) (hB : B ≤ 2305843009213693952) (ht : Texts B l) (h0 : l.length ≤ 9223372036854775807) (hs : s.size ≤ 140737488351232) : ∃ k0 : Nat, ∀ k, k0 ≤ k → abacuslaw12_LabelsTexts.f k l s = some true := by
 obtain ⟨k0, g⟩ := refparse s hs; obtain ⟨p, p1, p2⟩ := parse_len s hs; refine ⟨k0 + l.length + B + 4000, fun k hk => ?_⟩; obtain ⟨t, t1, t2⟩ := print_same l B hB ht h0 k (by omega); unfold abacuslaw12_LabelsTexts.f; rw [t1, t2]; simp only [Option.bind_some, if_true, bne_self_eq_false]; obtain ⟨k, rfl⟩ : ∃ n, k = n + 1 := ⟨k - 1, by omega⟩; simp only [abacuslaw12_LabelsTexts.j0, Bool.false_eq_true, if_false]; rw [g k (by omega), p1]; simp only [Option.bind_some]; rw [same_self p.1 (by omega) k (by omega), begins_true k (by omega)]; simp
end Go.Proofs.YtogegkfefpgbcaaDoor.PL
