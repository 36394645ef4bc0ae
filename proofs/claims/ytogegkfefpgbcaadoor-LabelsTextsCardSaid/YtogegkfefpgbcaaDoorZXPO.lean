/- What one and read answer: of a text that was written, and of any text. -/
import Derived.Test.YtogegkfefpgbcaaDoorZXPN
namespace Go.Proofs.YtogegkfefpgbcaaDoor.PL
open Go Go.RowKit Go.Proofs.YtogegkfefpgbcaaDoorW.PrintWords Go.Proofs.YtogegkfefpgbcaaDoorW.PrintLast Go.Proofs.YtogegkfefpgbcaaDoorW.PrintMore
set_option linter.unusedVariables false
set_option linter.unusedSimpArgs false
def signL (k : Int) : List UInt8 := if k = 1 then [61] else if k = 2 then [33, 61] else if k = 3 then [61, 126] else [33, 126]
def itemL (x : S36) : List UInt8 := bs x.f1 ++ (signL x.f0 ++ 34 :: (escL (bs x.f2) ++ [34]))
def tailL (xs : List S36) : List UInt8 := xs.flatMap (fun x => 44 :: itemL x)
def Apart36 (l : List S36) : Prop := l.Pairwise (fun x y => x.f1.toList ≠ y.f1.toList)
def bracedL (xs : List S36) : List UInt8 := 123 :: ((match xs with | [] => [] | x :: t => itemL x ++ tailL t) ++ [125])
def Good (l : List S36) : Prop := (∀ x ∈ l, nameB x.f1 = true ∧ valueI x.f2 < 0) ∧ Apart36 l ∧ l.length ≤ 32
theorem takeG (s : ByteArray) (i : Nat) (hi : i ≤ s.size) (at_ c : Int) (hat : 0 ≤ at_ ∧ at_ ≤ s.size) : 0 ≤ (takeP s (i : Int) 0 at_ c).2.2.2 ∧ (takeP s (i : Int) 0 at_ c).2.2.2 ≤ s.size := by
  unfold takeP; split
  · exact hat
  · simp [failP]; omega
theorem kindG (s : ByteArray) (i : Nat) (hi : i ≤ s.size) (at_ : Int) (hat : 0 ≤ at_ ∧ at_ ≤ s.size) : 0 ≤ (kindP s (i : Int) false 0 at_).2.2.2 ∧ (kindP s (i : Int) false 0 at_).2.2.2 ≤ s.size := by
  unfold kindP; rw [if_neg (by simp)]; exact takeG s i hi at_ 61 hat
theorem dupG (s : ByteArray) (nm : ByteArray) (from_ : Nat) (hf : from_ ≤ s.size) (l : List S36) : ∀ (n j : Nat) (p : Int × Int), j + n = l.length → (0 ≤ p.2 ∧ p.2 ≤ s.size) →
    (0 ≤ (dupF false nm (from_ : Int) l n (j : Int) p).2 ∧ (dupF false nm (from_ : Int) l n (j : Int) p).2 ≤ s.size) ∧ ((dupF false nm (from_ : Int) l n (j : Int) p).1 = 0 → p.1 = 0 ∧ ∀ y ∈ l.drop j, y.f1.toList ≠ nm.toList) := by
  intro n
  induction n with
  | zero =>
    intro j p hj hp; refine ⟨hp, fun h => ⟨h, fun y hy => ?_⟩⟩; rw [List.drop_eq_nil_of_le (by omega)] at hy
    cases hy
  | succ n ih =>
    intro j p hj hp; simp only [dupF]; rw [show ((j : Int) + 1) = ((j + 1 : Nat) : Int) by omega, rd36_drop (l := l) (j := j) (by omega)]; by_cases hc : (rd_T36 l (j : Int)).f1.toList = nm.toList
    · rw [if_pos ⟨by trivial, hc⟩]
      have hp' : 0 ≤ (failP p.1 p.2 121 (from_ : Int)).2 ∧ (failP p.1 p.2 121 (from_ : Int)).2 ≤ s.size := by
        unfold failP; split
        · simp; omega
        · exact hp
      obtain ⟨h1, h2⟩ := ih (j + 1) _ (by omega) hp'; refine ⟨h1, fun h => ?_⟩; have := (h2 h).1; unfold failP at this; split at this
      · simp at this
      · contradiction
    · rw [if_neg (fun e => hc e.2)]
      obtain ⟨h1, h2⟩ := ih (j + 1) p (by omega) hp; refine ⟨h1, fun h => ⟨(h2 h).1, fun y hy => ?_⟩⟩; rcases List.mem_cons.1 hy with rfl | hy
      · exact hc
      · exact (h2 h).2 y hy
theorem oneG (s : ByteArray) (i : Nat) (hi : i ≤ s.size) (l : List S36) (hg : Good l) (at_ : Int) (hat : 0 ≤ at_ ∧ at_ ≤ s.size) :
    ∃ r, oneF s (i : Int) false l 0 at_ = some r ∧ (0 ≤ r.2.2.2 ∧ r.2.2.2 ≤ s.size) ∧ (r.2.2.1 = 0 → Good r.2.1) := by
  obtain ⟨n1, n2⟩ := nameG s i hi at_ hat; have nle := nameP_le s (i : Int) 0 at_ (by omega); unfold oneF; generalize hN : nameP s (i : Int) 0 at_ = N at *; split
  · rename_i hw
    exact ⟨_, rfl, n1, fun h => absurd h hw⟩
  · rename_i hw
    simp only [ne_eq, Decidable.not_not] at hw; obtain ⟨j, hj⟩ : ∃ j : Nat, N.2.1 = (j : Int) := ⟨N.2.1.toNat, by omega⟩; rw [hj] at nle ⊢; have k1 := kindG s j (by omega) N.2.2.2 n1; have kle := kindP_le s (j : Int) false 0 N.2.2.2 (by omega); have kk : (kindP s (j : Int) false 0 N.2.2.2).1 = 1 := by unfold kindP; rw [if_neg (by simp)]
    generalize hK : kindP s (j : Int) false 0 N.2.2.2 = K at *; split
    · rename_i hw2
      exact ⟨_, rfl, k1, fun h => absurd h hw2⟩
    · rename_i hw2
      simp only [ne_eq, Decidable.not_not] at hw2; obtain ⟨j2, hj2⟩ : ∃ j2 : Nat, K.2.1 = (j2 : Int) := ⟨K.2.1.toNat, by omega⟩; rw [hj2] at kle ⊢
      have hp0 : 0 ≤ (if l.length = 32 then ((3 : Int), (i : Int)) else (0, K.2.2.2)).2 ∧ (if l.length = 32 then ((3 : Int), (i : Int)) else (0, K.2.2.2)).2 ≤ s.size := by
        split
        · simp; omega
        · exact k1
      obtain ⟨d1, d2⟩ := dupG s N.1 i hi l l.length 0 _ (by omega) hp0; rw [show ((0 : Nat) : Int) = 0 from rfl] at d1 d2; rw [List.drop_zero] at d2; generalize hP : dupF false N.1 (i : Int) l l.length 0 (if l.length = 32 then ((3 : Int), (i : Int)) else (0, K.2.2.2)) = P at *; unfold oneTail; split
      · rename_i hz
        obtain ⟨e1, e2⟩ := d2 hz; have h32 : l.length ≠ 32 := fun e => by rw [if_pos e] at e1; simp at e1
        rw [if_neg (by simp)]; rw [hz]; obtain ⟨v, hv, v1, v2⟩ := valueO_total s false j2 P.2 (by omega) d1; rw [hv]; refine ⟨_, rfl, v1, fun h => ?_⟩; obtain ⟨w1, w2, w3⟩ := v2 h; refine ⟨fun x hx => ?_, ?_, by have := hg.2.2; simp; omega⟩
        · rcases List.mem_append.1 hx with hx | hx
          · exact hg.1 x hx
          · simp only [List.mem_singleton] at hx
            subst hx; exact ⟨n2 hw, (value_fine v.1).2 ⟨w3 rfl, w2, w1⟩⟩
        · refine List.pairwise_append.2 ⟨hg.2.1, by simp, fun a ha b hb => ?_⟩
          simp only [List.mem_singleton] at hb; subst hb; exact e2 a ha
      · rename_i hz
        exact ⟨_, rfl, d1, fun h => absurd h hz⟩
theorem readG (s : ByteArray) : ∀ (f : Nat) (i : Nat) (l : List S36) (why at_ : Int), s.size + 1 ≤ i + f → i ≤ s.size → (0 ≤ at_ ∧ at_ ≤ s.size) → (why = 0 → Good l) →
    ∃ r, readL s false f (i : Int) l why at_ = some r ∧ (0 ≤ r.1 ∧ r.1 ≤ s.size) ∧ (0 ≤ r.2.2.2 ∧ r.2.2.2 ≤ s.size) ∧ (r.2.2.1 = 0 → Good r.2.1) := by
  intro f
  induction f with
  | zero => intro i l why at_ h hi; omega
  | succ f ih =>
    intro i l why at_ h hi hat hg; simp only [readL]; by_cases hc : why = 0 ∧ hereB s (i : Int) = 44
    · rw [if_pos hc]
      obtain ⟨hw, hh⟩ := hc; subst hw; have hlt := hereB_lt hh (by decide); obtain ⟨r, hr, r1, r2⟩ := oneG s (i + 1) (by omega) l (hg rfl) at_ hat; rw [show ((i : Int) + 1) = ((i + 1 : Nat) : Int) by omega, hr]; have hle := oneF_le s ((i + 1 : Nat) : Int) false l 0 at_ r (by omega) (by omega) hr; obtain ⟨j, hj⟩ : ∃ j : Nat, r.1 = (j : Int) := ⟨r.1.toNat, by omega⟩; simp only; rw [hj] at hle ⊢; exact ih j _ _ _ (by omega) (by omega) r1 r2
    · rw [if_neg hc]
      exact ⟨_, rfl, by simp; omega, hat, hg⟩
theorem readF_G (s : ByteArray) : ∃ r, readF s false = some r ∧ (0 ≤ r.2.2.2 ∧ r.2.2.2 ≤ s.size) ∧ (r.2.2.1 = 0 → Good r.2.1) := by
  have t1 := takeG s 0 (by omega) 0 123 (by omega); have tle := takeP_le s 0 0 0 123 (by omega); rw [show ((0 : Nat) : Int) = 0 from rfl] at t1
  have tw : (takeP s 0 0 0 123).1 = true → (takeP s 0 0 0 123).2.2.1 = 0 ∧ (takeP s 0 0 0 123).2.1 = 1 := by
    unfold takeP; split
    · intro _; exact ⟨rfl, rfl⟩
    · intro h; cases h
  have tf : (takeP s 0 0 0 123).1 ≠ true → (takeP s 0 0 0 123).2.2.1 ≠ 0 := by
    unfold takeP; split
    · intro h; exact absurd rfl h
    · intro _; simp [failP]
  have rest : ∀ r : Int × List S36 × Int × Int, (0 ≤ r.1 ∧ r.1 ≤ s.size) → (0 ≤ r.2.2.2 ∧ r.2.2.2 ≤ s.size) → (r.2.2.1 = 0 → Good r.2.1) → (0 ≤ (restF s r).2.2.2 ∧ (restF s r).2.2.2 ≤ s.size) ∧ ((restF s r).2.2.1 = 0 → Good (restF s r).2.1) := by
    intro r h0 h1 h2; unfold restF; split
    · rename_i hc
      rw [hc.1]; exact ⟨by simp [failP]; omega, by simp [failP]⟩
    · exact ⟨h1, h2⟩
  have good0 : Good [] := ⟨(fun x hx => by cases hx), List.Pairwise.nil, by simp⟩; unfold readF; generalize takeP s 0 0 0 123 = T at *; split
  · rename_i hT
    obtain ⟨e1, e2⟩ := tw hT; split
    · rename_i hh
      have := hereB_lt hh (by decide); obtain ⟨a, b⟩ := rest (T.2.1 + 1, [], T.2.2) (by simp only; omega) t1 (fun _ => good0); exact ⟨_, rfl, a, b⟩
    · rw [e1, e2]
      rw [e2] at tle; obtain ⟨r, hr, r1, r2⟩ := oneG s 1 (by omega) [] good0 T.2.2.2 t1; have hle := oneF_le s ((1 : Nat) : Int) false [] 0 T.2.2.2 r (by omega) (by omega) hr; rw [show ((1 : Nat) : Int) = 1 from rfl] at hr; rw [hr]; obtain ⟨j, hj⟩ : ∃ j : Nat, r.1 = (j : Int) := ⟨r.1.toNat, by omega⟩; simp only [Option.bind_some]; rw [hj] at hle ⊢; obtain ⟨q, hq, q0, q1, q2⟩ := readG s (s.size + 2) j r.2.1 r.2.2.1 r.2.2.2 (by omega) (by omega) r1 r2; rw [hq]; simp only [Option.map_some]
      have hcl : (0 ≤ (closeF s q).1 ∧ (closeF s q).1 ≤ s.size) ∧ (0 ≤ (closeF s q).2.2.2 ∧ (closeF s q).2.2.2 ≤ s.size) ∧ ((closeF s q).2.2.1 = 0 → Good (closeF s q).2.1) := by
        unfold closeF; split
        · rename_i hz
          have a := takeP_le s q.1 q.2.2.1 q.2.2.2 125 (by omega); obtain ⟨j3, hj3⟩ : ∃ j3 : Nat, q.1 = (j3 : Int) := ⟨q.1.toNat, by omega⟩; have b := takeG s j3 (by omega) q.2.2.2 125 q1; rw [← hj3] at b; rw [hz] at a ⊢; refine ⟨?_, b, fun _ => q2 hz⟩; show 0 ≤ (takeP s q.1 0 q.2.2.2 125).2.1 ∧ (takeP s q.1 0 q.2.2.2 125).2.1 ≤ s.size
          omega
        · exact ⟨q0, q1, q2⟩
      obtain ⟨a, b⟩ := rest (closeF s q) hcl.1 hcl.2.1 hcl.2.2; exact ⟨_, rfl, a, b⟩
  · rename_i hT
    exact ⟨_, rfl, t1, fun h => absurd h (tf hT)⟩
end Go.Proofs.YtogegkfefpgbcaaDoor.PL
