/- The document's read is the code's. -/
import Derived.Test.YtogegkfefpgbcaaDoorZXPLx0
import Derived.Test.YtogegkfefpgbcaaDoorZXQ1
import Derived.Test.YtogegkfefpgbcaaDoorZXQ2
import Derived.Test.YtogegkfefpgbcaaDoorZXQ3
import Derived.Test.YtogegkfefpgbcaaDoorZXQ4
import Derived.Test.YtogegkfefpgbcaaDoorZXQ5
import Derived.Test.YtogegkfefpgbcaaDoorZXQ6
import Derived.Test.YtogegkfefpgbcaaDoorZXQ7
import Derived.Test.YtogegkfefpgbcaaDoorZXPS
namespace Go.Proofs.YtogegkfefpgbcaaDoor.PL
open Go Go.RowKit Go.Proofs.YtogegkfefpgbcaaDoorW.PrintWords Go.Proofs.YtogegkfefpgbcaaDoorW.PrintLast Go.Proofs.YtogegkfefpgbcaaDoorW.PrintMore
set_option linter.unusedVariables false
set_option linter.unusedSimpArgs false
theorem tail_j4 (s : ByteArray) (hs : s.size ≤ 2305843009213693952) (i : Nat) (hi : i ≤ s.size) (m : Bool) (b y : Int) (hb : 0 ≤ b) (l : List S36) (hl : l.length ≤ 1000) (nm v : ByteArray) (kd : Int) (k : Nat) (hk : 3 ≤ k) :
  ∃ j : Nat, abacusref12_reading_all.j4 k l nm kd v s (i : Int) m b y = some ([], s, (j : Int), m, b, y) ∧ j ≤ s.size := by
 obtain ⟨k, rfl⟩ : ∃ n, k = n + 2 := ⟨k - 2, by omega⟩; obtain ⟨j, h1, h2, h3⟩ := wants_bad s (i : Int) m b y 44 (by omega) (by omega) hs hb; simp only [abacusref12_reading_all.j4]; rw [if_pos (by omega)]; simp only [Option.bind_some]; rw [if_neg (by omega), h1]; simp only [Option.bind_some, abacusref12_reading_all.l0]; rw [if_neg (by omega)]; exact ⟨j.toNat, by rw [show ((j.toNat : Nat) : Int) = j by omega], by omega⟩
theorem tail_j3 (s : ByteArray) (hs : s.size ≤ 2305843009213693952) (i : Nat) (hi : i ≤ s.size) (m : Bool) (b y : Int) (hb : 0 ≤ b) (l : List S36) (hl : l.length ≤ 1000) (nm : ByteArray) (kd : Int) (k : Nat) (hk : 4 ≤ k) :
  ∃ j : Nat, abacusref12_reading_all.j3 k l nm kd s (i : Int) m b y = some ([], s, (j : Int), m, b, y) ∧ j ≤ s.size := by
 obtain ⟨k, rfl⟩ : ∃ n, k = n + 1 := ⟨k - 1, by omega⟩; simp only [abacusref12_reading_all.j3]; rw [if_neg (by omega)]; exact tail_j4 s hs i hi m b y hb l hl nm _ kd k (by omega)
theorem tail_j2 (s : ByteArray) (hs : s.size ≤ 2305843009213693952) (i : Nat) (hi : i ≤ s.size) (m : Bool) (b y : Int) (hb : 0 ≤ b) (l : List S36) (hl : l.length ≤ 1000) (from_ : Int) (nm : ByteArray) (kd : Int) (q : Bool) (k : Nat) (hk : 5 ≤ k) :
  ∃ j : Nat, abacusref12_reading_all.j2 k l from_ nm kd q s (i : Int) m b y = some ([], s, (j : Int), m, b, y) ∧ j ≤ s.size := by
 obtain ⟨k, rfl⟩ : ∃ n, k = n + 1 := ⟨k - 1, by omega⟩; simp only [abacusref12_reading_all.j2]
 cases q
 ·simp only [Bool.false_eq_true, if_false]
  rw [if_neg (by omega)]; exact tail_j3 s hs i hi m b y hb l hl nm kd k (by omega)
 ·simp only [if_true]
  exact ⟨i, rfl, hi⟩
theorem kindG' (s : ByteArray) (i : Nat) (hi : i ≤ s.size) (m : Bool) (at_ : Int) (hat : 0 ≤ at_ ∧ at_ ≤ s.size) : 0 ≤ (kindP s (i : Int) m 0 at_).2.2.2 ∧ (kindP s (i : Int) m 0 at_).2.2.2 ≤ s.size := by
 unfold kindP; split
 ·rename_i h
  have h1 := hereB_lt h.1 (by decide); split
  ·exact hat
  ·rw [show ((i : Int) + 1) = ((i + 1 : Nat) : Int) by omega]
   exact takeG s (i + 1) (by omega) at_ 61 hat
 ·exact takeG s i hi at_ 61 hat
theorem dupG' (s : ByteArray) (m : Bool) (nm : ByteArray) (from_ : Nat) (hf : from_ ≤ s.size) (l : List S36) (p : Int × Int) (hp : 0 ≤ p.2 ∧ p.2 ≤ s.size) : 0 ≤ (dupF m nm (from_ : Int) l l.length 0 p).2 ∧ (dupF m nm (from_ : Int) l l.length 0 p).2 ≤ s.size := by
 cases m
 ·have := (dupG s nm from_ hf l l.length 0 p (by omega) hp).1
  exact this
 ·rw [dupF_true]
  exact hp
theorem ref_step (s : ByteArray) (hs : s.size ≤ 140737488355000) (m : Bool) (i : Nat) (hi : i ≤ s.size) (l : List S36) (hl : l.length ≤ 32) (at_ : Int) (hat : 0 ≤ at_ ∧ at_ ≤ s.size) (r : Int × List S36 × Int × Int) (h : oneF s (i : Int) m l 0 at_ = some r) :
  (r.2.2.1 ≠ 0 → ∃ k0 : Nat, ∀ k, k0 ≤ k → ∃ j : Nat, abacusref12_reading_all.l0 k l s (i : Int) m (-1) 0 = some ([], s, (j : Int), m, r.2.2.2, r.2.2.1) ∧ j ≤ s.size) ∧
  (r.2.2.1 = 0 → ∃ k0 : Nat, ∀ k, k0 ≤ k → abacusref12_reading_all.l0 (k + 4) l s (i : Int) m (-1) 0 = if isB s r.1 125 = true then some (r.2.1, s, r.1 + 1, m, -1, 0) else ((abacusref12_reading_wants.f s r.1 m (-1) 0 44).bind fun b => abacusref12_reading_all.l0 k r.2.1 b.1 b.2.1 b.2.2.1 b.2.2.2.1 b.2.2.2.2)) ∧ (0 ≤ r.2.2.2 ∧ r.2.2.2 ≤ s.size) := by
 obtain ⟨n1, _⟩ := nameG s i hi at_ hat; have nle := nameP_le s (i : Int) 0 at_ (by omega); have hname := fun k hk => refname s (by omega) i hi m at_ k hk
 unfold oneF at h; generalize hN : nameP s (i : Int) 0 at_ = N at *; by_cases hw : N.2.2.1 = 0
 ·rw [if_neg (by simpa using hw)] at h
  obtain ⟨p, hp⟩ : ∃ p : Nat, N.2.1 = (p : Int) := ⟨N.2.1.toNat, by omega⟩; rw [hp] at nle h; have k1 := kindG' s p (by omega) m N.2.2.2 n1; have kle := kindP_le s (p : Int) m 0 N.2.2.2 (by omega); have hrel := fun k hk => refrel s (by omega) p (by omega) m N.2.2.2 k hk
  unfold relP at hrel; generalize hK : kindP s (p : Int) m 0 N.2.2.2 = K at *
  -- the document's road to behind the relation
  have road : ∀ k, s.size + 50 ≤ k → ∀ (c : Int) (j : Nat) (b y : Int), abacusref12_reading_relation.f k s (p : Int) m (-1) 0 = some (c, s, (j : Int), m, b, y) → abacusref12_reading_all.l0 (k + 1) l s (i : Int) m (-1) 0 = if b ≥ 0 then abacusref12_reading_all.j2 k l (i : Int) N.1 c ((j : Int) == (i : Int)) s (j : Int) m b y else abacusref12_reading_all.j2 k l (i : Int) N.1 c false s (j : Int) m b y := by
   intro k hk c j b y hr; obtain ⟨t, j0, g1, g2, g3⟩ := hname k (by omega); obtain ⟨e1, e2⟩ := g3 hw; simp only [abacusref12_reading_all.l0]; rw [if_pos (by omega), g1]; simp only [Option.bind_some]; have hb : badOf N.2.2.1 N.2.2.2 = -1 := by unfold badOf; rw [if_pos hw]
   rw [hb, hw, e1, e2, hp, hr]; simp only [Option.bind_some]
  by_cases hw2 : K.2.2.1 = 0
  ·rw [if_neg (by simpa using hw2)] at h
   obtain ⟨q, hq⟩ : ∃ q : Nat, K.2.1 = (q : Int) := ⟨K.2.1.toNat, by omega⟩; rw [hq] at kle h
   have hp0 : 0 ≤ (if l.length = 32 then ((3 : Int), (i : Int)) else (0, K.2.2.2)).2 ∧ (if l.length = 32 then ((3 : Int), (i : Int)) else (0, K.2.2.2)).2 ≤ s.size := by
    split
    ·simp only; omega
    ·exact k1
   have d1 := dupG' s m N.1 i hi l _ hp0; have hnamed := fun (c : Int) k hk => refnamed s c m l hl N.1 (i : Int) K.2.2.2 (by omega) k hk
   generalize hP : dupF m N.1 (i : Int) l l.length 0 (if l.length = 32 then ((3 : Int), (i : Int)) else (0, K.2.2.2)) = P at *
   -- where the relation ends, and its kind
   obtain ⟨kd, e, hke, hrel2, hle2⟩ : ∃ (kd : Int) (e : Nat), oneTail s (i : Int) m l N.1 K.1 (q : Int) P = (if P.1 = 0 then (valueO s (e : Int) m P.1 P.2).map fun r => (r.2.1, l ++ [⟨kd, N.1, r.1⟩], r.2.2.1, r.2.2.2) else some ((q : Int), l ++ [⟨K.1, N.1, ⟨#[]⟩⟩], P.1, P.2)) ∧ (∀ k, 2 ≤ k → abacusref12_reading_relation.f k s (p : Int) m (-1) 0 = some (kd, s, (e : Int), m, -1, 0)) ∧ e ≤ s.size := by
    rw [if_neg (by simpa using hw2)] at hrel; by_cases hc : hereB s (q : Int) = 126 ∧ m = true ∧ K.1 = 1
    ·have hlt := hereB_lt hc.1 (by decide)
     refine ⟨3, q + 1, ?_, fun k hk => ?_, by omega⟩
     ·unfold oneTail
      by_cases hq0 : P.1 = 0
      ·rw [if_pos hq0, if_pos hq0, if_pos hc]; rfl
      ·rw [if_neg hq0, if_neg hq0]
     ·rw [hq] at hrel
      rw [if_pos hc] at hrel; obtain ⟨c, j, g1, g2, g3⟩ := hrel k hk; obtain ⟨e1, e2⟩ := g3 hw2; have hb : badOf K.2.2.1 K.2.2.2 = -1 := by unfold badOf; rw [if_pos hw2]
      rw [g1]; simp only at e1 e2; rw [hb, hw2, e1, e2]; rfl
    ·refine ⟨K.1, q, ?_, fun k hk => ?_, by omega⟩
     ·unfold oneTail
      by_cases hq0 : P.1 = 0
      ·rw [if_pos hq0, if_pos hq0, if_neg hc]
      ·rw [if_neg hq0, if_neg hq0]
     ·rw [hq, if_neg hc] at hrel
      obtain ⟨c, j, g1, g2, g3⟩ := hrel k hk; obtain ⟨e1, e2⟩ := g3 hw2; have hb : badOf K.2.2.1 K.2.2.2 = -1 := by unfold badOf; rw [if_pos hw2]
      rw [g1, hb, hw2, e1, e2, hq]
   rw [hke] at h
   have road2 : ∀ k, s.size + 200 ≤ k → abacusref12_reading_all.l0 (k + 2) l s (i : Int) m (-1) 0 = abacusref12_reading_all.j3 k l N.1 kd s (e : Int) m (badOf P.1 P.2) P.1 := by
    intro k hk; rw [road (k + 1) (by omega) kd e (-1) 0 (hrel2 (k + 1) (by omega)), if_neg (by omega)]; simp only [abacusref12_reading_all.j2, Bool.false_eq_true, if_false]; rw [if_pos (by omega), hnamed (e : Int) k (by omega)]; simp only [Option.bind_some]
   by_cases hP0 : P.1 = 0
   ·rw [if_pos hP0, hP0] at h
    obtain ⟨v, hv, rfl⟩ := Option.map_eq_some_iff.1 h; obtain ⟨v', hv', v1, _⟩ := valueO_total s m e P.2 hle2 d1; rw [hv] at hv'
    cases hv'; obtain ⟨t, j, k0, g1, g2, g3⟩ := refvalue s hs m e hle2 P.2 v hv; have hb : badOf P.1 P.2 = -1 := by unfold badOf; rw [if_pos hP0]
    have road3 : ∀ k, s.size + 200 + k0 ≤ k → abacusref12_reading_all.l0 (k + 3) l s (i : Int) m (-1) 0 = abacusref12_reading_all.j4 k l N.1 kd t s (j : Int) m (badOf v.2.2.1 v.2.2.2) v.2.2.1 := by
     intro k hk; rw [road2 (k + 1) (by omega), hb, hP0]; simp only [abacusref12_reading_all.j3]; rw [if_pos (by omega), g1 k (by omega)]; simp only [Option.bind_some]
    refine ⟨fun hne => ⟨s.size + 210 + k0, fun k hk => ?_⟩, fun hz => ⟨s.size + 210 + k0, fun k hk => ?_⟩, v1⟩
    ·obtain ⟨k, rfl⟩ : ∃ n, k = n + 3 := ⟨k - 3, by omega⟩
     simp only at hne ⊢; have hb2 : badOf v.2.2.1 v.2.2.2 = v.2.2.2 := by unfold badOf; rw [if_neg hne]
     rw [road3 k (by omega), hb2]; exact tail_j4 s (by omega) j g2 m _ _ v1.1 l (by omega) N.1 t kd k (by omega)
    ·simp only at hz ⊢
     obtain ⟨e1, e2⟩ := g3 hz; have hb2 : badOf v.2.2.1 v.2.2.2 = -1 := by unfold badOf; rw [if_pos hz]
     rw [road3 (k + 1) (by omega), hb2, hz, e1]; simp only [abacusref12_reading_all.j4]; rw [if_pos (by omega)]; simp only [Option.bind_some]; rw [if_pos (by omega), is_f s (j : Int) m _ _ _ (by omega)]; simp only [Option.bind_some]; rw [wrap64_in (by omega), e2]
   ·rw [if_neg hP0] at h
    cases h; have hb : badOf P.1 P.2 = P.2 := by unfold badOf; rw [if_neg hP0]
    refine ⟨fun _ => ⟨s.size + 300, fun k hk => ?_⟩, fun hz => absurd hz hP0, d1⟩; obtain ⟨k, rfl⟩ : ∃ n, k = n + 2 := ⟨k - 2, by omega⟩; rw [road2 k (by omega), hb]; exact tail_j3 s (by omega) e hle2 m _ _ d1.1 l (by omega) N.1 kd k (by omega)
  ·rw [if_pos hw2] at h
   cases h; rw [if_pos hw2] at hrel; have hb : badOf K.2.2.1 K.2.2.2 = K.2.2.2 := by unfold badOf; rw [if_neg hw2]
   refine ⟨fun _ => ⟨s.size + 100, fun k hk => ?_⟩, fun hz => absurd hz hw2, k1⟩; obtain ⟨k, rfl⟩ : ∃ n, k = n + 1 := ⟨k - 1, by omega⟩; obtain ⟨c, j, g1, g2, g3⟩ := hrel k (by omega); rw [hb] at g1; rw [road k (by omega) c j _ _ g1, if_pos k1.1]; exact tail_j2 s (by omega) j (by omega) m _ _ k1.1 l (by omega) _ N.1 c _ k (by omega)
 ·rw [if_pos (by simpa using hw)] at h
  cases h; have hb : badOf N.2.2.1 N.2.2.2 = N.2.2.2 := by unfold badOf; rw [if_neg hw]
  refine ⟨fun _ => ⟨s.size + 100, fun k hk => ?_⟩, fun hz => absurd hz hw, n1⟩; obtain ⟨k, rfl⟩ : ∃ n, k = n + 1 := ⟨k - 1, by omega⟩; obtain ⟨t, j, g1, g2, g3⟩ := hname k (by omega); obtain ⟨c, j2, q1, q2⟩ := refrel_bad s (by omega) j (by omega) m N.2.2.2 N.2.2.1 n1.1 k (by omega); simp only [abacusref12_reading_all.l0]; rw [if_pos (by omega), g1]; simp only [Option.bind_some]; rw [hb, q1]; simp only [Option.bind_some]; rw [if_pos n1.1]; exact tail_j2 s (by omega) j2 (by omega) m _ _ n1.1 l (by omega) _ t c _ k (by omega)
theorem ref_loop (s : ByteArray) (hs : s.size ≤ 140737488355000) (m : Bool) : ∀ (f : Nat) (i : Nat) (l : List S36) (at_ : Int), i ≤ s.size → l.length ≤ 32 → (0 ≤ at_ ∧ at_ ≤ s.size) → ∀ r, ((oneF s (i : Int) m l 0 at_).bind fun r => readL s m f r.1 r.2.1 r.2.2.1 r.2.2.2) = some r →
  ∃ k0 : Nat, ∀ k, k0 ≤ k → ∃ (l' : List S36) (j : Nat), abacusref12_reading_all.l0 k l s (i : Int) m (-1) 0 = some (l', s, (j : Int), m, badOf (closeF s r).2.2.1 (closeF s r).2.2.2, (closeF s r).2.2.1) ∧ j ≤ s.size ∧ ((closeF s r).2.2.1 = 0 → l' = (closeF s r).2.1 ∧ (j : Int) = (closeF s r).1) ∧ (0 ≤ (closeF s r).2.2.2 ∧ (closeF s r).2.2.2 ≤ s.size) := by
 intro f
 induction f with
 | zero =>
  intro i l at_ _ _ _ r h; obtain ⟨r1, _, h2⟩ := Option.bind_eq_some_iff.1 h
  cases h2
 | succ f ih =>
  intro i l at_ hi hl hat r h; obtain ⟨r1, h1, h2⟩ := Option.bind_eq_some_iff.1 h; obtain ⟨st1, st2, st3⟩ := ref_step s hs m i hi l hl at_ hat r1 h1; have hle := oneF_le s (i : Int) m l 0 at_ r1 (by omega) (by omega) h1; simp only [readL] at h2; by_cases hw : r1.2.2.1 = 0
  ·obtain ⟨k0, g⟩ := st2 hw
   obtain ⟨q, hq⟩ : ∃ q : Nat, r1.1 = (q : Int) := ⟨r1.1.toNat, by omega⟩; rw [hq] at hle g h2; have hl1 : r1.2.1.length ≤ 32 := by have := hle.2.2.2 hw; omega
   by_cases h44 : hereB s (q : Int) = 44
   ·rw [if_pos ⟨hw, h44⟩] at h2
    have hlt := hereB_lt h44 (by decide); have hI : isB s (q : Int) 44 = true := (isB_here (by decide)).2 h44
    have hn : isB s (q : Int) 125 = false := by
     cases e : isB s (q : Int) 125
     ·rfl
     ·have := (isB_here (by decide)).1 e
      omega
    rw [hw, show ((q : Int) + 1) = ((q + 1 : Nat) : Int) by omega] at h2
    obtain ⟨k1, g1⟩ := ih (q + 1) r1.2.1 r1.2.2.2 (by omega) hl1 st3 r (by
     rw [← h2]
     cases oneF s ((q + 1 : Nat) : Int) m r1.2.1 0 r1.2.2.2 <;> rfl)
    refine ⟨k0 + k1 + 4, fun k hk => ?_⟩; obtain ⟨k, rfl⟩ : ∃ n, k = n + 4 := ⟨k - 4, by omega⟩; rw [g k (by omega), hn, if_neg (by simp), wants_yes s (q : Int) m _ _ 44 (by omega) (by omega) hI]; simp only [Option.bind_some]; rw [show ((q : Int) + 1) = ((q + 1 : Nat) : Int) by omega]; exact g1 k (by omega)
   ·rw [if_neg (fun e => h44 e.2)] at h2
    cases h2
    have hI : isB s (q : Int) 44 = false := by
     cases e : isB s (q : Int) 44
     ·rfl
     ·exact absurd ((isB_here (by decide)).1 e) h44
    refine ⟨k0 + 10, fun k hk => ?_⟩; obtain ⟨k, rfl⟩ : ∃ n, k = n + 4 := ⟨k - 4, by omega⟩; rw [g k (by omega)]; unfold closeF; simp only; rw [if_pos hw, hw]
    cases h125 : isB s (q : Int) 125
    ·rw [take_isnt _ h125]
     simp only [Bool.false_eq_true, if_false]; rw [wants_no s (q : Int) m 44 (by omega) hI]; obtain ⟨k, rfl⟩ : ∃ n, k = n + 1 := ⟨k - 1, by omega⟩; simp only [Option.bind_some, abacusref12_reading_all.l0]; rw [if_neg (by omega)]; exact ⟨[], q, by simp [badOf], by omega, fun e => absurd e (by simp), by omega, by omega⟩
    ·have hlt := isB_lt h125
     rw [take_is _ h125]; simp only [if_true]; exact ⟨r1.2.1, q + 1, rfl, by omega, fun _ => ⟨rfl, by omega⟩, st3⟩
  ·rw [if_neg (fun e => hw e.1)] at h2
   cases h2; obtain ⟨k0, g⟩ := st1 hw; refine ⟨k0, fun k hk => ?_⟩; obtain ⟨j, g1, g2⟩ := g k hk; unfold closeF; rw [if_neg hw]; exact ⟨[], j, by rw [g1]; simp [badOf, hw], g2, fun e => absurd e hw, st3⟩
theorem refread (s : ByteArray) (hs : s.size ≤ 140737488355000) (m : Bool) (r : Int × List S36 × Int × Int) (h : readF s m = some r) : ∃ k0 : Nat, ∀ k, k0 ≤ k → abacusref12_read.f k s m = some (if r.2.2.1 = 0 then r.2.1 else [], r.2.2.1, if r.2.2.1 = 0 then 0 else r.2.2.2) := by
 unfold readF at h; have wz : (0 : Int) = ((0 : Nat) : Int) := rfl
 cases h123 : isB s 0 123
 ·rw [take_isnt 0 h123] at h
  simp only [Bool.false_eq_true, if_false] at h
  cases h; refine ⟨5, fun k hk => ?_⟩; obtain ⟨k, rfl⟩ : ∃ n, k = n + 2 := ⟨k - 2, by omega⟩; unfold abacusref12_read.f abacusref12_reading_all.f; rw [wants_no s 0 m 123 (by omega) h123]; simp only [Option.bind_some]; rw [if_neg (by omega)]; simp only [abacusref12_reading_all.j0, Bool.false_eq_true, if_false, abacusref12_reading_all.l0]; rw [if_neg (by omega)]; simp
 ·have hlt := isB_lt h123
  rw [take_is 0 h123] at h; simp only [if_true] at h; rw [show (0 : Int) + 1 = 1 from rfl] at h
  have start : ∀ k, abacusref12_read.f k s m = ((abacusref12_reading_all.j0 k [] (isB s 1 125) s 1 m (-1) 0).bind fun r => if r.2.2.2.2.1 < 0 then (if r.2.2.1 < (s.size : Int) then (if 0 ≤ r.2.2.1 then some (([] : List S36), 120, r.2.2.1) else none) else some (r.1, 0, 0)) else some (([] : List S36), r.2.2.2.2.2, r.2.2.2.2.1)) := by
   intro k; unfold abacusref12_read.f abacusref12_reading_all.f; rw [wants_yes s 0 m _ _ 123 (by omega) (by omega) h123]; simp only [Option.bind_some]; rw [if_pos (by omega), is_f s (0 + 1) m _ _ _ (by omega)]; rfl
  cases h125 : isB s 1 125
  ·rw [if_neg (fun e => by rw [(isB_here (by decide)).2 e] at h125; cases h125)] at h
   obtain ⟨r', h', rfl⟩ := Option.map_eq_some_iff.1 h; obtain ⟨k0, g⟩ := ref_loop s hs m (s.size + 2) 1 [] 0 (by omega) (by simp) ⟨by omega, by omega⟩ r' h'; refine ⟨k0 + 2, fun k hk => ?_⟩; obtain ⟨k, rfl⟩ : ∃ n, k = n + 1 := ⟨k - 1, by omega⟩; obtain ⟨l', j, g1, g2, g3, g4⟩ := g k (by omega); rw [start, h125]; simp only [abacusref12_reading_all.j0, Bool.false_eq_true, if_false]; rw [show ((1 : Nat) : Int) = 1 from rfl] at g1; rw [g1]; simp only [Option.bind_some]; generalize closeF s r' = c at *; by_cases hw : c.2.2.1 = 0
   ·obtain ⟨e1, e2⟩ := g3 hw
    have hb : badOf c.2.2.1 c.2.2.2 = -1 := by unfold badOf; rw [if_pos hw]
    rw [hb, if_pos (by omega)]; by_cases hlt2 : (j : Int) < s.size
    ·have hR : restF s c = (c.1, c.2.1, 120, c.1) := by
      unfold restF; rw [if_pos ⟨hw, by rw [← e2]; exact hlt2⟩]; simp [failP, hw]
     rw [hR, if_pos hlt2, if_pos (by omega)]; simp [e2]
    ·have hR : restF s c = c := by
      unfold restF; rw [if_neg (fun e => hlt2 (by rw [e2]; exact e.2))]
     rw [hR, if_neg hlt2, if_pos hw, if_pos hw, e1, hw]
   ·have hb : badOf c.2.2.1 c.2.2.2 = c.2.2.2 := by unfold badOf; rw [if_neg hw]
    have hR : restF s c = c := by
     unfold restF; rw [if_neg (fun e => hw e.1)]
    rw [hR, hb, if_neg (by omega), if_neg hw, if_neg hw]
  ·have hlt2 := isB_lt h125
   rw [if_pos ((isB_here (by decide)).1 h125)] at h
   cases h; refine ⟨2, fun k hk => ?_⟩; obtain ⟨k, rfl⟩ : ∃ n, k = n + 1 := ⟨k - 1, by omega⟩; rw [start, h125]; simp only [abacusref12_reading_all.j0, if_true, Option.bind_some]; rw [wrap64_in (by omega), if_pos (by omega)]; by_cases hl : (1 : Int) + 1 < s.size
   ·have hR : restF s ((1 : Int) + 1, ([] : List S36), (0 : Int), (0 : Int)) = ((1 : Int) + 1, [], 120, (1 : Int) + 1) := by
     unfold restF; rw [if_pos ⟨rfl, hl⟩]; rfl
    rw [hR, if_pos hl, if_pos (by omega)]; simp
   ·have hR : restF s ((1 : Int) + 1, ([] : List S36), (0 : Int), (0 : Int)) = ((1 : Int) + 1, [], 0, 0) := by
     unfold restF; rw [if_neg (fun e => hl e.2)]
    rw [hR, if_neg hl]; simp
end Go.Proofs.YtogegkfefpgbcaaDoor.PL
