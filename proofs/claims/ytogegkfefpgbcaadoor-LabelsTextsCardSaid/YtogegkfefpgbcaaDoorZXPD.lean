/- The plain law of a whole order: of texts, of pairs, of lists. -/
import Derived.Test.YtogegkfefpgbcaaDoorZXHG0
import Derived.Test.YtogegkfefpgbcaaDoorZXPLx0
import Derived.Sort.Walk0
namespace Go.Proofs.YtogegkfefpgbcaaDoor.PL
open Go.RowKit Go.Proofs.YtogegkfefpgbcaaDoorW.PrintWords Go.Proofs.YtogegkfefpgbcaaDoorW.PrintLast Go.Proofs.YtogegkfefpgbcaaDoorW.PrintMore
set_option linter.unusedVariables false
set_option linter.unusedSimpArgs false

structure Cmp {α : Type} (c : α → α → Int) : Prop where
  anti : ∀ a b, c a b = - c b a
  rng : ∀ a b, -1 ≤ c a b ∧ c a b ≤ 1
  trans : ∀ a b d, c a b ≤ 0 → c b d ≤ 0 → c a d ≤ 0 ∧ (c a d = 0 → c a b = 0 ∧ c b d = 0)
theorem Cmp.refl {α : Type} {c : α → α → Int} (h : Cmp c) (a : α) : c a a = 0 := by have := h.anti a a; omega
theorem Cmp.zero {α : Type} {c : α → α → Int} (h : Cmp c) {a b d : α} (h1 : c a b = 0) (h2 : c b d = 0) : c a d = 0 := by
  have e1 := h.trans a b d (by omega) (by omega); have a1 := h.anti a b; have a2 := h.anti b d; have e2 := h.trans d b a (by omega) (by omega); have a3 := h.anti a d; omega

def cmpB (a b : List UInt8) : Int := if Op.bytesLess a b = true then -1 else if Op.bytesLess b a = true then 1 else 0
theorem bl_trans {a b c : List UInt8} (h1 : Op.bytesLess a b = true) (h2 : Op.bytesLess b c = true) : Op.bytesLess a c = true := by
  rw [bytesLess_eq] at *; simp only [decide_eq_true_eq] at *; exact List.lt_trans h1 h2
theorem bl_asymm {a b : List UInt8} (h1 : Op.bytesLess a b = true) (h2 : Op.bytesLess b a = true) : False := by
  have := bl_trans h1 h2; rw [bl_irrefl] at this
  cases this
theorem cmpB_cases (a b : List UInt8) : (cmpB a b = -1 ∧ Op.bytesLess a b = true) ∨ (cmpB a b = 1 ∧ Op.bytesLess b a = true) ∨ (cmpB a b = 0 ∧ a = b) := by
  unfold cmpB
  cases h1 : Op.bytesLess a b
  · cases h2 : Op.bytesLess b a
    · exact .inr (.inr ⟨by simp, bl_total a b h1 h2⟩)
    · exact .inr (.inl ⟨by simp, rfl⟩)
  · exact .inl ⟨by simp, rfl⟩
theorem cmpB_cmp : Cmp cmpB where
  anti a b := by
    rcases cmpB_cases a b with ⟨e1, h1⟩ | ⟨e1, h1⟩ | ⟨e1, h1⟩ <;> rcases cmpB_cases b a with ⟨e2, h2⟩ | ⟨e2, h2⟩ | ⟨e2, h2⟩ <;>
      first | omega | exact (bl_asymm h1 h2).elim | (subst h1; rw [bl_irrefl] at h2; cases h2) | (subst h2; rw [bl_irrefl] at h1; cases h1)
  rng a b := by rcases cmpB_cases a b with ⟨e1, h1⟩ | ⟨e1, h1⟩ | ⟨e1, h1⟩ <;> omega
  trans a b d h1 h2 := by
    rcases cmpB_cases a b with ⟨e1, g1⟩ | ⟨e1, g1⟩ | ⟨e1, g1⟩
    · rcases cmpB_cases b d with ⟨e2, g2⟩ | ⟨e2, g2⟩ | ⟨e2, g2⟩
      · have : cmpB a d = -1 := by unfold cmpB; rw [if_pos (bl_trans g1 g2)]
        omega
      · omega
      · subst g2; omega
    · omega
    · subst g1; omega
def lex2 {α β : Type} (c : α → α → Int) (d : β → β → Int) (x y : α × β) : Int := if c x.1 y.1 ≠ 0 then c x.1 y.1 else d x.2 y.2
theorem lex2_cmp {α β : Type} {c : α → α → Int} {d : β → β → Int} (hc : Cmp c) (hd : Cmp d) : Cmp (lex2 c d) where
  anti a b := by
    have := hc.anti a.1 b.1; have := hd.anti a.2 b.2; unfold lex2; split <;> split <;> omega
  rng a b := by
    have := hc.rng a.1 b.1; have := hd.rng a.2 b.2; unfold lex2; split <;> omega
  trans a b e h1 h2 := by
    unfold lex2 at *; have t1 := hc.trans a.1 b.1 e.1; have t2 := hd.trans a.2 b.2 e.2; have z := @Cmp.zero _ _ hc a.1 b.1 e.1; by_cases p1 : c a.1 b.1 = 0
    · by_cases p2 : c b.1 e.1 = 0
      · have p3 := z p1 p2
        simp only [p1, p2, p3, ne_eq, not_true_eq_false, if_false] at h1 h2 ⊢; exact t2 h1 h2
      · simp only [p1, p2, ne_eq, not_true_eq_false, not_false_eq_true, if_true, if_false] at h1 h2 ⊢
        have t3 := t1 (by omega) h2; have p3 : c a.1 e.1 ≠ 0 := fun h => p2 (t3.2 h).2
        simp only [p3, ne_eq, not_false_eq_true, if_true]; exact ⟨t3.1, fun h => h.elim⟩
    · simp only [p1, ne_eq, not_false_eq_true, if_true] at h1 ⊢
      have hb : c b.1 e.1 ≤ 0 := by
        by_cases p2 : c b.1 e.1 = 0
        · omega
        · simp only [p2, ne_eq, not_false_eq_true, if_true] at h2
          exact h2
      have t3 := t1 h1 hb; have p3 : c a.1 e.1 ≠ 0 := fun h => p1 (t3.2 h).1
      simp only [p3, ne_eq, not_false_eq_true, if_true]; exact ⟨t3.1, fun h => h.elim⟩
def lexL {α : Type} (c : α → α → Int) : List α → List α → Int
  | [], [] => 0
  | [], _ :: _ => -1
  | _ :: _, [] => 1
  | x :: xs, y :: ys => if c x y = 0 then lexL c xs ys else c x y
theorem lexL_cmp {α : Type} {c : α → α → Int} (hc : Cmp c) : Cmp (lexL c) where
  anti a := by
    induction a with
    | nil => intro b; cases b <;> simp [lexL]
    | cons x xs ih =>
      intro b
      cases b with
      | nil => simp [lexL]
      | cons y ys =>
        have := hc.anti x y; have := ih ys; simp only [lexL]; split <;> split <;> omega
  rng a := by
    induction a with
    | nil => intro b; cases b <;> simp [lexL]
    | cons x xs ih =>
      intro b
      cases b with
      | nil => simp [lexL]
      | cons y ys =>
        have := hc.rng x y; have := ih ys; simp only [lexL]; split <;> omega
  trans a := by
    induction a with
    | nil =>
      intro b d h1 h2
      cases d with
      | nil => cases b with
        | nil => simp [lexL]
        | cons y ys => simp [lexL] at h2
      | cons z zs => simp [lexL]
    | cons x xs ih =>
      intro b d h1 h2
      cases b with
      | nil => simp [lexL] at h1
      | cons y ys =>
        cases d with
        | nil => simp [lexL] at h2
        | cons z zs =>
          have t1 := hc.trans x y z; have t2 := ih ys zs; have zz := @Cmp.zero _ _ hc x y z; simp only [lexL] at *; by_cases p1 : c x y = 0
          · by_cases p2 : c y z = 0
            · have p3 := zz p1 p2
              simp only [p1, p2, p3, if_true] at *; exact t2 h1 h2
            · rw [if_neg p2] at h2 ⊢
              rw [if_pos p1] at h1 ⊢; have := t1 (by omega) h2; have p3 : c x z ≠ 0 := fun h => p2 (this.2 h).2
              rw [if_neg p3]; omega
          · rw [if_neg p1] at h1 ⊢
            have hb : c y z ≤ 0 := by
              by_cases p2 : c y z = 0
              · omega
              · rw [if_neg p2] at h2
                exact h2
            have := t1 h1 hb; have p3 : c x z ≠ 0 := fun h => p1 (this.2 h).1
            rw [if_neg p3]; omega
def cmpS (x y : S59) : Int := lex2 cmpB cmpB (x.f0.toList, x.f1.toList) (y.f0.toList, y.f1.toList)
theorem cmpS_cmp : Cmp cmpS where
  anti a b := (lex2_cmp cmpB_cmp cmpB_cmp).anti _ _
  rng a b := (lex2_cmp cmpB_cmp cmpB_cmp).rng _ _
  trans a b d := (lex2_cmp cmpB_cmp cmpB_cmp).trans _ _ _
theorem cmpS_zero (x y : S59) : cmpS x y = 0 ↔ (x.f0.toList = y.f0.toList ∧ x.f1.toList = y.f1.toList) := by
  unfold cmpS lex2; dsimp only; rcases cmpB_cases x.f0.toList y.f0.toList with ⟨e1, g1⟩ | ⟨e1, g1⟩ | ⟨e1, g1⟩
  · have : x.f0.toList ≠ y.f0.toList := fun e => by rw [e, bl_irrefl] at g1; cases g1
    simp [e1, this]
  · have : x.f0.toList ≠ y.f0.toList := fun e => by rw [e, bl_irrefl] at g1; cases g1
    simp [e1, this]
  · rcases cmpB_cases x.f1.toList y.f1.toList with ⟨e2, g2⟩ | ⟨e2, g2⟩ | ⟨e2, g2⟩
    · have : x.f1.toList ≠ y.f1.toList := fun e => by rw [e, bl_irrefl] at g2; cases g2
      simp [e1, e2, this]
    · have : x.f1.toList ≠ y.f1.toList := fun e => by rw [e, bl_irrefl] at g2; cases g2
      simp [e1, e2, this]
    · rw [if_neg (by simpa using e1), e2]; simp [g1, g2]
end Go.Proofs.YtogegkfefpgbcaaDoor.PL
