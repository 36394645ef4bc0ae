/- The two tables of unicode/utf8, as they lie in a world: a premise that stays; two facts about strings' order. -/
import Derived.Shelf.Unicode.DecodeSlow
import Derived.Deep.Draws
import Derived.Below
import Derived.Sort.Walk0
namespace Go.Proofs.YtogegkfefpgbcaaDoor
open Go Go.RowKit

def G (w : World) : Prop := Lib.Utf8Tabs 0 1 w
theorem G.below {w w' : World} (h : G w) (hb : Below w.heap.size w w') : G w' := Utf8Tabs_below h hb
theorem G.drewN {w : World} (h : G w) (n : Nat) : G (w.drewN n) := h
theorem G.drew {w : World} (h : G w) : G w.drew := h

theorem bl_irrefl : ∀ a : List UInt8, Op.bytesLess a a = false
  | [] => by simp [Op.bytesLess]
  | x :: a => by simp [Op.bytesLess, bl_irrefl a]
theorem bl_total : ∀ a b : List UInt8, Op.bytesLess a b = false → Op.bytesLess b a = false → a = b
  | [], [], _, _ => rfl
  | [], _ :: _, h, _ => by simp [Op.bytesLess] at h
  | _ :: _, [], _, h => by simp [Op.bytesLess] at h
  | x :: a, y :: b, h1, h2 => by
    simp only [Op.bytesLess] at h1 h2; by_cases e : x = y
    · subst e
      simp at h1 h2
      rw [bl_total a b h1 h2]
    · exfalso
      have : x < y ∨ y < x := by
        rcases Nat.lt_trichotomy x.toNat y.toNat with h | h | h
        · exact .inl h
        · exact absurd (UInt8.toNat_inj.1 h) e
        · exact .inr h
      rcases this with h | h <;> simp_all
theorem bl_ne {a b : List UInt8} (h : Op.bytesLess b a = true) : (a == b) = false := by
  rw [beq_eq_false_iff_ne]; rintro rfl; rw [bl_irrefl] at h
  cases h
theorem bl_eq {a b : List UInt8} (h1 : Op.bytesLess a b = false) (h2 : Op.bytesLess b a = false) : (a == b) = true := by
  rw [bl_total a b h1 h2]; simp
end Go.Proofs.YtogegkfefpgbcaaDoor
