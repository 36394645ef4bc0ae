/- (*labels.reader).one whole, labels.read. -/
import Derived.Test.YtogegkfefpgbcaaDoorZXPLx0
import Derived.Test.YtogegkfefpgbcaaDoorZXQ1
import Derived.Test.YtogegkfefpgbcaaDoorZXQ2
import Derived.Test.YtogegkfefpgbcaaDoorZXQ3
import Derived.Test.YtogegkfefpgbcaaDoorZXQ4
import Derived.Test.YtogegkfefpgbcaaDoorZXQ5
import Derived.Test.YtogegkfefpgbcaaDoorZXQ6
import Derived.Test.YtogegkfefpgbcaaDoorZXHK
import Derived.Test.YtogegkfefpgbcaaDoorZXPC
namespace Go.Proofs.YtogegkfefpgbcaaDoor.PL
open Go.RowKit Go.Proofs.YtogegkfefpgbcaaDoorW.PrintWords Go.Proofs.YtogegkfefpgbcaaDoorW.PrintLast Go.Proofs.YtogegkfefpgbcaaDoorW.PrintMore
set_option linter.unusedVariables false
set_option linter.unusedSimpArgs false

theorem one_calls (g : Nat) (s : ByteArray) (i : Int) (m : Bool) (v : Value) (l : List S36) (why at_ : Int) (w0 w : World) (hI : IsS71 w0 w g s i m v why at_) (hR : Kd.R k36 36 w w0.heap.size (fun _ => True) v l) (hB : Below w0.heap.size w0 w) (hG : G w0) (hi0 : 0 ≤ i) (hi1 : i ≤ s.size) (hs : s.size ≤ 140737488355000) (hl2 : l.length ≤ 1000)
    (r : Int × List S36 × Int × Int) (hr : oneF s i m l why at_ = some r) :
    Calls Tryd.prog 81 #[.pointer (some ⟨g, 0, none⟩)] w fun e w' => e = .returned (.tuple #[]) ∧ ∃ v', IsS71 w0 w' g s r.1 m v' r.2.2.1 r.2.2.2 ∧ Kd.R k36 36 w' w0.heap.size (fun _ => True) v' r.2.1 ∧ Below w0.heap.size w0 w' := by
  have hn := nameP_le s i why at_ hi1; unfold oneF at hr; obtain ⟨⟨nm, i1, w1, a1⟩, hN⟩ : ∃ x, nameP s i why at_ = x := ⟨_, rfl⟩; rw [hN] at hr hn; dsimp only at hr hn; by_cases h1 : w1 = 0
  · subst h1
    have hk := kindP_le s i1 m 0 a1 hn.2; obtain ⟨⟨kd, i2, w2, a2⟩, hK⟩ : ∃ x, kindP s i1 m 0 a1 = x := ⟨_, rfl⟩; rw [if_neg (by simp), hK] at hr; rw [hK] at hk; dsimp only at hr hk; by_cases h2 : w2 = 0
    · subst h2
      rw [if_neg (by simp)] at hr; by_cases h3 : l.length = 32
      · rw [if_pos h3] at hr
        exact one_rest_full g s i m v l why at_ w0 w hI hR hB hG hi0 hi1 hs nm i1 a1 kd i2 a2 hN hK (by omega) hn.2 (by omega) hk.2 h3 hl2 r hr
      · rw [if_neg h3] at hr
        exact one_rest_more g s i m v l why at_ w0 w hI hR hB hG hi0 hi1 hs nm i1 a1 kd i2 a2 hN hK (by omega) hn.2 (by omega) hk.2 h3 hl2 r hr
    · rw [if_pos h2] at hr
      cases hr; exact one_badkind g s i m v l why at_ w0 w hI hR hB hG hi0 hi1 hs nm i1 a1 kd i2 w2 a2 hN hK (by omega) hn.2 h2
  · rw [if_pos h1] at hr
    cases hr; exact one_badname g s i m v l why at_ w0 w hI hR hB hG hi0 hi1 hs nm i1 w1 a1 hN h1
end Go.Proofs.YtogegkfefpgbcaaDoor.PL
