/- From a contract of one goroutine to a row that lets others leave: whoever is alone leaves nobody behind. -/
import Derived.Test.YtigacfgoldnoiaaDoorRows
import Derived.Deep.DeepHandedRow
import Derived.Conc.Holds
import Derived.ProofKit
import Derived.SevenTiedAt
namespace Go.Proofs.YtigacfgoldnoiaaDoor
open Go

theorem leaving_of_alone {P : Program} {last : Machine} {w : World} {t : Trace} (h : aloneAtReturn P last w t) : leavingAtReturn P last w t := by
  obtain ⟨h1, h2, h3⟩ := h
  refine ⟨h2, ⟨fun g hg => ?_, h1.2⟩, h3⟩
  have hd := h1.1
  refine ⟨0, ?_⟩
  show g.status = _
  simpa using (List.all_eq_true.1 hd) g hg

theorem row_leaving {p : Pinned} {s : OpenSpec} {c : OpenClaim} (hwf : c.wf s = true) (hlv : c.leaving = true) (hstart : c.start = .entering) (hst : c.stops = [])
    (h : ({ c with leaving := false } : OpenClaim).holds p s) : c.holds p s := by
  unfold OpenClaim.holds at h ⊢
  obtain ⟨_, h2, h3, h4, h5, h6, h7, h8, f, fn, g1, g2, g3, g4, g5, g6, g7, g8, g9, g10, g11, g12, g13, g14, g15, g16, g17, g18, g19, g20, g21, L, hL, hall⟩ := h
  refine ⟨hwf, h2, h3, h4, h5, h6, h7, h8, f, fn, g1, g2, g3, g4, g5, g6, g7, g8, g9, g10, g11, g12, g13, g14, g15, g16, g17, g18, g19, g20, g21, L, hL, fun os ho hq H enc inj => ?_⟩
  have h1 := hall os ho hq H enc inj
  unfold OpenClaim.form at h1 ⊢
  simp only [hstart, hst] at h1 ⊢
  intro F
  refine ReturnsInOpen.mono (fun last w t hr => ?_) (fun _ x => x) (h1 F)
  unfold OpenClaim.atReturn
  rw [hlv]
  exact leaving_of_alone hr

/-- The tied card of a row that may start goroutines. -/
theorem card_goes (Lk : Looks) {p : Pinned} {s : OpenSpec} {c : OpenClaim} (kinds : List LaidKind) (tests : Bool) (har : Bool × String) (lk g : Bool)
    (hc : c.holds p s) (hw : c.wfByText s = true) (htie : c.laidByTextAt Lk p kinds tests)
    (hst : c.start = .entering) (hnb : c.noBlocks = false ∧ c.again = false) (hm : p.checked.prog.mainIs = some (har.1, har.2.toList)) (hn : (!har.1 && har.2.isEmpty && !lk) = false)
    (hl : ∀ f fn, p.checked.prog.funcNamed c.func = some f → p.checked.prog.funcs[f]? = some fn → lk = p.checked.prog.looks [] ∧ ∀ (j : Nat) t, fn.params[j]? = some t → p.checked.prog.wantsStandIn t = false)
    (hg : g = c.goesBy p.checked.prog) :
    Claim7.holds p (.plain s) { stood := { row := c, standIns := [], harness := har, looks := lk }, kinds := [], alts := [], goes := g, laidByText := true, laidKinds := kinds, laidTests := tests, laidLooks := Lk } := by
  have h6 : Claim7.isSixth { stood := { row := c, standIns := [], harness := har, looks := lk }, kinds := [] } = false := by simpa [Claim7.isSixth] using hn
  exact ⟨Claim7.tied_new_at Lk kinds tests (Claim7.new_of_sixth hc har lk hst hnb hm h6 hl) hw, (fun D hD => by cases hD), htie, (fun h => by cases h), hg⟩
end Go.Proofs.YtigacfgoldnoiaaDoor
