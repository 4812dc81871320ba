/- Proved here: the printed Lean function of the law FnExactFirstDesk answers true with enough rounds. Conditions: none. -/
import Derived.Test.YtaemlbmkhgnleaaPFnExactFirstDeskx2
namespace Go.Proofs.Ytaemlbmkhgnleaa.Pure
open Go.RowKit Go.Proofs.Ytaemlbmkhgnleaa.PFnExactFirstDesk Go.Proofs.YtaemlbmkhgnleaaW.PrintWords Go.Proofs.YtaemlbmkhgnleaaW.PrintLast

/-- YOURS: ∃ k, laws_FnExactFirstDesk.f k  = some true
What it reaches (each with k first where it has rounds; `.mono`: more rounds tell the same; `.l0`, ..: its loops, with `.mono_l`): spec_prLeast.f, spec_prIs.f, spec_prFirst.f, spec_prRules.f, spec_FirstDesk.f, impl_firstDesk.f, impl_FirstDesk.f, laws_eqRule.f, laws_eqRuleS.f, laws_eqDesk.f, laws_markRuleS.f, laws_markDesk.f, laws_heldRuleS.f, laws_heldDesk.f, laws_FnExactFirstDesk.f -/
theorem FnExactFirstDesk : laws_FnExactFirstDesk.Pure := by
  exact ⟨200, by decide +kernel⟩

end Go.Proofs.Ytaemlbmkhgnleaa.Pure
