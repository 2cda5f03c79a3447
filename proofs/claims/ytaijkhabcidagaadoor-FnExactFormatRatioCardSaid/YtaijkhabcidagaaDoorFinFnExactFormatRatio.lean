/- The plain statement of the law FnExactFormatRatio, over numbers and lists alone: the call answers true. -/
import Derived.Test.YtaijkhabcidagaaDoorLibFnExactFormatRatio
set_option linter.unusedVariables false
set_option linter.unusedSimpArgs false
namespace Go.Proofs.YtaijkhabcidagaaDoor.FinFnExactFormatRatio
open Go.RowKit Go.Proofs.YtaijkhabcidagaaDoor.PFnExactFormatRatio Go.Proofs.YtaijkhabcidagaaDoor.Pl Go.Proofs.YtaijkhabcidagaaDoor.LFnExactFormatRatio Go.Proofs.YtaijkhabcidagaaDoorW.PrintWords Go.Proofs.YtaijkhabcidagaaDoorW.PrintLast

theorem fin {P : Prop} (n d : Int) (_ : P) : ∃ k, laws_FnExactFormatRatio.f k n d = some true := by
  refine Ev.rounds ?_
  unfold laws_FnExactFormatRatio.f
  simp only [laws_toRatio.f, Option.bind_some]
  exact Ev.bind (spec_FormatRatio_ev n d) (Ev.bind (impl_FormatRatio_ev n d) (ev_pos rfl (Ev.now _)))

end Go.Proofs.YtaijkhabcidagaaDoor.FinFnExactFormatRatio
