/- The plain statement of the law FnExactFormatInt, over numbers and lists alone: the call answers true. -/
import Derived.Test.YtaijkhabcidagaaDoorLibFnExactFormatInt
set_option linter.unusedVariables false
set_option linter.unusedSimpArgs false
namespace Go.Proofs.YtaijkhabcidagaaDoor.FinFnExactFormatInt
open Go.RowKit Go.Proofs.YtaijkhabcidagaaDoor.PFnExactFormatInt Go.Proofs.YtaijkhabcidagaaDoor.Pl Go.Proofs.YtaijkhabcidagaaDoor.LFnExactFormatInt Go.Proofs.YtaijkhabcidagaaDoorW.PrintWords Go.Proofs.YtaijkhabcidagaaDoorW.PrintLast

theorem fin (n : Int) (h : (Lit.int .i64 n).wf = true) : ∃ k, laws_FnExactFormatInt.f k n = some true := by
  have hb : -9223372036854775808 ≤ n ∧ n ≤ 9223372036854775807 := by
    simpa [Lit.wf, IntKind.min, IntKind.max, IntKind.bits, IntKind.signed] using h
  refine Ev.rounds ?_
  unfold laws_FnExactFormatInt.f
  rw [impl_FormatInt_eq n hb.1 hb.2]
  exact Ev.bind (spec_FormatInt_ev n hb.1 hb.2) (ev_pos rfl (Ev.now _))

end Go.Proofs.YtaijkhabcidagaaDoor.FinFnExactFormatInt
