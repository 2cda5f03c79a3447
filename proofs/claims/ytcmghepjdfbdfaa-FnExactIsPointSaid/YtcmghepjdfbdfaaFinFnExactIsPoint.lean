/- The plain statement of the law FnExactIsPoint, over numbers and lists alone: the call answers true. -/
import Derived.Test.YtcmghepjdfbdfaaLibFnExactIsPoint
set_option linter.unusedVariables false
set_option linter.unusedSimpArgs false
namespace Go.Proofs.Ytcmghepjdfbdfaa.FinFnExactIsPoint
open Go.RowKit Go.Proofs.Ytcmghepjdfbdfaa.PFnExactIsPoint Go.Proofs.Ytcmghepjdfbdfaa.Pl Go.Proofs.Ytcmghepjdfbdfaa.LFnExactIsPoint Go.Proofs.YtcmghepjdfbdfaaW.PrintWords Go.Proofs.YtcmghepjdfbdfaaW.PrintLast

theorem fin {P Q : Prop} (l : List S27) (d : Int) (hl : l.length ≤ maxLen) (_ : P) (_ : Q) : ∃ k, laws_FnExactIsPoint.f k l d = some true := by
  refine Ev.rounds ?_
  unfold laws_FnExactIsPoint.f
  rw [laws_szRatioS_eq l _ hl (by omega)]
  simp only [Option.bind_some]
  by_cases h : 1048576 - (l.length : Int) < 0
  · rw [if_pos h]
    exact ev_ite (fun _ => Ev.now _) (fun h' => by omega)
  · rw [if_neg h]
    refine ev_ite (fun h' => by omega) (fun _ => ?_)
    have h1 : l.length ≤ 1048576 := by omega
    have h2 : (l.map fun x => (⟨x.f0, x.f1⟩ : S29)).length ≤ 1048576 := by simpa using h1
    refine Ev.bind (laws_toRatioS_ev l h1) (Ev.bind (spec_IsPoint_ev _ d h2) (Ev.bind (laws_toRatioS_ev l h1) (Ev.bind (impl_IsPoint_ev _ d h2) ?_)))
    exact ev_neg (by simp) (Ev.bind (laws_toRatioS_ev l h1) (Ev.bind (laws_eqRatioS_ev _ h2) (ev_pos rfl (Ev.now _))))

end Go.Proofs.Ytcmghepjdfbdfaa.FinFnExactIsPoint
