/- The plain statement of the law FnExactFormatAtom, over numbers and lists alone: the call answers true. -/
import Derived.Test.YtohoibekddhneaaDoorLibFnExactFormatAtom
set_option linter.unusedVariables false
set_option linter.unusedSimpArgs false
namespace Go.Proofs.YtohoibekddhneaaDoor.FinFnExactFormatAtom
open Go.RowKit Go.Proofs.YtohoibekddhneaaDoor.PFnExactFormatAtom Go.Proofs.YtohoibekddhneaaDoor.Pl Go.Proofs.YtohoibekddhneaaDoor.LFnExactFormatAtom Go.Proofs.YtohoibekddhneaaDoorW.PrintWords Go.Proofs.YtohoibekddhneaaDoorW.PrintLast

theorem fin {P : Prop} (l : List Int) (c : Int) (s : Bool) (hw : (l.length ≤ maxLen ∧ ∀ x ∈ l, (Lit.int .i64 x).wf = true) ∧ P) : ∃ k, laws_FnExactFormatAtom.f k l c s = some true := by
  refine Ev.rounds ?_
  unfold laws_FnExactFormatAtom.f
  rw [laws_szAtom_eq l c s _ hw.1.1 (by omega)]
  simp only [Option.bind_some]
  refine ev_ite (fun _ => Ev.now _) (fun h => ?_)
  have hl : l.length ≤ 1048576 := by have := (lft_nn h).1; omega
  refine Ev.bind (laws_toAtom_ev l c s hl) (Ev.bind (spec_FormatAtom_ev l c s hl) (Ev.bind (laws_toAtom_ev l c s hl) (Ev.bind (impl_FormatAtom_ev l c s hl) ?_)))
  exact ev_pos rfl (Ev.bind (laws_toAtom_ev l c s hl) (Ev.bind (laws_eqAtom_ev l c s hl) (ev_pos rfl (Ev.now _))))

end Go.Proofs.YtohoibekddhneaaDoor.FinFnExactFormatAtom
