/- The plain statement of the law FnExactFormatRegion, over numbers and lists alone: the call answers true. -/
import Derived.Test.YtohoibekddhneaaDoorLibFnExactFormatRegion
set_option linter.unusedVariables false
set_option linter.unusedSimpArgs false
namespace Go.Proofs.YtohoibekddhneaaDoor.FinFnExactFormatRegion
open Go.RowKit Go.Proofs.YtohoibekddhneaaDoor.PFnExactFormatRegion Go.Proofs.YtohoibekddhneaaDoor.Pl Go.Proofs.YtohoibekddhneaaDoor.LFnExactFormatRegion Go.Proofs.YtohoibekddhneaaDoorW.PrintWords Go.Proofs.YtohoibekddhneaaDoorW.PrintLast

theorem fin {P : Prop} {W : S24 → Prop} {V : S36 → Prop} (d : Int) (l : List S36) (hw : P ∧ (l.length ≤ maxLen ∧ ∀ x ∈ l, (V x ∧ (x.f1.length ≤ maxLen ∧ ∀ y ∈ x.f1, ((y.f0.length ≤ maxLen ∧ ∀ z ∈ y.f0, (Lit.int .i64 z).wf = true) ∧ W y))))) : ∃ k, laws_FnExactFormatRegion.f k d l = some true := by
  refine Ev.rounds ?_
  unfold laws_FnExactFormatRegion.f
  refine Ev.bind (laws_szRegion_ev d l 1048576 hw.2.1 (fun x hx => ⟨(hw.2.2 x hx).2.1, fun y hy => ((hw.2.2 x hx).2.2 y hy).1.1⟩) (by omega) (by omega)) (ev_ite (fun _ => Ev.now _) (fun h => ?_))
  have hl : wCs l ≤ 1048576 := by have := (lft_nn h).1; omega
  have hs := cvC_small hl
  refine Ev.bind (laws_toRegion_ev d l hl) (Ev.bind (spec_FormatRegion_ev d _ hs) (Ev.bind (laws_toRegion_ev d l hl) (Ev.bind (impl_FormatRegion_ev d _ hs) ?_)))
  exact ev_pos rfl (Ev.bind (laws_toRegion_ev d l hl) (Ev.bind (laws_eqRegion_ev d _ hs) (ev_pos rfl (Ev.now _))))

end Go.Proofs.YtohoibekddhneaaDoor.FinFnExactFormatRegion
