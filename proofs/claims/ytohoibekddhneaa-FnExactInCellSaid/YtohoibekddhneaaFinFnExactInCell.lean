/- The plain statement of the law FnExactInCell, over numbers and lists alone: the call answers true. -/
import Derived.Test.YtohoibekddhneaaLibFnExactInCell
set_option linter.unusedVariables false
set_option linter.unusedSimpArgs false
namespace Go.Proofs.Ytohoibekddhneaa.FinFnExactInCell
open Go.RowKit Go.Proofs.Ytohoibekddhneaa.PFnExactInCell Go.Proofs.Ytohoibekddhneaa.Pl Go.Proofs.Ytohoibekddhneaa.LFnExactInCell Go.Proofs.YtohoibekddhneaaW.PrintWords Go.Proofs.YtohoibekddhneaaW.PrintLast

theorem fin {P Q : Prop} {W : S115 → Prop} (d : Int) (l : List S115) (p : List S100) (hw : P ∧ (l.length ≤ maxLen ∧ ∀ y ∈ l, ((y.f0.length ≤ maxLen ∧ ∀ z ∈ y.f0, (Lit.int .i64 z).wf = true) ∧ W y))) (hp : p.length ≤ maxLen) (_ : Q) : ∃ k, laws_FnExactInCell.f k d l p = some true := by
  refine Ev.rounds ?_
  unfold laws_FnExactInCell.f
  refine Ev.bind (laws_szCell_ev d l 1048576 hw.2.1 (fun x hx => (hw.2.2 x hx).1.1) (by omega) (by omega)) (ev_ite (fun _ => Ev.now _) (fun h => ?_))
  have h1 := lft_nn h
  have hl : wAs l ≤ 1048576 := by omega
  have hs := cvA_small hl
  rw [laws_szRatioS_eq p _ hp (by omega)]
  simp only [Option.bind_some]
  refine ev_ite (fun _ => Ev.now _) (fun h' => ?_)
  have h2 := lft_nn h'
  have hp1 : p.length ≤ 1048576 := by omega
  have hp2 : (p.map fun x => (⟨x.f0, x.f1⟩ : S37)).length ≤ 1048576 := by simpa using hp1
  refine Ev.bind (laws_toCell_ev d l hl) (Ev.bind (laws_toRatioS_ev p hp1) (Ev.bind (spec_InCell_ev d _ _ hs hp2) (Ev.bind (laws_toCell_ev d l hl) (Ev.bind (laws_toRatioS_ev p hp1) (Ev.bind (impl_InCell_ev d _ _ hs hp2) ?_)))))
  refine ev_neg (by simp) ?_
  refine Ev.step (fun k => by rw [laws_FnExactInCell.j0]) ?_
  exact ev_neg (by simp) (Ev.bind (laws_toCell_ev d l hl) (Ev.bind (laws_eqCell_ev d _ hs) (ev_pos rfl (Ev.bind (laws_toRatioS_ev p hp1) (Ev.bind (laws_eqRatioS_ev _ hp2) (ev_pos rfl (Ev.now _)))))))

end Go.Proofs.Ytohoibekddhneaa.FinFnExactInCell
