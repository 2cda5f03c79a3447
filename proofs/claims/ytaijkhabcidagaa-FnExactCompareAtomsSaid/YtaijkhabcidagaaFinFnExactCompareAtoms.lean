/- The plain statement of the law FnExactCompareAtoms, over numbers and lists alone: the call answers true. -/
import Derived.Test.YtaijkhabcidagaaLibFnExactCompareAtoms
set_option linter.unusedVariables false
set_option linter.unusedSimpArgs false
namespace Go.Proofs.Ytaijkhabcidagaa.FinFnExactCompareAtoms
open Go.RowKit Go.Proofs.Ytaijkhabcidagaa.PFnExactCompareAtoms Go.Proofs.Ytaijkhabcidagaa.Pl Go.Proofs.Ytaijkhabcidagaa.LFnExactCompareAtoms Go.Proofs.YtaijkhabcidagaaW.PrintWords Go.Proofs.YtaijkhabcidagaaW.PrintLast

theorem fin {P Q : Prop} (l : List Int) (c : Int) (s : Bool) (m : List Int) (d : Int) (t : Bool) (hw : (l.length ≤ maxLen ∧ ∀ x ∈ l, (Lit.int .i64 x).wf = true) ∧ P) (hv : (m.length ≤ maxLen ∧ ∀ x ∈ m, (Lit.int .i64 x).wf = true) ∧ Q) : ∃ k, laws_FnExactCompareAtoms.f k l c s m d t = some true := by
  refine Ev.rounds ?_
  unfold laws_FnExactCompareAtoms.f
  rw [laws_szAtom_eq l c s _ hw.1.1 (by omega)]
  simp only [Option.bind_some]
  refine ev_ite (fun _ => Ev.now _) (fun h => ?_)
  have h1 := lft_nn h
  have hl : l.length ≤ 1048576 := by omega
  rw [laws_szAtom_eq m d t _ hv.1.1 (by omega)]
  simp only [Option.bind_some]
  refine ev_ite (fun _ => Ev.now _) (fun h' => ?_)
  have h2 := lft_nn h'
  have hm : m.length ≤ 1048576 := by omega
  refine Ev.bind (laws_toAtom_ev l c s hl) (Ev.bind (laws_toAtom_ev m d t hm) (Ev.bind (spec_CompareAtoms_ev l c s m d t hl hm) (Ev.bind (laws_toAtom_ev l c s hl) (Ev.bind (laws_toAtom_ev m d t hm) (Ev.bind (impl_CompareAtoms_ev l c s m d t hl hm) ?_)))))
  exact ev_pos rfl (Ev.bind (laws_toAtom_ev l c s hl) (Ev.bind (laws_eqAtom_ev l c s hl) (ev_pos rfl (Ev.bind (laws_toAtom_ev m d t hm) (Ev.bind (laws_eqAtom_ev m d t hm) (ev_pos rfl (Ev.now _)))))))

end Go.Proofs.Ytaijkhabcidagaa.FinFnExactCompareAtoms
