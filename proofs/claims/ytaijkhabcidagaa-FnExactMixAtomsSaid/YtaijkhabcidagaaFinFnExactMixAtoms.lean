/- The plain statement of the law FnExactMixAtoms, over numbers and lists alone: the call answers true. -/
import Derived.Test.YtaijkhabcidagaaLibFnExactMixAtoms
set_option linter.unusedVariables false
set_option linter.unusedSimpArgs false
namespace Go.Proofs.Ytaijkhabcidagaa.FinFnExactMixAtoms
open Go.RowKit Go.Proofs.Ytaijkhabcidagaa.PFnExactMixAtoms Go.Proofs.Ytaijkhabcidagaa.Pl Go.Proofs.Ytaijkhabcidagaa.LFnExactMixAtoms Go.Proofs.YtaijkhabcidagaaW.PrintWords Go.Proofs.YtaijkhabcidagaaW.PrintLast

theorem fin {P Q U V : Prop} (l : List Int) (c : Int) (s : Bool) (p : Int) (m : List Int) (d : Int) (t : Bool) (q : Int) (hw : (l.length ≤ maxLen ∧ ∀ x ∈ l, (Lit.int .i64 x).wf = true) ∧ P) (_ : U) (hv : (m.length ≤ maxLen ∧ ∀ x ∈ m, (Lit.int .i64 x).wf = true) ∧ Q) (_ : V) : ∃ k, laws_FnExactMixAtoms.f k l c s p m d t q = some true := by
  refine Ev.rounds ?_
  unfold laws_FnExactMixAtoms.f
  rw [laws_szAtom_eq l c s _ hw.1.1 (by omega)]
  simp only [Option.bind_some]
  refine ev_ite (fun _ => Ev.now _) (fun h => ?_)
  have h1 := lft_nn h
  have hl : l.length ≤ 1048576 := by omega
  rw [laws_szAtom_eq m d t _ hv.1.1 (by omega)]
  simp only [Option.bind_some]
  refine ev_ite (fun _ => Ev.now _) (fun h' => ?_)
  have h2 := lft_nn h'
  have hm : m.length ≤ 1048576 := by omega
  have h4 := mixAt_len l c s p m d t q
  refine Ev.bind (laws_toAtom_ev l c s hl) (Ev.bind (laws_toAtom_ev m d t hm) (Ev.bind (spec_MixAtoms_ev l c s p m d t q hl hm) (Ev.bind (laws_toAtom_ev l c s hl) (Ev.bind (laws_toAtom_ev m d t hm) (Ev.bind (impl_MixAtoms_ev l c s p m d t q hl hm) (Ev.bind (laws_eqAtom_ev _ _ _ (by omega)) (ev_pos rfl ?_)))))))
  refine Ev.step (fun k => by rw [laws_FnExactMixAtoms.j0]) ?_
  refine ev_neg (by simp) (Ev.bind (laws_toAtom_ev l c s hl) (Ev.bind (laws_eqAtom_ev l c s hl) (ev_pos rfl (Ev.bind (laws_toAtom_ev m d t hm) (Ev.bind (laws_eqAtom_ev m d t hm) (ev_pos rfl (Ev.bind (laws_markAtom_ev l _ _ 1 hl (by omega) (by omega)) (Ev.bind (laws_markAtom_ev m _ _ _ hm (by omega) (by omega)) (ev_neg (by omega) (Ev.bind (laws_eqAtom_ev _ _ _ (by omega)) (ev_pos rfl ?_)))))))))))
  refine Ev.step (fun k => by rw [laws_FnExactMixAtoms.j1]) ?_
  refine ev_neg (by simp) (Ev.bind (laws_markAtom_ev _ _ _ 1 (by omega) (by omega) (by omega)) (Ev.bind (laws_heldAtom_ev _ _ _ 1 (by omega) (by omega) (by omega)) (ev_neg (by omega) (ev_pos rfl (Ev.bind (laws_toAtom_ev l c s hl) (Ev.bind (laws_toAtom_ev m d t hm) (Ev.bind (impl_MixAtoms_ev l c s p m d t q hl hm) (Ev.bind (laws_eqAtom_ev _ _ _ (by omega)) (ev_pos rfl ?_)))))))))
  refine Ev.step (fun k => by rw [laws_FnExactMixAtoms.j2]) ?_
  exact ev_neg (by simp) (Ev.bind (laws_heldAtom_ev _ _ _ 1 (by omega) (by omega) (by omega)) (ev_neg (by omega) (ev_pos rfl (Ev.now _))))

end Go.Proofs.Ytaijkhabcidagaa.FinFnExactMixAtoms
