/- The plain statement of the law FnExactIsRefuted, over numbers and lists alone: the call answers true. -/
import Derived.Test.YtaijkhabcidagaaLibFnExactIsRefuted
set_option linter.unusedVariables false
set_option linter.unusedSimpArgs false
namespace Go.Proofs.Ytaijkhabcidagaa.FinFnExactIsRefuted
open Go.RowKit Go.Proofs.Ytaijkhabcidagaa.PFnExactIsRefuted Go.Proofs.Ytaijkhabcidagaa.Pl Go.Proofs.Ytaijkhabcidagaa.LFnExactIsRefuted Go.Proofs.YtaijkhabcidagaaW.PrintWords Go.Proofs.YtaijkhabcidagaaW.PrintLast

theorem fin {P Q : Prop} {W : S24 → Prop} (d : Int) (l : List S24) (m : List Int) (hw : P ∧ (l.length ≤ maxLen ∧ ∀ y ∈ l, ((y.f0.length ≤ maxLen ∧ ∀ z ∈ y.f0, (Lit.int .i64 z).wf = true) ∧ W y))) (_ : m.length ≤ maxLen) (_ : Q) : ∃ k, laws_FnExactIsRefuted.f k d l m = some true := by
  refine Ev.rounds ?_
  unfold laws_FnExactIsRefuted.f
  refine ev_ite (fun _ => Ev.now _) (fun h0 => ?_)
  have hm : m.length ≤ 1048576 := by omega
  refine Ev.bind (laws_szCell_ev d l 1048576 hw.2.1 (fun x hx => (hw.2.2 x hx).1.1) (by omega) (by omega)) (ev_ite (fun _ => Ev.now _) (fun h => ?_))
  have hl : wAs l ≤ 1048576 := by have := (lft_nn h).1; omega
  have hs := cvA_small hl
  refine Ev.bind (laws_toCell_ev d l hl) (Ev.bind (laws_toIntS_ev m hm) (Ev.bind (spec_IsRefuted_ev d _ m hs hm) (Ev.bind (laws_toCell_ev d l hl) (Ev.bind (laws_toIntS_ev m hm) (Ev.bind (impl_IsRefuted_ev d _ m hs hm) ?_)))))
  exact ev_neg (by simp) (Ev.bind (laws_toCell_ev d l hl) (Ev.bind (laws_eqCell_ev d _ hs) (ev_pos rfl (Ev.bind (laws_toIntS_ev m hm) (Ev.bind (laws_eqIntS_ev m hm) (ev_pos rfl (Ev.now _)))))))

end Go.Proofs.Ytaijkhabcidagaa.FinFnExactIsRefuted
