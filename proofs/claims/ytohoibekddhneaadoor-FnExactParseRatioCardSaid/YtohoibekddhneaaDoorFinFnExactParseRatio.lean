/- The plain statement of the law FnExactParseRatio, over numbers and lists alone: the call answers true. -/
import Derived.Test.YtohoibekddhneaaDoorLibFnExactParseRatio
set_option linter.unusedVariables false
set_option linter.unusedSimpArgs false
namespace Go.Proofs.YtohoibekddhneaaDoor.FinFnExactParseRatio
open Go.RowKit Go.Proofs.YtohoibekddhneaaDoor.PFnExactParseRatio Go.Proofs.YtohoibekddhneaaDoor.Pl Go.Proofs.YtohoibekddhneaaDoor.LFnExactParseRatio Go.Proofs.YtohoibekddhneaaDoorW.PrintWords Go.Proofs.YtohoibekddhneaaDoorW.PrintLast

theorem fin {P : Prop} (s : ByteArray) (_ : P) : ∃ k, laws_FnExactParseRatio.f k s = some true := by
  refine Ev.rounds ?_
  unfold laws_FnExactParseRatio.f
  refine ev_ite (fun _ => Ev.now _) (fun h => ?_)
  obtain ⟨l, rfl⟩ : ∃ l, s = bs l := ⟨s.data.toList, by unfold bs; apply ByteArray.ext; simp⟩
  have hl : l.length ≤ 1048576 := by rw [bs_size] at h; omega
  have both : ∃ r, Ev (fun k => spec_ParseRatio.f k (bs l)) r ∧ Ev (fun k => impl_ParseRatio.f k (bs l)) r := by
    by_cases hv : ∃ n d, isRat n d = true ∧ bs (fmtRL n d) = bs l
    · obtain ⟨n, d, h1, h2⟩ := hv
      rw [← h2]
      exact ⟨_, spec_ParseRatio_num h1, impl_ParseRatio_num h1⟩
    · obtain ⟨r1, e1, p1⟩ := spec_ParseRatio_any l hl
      obtain ⟨r2, e2, p2⟩ := impl_ParseRatio_any l hl
      obtain rfl := p1.resolve_right (fun ⟨n, d, _, a, b⟩ => hv ⟨n, d, a, b⟩)
      obtain rfl := p2.resolve_right (fun ⟨n, d, _, a, b⟩ => hv ⟨n, d, a, b⟩)
      exact ⟨_, e1, e2⟩
  obtain ⟨r, e1, e2⟩ := both
  refine Ev.bind e1 (Ev.bind e2 (ev_bindS (a := true) (by unfold laws_eqRatio.f; rw [if_pos rfl, if_pos rfl]) (ev_pos rfl (ev_neg (by simp) (Ev.now _)))))

end Go.Proofs.YtohoibekddhneaaDoor.FinFnExactParseRatio
