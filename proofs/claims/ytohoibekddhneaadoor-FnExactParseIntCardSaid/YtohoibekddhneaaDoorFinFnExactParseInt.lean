/- The plain statement of the law FnExactParseInt, over numbers and lists alone: the call answers true. -/
import Derived.Test.YtohoibekddhneaaDoorLibFnExactParseInt
set_option linter.unusedVariables false
set_option linter.unusedSimpArgs false
namespace Go.Proofs.YtohoibekddhneaaDoor.FinFnExactParseInt
open Go.RowKit Go.Proofs.YtohoibekddhneaaDoor.PFnExactParseInt Go.Proofs.YtohoibekddhneaaDoor.Pl Go.Proofs.YtohoibekddhneaaDoor.LFnExactParseInt Go.Proofs.YtohoibekddhneaaDoorW.PrintWords Go.Proofs.YtohoibekddhneaaDoorW.PrintLast

theorem fin {P : Prop} (s : ByteArray) (_ : P) : ∃ k, laws_FnExactParseInt.f k s = some true := by
  refine Ev.rounds ?_
  unfold laws_FnExactParseInt.f
  refine ev_ite (fun _ => Ev.now _) (fun h => ?_)
  have hs : s.size ≤ 1048576 := by omega
  rcases spec_ParseInt_or s hs with ⟨n, hn, rfl, h1⟩ | ⟨hno, h1⟩
  · exact Ev.bind h1 (ev_bindS (impl_ParseInt_num n hn) (ev_pos rfl (ev_neg (by simp) (Ev.now _))))
  · exact Ev.bind h1 (ev_bindS (impl_ParseInt_none s hs hno) (ev_pos rfl (ev_neg (by simp) (Ev.now _))))

end Go.Proofs.YtohoibekddhneaaDoor.FinFnExactParseInt
