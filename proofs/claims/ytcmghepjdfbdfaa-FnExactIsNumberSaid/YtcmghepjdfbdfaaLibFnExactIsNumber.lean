/- What the printed functions of the law FnExactIsNumber compute, in plain words; each holds under the bounds that it names. -/
import Derived.Test.YtcmghepjdfbdfaaPFnExactIsNumberx
import Derived.Test.YtcmghepjdfbdfaaPlain
import Derived.Test.YtcmghepjdfbdfaaPlainA
set_option linter.unusedVariables false
set_option linter.unusedSimpArgs false
namespace Go.Proofs.Ytcmghepjdfbdfaa.LFnExactIsNumber
open Go.RowKit Go.Proofs.Ytcmghepjdfbdfaa.PFnExactIsNumber Go.Proofs.Ytcmghepjdfbdfaa.Pl Go.Proofs.YtcmghepjdfbdfaaW.PrintWords Go.Proofs.YtcmghepjdfbdfaaW.PrintLast

theorem spec_l1In_eq (a b c : Int) : spec_l1In.f a b c = some (decide (b ≤ a) && decide (a ≤ c)) := by
  unfold spec_l1In.f
  by_cases h : b ≤ a
  · rw [if_pos h]; simp [h]
  · rw [if_neg h]; simp [h]
theorem spec_IsNumber_eq (n : Int) : spec_IsNumber.f n = some (isNum n) := by
  unfold spec_IsNumber.f
  rw [spec_l1In_eq]; rfl
theorem impl_IsNumber_eq (n : Int) : impl_IsNumber.f n = some (isNum n) := by
  unfold impl_IsNumber.f isNum
  by_cases h : n ≥ -400000000
  · rw [if_pos h]
    have h' : -400000000 ≤ n := h
    simp [h']
  · rw [if_neg h]
    have h' : ¬ -400000000 ≤ n := h
    simp [h']

end Go.Proofs.Ytcmghepjdfbdfaa.LFnExactIsNumber
