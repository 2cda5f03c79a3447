/- What the printed functions of the law FnExactMakeRatio compute, in plain words; each holds under the bounds that it names. -/
import Derived.Test.YtcmghepjdfbdfaaPFnExactMakeRatiox
import Derived.Test.YtcmghepjdfbdfaaPlain
import Derived.Test.YtcmghepjdfbdfaaPlainA
set_option linter.unusedVariables false
set_option linter.unusedSimpArgs false
namespace Go.Proofs.Ytcmghepjdfbdfaa.LFnExactMakeRatio
open Go.RowKit Go.Proofs.Ytcmghepjdfbdfaa.PFnExactMakeRatio Go.Proofs.Ytcmghepjdfbdfaa.Pl Go.Proofs.YtcmghepjdfbdfaaW.PrintWords Go.Proofs.YtcmghepjdfbdfaaW.PrintLast

theorem spec_l1In_eq (a b c : Int) : spec_l1In.f a b c = some (decide (b ≤ a) && decide (a ≤ c)) := by
  unfold spec_l1In.f
  by_cases h : b ≤ a
  · rw [if_pos h]; simp [h]
  · rw [if_neg h]; simp [h]
theorem spec_IsNumber_eq (n : Int) : spec_IsNumber.f n = some (isNum n) := by
  unfold spec_IsNumber.f
  rw [spec_l1In_eq]; rfl
theorem impl_IsNumber_eq (n : Int) : impl_IsNumber.f n = some (isNum n) := by
  unfold impl_IsNumber.f isNum
  by_cases h : n ≥ -400000000
  · rw [if_pos h]
    have h' : -400000000 ≤ n := h
    simp [h']
  · rw [if_neg h]
    have h' : ¬ -400000000 ≤ n := h
    simp [h']
theorem spec_l1Abs_eq (a : Int) (h : -9223372036854775807 ≤ a) (h' : a ≤ 9223372036854775807) : spec_l1Abs.f a = some (a.natAbs : Int) := by
  unfold spec_l1Abs.f mx
  rw [w64 (by omega) (by omega)]
  congr 1
  split <;> omega
theorem impl_absolute_eq (a : Int) (h : -9223372036854775807 ≤ a) (h' : a ≤ 9223372036854775807) : impl_absolute.f a = some (a.natAbs : Int) := by
  unfold impl_absolute.f
  by_cases c : a < 0
  · rw [if_pos c, w64 (by omega) (by omega)]; congr 1; omega
  · rw [if_neg c]; congr 1; omega
theorem impl_commonDivisor_l0_ev (a b : Int) : Ev (fun k => impl_commonDivisor.l0 k a b) (eu a b) := by
  fun_induction eu a b with
  | case1 a => exact Ev.step (f := fun _ => some a) (fun k => by simp [impl_commonDivisor.l0]) (Ev.now a)
  | case2 a b h ih => exact Ev.step (fun k => by simp only [impl_commonDivisor.l0]; rw [if_neg h]) ih
theorem impl_commonDivisor_ev (a b : Int) (h : -9223372036854775807 ≤ a ∧ a ≤ 9223372036854775807) (h' : -9223372036854775807 ≤ b ∧ b ≤ 9223372036854775807) : Ev (fun k => impl_commonDivisor.f k a b) (Int.gcd a b : Int) := by
  unfold impl_commonDivisor.f
  rw [impl_absolute_eq a h.1 h.2, impl_absolute_eq b h'.1 h'.2]
  simp only [Option.bind_some]
  rw [← eu_abs]
  exact impl_commonDivisor_l0_ev _ _
theorem spec_GcdOf_l0_ev (a b : Int) (h : -9223372036854775807 ≤ a ∧ a ≤ 9223372036854775807) (h' : -9223372036854775807 ≤ b ∧ b ≤ 9223372036854775807) : Ev (fun k => spec_GcdOf.l0 k a b) (Int.gcd a b : Int) := by
  rw [← eu_gcd]
  fun_induction eu a b with
  | case1 a => exact Ev.step (f := fun _ => some (a.natAbs : Int)) (fun k => by simp [spec_GcdOf.l0, spec_l1Abs_eq a h.1 h.2]) (Ev.now _)
  | case2 a b hb ih =>
    have := tmod_lt (a := a) hb
    exact Ev.step (fun k => by simp only [spec_GcdOf.l0]; rw [if_neg hb]) (ih h' (by omega))
theorem spec_GcdOf_ev (a b : Int) : Ev (fun k => spec_GcdOf.f k a b) (gcdOf a b) := by
  unfold spec_GcdOf.f gcdOf
  rw [spec_IsNumber_eq, spec_IsNumber_eq]
  simp only [Option.bind_some]
  cases ha : isNum a with
  | false => exact Ev.step (f := fun _ => some 0) (fun k => by simp [spec_GcdOf.j0]) (Ev.now _)
  | true =>
    cases hb : isNum b with
    | false => exact Ev.step (f := fun _ => some 0) (fun k => by simp [spec_GcdOf.j0]) (Ev.now _)
    | true =>
      rw [isNum_iff] at ha hb
      exact Ev.step (f := fun k => spec_GcdOf.l0 k a b) (fun k => by simp [spec_GcdOf.j0]) (spec_GcdOf_l0_ev a b (by omega) (by omega))
theorem impl_GcdOf_ev (a b : Int) : Ev (fun k => impl_GcdOf.f k a b) (gcdOf a b) := by
  unfold impl_GcdOf.f gcdOf
  rw [impl_IsNumber_eq, impl_IsNumber_eq]
  simp only [Option.bind_some]
  cases ha : isNum a with
  | false => simp; exact Ev.now _
  | true =>
    cases hb : isNum b with
    | false => simp; exact Ev.now _
    | true =>
      rw [isNum_iff] at ha hb
      simp only [if_true, Bool.and_self]
      exact Ev.bind (impl_commonDivisor_ev a b (by omega) (by omega)) (Ev.now _)
theorem spec_IsRatio_ev (n d : Int) : Ev (fun k => spec_IsRatio.f k n d) (isRat n d) := by
  unfold spec_IsRatio.f isRat
  rw [spec_l1In_eq, spec_IsNumber_eq]
  simp only [Option.bind_some]
  cases h1 : decide (1 ≤ d) && decide (d ≤ 400000000) with
  | false => simp; exact Ev.now _
  | true =>
    cases h2 : isNum n with
    | false => simp; exact Ev.now _
    | true =>
      simp only [if_true, Bool.true_and]
      refine Ev.bind (spec_GcdOf_ev n d) (ev_some ?_)
      have h3 : isNum d = true := by simp at h1; rw [isNum_iff]; omega
      simp only [gcdOf, h2, h3, Bool.and_self, if_true]
      rw [Bool.eq_iff_iff]; simp; omega
theorem impl_IsRatio_ev (n d : Int) : Ev (fun k => impl_IsRatio.f k n d) (isRat n d) := by
  unfold impl_IsRatio.f isRat
  rw [impl_IsNumber_eq]
  simp only [Option.bind_some]
  refine ev_ite (fun h1 => ev_ite (fun h2 => ?_) (fun h2 => ev_some ?_)) (fun h1 => ev_some ?_)
  · have h1' : 1 ≤ d := h1
    cases h3 : isNum n with
    | false => simp; exact Ev.now _
    | true =>
      simp only [if_true, h1', h2, decide_true, Bool.and_self, Bool.true_and]
      refine Ev.bind (impl_GcdOf_ev n d) (ev_some ?_)
      have h4 : isNum d = true := by rw [isNum_iff]; omega
      simp only [gcdOf, h3, h4, Bool.and_self, if_true]
      rw [Bool.eq_iff_iff]; simp; omega
  · simp [h2]
  · have h1' : ¬ 1 ≤ d := h1
    simp [h1']
theorem spec_l2Make_l0_ev (n d a b : Int) (hn : -9223372036854775807 ≤ n ∧ n ≤ 9223372036854775807) (hd : -9223372036854775807 ≤ d ∧ d ≤ 9223372036854775807)
    (h : -9223372036854775807 ≤ a ∧ a ≤ 9223372036854775807) (h' : -9223372036854775807 ≤ b ∧ b ≤ 9223372036854775807) (hg : (Int.gcd a b : Int) = Int.gcd n d) (hz : ¬ d = 0) : Ev (fun k => spec_l2Make.l0 k n d a b) (redOf n d) := by
  have hp := gcd_pos n d hz
  have he := eu_gcd a b
  revert he
  fun_induction eu a b with
  | case1 a =>
    intro he
    refine Ev.step (fun k => by simp only [spec_l2Make.l0, if_true]; rw [spec_l1Abs_eq a h.1 h.2, Option.bind_some]) ?_
    have e : (a.natAbs : Int) = Int.gcd n d := by rw [← hg, ← he]
    rw [e]
    refine ev_ite (fun h0 => by omega) (fun _ => ?_)
    rw [w64_tdiv hn.1 hn.2, w64_tdiv hd.1 hd.2]
    unfold redOf
    refine Ev.bind (spec_IsRatio_ev _ _) ?_
    exact ev_ite (fun h => by rw [if_pos h]; exact Ev.now _) (fun h => by rw [if_neg h]; exact Ev.now _)
  | case2 a b hb ih =>
    intro he
    have := tmod_lt (a := a) hb
    refine Ev.step (fun k => by simp only [spec_l2Make.l0]; rw [if_neg hb]) (ih h' (by omega) ?_ ?_)
    · rw [← hg]
      have e1 := eu_gcd b (a.tmod b)
      have e2 := eu_gcd a b
      have e3 : eu a b = eu b (a.tmod b) := by rw [eu]; simp [hb]
      rw [e3] at e2
      omega
    · exact eu_gcd _ _
theorem spec_l2Make_ev (n d : Int) (hn : -9223372036854775807 ≤ n ∧ n ≤ 9223372036854775807) (hd : -9223372036854775807 ≤ d ∧ d ≤ 9223372036854775807) : Ev (fun k => spec_l2Make.f k n d) (red n d) := by
  unfold spec_l2Make.f red
  refine ev_ite (fun h => by rw [if_pos h]; exact Ev.now _) (fun h => ?_)
  rw [if_neg h]
  refine ev_ite (fun h' => ?_) (fun h' => ?_)
  · rw [if_pos h', w64 (by omega) (by omega), w64 (by omega) (by omega)]
    exact Ev.step (fun k => by simp only [spec_l2Make.j0]) (spec_l2Make_l0_ev _ _ _ _ (by omega) (by omega) (by omega) (by omega) rfl (by omega))
  · rw [if_neg h']
    exact Ev.step (fun k => by simp only [spec_l2Make.j0]) (spec_l2Make_l0_ev _ _ _ _ (by omega) (by omega) (by omega) (by omega) rfl (by omega))
theorem impl_reducedRatio_j0_ev (n d : Int) (hn : -9223372036854775807 ≤ n ∧ n ≤ 9223372036854775807) (hd : -9223372036854775807 ≤ d ∧ d ≤ 9223372036854775807) (hz : ¬ d = 0) : Ev (fun k => impl_reducedRatio.j0 k n d) (redOf n d) := by
  have hp := gcd_pos n d hz
  refine Ev.step (fun k => by rw [impl_reducedRatio.j0]) ?_
  refine Ev.bind (impl_commonDivisor_ev n d hn hd) ?_
  refine ev_ite (fun h0 => by omega) (fun _ => ?_)
  rw [w64_tdiv hn.1 hn.2, w64_tdiv hd.1 hd.2]
  unfold redOf
  refine Ev.bind (impl_IsRatio_ev _ _) ?_
  exact ev_ite (fun h => by rw [if_pos h]; exact Ev.now _) (fun h => by rw [if_neg h]; exact Ev.now _)
theorem impl_reducedRatio_ev (n d : Int) (hn : -9223372036854775807 ≤ n ∧ n ≤ 9223372036854775807) (hd : -9223372036854775807 ≤ d ∧ d ≤ 9223372036854775807) : Ev (fun k => impl_reducedRatio.f k n d) (red n d) := by
  unfold impl_reducedRatio.f red
  refine ev_ite (fun h => by rw [if_pos h]; exact Ev.now _) (fun h => ?_)
  rw [if_neg h]
  refine ev_ite (fun h' => ?_) (fun h' => ?_)
  · rw [if_pos h', w64 (by omega) (by omega), w64 (by omega) (by omega)]
    exact impl_reducedRatio_j0_ev _ _ (by omega) (by omega) (by omega)
  · rw [if_neg h']
    exact impl_reducedRatio_j0_ev _ _ (by omega) (by omega) (by omega)
theorem spec_MakeRatio_ev (n d : Int) : Ev (fun k => spec_MakeRatio.f k n d) (makR n d) := by
  unfold spec_MakeRatio.f makR
  rw [spec_IsNumber_eq, spec_IsNumber_eq]
  simp only [Option.bind_some]
  cases ha : isNum n with
  | false => simp; exact Ev.now _
  | true =>
    cases hb : isNum d with
    | false => simp; exact Ev.now _
    | true =>
      rw [isNum_iff] at ha hb
      simp only [if_true, Bool.and_self]
      exact Ev.bind (spec_l2Make_ev n d (by omega) (by omega)) (Ev.now _)
theorem impl_MakeRatio_ev (n d : Int) : Ev (fun k => impl_MakeRatio.f k n d) (makR n d) := by
  unfold impl_MakeRatio.f makR
  rw [impl_IsNumber_eq, impl_IsNumber_eq]
  simp only [Option.bind_some]
  cases ha : isNum n with
  | false => simp; exact Ev.now _
  | true =>
    cases hb : isNum d with
    | false => simp; exact Ev.now _
    | true =>
      rw [isNum_iff] at ha hb
      simp only [if_true, Bool.and_self]
      exact Ev.bind (impl_reducedRatio_ev n d (by omega) (by omega)) (Ev.now _)
theorem laws_eqRatio_eq (a b : Int × Int) : laws_eqRatio.f a.1 a.2 b.1 b.2 = some (decide (a = b)) := by
  obtain ⟨a0, a1⟩ := a
  obtain ⟨b0, b1⟩ := b
  unfold laws_eqRatio.f
  simp only [Prod.mk.injEq]
  by_cases h1 : a0 = b0
  · by_cases h2 : a1 = b1
    · simp [h1, h2]
    · simp [h2]
  · simp [h1]

end Go.Proofs.Ytcmghepjdfbdfaa.LFnExactMakeRatio
