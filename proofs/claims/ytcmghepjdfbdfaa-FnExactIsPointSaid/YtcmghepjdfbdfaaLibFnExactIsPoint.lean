/- What the printed functions of the law FnExactIsPoint compute, in plain words; each holds under the bounds that it names. -/
import Derived.Test.YtcmghepjdfbdfaaPFnExactIsPointx
import Derived.Test.YtcmghepjdfbdfaaPlain
import Derived.Test.YtcmghepjdfbdfaaPlainA
set_option linter.unusedVariables false
set_option linter.unusedSimpArgs false
namespace Go.Proofs.Ytcmghepjdfbdfaa.LFnExactIsPoint
open Go.RowKit Go.Proofs.Ytcmghepjdfbdfaa.PFnExactIsPoint Go.Proofs.Ytcmghepjdfbdfaa.Pl Go.Proofs.YtcmghepjdfbdfaaW.PrintWords Go.Proofs.YtcmghepjdfbdfaaW.PrintLast

theorem spec_l1In_eq (a b c : Int) : spec_l1In.f a b c = some (decide (b ≤ a) && decide (a ≤ c)) := by
  unfold spec_l1In.f
  by_cases h : b ≤ a
  · rw [if_pos h]; simp [h]
  · rw [if_neg h]; simp [h]
theorem spec_IsNumber_eq (n : Int) : spec_IsNumber.f n = some (isNum n) := by
  unfold spec_IsNumber.f
  rw [spec_l1In_eq]; rfl
theorem impl_IsNumber_eq (n : Int) : impl_IsNumber.f n = some (isNum n) := by
  unfold impl_IsNumber.f isNum
  by_cases h : n ≥ -400000000
  · rw [if_pos h]
    have h' : -400000000 ≤ n := h
    simp [h']
  · rw [if_neg h]
    have h' : ¬ -400000000 ≤ n := h
    simp [h']
theorem spec_l1Abs_eq (a : Int) (h : -9223372036854775807 ≤ a) (h' : a ≤ 9223372036854775807) : spec_l1Abs.f a = some (a.natAbs : Int) := by
  unfold spec_l1Abs.f mx
  rw [w64 (by omega) (by omega)]
  congr 1
  split <;> omega
theorem impl_absolute_eq (a : Int) (h : -9223372036854775807 ≤ a) (h' : a ≤ 9223372036854775807) : impl_absolute.f a = some (a.natAbs : Int) := by
  unfold impl_absolute.f
  by_cases c : a < 0
  · rw [if_pos c, w64 (by omega) (by omega)]; congr 1; omega
  · rw [if_neg c]; congr 1; omega
theorem impl_commonDivisor_l0_ev (a b : Int) : Ev (fun k => impl_commonDivisor.l0 k a b) (eu a b) := by
  fun_induction eu a b with
  | case1 a => exact Ev.step (f := fun _ => some a) (fun k => by simp [impl_commonDivisor.l0]) (Ev.now a)
  | case2 a b h ih => exact Ev.step (fun k => by simp only [impl_commonDivisor.l0]; rw [if_neg h]) ih
theorem impl_commonDivisor_ev (a b : Int) (h : -9223372036854775807 ≤ a ∧ a ≤ 9223372036854775807) (h' : -9223372036854775807 ≤ b ∧ b ≤ 9223372036854775807) : Ev (fun k => impl_commonDivisor.f k a b) (Int.gcd a b : Int) := by
  unfold impl_commonDivisor.f
  rw [impl_absolute_eq a h.1 h.2, impl_absolute_eq b h'.1 h'.2]
  simp only [Option.bind_some]
  rw [← eu_abs]
  exact impl_commonDivisor_l0_ev _ _
theorem spec_GcdOf_l0_ev (a b : Int) (h : -9223372036854775807 ≤ a ∧ a ≤ 9223372036854775807) (h' : -9223372036854775807 ≤ b ∧ b ≤ 9223372036854775807) : Ev (fun k => spec_GcdOf.l0 k a b) (Int.gcd a b : Int) := by
  rw [← eu_gcd]
  fun_induction eu a b with
  | case1 a => exact Ev.step (f := fun _ => some (a.natAbs : Int)) (fun k => by simp [spec_GcdOf.l0, spec_l1Abs_eq a h.1 h.2]) (Ev.now _)
  | case2 a b hb ih =>
    have := tmod_lt (a := a) hb
    exact Ev.step (fun k => by simp only [spec_GcdOf.l0]; rw [if_neg hb]) (ih h' (by omega))
theorem spec_GcdOf_ev (a b : Int) : Ev (fun k => spec_GcdOf.f k a b) (gcdOf a b) := by
  unfold spec_GcdOf.f gcdOf
  rw [spec_IsNumber_eq, spec_IsNumber_eq]
  simp only [Option.bind_some]
  cases ha : isNum a with
  | false => exact Ev.step (f := fun _ => some 0) (fun k => by simp [spec_GcdOf.j0]) (Ev.now _)
  | true =>
    cases hb : isNum b with
    | false => exact Ev.step (f := fun _ => some 0) (fun k => by simp [spec_GcdOf.j0]) (Ev.now _)
    | true =>
      rw [isNum_iff] at ha hb
      exact Ev.step (f := fun k => spec_GcdOf.l0 k a b) (fun k => by simp [spec_GcdOf.j0]) (spec_GcdOf_l0_ev a b (by omega) (by omega))
theorem impl_GcdOf_ev (a b : Int) : Ev (fun k => impl_GcdOf.f k a b) (gcdOf a b) := by
  unfold impl_GcdOf.f gcdOf
  rw [impl_IsNumber_eq, impl_IsNumber_eq]
  simp only [Option.bind_some]
  cases ha : isNum a with
  | false => simp; exact Ev.now _
  | true =>
    cases hb : isNum b with
    | false => simp; exact Ev.now _
    | true =>
      rw [isNum_iff] at ha hb
      simp only [if_true, Bool.and_self]
      exact Ev.bind (impl_commonDivisor_ev a b (by omega) (by omega)) (Ev.now _)
theorem spec_IsRatio_ev (n d : Int) : Ev (fun k => spec_IsRatio.f k n d) (isRat n d) := by
  unfold spec_IsRatio.f isRat
  rw [spec_l1In_eq, spec_IsNumber_eq]
  simp only [Option.bind_some]
  cases h1 : decide (1 ≤ d) && decide (d ≤ 400000000) with
  | false => simp; exact Ev.now _
  | true =>
    cases h2 : isNum n with
    | false => simp; exact Ev.now _
    | true =>
      simp only [if_true, Bool.true_and]
      refine Ev.bind (spec_GcdOf_ev n d) (ev_some ?_)
      have h3 : isNum d = true := by simp at h1; rw [isNum_iff]; omega
      simp only [gcdOf, h2, h3, Bool.and_self, if_true]
      rw [Bool.eq_iff_iff]; simp; omega
theorem impl_IsRatio_ev (n d : Int) : Ev (fun k => impl_IsRatio.f k n d) (isRat n d) := by
  unfold impl_IsRatio.f isRat
  rw [impl_IsNumber_eq]
  simp only [Option.bind_some]
  refine ev_ite (fun h1 => ev_ite (fun h2 => ?_) (fun h2 => ev_some ?_)) (fun h1 => ev_some ?_)
  · have h1' : 1 ≤ d := h1
    cases h3 : isNum n with
    | false => simp; exact Ev.now _
    | true =>
      simp only [if_true, h1', h2, decide_true, Bool.and_self, Bool.true_and]
      refine Ev.bind (impl_GcdOf_ev n d) (ev_some ?_)
      have h4 : isNum d = true := by rw [isNum_iff]; omega
      simp only [gcdOf, h3, h4, Bool.and_self, if_true]
      rw [Bool.eq_iff_iff]; simp; omega
  · simp [h2]
  · have h1' : ¬ 1 ≤ d := h1
    simp [h1']
theorem laws_eqRatio_eq (a b : Int × Int) : laws_eqRatio.f a.1 a.2 b.1 b.2 = some (decide (a = b)) := by
  obtain ⟨a0, a1⟩ := a
  obtain ⟨b0, b1⟩ := b
  unfold laws_eqRatio.f
  simp only [Prod.mk.injEq]
  by_cases h1 : a0 = b0
  · by_cases h2 : a1 = b1
    · simp [h1, h2]
    · simp [h2]
  · simp [h1]
theorem laws_szRatioS_eq (l : List S27) (a : Int) (h : l.length ≤ maxLen) (ha : 0 ≤ a ∧ a ≤ 1048576) : laws_szRatioS.f l a = some (if a - (l.length : Int) < 0 then -1 else a - l.length) := by
  unfold laws_szRatioS.f
  unfold maxLen at h
  rw [w64 (by omega) (by omega)]
  split <;> rfl
theorem laws_toRatioS_ev (l : List S27) (h : l.length ≤ 1048576) : Ev (fun k => laws_toRatioS.f k l) (l.map fun x => (⟨x.f0, x.f1⟩ : S29)) := by
  unfold laws_toRatioS.f
  refine ev_ite (fun _ => ev_ite (fun _ => ?_) (fun h' => by simp at h'; omega)) (fun h' => by omega)
  have := ev_fill (fun k ys i => laws_toRatioS.l0 k l ys i) l (fun _ x => (⟨x.f0, x.f1⟩ : S29)) z29
    (fun ys => Ev.step (f := fun _ => some ys) (fun k => by simp [laws_toRatioS.l0]) (Ev.now _))
    (fun i hi ys r hy ih => by
      refine Ev.step (fun k => by rw [laws_toRatioS.l0]) ?_
      refine ev_ite (fun _ => ev_ite (fun _ => ?_) (fun h' => by omega)) (fun h' => by omega)
      unfold laws_toRatio.f
      simp only [Option.bind_some]
      refine ev_ite (fun _ => ?_) (fun h' => by omega)
      rw [w64_succ (by omega)]
      simp only [rd_T27, Int.toNat_natCast, getD_of_lt hi]
      exact ih)
  rw [mapIdx_const] at this
  simpa using this
theorem laws_eqRatioS_ev (l : List S29) (h : l.length ≤ 1048576) : Ev (fun k => laws_eqRatioS.f k l l) true := by
  unfold laws_eqRatioS.f
  refine ev_ite (fun _ => ?_) (fun h' => absurd rfl h')
  have := ev_all (fun k i => laws_eqRatioS.l0 k l l i) l (fun _ => true) true false
    (Ev.step (f := fun _ => some true) (fun k => by simp [laws_eqRatioS.l0]) (Ev.now _))
    (fun i hi r _ ih => by
      refine Ev.step (fun k => by rw [laws_eqRatioS.l0]) ?_
      refine ev_ite (fun _ => ev_ite (fun _ => ev_ite (fun _ => ?_) (fun h' => by omega)) (fun h' => by omega)) (fun h' => by omega)
      rw [laws_eqRatio_eq ((rd_T29 l i).f0, (rd_T29 l i).f1) ((rd_T29 l i).f0, (rd_T29 l i).f1)]
      simp only [decide_true, Option.bind_some, if_true]
      rw [w64_succ (by omega)]
      exact ih)
    (fun i hi h' => by simp at h')
  simpa using this
def isPt (l : List S29) (d : Int) : Bool := decide ((l.length : Int) = d) && l.all fun r => isRat r.f0 r.f1
theorem spec_IsPoint_ev (l : List S29) (d : Int) (h : l.length ≤ 1048576) : Ev (fun k => spec_IsPoint.f k l d) (isPt l d) := by
  unfold spec_IsPoint.f
  have := ev_all (fun k i => spec_IsPoint.l0 k l d i) l (fun r => isRat r.f0 r.f1) (decide ((l.length : Int) = d)) false
    (Ev.step (f := fun _ => some (decide ((l.length : Int) = d))) (fun k => by simp [spec_IsPoint.l0, BEq.beq]) (Ev.now _))
    (fun i hi r hp ih => by
      refine Ev.step (fun k => by rw [spec_IsPoint.l0]) ?_
      refine ev_ite (fun _ => ev_ite (fun _ => ?_) (fun h' => by omega)) (fun h' => by omega)
      simp only [rd_T29, Int.toNat_natCast, getD_of_lt hi]
      refine Ev.bind (spec_IsRatio_ev _ _) ?_
      rw [w64_succ (by omega)]
      exact ev_pos hp ih)
    (fun i hi hp => by
      refine Ev.step (fun k => by rw [spec_IsPoint.l0]) ?_
      refine ev_ite (fun _ => ev_ite (fun _ => ?_) (fun h' => by omega)) (fun h' => by omega)
      simp only [rd_T29, Int.toNat_natCast, getD_of_lt hi]
      refine Ev.bind (spec_IsRatio_ev _ _) ?_
      rw [hp]
      simp
      exact Ev.now _)
  refine ev_eqr this ?_
  unfold isPt
  cases l.all fun r => isRat r.f0 r.f1 <;> simp
theorem impl_IsPoint_ev (l : List S29) (d : Int) (h : l.length ≤ 1048576) : Ev (fun k => impl_IsPoint.f k l d) (isPt l d) := by
  unfold impl_IsPoint.f isPt
  refine ev_ite (fun hd => ?_) (fun hd => ev_some (by simp [hd]))
  have := ev_all (fun k i => impl_IsPoint.l0 k l (l.length : Int) i) l (fun r => isRat r.f0 r.f1) true false
    (Ev.step (f := fun _ => some true) (fun k => by simp [impl_IsPoint.l0]) (Ev.now _))
    (fun i hi r hp ih => by
      refine Ev.step (fun k => by rw [impl_IsPoint.l0]) ?_
      refine ev_ite (fun _ => ev_ite (fun _ => ev_ite (fun _ => ?_) (fun h' => by omega)) (fun h' => by omega)) (fun h' => by omega)
      simp only [rd_T29, Int.toNat_natCast, getD_of_lt hi]
      refine Ev.bind (impl_IsRatio_ev _ _) ?_
      rw [w64_succ (by omega)]
      exact ev_pos hp ih)
    (fun i hi hp => by
      refine Ev.step (fun k => by rw [impl_IsPoint.l0]) ?_
      refine ev_ite (fun _ => ev_ite (fun _ => ev_ite (fun _ => ?_) (fun h' => by omega)) (fun h' => by omega)) (fun h' => by omega)
      simp only [rd_T29, Int.toNat_natCast, getD_of_lt hi]
      refine Ev.bind (impl_IsRatio_ev _ _) ?_
      rw [hp]
      simp
      exact Ev.now _)
  refine ev_eqr this ?_
  rw [decide_eq_true hd]
  cases l.all fun r => isRat r.f0 r.f1 <;> rfl

end Go.Proofs.Ytcmghepjdfbdfaa.LFnExactIsPoint
