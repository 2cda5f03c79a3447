/- What the printed functions of the law FnExactHoldsAt compute, in plain words; each holds under the bounds that it names. -/
import Derived.Test.YtaijkhabcidagaaQFnExactHoldsAtx
import Derived.Test.YtaijkhabcidagaaPlainFnExactHoldsAt
import Derived.Test.YtaijkhabcidagaaPlainAFnExactHoldsAt
set_option linter.unusedVariables false
set_option linter.unusedSimpArgs false
namespace Go.Proofs.Ytaijkhabcidagaa.LFnExactHoldsAt
open Go.RowKit Go.Proofs.Ytaijkhabcidagaa.PFnExactHoldsAt Go.Proofs.Ytaijkhabcidagaa.Pl Go.Proofs.YtaijkhabcidagaaW.PrintWords Go.Proofs.YtaijkhabcidagaaW.PrintLast Go.Proofs.YtaijkhabcidagaaW.PrintMore

theorem spec_l1In_eq (a b c : Int) : spec_l1In.f a b c = some (decide (b ≤ a) && decide (a ≤ c)) := by
  unfold spec_l1In.f
  by_cases h : b ≤ a
  · rw [if_pos h]; simp [h]
  · rw [if_neg h]; simp [h]
theorem spec_IsNumber_eq (n : Int) : spec_IsNumber.f n = some (isNum n) := by
  unfold spec_IsNumber.f
  rw [spec_l1In_eq]; rfl
theorem impl_IsNumber_eq (n : Int) : impl_IsNumber.f n = some (isNum n) := by
  unfold impl_IsNumber.f isNum
  by_cases h : n ≥ -400000000
  · rw [if_pos h]
    have h' : -400000000 ≤ n := h
    simp [h']
  · rw [if_neg h]
    have h' : ¬ -400000000 ≤ n := h
    simp [h']
theorem spec_l1Abs_eq (a : Int) (h : -9223372036854775807 ≤ a) (h' : a ≤ 9223372036854775807) : spec_l1Abs.f a = some (a.natAbs : Int) := by
  unfold spec_l1Abs.f mx
  rw [w64 (by omega) (by omega)]
  congr 1
  split <;> omega
theorem impl_absolute_eq (a : Int) (h : -9223372036854775807 ≤ a) (h' : a ≤ 9223372036854775807) : impl_absolute.f a = some (a.natAbs : Int) := by
  unfold impl_absolute.f
  by_cases c : a < 0
  · rw [if_pos c, w64 (by omega) (by omega)]; congr 1; omega
  · rw [if_neg c]; congr 1; omega
theorem impl_commonDivisor_l0_ev (a b : Int) : Ev (fun k => impl_commonDivisor.l0 k a b) (eu a b) := by
  fun_induction eu a b with
  | case1 a => exact Ev.step (f := fun _ => some a) (fun k => by simp [impl_commonDivisor.l0]) (Ev.now a)
  | case2 a b h ih => exact Ev.step (fun k => by simp only [impl_commonDivisor.l0]; rw [if_neg h]) ih
theorem impl_commonDivisor_ev (a b : Int) (h : -9223372036854775807 ≤ a ∧ a ≤ 9223372036854775807) (h' : -9223372036854775807 ≤ b ∧ b ≤ 9223372036854775807) : Ev (fun k => impl_commonDivisor.f k a b) (Int.gcd a b : Int) := by
  unfold impl_commonDivisor.f
  rw [impl_absolute_eq a h.1 h.2, impl_absolute_eq b h'.1 h'.2]
  simp only [Option.bind_some]
  rw [← eu_abs]
  exact impl_commonDivisor_l0_ev _ _
theorem spec_GcdOf_l0_ev (a b : Int) (h : -9223372036854775807 ≤ a ∧ a ≤ 9223372036854775807) (h' : -9223372036854775807 ≤ b ∧ b ≤ 9223372036854775807) : Ev (fun k => spec_GcdOf.l0 k a b) (Int.gcd a b : Int) := by
  rw [← eu_gcd]
  fun_induction eu a b with
  | case1 a => exact Ev.step (f := fun _ => some (a.natAbs : Int)) (fun k => by simp [spec_GcdOf.l0, spec_l1Abs_eq a h.1 h.2]) (Ev.now _)
  | case2 a b hb ih =>
    have := tmod_lt (a := a) hb
    exact Ev.step (fun k => by simp only [spec_GcdOf.l0]; rw [if_neg hb]) (ih h' (by omega))
theorem spec_GcdOf_ev (a b : Int) : Ev (fun k => spec_GcdOf.f k a b) (gcdOf a b) := by
  unfold spec_GcdOf.f gcdOf
  rw [spec_IsNumber_eq, spec_IsNumber_eq]
  simp only [Option.bind_some]
  cases ha : isNum a with
  | false => exact Ev.step (f := fun _ => some 0) (fun k => by simp [spec_GcdOf.j0]) (Ev.now _)
  | true =>
    cases hb : isNum b with
    | false => exact Ev.step (f := fun _ => some 0) (fun k => by simp [spec_GcdOf.j0]) (Ev.now _)
    | true =>
      rw [isNum_iff] at ha hb
      exact Ev.step (f := fun k => spec_GcdOf.l0 k a b) (fun k => by simp [spec_GcdOf.j0]) (spec_GcdOf_l0_ev a b (by omega) (by omega))
theorem impl_GcdOf_ev (a b : Int) : Ev (fun k => impl_GcdOf.f k a b) (gcdOf a b) := by
  unfold impl_GcdOf.f gcdOf
  rw [impl_IsNumber_eq, impl_IsNumber_eq]
  simp only [Option.bind_some]
  cases ha : isNum a with
  | false => simp; exact Ev.now _
  | true =>
    cases hb : isNum b with
    | false => simp; exact Ev.now _
    | true =>
      rw [isNum_iff] at ha hb
      simp only [if_true, Bool.and_self]
      exact Ev.bind (impl_commonDivisor_ev a b (by omega) (by omega)) (Ev.now _)
theorem spec_IsRatio_ev (n d : Int) : Ev (fun k => spec_IsRatio.f k n d) (isRat n d) := by
  unfold spec_IsRatio.f isRat
  rw [spec_l1In_eq, spec_IsNumber_eq]
  simp only [Option.bind_some]
  cases h1 : decide (1 ≤ d) && decide (d ≤ 400000000) with
  | false => simp; exact Ev.now _
  | true =>
    cases h2 : isNum n with
    | false => simp; exact Ev.now _
    | true =>
      simp only [if_true, Bool.true_and]
      refine Ev.bind (spec_GcdOf_ev n d) (ev_some ?_)
      have h3 : isNum d = true := by simp at h1; rw [isNum_iff]; omega
      simp only [gcdOf, h2, h3, Bool.and_self, if_true]
      rw [Bool.eq_iff_iff]; simp; omega
theorem impl_IsRatio_ev (n d : Int) : Ev (fun k => impl_IsRatio.f k n d) (isRat n d) := by
  unfold impl_IsRatio.f isRat
  rw [impl_IsNumber_eq]
  simp only [Option.bind_some]
  refine ev_ite (fun h1 => ev_ite (fun h2 => ?_) (fun h2 => ev_some ?_)) (fun h1 => ev_some ?_)
  · have h1' : 1 ≤ d := h1
    cases h3 : isNum n with
    | false => simp; exact Ev.now _
    | true =>
      simp only [if_true, h1', h2, decide_true, Bool.and_self, Bool.true_and]
      refine Ev.bind (impl_GcdOf_ev n d) (ev_some ?_)
      have h4 : isNum d = true := by rw [isNum_iff]; omega
      simp only [gcdOf, h3, h4, Bool.and_self, if_true]
      rw [Bool.eq_iff_iff]; simp; omega
  · simp [h2]
  · have h1' : ¬ 1 ≤ d := h1
    simp [h1']
theorem spec_l2Make_l0_ev (n d a b : Int) (hn : -9223372036854775807 ≤ n ∧ n ≤ 9223372036854775807) (hd : -9223372036854775807 ≤ d ∧ d ≤ 9223372036854775807)
    (h : -9223372036854775807 ≤ a ∧ a ≤ 9223372036854775807) (h' : -9223372036854775807 ≤ b ∧ b ≤ 9223372036854775807) (hg : (Int.gcd a b : Int) = Int.gcd n d) (hz : ¬ d = 0) : Ev (fun k => spec_l2Make.l0 k n d a b) (redOf n d) := by
  have hp := gcd_pos n d hz
  have he := eu_gcd a b
  revert he
  fun_induction eu a b with
  | case1 a =>
    intro he
    refine Ev.step (fun k => by simp only [spec_l2Make.l0, if_true]; rw [spec_l1Abs_eq a h.1 h.2, Option.bind_some]) ?_
    have e : (a.natAbs : Int) = Int.gcd n d := by rw [← hg, ← he]
    rw [e]
    refine ev_ite (fun h0 => by omega) (fun _ => ?_)
    rw [w64_tdiv hn.1 hn.2, w64_tdiv hd.1 hd.2]
    unfold redOf
    refine Ev.bind (spec_IsRatio_ev _ _) ?_
    exact ev_ite (fun h => by rw [if_pos h]; exact Ev.now _) (fun h => by rw [if_neg h]; exact Ev.now _)
  | case2 a b hb ih =>
    intro he
    have := tmod_lt (a := a) hb
    refine Ev.step (fun k => by simp only [spec_l2Make.l0]; rw [if_neg hb]) (ih h' (by omega) ?_ ?_)
    · rw [← hg]
      have e1 := eu_gcd b (a.tmod b)
      have e2 := eu_gcd a b
      have e3 : eu a b = eu b (a.tmod b) := by rw [eu]; simp [hb]
      rw [e3] at e2
      omega
    · exact eu_gcd _ _
theorem spec_l2Make_ev (n d : Int) (hn : -9223372036854775807 ≤ n ∧ n ≤ 9223372036854775807) (hd : -9223372036854775807 ≤ d ∧ d ≤ 9223372036854775807) : Ev (fun k => spec_l2Make.f k n d) (red n d) := by
  unfold spec_l2Make.f red
  refine ev_ite (fun h => by rw [if_pos h]; exact Ev.now _) (fun h => ?_)
  rw [if_neg h]
  refine ev_ite (fun h' => ?_) (fun h' => ?_)
  · rw [if_pos h', w64 (by omega) (by omega), w64 (by omega) (by omega)]
    exact Ev.step (fun k => by simp only [spec_l2Make.j0]) (spec_l2Make_l0_ev _ _ _ _ (by omega) (by omega) (by omega) (by omega) rfl (by omega))
  · rw [if_neg h']
    exact Ev.step (fun k => by simp only [spec_l2Make.j0]) (spec_l2Make_l0_ev _ _ _ _ (by omega) (by omega) (by omega) (by omega) rfl (by omega))
theorem impl_reducedRatio_j0_ev (n d : Int) (hn : -9223372036854775807 ≤ n ∧ n ≤ 9223372036854775807) (hd : -9223372036854775807 ≤ d ∧ d ≤ 9223372036854775807) (hz : ¬ d = 0) : Ev (fun k => impl_reducedRatio.j0 k n d) (redOf n d) := by
  have hp := gcd_pos n d hz
  refine Ev.step (fun k => by rw [impl_reducedRatio.j0]) ?_
  refine Ev.bind (impl_commonDivisor_ev n d hn hd) ?_
  refine ev_ite (fun h0 => by omega) (fun _ => ?_)
  rw [w64_tdiv hn.1 hn.2, w64_tdiv hd.1 hd.2]
  unfold redOf
  refine Ev.bind (impl_IsRatio_ev _ _) ?_
  exact ev_ite (fun h => by rw [if_pos h]; exact Ev.now _) (fun h => by rw [if_neg h]; exact Ev.now _)
theorem impl_reducedRatio_ev (n d : Int) (hn : -9223372036854775807 ≤ n ∧ n ≤ 9223372036854775807) (hd : -9223372036854775807 ≤ d ∧ d ≤ 9223372036854775807) : Ev (fun k => impl_reducedRatio.f k n d) (red n d) := by
  unfold impl_reducedRatio.f red
  refine ev_ite (fun h => by rw [if_pos h]; exact Ev.now _) (fun h => ?_)
  rw [if_neg h]
  refine ev_ite (fun h' => ?_) (fun h' => ?_)
  · rw [if_pos h', w64 (by omega) (by omega), w64 (by omega) (by omega)]
    exact impl_reducedRatio_j0_ev _ _ (by omega) (by omega) (by omega)
  · rw [if_neg h']
    exact impl_reducedRatio_j0_ev _ _ (by omega) (by omega) (by omega)
theorem spec_AddRatios_ev (a b c d : Int) : Ev (fun k => spec_AddRatios.f k a b c d) (addR a b c d) := by
  unfold spec_AddRatios.f addR
  refine Ev.bind (spec_IsRatio_ev a b) (ev_ite (fun h1 => Ev.bind (spec_IsRatio_ev c d) (ev_ite (fun h2 => ?_) (fun h2 => ?_))) (fun h1 => ?_))
  · simp only [h1, h2, Bool.and_self, if_true]
    rw [isRat_iff] at h1 h2
    have m1 := mul_bd (a := a) (b := d) (by omega) (by omega)
    have m2 := mul_bd (a := c) (b := b) (by omega) (by omega)
    have m3 := mul_bd (a := b) (b := d) (by omega) (by omega)
    rw [w64 (a := a * d) (by omega) (by omega), w64 (a := c * b) (by omega) (by omega), w64 (a := b * d) (by omega) (by omega), w64 (by omega) (by omega)]
    exact Ev.bind (spec_l2Make_ev _ _ (by omega) (by omega)) (Ev.now _)
  · simp [h2]; exact Ev.now _
  · simp [h1]; exact Ev.now _
theorem impl_AddRatios_ev (a b c d : Int) : Ev (fun k => impl_AddRatios.f k a b c d) (addR a b c d) := by
  unfold impl_AddRatios.f addR
  refine Ev.bind (impl_IsRatio_ev a b) (ev_ite (fun h1 => Ev.bind (impl_IsRatio_ev c d) (ev_ite (fun h2 => ?_) (fun h2 => ?_))) (fun h1 => ?_))
  · simp only [h1, h2, Bool.and_self, if_true]
    rw [isRat_iff] at h1 h2
    have m1 := mul_bd (a := a) (b := d) (by omega) (by omega)
    have m2 := mul_bd (a := c) (b := b) (by omega) (by omega)
    have m3 := mul_bd (a := b) (b := d) (by omega) (by omega)
    rw [w64 (a := a * d) (by omega) (by omega), w64 (a := c * b) (by omega) (by omega), w64 (a := b * d) (by omega) (by omega), w64 (by omega) (by omega)]
    exact Ev.bind (impl_reducedRatio_ev _ _ (by omega) (by omega)) (Ev.now _)
  · simp [h2]; exact Ev.now _
  · simp [h1]; exact Ev.now _
theorem spec_MultiplyRatios_ev (a b c d : Int) : Ev (fun k => spec_MultiplyRatios.f k a b c d) (mulR a b c d) := by
  unfold spec_MultiplyRatios.f mulR
  refine Ev.bind (spec_IsRatio_ev a b) (ev_ite (fun h1 => Ev.bind (spec_IsRatio_ev c d) (ev_ite (fun h2 => ?_) (fun h2 => ?_))) (fun h1 => ?_))
  · simp only [h1, h2, Bool.and_self, if_true]
    rw [isRat_iff] at h1 h2
    have m1 := mul_bd (a := a) (b := c) (by omega) (by omega)
    have m3 := mul_bd (a := b) (b := d) (by omega) (by omega)
    rw [w64 (a := a * c) (by omega) (by omega), w64 (a := b * d) (by omega) (by omega)]
    exact Ev.bind (spec_l2Make_ev _ _ (by omega) (by omega)) (Ev.now _)
  · simp [h2]; exact Ev.now _
  · simp [h1]; exact Ev.now _
theorem impl_MultiplyRatios_ev (a b c d : Int) : Ev (fun k => impl_MultiplyRatios.f k a b c d) (mulR a b c d) := by
  unfold impl_MultiplyRatios.f mulR
  refine Ev.bind (impl_IsRatio_ev a b) (ev_ite (fun h1 => Ev.bind (impl_IsRatio_ev c d) (ev_ite (fun h2 => ?_) (fun h2 => ?_))) (fun h1 => ?_))
  · simp only [h1, h2, Bool.and_self, if_true]
    rw [isRat_iff] at h1 h2
    have m1 := mul_bd (a := a) (b := c) (by omega) (by omega)
    have m3 := mul_bd (a := b) (b := d) (by omega) (by omega)
    rw [w64 (a := a * c) (by omega) (by omega), w64 (a := b * d) (by omega) (by omega)]
    exact Ev.bind (impl_reducedRatio_ev _ _ (by omega) (by omega)) (Ev.now _)
  · simp [h2]; exact Ev.now _
  · simp [h1]; exact Ev.now _
theorem laws_eqRatio_eq (a b : Int × Int) : laws_eqRatio.f a.1 a.2 b.1 b.2 = some (decide (a = b)) := by
  obtain ⟨a0, a1⟩ := a
  obtain ⟨b0, b1⟩ := b
  unfold laws_eqRatio.f
  simp only [Prod.mk.injEq]
  by_cases h1 : a0 = b0
  · by_cases h2 : a1 = b1
    · simp [h1, h2]
    · simp [h2]
  · simp [h1]
theorem laws_szRatioS_eq (l : List S54) (a : Int) (h : l.length ≤ maxLen) (ha : 0 ≤ a ∧ a ≤ 1048576) : laws_szRatioS.f l a = some (lft a l.length) := by
  unfold laws_szRatioS.f lft
  unfold maxLen at h
  rw [w64 (by omega) (by omega)]
  by_cases h' : a < (l.length : Int)
  · rw [if_pos (by omega), if_pos h']
  · rw [if_neg (by omega), if_neg h']
theorem laws_toRatioS_ev (l : List S54) (h : l.length ≤ 1048576) : Ev (fun k => laws_toRatioS.f k l) (l.map fun x => (⟨x.f0, x.f1⟩ : S56)) := by
  unfold laws_toRatioS.f
  refine ev_ite (fun _ => ev_ite (fun _ => ?_) (fun h' => by simp at h'; omega)) (fun h' => by omega)
  have := ev_fill (fun k ys i => laws_toRatioS.l0 k l ys i) l (fun _ x => (⟨x.f0, x.f1⟩ : S56)) z56
    (fun ys => Ev.step (f := fun _ => some ys) (fun k => by simp [laws_toRatioS.l0]) (Ev.now _))
    (fun i hi ys r hy ih => by
      refine Ev.step (fun k => by rw [laws_toRatioS.l0]) ?_
      refine ev_ite (fun _ => ev_ite (fun _ => ?_) (fun h' => by omega)) (fun h' => by omega)
      unfold laws_toRatio.f
      simp only [Option.bind_some]
      refine ev_ite (fun _ => ?_) (fun h' => by omega)
      rw [w64_succ (by omega)]
      simp only [rd_T54, Int.toNat_natCast, getD_of_lt hi]
      exact ih)
  rw [mapIdx_const] at this
  simpa using this
theorem laws_eqRatioS_ev (l : List S56) (h : l.length ≤ 1048576) : Ev (fun k => laws_eqRatioS.f k l l) true := by
  unfold laws_eqRatioS.f
  refine ev_ite (fun _ => ?_) (fun h' => absurd rfl h')
  have := ev_all (fun k i => laws_eqRatioS.l0 k l l i) l (fun _ => true) true false
    (Ev.step (f := fun _ => some true) (fun k => by simp [laws_eqRatioS.l0]) (Ev.now _))
    (fun i hi r _ ih => by
      refine Ev.step (fun k => by rw [laws_eqRatioS.l0]) ?_
      refine ev_ite (fun _ => ev_ite (fun _ => ev_ite (fun _ => ?_) (fun h' => by omega)) (fun h' => by omega)) (fun h' => by omega)
      rw [laws_eqRatio_eq ((rd_T56 l i).f0, (rd_T56 l i).f1) ((rd_T56 l i).f0, (rd_T56 l i).f1)]
      simp only [decide_true, Option.bind_some, if_true]
      rw [w64_succ (by omega)]
      exact ih)
    (fun i hi h' => by simp at h')
  simpa using this
def isPt (l : List S56) (d : Int) : Bool := decide ((l.length : Int) = d) && l.all fun r => isRat r.f0 r.f1
theorem spec_IsPoint_ev (l : List S56) (d : Int) (h : l.length ≤ 1048576) : Ev (fun k => spec_IsPoint.f k l d) (isPt l d) := by
  unfold spec_IsPoint.f
  have := ev_all (fun k i => spec_IsPoint.l0 k l d i) l (fun r => isRat r.f0 r.f1) (decide ((l.length : Int) = d)) false
    (Ev.step (f := fun _ => some (decide ((l.length : Int) = d))) (fun k => by simp [spec_IsPoint.l0, BEq.beq]) (Ev.now _))
    (fun i hi r hp ih => by
      refine Ev.step (fun k => by rw [spec_IsPoint.l0]) ?_
      refine ev_ite (fun _ => ev_ite (fun _ => ?_) (fun h' => by omega)) (fun h' => by omega)
      simp only [rd_T56, Int.toNat_natCast, getD_of_lt hi]
      refine Ev.bind (spec_IsRatio_ev _ _) ?_
      rw [w64_succ (by omega)]
      exact ev_pos hp ih)
    (fun i hi hp => by
      refine Ev.step (fun k => by rw [spec_IsPoint.l0]) ?_
      refine ev_ite (fun _ => ev_ite (fun _ => ?_) (fun h' => by omega)) (fun h' => by omega)
      simp only [rd_T56, Int.toNat_natCast, getD_of_lt hi]
      refine Ev.bind (spec_IsRatio_ev _ _) ?_
      rw [hp]
      simp
      exact Ev.now _)
  refine ev_eqr this ?_
  unfold isPt
  cases l.all fun r => isRat r.f0 r.f1 <;> simp
theorem impl_IsPoint_ev (l : List S56) (d : Int) (h : l.length ≤ 1048576) : Ev (fun k => impl_IsPoint.f k l d) (isPt l d) := by
  unfold impl_IsPoint.f isPt
  refine ev_ite (fun hd => ?_) (fun hd => ev_some (by simp [hd]))
  have := ev_all (fun k i => impl_IsPoint.l0 k l (l.length : Int) i) l (fun r => isRat r.f0 r.f1) true false
    (Ev.step (f := fun _ => some true) (fun k => by simp [impl_IsPoint.l0]) (Ev.now _))
    (fun i hi r hp ih => by
      refine Ev.step (fun k => by rw [impl_IsPoint.l0]) ?_
      refine ev_ite (fun _ => ev_ite (fun _ => ev_ite (fun _ => ?_) (fun h' => by omega)) (fun h' => by omega)) (fun h' => by omega)
      simp only [rd_T56, Int.toNat_natCast, getD_of_lt hi]
      refine Ev.bind (impl_IsRatio_ev _ _) ?_
      rw [w64_succ (by omega)]
      exact ev_pos hp ih)
    (fun i hi hp => by
      refine Ev.step (fun k => by rw [impl_IsPoint.l0]) ?_
      refine ev_ite (fun _ => ev_ite (fun _ => ev_ite (fun _ => ?_) (fun h' => by omega)) (fun h' => by omega)) (fun h' => by omega)
      simp only [rd_T56, Int.toNat_natCast, getD_of_lt hi]
      refine Ev.bind (impl_IsRatio_ev _ _) ?_
      rw [hp]
      simp
      exact Ev.now _)
  refine ev_eqr this ?_
  rw [decide_eq_true hd]
  cases l.all fun r => isRat r.f0 r.f1 <;> rfl
theorem laws_szIntS_eq (l : List Int) (a : Int) (h : l.length ≤ maxLen) (ha : 0 ≤ a ∧ a ≤ 1048576) : laws_szIntS.f l a = some (lft a l.length) := by
  unfold laws_szIntS.f lft
  unfold maxLen at h
  rw [w64 (by omega) (by omega)]
  by_cases h' : a < (l.length : Int)
  · rw [if_pos (by omega), if_pos h']
  · rw [if_neg (by omega), if_neg h']
theorem laws_szAtom_eq (l : List Int) (c : Int) (s : Bool) (a : Int) (h : l.length ≤ maxLen) (ha : 0 ≤ a ∧ a ≤ 1048576) : laws_szAtom.f l c s a = some (lft a l.length) := by
  unfold laws_szAtom.f
  rw [laws_szIntS_eq l a h ha, Option.bind_some]
  unfold lft
  by_cases h' : a < (l.length : Int)
  · simp [h']
  · rw [if_neg h', if_neg (by omega)]
theorem laws_toIntS_ev (l : List Int) (h : l.length ≤ 1048576) : Ev (fun k => laws_toIntS.f k l) l := by
  unfold laws_toIntS.f
  refine ev_pos (by omega) (ev_pos (by simp; omega) ?_)
  have := ev_put (fun k ys i => laws_toIntS.l0 k l ys i) l (fun _ x => x) 0 l
    (by
      rw [mapIdx_const l (fun x => x), List.map_id']
      exact Ev.step (f := fun _ => some l) (fun k => by simp [laws_toIntS.l0]) (Ev.now _))
    (fun i hi ys hy ih => by
      refine Ev.step (fun k => by rw [laws_toIntS.l0]) ?_
      refine ev_pos (by omega) (ev_pos (by omega) (ev_pos (by omega) ?_))
      rw [w64_succ (by omega)]
      simp only [rd, Int.toNat_natCast, getD_of_lt hi]
      exact ih)
  simpa using this
theorem laws_toAtom_ev (l : List Int) (c : Int) (s : Bool) (h : l.length ≤ 1048576) : Ev (fun k => laws_toAtom.f k l c s) (l, c, s) := by
  unfold laws_toAtom.f
  exact Ev.bind (laws_toIntS_ev l h) (Ev.now _)
theorem laws_eqIntS_ev (l : List Int) (h : l.length ≤ 1048576) : Ev (fun k => laws_eqIntS.f k l l) true := by
  unfold laws_eqIntS.f
  refine ev_pos rfl ?_
  have := ev_all (fun k i => laws_eqIntS.l0 k l l i) l (fun _ => true) true false
    (Ev.step (f := fun _ => some true) (fun k => by simp [laws_eqIntS.l0]) (Ev.now _))
    (fun i hi r _ ih => by
      refine Ev.step (fun k => by rw [laws_eqIntS.l0]) ?_
      refine ev_pos (by omega) (ev_pos (by omega) (ev_pos (by omega) (ev_pos rfl ?_)))
      rw [w64_succ (by omega)]
      exact ih)
    (fun i hi h' => by simp at h')
  simpa using this
theorem laws_eqAtom_ev (l : List Int) (c : Int) (s : Bool) (h : l.length ≤ 1048576) : Ev (fun k => laws_eqAtom.f k l c s l c s) true := by
  unfold laws_eqAtom.f
  refine Ev.bind (laws_eqIntS_ev l h) (ev_pos rfl (ev_pos rfl ?_))
  exact ev_neg (by simp) (Ev.now _)
theorem spec_l2Gcd_l1_ev (x0 : List Int) (i : Nat) (hi : i < 4611686018427387904) (r : Int) (g a : Int) (hg : 0 ≤ g) (ha : 0 ≤ a) (h : Ev (fun k => spec_l2Gcd.l0 k x0 (eu g a) ((i + 1 : Nat) : Int)) r) : Ev (fun k => spec_l2Gcd.l1 k x0 g (i : Nat) a) r := by
  fun_induction eu g a with
  | case1 g => exact Ev.step (fun k => by rw [spec_l2Gcd.l1, if_pos rfl, w64_succ (by omega)]) h
  | case2 g a hz ih => exact Ev.step (fun k => by rw [spec_l2Gcd.l1, if_neg hz]) (ih ha (Int.tmod_nonneg _ hg) h)
theorem spec_l2Gcd_ev (l : List Int) (c : Int) (hl : l.length ≤ 1048576) (hb : ∀ x ∈ l, -9223372036854775807 ≤ x ∧ x ≤ 9223372036854775807) (hc : -9223372036854775807 ≤ c ∧ c ≤ 9223372036854775807) : Ev (fun k => spec_l2Gcd.f k l c) ((Nat.gcd (gcdL l) c.natAbs : Nat) : Int) := by
  unfold spec_l2Gcd.f
  rw [spec_l1Abs_eq c hc.1 hc.2]
  simp only [Option.bind_some]
  have := ev_fold (fun k (g : Nat) i => spec_l2Gcd.l0 k l (g : Int) i) l (fun g x => Nat.gcd g x.natAbs) (fun g => (g : Int)) (fun _ => True)
    (fun g _ => Ev.step (f := fun _ => some (g : Int)) (fun k => by simp [spec_l2Gcd.l0]) (Ev.now _))
    (fun i hi g r _ => ⟨trivial, fun ih => by
      have hx := hb l[i] (List.getElem_mem hi)
      refine Ev.step (fun k => by rw [spec_l2Gcd.l0]) ?_
      refine ev_pos (by omega) (ev_pos (by omega) ?_)
      simp only [rd, Int.toNat_natCast, getD_of_lt hi]
      rw [spec_l1Abs_eq _ hx.1 hx.2]
      simp only [Option.bind_some]
      refine spec_l2Gcd_l1_ev l i (by omega) r _ _ (by omega) (by omega) ?_
      have e : eu (g : Int) (l[i].natAbs : Int) = ((Nat.gcd g l[i].natAbs : Nat) : Int) := by
        have h1 := eu_gcd (g : Int) (l[i].natAbs : Int)
        have h2 := eu_nonneg (g : Int) (l[i].natAbs : Int) (by omega) (by omega)
        simp only [Int.gcd, Int.natAbs_natCast] at h1
        omega
      rw [e]; exact ih⟩) c.natAbs trivial
  refine ev_eqr this ?_
  have e := gcdF_eq l c.natAbs
  unfold gcdF at e
  rw [e, Nat.gcd_comm]
theorem isNum_bd {x : Int} (h : isNum x = true) : -9223372036854775807 ≤ x ∧ x ≤ 9223372036854775807 := by rw [isNum_iff] at h; omega
theorem spec_IsAtom_l0_ev (l : List Int) (c : Int) (s : Bool) (hl : l.length ≤ 1048576) (hc : isNum c = true) : Ev (fun k => spec_IsAtom.l0 k 0 l c s) (if l.all isNum then decide (Nat.gcd (gcdL l) c.natAbs ≤ 1) else false) := by
  have := ev_allq (fun k i => spec_IsAtom.l0 k i l c s) l isNum (decide (Nat.gcd (gcdL l) c.natAbs ≤ 1)) false
    (fun hall => by
      refine Ev.step (fun k => by rw [spec_IsAtom.l0, if_neg (by omega)]) ?_
      refine Ev.bind (spec_l2Gcd_ev l c hl (fun x hx => isNum_bd (List.all_eq_true.1 hall x hx)) (isNum_bd hc)) (ev_some ?_)
      rw [Bool.eq_iff_iff]; simp; omega)
    (fun i hi r hp ih => by
      refine Ev.step (fun k => by rw [spec_IsAtom.l0]) ?_
      refine ev_pos (by omega) (ev_pos (by omega) ?_)
      simp only [rd, Int.toNat_natCast, getD_of_lt hi]
      rw [spec_IsNumber_eq, w64_succ (by omega)]
      simp only [Option.bind_some]
      exact ev_pos hp ih)
    (fun i hi hp => by
      refine Ev.step (fun k => by rw [spec_IsAtom.l0]) ?_
      refine ev_pos (by omega) (ev_pos (by omega) ?_)
      simp only [rd, Int.toNat_natCast, getD_of_lt hi]
      rw [spec_IsNumber_eq]
      simp only [Option.bind_some]
      exact ev_neg (by simp [hp]) (Ev.now _))
  simpa using this
theorem spec_IsAtom_ev (l : List Int) (c : Int) (s : Bool) (hl : l.length ≤ 1048576) : Ev (fun k => spec_IsAtom.f k l c s) (isAt l c) := by
  unfold spec_IsAtom.f
  refine ev_ite (fun h => ?_) (fun h => ?_)
  · refine ev_eqr (Ev.step (f := fun _ => some false) (fun k => by simp [spec_IsAtom.j0]) (Ev.now _)) ?_
    simp only [isAt, show ¬ l.length ≤ 4 by omega, decide_false, Bool.false_and]
  · rw [spec_IsNumber_eq]
    simp only [Option.bind_some]
    cases hc : isNum c with
    | false =>
      refine ev_eqr (Ev.step (f := fun _ => some false) (fun k => by simp [spec_IsAtom.j0]) (Ev.now _)) ?_
      simp [isAt, hc]
    | true =>
      refine Ev.step (f := fun k => spec_IsAtom.l0 k 0 l c s) (fun k => by simp [spec_IsAtom.j0]) ?_
      refine ev_eqr (spec_IsAtom_l0_ev l c s hl hc) ?_
      cases hall : l.all isNum <;> simp [isAt, hc, hall, show l.length ≤ 4 by omega]
theorem impl_divisorOf_ev (l : List Int) (hl : l.length ≤ 1048576) (hb : ∀ x ∈ l, -9223372036854775807 ≤ x ∧ x ≤ 9223372036854775807) : Ev (fun k => impl_divisorOf.f k l) (gcdL l : Int) := by
  unfold impl_divisorOf.f
  have := ev_fold (fun k (g : Nat) i => impl_divisorOf.l0 k (g : Int) l (l.length : Int) i) l (fun g x => Nat.gcd g x.natAbs) (fun g => (g : Int)) (fun g => g ≤ 9223372036854775807)
    (fun g _ => Ev.step (f := fun _ => some (g : Int)) (fun k => by simp [impl_divisorOf.l0]) (Ev.now _))
    (fun i hi g r hg => by
      have hx := hb l[i] (List.getElem_mem hi)
      refine ⟨gcd_le_max _ _ _ hg (by omega), fun ih => ?_⟩
      refine Ev.step (fun k => by rw [impl_divisorOf.l0]) ?_
      refine ev_pos (by omega) (ev_pos (by omega) (ev_pos (by omega) ?_))
      simp only [rd, Int.toNat_natCast, getD_of_lt hi]
      refine Ev.bind (impl_commonDivisor_ev _ _ (by omega) hx) ?_
      rw [w64_succ (by omega)]
      have e : ((Int.gcd (g : Int) l[i] : Nat) : Int) = ((Nat.gcd g l[i].natAbs : Nat) : Int) := by simp [Int.gcd]
      rw [e]; exact ih) 0 (by omega)
  exact this
theorem isNum_bd' {x : Int} (h : isNum x = true) : -9223372036854775807 ≤ x ∧ x ≤ 9223372036854775807 := by rw [isNum_iff] at h; omega
theorem impl_IsAtom_l0_ev (l : List Int) (c : Int) (s : Bool) (hl : l.length ≤ 1048576) (hc : isNum c = true) : Ev (fun k => impl_IsAtom.l0 k l (l.length : Int) 0 l c s) (if l.all isNum then decide (Nat.gcd (gcdL l) c.natAbs ≤ 1) else false) := by
  have := ev_allq (fun k i => impl_IsAtom.l0 k l (l.length : Int) i l c s) l isNum (decide (Nat.gcd (gcdL l) c.natAbs ≤ 1)) false
    (fun hall => by
      have hb := fun x hx => isNum_bd' (List.all_eq_true.1 hall x hx)
      have hg : gcdL l ≤ 9223372036854775807 := gcdL_le l _ (fun x hx => by have := hb x hx; omega)
      refine Ev.step (fun k => by rw [impl_IsAtom.l0, if_neg (by omega)]) ?_
      refine Ev.bind (impl_divisorOf_ev l hl hb) (Ev.bind (impl_commonDivisor_ev _ c (by omega) (isNum_bd' hc)) (ev_some ?_))
      have e : ((Int.gcd (gcdL l : Int) c : Nat) : Int) = ((Nat.gcd (gcdL l) c.natAbs : Nat) : Int) := by simp [Int.gcd]
      rw [e, Bool.eq_iff_iff]; simp; omega)
    (fun i hi r hp ih => by
      refine Ev.step (fun k => by rw [impl_IsAtom.l0]) ?_
      refine ev_pos (by omega) (ev_pos (by omega) (ev_pos (by omega) ?_))
      simp only [rd, Int.toNat_natCast, getD_of_lt hi]
      rw [impl_IsNumber_eq, w64_succ (by omega)]
      simp only [Option.bind_some]
      exact ev_pos hp ih)
    (fun i hi hp => by
      refine Ev.step (fun k => by rw [impl_IsAtom.l0]) ?_
      refine ev_pos (by omega) (ev_pos (by omega) (ev_pos (by omega) ?_))
      simp only [rd, Int.toNat_natCast, getD_of_lt hi]
      rw [impl_IsNumber_eq]
      simp only [Option.bind_some]
      exact ev_neg (by simp [hp]) (Ev.now _))
  simpa using this
theorem impl_IsAtom_ev (l : List Int) (c : Int) (s : Bool) (hl : l.length ≤ 1048576) : Ev (fun k => impl_IsAtom.f k l c s) (isAt l c) := by
  unfold impl_IsAtom.f
  refine ev_ite (fun h => ?_) (fun h => ?_)
  · refine ev_eqr (Ev.step (f := fun _ => some false) (fun k => by simp [impl_IsAtom.j0]) (Ev.now _)) ?_
    simp only [isAt, show ¬ l.length ≤ 4 by omega, decide_false, Bool.false_and]
  · rw [impl_IsNumber_eq]
    simp only [Option.bind_some]
    cases hc : isNum c with
    | false =>
      refine ev_eqr (Ev.step (f := fun _ => some false) (fun k => by simp [impl_IsAtom.j0]) (Ev.now _)) ?_
      simp [isAt, hc]
    | true =>
      refine Ev.step (f := fun k => impl_IsAtom.l0 k l (l.length : Int) 0 l c s) (fun k => by simp [impl_IsAtom.j0]) ?_
      refine ev_eqr (impl_IsAtom_l0_ev l c s hl hc) ?_
      cases hall : l.all isNum <;> simp [isAt, hc, hall, show l.length ≤ 4 by omega]
def rtOf (x : S56) : Int × Int := (x.f0, x.f1)
def ptOf (p : List S56) : List (Int × Int) := p.map rtOf
theorem ptOf_len (p : List S56) : (ptOf p).length = p.length := by simp [ptOf]
theorem isPt_eq (p : List S56) (d : Int) : isPt p d = isPoint (ptOf p) d := by
  unfold isPt isPoint ptOf
  rw [List.all_map, List.length_map]; rfl
theorem spec_ValueOf_ev (l : List Int) (c : Int) (s : Bool) (p : List S56) (hl : l.length ≤ 1048576) (hp : p.length ≤ 1048576) : Ev (fun k => spec_ValueOf.f k l c s p) (valAt l c (ptOf p)) := by
  unfold spec_ValueOf.f valAt
  have no : ∀ k, spec_ValueOf.j0 (k + 1) p true l c s = some (0, 0, false) := fun k => by simp [spec_ValueOf.j0]
  refine Ev.bind (spec_IsAtom_ev l c s hl) (ev_ite (fun h1 => Ev.bind (spec_IsPoint_ev p _ hp) ?_) (fun h1 => ?_))
  · rw [isPt_eq]
    cases h2 : isPoint (ptOf p) (l.length : Int) with
    | false =>
      refine ev_eqr (Ev.step (f := fun _ => some (0, 0, false)) no (Ev.now _)) ?_
      simp
    | true =>
      simp only [h1, Bool.and_self, if_true]
      have hlen : p.length = l.length := by have := isPoint_len h2; rw [ptOf_len] at this; omega
      refine Ev.step (fun k => by rw [spec_ValueOf.j0, if_neg (by simp)]) ?_
      unfold spec_l1Whole.f
      simp only [Option.bind_some]
      have key : ∀ i, i ≤ p.length → ∀ a b, Ev (fun k => spec_ValueOf.l0 k p (i : Nat) l c s a b) (valFin (valGo (l.drop i) ((ptOf p).drop i) (a, b))) := by
        refine down p.length ?_ ?_
        · intro a b
          refine Ev.step (fun k => by rw [spec_ValueOf.l0, if_neg (by omega)]) ?_
          rw [show l.drop p.length = [] by rw [hlen, List.drop_length]]
          exact Ev.bind (spec_IsRatio_ev a b) (Ev.now _)
        · intro i hi ih a b
          have hi2 : i < l.length := by omega
          have hi3 : i < (ptOf p).length := by rw [ptOf_len]; exact hi
          refine Ev.step (fun k => by rw [spec_ValueOf.l0]) ?_
          refine ev_pos (by omega) (ev_pos (by omega) (ev_pos (by omega) ?_))
          unfold spec_l1Whole.f
          simp only [Option.bind_some, rd, rd_T56, Int.toNat_natCast, getD_of_lt hi, getD_of_lt hi2]
          refine Ev.bind (spec_MultiplyRatios_ev _ _ _ _) (Ev.bind (spec_AddRatios_ev _ _ _ _) ?_)
          rw [w64_succ (by omega), drop_cons hi2, drop_cons hi3, valGo]
          have e : (ptOf p)[i] = (p[i].f0, p[i].f1) := by simp [ptOf, rtOf]
          rw [e]
          exact ih _ _
      simpa using key 0 (by omega) c 1
  · refine ev_eqr (Ev.step (f := fun _ => some (0, 0, false)) no (Ev.now _)) ?_
    simp [h1]
theorem impl_ValueOf_ev (l : List Int) (c : Int) (s : Bool) (p : List S56) (hl : l.length ≤ 1048576) (hp : p.length ≤ 1048576) : Ev (fun k => impl_ValueOf.f k l c s p) (valAt l c (ptOf p)) := by
  unfold impl_ValueOf.f valAt
  have no : ∀ k, impl_ValueOf.j0 (k + 1) p true l c s = some (0, 0, false) := fun k => by simp [impl_ValueOf.j0]
  refine Ev.bind (impl_IsAtom_ev l c s hl) (ev_ite (fun h1 => Ev.bind (impl_IsPoint_ev p _ hp) ?_) (fun h1 => ?_))
  · rw [isPt_eq]
    cases h2 : isPoint (ptOf p) (l.length : Int) with
    | false =>
      refine ev_eqr (Ev.step (f := fun _ => some (0, 0, false)) no (Ev.now _)) ?_
      simp
    | true =>
      simp only [h1, Bool.and_self, if_true]
      have hlen : p.length = l.length := by have := isPoint_len h2; rw [ptOf_len] at this; omega
      refine Ev.step (fun k => by rw [impl_ValueOf.j0, if_neg (by simp)]) ?_
      have key : ∀ i, i ≤ l.length → ∀ a b, Ev (fun k => impl_ValueOf.l0 k p l (l.length : Int) (i : Nat) a b) (valFin (valGo (l.drop i) ((ptOf p).drop i) (a, b))) := by
        refine down l.length ?_ ?_
        · intro a b
          refine Ev.step (fun k => by rw [impl_ValueOf.l0, if_neg (by omega)]) ?_
          rw [List.drop_length]
          exact Ev.bind (impl_IsRatio_ev a b) (Ev.now _)
        · intro i hi2 ih a b
          have hi : i < p.length := by omega
          have hi3 : i < (ptOf p).length := by rw [ptOf_len]; exact hi
          refine Ev.step (fun k => by rw [impl_ValueOf.l0]) ?_
          refine ev_pos (by omega) (ev_pos (by omega) (ev_pos (by omega) (ev_pos (by omega) ?_)))
          simp only [rd, rd_T56, Int.toNat_natCast, getD_of_lt hi, getD_of_lt hi2]
          refine Ev.bind (impl_MultiplyRatios_ev _ _ _ _) (Ev.bind (impl_AddRatios_ev _ _ _ _) ?_)
          rw [w64_succ (by omega), drop_cons hi2, drop_cons hi3, valGo]
          have e : (ptOf p)[i] = (p[i].f0, p[i].f1) := by simp [ptOf, rtOf]
          rw [e]
          exact ih _ _
      simpa using key 0 (by omega) c 1
  · refine ev_eqr (Ev.step (f := fun _ => some (0, 0, false)) no (Ev.now _)) ?_
    simp [h1]
theorem spec_HoldsAt_ev (l : List Int) (c : Int) (s : Bool) (p : List S56) (hl : l.length ≤ 1048576) (hp : p.length ≤ 1048576) : Ev (fun k => spec_HoldsAt.f k l c s p) (holdAt l c s (ptOf p)) := by
  unfold spec_HoldsAt.f holdAt
  refine Ev.bind (spec_ValueOf_ev l c s p hl hp) (ev_ite (fun h => ?_) (fun h => by simp only [h]; exact Ev.now _))
  simp only [h, if_true]
  refine ev_ite (fun h1 => ev_some (by simp [h1])) (fun h1 => ev_ite (fun h2 => ev_some (by simp [h2])) (fun h2 => ev_some (by simp [h1, h2])))
theorem impl_HoldsAt_ev (l : List Int) (c : Int) (s : Bool) (p : List S56) (hl : l.length ≤ 1048576) (hp : p.length ≤ 1048576) : Ev (fun k => impl_HoldsAt.f k l c s p) (holdAt l c s (ptOf p)) := by
  unfold impl_HoldsAt.f holdAt
  refine Ev.bind (impl_ValueOf_ev l c s p hl hp) (ev_ite (fun h => ?_) (fun h => by simp only [h]; exact Ev.now _))
  simp only [h, if_true]
  refine ev_ite (fun h1 => ev_some (by simp [h1])) (fun h1 => ev_ite (fun h2 => ev_some (by simp [h2])) (fun h2 => ev_some (by simp [h1, h2])))

end Go.Proofs.Ytaijkhabcidagaa.LFnExactHoldsAt
