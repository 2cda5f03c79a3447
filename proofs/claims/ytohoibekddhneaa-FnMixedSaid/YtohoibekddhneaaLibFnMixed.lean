/- What the printed functions of the law FnMixed compute, in plain words; each holds under the bounds that it names. -/
import Derived.Test.YtohoibekddhneaaQFnMixedx
import Derived.Test.YtohoibekddhneaaPlainFnMixed
import Derived.Test.YtohoibekddhneaaPlainAFnMixed
import Derived.Test.YtohoibekddhneaaPlainBFnMixed
set_option linter.unusedVariables false
set_option linter.unusedSimpArgs false
namespace Go.Proofs.Ytohoibekddhneaa.LFnMixed
open Go.RowKit Go.Proofs.Ytohoibekddhneaa.PFnMixed Go.Proofs.Ytohoibekddhneaa.Pl Go.Proofs.YtohoibekddhneaaW.PrintWords Go.Proofs.YtohoibekddhneaaW.PrintLast Go.Proofs.YtohoibekddhneaaW.PrintMore

theorem spec_l1In_eq (a b c : Int) : spec_l1In.f a b c = some (decide (b ≤ a) && decide (a ≤ c)) := by
  unfold spec_l1In.f
  by_cases h : b ≤ a
  · rw [if_pos h]; simp [h]
  · rw [if_neg h]; simp [h]
theorem spec_IsNumber_eq (n : Int) : spec_IsNumber.f n = some (isNum n) := by
  unfold spec_IsNumber.f
  rw [spec_l1In_eq]; rfl
theorem impl_IsNumber_eq (n : Int) : impl_IsNumber.f n = some (isNum n) := by
  unfold impl_IsNumber.f isNum
  by_cases h : n ≥ -400000000
  · rw [if_pos h]
    have h' : -400000000 ≤ n := h
    simp [h']
  · rw [if_neg h]
    have h' : ¬ -400000000 ≤ n := h
    simp [h']
theorem spec_l1Abs_eq (a : Int) (h : -9223372036854775807 ≤ a) (h' : a ≤ 9223372036854775807) : spec_l1Abs.f a = some (a.natAbs : Int) := by
  unfold spec_l1Abs.f mx
  rw [w64 (by omega) (by omega)]
  congr 1
  split <;> omega
theorem impl_absolute_eq (a : Int) (h : -9223372036854775807 ≤ a) (h' : a ≤ 9223372036854775807) : impl_absolute.f a = some (a.natAbs : Int) := by
  unfold impl_absolute.f
  by_cases c : a < 0
  · rw [if_pos c, w64 (by omega) (by omega)]; congr 1; omega
  · rw [if_neg c]; congr 1; omega
theorem impl_commonDivisor_l0_ev (a b : Int) : Ev (fun k => impl_commonDivisor.l0 k a b) (eu a b) := by
  fun_induction eu a b with
  | case1 a => exact Ev.step (f := fun _ => some a) (fun k => by simp [impl_commonDivisor.l0]) (Ev.now a)
  | case2 a b h ih => exact Ev.step (fun k => by simp only [impl_commonDivisor.l0]; rw [if_neg h]) ih
theorem impl_commonDivisor_ev (a b : Int) (h : -9223372036854775807 ≤ a ∧ a ≤ 9223372036854775807) (h' : -9223372036854775807 ≤ b ∧ b ≤ 9223372036854775807) : Ev (fun k => impl_commonDivisor.f k a b) (Int.gcd a b : Int) := by
  unfold impl_commonDivisor.f
  rw [impl_absolute_eq a h.1 h.2, impl_absolute_eq b h'.1 h'.2]
  simp only [Option.bind_some]
  rw [← eu_abs]
  exact impl_commonDivisor_l0_ev _ _
theorem spec_GcdOf_l0_ev (a b : Int) (h : -9223372036854775807 ≤ a ∧ a ≤ 9223372036854775807) (h' : -9223372036854775807 ≤ b ∧ b ≤ 9223372036854775807) : Ev (fun k => spec_GcdOf.l0 k a b) (Int.gcd a b : Int) := by
  rw [← eu_gcd]
  fun_induction eu a b with
  | case1 a => exact Ev.step (f := fun _ => some (a.natAbs : Int)) (fun k => by simp [spec_GcdOf.l0, spec_l1Abs_eq a h.1 h.2]) (Ev.now _)
  | case2 a b hb ih =>
    have := tmod_lt (a := a) hb
    exact Ev.step (fun k => by simp only [spec_GcdOf.l0]; rw [if_neg hb]) (ih h' (by omega))
theorem spec_GcdOf_ev (a b : Int) : Ev (fun k => spec_GcdOf.f k a b) (gcdOf a b) := by
  unfold spec_GcdOf.f gcdOf
  rw [spec_IsNumber_eq, spec_IsNumber_eq]
  simp only [Option.bind_some]
  cases ha : isNum a with
  | false => exact Ev.step (f := fun _ => some 0) (fun k => by simp [spec_GcdOf.j0]) (Ev.now _)
  | true =>
    cases hb : isNum b with
    | false => exact Ev.step (f := fun _ => some 0) (fun k => by simp [spec_GcdOf.j0]) (Ev.now _)
    | true =>
      rw [isNum_iff] at ha hb
      exact Ev.step (f := fun k => spec_GcdOf.l0 k a b) (fun k => by simp [spec_GcdOf.j0]) (spec_GcdOf_l0_ev a b (by omega) (by omega))
theorem impl_GcdOf_ev (a b : Int) : Ev (fun k => impl_GcdOf.f k a b) (gcdOf a b) := by
  unfold impl_GcdOf.f gcdOf
  rw [impl_IsNumber_eq, impl_IsNumber_eq]
  simp only [Option.bind_some]
  cases ha : isNum a with
  | false => simp; exact Ev.now _
  | true =>
    cases hb : isNum b with
    | false => simp; exact Ev.now _
    | true =>
      rw [isNum_iff] at ha hb
      simp only [if_true, Bool.and_self]
      exact Ev.bind (impl_commonDivisor_ev a b (by omega) (by omega)) (Ev.now _)
theorem spec_IsRatio_ev (n d : Int) : Ev (fun k => spec_IsRatio.f k n d) (isRat n d) := by
  unfold spec_IsRatio.f isRat
  rw [spec_l1In_eq, spec_IsNumber_eq]
  simp only [Option.bind_some]
  cases h1 : decide (1 ≤ d) && decide (d ≤ 400000000) with
  | false => simp; exact Ev.now _
  | true =>
    cases h2 : isNum n with
    | false => simp; exact Ev.now _
    | true =>
      simp only [if_true, Bool.true_and]
      refine Ev.bind (spec_GcdOf_ev n d) (ev_some ?_)
      have h3 : isNum d = true := by simp at h1; rw [isNum_iff]; omega
      simp only [gcdOf, h2, h3, Bool.and_self, if_true]
      rw [Bool.eq_iff_iff]; simp; omega
theorem impl_IsRatio_ev (n d : Int) : Ev (fun k => impl_IsRatio.f k n d) (isRat n d) := by
  unfold impl_IsRatio.f isRat
  rw [impl_IsNumber_eq]
  simp only [Option.bind_some]
  refine ev_ite (fun h1 => ev_ite (fun h2 => ?_) (fun h2 => ev_some ?_)) (fun h1 => ev_some ?_)
  · have h1' : 1 ≤ d := h1
    cases h3 : isNum n with
    | false => simp; exact Ev.now _
    | true =>
      simp only [if_true, h1', h2, decide_true, Bool.and_self, Bool.true_and]
      refine Ev.bind (impl_GcdOf_ev n d) (ev_some ?_)
      have h4 : isNum d = true := by rw [isNum_iff]; omega
      simp only [gcdOf, h3, h4, Bool.and_self, if_true]
      rw [Bool.eq_iff_iff]; simp; omega
  · simp [h2]
  · have h1' : ¬ 1 ≤ d := h1
    simp [h1']
theorem spec_l2Make_l0_ev (n d a b : Int) (hn : -9223372036854775807 ≤ n ∧ n ≤ 9223372036854775807) (hd : -9223372036854775807 ≤ d ∧ d ≤ 9223372036854775807)
    (h : -9223372036854775807 ≤ a ∧ a ≤ 9223372036854775807) (h' : -9223372036854775807 ≤ b ∧ b ≤ 9223372036854775807) (hg : (Int.gcd a b : Int) = Int.gcd n d) (hz : ¬ d = 0) : Ev (fun k => spec_l2Make.l0 k n d a b) (redOf n d) := by
  have hp := gcd_pos n d hz
  have he := eu_gcd a b
  revert he
  fun_induction eu a b with
  | case1 a =>
    intro he
    refine Ev.step (fun k => by simp only [spec_l2Make.l0, if_true]; rw [spec_l1Abs_eq a h.1 h.2, Option.bind_some]) ?_
    have e : (a.natAbs : Int) = Int.gcd n d := by rw [← hg, ← he]
    rw [e]
    refine ev_ite (fun h0 => by omega) (fun _ => ?_)
    rw [w64_tdiv hn.1 hn.2, w64_tdiv hd.1 hd.2]
    unfold redOf
    refine Ev.bind (spec_IsRatio_ev _ _) ?_
    exact ev_ite (fun h => by rw [if_pos h]; exact Ev.now _) (fun h => by rw [if_neg h]; exact Ev.now _)
  | case2 a b hb ih =>
    intro he
    have := tmod_lt (a := a) hb
    refine Ev.step (fun k => by simp only [spec_l2Make.l0]; rw [if_neg hb]) (ih h' (by omega) ?_ ?_)
    · rw [← hg]
      have e1 := eu_gcd b (a.tmod b)
      have e2 := eu_gcd a b
      have e3 : eu a b = eu b (a.tmod b) := by rw [eu]; simp [hb]
      rw [e3] at e2
      omega
    · exact eu_gcd _ _
theorem spec_l2Make_ev (n d : Int) (hn : -9223372036854775807 ≤ n ∧ n ≤ 9223372036854775807) (hd : -9223372036854775807 ≤ d ∧ d ≤ 9223372036854775807) : Ev (fun k => spec_l2Make.f k n d) (red n d) := by
  unfold spec_l2Make.f red
  refine ev_ite (fun h => by rw [if_pos h]; exact Ev.now _) (fun h => ?_)
  rw [if_neg h]
  refine ev_ite (fun h' => ?_) (fun h' => ?_)
  · rw [if_pos h', w64 (by omega) (by omega), w64 (by omega) (by omega)]
    exact Ev.step (fun k => by simp only [spec_l2Make.j0]) (spec_l2Make_l0_ev _ _ _ _ (by omega) (by omega) (by omega) (by omega) rfl (by omega))
  · rw [if_neg h']
    exact Ev.step (fun k => by simp only [spec_l2Make.j0]) (spec_l2Make_l0_ev _ _ _ _ (by omega) (by omega) (by omega) (by omega) rfl (by omega))
theorem impl_reducedRatio_j0_ev (n d : Int) (hn : -9223372036854775807 ≤ n ∧ n ≤ 9223372036854775807) (hd : -9223372036854775807 ≤ d ∧ d ≤ 9223372036854775807) (hz : ¬ d = 0) : Ev (fun k => impl_reducedRatio.j0 k n d) (redOf n d) := by
  have hp := gcd_pos n d hz
  refine Ev.step (fun k => by rw [impl_reducedRatio.j0]) ?_
  refine Ev.bind (impl_commonDivisor_ev n d hn hd) ?_
  refine ev_ite (fun h0 => by omega) (fun _ => ?_)
  rw [w64_tdiv hn.1 hn.2, w64_tdiv hd.1 hd.2]
  unfold redOf
  refine Ev.bind (impl_IsRatio_ev _ _) ?_
  exact ev_ite (fun h => by rw [if_pos h]; exact Ev.now _) (fun h => by rw [if_neg h]; exact Ev.now _)
theorem impl_reducedRatio_ev (n d : Int) (hn : -9223372036854775807 ≤ n ∧ n ≤ 9223372036854775807) (hd : -9223372036854775807 ≤ d ∧ d ≤ 9223372036854775807) : Ev (fun k => impl_reducedRatio.f k n d) (red n d) := by
  unfold impl_reducedRatio.f red
  refine ev_ite (fun h => by rw [if_pos h]; exact Ev.now _) (fun h => ?_)
  rw [if_neg h]
  refine ev_ite (fun h' => ?_) (fun h' => ?_)
  · rw [if_pos h', w64 (by omega) (by omega), w64 (by omega) (by omega)]
    exact impl_reducedRatio_j0_ev _ _ (by omega) (by omega) (by omega)
  · rw [if_neg h']
    exact impl_reducedRatio_j0_ev _ _ (by omega) (by omega) (by omega)
theorem spec_MakeRatio_ev (n d : Int) : Ev (fun k => spec_MakeRatio.f k n d) (makR n d) := by
  unfold spec_MakeRatio.f makR
  rw [spec_IsNumber_eq, spec_IsNumber_eq]
  simp only [Option.bind_some]
  cases ha : isNum n with
  | false => simp; exact Ev.now _
  | true =>
    cases hb : isNum d with
    | false => simp; exact Ev.now _
    | true =>
      rw [isNum_iff] at ha hb
      simp only [if_true, Bool.and_self]
      exact Ev.bind (spec_l2Make_ev n d (by omega) (by omega)) (Ev.now _)
theorem impl_AddRatios_ev (a b c d : Int) : Ev (fun k => impl_AddRatios.f k a b c d) (addR a b c d) := by
  unfold impl_AddRatios.f addR
  refine Ev.bind (impl_IsRatio_ev a b) (ev_ite (fun h1 => Ev.bind (impl_IsRatio_ev c d) (ev_ite (fun h2 => ?_) (fun h2 => ?_))) (fun h1 => ?_))
  · simp only [h1, h2, Bool.and_self, if_true]
    rw [isRat_iff] at h1 h2
    have m1 := mul_bd (a := a) (b := d) (by omega) (by omega)
    have m2 := mul_bd (a := c) (b := b) (by omega) (by omega)
    have m3 := mul_bd (a := b) (b := d) (by omega) (by omega)
    rw [w64 (a := a * d) (by omega) (by omega), w64 (a := c * b) (by omega) (by omega), w64 (a := b * d) (by omega) (by omega), w64 (by omega) (by omega)]
    exact Ev.bind (impl_reducedRatio_ev _ _ (by omega) (by omega)) (Ev.now _)
  · simp [h2]; exact Ev.now _
  · simp [h1]; exact Ev.now _
theorem impl_MultiplyRatios_ev (a b c d : Int) : Ev (fun k => impl_MultiplyRatios.f k a b c d) (mulR a b c d) := by
  unfold impl_MultiplyRatios.f mulR
  refine Ev.bind (impl_IsRatio_ev a b) (ev_ite (fun h1 => Ev.bind (impl_IsRatio_ev c d) (ev_ite (fun h2 => ?_) (fun h2 => ?_))) (fun h1 => ?_))
  · simp only [h1, h2, Bool.and_self, if_true]
    rw [isRat_iff] at h1 h2
    have m1 := mul_bd (a := a) (b := c) (by omega) (by omega)
    have m3 := mul_bd (a := b) (b := d) (by omega) (by omega)
    rw [w64 (a := a * c) (by omega) (by omega), w64 (a := b * d) (by omega) (by omega)]
    exact Ev.bind (impl_reducedRatio_ev _ _ (by omega) (by omega)) (Ev.now _)
  · simp [h2]; exact Ev.now _
  · simp [h1]; exact Ev.now _
def isPt (l : List S37) (d : Int) : Bool := decide ((l.length : Int) = d) && l.all fun r => isRat r.f0 r.f1
theorem impl_IsPoint_ev (l : List S37) (d : Int) (h : l.length ≤ 1048576) : Ev (fun k => impl_IsPoint.f k l d) (isPt l d) := by
  unfold impl_IsPoint.f isPt
  refine ev_ite (fun hd => ?_) (fun hd => ev_some (by simp [hd]))
  have := ev_all (fun k i => impl_IsPoint.l0 k l (l.length : Int) i) l (fun r => isRat r.f0 r.f1) true false
    (Ev.step (f := fun _ => some true) (fun k => by simp [impl_IsPoint.l0]) (Ev.now _))
    (fun i hi r hp ih => by
      refine Ev.step (fun k => by rw [impl_IsPoint.l0]) ?_
      refine ev_ite (fun _ => ev_ite (fun _ => ev_ite (fun _ => ?_) (fun h' => by omega)) (fun h' => by omega)) (fun h' => by omega)
      simp only [rd_T37, Int.toNat_natCast, getD_of_lt hi]
      refine Ev.bind (impl_IsRatio_ev _ _) ?_
      rw [w64_succ (by omega)]
      exact ev_pos hp ih)
    (fun i hi hp => by
      refine Ev.step (fun k => by rw [impl_IsPoint.l0]) ?_
      refine ev_ite (fun _ => ev_ite (fun _ => ev_ite (fun _ => ?_) (fun h' => by omega)) (fun h' => by omega)) (fun h' => by omega)
      simp only [rd_T37, Int.toNat_natCast, getD_of_lt hi]
      refine Ev.bind (impl_IsRatio_ev _ _) ?_
      rw [hp]
      simp
      exact Ev.now _)
  refine ev_eqr this ?_
  rw [decide_eq_true hd]
  cases l.all fun r => isRat r.f0 r.f1 <;> rfl
theorem spec_l2Gcd_l1_ev (x0 : List Int) (i : Nat) (hi : i < 4611686018427387904) (r : Int) (g a : Int) (hg : 0 ≤ g) (ha : 0 ≤ a) (h : Ev (fun k => spec_l2Gcd.l0 k x0 (eu g a) ((i + 1 : Nat) : Int)) r) : Ev (fun k => spec_l2Gcd.l1 k x0 g (i : Nat) a) r := by
  fun_induction eu g a with
  | case1 g => exact Ev.step (fun k => by rw [spec_l2Gcd.l1, if_pos rfl, w64_succ (by omega)]) h
  | case2 g a hz ih => exact Ev.step (fun k => by rw [spec_l2Gcd.l1, if_neg hz]) (ih ha (Int.tmod_nonneg _ hg) h)
theorem spec_l2Gcd_ev (l : List Int) (c : Int) (hl : l.length ≤ 1048576) (hb : ∀ x ∈ l, -9223372036854775807 ≤ x ∧ x ≤ 9223372036854775807) (hc : -9223372036854775807 ≤ c ∧ c ≤ 9223372036854775807) : Ev (fun k => spec_l2Gcd.f k l c) ((Nat.gcd (gcdL l) c.natAbs : Nat) : Int) := by
  unfold spec_l2Gcd.f
  rw [spec_l1Abs_eq c hc.1 hc.2]
  simp only [Option.bind_some]
  have := ev_fold (fun k (g : Nat) i => spec_l2Gcd.l0 k l (g : Int) i) l (fun g x => Nat.gcd g x.natAbs) (fun g => (g : Int)) (fun _ => True)
    (fun g _ => Ev.step (f := fun _ => some (g : Int)) (fun k => by simp [spec_l2Gcd.l0]) (Ev.now _))
    (fun i hi g r _ => ⟨trivial, fun ih => by
      have hx := hb l[i] (List.getElem_mem hi)
      refine Ev.step (fun k => by rw [spec_l2Gcd.l0]) ?_
      refine ev_pos (by omega) (ev_pos (by omega) ?_)
      simp only [rd, Int.toNat_natCast, getD_of_lt hi]
      rw [spec_l1Abs_eq _ hx.1 hx.2]
      simp only [Option.bind_some]
      refine spec_l2Gcd_l1_ev l i (by omega) r _ _ (by omega) (by omega) ?_
      have e : eu (g : Int) (l[i].natAbs : Int) = ((Nat.gcd g l[i].natAbs : Nat) : Int) := by
        have h1 := eu_gcd (g : Int) (l[i].natAbs : Int)
        have h2 := eu_nonneg (g : Int) (l[i].natAbs : Int) (by omega) (by omega)
        simp only [Int.gcd, Int.natAbs_natCast] at h1
        omega
      rw [e]; exact ih⟩) c.natAbs trivial
  refine ev_eqr this ?_
  have e := gcdF_eq l c.natAbs
  unfold gcdF at e
  rw [e, Nat.gcd_comm]
theorem isNum_bd {x : Int} (h : isNum x = true) : -9223372036854775807 ≤ x ∧ x ≤ 9223372036854775807 := by rw [isNum_iff] at h; omega
theorem spec_IsAtom_l0_ev (l : List Int) (c : Int) (s : Bool) (hl : l.length ≤ 1048576) (hc : isNum c = true) : Ev (fun k => spec_IsAtom.l0 k 0 l c s) (if l.all isNum then decide (Nat.gcd (gcdL l) c.natAbs ≤ 1) else false) := by
  have := ev_allq (fun k i => spec_IsAtom.l0 k i l c s) l isNum (decide (Nat.gcd (gcdL l) c.natAbs ≤ 1)) false
    (fun hall => by
      refine Ev.step (fun k => by rw [spec_IsAtom.l0, if_neg (by omega)]) ?_
      refine Ev.bind (spec_l2Gcd_ev l c hl (fun x hx => isNum_bd (List.all_eq_true.1 hall x hx)) (isNum_bd hc)) (ev_some ?_)
      rw [Bool.eq_iff_iff]; simp; omega)
    (fun i hi r hp ih => by
      refine Ev.step (fun k => by rw [spec_IsAtom.l0]) ?_
      refine ev_pos (by omega) (ev_pos (by omega) ?_)
      simp only [rd, Int.toNat_natCast, getD_of_lt hi]
      rw [spec_IsNumber_eq, w64_succ (by omega)]
      simp only [Option.bind_some]
      exact ev_pos hp ih)
    (fun i hi hp => by
      refine Ev.step (fun k => by rw [spec_IsAtom.l0]) ?_
      refine ev_pos (by omega) (ev_pos (by omega) ?_)
      simp only [rd, Int.toNat_natCast, getD_of_lt hi]
      rw [spec_IsNumber_eq]
      simp only [Option.bind_some]
      exact ev_neg (by simp [hp]) (Ev.now _))
  simpa using this
theorem spec_IsAtom_ev (l : List Int) (c : Int) (s : Bool) (hl : l.length ≤ 1048576) : Ev (fun k => spec_IsAtom.f k l c s) (isAt l c) := by
  unfold spec_IsAtom.f
  refine ev_ite (fun h => ?_) (fun h => ?_)
  · refine ev_eqr (Ev.step (f := fun _ => some false) (fun k => by simp [spec_IsAtom.j0]) (Ev.now _)) ?_
    simp only [isAt, show ¬ l.length ≤ 4 by omega, decide_false, Bool.false_and]
  · rw [spec_IsNumber_eq]
    simp only [Option.bind_some]
    cases hc : isNum c with
    | false =>
      refine ev_eqr (Ev.step (f := fun _ => some false) (fun k => by simp [spec_IsAtom.j0]) (Ev.now _)) ?_
      simp [isAt, hc]
    | true =>
      refine Ev.step (f := fun k => spec_IsAtom.l0 k 0 l c s) (fun k => by simp [spec_IsAtom.j0]) ?_
      refine ev_eqr (spec_IsAtom_l0_ev l c s hl hc) ?_
      cases hall : l.all isNum <;> simp [isAt, hc, hall, show l.length ≤ 4 by omega]
theorem all_tdiv {l : List Int} {g : Int} : ∀ x ∈ l.map (·.tdiv g), ∃ y ∈ l, x = y.tdiv g := by
  intro x hx
  obtain ⟨y, hy, rfl⟩ := List.mem_map.1 hx
  exact ⟨y, hy, rfl⟩
theorem spec_l2Atom_ev (l : List Int) (c : Int) (s : Bool) (hl : l.length ≤ 1048576) (hb : ∀ x ∈ l, -9223372036854775807 ≤ x ∧ x ≤ 9223372036854775807) (hc : -9223372036854775807 ≤ c ∧ c ≤ 9223372036854775807) : Ev (fun k => spec_l2Atom.f k l c s) (mkAt l c s) := by
  unfold spec_l2Atom.f
  refine Ev.bind (spec_l2Gcd_ev l c hl hb hc) ?_
  rw [mx_div1]
  have hp := div1_pos (Nat.gcd (gcdL l) c.natAbs)
  refine ev_neg (by omega) ?_
  rw [w64_tdiv hc.1 hc.2]
  have := ev_push (fun k ys i => spec_l2Atom.l0 k l (div1 (Nat.gcd (gcdL l) c.natAbs)) i ys (c.tdiv (div1 (Nat.gcd (gcdL l) c.natAbs))) s) l (fun _ x => x.tdiv (div1 (Nat.gcd (gcdL l) c.natAbs))) (mkAt l c s)
    (by
      rw [mapIdx_const l (fun x => x.tdiv (div1 (Nat.gcd (gcdL l) c.natAbs)))]
      refine Ev.step (fun k => by rw [spec_l2Atom.l0, if_neg (by omega)]) ?_
      refine Ev.bind (spec_IsAtom_ev _ _ s (by simpa using hl)) ?_
      unfold mkAt
      exact ev_ite (fun h => by simp only [h, if_true]; exact Ev.now _) (fun h => by simp only [h]; exact Ev.now _))
    (fun i hi ys hy ih => by
      have hx := hb l[i] (List.getElem_mem hi)
      refine Ev.step (fun k => by rw [spec_l2Atom.l0]) ?_
      refine ev_pos (by omega) (ev_pos (by omega) (ev_neg (by omega) (ev_pos (by omega) ?_)))
      simp only [rd, Int.toNat_natCast, getD_of_lt hi]
      rw [w64_succ (by omega), w64_tdiv hx.1 hx.2]
      exact ih)
  simpa using this
theorem spec_MakeAtom_ev (l : List Int) (c : Int) (s : Bool) (hl : l.length ≤ 1048576) : Ev (fun k => spec_MakeAtom.f k l c s) (makeAt l c s) := by
  unfold spec_MakeAtom.f
  have := ev_allq (fun k i => spec_MakeAtom.l0 k l c s i) l isNum (makeAt l c s) noAt
    (fun hall => by
      refine Ev.step (fun k => by rw [spec_MakeAtom.l0, if_neg (by omega)]) ?_
      rw [spec_IsNumber_eq]
      simp only [Option.bind_some]
      unfold makeAt
      refine ev_ite (fun h => ev_ite (fun h4 => ?_) (fun h4 => ?_)) (fun h => ?_)
      · rw [if_neg (by simp; omega)]; exact Ev.now _
      · rw [if_pos (by simp [h, hall]; omega)]
        exact Ev.bind (spec_l2Atom_ev l c s hl (fun x hx => isNum_bd (List.all_eq_true.1 hall x hx)) (isNum_bd h)) (Ev.now _)
      · rw [if_neg (by simp [h])]; exact Ev.now _)
    (fun i hi r hp ih => by
      refine Ev.step (fun k => by rw [spec_MakeAtom.l0]) ?_
      refine ev_pos (by omega) (ev_pos (by omega) ?_)
      simp only [rd, Int.toNat_natCast, getD_of_lt hi]
      rw [spec_IsNumber_eq, w64_succ (by omega)]
      simp only [Option.bind_some]
      exact ev_pos hp ih)
    (fun i hi hp => by
      refine Ev.step (fun k => by rw [spec_MakeAtom.l0]) ?_
      refine ev_pos (by omega) (ev_pos (by omega) ?_)
      simp only [rd, Int.toNat_natCast, getD_of_lt hi]
      rw [spec_IsNumber_eq]
      simp only [Option.bind_some]
      exact ev_neg (by simp [hp]) (Ev.now _))
  refine ev_eqr this ?_
  split
  · rfl
  · rename_i h
    unfold makeAt
    rw [if_neg (by simp only [Bool.and_eq_true]; exact fun h' => h h'.2)]
theorem impl_divisorOf_ev (l : List Int) (hl : l.length ≤ 1048576) (hb : ∀ x ∈ l, -9223372036854775807 ≤ x ∧ x ≤ 9223372036854775807) : Ev (fun k => impl_divisorOf.f k l) (gcdL l : Int) := by
  unfold impl_divisorOf.f
  have := ev_fold (fun k (g : Nat) i => impl_divisorOf.l0 k (g : Int) l (l.length : Int) i) l (fun g x => Nat.gcd g x.natAbs) (fun g => (g : Int)) (fun g => g ≤ 9223372036854775807)
    (fun g _ => Ev.step (f := fun _ => some (g : Int)) (fun k => by simp [impl_divisorOf.l0]) (Ev.now _))
    (fun i hi g r hg => by
      have hx := hb l[i] (List.getElem_mem hi)
      refine ⟨gcd_le_max _ _ _ hg (by omega), fun ih => ?_⟩
      refine Ev.step (fun k => by rw [impl_divisorOf.l0]) ?_
      refine ev_pos (by omega) (ev_pos (by omega) (ev_pos (by omega) ?_))
      simp only [rd, Int.toNat_natCast, getD_of_lt hi]
      refine Ev.bind (impl_commonDivisor_ev _ _ (by omega) hx) ?_
      rw [w64_succ (by omega)]
      have e : ((Int.gcd (g : Int) l[i] : Nat) : Int) = ((Nat.gcd g l[i].natAbs : Nat) : Int) := by simp [Int.gcd]
      rw [e]; exact ih) 0 (by omega)
  exact this
theorem isNum_bd' {x : Int} (h : isNum x = true) : -9223372036854775807 ≤ x ∧ x ≤ 9223372036854775807 := by rw [isNum_iff] at h; omega
theorem impl_IsAtom_l0_ev (l : List Int) (c : Int) (s : Bool) (hl : l.length ≤ 1048576) (hc : isNum c = true) : Ev (fun k => impl_IsAtom.l0 k l (l.length : Int) 0 l c s) (if l.all isNum then decide (Nat.gcd (gcdL l) c.natAbs ≤ 1) else false) := by
  have := ev_allq (fun k i => impl_IsAtom.l0 k l (l.length : Int) i l c s) l isNum (decide (Nat.gcd (gcdL l) c.natAbs ≤ 1)) false
    (fun hall => by
      have hb := fun x hx => isNum_bd' (List.all_eq_true.1 hall x hx)
      have hg : gcdL l ≤ 9223372036854775807 := gcdL_le l _ (fun x hx => by have := hb x hx; omega)
      refine Ev.step (fun k => by rw [impl_IsAtom.l0, if_neg (by omega)]) ?_
      refine Ev.bind (impl_divisorOf_ev l hl hb) (Ev.bind (impl_commonDivisor_ev _ c (by omega) (isNum_bd' hc)) (ev_some ?_))
      have e : ((Int.gcd (gcdL l : Int) c : Nat) : Int) = ((Nat.gcd (gcdL l) c.natAbs : Nat) : Int) := by simp [Int.gcd]
      rw [e, Bool.eq_iff_iff]; simp; omega)
    (fun i hi r hp ih => by
      refine Ev.step (fun k => by rw [impl_IsAtom.l0]) ?_
      refine ev_pos (by omega) (ev_pos (by omega) (ev_pos (by omega) ?_))
      simp only [rd, Int.toNat_natCast, getD_of_lt hi]
      rw [impl_IsNumber_eq, w64_succ (by omega)]
      simp only [Option.bind_some]
      exact ev_pos hp ih)
    (fun i hi hp => by
      refine Ev.step (fun k => by rw [impl_IsAtom.l0]) ?_
      refine ev_pos (by omega) (ev_pos (by omega) (ev_pos (by omega) ?_))
      simp only [rd, Int.toNat_natCast, getD_of_lt hi]
      rw [impl_IsNumber_eq]
      simp only [Option.bind_some]
      exact ev_neg (by simp [hp]) (Ev.now _))
  simpa using this
theorem impl_IsAtom_ev (l : List Int) (c : Int) (s : Bool) (hl : l.length ≤ 1048576) : Ev (fun k => impl_IsAtom.f k l c s) (isAt l c) := by
  unfold impl_IsAtom.f
  refine ev_ite (fun h => ?_) (fun h => ?_)
  · refine ev_eqr (Ev.step (f := fun _ => some false) (fun k => by simp [impl_IsAtom.j0]) (Ev.now _)) ?_
    simp only [isAt, show ¬ l.length ≤ 4 by omega, decide_false, Bool.false_and]
  · rw [impl_IsNumber_eq]
    simp only [Option.bind_some]
    cases hc : isNum c with
    | false =>
      refine ev_eqr (Ev.step (f := fun _ => some false) (fun k => by simp [impl_IsAtom.j0]) (Ev.now _)) ?_
      simp [isAt, hc]
    | true =>
      refine Ev.step (f := fun k => impl_IsAtom.l0 k l (l.length : Int) 0 l c s) (fun k => by simp [impl_IsAtom.j0]) ?_
      refine ev_eqr (impl_IsAtom_l0_ev l c s hl hc) ?_
      cases hall : l.all isNum <;> simp [isAt, hc, hall, show l.length ≤ 4 by omega]
theorem impl_makeOf_j0_ev (l : List Int) (c : Int) (s : Bool) (g : Int) (hg : 0 < g) (hl : l.length ≤ 1048576) (hb : ∀ x ∈ l, -9223372036854775807 ≤ x ∧ x ≤ 9223372036854775807) (hc : -9223372036854775807 ≤ c ∧ c ≤ 9223372036854775807) :
    Ev (fun k => impl_makeOf.j0 k l c s g) (if isAt (l.map (·.tdiv g)) (c.tdiv g) then (l.map (·.tdiv g), c.tdiv g, s, true) else noAt) := by
  refine Ev.step (fun k => by rw [impl_makeOf.j0]) ?_
  refine ev_pos (by omega) (ev_pos (by simp; omega) (ev_neg (by omega) ?_))
  rw [w64_tdiv hc.1 hc.2]
  have := ev_put (fun k ys i => impl_makeOf.l0 k g l (l.length : Int) i ys (c.tdiv g) s) l (fun _ x => x.tdiv g) 0 (if isAt (l.map (·.tdiv g)) (c.tdiv g) then (l.map (·.tdiv g), c.tdiv g, s, true) else noAt)
    (by
      rw [mapIdx_const l (fun x => x.tdiv g)]
      refine Ev.step (fun k => by rw [impl_makeOf.l0, if_neg (by omega)]) ?_
      refine Ev.bind (impl_IsAtom_ev _ _ s (by simpa using hl)) ?_
      exact ev_ite (fun h => by simp only [h, if_true]; exact Ev.now _) (fun h => by simp only [h]; exact Ev.now _))
    (fun i hi ys hy ih => by
      have hx := hb l[i] (List.getElem_mem hi)
      refine Ev.step (fun k => by rw [impl_makeOf.l0]) ?_
      refine ev_pos (by omega) (ev_pos (by omega) (ev_pos (by omega) (ev_neg (by omega) (ev_pos (by omega) ?_))))
      simp only [rd, Int.toNat_natCast, getD_of_lt hi]
      rw [w64_succ (by omega), w64_tdiv hx.1 hx.2]
      exact ih)
  simpa using this
theorem impl_makeOf_ev (l : List Int) (c : Int) (s : Bool) (hl : l.length ≤ 1048576) (hb : ∀ x ∈ l, -9223372036854775807 ≤ x ∧ x ≤ 9223372036854775807) (hc : -9223372036854775807 ≤ c ∧ c ≤ 9223372036854775807) : Ev (fun k => impl_makeOf.f k l c s) (mkAt l c s) := by
  have hg : gcdL l ≤ 9223372036854775807 := gcdL_le l _ (fun x hx => by have := hb x hx; omega)
  unfold impl_makeOf.f
  refine Ev.bind (impl_divisorOf_ev l hl hb) (Ev.bind (impl_commonDivisor_ev _ c (by omega) hc) ?_)
  have e : ((Int.gcd (gcdL l : Int) c : Nat) : Int) = ((Nat.gcd (gcdL l) c.natAbs : Nat) : Int) := by simp [Int.gcd]
  rw [e]
  unfold mkAt
  refine ev_ite (fun h => ?_) (fun h => ?_)
  · have e2 : div1 (Nat.gcd (gcdL l) c.natAbs) = 1 := by unfold div1; rw [if_pos (by omega)]
    simp only [e2]
    exact impl_makeOf_j0_ev l c s 1 (by omega) hl hb hc
  · have e2 : div1 (Nat.gcd (gcdL l) c.natAbs) = ((Nat.gcd (gcdL l) c.natAbs : Nat) : Int) := by unfold div1; rw [if_neg (by omega)]
    simp only [e2]
    exact impl_makeOf_j0_ev l c s _ (by omega) hl hb hc
theorem mix_bd {p q x y : Int} (hp : 0 ≤ p ∧ p ≤ 400000000) (hq : 0 ≤ q ∧ q ≤ 400000000) (hx : isNum x = true) (hy : isNum y = true) :
    wrap64 (p * x) = p * x ∧ wrap64 (q * y) = q * y ∧ wrap64 (p * x + q * y) = p * x + q * y ∧ -9223372036854775807 ≤ p * x + q * y ∧ p * x + q * y ≤ 9223372036854775807 := by
  rw [isNum_iff] at hx hy
  have m1 := mul_bd (a := p) (b := x) (by omega) hx
  have m2 := mul_bd (a := q) (b := y) (by omega) hy
  exact ⟨w64 (by omega) (by omega), w64 (by omega) (by omega), w64 (by omega) (by omega), by omega, by omega⟩
theorem mixL_bd {p q : Int} {l1 l2 : List Int} (hp : 0 ≤ p ∧ p ≤ 400000000) (hq : 0 ≤ q ∧ q ≤ 400000000) (h1 : ∀ x ∈ l1, isNum x = true) (h2 : ∀ x ∈ l2, isNum x = true) : ∀ x ∈ mixL p l1 q l2, -9223372036854775807 ≤ x ∧ x ≤ 9223372036854775807 := by
  intro x hx
  unfold mixL at hx
  obtain ⟨i, hi, rfl⟩ := List.getElem_of_mem hx
  rw [List.length_zipWith] at hi
  rw [List.getElem_zipWith]
  have := mix_bd hp hq (h1 _ (List.getElem_mem (show i < l1.length by omega))) (h2 _ (List.getElem_mem (show i < l2.length by omega)))
  exact ⟨this.2.2.2.1, this.2.2.2.2⟩
theorem mixL_idx (p : Int) (l1 : List Int) (q : Int) (l2 : List Int) (h : l1.length = l2.length) : l1.mapIdx (fun i x => p * x + q * l2.getD i 0) = mixL p l1 q l2 := by
  unfold mixL
  refine List.ext_getElem (by simp; omega) (fun i h1 h2 => ?_)
  simp only [List.length_mapIdx] at h1
  rw [List.getElem_mapIdx, List.getElem_zipWith, getD_of_lt (by omega)]
theorem spec_MixAtoms_ev (l1 : List Int) (c1 : Int) (s1 : Bool) (p : Int) (l2 : List Int) (c2 : Int) (s2 : Bool) (q : Int) (hl1 : l1.length ≤ 1048576) (hl2 : l2.length ≤ 1048576) : Ev (fun k => spec_MixAtoms.f k l1 c1 s1 p l2 c2 s2 q) (mixAt l1 c1 s1 p l2 c2 s2 q) := by
  unfold spec_MixAtoms.f mixAt
  have no : ∀ k, spec_MixAtoms.j0 (k + 1) p q true l1 c1 s1 l2 c2 s2 = some noAt := fun k => by simp [spec_MixAtoms.j0, noAt]
  have nop : ∀ {b : Bool}, b = false → Ev (fun k => spec_MixAtoms.j0 k p q true l1 c1 s1 l2 c2 s2) (if b then mkAt (mixL p l1 q l2) (p * c1 + q * c2) (s1 && decide (0 < p) || s2 && decide (0 < q)) else noAt) := fun hb => by
    rw [hb]; exact Ev.step (f := fun _ => some noAt) no (Ev.now _)
  refine Ev.bind (spec_IsAtom_ev l1 c1 s1 hl1) (ev_ite (fun h1 => Ev.bind (spec_IsAtom_ev l2 c2 s2 hl2) (ev_ite (fun h2 => ev_ite (fun h3 => ?_) (fun h3 => ?_)) (fun h2 => ?_))) (fun h1 => ?_))
  · have h3' : l1.length = l2.length := by omega
    rw [spec_l1In_eq, spec_l1In_eq]
    simp only [Option.bind_some]
    refine ev_ite (fun h4 => ?_) (fun h4 => ?_)
    · rw [h1, h2, decide_eq_true h3', h4]
      simp only [Bool.and_self, Bool.true_and]
      cases h5 : decide (0 ≤ q) && decide (q ≤ 400000000) with
      | false => exact nop rfl
      | true =>
        simp only [if_true]
        simp only [Bool.and_eq_true, decide_eq_true_eq] at h4 h5
        obtain ⟨_, hc1, hb1, _⟩ := isAt_iff.1 h1
        obtain ⟨_, hc2, hb2, _⟩ := isAt_iff.1 h2
        have mc := mix_bd h4 h5 hc1 hc2
        have hbm := mixL_bd h4 h5 hb1 hb2
        have hlm : (mixL p l1 q l2).length ≤ 1048576 := by unfold mixL; rw [List.length_zipWith]; omega
        refine Ev.step (fun k => by rw [spec_MixAtoms.j0, if_neg (by simp)]) ?_
        exact ev_push (fun k ys i => spec_MixAtoms.l0 k p q ys i l1 c1 s1 l2 c2 s2) l1 (fun i x => p * x + q * l2.getD i 0) (mkAt (mixL p l1 q l2) (p * c1 + q * c2) (s1 && decide (0 < p) || s2 && decide (0 < q)))
          (by
            rw [mixL_idx p l1 q l2 h3']
            refine Ev.step (fun k => by rw [spec_MixAtoms.l0, if_neg (by omega)]) ?_
            rw [mc.1, mc.2.1, mc.2.2.1]
            have fin : ∀ s, Ev (fun k => (spec_l2Atom.f k (mixL p l1 q l2) (p * c1 + q * c2) s).bind fun bt => some (bt.1, bt.2.1, bt.2.2.1, bt.2.2.2)) (mkAt (mixL p l1 q l2) (p * c1 + q * c2) s) :=
              fun s => Ev.bind (spec_l2Atom_ev _ _ s hlm hbm mc.2.2.2) (Ev.now _)
            cases s1 with
            | true =>
              refine ev_pos rfl (ev_ite (fun hp => ?_) (fun hp => ?_))
              · rw [decide_eq_true (show 0 < p from hp)]; exact fin true
              · rw [decide_eq_false (show ¬ 0 < p from hp)]
                cases s2 with
                | true => refine ev_pos rfl ?_; exact fin _
                | false => refine ev_neg (by simp) ?_; exact fin _
            | false =>
              refine ev_neg (by simp) ?_
              cases s2 with
              | true => refine ev_pos rfl ?_; exact fin _
              | false => refine ev_neg (by simp) ?_; exact fin _)
          (fun i hi ys hy ih => by
            have hi2 : i < l2.length := by omega
            have mx := mix_bd h4 h5 (hb1 _ (List.getElem_mem hi)) (hb2 _ (List.getElem_mem hi2))
            refine Ev.step (fun k => by rw [spec_MixAtoms.l0]) ?_
            refine ev_pos (by omega) (ev_pos (by omega) (ev_pos (by omega) (ev_pos (by omega) ?_)))
            simp only [rd, Int.toNat_natCast, getD_of_lt hi, getD_of_lt hi2] at ih ⊢
            rw [w64_succ (by omega), mx.1, mx.2.1, mx.2.2.1]
            exact ih)
    · exact nop (by rw [Bool.not_eq_true] at h4; rw [h4]; simp)
  · exact nop (by rw [decide_eq_false (show ¬ l1.length = l2.length by omega)]; simp)
  · exact nop (by simp [h2])
  · exact nop (by simp [h1])
theorem mix_bd' {p q x y : Int} (hp : 0 ≤ p ∧ p ≤ 400000000) (hq : 0 ≤ q ∧ q ≤ 400000000) (hx : isNum x = true) (hy : isNum y = true) :
    wrap64 (p * x) = p * x ∧ wrap64 (q * y) = q * y ∧ wrap64 (p * x + q * y) = p * x + q * y ∧ -9223372036854775807 ≤ p * x + q * y ∧ p * x + q * y ≤ 9223372036854775807 := by
  rw [isNum_iff] at hx hy
  have m1 := mul_bd (a := p) (b := x) (by omega) hx
  have m2 := mul_bd (a := q) (b := y) (by omega) hy
  exact ⟨w64 (by omega) (by omega), w64 (by omega) (by omega), w64 (by omega) (by omega), by omega, by omega⟩
theorem mixL_bd' {p q : Int} {l1 l2 : List Int} (hp : 0 ≤ p ∧ p ≤ 400000000) (hq : 0 ≤ q ∧ q ≤ 400000000) (h1 : ∀ x ∈ l1, isNum x = true) (h2 : ∀ x ∈ l2, isNum x = true) : ∀ x ∈ mixL p l1 q l2, -9223372036854775807 ≤ x ∧ x ≤ 9223372036854775807 := by
  intro x hx
  unfold mixL at hx
  obtain ⟨i, hi, rfl⟩ := List.getElem_of_mem hx
  rw [List.length_zipWith] at hi
  rw [List.getElem_zipWith]
  have := mix_bd' hp hq (h1 _ (List.getElem_mem (show i < l1.length by omega))) (h2 _ (List.getElem_mem (show i < l2.length by omega)))
  exact ⟨this.2.2.2.1, this.2.2.2.2⟩
theorem mixL_idx' (p : Int) (l1 : List Int) (q : Int) (l2 : List Int) (h : l1.length = l2.length) : (List.replicate l1.length (0 : Int)).mapIdx (fun i _ => p * l1.getD i 0 + q * l2.getD i 0) = mixL p l1 q l2 := by
  unfold mixL
  refine List.ext_getElem (by simp; omega) (fun i h1 h2 => ?_)
  simp only [List.length_mapIdx, List.length_replicate] at h1
  rw [List.getElem_mapIdx, List.getElem_zipWith, getD_of_lt (by omega), getD_of_lt (by omega)]
theorem impl_MixAtoms_j1_ev (l1 : List Int) (c1 : Int) (s1 : Bool) (p : Int) (l2 : List Int) (c2 : Int) (s2 : Bool) (q : Int) (h4 : 0 ≤ p ∧ p ≤ 400000000) (h5 : 0 ≤ q ∧ q ≤ 400000000) (h1 : isAt l1 c1 = true) (h2 : isAt l2 c2 = true) (h3 : l1.length = l2.length) :
    Ev (fun k => impl_MixAtoms.j1 k p q false l1 c1 s1 l2 c2 s2) (mkAt (mixL p l1 q l2) (p * c1 + q * c2) (s1 && decide (0 < p) || s2 && decide (0 < q))) := by
  obtain ⟨hl4, hc1, hb1, _⟩ := isAt_iff.1 h1
  obtain ⟨_, hc2, hb2, _⟩ := isAt_iff.1 h2
  have mc := mix_bd' h4 h5 hc1 hc2
  have hbm := mixL_bd' h4 h5 hb1 hb2
  have hlm : (mixL p l1 q l2).length ≤ 1048576 := by unfold mixL; rw [List.length_zipWith]; omega
  refine Ev.step (fun k => by rw [impl_MixAtoms.j1, if_neg (by simp)]) ?_
  refine ev_pos (by omega) (ev_pos (by simp; omega) ?_)
  simp only [Option.bind_some, Int.toNat_natCast, List.length_replicate]
  have := ev_upd (fun k ys i => impl_MixAtoms.l0 k p q ys (l1.length : Int) i l1 c1 s1 l2 c2 s2) (List.replicate l1.length (0 : Int)) (fun i _ => p * l1.getD i 0 + q * l2.getD i 0) (mkAt (mixL p l1 q l2) (p * c1 + q * c2) (s1 && decide (0 < p) || s2 && decide (0 < q)))
    (by
      rw [mixL_idx' p l1 q l2 h3, List.length_replicate]
      refine Ev.step (fun k => by rw [impl_MixAtoms.l0, if_neg (by omega)]) ?_
      rw [mc.1, mc.2.1, mc.2.2.1]
      have fin : ∀ s, Ev (fun k => (impl_makeOf.f k (mixL p l1 q l2) (p * c1 + q * c2) s).bind fun bt => some (bt.1, bt.2.1, bt.2.2.1, bt.2.2.2)) (mkAt (mixL p l1 q l2) (p * c1 + q * c2) s) :=
        fun s => Ev.bind (impl_makeOf_ev _ _ s hlm hbm mc.2.2.2) (Ev.now _)
      have eq : (q != 0) = decide (0 < q) := by rw [Bool.eq_iff_iff]; simp; omega
      rw [eq]
      cases s1 with
      | true =>
        refine ev_pos rfl (ev_ite (fun hp => ?_) (fun hp => ?_))
        · rw [decide_eq_false (show ¬ 0 < p by omega)]
          cases s2 with
          | true => refine ev_pos rfl ?_; exact fin _
          | false => refine ev_neg (by simp) ?_; exact fin _
        · rw [decide_eq_true (show 0 < p by omega)]; exact fin true
      | false =>
        refine ev_neg (by simp) ?_
        cases s2 with
        | true => refine ev_pos rfl ?_; exact fin _
        | false => refine ev_neg (by simp) ?_; exact fin _)
    (fun i hi ys hy hyi ih => by
      rw [List.length_replicate] at hi hy
      have hi2 : i < l2.length := by omega
      have mx := mix_bd' h4 h5 (hb1 _ (List.getElem_mem hi)) (hb2 _ (List.getElem_mem hi2))
      refine Ev.step (fun k => by rw [impl_MixAtoms.l0]) ?_
      refine ev_pos (by omega) (ev_pos (by omega) (ev_pos (by omega) (ev_pos (by omega) (ev_pos (by omega) ?_))))
      simp only [rd, Int.toNat_natCast, getD_of_lt hi, getD_of_lt hi2] at ih ⊢
      rw [w64_succ (by omega), mx.1, mx.2.1, mx.2.2.1]
      exact ih)
  exact this
theorem impl_MixAtoms_ev (l1 : List Int) (c1 : Int) (s1 : Bool) (p : Int) (l2 : List Int) (c2 : Int) (s2 : Bool) (q : Int) (hl1 : l1.length ≤ 1048576) (hl2 : l2.length ≤ 1048576) : Ev (fun k => impl_MixAtoms.f k l1 c1 s1 p l2 c2 s2 q) (mixAt l1 c1 s1 p l2 c2 s2 q) := by
  unfold impl_MixAtoms.f mixAt
  have no : ∀ k, impl_MixAtoms.j0 (k + 1) p q true l1 c1 s1 l2 c2 s2 = some noAt := fun k => by simp [impl_MixAtoms.j0, noAt]
  have no1 : ∀ k, impl_MixAtoms.j1 (k + 1) p q true l1 c1 s1 l2 c2 s2 = some noAt := fun k => by simp [impl_MixAtoms.j1, noAt]
  have nop : ∀ {b : Bool}, b = false → Ev (fun k => impl_MixAtoms.j0 k p q true l1 c1 s1 l2 c2 s2) (if b then mkAt (mixL p l1 q l2) (p * c1 + q * c2) (s1 && decide (0 < p) || s2 && decide (0 < q)) else noAt) := fun hb => by
    rw [hb]; exact Ev.step (f := fun _ => some noAt) no (Ev.now _)
  have nop1 : ∀ {b : Bool}, b = false → Ev (fun k => impl_MixAtoms.j1 k p q true l1 c1 s1 l2 c2 s2) (if b then mkAt (mixL p l1 q l2) (p * c1 + q * c2) (s1 && decide (0 < p) || s2 && decide (0 < q)) else noAt) := fun hb => by
    rw [hb]; exact Ev.step (f := fun _ => some noAt) no1 (Ev.now _)
  refine Ev.bind (impl_IsAtom_ev l1 c1 s1 hl1) (ev_ite (fun h1 => Ev.bind (impl_IsAtom_ev l2 c2 s2 hl2) (ev_ite (fun h2 => ?_) (fun h2 => ?_))) (fun h1 => ?_))
  · by_cases h3 : l1.length = l2.length
    · rw [show ((l1.length : Int) != (l2.length : Int)) = false by simp [h3]]
      refine Ev.step (fun k => by rw [impl_MixAtoms.j0, if_neg (by simp)]) ?_
      refine ev_ite (fun a => nop1 ?_) (fun a => ev_ite (fun b => nop1 ?_) (fun b => ev_ite (fun c => nop1 ?_) (fun c => ?_)))
      · rw [decide_eq_false (show ¬ 0 ≤ p by omega)]; simp
      · rw [decide_eq_false (show ¬ p ≤ 400000000 by omega)]; simp
      · rw [decide_eq_false (show ¬ 0 ≤ q by omega)]; simp
      · by_cases d : q > 400000000
        · rw [decide_eq_true d]
          exact nop1 (by rw [decide_eq_false (show ¬ q ≤ 400000000 by omega)]; simp)
        · rw [decide_eq_false d, h1, h2, decide_eq_true h3, decide_eq_true (show 0 ≤ p by omega), decide_eq_true (show p ≤ 400000000 by omega), decide_eq_true (show 0 ≤ q by omega), decide_eq_true (show q ≤ 400000000 by omega)]
          exact impl_MixAtoms_j1_ev l1 c1 s1 p l2 c2 s2 q (by omega) (by omega) h1 h2 h3
    · rw [show ((l1.length : Int) != (l2.length : Int)) = true by simp; omega]
      exact nop (by rw [decide_eq_false h3]; simp)
  · exact nop (by simp [h2])
  · exact nop (by simp [h1])
theorem fix_bd' {x d c n : Int} (hd : 1 ≤ d ∧ d ≤ 400000000) (hn : -400000000 ≤ n ∧ n ≤ 400000000) (hx : isNum x = true) (hc : isNum c = true) :
    wrap64 (c * d) = c * d ∧ wrap64 (x * n) = x * n ∧ wrap64 (c * d + x * n) = c * d + x * n ∧ -9223372036854775807 ≤ c * d + x * n ∧ c * d + x * n ≤ 9223372036854775807 := by
  rw [isNum_iff] at hx hc
  have m1 := mul_bd (a := c) (b := d) hc (by omega)
  have m2 := mul_bd (a := x) (b := n) hx (by omega)
  exact ⟨w64 (by omega) (by omega), w64 (by omega) (by omega), w64 (by omega) (by omega), by omega, by omega⟩
theorem fixL_bd' {d : Int} {l : List Int} {v : Nat} (hd : 1 ≤ d ∧ d ≤ 400000000) (h : ∀ x ∈ l, isNum x = true) : ∀ x ∈ (l.map (· * d)).set v 0, -9223372036854775807 ≤ x ∧ x ≤ 9223372036854775807 := by
  intro x hx
  rcases List.mem_or_eq_of_mem_set hx with hx | rfl
  · obtain ⟨y, hy, rfl⟩ := List.mem_map.1 hx
    have m1 := mul_bd (a := y) (b := d) (isNum_iff.1 (h y hy)) (by omega)
    omega
  · omega
theorem impl_FixVariable_ev (l : List Int) (c : Int) (s : Bool) (v n d : Int) (hl : l.length ≤ 1048576) : Ev (fun k => impl_FixVariable.f k l c s v n d) (fixAt l c s v n d) := by
  unfold impl_FixVariable.f fixAt
  have no : ∀ k, impl_FixVariable.j0 (k + 1) v true l c s n d = some noAt := fun k => by simp [impl_FixVariable.j0, noAt]
  have nop : ∀ {b : Bool} {x : At2}, b = false → Ev (fun k => impl_FixVariable.j0 k v true l c s n d) (if b then x else noAt) := fun hb => by
    rw [hb]; exact Ev.step (f := fun _ => some noAt) no (Ev.now _)
  refine Ev.bind (impl_IsAtom_ev l c s hl) (ev_ite (fun h1 => Ev.bind (impl_IsRatio_ev n d) (ev_ite (fun h2 => ?_) (fun h2 => ?_))) (fun h1 => ?_))
  · refine ev_ite (fun a => nop ?_) (fun a => ?_)
    · rw [decide_eq_false (show ¬ 0 ≤ v by omega)]; simp
    · by_cases hv : v ≥ (l.length : Int)
      · rw [decide_eq_true hv]
        exact nop (by rw [decide_eq_false (show ¬ v < l.length by omega)]; simp)
      · rw [decide_eq_false hv, h1, h2, decide_eq_true (show 0 ≤ v by omega), decide_eq_true (show v < (l.length : Int) by omega)]
        simp only [Bool.and_self, if_true]
        obtain ⟨w, rfl⟩ : ∃ w : Nat, v = w := ⟨v.toNat, by omega⟩
        have hw : w < l.length := by omega
        obtain ⟨_, hc, hb, _⟩ := isAt_iff.1 h1
        obtain ⟨hd, hn, _⟩ := isRat_iff.1 h2
        have mc := fix_bd' hd hn (hb _ (List.getElem_mem hw)) hc
        have hbm := fixL_bd' (v := w) hd hb
        refine Ev.step (fun k => by rw [impl_FixVariable.j0, if_neg (by simp)]) ?_
        refine ev_pos (by omega) (ev_pos (by simp; omega) ?_)
        simp only [Option.bind_some, Int.toNat_natCast, List.length_replicate]
        have := ev_put (fun k ys i => impl_FixVariable.l0 k (w : Int) ys (l.length : Int) i l c s n d) l (fun _ x => x * d) 0 (mkAt ((l.map (· * d)).set w 0) (c * d + l[w] * n) s)
          (by
            rw [mapIdx_const l (fun x => x * d)]
            refine Ev.step (fun k => by rw [impl_FixVariable.l0, if_neg (by omega)]) ?_
            refine ev_pos (by omega) (ev_pos (by simp; omega) (ev_pos (by omega) ?_))
            simp only [rd, Int.toNat_natCast, getD_of_lt hw]
            rw [mc.1, mc.2.1, mc.2.2.1]
            exact Ev.bind (impl_makeOf_ev _ _ s (by simp; omega) hbm mc.2.2.2) (Ev.now _))
          (fun i hi ys hy ih => by
            have m1 := mul_bd (a := l[i]) (b := d) (isNum_iff.1 (hb _ (List.getElem_mem hi))) (by omega)
            refine Ev.step (fun k => by rw [impl_FixVariable.l0]) ?_
            refine ev_pos (by omega) (ev_pos (by omega) (ev_pos (by omega) (ev_pos (by omega) ?_)))
            simp only [rd, Int.toNat_natCast, getD_of_lt hi]
            rw [w64_succ (by omega), w64 (a := l[i] * d) (by omega) (by omega)]
            exact ih)
        simp only [getD_of_lt hw]
        exact this
  · exact nop (by simp [h2])
  · exact nop (by simp [h1])
def rtOf (x : S37) : Int × Int := (x.f0, x.f1)
def ptOf (p : List S37) : List (Int × Int) := p.map rtOf
theorem ptOf_len (p : List S37) : (ptOf p).length = p.length := by simp [ptOf]
theorem isPt_eq (p : List S37) (d : Int) : isPt p d = isPoint (ptOf p) d := by
  unfold isPt isPoint ptOf
  rw [List.all_map, List.length_map]; rfl
theorem impl_ValueOf_ev (l : List Int) (c : Int) (s : Bool) (p : List S37) (hl : l.length ≤ 1048576) (hp : p.length ≤ 1048576) : Ev (fun k => impl_ValueOf.f k l c s p) (valAt l c (ptOf p)) := by
  unfold impl_ValueOf.f valAt
  have no : ∀ k, impl_ValueOf.j0 (k + 1) p true l c s = some (0, 0, false) := fun k => by simp [impl_ValueOf.j0]
  refine Ev.bind (impl_IsAtom_ev l c s hl) (ev_ite (fun h1 => Ev.bind (impl_IsPoint_ev p _ hp) ?_) (fun h1 => ?_))
  · rw [isPt_eq]
    cases h2 : isPoint (ptOf p) (l.length : Int) with
    | false =>
      refine ev_eqr (Ev.step (f := fun _ => some (0, 0, false)) no (Ev.now _)) ?_
      simp
    | true =>
      simp only [h1, Bool.and_self, if_true]
      have hlen : p.length = l.length := by have := isPoint_len h2; rw [ptOf_len] at this; omega
      refine Ev.step (fun k => by rw [impl_ValueOf.j0, if_neg (by simp)]) ?_
      have key : ∀ i, i ≤ l.length → ∀ a b, Ev (fun k => impl_ValueOf.l0 k p l (l.length : Int) (i : Nat) a b) (valFin (valGo (l.drop i) ((ptOf p).drop i) (a, b))) := by
        refine down l.length ?_ ?_
        · intro a b
          refine Ev.step (fun k => by rw [impl_ValueOf.l0, if_neg (by omega)]) ?_
          rw [List.drop_length]
          exact Ev.bind (impl_IsRatio_ev a b) (Ev.now _)
        · intro i hi2 ih a b
          have hi : i < p.length := by omega
          have hi3 : i < (ptOf p).length := by rw [ptOf_len]; exact hi
          refine Ev.step (fun k => by rw [impl_ValueOf.l0]) ?_
          refine ev_pos (by omega) (ev_pos (by omega) (ev_pos (by omega) (ev_pos (by omega) ?_)))
          simp only [rd, rd_T37, Int.toNat_natCast, getD_of_lt hi, getD_of_lt hi2]
          refine Ev.bind (impl_MultiplyRatios_ev _ _ _ _) (Ev.bind (impl_AddRatios_ev _ _ _ _) ?_)
          rw [w64_succ (by omega), drop_cons hi2, drop_cons hi3, valGo]
          have e : (ptOf p)[i] = (p[i].f0, p[i].f1) := by simp [ptOf, rtOf]
          rw [e]
          exact ih _ _
      simpa using key 0 (by omega) c 1
  · refine ev_eqr (Ev.step (f := fun _ => some (0, 0, false)) no (Ev.now _)) ?_
    simp [h1]
theorem impl_HoldsAt_ev (l : List Int) (c : Int) (s : Bool) (p : List S37) (hl : l.length ≤ 1048576) (hp : p.length ≤ 1048576) : Ev (fun k => impl_HoldsAt.f k l c s p) (holdAt l c s (ptOf p)) := by
  unfold impl_HoldsAt.f holdAt
  refine Ev.bind (impl_ValueOf_ev l c s p hl hp) (ev_ite (fun h => ?_) (fun h => by simp only [h]; exact Ev.now _))
  simp only [h, if_true]
  refine ev_ite (fun h1 => ev_some (by simp [h1])) (fun h1 => ev_ite (fun h2 => ev_some (by simp [h2])) (fun h2 => ev_some (by simp [h1, h2])))
theorem laws_big_eq (l : List Int) : laws_big.f l = some (decide ((l.length : Int) > 1048576)) := rfl
theorem i64_and255 (n : Int) : Go.bits .and .i64 n 255 = n % 256 := by
  have h127 : (BitVec.ofInt 64 255).toNat = 2 ^ 8 - 1 := by decide
  have key : (BitVec.ofInt 64 n &&& BitVec.ofInt 64 255).toNat = (n % ((2 ^ 64 : Nat) : Int)).toNat % 2 ^ 8 := by
    rw [BitVec.toNat_and, BitVec.toNat_ofInt, h127, Nat.and_two_pow_sub_one_eq_mod]
  show IntKind.i64.wrap ((BitVec.ofInt 64 n &&& BitVec.ofInt 64 255).toNat : Nat) = n % 256
  rw [key, IntKind.wrap_i64]
  omega
/-- Some rounds give a value of which `P` holds. -/
def Tot {α : Type} (g : Nat → Option α) (P : α → Prop) : Prop := ∃ r, Ev g r ∧ P r
theorem Tot.bind {α β : Type} {g : Nat → Option α} {f : Nat → α → Option β} {P : α → Prop} {Q : β → Prop} (h : Tot g P) (k : ∀ a, P a → Tot (fun n => f n a) Q) : Tot (fun n => (g n).bind (f n)) Q := by
  obtain ⟨a, ha, hp⟩ := h
  obtain ⟨b, hb, hq⟩ := k a hp
  exact ⟨b, Ev.bind ha hb, hq⟩
theorem Tot.ite {α : Type} {c : Prop} [Decidable c] {g f : Nat → Option α} {P : α → Prop} (h : c → Tot g P) (h' : ¬ c → Tot f P) : Tot (fun k => if c then g k else f k) P := by
  by_cases hc : c
  · simp only [hc, if_true]; exact h hc
  · simp only [hc, if_false]; exact h' hc
theorem Tot.pos {α : Type} {c : Prop} [Decidable c] {g f : Nat → Option α} {P : α → Prop} (hc : c) (h : Tot g P) : Tot (fun k => if c then g k else f k) P := by
  simp only [hc, if_true]; exact h
theorem Tot.now {α : Type} {a : α} {P : α → Prop} (h : P a) : Tot (fun _ => some a) P := ⟨a, Ev.now a, h⟩
theorem Tot.mono {α : Type} {g : Nat → Option α} {P Q : α → Prop} (h : Tot g P) (k : ∀ a, P a → Q a) : Tot g Q := by
  obtain ⟨a, ha, hp⟩ := h
  exact ⟨a, ha, k a hp⟩
theorem Tot.step {α : Type} {g f : Nat → Option α} {P : α → Prop} (h : ∀ k, g (k + 1) = f k) (k : Tot f P) : Tot g P := by
  obtain ⟨a, ha, hp⟩ := k
  exact ⟨a, Ev.step h ha, hp⟩
theorem Tot.ev {α : Type} {g : Nat → Option α} {r : α} {P : α → Prop} (h : Ev g r) (hp : P r) : Tot g P := ⟨r, h, hp⟩
theorem spec_l1Byte_tot (l : List Int) (p t : Int) (hl : l.length ≤ 1048576) (hp : 0 ≤ p) : Tot (fun _ => spec_l1Byte.f l p t) (fun r => (0 ≤ r.1 ∧ r.1 ≤ 255) ∧ 0 ≤ r.2.1) := by
  unfold spec_l1Byte.f
  refine Tot.ite (fun h => Tot.pos hp (Tot.now ⟨?_, ?_⟩)) (fun h => Tot.now ⟨?_, hp⟩)
  · simp only [i64_and255]; omega
  · show 0 ≤ wrap64 (p + 1)
    rw [w64 (by omega) (by omega)]; omega
  · simp only [i64_and255]; omega
theorem spec_l1Below_tot (l : List Int) (p t a : Int) (hl : l.length ≤ 1048576) (hp : 0 ≤ p) : Tot (fun _ => spec_l1Below.f l p t a) (fun r => (0 ≤ r.1 ∧ (0 < a → r.1 < a)) ∧ 0 ≤ r.2.1) := by
  unfold spec_l1Below.f
  refine Tot.ite (fun h => Tot.now ⟨⟨by simp, fun h' => by simp; omega⟩, hp⟩) (fun h => Tot.ite (fun h1 => ?_) (fun h1 => ?_))
  · refine Tot.bind (spec_l1Byte_tot l p t hl hp) (fun r hr => ?_)
    have e : ¬ a = 0 := by omega
    simp only [e, if_false]
    exact Tot.now ⟨⟨Int.tmod_nonneg _ hr.1.1, fun h' => Int.tmod_lt_of_pos _ h'⟩, hr.2⟩
  · refine Tot.bind (spec_l1Byte_tot l p t hl hp) (fun r1 h1 => Tot.bind (spec_l1Byte_tot l _ _ hl h1.2) (fun r2 h2 => Tot.bind (spec_l1Byte_tot l _ _ hl h2.2) (fun r3 h3 => Tot.bind (spec_l1Byte_tot l _ _ hl h3.2) (fun r4 h4 => ?_))))
    have e : ¬ a = 0 := by omega
    simp only [e, if_false]
    refine Tot.now ⟨⟨Int.tmod_nonneg _ ?_, fun h' => Int.tmod_lt_of_pos _ h'⟩, h4.2⟩
    obtain ⟨⟨a1, b1⟩, _⟩ := h1
    obtain ⟨⟨a2, b2⟩, _⟩ := h2
    obtain ⟨⟨a3, b3⟩, _⟩ := h3
    obtain ⟨⟨a4, b4⟩, _⟩ := h4
    rw [w64 (a := r1.1 * 16777216) (by omega) (by omega), w64 (a := r2.1 * 65536) (by omega) (by omega), w64 (a := r3.1 * 256) (by omega) (by omega),
      w64 (a := r1.1 * 16777216 + r2.1 * 65536) (by omega) (by omega), w64 (a := r1.1 * 16777216 + r2.1 * 65536 + r3.1 * 256) (by omega) (by omega), w64 (by omega) (by omega)]
    omega
theorem spec_l1Once_tot (l : List Int) (p t a : Int) (hl : l.length ≤ 1048576) (hp : 0 ≤ p) : Tot (fun _ => spec_l1Once.f l p t a) (fun r => 0 ≤ r.2.1) := by
  unfold spec_l1Once.f
  exact Tot.bind (spec_l1Below_tot l p t a hl hp) (fun r hr => Tot.now hr.2)
theorem spec_l1PickInt_tot (l : List Int) (p t : Int) (m : List Int) (hl : l.length ≤ 1048576) (hp : 0 ≤ p) (hm : 0 < m.length) : Tot (fun _ => spec_l1PickInt.f l p t m) (fun r => 0 ≤ r.2.1) := by
  unfold spec_l1PickInt.f
  refine Tot.bind (spec_l1Below_tot l p t _ hl hp) (fun r hr => ?_)
  exact Tot.pos hr.1.1 (Tot.pos (hr.1.2 (by omega)) (Tot.now hr.2))
theorem spec_l1Odd_tot (l : List Int) (p t : Int) (hl : l.length ≤ 1048576) (hp : 0 ≤ p) : Tot (fun _ => spec_l1Odd.f l p t) (fun r => 0 ≤ r.2.1) := by
  unfold spec_l1Odd.f
  exact Tot.bind (spec_l1PickInt_tot l p t _ hl hp (by simp)) (fun r hr => Tot.now hr)
theorem spec_l1Num_tot (l : List Int) (p t a : Int) (hl : l.length ≤ 1048576) (hp : 0 ≤ p) : Tot (fun _ => spec_l1Num.f l p t a) (fun r => 0 ≤ r.2.1) := by
  unfold spec_l1Num.f
  refine Tot.bind (spec_l1Once_tot l p t 40 hl hp) (fun r hr => Tot.ite (fun _ => ?_) (fun _ => ?_))
  · exact Tot.bind (spec_l1Odd_tot l _ _ hl hr) (fun r hr => Tot.now hr)
  · exact Tot.bind (spec_l1Below_tot l _ _ _ hl hr) (fun r hr => Tot.now hr.2)
theorem spec_l1New_tot (l : List Int) (hl : l.length ≤ 1048576) : Tot (fun k => spec_l1New.f k l) (fun r => r.1 = l ∧ 0 ≤ r.2.1) := by
  unfold spec_l1New.f
  have key : ∀ i, i ≤ l.length → ∀ x, Tot (fun k => spec_l1New.l0 k l x (i : Nat)) (fun r => r.1 = l ∧ 0 ≤ r.2.1) := by
    refine down l.length ?_ ?_
    · intro x
      refine Tot.step (fun k => by rw [spec_l1New.l0, if_neg (by omega)]) (Tot.now ⟨rfl, by simp⟩)
    · intro i hi ih x
      refine Tot.step (fun k => by rw [spec_l1New.l0]) ?_
      refine Tot.pos (by omega) (Tot.ite (fun _ => Tot.pos (by omega) ?_) (fun _ => Tot.now ⟨rfl, by simp⟩))
      rw [w64_succ (by omega)]
      exact ih _
  exact key 0 (by omega) _
theorem spec_l2Spoil_tot (l : List Int) (p t : Int) (m : List Int) (c : Int) (s : Bool) (hl : l.length ≤ 1048576) (hp : 0 ≤ p) (hm : m.length ≤ 4) : Tot (fun _ => spec_l2Spoil.f l p t m c s) (fun r => r.1.length ≤ 5 ∧ 0 ≤ r.2.2.2.1) := by
  unfold spec_l2Spoil.f
  refine Tot.bind (spec_l1Below_tot l p t 40 hl hp) (fun r hr => Tot.ite (fun _ => ?_) (fun _ => Tot.ite (fun _ => ?_) (fun _ => Tot.ite (fun _ => ?_) (fun _ => ?_))))
  · exact Tot.bind (spec_l1Odd_tot l _ _ hl hr.2) (fun r hr => Tot.now ⟨by show m.length ≤ 5; omega, hr⟩)
  · exact Tot.pos (by omega) (Tot.now ⟨by simp; omega, hr.2⟩)
  · exact Tot.now ⟨by show m.length ≤ 5; omega, hr.2⟩
  · exact Tot.now ⟨by show m.length ≤ 5; omega, hr.2⟩
theorem spec_l2Draw_tot (l : List Int) (p t : Int) (d : Int) (hl : l.length ≤ 1048576) (hp : 0 ≤ p) (hd : d ≤ 1048576) : Tot (fun k => spec_l2Draw.f k l p t d) (fun r => r.1.length ≤ 4 ∧ 0 ≤ r.2.2.2.1) := by
  unfold spec_l2Draw.f
  have key : ∀ j i : Nat, d - i ≤ j → ∀ (m : List Int) (p t : Int), m.length = i → i ≤ 1048576 → 0 ≤ p → Tot (fun k => spec_l2Draw.l0 k d m (i : Nat) l p t) (fun r => r.1.length ≤ 4 ∧ 0 ≤ r.2.2.2.1) := by
    intro j
    induction j with
    | zero =>
      intro i hj m p t hm hi hp
      refine Tot.step (fun k => by rw [spec_l2Draw.l0, if_neg (by omega)]) ?_
      refine Tot.bind (spec_l1Below_tot l _ _ _ hl hp) (fun r1 h1 => Tot.bind (spec_l1Once_tot l _ _ _ hl h1.2) (fun r2 h2 => Tot.bind (P := fun r => r.1.length ≤ 4) (Tot.ev (spec_MakeAtom_ev m _ _ (by omega)) (makeAt_len _ _ _)) (fun r3 h3 => Tot.now ⟨h3, h2⟩)))
    | succ j ih =>
      intro i hj m p t hm hi hp
      refine Tot.step (fun k => by rw [spec_l2Draw.l0]) (Tot.ite (fun h => ?_) (fun h => ?_))
      · refine Tot.bind (spec_l1Below_tot l _ _ _ hl hp) (fun r1 h1 => Tot.pos (by omega) ?_)
        rw [w64_succ (by omega)]
        exact ih (i + 1) (by omega) _ _ _ (by simp; omega) (by omega) h1.2
      · refine Tot.bind (spec_l1Below_tot l _ _ _ hl hp) (fun r1 h1 => Tot.bind (spec_l1Once_tot l _ _ _ hl h1.2) (fun r2 h2 => Tot.bind (P := fun r => r.1.length ≤ 4) (Tot.ev (spec_MakeAtom_ev m _ _ (by omega)) (makeAt_len _ _ _)) (fun r3 h3 => Tot.now ⟨h3, h2⟩)))
  exact key d.toNat 0 (by omega) [] p t rfl (by omega) hp
theorem spec_DrawMixAtoms_tot (l : List Int) (hl : l.length ≤ 1048576) : Tot (fun k => spec_DrawMixAtoms.f k l) (fun r => r.1.length ≤ 5 ∧ r.2.2.2.2.1.length ≤ 4) := by
  unfold spec_DrawMixAtoms.f
  refine Tot.bind (spec_l1New_tot l hl) (fun r0 h0 => ?_)
  obtain ⟨e0, h0⟩ := h0
  rw [e0]
  refine Tot.bind (spec_l1Below_tot l _ _ 4 hl h0) (fun r1 h1 => ?_)
  have h1' := h1.1.2 (by omega)
  refine Tot.bind (spec_l2Draw_tot l _ _ _ hl h1.2 (by omega)) (fun r2 h2 => ?_)
  refine Tot.bind (spec_l2Spoil_tot l _ _ _ _ _ hl h2.2 h2.1) (fun r3 h3 => ?_)
  refine Tot.bind (spec_l1Num_tot l _ _ _ hl h3.2) (fun r4 h4 => ?_)
  refine Tot.bind (spec_l2Draw_tot l _ _ _ hl h4 (by omega)) (fun r5 h5 => ?_)
  exact Tot.bind (spec_l1Below_tot l _ _ _ hl h5.2) (fun r6 h6 => Tot.now ⟨h3.1, h5.1⟩)
theorem laws_point_tot (l : List Int) (d : Int) (hl : l.length ≤ 1048576) (hd : d ≤ 1048576) : Tot (fun k => laws_point.f k l d) (fun r => r.length ≤ 1048576) := by
  unfold laws_point.f
  have key : ∀ j i : Nat, d - i ≤ j → ∀ m : List S37, m.length = i → i ≤ 1048576 → Tot (fun k => laws_point.l0 k l d m (i : Nat)) (fun r => r.length ≤ 1048576) := by
    intro j
    induction j with
    | zero =>
      intro i hj m hm hi
      exact Tot.step (fun k => by rw [laws_point.l0, if_neg (by omega)]) (Tot.now (by omega))
    | succ j ih =>
      intro i hj m hm hi
      refine Tot.step (fun k => by rw [laws_point.l0]) (Tot.ite (fun h => Tot.ite (fun h1 => Tot.pos (by omega) ?_) (fun h1 => ?_)) (fun h => Tot.now (by omega)))
      · refine Tot.bind (P := fun _ => True) (Tot.ev (spec_MakeRatio_ev _ _) trivial) (fun r _ => Tot.pos (by omega) ?_)
        rw [w64_succ (by omega)]
        exact ih (i + 1) (by omega) _ (by simp; omega) (by omega)
      · refine Tot.bind (P := fun _ => True) (Tot.ev (spec_MakeRatio_ev _ _) trivial) (fun r _ => Tot.pos (by omega) ?_)
        rw [w64_succ (by omega)]
        exact ih (i + 1) (by omega) _ (by simp; omega) (by omega)
  exact key d.toNat 0 (by omega) [] rfl (by omega)

end Go.Proofs.Ytohoibekddhneaa.LFnMixed
