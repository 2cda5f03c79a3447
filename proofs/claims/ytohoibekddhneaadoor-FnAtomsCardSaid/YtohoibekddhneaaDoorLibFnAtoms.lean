/- What the printed functions of the law FnAtoms compute, in plain words; each holds under the bounds that it names. -/
import Derived.Test.YtohoibekddhneaaDoorQFnAtomsx
import Derived.Test.YtohoibekddhneaaDoorPlainFnAtoms
import Derived.Test.YtohoibekddhneaaDoorPlainAFnAtoms
import Derived.Test.YtohoibekddhneaaDoorPlainBFnAtoms
set_option linter.unusedVariables false
set_option linter.unusedSimpArgs false
namespace Go.Proofs.YtohoibekddhneaaDoor.LFnAtoms
open Go.RowKit Go.Proofs.YtohoibekddhneaaDoor.PFnAtoms Go.Proofs.YtohoibekddhneaaDoor.Pl Go.Proofs.YtohoibekddhneaaDoorW.PrintWords Go.Proofs.YtohoibekddhneaaDoorW.PrintLast Go.Proofs.YtohoibekddhneaaDoorW.PrintMore

theorem spec_l1In_eq (a b c : Int) : spec_l1In.f a b c = some (decide (b ≤ a) && decide (a ≤ c)) := by
  unfold spec_l1In.f
  by_cases h : b ≤ a
  · rw [if_pos h]; simp [h]
  · rw [if_neg h]; simp [h]
theorem spec_IsNumber_eq (n : Int) : spec_IsNumber.f n = some (isNum n) := by
  unfold spec_IsNumber.f
  rw [spec_l1In_eq]; rfl
theorem impl_IsNumber_eq (n : Int) : impl_IsNumber.f n = some (isNum n) := by
  unfold impl_IsNumber.f isNum
  by_cases h : n ≥ -400000000
  · rw [if_pos h]
    have h' : -400000000 ≤ n := h
    simp [h']
  · rw [if_neg h]
    have h' : ¬ -400000000 ≤ n := h
    simp [h']
theorem spec_l1Abs_eq (a : Int) (h : -9223372036854775807 ≤ a) (h' : a ≤ 9223372036854775807) : spec_l1Abs.f a = some (a.natAbs : Int) := by
  unfold spec_l1Abs.f mx
  rw [w64 (by omega) (by omega)]
  congr 1
  split <;> omega
theorem impl_absolute_eq (a : Int) (h : -9223372036854775807 ≤ a) (h' : a ≤ 9223372036854775807) : impl_absolute.f a = some (a.natAbs : Int) := by
  unfold impl_absolute.f
  by_cases c : a < 0
  · rw [if_pos c, w64 (by omega) (by omega)]; congr 1; omega
  · rw [if_neg c]; congr 1; omega
theorem impl_commonDivisor_l0_ev (a b : Int) : Ev (fun k => impl_commonDivisor.l0 k a b) (eu a b) := by
  fun_induction eu a b with
  | case1 a => exact Ev.step (f := fun _ => some a) (fun k => by simp [impl_commonDivisor.l0]) (Ev.now a)
  | case2 a b h ih => exact Ev.step (fun k => by simp only [impl_commonDivisor.l0]; rw [if_neg h]) ih
theorem impl_commonDivisor_ev (a b : Int) (h : -9223372036854775807 ≤ a ∧ a ≤ 9223372036854775807) (h' : -9223372036854775807 ≤ b ∧ b ≤ 9223372036854775807) : Ev (fun k => impl_commonDivisor.f k a b) (Int.gcd a b : Int) := by
  unfold impl_commonDivisor.f
  rw [impl_absolute_eq a h.1 h.2, impl_absolute_eq b h'.1 h'.2]
  simp only [Option.bind_some]
  rw [← eu_abs]
  exact impl_commonDivisor_l0_ev _ _
theorem spec_GcdOf_l0_ev (a b : Int) (h : -9223372036854775807 ≤ a ∧ a ≤ 9223372036854775807) (h' : -9223372036854775807 ≤ b ∧ b ≤ 9223372036854775807) : Ev (fun k => spec_GcdOf.l0 k a b) (Int.gcd a b : Int) := by
  rw [← eu_gcd]
  fun_induction eu a b with
  | case1 a => exact Ev.step (f := fun _ => some (a.natAbs : Int)) (fun k => by simp [spec_GcdOf.l0, spec_l1Abs_eq a h.1 h.2]) (Ev.now _)
  | case2 a b hb ih =>
    have := tmod_lt (a := a) hb
    exact Ev.step (fun k => by simp only [spec_GcdOf.l0]; rw [if_neg hb]) (ih h' (by omega))
theorem spec_GcdOf_ev (a b : Int) : Ev (fun k => spec_GcdOf.f k a b) (gcdOf a b) := by
  unfold spec_GcdOf.f gcdOf
  rw [spec_IsNumber_eq, spec_IsNumber_eq]
  simp only [Option.bind_some]
  cases ha : isNum a with
  | false => exact Ev.step (f := fun _ => some 0) (fun k => by simp [spec_GcdOf.j0]) (Ev.now _)
  | true =>
    cases hb : isNum b with
    | false => exact Ev.step (f := fun _ => some 0) (fun k => by simp [spec_GcdOf.j0]) (Ev.now _)
    | true =>
      rw [isNum_iff] at ha hb
      exact Ev.step (f := fun k => spec_GcdOf.l0 k a b) (fun k => by simp [spec_GcdOf.j0]) (spec_GcdOf_l0_ev a b (by omega) (by omega))
theorem impl_GcdOf_ev (a b : Int) : Ev (fun k => impl_GcdOf.f k a b) (gcdOf a b) := by
  unfold impl_GcdOf.f gcdOf
  rw [impl_IsNumber_eq, impl_IsNumber_eq]
  simp only [Option.bind_some]
  cases ha : isNum a with
  | false => simp; exact Ev.now _
  | true =>
    cases hb : isNum b with
    | false => simp; exact Ev.now _
    | true =>
      rw [isNum_iff] at ha hb
      simp only [if_true, Bool.and_self]
      exact Ev.bind (impl_commonDivisor_ev a b (by omega) (by omega)) (Ev.now _)
theorem spec_IsRatio_ev (n d : Int) : Ev (fun k => spec_IsRatio.f k n d) (isRat n d) := by
  unfold spec_IsRatio.f isRat
  rw [spec_l1In_eq, spec_IsNumber_eq]
  simp only [Option.bind_some]
  cases h1 : decide (1 ≤ d) && decide (d ≤ 400000000) with
  | false => simp; exact Ev.now _
  | true =>
    cases h2 : isNum n with
    | false => simp; exact Ev.now _
    | true =>
      simp only [if_true, Bool.true_and]
      refine Ev.bind (spec_GcdOf_ev n d) (ev_some ?_)
      have h3 : isNum d = true := by simp at h1; rw [isNum_iff]; omega
      simp only [gcdOf, h2, h3, Bool.and_self, if_true]
      rw [Bool.eq_iff_iff]; simp; omega
theorem impl_IsRatio_ev (n d : Int) : Ev (fun k => impl_IsRatio.f k n d) (isRat n d) := by
  unfold impl_IsRatio.f isRat
  rw [impl_IsNumber_eq]
  simp only [Option.bind_some]
  refine ev_ite (fun h1 => ev_ite (fun h2 => ?_) (fun h2 => ev_some ?_)) (fun h1 => ev_some ?_)
  · have h1' : 1 ≤ d := h1
    cases h3 : isNum n with
    | false => simp; exact Ev.now _
    | true =>
      simp only [if_true, h1', h2, decide_true, Bool.and_self, Bool.true_and]
      refine Ev.bind (impl_GcdOf_ev n d) (ev_some ?_)
      have h4 : isNum d = true := by rw [isNum_iff]; omega
      simp only [gcdOf, h3, h4, Bool.and_self, if_true]
      rw [Bool.eq_iff_iff]; simp; omega
  · simp [h2]
  · have h1' : ¬ 1 ≤ d := h1
    simp [h1']
theorem spec_l2Make_l0_ev (n d a b : Int) (hn : -9223372036854775807 ≤ n ∧ n ≤ 9223372036854775807) (hd : -9223372036854775807 ≤ d ∧ d ≤ 9223372036854775807)
    (h : -9223372036854775807 ≤ a ∧ a ≤ 9223372036854775807) (h' : -9223372036854775807 ≤ b ∧ b ≤ 9223372036854775807) (hg : (Int.gcd a b : Int) = Int.gcd n d) (hz : ¬ d = 0) : Ev (fun k => spec_l2Make.l0 k n d a b) (redOf n d) := by
  have hp := gcd_pos n d hz
  have he := eu_gcd a b
  revert he
  fun_induction eu a b with
  | case1 a =>
    intro he
    refine Ev.step (fun k => by simp only [spec_l2Make.l0, if_true]; rw [spec_l1Abs_eq a h.1 h.2, Option.bind_some]) ?_
    have e : (a.natAbs : Int) = Int.gcd n d := by rw [← hg, ← he]
    rw [e]
    refine ev_ite (fun h0 => by omega) (fun _ => ?_)
    rw [w64_tdiv hn.1 hn.2, w64_tdiv hd.1 hd.2]
    unfold redOf
    refine Ev.bind (spec_IsRatio_ev _ _) ?_
    exact ev_ite (fun h => by rw [if_pos h]; exact Ev.now _) (fun h => by rw [if_neg h]; exact Ev.now _)
  | case2 a b hb ih =>
    intro he
    have := tmod_lt (a := a) hb
    refine Ev.step (fun k => by simp only [spec_l2Make.l0]; rw [if_neg hb]) (ih h' (by omega) ?_ ?_)
    · rw [← hg]
      have e1 := eu_gcd b (a.tmod b)
      have e2 := eu_gcd a b
      have e3 : eu a b = eu b (a.tmod b) := by rw [eu]; simp [hb]
      rw [e3] at e2
      omega
    · exact eu_gcd _ _
theorem spec_l2Make_ev (n d : Int) (hn : -9223372036854775807 ≤ n ∧ n ≤ 9223372036854775807) (hd : -9223372036854775807 ≤ d ∧ d ≤ 9223372036854775807) : Ev (fun k => spec_l2Make.f k n d) (red n d) := by
  unfold spec_l2Make.f red
  refine ev_ite (fun h => by rw [if_pos h]; exact Ev.now _) (fun h => ?_)
  rw [if_neg h]
  refine ev_ite (fun h' => ?_) (fun h' => ?_)
  · rw [if_pos h', w64 (by omega) (by omega), w64 (by omega) (by omega)]
    exact Ev.step (fun k => by simp only [spec_l2Make.j0]) (spec_l2Make_l0_ev _ _ _ _ (by omega) (by omega) (by omega) (by omega) rfl (by omega))
  · rw [if_neg h']
    exact Ev.step (fun k => by simp only [spec_l2Make.j0]) (spec_l2Make_l0_ev _ _ _ _ (by omega) (by omega) (by omega) (by omega) rfl (by omega))
theorem impl_reducedRatio_j0_ev (n d : Int) (hn : -9223372036854775807 ≤ n ∧ n ≤ 9223372036854775807) (hd : -9223372036854775807 ≤ d ∧ d ≤ 9223372036854775807) (hz : ¬ d = 0) : Ev (fun k => impl_reducedRatio.j0 k n d) (redOf n d) := by
  have hp := gcd_pos n d hz
  refine Ev.step (fun k => by rw [impl_reducedRatio.j0]) ?_
  refine Ev.bind (impl_commonDivisor_ev n d hn hd) ?_
  refine ev_ite (fun h0 => by omega) (fun _ => ?_)
  rw [w64_tdiv hn.1 hn.2, w64_tdiv hd.1 hd.2]
  unfold redOf
  refine Ev.bind (impl_IsRatio_ev _ _) ?_
  exact ev_ite (fun h => by rw [if_pos h]; exact Ev.now _) (fun h => by rw [if_neg h]; exact Ev.now _)
theorem impl_reducedRatio_ev (n d : Int) (hn : -9223372036854775807 ≤ n ∧ n ≤ 9223372036854775807) (hd : -9223372036854775807 ≤ d ∧ d ≤ 9223372036854775807) : Ev (fun k => impl_reducedRatio.f k n d) (red n d) := by
  unfold impl_reducedRatio.f red
  refine ev_ite (fun h => by rw [if_pos h]; exact Ev.now _) (fun h => ?_)
  rw [if_neg h]
  refine ev_ite (fun h' => ?_) (fun h' => ?_)
  · rw [if_pos h', w64 (by omega) (by omega), w64 (by omega) (by omega)]
    exact impl_reducedRatio_j0_ev _ _ (by omega) (by omega) (by omega)
  · rw [if_neg h']
    exact impl_reducedRatio_j0_ev _ _ (by omega) (by omega) (by omega)
theorem spec_MakeRatio_ev (n d : Int) : Ev (fun k => spec_MakeRatio.f k n d) (makR n d) := by
  unfold spec_MakeRatio.f makR
  rw [spec_IsNumber_eq, spec_IsNumber_eq]
  simp only [Option.bind_some]
  cases ha : isNum n with
  | false => simp; exact Ev.now _
  | true =>
    cases hb : isNum d with
    | false => simp; exact Ev.now _
    | true =>
      rw [isNum_iff] at ha hb
      simp only [if_true, Bool.and_self]
      exact Ev.bind (spec_l2Make_ev n d (by omega) (by omega)) (Ev.now _)
theorem impl_AddRatios_ev (a b c d : Int) : Ev (fun k => impl_AddRatios.f k a b c d) (addR a b c d) := by
  unfold impl_AddRatios.f addR
  refine Ev.bind (impl_IsRatio_ev a b) (ev_ite (fun h1 => Ev.bind (impl_IsRatio_ev c d) (ev_ite (fun h2 => ?_) (fun h2 => ?_))) (fun h1 => ?_))
  · simp only [h1, h2, Bool.and_self, if_true]
    rw [isRat_iff] at h1 h2
    have m1 := mul_bd (a := a) (b := d) (by omega) (by omega)
    have m2 := mul_bd (a := c) (b := b) (by omega) (by omega)
    have m3 := mul_bd (a := b) (b := d) (by omega) (by omega)
    rw [w64 (a := a * d) (by omega) (by omega), w64 (a := c * b) (by omega) (by omega), w64 (a := b * d) (by omega) (by omega), w64 (by omega) (by omega)]
    exact Ev.bind (impl_reducedRatio_ev _ _ (by omega) (by omega)) (Ev.now _)
  · simp [h2]; exact Ev.now _
  · simp [h1]; exact Ev.now _
theorem impl_MultiplyRatios_ev (a b c d : Int) : Ev (fun k => impl_MultiplyRatios.f k a b c d) (mulR a b c d) := by
  unfold impl_MultiplyRatios.f mulR
  refine Ev.bind (impl_IsRatio_ev a b) (ev_ite (fun h1 => Ev.bind (impl_IsRatio_ev c d) (ev_ite (fun h2 => ?_) (fun h2 => ?_))) (fun h1 => ?_))
  · simp only [h1, h2, Bool.and_self, if_true]
    rw [isRat_iff] at h1 h2
    have m1 := mul_bd (a := a) (b := c) (by omega) (by omega)
    have m3 := mul_bd (a := b) (b := d) (by omega) (by omega)
    rw [w64 (a := a * c) (by omega) (by omega), w64 (a := b * d) (by omega) (by omega)]
    exact Ev.bind (impl_reducedRatio_ev _ _ (by omega) (by omega)) (Ev.now _)
  · simp [h2]; exact Ev.now _
  · simp [h1]; exact Ev.now _
def isPt (l : List S46) (d : Int) : Bool := decide ((l.length : Int) = d) && l.all fun r => isRat r.f0 r.f1
theorem impl_IsPoint_ev (l : List S46) (d : Int) (h : l.length ≤ 1048576) : Ev (fun k => impl_IsPoint.f k l d) (isPt l d) := by
  unfold impl_IsPoint.f isPt
  refine ev_ite (fun hd => ?_) (fun hd => ev_some (by simp [hd]))
  have := ev_all (fun k i => impl_IsPoint.l0 k l (l.length : Int) i) l (fun r => isRat r.f0 r.f1) true false
    (Ev.step (f := fun _ => some true) (fun k => by simp [impl_IsPoint.l0]) (Ev.now _))
    (fun i hi r hp ih => by
      refine Ev.step (fun k => by rw [impl_IsPoint.l0]) ?_
      refine ev_ite (fun _ => ev_ite (fun _ => ev_ite (fun _ => ?_) (fun h' => by omega)) (fun h' => by omega)) (fun h' => by omega)
      simp only [rd_T46, Int.toNat_natCast, getD_of_lt hi]
      refine Ev.bind (impl_IsRatio_ev _ _) ?_
      rw [w64_succ (by omega)]
      exact ev_pos hp ih)
    (fun i hi hp => by
      refine Ev.step (fun k => by rw [impl_IsPoint.l0]) ?_
      refine ev_ite (fun _ => ev_ite (fun _ => ev_ite (fun _ => ?_) (fun h' => by omega)) (fun h' => by omega)) (fun h' => by omega)
      simp only [rd_T46, Int.toNat_natCast, getD_of_lt hi]
      refine Ev.bind (impl_IsRatio_ev _ _) ?_
      rw [hp]
      simp
      exact Ev.now _)
  refine ev_eqr this ?_
  rw [decide_eq_true hd]
  cases l.all fun r => isRat r.f0 r.f1 <;> rfl
theorem spec_l2Gcd_l1_ev (x0 : List Int) (i : Nat) (hi : i < 4611686018427387904) (r : Int) (g a : Int) (hg : 0 ≤ g) (ha : 0 ≤ a) (h : Ev (fun k => spec_l2Gcd.l0 k x0 (eu g a) ((i + 1 : Nat) : Int)) r) : Ev (fun k => spec_l2Gcd.l1 k x0 g (i : Nat) a) r := by
  fun_induction eu g a with
  | case1 g => exact Ev.step (fun k => by rw [spec_l2Gcd.l1, if_pos rfl, w64_succ (by omega)]) h
  | case2 g a hz ih => exact Ev.step (fun k => by rw [spec_l2Gcd.l1, if_neg hz]) (ih ha (Int.tmod_nonneg _ hg) h)
theorem spec_l2Gcd_ev (l : List Int) (c : Int) (hl : l.length ≤ 1048576) (hb : ∀ x ∈ l, -9223372036854775807 ≤ x ∧ x ≤ 9223372036854775807) (hc : -9223372036854775807 ≤ c ∧ c ≤ 9223372036854775807) : Ev (fun k => spec_l2Gcd.f k l c) ((Nat.gcd (gcdL l) c.natAbs : Nat) : Int) := by
  unfold spec_l2Gcd.f
  rw [spec_l1Abs_eq c hc.1 hc.2]
  simp only [Option.bind_some]
  have := ev_fold (fun k (g : Nat) i => spec_l2Gcd.l0 k l (g : Int) i) l (fun g x => Nat.gcd g x.natAbs) (fun g => (g : Int)) (fun _ => True)
    (fun g _ => Ev.step (f := fun _ => some (g : Int)) (fun k => by simp [spec_l2Gcd.l0]) (Ev.now _))
    (fun i hi g r _ => ⟨trivial, fun ih => by
      have hx := hb l[i] (List.getElem_mem hi)
      refine Ev.step (fun k => by rw [spec_l2Gcd.l0]) ?_
      refine ev_pos (by omega) (ev_pos (by omega) ?_)
      simp only [rd, Int.toNat_natCast, getD_of_lt hi]
      rw [spec_l1Abs_eq _ hx.1 hx.2]
      simp only [Option.bind_some]
      refine spec_l2Gcd_l1_ev l i (by omega) r _ _ (by omega) (by omega) ?_
      have e : eu (g : Int) (l[i].natAbs : Int) = ((Nat.gcd g l[i].natAbs : Nat) : Int) := by
        have h1 := eu_gcd (g : Int) (l[i].natAbs : Int)
        have h2 := eu_nonneg (g : Int) (l[i].natAbs : Int) (by omega) (by omega)
        simp only [Int.gcd, Int.natAbs_natCast] at h1
        omega
      rw [e]; exact ih⟩) c.natAbs trivial
  refine ev_eqr this ?_
  have e := gcdF_eq l c.natAbs
  unfold gcdF at e
  rw [e, Nat.gcd_comm]
theorem isNum_bd {x : Int} (h : isNum x = true) : -9223372036854775807 ≤ x ∧ x ≤ 9223372036854775807 := by rw [isNum_iff] at h; omega
theorem spec_IsAtom_l0_ev (l : List Int) (c : Int) (s : Bool) (hl : l.length ≤ 1048576) (hc : isNum c = true) : Ev (fun k => spec_IsAtom.l0 k 0 l c s) (if l.all isNum then decide (Nat.gcd (gcdL l) c.natAbs ≤ 1) else false) := by
  have := ev_allq (fun k i => spec_IsAtom.l0 k i l c s) l isNum (decide (Nat.gcd (gcdL l) c.natAbs ≤ 1)) false
    (fun hall => by
      refine Ev.step (fun k => by rw [spec_IsAtom.l0, if_neg (by omega)]) ?_
      refine Ev.bind (spec_l2Gcd_ev l c hl (fun x hx => isNum_bd (List.all_eq_true.1 hall x hx)) (isNum_bd hc)) (ev_some ?_)
      rw [Bool.eq_iff_iff]; simp; omega)
    (fun i hi r hp ih => by
      refine Ev.step (fun k => by rw [spec_IsAtom.l0]) ?_
      refine ev_pos (by omega) (ev_pos (by omega) ?_)
      simp only [rd, Int.toNat_natCast, getD_of_lt hi]
      rw [spec_IsNumber_eq, w64_succ (by omega)]
      simp only [Option.bind_some]
      exact ev_pos hp ih)
    (fun i hi hp => by
      refine Ev.step (fun k => by rw [spec_IsAtom.l0]) ?_
      refine ev_pos (by omega) (ev_pos (by omega) ?_)
      simp only [rd, Int.toNat_natCast, getD_of_lt hi]
      rw [spec_IsNumber_eq]
      simp only [Option.bind_some]
      exact ev_neg (by simp [hp]) (Ev.now _))
  simpa using this
theorem spec_IsAtom_ev (l : List Int) (c : Int) (s : Bool) (hl : l.length ≤ 1048576) : Ev (fun k => spec_IsAtom.f k l c s) (isAt l c) := by
  unfold spec_IsAtom.f
  refine ev_ite (fun h => ?_) (fun h => ?_)
  · refine ev_eqr (Ev.step (f := fun _ => some false) (fun k => by simp [spec_IsAtom.j0]) (Ev.now _)) ?_
    simp only [isAt, show ¬ l.length ≤ 4 by omega, decide_false, Bool.false_and]
  · rw [spec_IsNumber_eq]
    simp only [Option.bind_some]
    cases hc : isNum c with
    | false =>
      refine ev_eqr (Ev.step (f := fun _ => some false) (fun k => by simp [spec_IsAtom.j0]) (Ev.now _)) ?_
      simp [isAt, hc]
    | true =>
      refine Ev.step (f := fun k => spec_IsAtom.l0 k 0 l c s) (fun k => by simp [spec_IsAtom.j0]) ?_
      refine ev_eqr (spec_IsAtom_l0_ev l c s hl hc) ?_
      cases hall : l.all isNum <;> simp [isAt, hc, hall, show l.length ≤ 4 by omega]
theorem all_tdiv {l : List Int} {g : Int} : ∀ x ∈ l.map (·.tdiv g), ∃ y ∈ l, x = y.tdiv g := by
  intro x hx
  obtain ⟨y, hy, rfl⟩ := List.mem_map.1 hx
  exact ⟨y, hy, rfl⟩
theorem spec_l2Atom_ev (l : List Int) (c : Int) (s : Bool) (hl : l.length ≤ 1048576) (hb : ∀ x ∈ l, -9223372036854775807 ≤ x ∧ x ≤ 9223372036854775807) (hc : -9223372036854775807 ≤ c ∧ c ≤ 9223372036854775807) : Ev (fun k => spec_l2Atom.f k l c s) (mkAt l c s) := by
  unfold spec_l2Atom.f
  refine Ev.bind (spec_l2Gcd_ev l c hl hb hc) ?_
  rw [mx_div1]
  have hp := div1_pos (Nat.gcd (gcdL l) c.natAbs)
  refine ev_neg (by omega) ?_
  rw [w64_tdiv hc.1 hc.2]
  have := ev_push (fun k ys i => spec_l2Atom.l0 k l (div1 (Nat.gcd (gcdL l) c.natAbs)) i ys (c.tdiv (div1 (Nat.gcd (gcdL l) c.natAbs))) s) l (fun _ x => x.tdiv (div1 (Nat.gcd (gcdL l) c.natAbs))) (mkAt l c s)
    (by
      rw [mapIdx_const l (fun x => x.tdiv (div1 (Nat.gcd (gcdL l) c.natAbs)))]
      refine Ev.step (fun k => by rw [spec_l2Atom.l0, if_neg (by omega)]) ?_
      refine Ev.bind (spec_IsAtom_ev _ _ s (by simpa using hl)) ?_
      unfold mkAt
      exact ev_ite (fun h => by simp only [h, if_true]; exact Ev.now _) (fun h => by simp only [h]; exact Ev.now _))
    (fun i hi ys hy ih => by
      have hx := hb l[i] (List.getElem_mem hi)
      refine Ev.step (fun k => by rw [spec_l2Atom.l0]) ?_
      refine ev_pos (by omega) (ev_pos (by omega) (ev_neg (by omega) (ev_pos (by omega) ?_)))
      simp only [rd, Int.toNat_natCast, getD_of_lt hi]
      rw [w64_succ (by omega), w64_tdiv hx.1 hx.2]
      exact ih)
  simpa using this
theorem spec_MakeAtom_ev (l : List Int) (c : Int) (s : Bool) (hl : l.length ≤ 1048576) : Ev (fun k => spec_MakeAtom.f k l c s) (makeAt l c s) := by
  unfold spec_MakeAtom.f
  have := ev_allq (fun k i => spec_MakeAtom.l0 k l c s i) l isNum (makeAt l c s) noAt
    (fun hall => by
      refine Ev.step (fun k => by rw [spec_MakeAtom.l0, if_neg (by omega)]) ?_
      rw [spec_IsNumber_eq]
      simp only [Option.bind_some]
      unfold makeAt
      refine ev_ite (fun h => ev_ite (fun h4 => ?_) (fun h4 => ?_)) (fun h => ?_)
      · rw [if_neg (by simp; omega)]; exact Ev.now _
      · rw [if_pos (by simp [h, hall]; omega)]
        exact Ev.bind (spec_l2Atom_ev l c s hl (fun x hx => isNum_bd (List.all_eq_true.1 hall x hx)) (isNum_bd h)) (Ev.now _)
      · rw [if_neg (by simp [h])]; exact Ev.now _)
    (fun i hi r hp ih => by
      refine Ev.step (fun k => by rw [spec_MakeAtom.l0]) ?_
      refine ev_pos (by omega) (ev_pos (by omega) ?_)
      simp only [rd, Int.toNat_natCast, getD_of_lt hi]
      rw [spec_IsNumber_eq, w64_succ (by omega)]
      simp only [Option.bind_some]
      exact ev_pos hp ih)
    (fun i hi hp => by
      refine Ev.step (fun k => by rw [spec_MakeAtom.l0]) ?_
      refine ev_pos (by omega) (ev_pos (by omega) ?_)
      simp only [rd, Int.toNat_natCast, getD_of_lt hi]
      rw [spec_IsNumber_eq]
      simp only [Option.bind_some]
      exact ev_neg (by simp [hp]) (Ev.now _))
  refine ev_eqr this ?_
  split
  · rfl
  · rename_i h
    unfold makeAt
    rw [if_neg (by simp only [Bool.and_eq_true]; exact fun h' => h h'.2)]
theorem impl_divisorOf_ev (l : List Int) (hl : l.length ≤ 1048576) (hb : ∀ x ∈ l, -9223372036854775807 ≤ x ∧ x ≤ 9223372036854775807) : Ev (fun k => impl_divisorOf.f k l) (gcdL l : Int) := by
  unfold impl_divisorOf.f
  have := ev_fold (fun k (g : Nat) i => impl_divisorOf.l0 k (g : Int) l (l.length : Int) i) l (fun g x => Nat.gcd g x.natAbs) (fun g => (g : Int)) (fun g => g ≤ 9223372036854775807)
    (fun g _ => Ev.step (f := fun _ => some (g : Int)) (fun k => by simp [impl_divisorOf.l0]) (Ev.now _))
    (fun i hi g r hg => by
      have hx := hb l[i] (List.getElem_mem hi)
      refine ⟨gcd_le_max _ _ _ hg (by omega), fun ih => ?_⟩
      refine Ev.step (fun k => by rw [impl_divisorOf.l0]) ?_
      refine ev_pos (by omega) (ev_pos (by omega) (ev_pos (by omega) ?_))
      simp only [rd, Int.toNat_natCast, getD_of_lt hi]
      refine Ev.bind (impl_commonDivisor_ev _ _ (by omega) hx) ?_
      rw [w64_succ (by omega)]
      have e : ((Int.gcd (g : Int) l[i] : Nat) : Int) = ((Nat.gcd g l[i].natAbs : Nat) : Int) := by simp [Int.gcd]
      rw [e]; exact ih) 0 (by omega)
  exact this
theorem isNum_bd' {x : Int} (h : isNum x = true) : -9223372036854775807 ≤ x ∧ x ≤ 9223372036854775807 := by rw [isNum_iff] at h; omega
theorem impl_IsAtom_l0_ev (l : List Int) (c : Int) (s : Bool) (hl : l.length ≤ 1048576) (hc : isNum c = true) : Ev (fun k => impl_IsAtom.l0 k l (l.length : Int) 0 l c s) (if l.all isNum then decide (Nat.gcd (gcdL l) c.natAbs ≤ 1) else false) := by
  have := ev_allq (fun k i => impl_IsAtom.l0 k l (l.length : Int) i l c s) l isNum (decide (Nat.gcd (gcdL l) c.natAbs ≤ 1)) false
    (fun hall => by
      have hb := fun x hx => isNum_bd' (List.all_eq_true.1 hall x hx)
      have hg : gcdL l ≤ 9223372036854775807 := gcdL_le l _ (fun x hx => by have := hb x hx; omega)
      refine Ev.step (fun k => by rw [impl_IsAtom.l0, if_neg (by omega)]) ?_
      refine Ev.bind (impl_divisorOf_ev l hl hb) (Ev.bind (impl_commonDivisor_ev _ c (by omega) (isNum_bd' hc)) (ev_some ?_))
      have e : ((Int.gcd (gcdL l : Int) c : Nat) : Int) = ((Nat.gcd (gcdL l) c.natAbs : Nat) : Int) := by simp [Int.gcd]
      rw [e, Bool.eq_iff_iff]; simp; omega)
    (fun i hi r hp ih => by
      refine Ev.step (fun k => by rw [impl_IsAtom.l0]) ?_
      refine ev_pos (by omega) (ev_pos (by omega) (ev_pos (by omega) ?_))
      simp only [rd, Int.toNat_natCast, getD_of_lt hi]
      rw [impl_IsNumber_eq, w64_succ (by omega)]
      simp only [Option.bind_some]
      exact ev_pos hp ih)
    (fun i hi hp => by
      refine Ev.step (fun k => by rw [impl_IsAtom.l0]) ?_
      refine ev_pos (by omega) (ev_pos (by omega) (ev_pos (by omega) ?_))
      simp only [rd, Int.toNat_natCast, getD_of_lt hi]
      rw [impl_IsNumber_eq]
      simp only [Option.bind_some]
      exact ev_neg (by simp [hp]) (Ev.now _))
  simpa using this
theorem impl_IsAtom_ev (l : List Int) (c : Int) (s : Bool) (hl : l.length ≤ 1048576) : Ev (fun k => impl_IsAtom.f k l c s) (isAt l c) := by
  unfold impl_IsAtom.f
  refine ev_ite (fun h => ?_) (fun h => ?_)
  · refine ev_eqr (Ev.step (f := fun _ => some false) (fun k => by simp [impl_IsAtom.j0]) (Ev.now _)) ?_
    simp only [isAt, show ¬ l.length ≤ 4 by omega, decide_false, Bool.false_and]
  · rw [impl_IsNumber_eq]
    simp only [Option.bind_some]
    cases hc : isNum c with
    | false =>
      refine ev_eqr (Ev.step (f := fun _ => some false) (fun k => by simp [impl_IsAtom.j0]) (Ev.now _)) ?_
      simp [isAt, hc]
    | true =>
      refine Ev.step (f := fun k => impl_IsAtom.l0 k l (l.length : Int) 0 l c s) (fun k => by simp [impl_IsAtom.j0]) ?_
      refine ev_eqr (impl_IsAtom_l0_ev l c s hl hc) ?_
      cases hall : l.all isNum <;> simp [isAt, hc, hall, show l.length ≤ 4 by omega]
theorem impl_NegateAtom_ev (l : List Int) (c : Int) (s : Bool) (hl : l.length ≤ 1048576) : Ev (fun k => impl_NegateAtom.f k l c s) (negAt l c s) := by
  unfold impl_NegateAtom.f negAt
  refine Ev.bind (impl_IsAtom_ev l c s hl) (ev_ite (fun h => ?_) (fun h => by simp only [h]; exact Ev.now _))
  simp only [h, if_true]
  obtain ⟨_, hc, hb, _⟩ := isAt_iff.1 h
  have hc' := isNum_bd' hc
  refine ev_pos (by omega) (ev_pos (by simp; omega) ?_)
  rw [w64 (a := -c) (by omega) (by omega)]
  have := ev_put (fun k ys i => impl_NegateAtom.l0 k l (l.length : Int) i ys (-c) (!s)) l (fun _ x => -x) 0 (l.map (- ·), -c, !s, true)
    (by
      rw [mapIdx_const l (fun x => -x)]
      exact Ev.step (f := fun _ => some (l.map (- ·), -c, !s, true)) (fun k => by simp [impl_NegateAtom.l0]) (Ev.now _))
    (fun i hi ys hy ih => by
      have hx := isNum_bd' (hb l[i] (List.getElem_mem hi))
      refine Ev.step (fun k => by rw [impl_NegateAtom.l0]) ?_
      refine ev_pos (by omega) (ev_pos (by omega) (ev_pos (by omega) (ev_pos (by omega) ?_)))
      simp only [rd, Int.toNat_natCast, getD_of_lt hi]
      rw [w64_succ (by omega), w64 (a := -l[i]) (by omega) (by omega)]
      exact ih)
  simpa using this
theorem impl_sign_eq (a b : Int) : impl_sign.f a b = some (sgn a b) := by
  unfold impl_sign.f sgn
  by_cases h : a < b
  · simp [h]
  · rw [if_neg h, if_neg h]
    by_cases h2 : b < a
    · rw [if_pos h2, if_pos (show a > b from h2)]
    · rw [if_neg h2, if_neg (show ¬ a > b from h2)]
theorem impl_directionDivisor_ev (l : List Int) (c : Int) (s : Bool) (hl : l.length ≤ 1048576) (hb : ∀ x ∈ l, -9223372036854775807 ≤ x ∧ x ≤ 9223372036854775807) : Ev (fun k => impl_directionDivisor.f k l c s) (div1 (gcdL l)) := by
  unfold impl_directionDivisor.f
  refine Ev.bind (impl_divisorOf_ev l hl hb) (ev_ite (fun h => ev_some ?_) (fun h => ev_some ?_))
  · unfold div1; rw [if_pos (by omega)]
  · unfold div1; rw [if_neg (by omega)]
theorem impl_compareDirections_ev (l1 : List Int) (c1 : Int) (s1 : Bool) (l2 : List Int) (c2 : Int) (s2 : Bool) (hl1 : l1.length ≤ 1048576) (hlen : l1.length = l2.length)
    (hb1 : ∀ x ∈ l1, -9223372036854775807 ≤ x ∧ x ≤ 9223372036854775807) (hb2 : ∀ x ∈ l2, -9223372036854775807 ≤ x ∧ x ≤ 9223372036854775807) : Ev (fun k => impl_compareDirections.f k l1 c1 s1 l2 c2 s2) (wayAt l1 l2) := by
  unfold impl_compareDirections.f wayAt
  refine Ev.bind (impl_directionDivisor_ev l1 c1 s1 hl1 hb1) (Ev.bind (impl_directionDivisor_ev l2 c2 s2 (by omega) hb2) ?_)
  have hp1 := div1_pos (gcdL l1)
  have hp2 := div1_pos (gcdL l2)
  have key : ∀ i, i ≤ l1.length → Ev (fun k => impl_compareDirections.l0 k (div1 (gcdL l1)) (div1 (gcdL l2)) (l1.length : Int) (i : Nat) l1 c1 s1 l2 c2 s2) (cmpDir (div1 (gcdL l1)) (div1 (gcdL l2)) (l1.drop i) (l2.drop i)) := by
    refine down l1.length ?_ ?_
    · rw [List.drop_length, show l2.drop l1.length = [] by rw [hlen, List.drop_length]]
      exact Ev.step (f := fun _ => some 0) (fun k => by simp [impl_compareDirections.l0]) (Ev.now _)
    · intro i hi ih
      have hi2 : i < l2.length := by omega
      have hx := hb1 l1[i] (List.getElem_mem hi)
      have hy := hb2 l2[i] (List.getElem_mem hi2)
      refine Ev.step (fun k => by rw [impl_compareDirections.l0]) ?_
      refine ev_pos (by omega) (ev_pos (by omega) (ev_pos (by omega) (ev_neg (by omega) (ev_pos (by omega) (ev_neg (by omega) ?_)))))
      simp only [rd, Int.toNat_natCast, getD_of_lt hi, getD_of_lt hi2]
      rw [w64_succ (by omega), w64_tdiv hx.1 hx.2, w64_tdiv hy.1 hy.2, drop_cons hi, drop_cons hi2, cmpDir, impl_sign_eq]
      simp only [Option.bind_some]
      unfold sgn
      by_cases h : l1[i].tdiv (div1 (gcdL l1)) < l2[i].tdiv (div1 (gcdL l2))
      · simp only [if_pos h]; exact ev_neg (by omega) (Ev.now _)
      · simp only [if_neg h]
        by_cases h2 : l2[i].tdiv (div1 (gcdL l2)) < l1[i].tdiv (div1 (gcdL l1))
        · simp only [if_pos h2]; exact ev_neg (by omega) (Ev.now _)
        · simp only [if_neg h2]; exact ev_pos (by simp) ih
  simpa using key 0 (by omega)
theorem div1_le' {l : List Int} (h : ∀ x ∈ l, isNum x = true) : div1 (gcdL l) ≤ 400000000 := by
  have := gcdL_le l 400000000 (fun x hx => by have := isNum_iff.1 (h x hx); omega)
  unfold div1; split <;> omega
theorem impl_CompareAtoms_ev (l1 : List Int) (c1 : Int) (s1 : Bool) (l2 : List Int) (c2 : Int) (s2 : Bool) (hl1 : l1.length ≤ 1048576) (hl2 : l2.length ≤ 1048576) : Ev (fun k => impl_CompareAtoms.f k l1 c1 s1 l2 c2 s2) (cmpAt l1 c1 s1 l2 c2 s2) := by
  unfold impl_CompareAtoms.f cmpAt
  have no : ∀ k, impl_CompareAtoms.j0 (k + 1) true l1 c1 s1 l2 c2 s2 = some 2 := fun k => by simp [impl_CompareAtoms.j0]
  refine Ev.bind (impl_IsAtom_ev l1 c1 s1 hl1) (ev_ite (fun h1 => Ev.bind (impl_IsAtom_ev l2 c2 s2 hl2) (ev_ite (fun h2 => ?_) (fun h2 => ?_))) (fun h1 => ?_))
  · by_cases hlen : l1.length = l2.length
    · have e : ((l1.length : Int) != (l2.length : Int)) = false := by simp [hlen]
      rw [e, h1, h2, decide_eq_true hlen]
      simp only [Bool.and_self, if_true]
      obtain ⟨_, hc1, hb1, _⟩ := isAt_iff.1 h1
      obtain ⟨_, hc2, hb2, _⟩ := isAt_iff.1 h2
      have hb1' := fun x hx => isNum_bd' (hb1 x hx)
      have hb2' := fun x hx => isNum_bd' (hb2 x hx)
      refine Ev.step (fun k => by rw [impl_CompareAtoms.j0, if_neg (by simp)]) ?_
      refine Ev.bind (impl_compareDirections_ev l1 c1 s1 l2 c2 s2 hl1 hlen hb1' hb2') (ev_ite (fun hw => ?_) (fun hw => ?_))
      · refine ev_eqr ?_ (if_neg (fun h => h hw)).symm
        refine Ev.bind (impl_directionDivisor_ev l2 c2 s2 hl2 hb2') (Ev.bind (impl_directionDivisor_ev l1 c1 s1 hl1 hb1') ?_)
        have p1 := div1_pos (gcdL l1)
        have p2 := div1_pos (gcdL l2)
        have q1 := div1_le' hb1
        have q2 := div1_le' hb2
        rw [isNum_iff] at hc1 hc2
        have m1 := mul_bd (a := c1) (b := div1 (gcdL l2)) (by omega) (by omega)
        have m2 := mul_bd (a := c2) (b := div1 (gcdL l1)) (by omega) (by omega)
        rw [w64 (a := c1 * div1 (gcdL l2)) (by omega) (by omega), w64 (a := c2 * div1 (gcdL l1)) (by omega) (by omega), impl_sign_eq]
        simp only [Option.bind_some]
        unfold strengthAt
        refine ev_ite (fun hs => ?_) (fun hs => ?_)
        · refine ev_eqr ?_ (if_neg (fun h => h hs)).symm
          refine ev_ite (fun h => ev_some ?_) (fun h => ev_ite (fun h' => ev_some ?_) (fun h' => ev_some ?_))
          · rw [if_pos (by simpa using h)]
          · rw [if_neg (by simpa using h), if_pos h']
          · rw [if_neg (by simpa using h), if_neg h']
        · rw [if_pos (by simpa using hs)]; exact Ev.now _
      · rw [if_pos (by simpa using hw)]; exact Ev.now _
    · have e : ((l1.length : Int) != (l2.length : Int)) = true := by simp; omega
      rw [e]
      refine ev_eqr (Ev.step (f := fun _ => some 2) no (Ev.now _)) ?_
      rw [decide_eq_false hlen]; simp
  · refine ev_eqr (Ev.step (f := fun _ => some 2) no (Ev.now _)) ?_
    simp [h2]
  · refine ev_eqr (Ev.step (f := fun _ => some 2) no (Ev.now _)) ?_
    simp [h1]
def rtOf (x : S46) : Int × Int := (x.f0, x.f1)
def ptOf (p : List S46) : List (Int × Int) := p.map rtOf
theorem ptOf_len (p : List S46) : (ptOf p).length = p.length := by simp [ptOf]
theorem isPt_eq (p : List S46) (d : Int) : isPt p d = isPoint (ptOf p) d := by
  unfold isPt isPoint ptOf
  rw [List.all_map, List.length_map]; rfl
theorem impl_ValueOf_ev (l : List Int) (c : Int) (s : Bool) (p : List S46) (hl : l.length ≤ 1048576) (hp : p.length ≤ 1048576) : Ev (fun k => impl_ValueOf.f k l c s p) (valAt l c (ptOf p)) := by
  unfold impl_ValueOf.f valAt
  have no : ∀ k, impl_ValueOf.j0 (k + 1) p true l c s = some (0, 0, false) := fun k => by simp [impl_ValueOf.j0]
  refine Ev.bind (impl_IsAtom_ev l c s hl) (ev_ite (fun h1 => Ev.bind (impl_IsPoint_ev p _ hp) ?_) (fun h1 => ?_))
  · rw [isPt_eq]
    cases h2 : isPoint (ptOf p) (l.length : Int) with
    | false =>
      refine ev_eqr (Ev.step (f := fun _ => some (0, 0, false)) no (Ev.now _)) ?_
      simp
    | true =>
      simp only [h1, Bool.and_self, if_true]
      have hlen : p.length = l.length := by have := isPoint_len h2; rw [ptOf_len] at this; omega
      refine Ev.step (fun k => by rw [impl_ValueOf.j0, if_neg (by simp)]) ?_
      have key : ∀ i, i ≤ l.length → ∀ a b, Ev (fun k => impl_ValueOf.l0 k p l (l.length : Int) (i : Nat) a b) (valFin (valGo (l.drop i) ((ptOf p).drop i) (a, b))) := by
        refine down l.length ?_ ?_
        · intro a b
          refine Ev.step (fun k => by rw [impl_ValueOf.l0, if_neg (by omega)]) ?_
          rw [List.drop_length]
          exact Ev.bind (impl_IsRatio_ev a b) (Ev.now _)
        · intro i hi2 ih a b
          have hi : i < p.length := by omega
          have hi3 : i < (ptOf p).length := by rw [ptOf_len]; exact hi
          refine Ev.step (fun k => by rw [impl_ValueOf.l0]) ?_
          refine ev_pos (by omega) (ev_pos (by omega) (ev_pos (by omega) (ev_pos (by omega) ?_)))
          simp only [rd, rd_T46, Int.toNat_natCast, getD_of_lt hi, getD_of_lt hi2]
          refine Ev.bind (impl_MultiplyRatios_ev _ _ _ _) (Ev.bind (impl_AddRatios_ev _ _ _ _) ?_)
          rw [w64_succ (by omega), drop_cons hi2, drop_cons hi3, valGo]
          have e : (ptOf p)[i] = (p[i].f0, p[i].f1) := by simp [ptOf, rtOf]
          rw [e]
          exact ih _ _
      simpa using key 0 (by omega) c 1
  · refine ev_eqr (Ev.step (f := fun _ => some (0, 0, false)) no (Ev.now _)) ?_
    simp [h1]
theorem impl_HoldsAt_ev (l : List Int) (c : Int) (s : Bool) (p : List S46) (hl : l.length ≤ 1048576) (hp : p.length ≤ 1048576) : Ev (fun k => impl_HoldsAt.f k l c s p) (holdAt l c s (ptOf p)) := by
  unfold impl_HoldsAt.f holdAt
  refine Ev.bind (impl_ValueOf_ev l c s p hl hp) (ev_ite (fun h => ?_) (fun h => by simp only [h]; exact Ev.now _))
  simp only [h, if_true]
  refine ev_ite (fun h1 => ev_some (by simp [h1])) (fun h1 => ev_ite (fun h2 => ev_some (by simp [h2])) (fun h2 => ev_some (by simp [h1, h2])))
theorem laws_big_eq (l : List Int) : laws_big.f l = some (decide ((l.length : Int) > 1048576)) := rfl
theorem i64_and255 (n : Int) : Go.bits .and .i64 n 255 = n % 256 := by
  have h127 : (BitVec.ofInt 64 255).toNat = 2 ^ 8 - 1 := by decide
  have key : (BitVec.ofInt 64 n &&& BitVec.ofInt 64 255).toNat = (n % ((2 ^ 64 : Nat) : Int)).toNat % 2 ^ 8 := by
    rw [BitVec.toNat_and, BitVec.toNat_ofInt, h127, Nat.and_two_pow_sub_one_eq_mod]
  show IntKind.i64.wrap ((BitVec.ofInt 64 n &&& BitVec.ofInt 64 255).toNat : Nat) = n % 256
  rw [key, IntKind.wrap_i64]
  omega
/-- Some rounds give a value of which `P` holds. -/
def Tot {α : Type} (g : Nat → Option α) (P : α → Prop) : Prop := ∃ r, Ev g r ∧ P r
theorem Tot.bind {α β : Type} {g : Nat → Option α} {f : Nat → α → Option β} {P : α → Prop} {Q : β → Prop} (h : Tot g P) (k : ∀ a, P a → Tot (fun n => f n a) Q) : Tot (fun n => (g n).bind (f n)) Q := by
  obtain ⟨a, ha, hp⟩ := h
  obtain ⟨b, hb, hq⟩ := k a hp
  exact ⟨b, Ev.bind ha hb, hq⟩
theorem Tot.ite {α : Type} {c : Prop} [Decidable c] {g f : Nat → Option α} {P : α → Prop} (h : c → Tot g P) (h' : ¬ c → Tot f P) : Tot (fun k => if c then g k else f k) P := by
  by_cases hc : c
  · simp only [hc, if_true]; exact h hc
  · simp only [hc, if_false]; exact h' hc
theorem Tot.pos {α : Type} {c : Prop} [Decidable c] {g f : Nat → Option α} {P : α → Prop} (hc : c) (h : Tot g P) : Tot (fun k => if c then g k else f k) P := by
  simp only [hc, if_true]; exact h
theorem Tot.now {α : Type} {a : α} {P : α → Prop} (h : P a) : Tot (fun _ => some a) P := ⟨a, Ev.now a, h⟩
theorem Tot.mono {α : Type} {g : Nat → Option α} {P Q : α → Prop} (h : Tot g P) (k : ∀ a, P a → Q a) : Tot g Q := by
  obtain ⟨a, ha, hp⟩ := h
  exact ⟨a, ha, k a hp⟩
theorem Tot.step {α : Type} {g f : Nat → Option α} {P : α → Prop} (h : ∀ k, g (k + 1) = f k) (k : Tot f P) : Tot g P := by
  obtain ⟨a, ha, hp⟩ := k
  exact ⟨a, Ev.step h ha, hp⟩
theorem Tot.ev {α : Type} {g : Nat → Option α} {r : α} {P : α → Prop} (h : Ev g r) (hp : P r) : Tot g P := ⟨r, h, hp⟩
theorem spec_l1Byte_tot (l : List Int) (p t : Int) (hl : l.length ≤ 1048576) (hp : 0 ≤ p) : Tot (fun _ => spec_l1Byte.f l p t) (fun r => (0 ≤ r.1 ∧ r.1 ≤ 255) ∧ 0 ≤ r.2.1) := by
  unfold spec_l1Byte.f
  refine Tot.ite (fun h => Tot.pos hp (Tot.now ⟨?_, ?_⟩)) (fun h => Tot.now ⟨?_, hp⟩)
  · simp only [i64_and255]; omega
  · show 0 ≤ wrap64 (p + 1)
    rw [w64 (by omega) (by omega)]; omega
  · simp only [i64_and255]; omega
theorem spec_l1Below_tot (l : List Int) (p t a : Int) (hl : l.length ≤ 1048576) (hp : 0 ≤ p) : Tot (fun _ => spec_l1Below.f l p t a) (fun r => (0 ≤ r.1 ∧ (0 < a → r.1 < a)) ∧ 0 ≤ r.2.1) := by
  unfold spec_l1Below.f
  refine Tot.ite (fun h => Tot.now ⟨⟨by simp, fun h' => by simp; omega⟩, hp⟩) (fun h => Tot.ite (fun h1 => ?_) (fun h1 => ?_))
  · refine Tot.bind (spec_l1Byte_tot l p t hl hp) (fun r hr => ?_)
    have e : ¬ a = 0 := by omega
    simp only [e, if_false]
    exact Tot.now ⟨⟨Int.tmod_nonneg _ hr.1.1, fun h' => Int.tmod_lt_of_pos _ h'⟩, hr.2⟩
  · refine Tot.bind (spec_l1Byte_tot l p t hl hp) (fun r1 h1 => Tot.bind (spec_l1Byte_tot l _ _ hl h1.2) (fun r2 h2 => Tot.bind (spec_l1Byte_tot l _ _ hl h2.2) (fun r3 h3 => Tot.bind (spec_l1Byte_tot l _ _ hl h3.2) (fun r4 h4 => ?_))))
    have e : ¬ a = 0 := by omega
    simp only [e, if_false]
    refine Tot.now ⟨⟨Int.tmod_nonneg _ ?_, fun h' => Int.tmod_lt_of_pos _ h'⟩, h4.2⟩
    obtain ⟨⟨a1, b1⟩, _⟩ := h1
    obtain ⟨⟨a2, b2⟩, _⟩ := h2
    obtain ⟨⟨a3, b3⟩, _⟩ := h3
    obtain ⟨⟨a4, b4⟩, _⟩ := h4
    rw [w64 (a := r1.1 * 16777216) (by omega) (by omega), w64 (a := r2.1 * 65536) (by omega) (by omega), w64 (a := r3.1 * 256) (by omega) (by omega),
      w64 (a := r1.1 * 16777216 + r2.1 * 65536) (by omega) (by omega), w64 (a := r1.1 * 16777216 + r2.1 * 65536 + r3.1 * 256) (by omega) (by omega), w64 (by omega) (by omega)]
    omega
theorem spec_l1Once_tot (l : List Int) (p t a : Int) (hl : l.length ≤ 1048576) (hp : 0 ≤ p) : Tot (fun _ => spec_l1Once.f l p t a) (fun r => 0 ≤ r.2.1) := by
  unfold spec_l1Once.f
  exact Tot.bind (spec_l1Below_tot l p t a hl hp) (fun r hr => Tot.now hr.2)
theorem spec_l1PickInt_tot (l : List Int) (p t : Int) (m : List Int) (hl : l.length ≤ 1048576) (hp : 0 ≤ p) (hm : 0 < m.length) : Tot (fun _ => spec_l1PickInt.f l p t m) (fun r => 0 ≤ r.2.1) := by
  unfold spec_l1PickInt.f
  refine Tot.bind (spec_l1Below_tot l p t _ hl hp) (fun r hr => ?_)
  exact Tot.pos hr.1.1 (Tot.pos (hr.1.2 (by omega)) (Tot.now hr.2))
theorem spec_l1Odd_tot (l : List Int) (p t : Int) (hl : l.length ≤ 1048576) (hp : 0 ≤ p) : Tot (fun _ => spec_l1Odd.f l p t) (fun r => 0 ≤ r.2.1) := by
  unfold spec_l1Odd.f
  exact Tot.bind (spec_l1PickInt_tot l p t _ hl hp (by simp)) (fun r hr => Tot.now hr)
theorem spec_l1New_tot (l : List Int) (hl : l.length ≤ 1048576) : Tot (fun k => spec_l1New.f k l) (fun r => r.1 = l ∧ 0 ≤ r.2.1) := by
  unfold spec_l1New.f
  have key : ∀ i, i ≤ l.length → ∀ x, Tot (fun k => spec_l1New.l0 k l x (i : Nat)) (fun r => r.1 = l ∧ 0 ≤ r.2.1) := by
    refine down l.length ?_ ?_
    · intro x
      refine Tot.step (fun k => by rw [spec_l1New.l0, if_neg (by omega)]) (Tot.now ⟨rfl, by simp⟩)
    · intro i hi ih x
      refine Tot.step (fun k => by rw [spec_l1New.l0]) ?_
      refine Tot.pos (by omega) (Tot.ite (fun _ => Tot.pos (by omega) ?_) (fun _ => Tot.now ⟨rfl, by simp⟩))
      rw [w64_succ (by omega)]
      exact ih _
  exact key 0 (by omega) _
theorem spec_l2Spoil_tot (l : List Int) (p t : Int) (m : List Int) (c : Int) (s : Bool) (hl : l.length ≤ 1048576) (hp : 0 ≤ p) (hm : m.length ≤ 4) : Tot (fun _ => spec_l2Spoil.f l p t m c s) (fun r => r.1.length ≤ 5 ∧ 0 ≤ r.2.2.2.1) := by
  unfold spec_l2Spoil.f
  refine Tot.bind (spec_l1Below_tot l p t 40 hl hp) (fun r hr => Tot.ite (fun _ => ?_) (fun _ => Tot.ite (fun _ => ?_) (fun _ => Tot.ite (fun _ => ?_) (fun _ => ?_))))
  · exact Tot.bind (spec_l1Odd_tot l _ _ hl hr.2) (fun r hr => Tot.now ⟨by show m.length ≤ 5; omega, hr⟩)
  · exact Tot.pos (by omega) (Tot.now ⟨by simp; omega, hr.2⟩)
  · exact Tot.now ⟨by show m.length ≤ 5; omega, hr.2⟩
  · exact Tot.now ⟨by show m.length ≤ 5; omega, hr.2⟩
theorem spec_l2Draw_tot (l : List Int) (p t : Int) (d : Int) (hl : l.length ≤ 1048576) (hp : 0 ≤ p) (hd : d ≤ 1048576) : Tot (fun k => spec_l2Draw.f k l p t d) (fun r => r.1.length ≤ 4 ∧ 0 ≤ r.2.2.2.1) := by
  unfold spec_l2Draw.f
  have key : ∀ j i : Nat, d - i ≤ j → ∀ (m : List Int) (p t : Int), m.length = i → i ≤ 1048576 → 0 ≤ p → Tot (fun k => spec_l2Draw.l0 k d m (i : Nat) l p t) (fun r => r.1.length ≤ 4 ∧ 0 ≤ r.2.2.2.1) := by
    intro j
    induction j with
    | zero =>
      intro i hj m p t hm hi hp
      refine Tot.step (fun k => by rw [spec_l2Draw.l0, if_neg (by omega)]) ?_
      refine Tot.bind (spec_l1Below_tot l _ _ _ hl hp) (fun r1 h1 => Tot.bind (spec_l1Once_tot l _ _ _ hl h1.2) (fun r2 h2 => Tot.bind (P := fun r => r.1.length ≤ 4) (Tot.ev (spec_MakeAtom_ev m _ _ (by omega)) (makeAt_len _ _ _)) (fun r3 h3 => Tot.now ⟨h3, h2⟩)))
    | succ j ih =>
      intro i hj m p t hm hi hp
      refine Tot.step (fun k => by rw [spec_l2Draw.l0]) (Tot.ite (fun h => ?_) (fun h => ?_))
      · refine Tot.bind (spec_l1Below_tot l _ _ _ hl hp) (fun r1 h1 => Tot.pos (by omega) ?_)
        rw [w64_succ (by omega)]
        exact ih (i + 1) (by omega) _ _ _ (by simp; omega) (by omega) h1.2
      · refine Tot.bind (spec_l1Below_tot l _ _ _ hl hp) (fun r1 h1 => Tot.bind (spec_l1Once_tot l _ _ _ hl h1.2) (fun r2 h2 => Tot.bind (P := fun r => r.1.length ≤ 4) (Tot.ev (spec_MakeAtom_ev m _ _ (by omega)) (makeAt_len _ _ _)) (fun r3 h3 => Tot.now ⟨h3, h2⟩)))
  exact key d.toNat 0 (by omega) [] p t rfl (by omega) hp
theorem spec_l2Any_tot (l : List Int) (p t : Int) (hl : l.length ≤ 1048576) (hp : 0 ≤ p) : Tot (fun k => spec_l2Any.f k l p t) (fun r => 0 ≤ r.2.2.1) := by
  unfold spec_l2Any.f
  refine Tot.bind (spec_l1Below_tot l p t 12 hl hp) (fun r hr => Tot.ite (fun _ => Tot.now hr.2) (fun _ => Tot.ite (fun _ => ?_) (fun _ => Tot.ite (fun _ => ?_) (fun _ => ?_))))
  · exact Tot.bind (spec_l1Odd_tot l _ _ hl hr.2) (fun r1 h1 => Tot.bind (spec_l1PickInt_tot l _ _ _ hl h1 (by simp)) (fun r2 h2 => Tot.now h2))
  · exact Tot.bind (spec_l1Below_tot l _ _ _ hl hr.2) (fun r1 h1 => Tot.bind (spec_l1Below_tot l _ _ _ hl h1.2) (fun r2 h2 => Tot.bind (P := fun _ => True) (Tot.ev (spec_MakeRatio_ev _ _) trivial) (fun r3 _ => Tot.now h2.2)))
  · exact Tot.bind (spec_l1Below_tot l _ _ _ hl hr.2) (fun r1 h1 => Tot.bind (spec_l1Below_tot l _ _ _ hl h1.2) (fun r2 h2 => Tot.bind (P := fun _ => True) (Tot.ev (spec_MakeRatio_ev _ _) trivial) (fun r3 _ => Tot.now h2.2)))
theorem spec_l2Atoms_tot (l : List Int) (p t : Int) (hl : l.length ≤ 1048576) (hp : 0 ≤ p) : Tot (fun k => spec_l2Atoms.f k l p t) (fun r => r.1.length ≤ 5 ∧ 0 ≤ r.2.2.2.1) := by
  unfold spec_l2Atoms.f
  refine Tot.bind (spec_l1Below_tot l p t 4 hl hp) (fun r1 h1 => ?_)
  have h1' := h1.1.2 (by omega)
  refine Tot.bind (spec_l2Draw_tot l _ _ _ hl h1.2 (by omega)) (fun r2 h2 => ?_)
  exact Tot.bind (spec_l2Spoil_tot l _ _ _ _ _ hl h2.2 h2.1) (fun r3 h3 => Tot.now h3)
theorem spec_l2Point_tot (l : List Int) (p t : Int) (d : Int) (hl : l.length ≤ 1048576) (hp : 0 ≤ p) (hd : d ≤ 1048576) : Tot (fun k => spec_l2Point.f k l p t d) (fun r => r.1.length ≤ 1048576 ∧ 0 ≤ r.2.1) := by
  unfold spec_l2Point.f
  have fin : ∀ (m : List S46) (p t : Int), m.length ≤ 1048576 → 0 ≤ p → Tot (fun k => if (m.length : Int) > 0 then ((spec_l1Once.f l p t 30).bind fun b => (if b.1 = true then ((spec_l2Any.f k l b.2.1 b.2.2).bind fun c => (if 0 < (m.length : Int) then (some ((m.set (0 : Int).toNat (⟨c.1, c.2.1⟩ : S46)), c.2.2.1, c.2.2.2)) else (none))) else (some (m, b.2.1, b.2.2)))) else (some (m, p, t))) (fun r => r.1.length ≤ 1048576 ∧ 0 ≤ r.2.1) := fun m p t hm hp => by
    refine Tot.ite (fun h => Tot.bind (spec_l1Once_tot l p t 30 hl hp) (fun b hb => Tot.ite (fun _ => Tot.bind (spec_l2Any_tot l _ _ hl hb) (fun c hc => Tot.pos h (Tot.now ⟨by simpa using hm, hc⟩))) (fun _ => Tot.now ⟨hm, hb⟩))) (fun h => Tot.now ⟨hm, hp⟩)
  have key : ∀ j i : Nat, d - i ≤ j → ∀ (m : List S46) (p t : Int), m.length = i → i ≤ 1048576 → 0 ≤ p → Tot (fun k => spec_l2Point.l0 k d m (i : Nat) l p t) (fun r => r.1.length ≤ 1048576 ∧ 0 ≤ r.2.1) := by
    intro j
    induction j with
    | zero =>
      intro i hj m p t hm hi hp
      exact Tot.step (fun k => by rw [spec_l2Point.l0, if_neg (by omega)]) (fin m p t (by omega) hp)
    | succ j ih =>
      intro i hj m p t hm hi hp
      refine Tot.step (fun k => by rw [spec_l2Point.l0]) (Tot.ite (fun h => ?_) (fun h => fin m p t (by omega) hp))
      refine Tot.bind (spec_l1Below_tot l _ _ _ hl hp) (fun r1 h1 => Tot.bind (spec_l1Below_tot l _ _ _ hl h1.2) (fun r2 h2 => Tot.bind (P := fun _ => True) (Tot.ev (spec_MakeRatio_ev _ _) trivial) (fun r3 _ => Tot.pos (by omega) ?_)))
      rw [w64_succ (by omega)]
      exact ih (i + 1) (by omega) _ _ _ (by simp; omega) (by omega) h2.2
  exact key d.toNat 0 (by omega) [] p t rfl (by omega) hp
theorem spec_DrawHoldsAt_tot (l : List Int) (hl : l.length ≤ 1048576) : Tot (fun k => spec_DrawHoldsAt.f k l) (fun r => r.1.length ≤ 5 ∧ r.2.2.2.length ≤ 1048576) := by
  unfold spec_DrawHoldsAt.f spec_l2At.f
  refine Tot.bind (P := fun r => r.1.length ≤ 5 ∧ r.2.2.2.length ≤ 1048576) (Tot.bind (spec_l1New_tot l hl) (fun r0 h0 => ?_)) (fun r h => Tot.now h)
  obtain ⟨e0, h0⟩ := h0
  rw [e0]
  refine Tot.bind (spec_l2Atoms_tot l _ _ hl h0) (fun r1 h1 => ?_)
  exact Tot.bind (spec_l2Point_tot l _ _ _ hl h1.2 (by have := h1.1; omega)) (fun r2 h2 => Tot.now ⟨h1.1, h2.1⟩)
def digs (u : Nat) : List UInt8 := if h : u = 0 then [] else digs (u / 10) ++ [UInt8.ofNat (48 + u % 10)]
termination_by u
decreasing_by omega
theorem digs_zero : digs 0 = [] := by rw [digs, dif_pos rfl]
theorem digs_pos {u : Nat} (h : ¬ u = 0) : digs u = digs (u / 10) ++ [UInt8.ofNat (48 + u % 10)] := by rw [digs, dif_neg h]
def fmtL (n : Int) : List UInt8 := if n = 0 then [48] else if n < 0 then 45 :: digs n.natAbs else digs n.natAbs
/-- The bytes as a string. -/
def bs (l : List UInt8) : ByteArray := ⟨l.toArray⟩
theorem bs_size (l : List UInt8) : (bs l).size = l.length := by unfold bs; simp [ByteArray.size]
theorem bs_append (l m : List UInt8) : bs l ++ bs m = bs (l ++ m) := by
  unfold bs
  apply ByteArray.ext
  simp [ByteArray.data_append]
theorem dig_piece : ∀ d : Nat, d < 10 → (⟨#[48, 49, 50, 51, 52, 53, 54, 55, 56, 57]⟩ : ByteArray).extract d (d + 1) = bs [UInt8.ofNat (48 + d)]
  | 0, _ => rfl | 1, _ => rfl | 2, _ => rfl | 3, _ => rfl | 4, _ => rfl | 5, _ => rfl | 6, _ => rfl | 7, _ => rfl | 8, _ => rfl | 9, _ => rfl
  | n + 10, h => by omega
theorem dig_bd {d : Nat} (h : d < 10) : (0 : Int) ≤ (d : Int) ∧ (d : Int) ≤ ((d + 1 : Nat) : Int) ∧ ((d + 1 : Nat) : Int) ≤ 10 ∧ wrap64 ((d : Int) + 1) = ((d + 1 : Nat) : Int) := by
  refine ⟨by omega, by omega, by omega, ?_⟩
  rw [w64 (by omega) (by omega)]; omega
theorem decDigits_digs (u : Nat) (h : ¬ u = 0) : Lib.decDigits u = digs u := by
  induction u using Nat.strongRecOn with
  | _ u ih =>
    rw [digs_pos h]
    by_cases h1 : u < 10
    · rw [Lib.decDigits, dif_pos h1, show u / 10 = 0 by omega, digs_zero, show u % 10 = u by omega]; rfl
    · rw [Lib.decDigits, dif_neg h1, ih (u / 10) (by omega) (by omega)]
theorem itoa_fmtL (n : Int) : Lib.itoa n = fmtL n := by
  unfold Lib.itoa fmtL
  by_cases h : n = 0
  · subst h; rw [if_neg (by omega), if_pos rfl]
    show Lib.decDigits 0 = _
    rw [Lib.decDigits, dif_pos (by omega)]; rfl
  · rw [if_neg h]
    by_cases h1 : n < 0
    · rw [if_pos h1, if_pos h1, decDigits_digs _ (by omega)]
    · rw [if_neg h1, if_neg h1, show n.toNat = n.natAbs by omega, decDigits_digs _ (by omega)]
theorem digs_len (j : Nat) : ∀ u : Nat, u < 10 ^ j → (digs u).length ≤ j := by
  induction j with
  | zero => intro u h; have : u = 0 := by simpa using h
            subst this; simp [digs_zero]
  | succ j ih =>
    intro u h
    by_cases hz : u = 0
    · subst hz; simp [digs_zero]
    · rw [digs_pos hz, List.length_append]
      have := ih (u / 10) (by rw [Nat.pow_succ] at h; omega)
      simp; omega
theorem fmtL_len (n : Int) (h0 : -9223372036854775808 ≤ n) (h1 : n ≤ 9223372036854775807) : (fmtL n).length ≤ 21 := by
  have := digs_len 20 n.natAbs (by omega)
  unfold fmtL
  split
  · simp
  · split <;> simp <;> omega
def fmtRL (n d : Int) : List UInt8 := if isRat n d then (if d = 1 then fmtL n else fmtL n ++ 47 :: fmtL d) else [110, 111, 110, 101]
theorem bs_toList (l : List UInt8) : (bs l).toList = l := by rw [ByteArray.toList_eq]; unfold bs; simp
theorem bs_ne (l : List UInt8) : ((bs l).toList != ([] : List UInt8)) = decide (0 < l.length) := by rw [bs_toList]; cases l <;> simp
theorem bs_eq0 (l : List UInt8) : ((bs l).toList == ([] : List UInt8)) = decide (l.length = 0) := by rw [bs_toList]; cases l <;> simp
/-- An atom's text, piece by piece. -/
def nmL (i : Nat) : UInt8 := if i = 0 then 120 else if i = 1 then 121 else if i = 2 then 122 else 116
def plusL (acc : List UInt8) (n : Int) : List UInt8 := if 0 < n ∧ 0 < acc.length then acc ++ [43] else acc
def midL (n : Int) : List UInt8 := if n = -1 then [45] else if n = 1 then [] else fmtL n
def stepL (acc : List UInt8) (i : Nat) (n : Int) : List UInt8 := if n = 0 then acc else plusL acc n ++ midL n ++ [nmL i]
def goL : List Int → Nat → List UInt8 → List UInt8
  | [], _, acc => acc
  | n :: ns, i, acc => goL ns (i + 1) (stepL acc i n)
def endL (s : Bool) : List UInt8 := if s then [60, 48] else [60, 61, 48]
def finL (acc : List UInt8) (c : Int) (s : Bool) : List UInt8 := if c = 0 ∧ 0 < acc.length then acc ++ endL s else plusL acc c ++ fmtL c ++ endL s
def fmtAL (l : List Int) (c : Int) (s : Bool) : List UInt8 := if isAt l c then finL (goL l 0 []) c s else []
theorem plusL_len (acc : List UInt8) (n : Int) : (plusL acc n).length ≤ acc.length + 1 := by unfold plusL; split <;> simp
theorem fmtL_lenN {n : Int} (h : isNum n = true) : (fmtL n).length ≤ 21 := by
  have := isNum_iff.1 h
  exact fmtL_len n (by omega) (by omega)
theorem midL_len {n : Int} (h : isNum n = true) : (midL n).length ≤ 21 := by
  have := fmtL_lenN h
  unfold midL
  split
  · simp
  · split
    · simp
    · exact this
theorem stepL_len (acc : List UInt8) (i : Nat) {n : Int} (h : isNum n = true) : (stepL acc i n).length ≤ acc.length + 23 := by
  have h1 := midL_len h
  have h2 := plusL_len acc n
  unfold stepL
  split
  · omega
  · simp; omega
theorem goL_len : ∀ (ns : List Int) (i : Nat) (acc : List UInt8), (∀ x ∈ ns, isNum x = true) → (goL ns i acc).length ≤ acc.length + 23 * ns.length
  | [], _, acc, _ => by simp [goL]
  | n :: ns, i, acc, h => by
    have h1 := stepL_len acc i (h n (by simp))
    have h2 := goL_len ns (i + 1) (stepL acc i n) (fun x hx => h x (by simp [hx]))
    simp only [goL, List.length_cons]
    omega
theorem finL_len (acc : List UInt8) {c : Int} (s : Bool) (h : isNum c = true) : (finL acc c s).length ≤ acc.length + 25 := by
  have h1 := fmtL_lenN h
  have h2 := plusL_len acc c
  have h3 : (endL s).length ≤ 3 := by cases s <;> simp [endL]
  unfold finL
  split
  · simp; omega
  · simp; omega
theorem fmtAL_len (l : List Int) (c : Int) (s : Bool) : (fmtAL l c s).length ≤ 120 := by
  unfold fmtAL
  split
  · rename_i h
    obtain ⟨h4, hc, hx, _⟩ := isAt_iff.1 h
    have h1 := goL_len l 0 [] hx
    have h2 := finL_len (goL l 0 []) s hc
    simp at h1
    omega
  · simp
theorem nm_piece : ∀ i : Nat, i < 4 → (⟨#[120, 121, 122, 116]⟩ : ByteArray).extract i (i + 1) = bs [nmL i]
  | 0, _ => rfl | 1, _ => rfl | 2, _ => rfl | 3, _ => rfl
  | n + 4, h => by omega
theorem tl_bs {l : List UInt8} {s : ByteArray} (h : (bs l).toList = s.toList) : bs l = s := by
  rw [ByteArray.toList_eq, ByteArray.toList_eq] at h
  exact ByteArray.ext (Array.toList_inj.1 h)
/-- The number that digits spell behind a number. -/
def valL (acc : Nat) (l : List UInt8) : Nat := l.foldl (fun a b => a * 10 + (b.toNat - 48)) acc
def digL (l : List UInt8) : Prop := ∀ b ∈ l, 48 ≤ b.toNat ∧ b.toNat ≤ 57
theorem digs_dig : ∀ u : Nat, digL (digs u) := by
  intro u
  induction u using Nat.strongRecOn with
  | _ u ih =>
    intro b hb
    by_cases h : u = 0
    · subst h; rw [digs_zero] at hb; cases hb
    · rw [digs_pos h] at hb
      rcases List.mem_append.1 hb with hb | hb
      · exact ih (u / 10) (by omega) b hb
      · obtain rfl : b = UInt8.ofNat (48 + u % 10) := by simpa using hb
        have : (UInt8.ofNat (48 + u % 10)).toNat = 48 + u % 10 := by rw [UInt8.toNat_ofNat']; omega
        omega
theorem digs_val : ∀ u : Nat, valL 0 (digs u) = u := by
  intro u
  induction u using Nat.strongRecOn with
  | _ u ih =>
    by_cases h : u = 0
    · subst h; rw [digs_zero]; rfl
    · rw [digs_pos h]
      have e : (UInt8.ofNat (48 + u % 10)).toNat = 48 + u % 10 := by rw [UInt8.toNat_ofNat']; omega
      unfold valL at ih ⊢
      rw [List.foldl_append, ih (u / 10) (by omega)]
      simp only [List.foldl_cons, List.foldl_nil, e]
      omega
theorem valL_bd : ∀ (l : List UInt8) (acc j : Nat), digL l → acc < 10 ^ j → valL acc l < 10 ^ (j + l.length)
  | [], acc, j, _, h => by simpa [valL] using h
  | b :: l, acc, j, hd, h => by
    have hb := hd b (by simp)
    have := valL_bd l (acc * 10 + (b.toNat - 48)) (j + 1) (fun x hx => hd x (by simp [hx])) (by rw [Nat.pow_succ]; omega)
    rw [List.length_cons, show j + (l.length + 1) = j + 1 + l.length by omega]
    exact this
theorem bs_extract (l : List UInt8) (i j : Nat) : (bs l).extract i j = bs ((l.drop i).take (j - i)) := by
  unfold bs
  apply ByteArray.ext
  simp [List.extract_eq_take_drop]
theorem fmtL_no47 (n : Int) : ∀ b ∈ fmtL n, b ≠ 47 := by
  have hd := digs_dig n.natAbs
  have k : ∀ b ∈ digs n.natAbs, b ≠ 47 := fun b hb e => by
    have := hd b hb
    rw [e] at this
    exact absurd this.1 (by decide)
  intro b hb
  unfold fmtL at hb
  split at hb
  · obtain rfl : b = 48 := by simpa using hb
    decide
  · split at hb
    · rcases List.mem_cons.1 hb with e | hb
      · rw [e]; decide
      · exact k b hb
    · exact k b hb
/-- What reading a ratio gives: it, or nothing. -/
def PRat (s : ByteArray) (r : Int × Int × Bool) : Prop := r = (0, 0, false) ∨ ∃ n d, r = (n, d, true) ∧ isRat n d = true ∧ bs (fmtRL n d) = s
theorem makR_rat {n d : Int} (h : isRat n d = true) : makR n d = (n, d) := by
  have hb := isRat_iff.1 h
  have n1 : isNum n = true := isNum_iff.2 hb.2.1
  have n2 : isNum d = true := isNum_iff.2 (by omega)
  unfold makR red redOf
  rw [if_pos (by rw [n1, n2]; rfl), if_neg (show ¬ d = 0 by omega), if_neg (show ¬ d < 0 by omega), hb.2.2]
  simp [h]
theorem impl_FormatInt_eq (n : Int) (h0 : -9223372036854775808 ≤ n) (h1 : n ≤ 9223372036854775807) : impl_FormatInt.f n = some (bs (fmtL n)) := by
  unfold impl_FormatInt.f strconv_Itoa.f
  rw [if_pos ⟨h0, h1⟩, itoa_fmtL]
  rfl
theorem fa_go : ∀ (ns : List Int) (i : Nat) (acc : List UInt8), acc.length + 23 * ns.length ≤ 700000 → (∀ x ∈ ns, isNum x = true) → FA.go ns i acc = some (goL ns i acc)
  | [], _, _, _, _ => rfl
  | n :: ns, i, acc, ha, hx => by
    simp only [List.length_cons] at ha
    have hn := hx n (by simp)
    have hn' := isNum_iff.1 hn
    have h1 := stepL_len acc i hn
    have ih := fa_go ns (i + 1) (stepL acc i n) (by omega) (fun x h => hx x (by simp [h]))
    have es : FA.step acc i n = some (stepL acc i n) := by
      unfold FA.step stepL midL
      by_cases h0 : n = 0
      · rw [if_pos h0, if_pos h0]
      · rw [if_neg h0, if_neg h0, if_pos (by omega)]
        by_cases h2 : n = 1
        · rw [if_pos h2, if_neg (by omega), if_pos h2, List.append_nil]; rfl
        · rw [if_neg h2]
          by_cases h3 : n = -1
          · rw [if_pos h3, if_pos h3]; rfl
          · rw [if_neg h3, if_neg h3, if_neg h2, impl_FormatInt_eq n (by omega) (by omega), Option.bind_some]
            rw [if_pos (by rw [bs_size]; have := fmtL_lenN hn; omega)]
            rfl
    rw [FA.go, es, goL, Option.bind_some, ih]
theorem impl_FormatAtom_ev (l : List Int) (c : Int) (s : Bool) (hl : l.length ≤ 1048576) : Ev (fun k => impl_FormatAtom.f k l c s) (bs (fmtAL l c s)) := by
  unfold impl_FormatAtom.f fmtAL
  refine Ev.bind (impl_IsAtom_ev l c s hl) (ev_ite (fun h => ?_) (fun h => ?_))
  · rw [if_pos h]
    obtain ⟨h4, hc, hx, _⟩ := isAt_iff.1 h
    have hc' := isNum_iff.1 hc
    have h1 := goL_len l 0 [] hx
    have h2 := fmtL_lenN hc
    have h3 := plusL_len (goL l 0 []) c
    simp only [List.length_nil] at h1
    refine ev_pos h4 (ev_eq ?_)
    rw [fa_go l 0 [] (by simp; omega) hx, Option.bind_some]
    unfold FA.fin finL
    by_cases h0 : c = 0 ∧ 0 < (goL l 0 []).length
    · rw [if_pos h0, if_pos h0]
      unfold FA.tail
      rw [if_pos (by omega)]; rfl
    · rw [if_neg h0, if_neg h0, impl_FormatInt_eq c (by omega) (by omega), Option.bind_some]
      rw [if_pos ⟨by omega, by rw [bs_size]; omega⟩]
      have e : FA.plus (goL l 0 []) c ++ (bs (fmtL c)).data.toList = plusL (goL l 0 []) c ++ fmtL c := rfl
      rw [e]
      unfold FA.tail
      rw [if_pos (by simp; omega)]; rfl
  · rw [if_neg h]; exact Ev.now _
theorem bt_bs (l : List UInt8) (i : Nat) (h : i < l.length) : bt (bs l) (i : Int) = (l[i].toNat : Int) := by
  unfold bt
  rw [dif_pos (by rw [bs_size, Int.toNat_natCast]; exact h)]
  rfl
theorem decFrom_val : ∀ (l : List UInt8) (acc : Nat), digL l → Lib.decFrom acc l = some (valL acc l)
  | [], _, _ => rfl
  | b :: l, acc, h => by
    have hb := h b (by simp)
    unfold Lib.decFrom Lib.digitVal
    rw [if_pos hb]
    exact decFrom_val l _ (fun x hx => h x (by simp [hx]))
theorem atoi_fmtL (n : Int) (hn : isNum n = true) : Lib.atoi (fmtL n) = some n := by
  have hb := isNum_iff.1 hn
  have hv := digs_val n.natAbs
  have hd := digs_dig n.natAbs
  by_cases h0 : n = 0
  · subst h0; rfl
  · have hne : digs n.natAbs ≠ [] := by rw [digs_pos (by omega)]; simp
    have hnat : Lib.decNat (digs n.natAbs) = some n.natAbs := by
      unfold Lib.decNat
      rw [if_neg (by simpa using hne), decFrom_val _ _ hd, hv]
    by_cases h1 : n < 0
    · have e : fmtL n = 45 :: digs n.natAbs := by unfold fmtL; rw [if_neg h0, if_pos h1]
      rw [e]
      unfold Lib.atoi
      dsimp only
      rw [if_pos (by rfl), hnat, Option.map_some]
      congr 1; omega
    · have e : fmtL n = digs n.natAbs := by unfold fmtL; rw [if_neg h0, if_neg h1]
      rw [e]
      cases hq : digs n.natAbs with
      | nil => exact absurd hq hne
      | cons b r =>
        have hb2 := hd b (by rw [hq]; simp)
        unfold Lib.atoi
        have n45 : (b == 45) = false := beq_eq_false_iff_ne.mpr (fun e => by subst e; revert hb2; decide)
        have n43 : (b == 43) = false := beq_eq_false_iff_ne.mpr (fun e => by subst e; revert hb2; decide)
        dsimp only
        rw [n45, n43, ← hq, hnat]
        simp
        omega
theorem impl_ParseInt_num (n : Int) (hn : isNum n = true) : impl_ParseInt.f (bs (fmtL n)) = some (n, true) := by
  have hb := isNum_iff.1 hn
  have hl := fmtL_len n (by omega) (by omega)
  have hl18 : (fmtL n).length ≤ 18 := by
    have := digs_len 9 n.natAbs (by omega)
    unfold fmtL
    split
    · simp
    · split <;> simp <;> omega
  have ha : Lib.atoiAll (bs (fmtL n)).data.toList = .ok n := by
    show Lib.atoiAll (fmtL n) = _
    rw [Lib.atoiAll_short _ hl18, atoi_fmtL n hn]; rfl
  unfold impl_ParseInt.f
  rw [if_pos (by rw [bs_size]; omega), ha]
  simp only []
  rw [impl_IsNumber_eq, Option.bind_some, if_pos hn, impl_FormatInt_eq n (by omega) (by omega), Option.bind_some, if_pos rfl]
theorem impl_ParseInt_none (s : ByteArray) (hs : s.size ≤ 1048576) (h : ∀ n, isNum n = true → s ≠ bs (fmtL n)) : impl_ParseInt.f s = some (0, false) := by
  unfold impl_ParseInt.f
  rw [if_pos (by omega)]
  cases hA : Lib.atoiAll s.data.toList with
  | ok v =>
    simp only []
    rw [impl_IsNumber_eq, Option.bind_some]
    by_cases hn : isNum v = true
    · have hb := isNum_iff.1 hn
      rw [if_pos hn, impl_FormatInt_eq v (by omega) (by omega), Option.bind_some, if_neg (fun e => h v hn (tl_bs e).symm)]
    · rw [if_neg hn]
  | «syntax» => rfl
  | range => rfl
theorem impl_ParseInt_or (s : ByteArray) (hs : s.size ≤ 1048576) : (∃ n, isNum n = true ∧ s = bs (fmtL n) ∧ impl_ParseInt.f s = some (n, true)) ∨ impl_ParseInt.f s = some (0, false) := by
  by_cases h : ∃ n, isNum n = true ∧ s = bs (fmtL n)
  · obtain ⟨n, hn, rfl⟩ := h
    exact .inl ⟨n, hn, rfl, impl_ParseInt_num n hn⟩
  · exact .inr (impl_ParseInt_none s hs (fun n hn e => h ⟨n, hn, e⟩))
/-- What is left of an atom's text in front of its end: coefficients from the i-th on, e: something is written already. -/
def sgT (e : Bool) (n : Int) : List UInt8 := if n < 0 then [45] else if e then [43] else []
def dgT (n : Int) : List UInt8 := if n = 1 ∨ n = -1 then [] else digs n.natAbs
def dgC (c : Int) : List UInt8 := if c = 0 then [48] else digs c.natAbs
def tailL : List Int → Nat → Bool → Int → List UInt8
  | [], _, e, c => if c = 0 ∧ e = true then [] else sgT e c ++ dgC c
  | n :: ns, i, e, c => if n = 0 then tailL ns (i + 1) e c else sgT e n ++ (dgT n ++ nmL i :: tailL ns (i + 1) true c)
theorem fmtL_sg (n : Int) : fmtL n = sgT false n ++ dgC n := by
  unfold fmtL sgT dgC
  by_cases h : n = 0
  · subst h; rfl
  · rw [if_neg h, if_neg h]
    split <;> simp
theorem digs_one : digs 1 = [49] := by rw [digs_pos (by decide), show 1 / 10 = 0 from rfl, digs_zero]; rfl
theorem term_eq (acc : List UInt8) (i : Nat) (n : Int) (h : ¬ n = 0) : stepL acc i n = acc ++ (sgT (decide (0 < acc.length)) n ++ (dgT n ++ [nmL i])) := by
  unfold stepL
  rw [if_neg h]
  unfold plusL midL sgT dgT
  by_cases h1 : n = -1
  · subst h1
    simp
  · by_cases h2 : n = 1
    · subst h2
      by_cases ha : 0 < acc.length
      · simp [ha]
      · simp [ha]
    · rw [if_neg h1, if_neg h2, if_neg (show ¬ (n = 1 ∨ n = -1) by omega), fmtL, if_neg h]
      by_cases h3 : n < 0
      · rw [if_neg (by omega), if_pos h3, if_pos h3]; simp
      · rw [if_neg h3, if_neg h3]
        by_cases ha : 0 < acc.length
        · rw [if_pos ⟨by omega, ha⟩, if_pos (by simpa using ha)]; simp
        · rw [if_neg (by omega), if_neg (by simpa using ha)]; simp
theorem body_tail (c : Int) : ∀ (ns : List Int) (i : Nat) (acc : List UInt8), (if c = 0 ∧ 0 < (goL ns i acc).length then goL ns i acc else plusL (goL ns i acc) c ++ fmtL c) = acc ++ tailL ns i (decide (0 < acc.length)) c
  | [], i, acc => by
    show (if c = 0 ∧ 0 < acc.length then acc else plusL acc c ++ fmtL c) = acc ++ (if c = 0 ∧ decide (0 < acc.length) = true then [] else sgT (decide (0 < acc.length)) c ++ dgC c)
    by_cases h : c = 0 ∧ 0 < acc.length
    · rw [if_pos h, if_pos ⟨h.1, by simpa using h.2⟩]; simp
    · rw [if_neg h, if_neg (by simpa using h)]
      unfold plusL
      rw [fmtL_sg]
      unfold sgT
      by_cases h1 : c < 0
      · rw [if_neg (by omega), if_pos h1, if_pos h1]
      · rw [if_neg h1, if_neg h1]
        by_cases ha : 0 < acc.length
        · rw [if_pos ⟨by omega, ha⟩]; simp [ha]
        · rw [if_neg (by omega)]; simp [ha]
  | n :: ns, i, acc => by
    rw [goL, body_tail c ns (i + 1) (stepL acc i n), tailL]
    by_cases h : n = 0
    · rw [if_pos h]; unfold stepL; rw [if_pos h]
    · rw [if_neg h, term_eq acc i n h]
      have e : decide (0 < (acc ++ (sgT (decide (0 < acc.length)) n ++ (dgT n ++ [nmL i]))).length) = true := decide_eq_true (by simp only [List.length_append, List.length_cons]; omega)
      rw [e]
      simp
theorem fmtAL_tail {l : List Int} {c : Int} (s : Bool) (h : isAt l c = true) : fmtAL l c s = tailL l 0 false c ++ endL s := by
  have := body_tail c l 0 []
  unfold fmtAL finL
  rw [if_pos h]
  simp only [List.length_nil, Nat.lt_irrefl, decide_false, List.nil_append] at this
  rw [← this]
  split <;> simp
/-- What reading an atom gives: it, or nothing. -/
def noA : List Int × Int × Bool × Bool := ([], 0, false, false)
def PAt (T : List UInt8) (d : Nat) (r : List Int × Int × Bool × Bool) : Prop := r = noA ∨ ∃ l c s, r = (l, c, s, true) ∧ l.length = d ∧ fmtAL l c s = T
theorem fmtAL_ne {l : List Int} {c : Int} {s : Bool} (h : isAt l c = true) : fmtAL l c s ≠ [] := by
  rw [fmtAL_tail s h]
  cases s <;> simp [endL]
theorem fmtAL_at {l : List Int} {c : Int} {s : Bool} (h : fmtAL l c s ≠ []) : isAt l c = true := by
  unfold fmtAL at h
  by_cases hi : isAt l c = true
  · exact hi
  · rw [if_neg hi] at h; exact absurd rfl h
theorem dgC_dig (c : Int) : digL (dgC c) := by
  unfold dgC
  split
  · intro b hb; obtain rfl : b = 48 := by simpa using hb
    decide
  · exact digs_dig _
theorem dgT_dig (c : Int) : digL (dgT c) := by
  unfold dgT
  split
  · intro b hb; cases hb
  · exact digs_dig _
theorem digs_ne {u : Nat} (h : ¬ u = 0) : digs u ≠ [] := by rw [digs_pos h]; simp
theorem dgC_ne (c : Int) : dgC c ≠ [] := by
  unfold dgC
  split
  · simp
  · exact digs_ne (by omega)
theorem digs9 {n : Int} (hn : isNum n = true) : (digs n.natAbs).length ≤ 9 := digs_len 9 _ (by have := isNum_iff.1 hn; omega)
theorem sgT_len (e : Bool) (n : Int) : (sgT e n).length ≤ 1 := by unfold sgT; split <;> (try split) <;> simp
theorem tailL_len {c : Int} (hc : isNum c = true) : ∀ (ns : List Int) (i : Nat) (e : Bool), (∀ x ∈ ns, isNum x = true) → (tailL ns i e c).length ≤ 11 * ns.length + 11
  | [], i, e, _ => by
    unfold tailL
    have h1 := digs9 hc
    have h2 := sgT_len e c
    split
    · simp
    · unfold dgC; split <;> simp <;> omega
  | n :: ns, i, e, hn => by
    unfold tailL
    have h1 := digs9 (hn n (by simp))
    have h2 := sgT_len e n
    have h3 := tailL_len hc ns (i + 1) e (fun x hx => hn x (by simp [hx]))
    have h4 := tailL_len hc ns (i + 1) true (fun x hx => hn x (by simp [hx]))
    split
    · simp; omega
    · unfold dgT; split <;> simp <;> omega
theorem fmtAL_len57 {l : List Int} {c : Int} (s : Bool) : (fmtAL l c s).length ≤ 80 := by
  by_cases h : isAt l c = true
  · rw [fmtAL_tail s h]
    obtain ⟨h4, hc, hx, _⟩ := isAt_iff.1 h
    have := tailL_len hc l 0 false hx
    have h3 : (endL s).length ≤ 3 := by cases s <;> simp [endL]
    simp; omega
  · unfold fmtAL; rw [if_neg h]; simp
/-- What reading a number gives, on bytes. -/
def pI (h : List UInt8) : Int × Bool := (impl_ParseInt.f (bs h)).getD (0, false)
theorem pI_eq (h : List UInt8) (hl : h.length ≤ 1048576) : impl_ParseInt.f (bs h) = some (pI h) := by
  unfold pI
  rcases impl_ParseInt_or (bs h) (by rw [bs_size]; exact hl) with ⟨n, _, _, e⟩ | e <;> rw [e] <;> rfl
theorem pI_num {n : Int} (h : isNum n = true) : pI (fmtL n) = (n, true) := by
  unfold pI; rw [impl_ParseInt_num n h]; rfl
theorem pI_nil : pI [] = (0, false) := by
  unfold pI
  rw [impl_ParseInt_none (bs []) (by simp [bs_size]) (fun n _ e => by
    have e2 := congrArg ByteArray.toList e
    rw [bs_toList, bs_toList, fmtL_sg] at e2
    have := dgC_ne n
    simp at e2
    exact this e2.2)]
  rfl
def isDig (b : UInt8) : Bool := decide (48 ≤ b.toNat) && decide (b.toNat ≤ 57)
def rtN (R : List UInt8) : Nat := (R.takeWhile isDig).length
def rtI : List UInt8 → Nat
  | [] => 0
  | b :: r => if b = 43 ∨ b = 45 then 1 + rtN r else rtN (b :: r)
theorem rtI_cons (b : UInt8) (r : List UInt8) : rtI (b :: r) = if b = 43 ∨ b = 45 then 1 + rtN r else rtN (b :: r) := rfl
def rtV (R : List UInt8) (i : Nat) : Int := match R[i]? with
  | some b => Lib.indexByte [120, 121, 122, 116] b
  | none => -1
def rtH (h : List UInt8) : List UInt8 := if h = [] ∨ h = [45] then h ++ [49] else h
def rtAt (R : List UInt8) (i : Nat) : Int × Int × ByteArray × Bool :=
  if 0 ≤ rtV R i then ((pI (rtH (Lib.trimPrefix (R.take i) [43]))).1, rtV R i, bs (R.drop (i + 1)), (pI (rtH (Lib.trimPrefix (R.take i) [43]))).2)
  else ((pI (Lib.trimPrefix (R.take i) [43])).1, rtV R i, bs (R.drop i), (pI (Lib.trimPrefix (R.take i) [43])).2)
theorem trim_len (h : List UInt8) : (Lib.trimPrefix h [43]).length ≤ h.length := by
  unfold Lib.trimPrefix; split <;> simp
theorem ix_u8 (b : UInt8) : ((b.toNat : Int)).toNat.toUInt8 = b := by
  rw [Int.toNat_natCast]; exact UInt8.ofNat_toNat
theorem ix_lt (b : UInt8) : -1 ≤ Lib.indexByte [120, 121, 122, 116] b ∧ Lib.indexByte [120, 121, 122, 116] b < 4 := by
  unfold Lib.indexByte Lib.indexByte Lib.indexByte Lib.indexByte Lib.indexByte
  split
  · omega
  · split <;> (try split) <;> (try split) <;> (try split) <;> (try split) <;> simp_all
theorem rtV_bd (R : List UInt8) (i : Nat) : -1 ≤ rtV R i ∧ rtV R i < 4 := by
  unfold rtV
  split
  · exact ix_lt _
  · omega
theorem rtV_lt {R : List UInt8} {i : Nat} (h : 0 ≤ rtV R i) : i < R.length := by
  unfold rtV at h
  split at h
  · rename_i b hb
    exact (List.getElem?_eq_some_iff.1 hb).1
  · omega
theorem readTerm_j4_ev (R : List UInt8) (i : Nat) (hi : i ≤ R.length) (hR : R.length ≤ 80) : Ev (fun k => impl_readTerm.j4 k (bs R) (i : Int) (bs (Lib.trimPrefix (R.take i) [43])) (rtV R i)) (rtAt R i) := by
  have ht := trim_len (R.take i)
  have ht2 : (Lib.trimPrefix (R.take i) [43]).length ≤ 80 := by simp at ht; omega
  have ed : ∀ j, (bs R).extract j (bs R).size = bs (R.drop j) := fun j => by
    rw [bs_extract, bs_size]
    congr 1
    exact List.take_of_length_le (by rw [List.length_drop]; omega)
  unfold rtAt
  generalize Lib.trimPrefix (R.take i) [43] = H at ht2 ⊢
  refine Ev.step (fun k => by rw [impl_readTerm.j4]) (ev_pos (by omega) (ev_pos (by rw [bs_size]; omega) (ev_ite (fun hv => ?_) (fun hv => ?_))))
  · rw [if_pos hv]
    have hlt := rtV_lt hv
    have hw : wrap64 ((i : Int) + 1) = ((i + 1 : Nat) : Int) := w64_succ (by omega)
    simp only [hw, Int.toNat_natCast, ed, bs_toList]
    have e1 : bs H ++ (⟨#[49]⟩ : ByteArray) = bs (H ++ [49]) := bs_append _ [49]
    rw [e1]
    have hs := bs_size H
    refine ev_pos (by omega) (ev_pos (by rw [bs_size]; omega) (ev_ite (fun h0 => ?_) (fun h0 => ev_ite (fun h1 => ?_) (fun h1 => ?_))))
    · have e : rtH H = H ++ [49] := by unfold rtH; rw [if_pos (.inl h0)]
      rw [e]
      exact ev_pos (by omega) (ev_bindS (pI_eq _ (by simp; omega)) (Ev.now _))
    · have e : rtH H = H ++ [49] := by unfold rtH; rw [if_pos (.inr h1)]
      rw [e]
      exact ev_pos (by omega) (ev_bindS (pI_eq _ (by simp; omega)) (Ev.now _))
    · have e : rtH H = H := by unfold rtH; rw [if_neg (by rintro (h | h); exact h0 h; exact h1 h)]
      rw [e]
      exact ev_bindS (pI_eq _ (by omega)) (Ev.now _)
  · rw [if_neg hv, Int.toNat_natCast, ed]
    exact ev_bindS (pI_eq _ (by omega)) (Ev.now _)
theorem readTerm_j3_ev (R : List UInt8) (i : Nat) (hi : i ≤ R.length) (hR : R.length ≤ 80) : Ev (fun k => impl_readTerm.j3 k (bs R) (i : Int)) (rtAt R i) := by
  have h4 := readTerm_j4_ev R i hi hR
  have et : strings_TrimPrefix.f ((bs R).extract 0 i) (⟨#[43]⟩ : ByteArray) = some (bs (Lib.trimPrefix (R.take i) [43])) := by
    rw [bs_extract, List.drop_zero, Nat.sub_zero]
    rfl
  refine Ev.step (fun k => by rw [impl_readTerm.j3]) (ev_pos (by omega) (ev_pos (by rw [bs_size]; omega) ?_))
  rw [Int.toNat_natCast]
  refine ev_bindS et (ev_ite (fun h => ?_) (fun h => ?_))
  · have hlt : i < R.length := by rw [bs_size] at h; omega
    have ei : strings_IndexByte.f (⟨#[120, 121, 122, 116]⟩ : ByteArray) (bt (bs R) (i : Int)) = some (rtV R i) := by
      rw [bt_bs R i hlt]
      unfold strings_IndexByte.f rtV
      rw [ix_u8, List.getElem?_eq_getElem hlt]
    exact ev_bindS ei h4
  · have hge : ¬ i < R.length := by rw [bs_size] at h; omega
    have ev : rtV R i = -1 := by unfold rtV; rw [List.getElem?_eq_none (by omega)]
    rw [ev] at h4
    exact h4
theorem readTerm_l0_ev (R : List UInt8) (hR : R.length ≤ 80) : ∀ (S : List UInt8) (i : Nat), R.drop i = S → i ≤ R.length → Ev (fun k => impl_readTerm.l0 k (bs R) (i : Int)) (rtAt R (i + rtN S))
  | [], i, hd, hi => by
    have : R.length ≤ i := by simpa using hd
    exact Ev.step (fun k => by rw [impl_readTerm.l0]) (ev_neg (by rw [bs_size]; omega) (readTerm_j3_ev R i hi hR))
  | b :: S, i, hd, hi => by
    have hlt : i < R.length := by
      rcases Nat.lt_or_ge i R.length with h | h
      · exact h
      · rw [List.drop_of_length_le h] at hd; cases hd
    rw [List.drop_eq_getElem_cons hlt] at hd
    obtain ⟨hb, hd⟩ := List.cons.inj hd
    have ebt : bt (bs R) (i : Int) = (b.toNat : Int) := by rw [bt_bs R i hlt, hb]
    have ih := readTerm_l0_ev R hR S (i + 1) hd (by omega)
    have hj := readTerm_j3_ev R i hi hR
    refine Ev.step (fun k => by rw [impl_readTerm.l0]) (ev_pos (by rw [bs_size]; omega) (ev_pos (by omega) ?_))
    rw [ebt]
    unfold rtN
    rw [List.takeWhile_cons]
    refine ev_ite (fun h1 => ev_ite (fun h2 => ?_) (fun h2 => ?_)) (fun h1 => ?_)
    · have e : isDig b = true := by unfold isDig; simp; omega
      rw [if_pos e, w64_succ (by omega)]
      have e2 : i + (b :: S.takeWhile isDig).length = i + 1 + rtN S := by unfold rtN; simp; omega
      rw [e2]
      exact ih
    · have e : ¬ isDig b = true := by unfold isDig; simp; omega
      rw [if_neg e]
      exact hj
    · have e : ¬ isDig b = true := by unfold isDig; simp; omega
      rw [if_neg e]
      exact hj
theorem readTerm_ev (R : List UInt8) (hR : R.length ≤ 80) : Ev (fun k => impl_readTerm.f k (bs R)) (rtAt R (rtI R)) := by
  unfold impl_readTerm.f
  have j1 : ∀ (i : Nat), i ≤ R.length → Ev (fun k => impl_readTerm.j1 k (bs R) (i : Int)) (rtAt R (i + rtN (R.drop i))) := fun i hi =>
    Ev.step (fun k => by rw [impl_readTerm.j1]) (readTerm_l0_ev R hR _ i rfl hi)
  cases R with
  | nil =>
    refine ev_neg (by rw [bs_size]; simp) ?_
    refine Ev.step (fun k => by rw [impl_readTerm.j0]) ?_
    exact ev_neg (by simp) (j1 0 (by simp))
  | cons b r =>
    have ebt : bt (bs (b :: r)) 0 = (b.toNat : Int) := bt_bs (b :: r) 0 (by simp)
    refine ev_pos (by rw [bs_size]; simp only [List.length_cons]; omega) ?_
    rw [ebt]
    have y : b = 43 ∨ b = 45 → Ev (fun k => impl_readTerm.j0 k (bs (b :: r)) 0 true) (rtAt (b :: r) (rtI (b :: r))) := fun h => by
      refine Ev.step (fun k => by rw [impl_readTerm.j0]) (ev_pos rfl ?_)
      have := j1 1 (by simp)
      rw [rtI_cons]
      rw [if_pos h, show wrap64 ((0 : Int) + 1) = 1 from by rw [w64 (by omega) (by omega)]; rfl]
      exact this
    refine ev_ite (fun h => ?_) (fun h => ?_)
    · have e : b = 43 := UInt8.toNat_inj.1 (by show b.toNat = 43; omega)
      exact y (.inl e)
    · by_cases h2 : b = 45
      · have e : ((b.toNat : Int) == 45) = true := by rw [h2]; rfl
        rw [e]
        exact y (.inr h2)
      · have e : ((b.toNat : Int) == 45) = false := beq_eq_false_iff_ne.2 (fun e => h2 (UInt8.toNat_inj.1 (by show b.toNat = 45; omega)))
        rw [e]
        refine Ev.step (fun k => by rw [impl_readTerm.j0]) (ev_neg (by simp) ?_)
        have := j1 0 (by simp)
        rw [rtI_cons]
        rw [if_neg (by rintro (h' | h'); rw [h'] at h; exact h rfl; exact h2 h')]
        rw [Nat.zero_add, List.drop_zero] at this
        exact this
/-- Reading digits behind a sign. -/
theorem rtN_dig (D rest : List UInt8) (h : digL D) (hr : ∀ b r, rest = b :: r → isDig b = false) : rtN (D ++ rest) = D.length := by
  unfold rtN
  induction D with
  | nil =>
    cases rest with
    | nil => rfl
    | cons b r => simp [hr b r rfl]
  | cons d D ih =>
    have hd := h d (by simp)
    have e : isDig d = true := by unfold isDig; simp; omega
    rw [List.cons_append, List.takeWhile_cons, if_pos e]
    simpa using ih (fun b hb => h b (by simp [hb]))
theorem rtI_sg (e : Bool) (n : Int) (D rest : List UInt8) (h : digL D) (hr : ∀ b r, rest = b :: r → isDig b = false ∧ b ≠ 43 ∧ b ≠ 45) : rtI (sgT e n ++ (D ++ rest)) = (sgT e n).length + D.length := by
  have hN := rtN_dig D rest h (fun b r he => (hr b r he).1)
  have h0 : rtI (D ++ rest) = D.length := by
    cases D with
    | nil =>
      cases rest with
      | nil => rfl
      | cons b r =>
        have hb := hr b r rfl
        rw [← hN]
        show rtI (b :: r) = rtN (b :: r)
        rw [rtI_cons]
        rw [if_neg (by rintro (h' | h'); exact hb.2.1 h'; exact hb.2.2 h')]
    | cons d D =>
      have hd := h d (by simp)
      rw [← hN]
      show rtI (d :: (D ++ rest)) = rtN (d :: (D ++ rest))
      rw [rtI_cons]
      rw [if_neg (by rintro (h' | h') <;> (rw [h'] at hd; exact absurd hd.1 (by decide)))]
  unfold sgT
  split
  · show rtI (45 :: (D ++ rest)) = _
    rw [rtI_cons]
    rw [if_pos (.inr rfl), hN]; simp
  · split
    · show rtI (43 :: (D ++ rest)) = _
      rw [rtI_cons]
      rw [if_pos (.inl rfl), hN]; simp
    · simpa using h0
theorem trim_sg (e : Bool) (n : Int) (D : List UInt8) (h : digL D) : Lib.trimPrefix (sgT e n ++ D) [43] = sgT false n ++ D := by
  have h0 : Lib.trimPrefix D [43] = D := by
    unfold Lib.trimPrefix Lib.hasPrefix
    cases D with
    | nil => rfl
    | cons d D =>
      have hd := h d (by simp)
      have : ¬ d = 43 := by rintro rfl; exact absurd hd.1 (by decide)
      have h2 : ((43 : UInt8) == d) = false := beq_eq_false_iff_ne.2 (fun e => this e.symm)
      simp [List.isPrefixOf, h2]
  unfold sgT
  by_cases hn : n < 0
  · rw [if_pos hn, if_pos hn]
    simp [Lib.trimPrefix, Lib.hasPrefix, List.isPrefixOf]
  · rw [if_neg hn, if_neg hn]
    cases e
    · simpa using h0
    · simp [Lib.trimPrefix, Lib.hasPrefix, List.isPrefixOf]
theorem nm_ix : ∀ i : Nat, i < 4 → Lib.indexByte [120, 121, 122, 116] (nmL i) = i ∧ isDig (nmL i) = false ∧ nmL i ≠ 43 ∧ nmL i ≠ 45 ∧ nmL i ≠ 60
  | 0, _ => by decide
  | 1, _ => by decide
  | 2, _ => by decide
  | 3, _ => by decide
  | n + 4, h => by omega
theorem rt_term (e : Bool) (n : Int) (i : Nat) (hi : i < 4) (hn : isNum n = true) (h0 : ¬ n = 0) (rest : List UInt8) :
    rtAt (sgT e n ++ (dgT n ++ nmL i :: rest)) (rtI (sgT e n ++ (dgT n ++ nmL i :: rest))) = (n, (i : Int), bs rest, true) := by
  obtain ⟨x1, x2, x3, x4, _⟩ := nm_ix i hi
  rw [rtI_sg e n (dgT n) (nmL i :: rest) (dgT_dig n) (by rintro b r he; obtain ⟨rfl, rfl⟩ := List.cons.inj he; exact ⟨x2, x3, x4⟩)]
  have ea : sgT e n ++ (dgT n ++ nmL i :: rest) = (sgT e n ++ dgT n) ++ nmL i :: rest := by simp
  have el : (sgT e n).length + (dgT n).length = (sgT e n ++ dgT n).length := by simp
  rw [ea, el]
  have ev : rtV ((sgT e n ++ dgT n) ++ nmL i :: rest) (sgT e n ++ dgT n).length = (i : Int) := by
    unfold rtV
    rw [List.getElem?_append_right (Nat.le_refl _), Nat.sub_self]
    exact x1
  have ek : ((sgT e n ++ dgT n) ++ nmL i :: rest).take (sgT e n ++ dgT n).length = sgT e n ++ dgT n := List.take_left
  have ed : ((sgT e n ++ dgT n) ++ nmL i :: rest).drop ((sgT e n ++ dgT n).length + 1) = rest := by
    rw [← List.drop_drop, List.drop_left]; rfl
  have eh : rtH (sgT false n ++ dgT n) = fmtL n := by
    rw [fmtL_sg]
    unfold dgT dgC
    rw [if_neg h0]
    by_cases h1 : n = 1
    · subst h1
      simp [sgT, rtH, digs_one]
    · by_cases h2 : n = -1
      · subst h2
        simp [sgT, rtH, digs_one]
      · rw [if_neg (by omega)]
        have hne := digs_ne (u := n.natAbs) (by omega)
        unfold rtH
        rw [if_neg]
        rintro (h | h)
        · simp at h; exact hne h.2
        · unfold sgT at h
          by_cases hneg : n < 0
          · rw [if_pos hneg] at h
            simp at h
            exact hne h
          · rw [if_neg hneg] at h
            simp only [Bool.false_eq_true, if_false, List.nil_append] at h
            have := digs_dig n.natAbs 45 (by rw [h]; simp)
            exact absurd this.1 (by decide)
  unfold rtAt
  rw [ev, if_pos (by omega), ek, ed, trim_sg e n (dgT n) (dgT_dig n), eh, pI_num hn]
theorem rt_const (e : Bool) (c : Int) (hc : isNum c = true) : rtAt (sgT e c ++ dgC c) (rtI (sgT e c ++ dgC c)) = (c, -1, bs [], true) := by
  have hi := rtI_sg e c (dgC c) [] (dgC_dig c) (by rintro b r he; cases he)
  rw [List.append_nil] at hi
  rw [hi]
  have el : (sgT e c).length + (dgC c).length = (sgT e c ++ dgC c).length := by simp
  rw [el]
  have ev : rtV (sgT e c ++ dgC c) (sgT e c ++ dgC c).length = -1 := by
    unfold rtV
    rw [List.getElem?_eq_none (Nat.le_refl _)]
  unfold rtAt
  rw [ev, if_neg (by omega), List.take_length, List.drop_length, trim_sg e c (dgC c) (dgC_dig c), ← fmtL_sg, pI_num hc]
theorem impl_end_ev (T : List UInt8) (d : Nat) (co : List Int) (c : Int) (s : Bool) (hl : co.length ≤ 1048576) : Ev (fun k => impl_ParseAtom.l0 k (bs T) (d : Int) (bs []) co c s) (if fmtAL co c s = T then (co, c, s, true) else noA) := by
  refine Ev.step (fun k => by rw [impl_ParseAtom.l0]) (ev_pos (bs_toList []) (Ev.bind (impl_FormatAtom_ev co c s hl) ?_))
  simp only [bs_toList]
  refine ev_ite (fun h => ?_) (fun h => ?_)
  · rw [if_pos h]; exact Ev.now _
  · rw [if_neg h]; exact Ev.now _
theorem impl_j3_fail (T : ByteArray) (d n v : Int) (rest : ByteArray) (b : Bool) (co : List Int) (c : Int) (s : Bool) (hb : b = true) : Ev (fun k => impl_ParseAtom.j3 k T d n v rest b co c s) noA := by
  refine Ev.step (fun k => by rw [impl_ParseAtom.j3]) ?_
  exact ev_pos hb (Ev.now _)
theorem impl_j3_var (T : ByteArray) (d n v : Int) (rest : ByteArray) (b : Bool) (co : List Int) (c : Int) (s : Bool) (hb : b = false) (hv : 0 ≤ v) (hl : v < (co.length : Int)) (r : List Int × Int × Bool × Bool) (h : Ev (fun k => impl_ParseAtom.l0 k T d rest (co.set v.toNat n) c s) r) :
    Ev (fun k => impl_ParseAtom.j3 k T d n v rest b co c s) r := by
  refine Ev.step (fun k => by rw [impl_ParseAtom.j3]) ?_
  exact ev_neg (by simp [hb]) (ev_pos hv (ev_pos hv (ev_pos hl h)))
theorem impl_j3_const (T : ByteArray) (d n v : Int) (rest : ByteArray) (b : Bool) (co : List Int) (c : Int) (s : Bool) (hb : b = false) (hv : ¬ 0 ≤ v) (r : List Int × Int × Bool × Bool) (h : Ev (fun k => impl_ParseAtom.l0 k T d rest co n s) r) :
    Ev (fun k => impl_ParseAtom.j3 k T d n v rest b co c s) r := by
  refine Ev.step (fun k => by rw [impl_ParseAtom.j3]) ?_
  exact ev_neg (by simp [hb]) (ev_neg hv h)
theorem impl_step_ev (T R : List UInt8) (d : Nat) (co : List Int) (c : Int) (s : Bool) (hR : R.length ≤ 80) (hne : R ≠ []) (n v : Int) (rest : ByteArray) (b : Bool) (ht : rtAt R (rtI R) = (n, v, rest, b)) (r : List Int × Int × Bool × Bool)
    (h : Ev (fun k => impl_ParseAtom.j3 k (bs T) (d : Int) n v rest (if b = true then decide (v ≥ (d : Int)) else true) co c s) r) : Ev (fun k => impl_ParseAtom.l0 k (bs T) (d : Int) (bs R) co c s) r := by
  have hr := readTerm_ev R hR
  rw [ht] at hr
  refine Ev.step (fun k => by rw [impl_ParseAtom.l0]) (ev_neg (by rw [bs_toList]; exact hne) (Ev.bind hr (ev_ite (fun hb => ?_) (fun hb => ?_))))
  · rw [if_pos hb] at h; exact h
  · rw [if_neg hb] at h; exact h
theorem impl_ParseAtom_go (T : List UInt8) (d : Nat) (hd : d ≤ 4) (c : Int) (hc : isNum c = true) (s : Bool) (r : List Int × Int × Bool × Bool) : ∀ (ns : List Int) (i : Nat) (e : Bool) (pre : List Int), pre.length = i → i + ns.length = d → (∀ x ∈ ns, isNum x = true) → (tailL ns i e c).length ≤ 80 →
    Ev (fun k => impl_ParseAtom.l0 k (bs T) (d : Int) (bs []) (pre ++ ns) c s) r → Ev (fun k => impl_ParseAtom.l0 k (bs T) (d : Int) (bs (tailL ns i e c)) (pre ++ List.replicate ns.length 0) 0 s) r
  | [], i, e, pre, hp, hi, hn, hT, h => by
    unfold tailL at hT ⊢
    by_cases h0 : c = 0 ∧ e = true
    · rw [if_pos h0, ← h0.1]; simpa using h
    · rw [if_neg h0] at hT ⊢
      refine impl_step_ev T _ d _ _ s hT (by have := dgC_ne c; simp [this]) _ _ _ _ (rt_const e c hc) r ?_
      refine Ev.step (fun k => by rw [impl_ParseAtom.j3]) (ev_neg (by simp; omega) (ev_neg (by omega) ?_))
      simpa using h
  | n :: ns, i, e, pre, hp, hi, hn, hT, h => by
    unfold tailL at hT ⊢
    by_cases h0 : n = 0
    · rw [if_pos h0] at hT ⊢
      subst h0
      have := impl_ParseAtom_go T d hd c hc s r ns (i + 1) e (pre ++ [0]) (by simp; omega) (by simp at hi; omega) (fun x hx => hn x (by simp [hx])) hT (by simpa using h)
      rw [List.append_assoc] at this
      exact this
    · rw [if_neg h0] at hT ⊢
      simp only [List.length_cons] at hi
      refine impl_step_ev T _ d _ _ s hT (by simp) _ _ _ _ (rt_term e n i (by omega) (hn n (by simp)) h0 _) r ?_
      have hlen : (tailL ns (i + 1) true c).length ≤ 80 := by simp at hT; omega
      have := impl_ParseAtom_go T d hd c hc s r ns (i + 1) true (pre ++ [n]) (by simp; omega) (by omega) (fun x hx => hn x (by simp [hx])) hlen (by simpa using h)
      refine Ev.step (fun k => by rw [impl_ParseAtom.j3]) (ev_neg (by simp; omega) (ev_pos (by omega) (ev_pos (by omega) (ev_pos (by simp; omega) ?_))))
      rw [Int.toNat_natCast]
      have es : (pre ++ List.replicate (ns.length + 1) 0).set i n = pre ++ [n] ++ List.replicate ns.length 0 := by
        rw [List.set_append_right _ _ (by omega), show i - pre.length = 0 by omega, List.replicate_succ]
        simp
      rw [List.length_cons, es]
      exact this
theorem cut1 (B : List UInt8) : Lib.hasSuffix (B ++ endL true) [60, 48] = true ∧ Lib.trimSuffix (B ++ endL true) [60, 48] = B := by
  have h : Lib.hasSuffix (B ++ endL true) [60, 48] = true := by
    unfold Lib.hasSuffix; rw [List.isSuffixOf_iff_suffix]; exact List.suffix_append _ _
  refine ⟨h, ?_⟩
  unfold Lib.trimSuffix
  rw [if_pos h]
  simp [endL]
theorem cut2 (B : List UInt8) : Lib.hasSuffix (B ++ endL false) [60, 48] = false ∧ Lib.hasSuffix (B ++ endL false) [60, 61, 48] = true ∧ Lib.trimSuffix (B ++ endL false) [60, 61, 48] = B := by
  have h : Lib.hasSuffix (B ++ endL false) [60, 61, 48] = true := by
    unfold Lib.hasSuffix; rw [List.isSuffixOf_iff_suffix]; exact List.suffix_append _ _
  refine ⟨?_, h, ?_⟩
  · rw [Bool.eq_false_iff]
    intro hc
    unfold Lib.hasSuffix at hc
    rw [List.isSuffixOf_iff_suffix] at hc
    obtain ⟨t, ht⟩ := hc
    have e := congrArg List.reverse ht
    simp [endL] at e
  · unfold Lib.trimSuffix
    rw [if_pos h]
    simp [endL]
theorem cutS_eq (T p : List UInt8) (h : T.length ≤ 80) : strings_CutSuffix.f (bs T) (bs p) = some (bs (Lib.trimSuffix T p), Lib.hasSuffix T p) := by
  unfold strings_CutSuffix.f
  rw [if_pos (by rw [bs_size]; omega)]
  rfl
theorem impl_ParseAtom_num {l : List Int} {c : Int} (s : Bool) (h : isAt l c = true) : Ev (fun k => impl_ParseAtom.f k (bs (fmtAL l c s)) (l.length : Int)) (l, c, s, true) := by
  obtain ⟨h4, hc, hx, _⟩ := isAt_iff.1 h
  have h80 := fmtAL_len57 (l := l) (c := c) s
  have hfin := impl_end_ev (fmtAL l c s) l.length l c s (by omega)
  rw [if_pos rfl] at hfin
  have et := fmtAL_tail s h
  have hT : (tailL l 0 false c).length ≤ 80 := by rw [et] at h80; simp at h80; omega
  have hgo := impl_ParseAtom_go (fmtAL l c s) l.length h4 c hc s (l, c, s, true) l 0 false [] rfl (by omega) hx hT (by simpa using hfin)
  unfold impl_ParseAtom.f
  have e80 : decide (((bs (fmtAL l c s)).size : Int) > 80) = false := by rw [bs_size]; simp; omega
  rw [e80]
  have j1 : Ev (fun k => impl_ParseAtom.j1 k (bs (fmtAL l c s)) (l.length : Int) (bs (tailL l 0 false c)) s (List.replicate l.length 0) 0 false) (l, c, s, true) :=
    Ev.step (fun k => by rw [impl_ParseAtom.j1]) (by simpa using hgo)
  have c1 := cutS_eq (fmtAL l c s) [60, 48] h80
  have c2 := cutS_eq (fmtAL l c s) [60, 61, 48] h80
  refine ev_neg (by omega) (ev_neg (by omega) (Ev.step (fun k => by rw [impl_ParseAtom.j0]) (ev_neg (by simp) (ev_pos (by omega) (ev_pos (by omega) ?_)))))
  rw [Int.toNat_natCast]
  simp only [Option.bind_some]
  cases s with
  | true =>
    have k1 := cut1 (tailL l 0 false c)
    rw [← et] at k1
    rw [k1.1, k1.2] at c1
    exact ev_bindS c1 (ev_pos rfl j1)
  | false =>
    have k2 := cut2 (tailL l 0 false c)
    rw [← et] at k2
    rw [k2.1] at c1
    rw [k2.2.1, k2.2.2] at c2
    exact ev_bindS c1 (ev_neg (by simp) (ev_bindS c2 (ev_pos rfl j1)))
theorem impl_ParseAtom_rest (T : List UInt8) (d : Nat) (hd : d ≤ 4) (s : Bool) : ∀ (N : Nat) (R : List UInt8) (co : List Int) (c : Int), R.length ≤ N → R.length ≤ 80 → co.length = d → ∃ r, Ev (fun k => impl_ParseAtom.l0 k (bs T) (d : Int) (bs R) co c s) r ∧ PAt T d r := by
  intro N
  induction N with
  | zero =>
    intro R co c hN hR hco
    obtain rfl : R = [] := List.eq_nil_of_length_eq_zero (by omega)
    refine ⟨_, impl_end_ev T d co c s (by omega), ?_⟩
    split
    · rename_i h; exact .inr ⟨co, c, s, rfl, hco, h⟩
    · exact .inl rfl
  | succ N ih =>
    intro R co c hN hR hco
    by_cases hne : R = []
    · subst hne
      refine ⟨_, impl_end_ev T d co c s (by omega), ?_⟩
      split
      · rename_i h; exact .inr ⟨co, c, s, rfl, hco, h⟩
      · exact .inl rfl
    · have hv := rtV_bd R (rtI R)
      have st := impl_step_ev T R d co c s hR hne
      unfold rtAt at st
      by_cases h0 : 0 ≤ rtV R (rtI R)
      · have hlt := rtV_lt h0
        rw [if_pos h0] at st
        have st := st _ _ _ _ rfl
        by_cases hok : (pI (rtH (Lib.trimPrefix (R.take (rtI R)) [43]))).2 = true
        · by_cases hd2 : rtV R (rtI R) ≥ (d : Int)
          · refine ⟨noA, st _ (impl_j3_fail _ _ _ _ _ _ _ _ _ (by rw [if_pos hok]; simpa using hd2)), .inl rfl⟩
          · obtain ⟨r, hr, hp⟩ := ih (R.drop (rtI R + 1)) (co.set (rtV R (rtI R)).toNat (pI (rtH (Lib.trimPrefix (R.take (rtI R)) [43]))).1) c (by rw [List.length_drop]; omega) (by rw [List.length_drop]; omega) (by rw [List.length_set]; exact hco)
            exact ⟨r, st _ (impl_j3_var _ _ _ _ _ _ _ _ _ (by rw [if_pos hok]; simpa using hd2) h0 (by omega) _ hr), hp⟩
        · exact ⟨noA, st _ (impl_j3_fail _ _ _ _ _ _ _ _ _ (by rw [if_neg hok])), .inl rfl⟩
      · rw [if_neg h0] at st
        have st := st _ _ _ _ rfl
        by_cases hok : (pI (Lib.trimPrefix (R.take (rtI R)) [43])).2 = true
        · have hpos : 0 < rtI R := by
            rcases Nat.eq_zero_or_pos (rtI R) with h | h
            · rw [h] at hok
              have : Lib.trimPrefix (R.take 0) [43] = [] := by simp [Lib.trimPrefix]
              rw [this, pI_nil] at hok
              cases hok
            · exact h
          have hRl : 0 < R.length := List.length_pos_iff.2 hne
          obtain ⟨r, hr, hp⟩ := ih (R.drop (rtI R)) co (pI (Lib.trimPrefix (R.take (rtI R)) [43])).1 (by rw [List.length_drop]; omega) (by rw [List.length_drop]; omega) hco
          exact ⟨r, st _ (impl_j3_const _ _ _ _ _ _ _ _ _ (by rw [if_pos hok]; simp; omega) (by omega) _ hr), hp⟩
        · exact ⟨noA, st _ (impl_j3_fail _ _ _ _ _ _ _ _ _ (by rw [if_neg hok])), .inl rfl⟩
theorem impl_ParseAtom_any (T : List UInt8) (d : Nat) (hd : d ≤ 4) (h80 : T.length ≤ 80) : ∃ r, Ev (fun k => impl_ParseAtom.f k (bs T) (d : Int)) r ∧ PAt T d r ∧ (Lib.hasSuffix T [60, 48] = false → Lib.hasSuffix T [60, 61, 48] = false → r = noA) := by
  unfold impl_ParseAtom.f
  have e80 : decide (((bs T).size : Int) > 80) = false := by rw [bs_size]; simp; omega
  rw [e80]
  have c1 := cutS_eq T [60, 48] h80
  have c2 := cutS_eq T [60, 61, 48] h80
  have pre : ∀ {r}, Ev (fun k => (strings_CutSuffix.f (bs T) (⟨#[60, 48]⟩ : ByteArray)).bind fun bt194 => (if bt194.2 = true then (impl_ParseAtom.j1 k (bs T) (d : Int) bt194.1 bt194.2 (List.replicate d 0) 0 false) else ((strings_CutSuffix.f (bs T) (⟨#[60, 61, 48]⟩ : ByteArray)).bind fun bt196 => (if bt196.2 = true then (impl_ParseAtom.j1 k (bs T) (d : Int) bt196.1 bt194.2 (List.replicate d 0) 0 false) else (some (([] : List Int), 0, false, false)))))) r →
      Ev (fun k => if (d : Int) < 0 then (impl_ParseAtom.j0 k (bs T) (d : Int) true) else (if (d : Int) > 4 then (impl_ParseAtom.j0 k (bs T) (d : Int) true) else (impl_ParseAtom.j0 k (bs T) (d : Int) false))) r := fun {r} h => by
    refine ev_neg (by omega) (ev_neg (by omega) (Ev.step (fun k => by rw [impl_ParseAtom.j0]) (ev_neg (by simp) (ev_pos (by omega) (ev_pos (by omega) ?_)))))
    rw [Int.toNat_natCast]
    exact h
  have tl : ∀ p, (Lib.trimSuffix T p).length ≤ 80 := by
    intro p
    unfold Lib.trimSuffix
    split
    · rw [List.length_take]; omega
    · exact h80
  by_cases h1 : Lib.hasSuffix T [60, 48] = true
  · obtain ⟨r, hr, hp⟩ := impl_ParseAtom_rest T d hd true 80 (Lib.trimSuffix T [60, 48]) (List.replicate d 0) 0 (tl _) (tl _) (by simp)
    rw [h1] at c1
    exact ⟨r, pre (ev_bindS c1 (ev_pos rfl (Ev.step (fun k => by rw [impl_ParseAtom.j1]) hr))), hp, fun e _ => by rw [h1] at e; cases e⟩
  · rw [Bool.eq_false_iff.2 h1] at c1
    by_cases h2 : Lib.hasSuffix T [60, 61, 48] = true
    · obtain ⟨r, hr, hp⟩ := impl_ParseAtom_rest T d hd false 80 (Lib.trimSuffix T [60, 61, 48]) (List.replicate d 0) 0 (tl _) (tl _) (by simp)
      rw [h2] at c2
      exact ⟨r, pre (ev_bindS c1 (ev_neg (by simp) (ev_bindS c2 (ev_pos rfl (Ev.step (fun k => by rw [impl_ParseAtom.j1]) hr))))), hp, fun _ e => by rw [h2] at e; cases e⟩
    · rw [Bool.eq_false_iff.2 h2] at c2
      exact ⟨noA, pre (ev_bindS c1 (ev_neg (by simp) (ev_bindS c2 (ev_neg (by simp) (Ev.now _))))), .inl rfl, fun _ _ => rfl⟩
theorem impl_ParseAtom_out (T : List UInt8) (d : Int) (h : d < 0 ∨ 4 < d ∨ 80 < T.length) : Ev (fun k => impl_ParseAtom.f k (bs T) d) noA := by
  unfold impl_ParseAtom.f
  have j : ∀ b, b = true → Ev (fun k => impl_ParseAtom.j0 k (bs T) d b) noA := fun b hb => by
    refine Ev.step (fun k => by rw [impl_ParseAtom.j0]) ?_
    exact ev_pos hb (Ev.now _)
  refine ev_ite (fun _ => j _ rfl) (fun h1 => ev_ite (fun _ => j _ rfl) (fun h2 => j _ ?_))
  rw [bs_size]; simp; omega

end Go.Proofs.YtohoibekddhneaaDoor.LFnAtoms
