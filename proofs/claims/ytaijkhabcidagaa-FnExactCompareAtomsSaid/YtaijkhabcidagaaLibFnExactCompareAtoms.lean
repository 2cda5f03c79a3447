/- What the printed functions of the law FnExactCompareAtoms compute, in plain words; each holds under the bounds that it names. -/
import Derived.Test.YtaijkhabcidagaaPFnExactCompareAtomsx
import Derived.Test.YtaijkhabcidagaaPlain
import Derived.Test.YtaijkhabcidagaaPlainA
set_option linter.unusedVariables false
set_option linter.unusedSimpArgs false
namespace Go.Proofs.Ytaijkhabcidagaa.LFnExactCompareAtoms
open Go.RowKit Go.Proofs.Ytaijkhabcidagaa.PFnExactCompareAtoms Go.Proofs.Ytaijkhabcidagaa.Pl Go.Proofs.YtaijkhabcidagaaW.PrintWords Go.Proofs.YtaijkhabcidagaaW.PrintLast Go.Proofs.YtaijkhabcidagaaW.PrintMore

theorem spec_l1In_eq (a b c : Int) : spec_l1In.f a b c = some (decide (b ≤ a) && decide (a ≤ c)) := by
  unfold spec_l1In.f
  by_cases h : b ≤ a
  · rw [if_pos h]; simp [h]
  · rw [if_neg h]; simp [h]
theorem spec_IsNumber_eq (n : Int) : spec_IsNumber.f n = some (isNum n) := by
  unfold spec_IsNumber.f
  rw [spec_l1In_eq]; rfl
theorem impl_IsNumber_eq (n : Int) : impl_IsNumber.f n = some (isNum n) := by
  unfold impl_IsNumber.f isNum
  by_cases h : n ≥ -400000000
  · rw [if_pos h]
    have h' : -400000000 ≤ n := h
    simp [h']
  · rw [if_neg h]
    have h' : ¬ -400000000 ≤ n := h
    simp [h']
theorem spec_l1Abs_eq (a : Int) (h : -9223372036854775807 ≤ a) (h' : a ≤ 9223372036854775807) : spec_l1Abs.f a = some (a.natAbs : Int) := by
  unfold spec_l1Abs.f mx
  rw [w64 (by omega) (by omega)]
  congr 1
  split <;> omega
theorem impl_absolute_eq (a : Int) (h : -9223372036854775807 ≤ a) (h' : a ≤ 9223372036854775807) : impl_absolute.f a = some (a.natAbs : Int) := by
  unfold impl_absolute.f
  by_cases c : a < 0
  · rw [if_pos c, w64 (by omega) (by omega)]; congr 1; omega
  · rw [if_neg c]; congr 1; omega
theorem impl_commonDivisor_l0_ev (a b : Int) : Ev (fun k => impl_commonDivisor.l0 k a b) (eu a b) := by
  fun_induction eu a b with
  | case1 a => exact Ev.step (f := fun _ => some a) (fun k => by simp [impl_commonDivisor.l0]) (Ev.now a)
  | case2 a b h ih => exact Ev.step (fun k => by simp only [impl_commonDivisor.l0]; rw [if_neg h]) ih
theorem impl_commonDivisor_ev (a b : Int) (h : -9223372036854775807 ≤ a ∧ a ≤ 9223372036854775807) (h' : -9223372036854775807 ≤ b ∧ b ≤ 9223372036854775807) : Ev (fun k => impl_commonDivisor.f k a b) (Int.gcd a b : Int) := by
  unfold impl_commonDivisor.f
  rw [impl_absolute_eq a h.1 h.2, impl_absolute_eq b h'.1 h'.2]
  simp only [Option.bind_some]
  rw [← eu_abs]
  exact impl_commonDivisor_l0_ev _ _
theorem laws_szIntS_eq (l : List Int) (a : Int) (h : l.length ≤ maxLen) (ha : 0 ≤ a ∧ a ≤ 1048576) : laws_szIntS.f l a = some (lft a l.length) := by
  unfold laws_szIntS.f lft
  unfold maxLen at h
  rw [w64 (by omega) (by omega)]
  by_cases h' : a < (l.length : Int)
  · rw [if_pos (by omega), if_pos h']
  · rw [if_neg (by omega), if_neg h']
theorem laws_szAtom_eq (l : List Int) (c : Int) (s : Bool) (a : Int) (h : l.length ≤ maxLen) (ha : 0 ≤ a ∧ a ≤ 1048576) : laws_szAtom.f l c s a = some (lft a l.length) := by
  unfold laws_szAtom.f
  rw [laws_szIntS_eq l a h ha, Option.bind_some]
  unfold lft
  by_cases h' : a < (l.length : Int)
  · simp [h']
  · rw [if_neg h', if_neg (by omega)]
theorem laws_toIntS_ev (l : List Int) (h : l.length ≤ 1048576) : Ev (fun k => laws_toIntS.f k l) l := by
  unfold laws_toIntS.f
  refine ev_pos (by omega) (ev_pos (by simp; omega) ?_)
  have := ev_put (fun k ys i => laws_toIntS.l0 k l ys i) l (fun _ x => x) 0 l
    (by
      rw [mapIdx_const l (fun x => x), List.map_id']
      exact Ev.step (f := fun _ => some l) (fun k => by simp [laws_toIntS.l0]) (Ev.now _))
    (fun i hi ys hy ih => by
      refine Ev.step (fun k => by rw [laws_toIntS.l0]) ?_
      refine ev_pos (by omega) (ev_pos (by omega) (ev_pos (by omega) ?_))
      rw [w64_succ (by omega)]
      simp only [rd, Int.toNat_natCast, getD_of_lt hi]
      exact ih)
  simpa using this
theorem laws_toAtom_ev (l : List Int) (c : Int) (s : Bool) (h : l.length ≤ 1048576) : Ev (fun k => laws_toAtom.f k l c s) (l, c, s) := by
  unfold laws_toAtom.f
  exact Ev.bind (laws_toIntS_ev l h) (Ev.now _)
theorem laws_eqIntS_ev (l : List Int) (h : l.length ≤ 1048576) : Ev (fun k => laws_eqIntS.f k l l) true := by
  unfold laws_eqIntS.f
  refine ev_pos rfl ?_
  have := ev_all (fun k i => laws_eqIntS.l0 k l l i) l (fun _ => true) true false
    (Ev.step (f := fun _ => some true) (fun k => by simp [laws_eqIntS.l0]) (Ev.now _))
    (fun i hi r _ ih => by
      refine Ev.step (fun k => by rw [laws_eqIntS.l0]) ?_
      refine ev_pos (by omega) (ev_pos (by omega) (ev_pos (by omega) (ev_pos rfl ?_)))
      rw [w64_succ (by omega)]
      exact ih)
    (fun i hi h' => by simp at h')
  simpa using this
theorem laws_eqAtom_ev (l : List Int) (c : Int) (s : Bool) (h : l.length ≤ 1048576) : Ev (fun k => laws_eqAtom.f k l c s l c s) true := by
  unfold laws_eqAtom.f
  refine Ev.bind (laws_eqIntS_ev l h) (ev_pos rfl (ev_pos rfl ?_))
  exact ev_neg (by simp) (Ev.now _)
theorem spec_l2Gcd_l1_ev (x0 : List Int) (i : Nat) (hi : i < 4611686018427387904) (r : Int) (g a : Int) (hg : 0 ≤ g) (ha : 0 ≤ a) (h : Ev (fun k => spec_l2Gcd.l0 k x0 (eu g a) ((i + 1 : Nat) : Int)) r) : Ev (fun k => spec_l2Gcd.l1 k x0 g (i : Nat) a) r := by
  fun_induction eu g a with
  | case1 g => exact Ev.step (fun k => by rw [spec_l2Gcd.l1, if_pos rfl, w64_succ (by omega)]) h
  | case2 g a hz ih => exact Ev.step (fun k => by rw [spec_l2Gcd.l1, if_neg hz]) (ih ha (Int.tmod_nonneg _ hg) h)
theorem spec_l2Gcd_ev (l : List Int) (c : Int) (hl : l.length ≤ 1048576) (hb : ∀ x ∈ l, -9223372036854775807 ≤ x ∧ x ≤ 9223372036854775807) (hc : -9223372036854775807 ≤ c ∧ c ≤ 9223372036854775807) : Ev (fun k => spec_l2Gcd.f k l c) ((Nat.gcd (gcdL l) c.natAbs : Nat) : Int) := by
  unfold spec_l2Gcd.f
  rw [spec_l1Abs_eq c hc.1 hc.2]
  simp only [Option.bind_some]
  have := ev_fold (fun k (g : Nat) i => spec_l2Gcd.l0 k l (g : Int) i) l (fun g x => Nat.gcd g x.natAbs) (fun g => (g : Int)) (fun _ => True)
    (fun g _ => Ev.step (f := fun _ => some (g : Int)) (fun k => by simp [spec_l2Gcd.l0]) (Ev.now _))
    (fun i hi g r _ => ⟨trivial, fun ih => by
      have hx := hb l[i] (List.getElem_mem hi)
      refine Ev.step (fun k => by rw [spec_l2Gcd.l0]) ?_
      refine ev_pos (by omega) (ev_pos (by omega) ?_)
      simp only [rd, Int.toNat_natCast, getD_of_lt hi]
      rw [spec_l1Abs_eq _ hx.1 hx.2]
      simp only [Option.bind_some]
      refine spec_l2Gcd_l1_ev l i (by omega) r _ _ (by omega) (by omega) ?_
      have e : eu (g : Int) (l[i].natAbs : Int) = ((Nat.gcd g l[i].natAbs : Nat) : Int) := by
        have h1 := eu_gcd (g : Int) (l[i].natAbs : Int)
        have h2 := eu_nonneg (g : Int) (l[i].natAbs : Int) (by omega) (by omega)
        simp only [Int.gcd, Int.natAbs_natCast] at h1
        omega
      rw [e]; exact ih⟩) c.natAbs trivial
  refine ev_eqr this ?_
  have e := gcdF_eq l c.natAbs
  unfold gcdF at e
  rw [e, Nat.gcd_comm]
theorem isNum_bd {x : Int} (h : isNum x = true) : -9223372036854775807 ≤ x ∧ x ≤ 9223372036854775807 := by rw [isNum_iff] at h; omega
theorem spec_IsAtom_l0_ev (l : List Int) (c : Int) (s : Bool) (hl : l.length ≤ 1048576) (hc : isNum c = true) : Ev (fun k => spec_IsAtom.l0 k 0 l c s) (if l.all isNum then decide (Nat.gcd (gcdL l) c.natAbs ≤ 1) else false) := by
  have := ev_allq (fun k i => spec_IsAtom.l0 k i l c s) l isNum (decide (Nat.gcd (gcdL l) c.natAbs ≤ 1)) false
    (fun hall => by
      refine Ev.step (fun k => by rw [spec_IsAtom.l0, if_neg (by omega)]) ?_
      refine Ev.bind (spec_l2Gcd_ev l c hl (fun x hx => isNum_bd (List.all_eq_true.1 hall x hx)) (isNum_bd hc)) (ev_some ?_)
      rw [Bool.eq_iff_iff]; simp; omega)
    (fun i hi r hp ih => by
      refine Ev.step (fun k => by rw [spec_IsAtom.l0]) ?_
      refine ev_pos (by omega) (ev_pos (by omega) ?_)
      simp only [rd, Int.toNat_natCast, getD_of_lt hi]
      rw [spec_IsNumber_eq, w64_succ (by omega)]
      simp only [Option.bind_some]
      exact ev_pos hp ih)
    (fun i hi hp => by
      refine Ev.step (fun k => by rw [spec_IsAtom.l0]) ?_
      refine ev_pos (by omega) (ev_pos (by omega) ?_)
      simp only [rd, Int.toNat_natCast, getD_of_lt hi]
      rw [spec_IsNumber_eq]
      simp only [Option.bind_some]
      exact ev_neg (by simp [hp]) (Ev.now _))
  simpa using this
theorem spec_IsAtom_ev (l : List Int) (c : Int) (s : Bool) (hl : l.length ≤ 1048576) : Ev (fun k => spec_IsAtom.f k l c s) (isAt l c) := by
  unfold spec_IsAtom.f
  refine ev_ite (fun h => ?_) (fun h => ?_)
  · refine ev_eqr (Ev.step (f := fun _ => some false) (fun k => by simp [spec_IsAtom.j0]) (Ev.now _)) ?_
    simp only [isAt, show ¬ l.length ≤ 4 by omega, decide_false, Bool.false_and]
  · rw [spec_IsNumber_eq]
    simp only [Option.bind_some]
    cases hc : isNum c with
    | false =>
      refine ev_eqr (Ev.step (f := fun _ => some false) (fun k => by simp [spec_IsAtom.j0]) (Ev.now _)) ?_
      simp [isAt, hc]
    | true =>
      refine Ev.step (f := fun k => spec_IsAtom.l0 k 0 l c s) (fun k => by simp [spec_IsAtom.j0]) ?_
      refine ev_eqr (spec_IsAtom_l0_ev l c s hl hc) ?_
      cases hall : l.all isNum <;> simp [isAt, hc, hall, show l.length ≤ 4 by omega]
theorem impl_divisorOf_ev (l : List Int) (hl : l.length ≤ 1048576) (hb : ∀ x ∈ l, -9223372036854775807 ≤ x ∧ x ≤ 9223372036854775807) : Ev (fun k => impl_divisorOf.f k l) (gcdL l : Int) := by
  unfold impl_divisorOf.f
  have := ev_fold (fun k (g : Nat) i => impl_divisorOf.l0 k (g : Int) l (l.length : Int) i) l (fun g x => Nat.gcd g x.natAbs) (fun g => (g : Int)) (fun g => g ≤ 9223372036854775807)
    (fun g _ => Ev.step (f := fun _ => some (g : Int)) (fun k => by simp [impl_divisorOf.l0]) (Ev.now _))
    (fun i hi g r hg => by
      have hx := hb l[i] (List.getElem_mem hi)
      refine ⟨gcd_le_max _ _ _ hg (by omega), fun ih => ?_⟩
      refine Ev.step (fun k => by rw [impl_divisorOf.l0]) ?_
      refine ev_pos (by omega) (ev_pos (by omega) (ev_pos (by omega) ?_))
      simp only [rd, Int.toNat_natCast, getD_of_lt hi]
      refine Ev.bind (impl_commonDivisor_ev _ _ (by omega) hx) ?_
      rw [w64_succ (by omega)]
      have e : ((Int.gcd (g : Int) l[i] : Nat) : Int) = ((Nat.gcd g l[i].natAbs : Nat) : Int) := by simp [Int.gcd]
      rw [e]; exact ih) 0 (by omega)
  exact this
theorem isNum_bd' {x : Int} (h : isNum x = true) : -9223372036854775807 ≤ x ∧ x ≤ 9223372036854775807 := by rw [isNum_iff] at h; omega
theorem impl_IsAtom_l0_ev (l : List Int) (c : Int) (s : Bool) (hl : l.length ≤ 1048576) (hc : isNum c = true) : Ev (fun k => impl_IsAtom.l0 k l (l.length : Int) 0 l c s) (if l.all isNum then decide (Nat.gcd (gcdL l) c.natAbs ≤ 1) else false) := by
  have := ev_allq (fun k i => impl_IsAtom.l0 k l (l.length : Int) i l c s) l isNum (decide (Nat.gcd (gcdL l) c.natAbs ≤ 1)) false
    (fun hall => by
      have hb := fun x hx => isNum_bd' (List.all_eq_true.1 hall x hx)
      have hg : gcdL l ≤ 9223372036854775807 := gcdL_le l _ (fun x hx => by have := hb x hx; omega)
      refine Ev.step (fun k => by rw [impl_IsAtom.l0, if_neg (by omega)]) ?_
      refine Ev.bind (impl_divisorOf_ev l hl hb) (Ev.bind (impl_commonDivisor_ev _ c (by omega) (isNum_bd' hc)) (ev_some ?_))
      have e : ((Int.gcd (gcdL l : Int) c : Nat) : Int) = ((Nat.gcd (gcdL l) c.natAbs : Nat) : Int) := by simp [Int.gcd]
      rw [e, Bool.eq_iff_iff]; simp; omega)
    (fun i hi r hp ih => by
      refine Ev.step (fun k => by rw [impl_IsAtom.l0]) ?_
      refine ev_pos (by omega) (ev_pos (by omega) (ev_pos (by omega) ?_))
      simp only [rd, Int.toNat_natCast, getD_of_lt hi]
      rw [impl_IsNumber_eq, w64_succ (by omega)]
      simp only [Option.bind_some]
      exact ev_pos hp ih)
    (fun i hi hp => by
      refine Ev.step (fun k => by rw [impl_IsAtom.l0]) ?_
      refine ev_pos (by omega) (ev_pos (by omega) (ev_pos (by omega) ?_))
      simp only [rd, Int.toNat_natCast, getD_of_lt hi]
      rw [impl_IsNumber_eq]
      simp only [Option.bind_some]
      exact ev_neg (by simp [hp]) (Ev.now _))
  simpa using this
theorem impl_IsAtom_ev (l : List Int) (c : Int) (s : Bool) (hl : l.length ≤ 1048576) : Ev (fun k => impl_IsAtom.f k l c s) (isAt l c) := by
  unfold impl_IsAtom.f
  refine ev_ite (fun h => ?_) (fun h => ?_)
  · refine ev_eqr (Ev.step (f := fun _ => some false) (fun k => by simp [impl_IsAtom.j0]) (Ev.now _)) ?_
    simp only [isAt, show ¬ l.length ≤ 4 by omega, decide_false, Bool.false_and]
  · rw [impl_IsNumber_eq]
    simp only [Option.bind_some]
    cases hc : isNum c with
    | false =>
      refine ev_eqr (Ev.step (f := fun _ => some false) (fun k => by simp [impl_IsAtom.j0]) (Ev.now _)) ?_
      simp [isAt, hc]
    | true =>
      refine Ev.step (f := fun k => impl_IsAtom.l0 k l (l.length : Int) 0 l c s) (fun k => by simp [impl_IsAtom.j0]) ?_
      refine ev_eqr (impl_IsAtom_l0_ev l c s hl hc) ?_
      cases hall : l.all isNum <;> simp [isAt, hc, hall, show l.length ≤ 4 by omega]
theorem spec_l2Steep_ev (l : List Int) (c : Int) (s : Bool) (hl : l.length ≤ 1048576) (hb : ∀ x ∈ l, -9223372036854775807 ≤ x ∧ x ≤ 9223372036854775807) : Ev (fun k => spec_l2Steep.f k l c s) (gcdL l : Int) := by
  unfold spec_l2Steep.f
  refine Ev.bind (spec_l2Gcd_ev l 0 hl hb (by omega)) (ev_some ?_)
  simp
theorem spec_l2Way_ev (l1 : List Int) (c1 : Int) (s1 : Bool) (l2 : List Int) (c2 : Int) (s2 : Bool) (hl1 : l1.length ≤ 1048576) (hlen : l1.length = l2.length)
    (hb1 : ∀ x ∈ l1, -9223372036854775807 ≤ x ∧ x ≤ 9223372036854775807) (hb2 : ∀ x ∈ l2, -9223372036854775807 ≤ x ∧ x ≤ 9223372036854775807) : Ev (fun k => spec_l2Way.f k l1 c1 s1 l2 c2 s2) (wayAt l1 l2) := by
  unfold spec_l2Way.f wayAt
  refine Ev.bind (spec_l2Steep_ev l1 c1 s1 hl1 hb1) (Ev.bind (spec_l2Steep_ev l2 c2 s2 (by omega) hb2) ?_)
  rw [mx_div1, mx_div1]
  have hp1 := div1_pos (gcdL l1)
  have hp2 := div1_pos (gcdL l2)
  have key : ∀ i, i ≤ l1.length → Ev (fun k => spec_l2Way.l0 k (div1 (gcdL l1)) (div1 (gcdL l2)) (i : Nat) l1 c1 s1 l2 c2 s2) (cmpDir (div1 (gcdL l1)) (div1 (gcdL l2)) (l1.drop i) (l2.drop i)) := by
    refine down l1.length ?_ ?_
    · rw [List.drop_length, hlen, List.drop_length]
      exact Ev.step (f := fun k => spec_l2Way.j1 k (div1 (gcdL l1)) (div1 (gcdL l2)) (l2.length : Nat) false l1 c1 s1 l2 c2 s2) (fun k => by rw [spec_l2Way.l0, if_neg (by omega)]) (Ev.step (f := fun _ => some 0) (fun k => by simp [spec_l2Way.j1]) (Ev.now _))
    · intro i hi ih
      have hi2 : i < l2.length := by omega
      have hx := hb1 l1[i] (List.getElem_mem hi)
      have hy := hb2 l2[i] (List.getElem_mem hi2)
      refine Ev.step (fun k => by rw [spec_l2Way.l0, if_pos (by omega), decide_eq_true (by omega)]) ?_
      refine Ev.step (fun k => by rw [spec_l2Way.j1, if_pos rfl]) ?_
      refine ev_pos (by omega) (ev_pos (by omega) (ev_neg (by omega) (ev_pos (by omega) (ev_neg (by omega) ?_))))
      simp only [rd, Int.toNat_natCast, getD_of_lt hi, getD_of_lt hi2]
      rw [w64_succ (by omega), w64_tdiv hx.1 hx.2, w64_tdiv hy.1 hy.2, drop_cons hi, drop_cons hi2, cmpDir]
      refine ev_ite (fun he => ?_) (fun he => ev_ite (fun hl => ?_) (fun hl => ?_))
      · rw [if_neg (by omega), if_neg (by omega)]; exact ih
      · rw [if_pos hl]; exact Ev.now _
      · rw [if_neg hl, if_pos (by omega)]; exact Ev.now _
  simpa using key 0 (by omega)
theorem div1_le {l : List Int} (h : ∀ x ∈ l, isNum x = true) : div1 (gcdL l) ≤ 400000000 := by
  have := gcdL_le l 400000000 (fun x hx => by have := isNum_iff.1 (h x hx); omega)
  unfold div1; split <;> omega
theorem spec_l2Stronger_ev (l1 : List Int) (c1 : Int) (s1 : Bool) (l2 : List Int) (c2 : Int) (s2 : Bool) (hl1 : l1.length ≤ 1048576) (hl2 : l2.length ≤ 1048576)
    (hb1 : ∀ x ∈ l1, isNum x = true) (hb2 : ∀ x ∈ l2, isNum x = true) (hc1 : isNum c1 = true) (hc2 : isNum c2 = true) :
    Ev (fun k => spec_l2Stronger.f k l1 c1 s1 l2 c2 s2) (decide (c2 * div1 (gcdL l1) < c1 * div1 (gcdL l2)) || decide (c1 * div1 (gcdL l2) = c2 * div1 (gcdL l1)) && (s1 || !s2)) := by
  unfold spec_l2Stronger.f
  refine Ev.bind (spec_l2Steep_ev l2 c2 s2 hl2 (fun x hx => isNum_bd (hb2 x hx))) (Ev.bind (spec_l2Steep_ev l1 c1 s1 hl1 (fun x hx => isNum_bd (hb1 x hx))) ?_)
  rw [mx_div1, mx_div1]
  have p1 := div1_pos (gcdL l1)
  have p2 := div1_pos (gcdL l2)
  have q1 := div1_le hb1
  have q2 := div1_le hb2
  rw [isNum_iff] at hc1 hc2
  have m1 := mul_bd (a := c1) (b := div1 (gcdL l2)) (by omega) (by omega)
  have m2 := mul_bd (a := c2) (b := div1 (gcdL l1)) (by omega) (by omega)
  rw [w64 (a := c1 * div1 (gcdL l2)) (by omega) (by omega), w64 (a := c2 * div1 (gcdL l1)) (by omega) (by omega)]
  refine ev_ite (fun h => ev_some ?_) (fun h => ev_ite (fun h' => ev_ite (fun hs => ev_some ?_) (fun hs => ev_some ?_)) (fun h' => ev_some ?_))
  · have h2 : c2 * div1 (gcdL l1) < c1 * div1 (gcdL l2) := h
    rw [decide_eq_true h2]; rfl
  · rw [hs, decide_eq_true h']; simp
  · rw [Bool.not_eq_true] at hs
    rw [hs, decide_eq_true h', h']; simp
  · have h2 : ¬ c2 * div1 (gcdL l1) < c1 * div1 (gcdL l2) := h
    rw [decide_eq_false h', decide_eq_false h2]; rfl
theorem spec_CompareAtoms_ev (l1 : List Int) (c1 : Int) (s1 : Bool) (l2 : List Int) (c2 : Int) (s2 : Bool) (hl1 : l1.length ≤ 1048576) (hl2 : l2.length ≤ 1048576) : Ev (fun k => spec_CompareAtoms.f k l1 c1 s1 l2 c2 s2) (cmpAt l1 c1 s1 l2 c2 s2) := by
  unfold spec_CompareAtoms.f cmpAt
  have no : ∀ k, spec_CompareAtoms.j0 (k + 1) true l1 c1 s1 l2 c2 s2 = some 2 := fun k => by simp [spec_CompareAtoms.j0]
  refine Ev.bind (spec_IsAtom_ev l1 c1 s1 hl1) (ev_ite (fun h1 => Ev.bind (spec_IsAtom_ev l2 c2 s2 hl2) (ev_ite (fun h2 => ?_) (fun h2 => ?_))) (fun h1 => ?_))
  · by_cases hlen : l1.length = l2.length
    · have e : ((l1.length : Int) != (l2.length : Int)) = false := by simp [hlen]
      rw [e, h1, h2, decide_eq_true hlen]
      simp only [Bool.and_self, if_true]
      obtain ⟨_, hc1, hb1, _⟩ := isAt_iff.1 h1
      obtain ⟨_, hc2, hb2, _⟩ := isAt_iff.1 h2
      refine Ev.step (fun k => by rw [spec_CompareAtoms.j0, if_neg (by simp)]) ?_
      refine Ev.bind (spec_l2Way_ev l1 c1 s1 l2 c2 s2 hl1 hlen (fun x hx => isNum_bd (hb1 x hx)) (fun x hx => isNum_bd (hb2 x hx))) (ev_ite (fun hw => ?_) (fun hw => ?_))
      · refine ev_eqr ?_ (if_neg (fun h => h hw)).symm
        refine Ev.bind (spec_l2Stronger_ev l1 c1 s1 l2 c2 s2 hl1 hl2 hb1 hb2 hc1 hc2) (Ev.bind (spec_l2Stronger_ev l2 c2 s2 l1 c1 s1 hl2 hl1 hb2 hb1 hc2 hc1) ?_)
        unfold strengthAt sgn
        have j1e : ∀ a b c, Ev (fun k => spec_CompareAtoms.j1 k a b c) (if c then 1 else if b then (if a then 0 else -1) else 0) := fun a b c =>
          Ev.step (f := fun _ => some (if c then 1 else if b then (if a then 0 else -1) else 0)) (fun k => by rw [spec_CompareAtoms.j1]; cases a <;> cases b <;> cases c <;> rfl) (Ev.now _)
        rcases Int.lt_trichotomy (c1 * div1 (gcdL l2)) (c2 * div1 (gcdL l1)) with h | h | h
        · rw [decide_eq_false (show ¬ c2 * div1 (gcdL l1) < c1 * div1 (gcdL l2) by omega), decide_eq_false (show ¬ c1 * div1 (gcdL l2) = c2 * div1 (gcdL l1) by omega), decide_eq_true h]
          simp only [Bool.false_or, Bool.false_and, Bool.true_or, if_neg (show ¬ false = true by simp)]
          refine ev_eqr (j1e _ _ _) ?_
          simp [h]
        · rw [decide_eq_false (show ¬ c2 * div1 (gcdL l1) < c1 * div1 (gcdL l2) by omega), decide_eq_true h, decide_eq_false (show ¬ c1 * div1 (gcdL l2) < c2 * div1 (gcdL l1) by omega), decide_eq_true h.symm]
          refine ev_ite (fun hh => ev_eqr (j1e _ _ _) ?_) (fun hh => ev_eqr (j1e _ _ _) ?_) <;> cases s1 <;> cases s2 <;> simp_all
        · rw [decide_eq_true h, decide_eq_false (show ¬ c1 * div1 (gcdL l2) < c2 * div1 (gcdL l1) by omega), decide_eq_false (show ¬ c2 * div1 (gcdL l1) = c1 * div1 (gcdL l2) by omega)]
          refine ev_pos (by simp) (ev_eqr (j1e _ _ _) ?_)
          rw [if_neg (show ¬ c1 * div1 (gcdL l2) < c2 * div1 (gcdL l1) by omega), if_pos h]; simp
      · rw [if_pos (by simpa using hw)]; exact Ev.now _
    · have e : ((l1.length : Int) != (l2.length : Int)) = true := by simp; omega
      rw [e]
      refine ev_eqr (Ev.step (f := fun _ => some 2) no (Ev.now _)) ?_
      rw [decide_eq_false hlen]; simp
  · refine ev_eqr (Ev.step (f := fun _ => some 2) no (Ev.now _)) ?_
    simp [h2]
  · refine ev_eqr (Ev.step (f := fun _ => some 2) no (Ev.now _)) ?_
    simp [h1]
theorem impl_sign_eq (a b : Int) : impl_sign.f a b = some (sgn a b) := by
  unfold impl_sign.f sgn
  by_cases h : a < b
  · simp [h]
  · rw [if_neg h, if_neg h]
    by_cases h2 : b < a
    · rw [if_pos h2, if_pos (show a > b from h2)]
    · rw [if_neg h2, if_neg (show ¬ a > b from h2)]
theorem impl_directionDivisor_ev (l : List Int) (c : Int) (s : Bool) (hl : l.length ≤ 1048576) (hb : ∀ x ∈ l, -9223372036854775807 ≤ x ∧ x ≤ 9223372036854775807) : Ev (fun k => impl_directionDivisor.f k l c s) (div1 (gcdL l)) := by
  unfold impl_directionDivisor.f
  refine Ev.bind (impl_divisorOf_ev l hl hb) (ev_ite (fun h => ev_some ?_) (fun h => ev_some ?_))
  · unfold div1; rw [if_pos (by omega)]
  · unfold div1; rw [if_neg (by omega)]
theorem impl_compareDirections_ev (l1 : List Int) (c1 : Int) (s1 : Bool) (l2 : List Int) (c2 : Int) (s2 : Bool) (hl1 : l1.length ≤ 1048576) (hlen : l1.length = l2.length)
    (hb1 : ∀ x ∈ l1, -9223372036854775807 ≤ x ∧ x ≤ 9223372036854775807) (hb2 : ∀ x ∈ l2, -9223372036854775807 ≤ x ∧ x ≤ 9223372036854775807) : Ev (fun k => impl_compareDirections.f k l1 c1 s1 l2 c2 s2) (wayAt l1 l2) := by
  unfold impl_compareDirections.f wayAt
  refine Ev.bind (impl_directionDivisor_ev l1 c1 s1 hl1 hb1) (Ev.bind (impl_directionDivisor_ev l2 c2 s2 (by omega) hb2) ?_)
  have hp1 := div1_pos (gcdL l1)
  have hp2 := div1_pos (gcdL l2)
  have key : ∀ i, i ≤ l1.length → Ev (fun k => impl_compareDirections.l0 k (div1 (gcdL l1)) (div1 (gcdL l2)) (l1.length : Int) (i : Nat) l1 c1 s1 l2 c2 s2) (cmpDir (div1 (gcdL l1)) (div1 (gcdL l2)) (l1.drop i) (l2.drop i)) := by
    refine down l1.length ?_ ?_
    · rw [List.drop_length, show l2.drop l1.length = [] by rw [hlen, List.drop_length]]
      exact Ev.step (f := fun _ => some 0) (fun k => by simp [impl_compareDirections.l0]) (Ev.now _)
    · intro i hi ih
      have hi2 : i < l2.length := by omega
      have hx := hb1 l1[i] (List.getElem_mem hi)
      have hy := hb2 l2[i] (List.getElem_mem hi2)
      refine Ev.step (fun k => by rw [impl_compareDirections.l0]) ?_
      refine ev_pos (by omega) (ev_pos (by omega) (ev_pos (by omega) (ev_neg (by omega) (ev_pos (by omega) (ev_neg (by omega) ?_)))))
      simp only [rd, Int.toNat_natCast, getD_of_lt hi, getD_of_lt hi2]
      rw [w64_succ (by omega), w64_tdiv hx.1 hx.2, w64_tdiv hy.1 hy.2, drop_cons hi, drop_cons hi2, cmpDir, impl_sign_eq]
      simp only [Option.bind_some]
      unfold sgn
      by_cases h : l1[i].tdiv (div1 (gcdL l1)) < l2[i].tdiv (div1 (gcdL l2))
      · simp only [if_pos h]; exact ev_neg (by omega) (Ev.now _)
      · simp only [if_neg h]
        by_cases h2 : l2[i].tdiv (div1 (gcdL l2)) < l1[i].tdiv (div1 (gcdL l1))
        · simp only [if_pos h2]; exact ev_neg (by omega) (Ev.now _)
        · simp only [if_neg h2]; exact ev_pos (by simp) ih
  simpa using key 0 (by omega)
theorem div1_le' {l : List Int} (h : ∀ x ∈ l, isNum x = true) : div1 (gcdL l) ≤ 400000000 := by
  have := gcdL_le l 400000000 (fun x hx => by have := isNum_iff.1 (h x hx); omega)
  unfold div1; split <;> omega
theorem impl_CompareAtoms_ev (l1 : List Int) (c1 : Int) (s1 : Bool) (l2 : List Int) (c2 : Int) (s2 : Bool) (hl1 : l1.length ≤ 1048576) (hl2 : l2.length ≤ 1048576) : Ev (fun k => impl_CompareAtoms.f k l1 c1 s1 l2 c2 s2) (cmpAt l1 c1 s1 l2 c2 s2) := by
  unfold impl_CompareAtoms.f cmpAt
  have no : ∀ k, impl_CompareAtoms.j0 (k + 1) true l1 c1 s1 l2 c2 s2 = some 2 := fun k => by simp [impl_CompareAtoms.j0]
  refine Ev.bind (impl_IsAtom_ev l1 c1 s1 hl1) (ev_ite (fun h1 => Ev.bind (impl_IsAtom_ev l2 c2 s2 hl2) (ev_ite (fun h2 => ?_) (fun h2 => ?_))) (fun h1 => ?_))
  · by_cases hlen : l1.length = l2.length
    · have e : ((l1.length : Int) != (l2.length : Int)) = false := by simp [hlen]
      rw [e, h1, h2, decide_eq_true hlen]
      simp only [Bool.and_self, if_true]
      obtain ⟨_, hc1, hb1, _⟩ := isAt_iff.1 h1
      obtain ⟨_, hc2, hb2, _⟩ := isAt_iff.1 h2
      have hb1' := fun x hx => isNum_bd' (hb1 x hx)
      have hb2' := fun x hx => isNum_bd' (hb2 x hx)
      refine Ev.step (fun k => by rw [impl_CompareAtoms.j0, if_neg (by simp)]) ?_
      refine Ev.bind (impl_compareDirections_ev l1 c1 s1 l2 c2 s2 hl1 hlen hb1' hb2') (ev_ite (fun hw => ?_) (fun hw => ?_))
      · refine ev_eqr ?_ (if_neg (fun h => h hw)).symm
        refine Ev.bind (impl_directionDivisor_ev l2 c2 s2 hl2 hb2') (Ev.bind (impl_directionDivisor_ev l1 c1 s1 hl1 hb1') ?_)
        have p1 := div1_pos (gcdL l1)
        have p2 := div1_pos (gcdL l2)
        have q1 := div1_le' hb1
        have q2 := div1_le' hb2
        rw [isNum_iff] at hc1 hc2
        have m1 := mul_bd (a := c1) (b := div1 (gcdL l2)) (by omega) (by omega)
        have m2 := mul_bd (a := c2) (b := div1 (gcdL l1)) (by omega) (by omega)
        rw [w64 (a := c1 * div1 (gcdL l2)) (by omega) (by omega), w64 (a := c2 * div1 (gcdL l1)) (by omega) (by omega), impl_sign_eq]
        simp only [Option.bind_some]
        unfold strengthAt
        refine ev_ite (fun hs => ?_) (fun hs => ?_)
        · refine ev_eqr ?_ (if_neg (fun h => h hs)).symm
          refine ev_ite (fun h => ev_some ?_) (fun h => ev_ite (fun h' => ev_some ?_) (fun h' => ev_some ?_))
          · rw [if_pos (by simpa using h)]
          · rw [if_neg (by simpa using h), if_pos h']
          · rw [if_neg (by simpa using h), if_neg h']
        · rw [if_pos (by simpa using hs)]; exact Ev.now _
      · rw [if_pos (by simpa using hw)]; exact Ev.now _
    · have e : ((l1.length : Int) != (l2.length : Int)) = true := by simp; omega
      rw [e]
      refine ev_eqr (Ev.step (f := fun _ => some 2) no (Ev.now _)) ?_
      rw [decide_eq_false hlen]; simp
  · refine ev_eqr (Ev.step (f := fun _ => some 2) no (Ev.now _)) ?_
    simp [h2]
  · refine ev_eqr (Ev.step (f := fun _ => some 2) no (Ev.now _)) ?_
    simp [h1]

end Go.Proofs.Ytaijkhabcidagaa.LFnExactCompareAtoms
