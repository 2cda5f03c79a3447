/- What the printed functions of the law FnExactIsRefuted compute, in plain words; each holds under the bounds that it names. -/
import Derived.Test.YtaijkhabcidagaaQFnExactIsRefutedx
import Derived.Test.YtaijkhabcidagaaPlainFnExactIsRefuted
import Derived.Test.YtaijkhabcidagaaPlainAFnExactIsRefuted
set_option linter.unusedVariables false
set_option linter.unusedSimpArgs false
namespace Go.Proofs.Ytaijkhabcidagaa.LFnExactIsRefuted
open Go.RowKit Go.Proofs.Ytaijkhabcidagaa.PFnExactIsRefuted Go.Proofs.Ytaijkhabcidagaa.Pl Go.Proofs.YtaijkhabcidagaaW.PrintWords Go.Proofs.YtaijkhabcidagaaW.PrintLast Go.Proofs.YtaijkhabcidagaaW.PrintMore

theorem spec_l1In_eq (a b c : Int) : spec_l1In.f a b c = some (decide (b ≤ a) && decide (a ≤ c)) := by
  unfold spec_l1In.f
  by_cases h : b ≤ a
  · rw [if_pos h]; simp [h]
  · rw [if_neg h]; simp [h]
theorem spec_IsNumber_eq (n : Int) : spec_IsNumber.f n = some (isNum n) := by
  unfold spec_IsNumber.f
  rw [spec_l1In_eq]; rfl
theorem impl_IsNumber_eq (n : Int) : impl_IsNumber.f n = some (isNum n) := by
  unfold impl_IsNumber.f isNum
  by_cases h : n ≥ -400000000
  · rw [if_pos h]
    have h' : -400000000 ≤ n := h
    simp [h']
  · rw [if_neg h]
    have h' : ¬ -400000000 ≤ n := h
    simp [h']
theorem spec_l1Abs_eq (a : Int) (h : -9223372036854775807 ≤ a) (h' : a ≤ 9223372036854775807) : spec_l1Abs.f a = some (a.natAbs : Int) := by
  unfold spec_l1Abs.f mx
  rw [w64 (by omega) (by omega)]
  congr 1
  split <;> omega
theorem impl_absolute_eq (a : Int) (h : -9223372036854775807 ≤ a) (h' : a ≤ 9223372036854775807) : impl_absolute.f a = some (a.natAbs : Int) := by
  unfold impl_absolute.f
  by_cases c : a < 0
  · rw [if_pos c, w64 (by omega) (by omega)]; congr 1; omega
  · rw [if_neg c]; congr 1; omega
theorem impl_commonDivisor_l0_ev (a b : Int) : Ev (fun k => impl_commonDivisor.l0 k a b) (eu a b) := by
  fun_induction eu a b with
  | case1 a => exact Ev.step (f := fun _ => some a) (fun k => by simp [impl_commonDivisor.l0]) (Ev.now a)
  | case2 a b h ih => exact Ev.step (fun k => by simp only [impl_commonDivisor.l0]; rw [if_neg h]) ih
theorem impl_commonDivisor_ev (a b : Int) (h : -9223372036854775807 ≤ a ∧ a ≤ 9223372036854775807) (h' : -9223372036854775807 ≤ b ∧ b ≤ 9223372036854775807) : Ev (fun k => impl_commonDivisor.f k a b) (Int.gcd a b : Int) := by
  unfold impl_commonDivisor.f
  rw [impl_absolute_eq a h.1 h.2, impl_absolute_eq b h'.1 h'.2]
  simp only [Option.bind_some]
  rw [← eu_abs]
  exact impl_commonDivisor_l0_ev _ _
theorem laws_szIntS_eq (l : List Int) (a : Int) (h : l.length ≤ maxLen) (ha : 0 ≤ a ∧ a ≤ 1048576) : laws_szIntS.f l a = some (lft a l.length) := by
  unfold laws_szIntS.f lft
  unfold maxLen at h
  rw [w64 (by omega) (by omega)]
  by_cases h' : a < (l.length : Int)
  · rw [if_pos (by omega), if_pos h']
  · rw [if_neg (by omega), if_neg h']
theorem laws_szAtom_eq (l : List Int) (c : Int) (s : Bool) (a : Int) (h : l.length ≤ maxLen) (ha : 0 ≤ a ∧ a ≤ 1048576) : laws_szAtom.f l c s a = some (lft a l.length) := by
  unfold laws_szAtom.f
  rw [laws_szIntS_eq l a h ha, Option.bind_some]
  unfold lft
  by_cases h' : a < (l.length : Int)
  · simp [h']
  · rw [if_neg h', if_neg (by omega)]
theorem laws_toIntS_ev (l : List Int) (h : l.length ≤ 1048576) : Ev (fun k => laws_toIntS.f k l) l := by
  unfold laws_toIntS.f
  refine ev_pos (by omega) (ev_pos (by simp; omega) ?_)
  have := ev_put (fun k ys i => laws_toIntS.l0 k l ys i) l (fun _ x => x) 0 l
    (by
      rw [mapIdx_const l (fun x => x), List.map_id']
      exact Ev.step (f := fun _ => some l) (fun k => by simp [laws_toIntS.l0]) (Ev.now _))
    (fun i hi ys hy ih => by
      refine Ev.step (fun k => by rw [laws_toIntS.l0]) ?_
      refine ev_pos (by omega) (ev_pos (by omega) (ev_pos (by omega) ?_))
      rw [w64_succ (by omega)]
      simp only [rd, Int.toNat_natCast, getD_of_lt hi]
      exact ih)
  simpa using this
theorem laws_toAtom_ev (l : List Int) (c : Int) (s : Bool) (h : l.length ≤ 1048576) : Ev (fun k => laws_toAtom.f k l c s) (l, c, s) := by
  unfold laws_toAtom.f
  exact Ev.bind (laws_toIntS_ev l h) (Ev.now _)
theorem laws_eqIntS_ev (l : List Int) (h : l.length ≤ 1048576) : Ev (fun k => laws_eqIntS.f k l l) true := by
  unfold laws_eqIntS.f
  refine ev_pos rfl ?_
  have := ev_all (fun k i => laws_eqIntS.l0 k l l i) l (fun _ => true) true false
    (Ev.step (f := fun _ => some true) (fun k => by simp [laws_eqIntS.l0]) (Ev.now _))
    (fun i hi r _ ih => by
      refine Ev.step (fun k => by rw [laws_eqIntS.l0]) ?_
      refine ev_pos (by omega) (ev_pos (by omega) (ev_pos (by omega) (ev_pos rfl ?_)))
      rw [w64_succ (by omega)]
      exact ih)
    (fun i hi h' => by simp at h')
  simpa using this
theorem laws_eqAtom_ev (l : List Int) (c : Int) (s : Bool) (h : l.length ≤ 1048576) : Ev (fun k => laws_eqAtom.f k l c s l c s) true := by
  unfold laws_eqAtom.f
  refine Ev.bind (laws_eqIntS_ev l h) (ev_pos rfl (ev_pos rfl ?_))
  exact ev_neg (by simp) (Ev.now _)
theorem spec_l2Gcd_l1_ev (x0 : List Int) (i : Nat) (hi : i < 4611686018427387904) (r : Int) (g a : Int) (hg : 0 ≤ g) (ha : 0 ≤ a) (h : Ev (fun k => spec_l2Gcd.l0 k x0 (eu g a) ((i + 1 : Nat) : Int)) r) : Ev (fun k => spec_l2Gcd.l1 k x0 g (i : Nat) a) r := by
  fun_induction eu g a with
  | case1 g => exact Ev.step (fun k => by rw [spec_l2Gcd.l1, if_pos rfl, w64_succ (by omega)]) h
  | case2 g a hz ih => exact Ev.step (fun k => by rw [spec_l2Gcd.l1, if_neg hz]) (ih ha (Int.tmod_nonneg _ hg) h)
theorem spec_l2Gcd_ev (l : List Int) (c : Int) (hl : l.length ≤ 1048576) (hb : ∀ x ∈ l, -9223372036854775807 ≤ x ∧ x ≤ 9223372036854775807) (hc : -9223372036854775807 ≤ c ∧ c ≤ 9223372036854775807) : Ev (fun k => spec_l2Gcd.f k l c) ((Nat.gcd (gcdL l) c.natAbs : Nat) : Int) := by
  unfold spec_l2Gcd.f
  rw [spec_l1Abs_eq c hc.1 hc.2]
  simp only [Option.bind_some]
  have := ev_fold (fun k (g : Nat) i => spec_l2Gcd.l0 k l (g : Int) i) l (fun g x => Nat.gcd g x.natAbs) (fun g => (g : Int)) (fun _ => True)
    (fun g _ => Ev.step (f := fun _ => some (g : Int)) (fun k => by simp [spec_l2Gcd.l0]) (Ev.now _))
    (fun i hi g r _ => ⟨trivial, fun ih => by
      have hx := hb l[i] (List.getElem_mem hi)
      refine Ev.step (fun k => by rw [spec_l2Gcd.l0]) ?_
      refine ev_pos (by omega) (ev_pos (by omega) ?_)
      simp only [rd, Int.toNat_natCast, getD_of_lt hi]
      rw [spec_l1Abs_eq _ hx.1 hx.2]
      simp only [Option.bind_some]
      refine spec_l2Gcd_l1_ev l i (by omega) r _ _ (by omega) (by omega) ?_
      have e : eu (g : Int) (l[i].natAbs : Int) = ((Nat.gcd g l[i].natAbs : Nat) : Int) := by
        have h1 := eu_gcd (g : Int) (l[i].natAbs : Int)
        have h2 := eu_nonneg (g : Int) (l[i].natAbs : Int) (by omega) (by omega)
        simp only [Int.gcd, Int.natAbs_natCast] at h1
        omega
      rw [e]; exact ih⟩) c.natAbs trivial
  refine ev_eqr this ?_
  have e := gcdF_eq l c.natAbs
  unfold gcdF at e
  rw [e, Nat.gcd_comm]
theorem isNum_bd {x : Int} (h : isNum x = true) : -9223372036854775807 ≤ x ∧ x ≤ 9223372036854775807 := by rw [isNum_iff] at h; omega
theorem spec_IsAtom_l0_ev (l : List Int) (c : Int) (s : Bool) (hl : l.length ≤ 1048576) (hc : isNum c = true) : Ev (fun k => spec_IsAtom.l0 k 0 l c s) (if l.all isNum then decide (Nat.gcd (gcdL l) c.natAbs ≤ 1) else false) := by
  have := ev_allq (fun k i => spec_IsAtom.l0 k i l c s) l isNum (decide (Nat.gcd (gcdL l) c.natAbs ≤ 1)) false
    (fun hall => by
      refine Ev.step (fun k => by rw [spec_IsAtom.l0, if_neg (by omega)]) ?_
      refine Ev.bind (spec_l2Gcd_ev l c hl (fun x hx => isNum_bd (List.all_eq_true.1 hall x hx)) (isNum_bd hc)) (ev_some ?_)
      rw [Bool.eq_iff_iff]; simp; omega)
    (fun i hi r hp ih => by
      refine Ev.step (fun k => by rw [spec_IsAtom.l0]) ?_
      refine ev_pos (by omega) (ev_pos (by omega) ?_)
      simp only [rd, Int.toNat_natCast, getD_of_lt hi]
      rw [spec_IsNumber_eq, w64_succ (by omega)]
      simp only [Option.bind_some]
      exact ev_pos hp ih)
    (fun i hi hp => by
      refine Ev.step (fun k => by rw [spec_IsAtom.l0]) ?_
      refine ev_pos (by omega) (ev_pos (by omega) ?_)
      simp only [rd, Int.toNat_natCast, getD_of_lt hi]
      rw [spec_IsNumber_eq]
      simp only [Option.bind_some]
      exact ev_neg (by simp [hp]) (Ev.now _))
  simpa using this
theorem spec_IsAtom_ev (l : List Int) (c : Int) (s : Bool) (hl : l.length ≤ 1048576) : Ev (fun k => spec_IsAtom.f k l c s) (isAt l c) := by
  unfold spec_IsAtom.f
  refine ev_ite (fun h => ?_) (fun h => ?_)
  · refine ev_eqr (Ev.step (f := fun _ => some false) (fun k => by simp [spec_IsAtom.j0]) (Ev.now _)) ?_
    simp only [isAt, show ¬ l.length ≤ 4 by omega, decide_false, Bool.false_and]
  · rw [spec_IsNumber_eq]
    simp only [Option.bind_some]
    cases hc : isNum c with
    | false =>
      refine ev_eqr (Ev.step (f := fun _ => some false) (fun k => by simp [spec_IsAtom.j0]) (Ev.now _)) ?_
      simp [isAt, hc]
    | true =>
      refine Ev.step (f := fun k => spec_IsAtom.l0 k 0 l c s) (fun k => by simp [spec_IsAtom.j0]) ?_
      refine ev_eqr (spec_IsAtom_l0_ev l c s hl hc) ?_
      cases hall : l.all isNum <;> simp [isAt, hc, hall, show l.length ≤ 4 by omega]
theorem impl_divisorOf_ev (l : List Int) (hl : l.length ≤ 1048576) (hb : ∀ x ∈ l, -9223372036854775807 ≤ x ∧ x ≤ 9223372036854775807) : Ev (fun k => impl_divisorOf.f k l) (gcdL l : Int) := by
  unfold impl_divisorOf.f
  have := ev_fold (fun k (g : Nat) i => impl_divisorOf.l0 k (g : Int) l (l.length : Int) i) l (fun g x => Nat.gcd g x.natAbs) (fun g => (g : Int)) (fun g => g ≤ 9223372036854775807)
    (fun g _ => Ev.step (f := fun _ => some (g : Int)) (fun k => by simp [impl_divisorOf.l0]) (Ev.now _))
    (fun i hi g r hg => by
      have hx := hb l[i] (List.getElem_mem hi)
      refine ⟨gcd_le_max _ _ _ hg (by omega), fun ih => ?_⟩
      refine Ev.step (fun k => by rw [impl_divisorOf.l0]) ?_
      refine ev_pos (by omega) (ev_pos (by omega) (ev_pos (by omega) ?_))
      simp only [rd, Int.toNat_natCast, getD_of_lt hi]
      refine Ev.bind (impl_commonDivisor_ev _ _ (by omega) hx) ?_
      rw [w64_succ (by omega)]
      have e : ((Int.gcd (g : Int) l[i] : Nat) : Int) = ((Nat.gcd g l[i].natAbs : Nat) : Int) := by simp [Int.gcd]
      rw [e]; exact ih) 0 (by omega)
  exact this
theorem isNum_bd' {x : Int} (h : isNum x = true) : -9223372036854775807 ≤ x ∧ x ≤ 9223372036854775807 := by rw [isNum_iff] at h; omega
theorem impl_IsAtom_l0_ev (l : List Int) (c : Int) (s : Bool) (hl : l.length ≤ 1048576) (hc : isNum c = true) : Ev (fun k => impl_IsAtom.l0 k l (l.length : Int) 0 l c s) (if l.all isNum then decide (Nat.gcd (gcdL l) c.natAbs ≤ 1) else false) := by
  have := ev_allq (fun k i => impl_IsAtom.l0 k l (l.length : Int) i l c s) l isNum (decide (Nat.gcd (gcdL l) c.natAbs ≤ 1)) false
    (fun hall => by
      have hb := fun x hx => isNum_bd' (List.all_eq_true.1 hall x hx)
      have hg : gcdL l ≤ 9223372036854775807 := gcdL_le l _ (fun x hx => by have := hb x hx; omega)
      refine Ev.step (fun k => by rw [impl_IsAtom.l0, if_neg (by omega)]) ?_
      refine Ev.bind (impl_divisorOf_ev l hl hb) (Ev.bind (impl_commonDivisor_ev _ c (by omega) (isNum_bd' hc)) (ev_some ?_))
      have e : ((Int.gcd (gcdL l : Int) c : Nat) : Int) = ((Nat.gcd (gcdL l) c.natAbs : Nat) : Int) := by simp [Int.gcd]
      rw [e, Bool.eq_iff_iff]; simp; omega)
    (fun i hi r hp ih => by
      refine Ev.step (fun k => by rw [impl_IsAtom.l0]) ?_
      refine ev_pos (by omega) (ev_pos (by omega) (ev_pos (by omega) ?_))
      simp only [rd, Int.toNat_natCast, getD_of_lt hi]
      rw [impl_IsNumber_eq, w64_succ (by omega)]
      simp only [Option.bind_some]
      exact ev_pos hp ih)
    (fun i hi hp => by
      refine Ev.step (fun k => by rw [impl_IsAtom.l0]) ?_
      refine ev_pos (by omega) (ev_pos (by omega) (ev_pos (by omega) ?_))
      simp only [rd, Int.toNat_natCast, getD_of_lt hi]
      rw [impl_IsNumber_eq]
      simp only [Option.bind_some]
      exact ev_neg (by simp [hp]) (Ev.now _))
  simpa using this
theorem impl_IsAtom_ev (l : List Int) (c : Int) (s : Bool) (hl : l.length ≤ 1048576) : Ev (fun k => impl_IsAtom.f k l c s) (isAt l c) := by
  unfold impl_IsAtom.f
  refine ev_ite (fun h => ?_) (fun h => ?_)
  · refine ev_eqr (Ev.step (f := fun _ => some false) (fun k => by simp [impl_IsAtom.j0]) (Ev.now _)) ?_
    simp only [isAt, show ¬ l.length ≤ 4 by omega, decide_false, Bool.false_and]
  · rw [impl_IsNumber_eq]
    simp only [Option.bind_some]
    cases hc : isNum c with
    | false =>
      refine ev_eqr (Ev.step (f := fun _ => some false) (fun k => by simp [impl_IsAtom.j0]) (Ev.now _)) ?_
      simp [isAt, hc]
    | true =>
      refine Ev.step (f := fun k => impl_IsAtom.l0 k l (l.length : Int) 0 l c s) (fun k => by simp [impl_IsAtom.j0]) ?_
      refine ev_eqr (impl_IsAtom_l0_ev l c s hl hc) ?_
      cases hall : l.all isNum <;> simp [isAt, hc, hall, show l.length ≤ 4 by omega]
def wA (x : S24) : Nat := x.f0.length
def wAs (l : List S24) : Nat := l.length + sumL (l.map wA)
def atOf (x : S26) : At := (x.f0, x.f1, x.f2)
def atsOf (l : List S26) : List At := l.map atOf
def smallA (l : List S26) : Prop := l.length ≤ 1048576 ∧ ∀ x ∈ l, x.f0.length ≤ 1048576
theorem atsOf_length (l : List S26) : (atsOf l).length = l.length := by simp [atsOf]
theorem laws_szAtomS_l0_ev (l : List S24) (hl : l.length ≤ 1048576) (hx : ∀ x ∈ l, x.f0.length ≤ maxLen) : ∀ i, i ≤ l.length → ∀ a : Int, 0 ≤ a → a ≤ 1048576 → Ev (fun k => laws_szAtomS.l0 k l a (i : Nat)) (lft a (sumL ((l.drop i).map wA))) := by
  refine down l.length ?_ ?_
  · intro a h0 h1
    refine ev_eqr (Ev.step (f := fun _ => some a) (fun k => by simp [laws_szAtomS.l0]) (Ev.now _)) ?_
    rw [List.drop_length]; simp [sumL, lft]; omega
  · intro i hi ih a h0 h1
    refine Ev.step (fun k => by rw [laws_szAtomS.l0]) ?_
    refine ev_pos (by omega) (ev_pos (by omega) ?_)
    simp only [rd_T24, Int.toNat_natCast, getD_of_lt hi]
    rw [laws_szAtom_eq _ _ _ _ (hx _ (List.getElem_mem hi)) ⟨h0, h1⟩]
    simp only [Option.bind_some]
    have e : sumL ((l.drop i).map wA) = l[i].f0.length + sumL ((l.drop (i + 1)).map wA) := by rw [drop_cons hi]; rfl
    rw [e]
    refine ev_ite (fun h => ev_some ?_) (fun h => ?_)
    · unfold lft at h ⊢; split at h <;> split <;> omega
    · have h2 := lft_nn h
      rw [w64_succ (by omega)]
      refine ev_eqr (ih _ (by omega) (by omega)) ?_
      rw [h2.2]; unfold lft; split <;> split <;> omega
theorem laws_szAtomS_ev (l : List S24) (a : Int) (hl : l.length ≤ maxLen) (hx : ∀ x ∈ l, x.f0.length ≤ maxLen) (h0 : 0 ≤ a) (h1 : a ≤ 1048576) : Ev (fun k => laws_szAtomS.f k l a) (lft a (wAs l)) := by
  unfold laws_szAtomS.f wAs
  unfold maxLen at hl
  rw [w64 (by omega) (by omega)]
  refine ev_ite (fun h => ev_some ?_) (fun h => ?_)
  · unfold lft; rw [if_pos (by omega)]
  · refine ev_eqr (laws_szAtomS_l0_ev l (by omega) hx 0 (by omega) (a - l.length) (by omega) (by omega)) ?_
    simp only [List.drop_zero]
    unfold lft; split <;> split <;> omega
theorem laws_szCell_ev (d : Int) (l : List S24) (a : Int) (hl : l.length ≤ maxLen) (hx : ∀ x ∈ l, x.f0.length ≤ maxLen) (h0 : 0 ≤ a) (h1 : a ≤ 1048576) : Ev (fun k => laws_szCell.f k d l a) (lft a (wAs l)) := by
  unfold laws_szCell.f
  refine Ev.bind (laws_szAtomS_ev l a hl hx h0 h1) (ev_ite (fun h => ev_some ?_) (fun h => Ev.now _))
  unfold lft at h ⊢; split at h <;> split <;> omega
def cvA (x : S24) : S26 := ⟨x.f0, x.f1, x.f2⟩
theorem cvA_small {l : List S24} (h : wAs l ≤ 1048576) : smallA (l.map cvA) := by
  unfold wAs at h
  refine ⟨by simp; omega, fun x hx => ?_⟩
  obtain ⟨y, hy, rfl⟩ := List.mem_map.1 hx
  have := sumL_mem (List.mem_map.2 ⟨y, hy, rfl⟩ : wA y ∈ l.map wA)
  show wA y ≤ _
  omega
theorem laws_toAtomS_ev (l : List S24) (h : wAs l ≤ 1048576) : Ev (fun k => laws_toAtomS.f k l) (l.map cvA) := by
  have hs := cvA_small h
  have hl : l.length ≤ 1048576 := by simpa using hs.1
  unfold laws_toAtomS.f
  refine ev_pos (by omega) (ev_pos (by simp; omega) ?_)
  have := ev_put (fun k ys i => laws_toAtomS.l0 k l ys i) l (fun _ x => cvA x) z26 (l.map cvA)
    (by
      rw [mapIdx_const l cvA]
      exact Ev.step (f := fun _ => some (l.map cvA)) (fun k => by simp [laws_toAtomS.l0]) (Ev.now _))
    (fun i hi ys hy ih => by
      refine Ev.step (fun k => by rw [laws_toAtomS.l0]) ?_
      refine ev_pos (by omega) (ev_pos (by omega) ?_)
      simp only [rd_T24, Int.toNat_natCast, getD_of_lt hi]
      refine Ev.bind (laws_toAtom_ev _ _ _ (hs.2 (cvA l[i]) (List.mem_map.2 ⟨_, List.getElem_mem hi, rfl⟩))) ?_
      refine ev_pos (by omega) ?_
      rw [w64_succ (by omega)]
      exact ih)
  simpa using this
theorem laws_toCell_ev (d : Int) (l : List S24) (h : wAs l ≤ 1048576) : Ev (fun k => laws_toCell.f k d l) (d, l.map cvA) := by
  unfold laws_toCell.f
  exact Ev.bind (laws_toAtomS_ev l h) (Ev.now _)
theorem laws_eqAtomS_ev (l : List S26) (h : smallA l) : Ev (fun k => laws_eqAtomS.f k l l) true := by
  unfold laws_eqAtomS.f
  have hl := h.1
  refine ev_pos rfl ?_
  have := ev_all (fun k i => laws_eqAtomS.l0 k l l i) l (fun _ => true) true false
    (Ev.step (f := fun _ => some true) (fun k => by simp [laws_eqAtomS.l0]) (Ev.now _))
    (fun i hi r _ ih => by
      refine Ev.step (fun k => by rw [laws_eqAtomS.l0]) ?_
      refine ev_pos (by omega) (ev_pos (by omega) (ev_pos (by omega) ?_))
      simp only [rd_T26, Int.toNat_natCast, getD_of_lt hi]
      refine Ev.bind (laws_eqAtom_ev _ _ _ (h.2 _ (List.getElem_mem hi))) (ev_pos rfl ?_)
      rw [w64_succ (by omega)]
      exact ih)
    (fun i hi h' => by simp at h')
  simpa using this
theorem laws_eqCell_ev (d : Int) (l : List S26) (h : smallA l) : Ev (fun k => laws_eqCell.f k d l d l) true := by
  unfold laws_eqCell.f
  exact ev_pos rfl (Ev.bind (laws_eqAtomS_ev l h) (ev_pos rfl (Ev.now _)))
theorem spec_IsCell_ev (d : Int) (l : List S26) (h : smallA l) : Ev (fun k => spec_IsCell.f k d l) (isCe d (atsOf l)) := by
  have hl := h.1
  unfold spec_IsCell.f
  have := ev_allq (fun k i => spec_IsCell.l0 k i d l) l (fun x => isAt x.f0 x.f1 && decide ((x.f0.length : Int) = d)) ((decide (0 ≤ d) && decide (d ≤ 4)) && decide (l.length ≤ 16)) false
    (fun _ => by
      refine Ev.step (fun k => by rw [spec_IsCell.l0, if_neg (by omega)]) ?_
      rw [spec_l1In_eq]
      simp only [Option.bind_some]
      refine ev_ite (fun h' => ev_some ?_) (fun h' => ev_some ?_)
      · rw [h', Bool.eq_iff_iff]; simp; omega
      · rw [Bool.not_eq_true] at h'; rw [h']; rfl)
    (fun i hi r hp ih => by
      simp only [Bool.and_eq_true, decide_eq_true_eq] at hp
      refine Ev.step (fun k => by rw [spec_IsCell.l0]) ?_
      refine ev_pos (by omega) (ev_pos (by omega) ?_)
      simp only [rd_T26, Int.toNat_natCast, getD_of_lt hi]
      refine Ev.bind (spec_IsAtom_ev _ _ _ (h.2 _ (List.getElem_mem hi))) (ev_pos hp.1 (ev_pos hp.2 ?_))
      rw [w64_succ (by omega)]
      exact ih)
    (fun i hi hp => by
      refine Ev.step (fun k => by rw [spec_IsCell.l0]) ?_
      refine ev_pos (by omega) (ev_pos (by omega) ?_)
      simp only [rd_T26, Int.toNat_natCast, getD_of_lt hi]
      refine Ev.bind (spec_IsAtom_ev _ _ _ (h.2 _ (List.getElem_mem hi))) (ev_ite (fun h1 => ev_neg ?_ (Ev.now _)) (fun _ => Ev.now _))
      intro h2
      simp [h1, h2] at hp)
  refine ev_eqr this ?_
  have e : (l.all fun x => isAt x.f0 x.f1 && decide ((x.f0.length : Int) = d)) = (atsOf l).all fun a => isAt a.1 a.2.1 && decide ((a.1.length : Int) = d) := by
    unfold atsOf; rw [List.all_map]; rfl
  unfold isCe
  rw [← e, atsOf_length]
  cases l.all fun x => isAt x.f0 x.f1 && decide ((x.f0.length : Int) = d) <;> simp
theorem impl_IsCell_ev (d : Int) (l : List S26) (h : smallA l) : Ev (fun k => impl_IsCell.f k d l) (isCe d (atsOf l)) := by
  have hl := h.1
  have e : (l.all fun x => isAt x.f0 x.f1 && decide ((x.f0.length : Int) = d)) = (atsOf l).all fun a => isAt a.1 a.2.1 && decide ((a.1.length : Int) = d) := by
    unfold atsOf; rw [List.all_map]; rfl
  unfold impl_IsCell.f
  have no : ∀ k, impl_IsCell.j0 (k + 1) true d l = some false := fun k => by simp [impl_IsCell.j0]
  refine ev_ite (fun h1 => ?_) (fun h1 => ev_ite (fun h2 => ?_) (fun h2 => ?_))
  · refine ev_eqr (Ev.step (f := fun _ => some false) no (Ev.now _)) ?_
    unfold isCe; rw [decide_eq_false (show ¬ 0 ≤ d by omega)]; rfl
  · refine ev_eqr (Ev.step (f := fun _ => some false) no (Ev.now _)) ?_
    unfold isCe; rw [decide_eq_false (show ¬ d ≤ 4 by omega)]; simp
  · by_cases h3 : (l.length : Int) > 16
    · rw [decide_eq_true h3]
      refine ev_eqr (Ev.step (f := fun _ => some false) no (Ev.now _)) ?_
      unfold isCe; rw [atsOf_length, decide_eq_false (show ¬ l.length ≤ 16 by omega)]; simp
    · rw [decide_eq_false h3]
      refine Ev.step (f := fun k => impl_IsCell.l0 k l (l.length : Int) 0 d l) (fun k => by simp [impl_IsCell.j0]) ?_
      have := ev_allq (fun k i => impl_IsCell.l0 k l (l.length : Int) i d l) l (fun x => isAt x.f0 x.f1 && decide ((x.f0.length : Int) = d)) true false
        (fun _ => Ev.step (f := fun _ => some true) (fun k => by simp [impl_IsCell.l0]) (Ev.now _))
        (fun i hi r hp ih => by
          simp only [Bool.and_eq_true, decide_eq_true_eq] at hp
          refine Ev.step (fun k => by rw [impl_IsCell.l0]) ?_
          refine ev_pos (by omega) (ev_pos (by omega) (ev_pos (by omega) ?_))
          simp only [rd_T26, Int.toNat_natCast, getD_of_lt hi]
          refine Ev.bind (impl_IsAtom_ev _ _ _ (h.2 _ (List.getElem_mem hi))) (ev_pos hp.1 (ev_pos hp.2 ?_))
          rw [w64_succ (by omega)]
          exact ih)
        (fun i hi hp => by
          refine Ev.step (fun k => by rw [impl_IsCell.l0]) ?_
          refine ev_pos (by omega) (ev_pos (by omega) (ev_pos (by omega) ?_))
          simp only [rd_T26, Int.toNat_natCast, getD_of_lt hi]
          refine Ev.bind (impl_IsAtom_ev _ _ _ (h.2 _ (List.getElem_mem hi))) (ev_ite (fun h1 => ev_neg ?_ (Ev.now _)) (fun _ => Ev.now _))
          intro h2
          simp [h1, h2] at hp)
      refine ev_eqr this ?_
      unfold isCe
      rw [← e, atsOf_length, decide_eq_true (show 0 ≤ d by omega), decide_eq_true (show d ≤ 4 by omega), decide_eq_true (show l.length ≤ 16 by omega)]
      cases l.all fun x => isAt x.f0 x.f1 && decide ((x.f0.length : Int) = d) <;> rfl
theorem addMul_len (n : Int) (coef sum : List Int) : (addMul n coef sum).length = sum.length := by simp [addMul]
theorem spec_IsRefuted_l2_ev (d : Int) (l : List S26) (sum : List Int) (k0 : Int) (st : Bool) (hd : (sum.length : Int) = d) (hs : sum.length ≤ 1048576) : Ev (fun k => spec_IsRefuted.l2 k sum k0 st 0 d l) (refEnd sum k0 st) := by
  have := ev_allq (fun k i => spec_IsRefuted.l2 k sum k0 st i d l) sum (fun x => decide (x = 0)) (decide (0 < k0) || decide (k0 = 0) && st) false
    (fun _ => by
      refine Ev.step (fun k => by rw [spec_IsRefuted.l2, if_neg (by omega)]) ?_
      refine ev_ite (fun h => ev_some ?_) (fun h => ev_ite (fun h' => ev_some ?_) (fun h' => ev_some ?_))
      · rw [decide_eq_true (show 0 < k0 from h)]; rfl
      · rw [decide_eq_false (show ¬ 0 < k0 from h), decide_eq_true h']; rfl
      · rw [decide_eq_false (show ¬ 0 < k0 from h), decide_eq_false h']; rfl)
    (fun i hi r hp ih => by
      refine Ev.step (fun k => by rw [spec_IsRefuted.l2]) ?_
      refine ev_pos (by omega) (ev_pos (by omega) (ev_pos (by omega) ?_))
      simp only [rd, Int.toNat_natCast, getD_of_lt hi]
      rw [w64_succ (by omega)]
      exact ev_pos (of_decide_eq_true hp) ih)
    (fun i hi hp => by
      refine Ev.step (fun k => by rw [spec_IsRefuted.l2]) ?_
      refine ev_pos (by omega) (ev_pos (by omega) (ev_pos (by omega) ?_))
      simp only [rd, Int.toNat_natCast, getD_of_lt hi]
      exact ev_neg (of_decide_eq_false hp) (Ev.now _))
  refine ev_eqr this ?_
  unfold refEnd
  cases sum.all fun x => decide (x = 0) <;> simp
theorem spec_IsRefuted_l0_ev (d : Int) (l : List S26) (m : List Int) (hd : 0 ≤ d ∧ d ≤ 4) (hml : m.length = l.length) (h16 : l.length ≤ 16) (hA : ∀ a ∈ l, isAt a.f0 a.f1 = true ∧ (a.f0.length : Int) = d) :
    ∀ i, i ≤ m.length → ∀ (sum : List Int) (k0 : Int) (st : Bool), (sum.length : Int) = d → (∀ x ∈ sum, -(i * 160000000000000000 : Int) ≤ x ∧ x ≤ i * 160000000000000000) → (-(i * 160000000000000000 : Int) ≤ k0 ∧ k0 ≤ i * 160000000000000000) →
      Ev (fun k => spec_IsRefuted.l0 k m sum k0 st (i : Nat) d l) (refGo sum k0 st (m.drop i) ((atsOf l).drop i)) := by
  refine down m.length ?_ ?_
  · intro sum k0 st hs hb hk
    refine Ev.step (fun k => by rw [spec_IsRefuted.l0, if_neg (by omega)]) ?_
    rw [List.drop_length]
    exact spec_IsRefuted_l2_ev d l sum k0 st hs (by omega)
  · intro i hi ih sum k0 st hs hb hk
    have hi2 : i < l.length := by omega
    have hi3 : i < (atsOf l).length := by rw [atsOf_length]; exact hi2
    obtain ⟨ha, hal⟩ := hA l[i] (List.getElem_mem hi2)
    obtain ⟨_, hc, hx, _⟩ := isAt_iff.1 ha
    rw [drop_cons hi, drop_cons hi3, refGo]
    have eA : (atsOf l)[i] = (l[i].f0, l[i].f1, l[i].f2) := by simp [atsOf, atOf]
    rw [eA]
    refine Ev.step (fun k => by rw [spec_IsRefuted.l0]) ?_
    refine ev_pos (by omega) (ev_pos (by omega) ?_)
    rw [spec_l1In_eq]
    simp only [Option.bind_some, rd, Int.toNat_natCast, getD_of_lt hi]
    refine ev_ite (fun hn => ?_) (fun hn => by rw [if_neg hn]; exact Ev.now _)
    rw [if_pos hn]
    simp only [Bool.and_eq_true, decide_eq_true_eq] at hn
    have hc' := isNum_iff.1 hc
    have mk := mul_bd (a := m[i]) (b := l[i].f1) (by omega) hc'
    have msum : ∀ j (x : Int), -(i * 160000000000000000 : Int) ≤ x ∧ x ≤ i * 160000000000000000 → -((i + 1 : Nat) * 160000000000000000 : Int) ≤ x + m[i] * l[i].f0.getD j 0 ∧ x + m[i] * l[i].f0.getD j 0 ≤ (i + 1 : Nat) * 160000000000000000 := by
      intro j x hxx
      have : -160000000000000000 ≤ m[i] * l[i].f0.getD j 0 ∧ m[i] * l[i].f0.getD j 0 ≤ 160000000000000000 := by
        by_cases hj : j < l[i].f0.length
        · rw [getD_of_lt hj]
          exact mul_bd (by omega) (isNum_iff.1 (hx _ (List.getElem_mem hj)))
        · rw [List.getD_eq_getElem?_getD, List.getElem?_eq_none (by omega)]; simp
      omega
    have inner := ev_upd (fun k ys j => spec_IsRefuted.l1 k m ys k0 st (i : Int) j d l) sum (fun j x => x + m[i] * l[i].f0.getD j 0) (refGo (addMul m[i] l[i].f0 sum) (k0 + m[i] * l[i].f1) (st || decide (0 < m[i]) && l[i].f2) (m.drop (i + 1)) ((atsOf l).drop (i + 1)))
      (by
        refine Ev.step (fun k => by rw [spec_IsRefuted.l1, if_neg (by omega)]) ?_
        refine ev_pos (by omega) (ev_pos (by omega) (ev_pos (by omega) ?_))
        simp only [rd, rd_T26, Int.toNat_natCast, getD_of_lt hi, getD_of_lt hi2]
        rw [w64 (a := m[i] * l[i].f1) (by omega) (by omega), w64 (a := k0 + m[i] * l[i].f1) (by omega) (by omega), w64_succ (by omega)]
        have hb' : ∀ x ∈ addMul m[i] l[i].f0 sum, -((i + 1 : Nat) * 160000000000000000 : Int) ≤ x ∧ x ≤ (i + 1 : Nat) * 160000000000000000 := by
          intro x hxm
          unfold addMul at hxm
          obtain ⟨j, hj, rfl⟩ := List.mem_mapIdx.1 hxm
          exact msum j _ (hb _ (List.getElem_mem hj))
        have go : ∀ st', Ev (fun k => spec_IsRefuted.l0 k m (addMul m[i] l[i].f0 sum) (k0 + m[i] * l[i].f1) st' ((i + 1 : Nat) : Int) d l) (refGo (addMul m[i] l[i].f0 sum) (k0 + m[i] * l[i].f1) st' (m.drop (i + 1)) ((atsOf l).drop (i + 1))) :=
          fun st' => ih _ _ _ (by rw [addMul_len]; exact hs) hb' (by omega)
        have eM : sum.mapIdx (fun j x => x + m[i] * l[i].f0.getD j 0) = addMul m[i] l[i].f0 sum := rfl
        rw [eM]
        cases st with
        | true => simp only [if_true, Bool.true_or]; exact go true
        | false =>
          simp only [Bool.false_or]
          refine ev_neg (by simp) (ev_ite (fun h => ?_) (fun h => ?_))
          · rw [decide_eq_true (show 0 < m[i] from h), Bool.true_and]; exact go _
          · rw [decide_eq_false (show ¬ 0 < m[i] from h), Bool.false_and]; exact go _)
      (fun j hj ys hy hyj ihj => by
        refine Ev.step (fun k => by rw [spec_IsRefuted.l1]) ?_
        refine ev_pos (by omega) (ev_pos (by omega) (ev_pos (by omega) (ev_pos (by omega) (ev_pos (by omega) (ev_pos (by omega) ?_)))))
        have eg : ys.getD j 0 = sum[j] := by rw [List.getD_eq_getElem?_getD, hyj]; rfl
        have hjl : j < l[i].f0.length := by omega
        have b1 := hb _ (List.getElem_mem hj)
        have b2 := msum j sum[j] b1
        have b3 := mul_bd (a := m[i]) (b := l[i].f0.getD j 0) (by omega) (by rw [getD_of_lt hjl]; exact isNum_iff.1 (hx _ (List.getElem_mem hjl)))
        simp only [rd, rd_T26, Int.toNat_natCast, getD_of_lt hi, getD_of_lt hi2, eg]
        refine ev_pos (by omega) ?_
        rw [w64_succ (by omega), w64 (a := m[i] * l[i].f0.getD j 0) (by omega) (by omega), w64 (a := sum[j] + m[i] * l[i].f0.getD j 0) (by omega) (by omega)]
        exact ihj)
    exact inner
theorem spec_IsRefuted_ev (d : Int) (l : List S26) (m : List Int) (h : smallA l) (hm : m.length ≤ 1048576) : Ev (fun k => spec_IsRefuted.f k d l m) (isRef d (atsOf l) m) := by
  unfold spec_IsRefuted.f isRef
  have no : ∀ k, spec_IsRefuted.j0 (k + 1) m true d l = some false := fun k => by simp [spec_IsRefuted.j0]
  refine Ev.bind (spec_IsCell_ev d l h) (ev_ite (fun h1 => ?_) (fun h1 => ?_))
  · rw [h1, Bool.true_and, atsOf_length]
    by_cases hlen : m.length = l.length
    · rw [decide_eq_true hlen, show ((m.length : Int) != (l.length : Int)) = false by simp [hlen]]
      simp only [if_true]
      obtain ⟨hd, h16, hA⟩ := isCe_iff.1 h1
      rw [atsOf_length] at h16
      have hA' : ∀ a ∈ l, isAt a.f0 a.f1 = true ∧ (a.f0.length : Int) = d := fun a ha => hA (atOf a) (List.mem_map.2 ⟨a, ha, rfl⟩)
      refine Ev.step (fun k => by rw [spec_IsRefuted.j0, if_neg (by simp)]) ?_
      refine ev_pos (by omega) (ev_pos (by omega) ?_)
      have := spec_IsRefuted_l0_ev d l m hd hlen h16 hA' 0 (by omega) (List.replicate d.toNat 0) 0 false (by simp; omega) (fun x hx => by rw [List.mem_replicate] at hx; omega) (by omega)
      simpa using this
    · rw [decide_eq_false hlen, show ((m.length : Int) != (l.length : Int)) = true by simp; omega]
      exact Ev.step (f := fun _ => some false) no (Ev.now _)
  · refine ev_eqr (Ev.step (f := fun _ => some false) no (Ev.now _)) ?_
    rw [Bool.not_eq_true] at h1; rw [h1]; rfl
theorem addMul_len' (n : Int) (coef sum : List Int) : (addMul n coef sum).length = sum.length := by simp [addMul]
theorem impl_IsRefuted_l2_ev (sum : List Int) (k0 : Int) (st : Bool) (hs : sum.length ≤ 1048576) : Ev (fun k => impl_IsRefuted.l2 k k0 st sum (sum.length : Int) 0) (refEnd sum k0 st) := by
  have := ev_allq (fun k i => impl_IsRefuted.l2 k k0 st sum (sum.length : Int) i) sum (fun x => decide (x = 0)) (decide (0 < k0) || decide (k0 = 0) && st) false
    (fun _ => by
      refine Ev.step (fun k => by rw [impl_IsRefuted.l2, if_neg (by omega)]) ?_
      refine ev_ite (fun h => ev_some ?_) (fun h => ev_ite (fun h' => ev_some ?_) (fun h' => ev_some ?_))
      · rw [decide_eq_true (show 0 < k0 from h)]; rfl
      · rw [decide_eq_false (show ¬ 0 < k0 from h), decide_eq_true h']; rfl
      · rw [decide_eq_false (show ¬ 0 < k0 from h), decide_eq_false h']; rfl)
    (fun i hi r hp ih => by
      refine Ev.step (fun k => by rw [impl_IsRefuted.l2]) ?_
      refine ev_pos (by omega) (ev_pos (by omega) (ev_pos (by omega) ?_))
      simp only [rd, Int.toNat_natCast, getD_of_lt hi]
      rw [w64_succ (by omega)]
      exact ev_pos (of_decide_eq_true hp) ih)
    (fun i hi hp => by
      refine Ev.step (fun k => by rw [impl_IsRefuted.l2]) ?_
      refine ev_pos (by omega) (ev_pos (by omega) (ev_pos (by omega) ?_))
      simp only [rd, Int.toNat_natCast, getD_of_lt hi]
      exact ev_neg (of_decide_eq_false hp) (Ev.now _))
  refine ev_eqr this ?_
  unfold refEnd
  cases sum.all fun x => decide (x = 0) <;> simp
theorem impl_IsRefuted_l0_ev (d : Int) (l : List S26) (m : List Int) (hd : 0 ≤ d ∧ d ≤ 4) (hml : m.length = l.length) (h16 : l.length ≤ 16) (hA : ∀ a ∈ l, isAt a.f0 a.f1 = true ∧ (a.f0.length : Int) = d) :
    ∀ i, i ≤ m.length → ∀ (sum : List Int) (k0 : Int) (st : Bool), (sum.length : Int) = d → (∀ x ∈ sum, -(i * 160000000000000000 : Int) ≤ x ∧ x ≤ i * 160000000000000000) → (-(i * 160000000000000000 : Int) ≤ k0 ∧ k0 ≤ i * 160000000000000000) →
      Ev (fun k => impl_IsRefuted.l0 k sum k0 st m (m.length : Int) (i : Nat) d l) (refGo sum k0 st (m.drop i) ((atsOf l).drop i)) := by
  refine down m.length ?_ ?_
  · intro sum k0 st hs hb hk
    refine Ev.step (fun k => by rw [impl_IsRefuted.l0, if_neg (by omega)]) ?_
    rw [List.drop_length]
    exact impl_IsRefuted_l2_ev sum k0 st (by omega)
  · intro i hi ih sum k0 st hs hb hk
    have hi2 : i < l.length := by omega
    have hi3 : i < (atsOf l).length := by rw [atsOf_length]; exact hi2
    obtain ⟨ha, hal⟩ := hA l[i] (List.getElem_mem hi2)
    obtain ⟨_, hc, hx, _⟩ := isAt_iff.1 ha
    rw [drop_cons hi, drop_cons hi3, refGo]
    have eA : (atsOf l)[i] = (l[i].f0, l[i].f1, l[i].f2) := by simp [atsOf, atOf]
    rw [eA]
    refine Ev.step (fun k => by rw [impl_IsRefuted.l0]) ?_
    refine ev_pos (by omega) (ev_pos (by omega) (ev_pos (by omega) ?_))
    simp only [rd, Int.toNat_natCast, getD_of_lt hi]
    have nope : ∀ k, impl_IsRefuted.j2 (k + 1) sum k0 st (i : Int) m[i] m (m.length : Int) (i : Int) true d l = some false := fun k => by simp [impl_IsRefuted.j2]
    refine ev_ite (fun hn => ?_) (fun hn => ?_)
    · rw [if_neg (by simp; omega)]; exact Ev.step (f := fun _ => some false) nope (Ev.now _)
    by_cases hn2 : m[i] > 400000000
    · rw [if_neg (by simp; omega), decide_eq_true hn2]; exact Ev.step (f := fun _ => some false) nope (Ev.now _)
    rw [if_pos (by simp; omega), decide_eq_false hn2]
    refine Ev.step (fun k => by rw [impl_IsRefuted.j2, if_neg (by simp)]) ?_
    refine ev_pos (by omega) (ev_pos (by omega) ?_)
    simp only [rd_T26, Int.toNat_natCast, getD_of_lt hi2]
    have hc' := isNum_iff.1 hc
    have mk := mul_bd (a := m[i]) (b := l[i].f1) (by omega) hc'
    have msum : ∀ j (x : Int), -(i * 160000000000000000 : Int) ≤ x ∧ x ≤ i * 160000000000000000 → -((i + 1 : Nat) * 160000000000000000 : Int) ≤ x + m[i] * l[i].f0.getD j 0 ∧ x + m[i] * l[i].f0.getD j 0 ≤ (i + 1 : Nat) * 160000000000000000 := by
      intro j x hxx
      have : -160000000000000000 ≤ m[i] * l[i].f0.getD j 0 ∧ m[i] * l[i].f0.getD j 0 ≤ 160000000000000000 := by
        by_cases hj : j < l[i].f0.length
        · rw [getD_of_lt hj]
          exact mul_bd (by omega) (isNum_iff.1 (hx _ (List.getElem_mem hj)))
        · rw [List.getD_eq_getElem?_getD, List.getElem?_eq_none (by omega)]; simp
      omega
    have inner := ev_upd (fun k ys j => impl_IsRefuted.l1 k ys k0 st (i : Int) m[i] m (m.length : Int) (i : Int) l[i].f0 (l[i].f0.length : Int) j d l) sum (fun j x => x + m[i] * l[i].f0.getD j 0) (refGo (addMul m[i] l[i].f0 sum) (k0 + m[i] * l[i].f1) (st || decide (0 < m[i]) && l[i].f2) (m.drop (i + 1)) ((atsOf l).drop (i + 1)))
      (by
        refine Ev.step (fun k => by rw [impl_IsRefuted.l1, if_neg (by omega)]) ?_
        refine ev_pos (by omega) (ev_pos (by omega) ?_)
        simp only [rd, rd_T26, Int.toNat_natCast, getD_of_lt hi, getD_of_lt hi2]
        rw [w64 (a := m[i] * l[i].f1) (by omega) (by omega), w64 (a := k0 + m[i] * l[i].f1) (by omega) (by omega), w64_succ (by omega)]
        have hb' : ∀ x ∈ addMul m[i] l[i].f0 sum, -((i + 1 : Nat) * 160000000000000000 : Int) ≤ x ∧ x ≤ (i + 1 : Nat) * 160000000000000000 := by
          intro x hxm
          unfold addMul at hxm
          obtain ⟨j, hj, rfl⟩ := List.mem_mapIdx.1 hxm
          exact msum j _ (hb _ (List.getElem_mem hj))
        have go : ∀ st', Ev (fun k => impl_IsRefuted.l0 k (addMul m[i] l[i].f0 sum) (k0 + m[i] * l[i].f1) st' m (m.length : Int) ((i + 1 : Nat) : Int) d l) (refGo (addMul m[i] l[i].f0 sum) (k0 + m[i] * l[i].f1) st' (m.drop (i + 1)) ((atsOf l).drop (i + 1))) :=
          fun st' => ih _ _ _ (by rw [addMul_len']; exact hs) hb' (by omega)
        have eM : sum.mapIdx (fun j x => x + m[i] * l[i].f0.getD j 0) = addMul m[i] l[i].f0 sum := rfl
        rw [eM]
        cases st with
        | true => simp only [if_true, Bool.true_or]; exact go true
        | false =>
          simp only [Bool.false_or]
          refine ev_neg (by simp) (ev_ite (fun h => ?_) (fun h => ?_))
          · rw [decide_eq_true (show 0 < m[i] from h), Bool.true_and]; exact go _
          · rw [decide_eq_false (show ¬ 0 < m[i] from h), Bool.false_and]; exact go _)
      (fun j hj ys hy hyj ihj => by
        refine Ev.step (fun k => by rw [impl_IsRefuted.l1]) ?_
        refine ev_pos (by omega) (ev_pos (by omega) (ev_pos (by omega) (ev_pos (by omega) ?_)))
        have eg : ys.getD j 0 = sum[j] := by rw [List.getD_eq_getElem?_getD, hyj]; rfl
        have hjl : j < l[i].f0.length := by omega
        have b1 := hb _ (List.getElem_mem hj)
        have b2 := msum j sum[j] b1
        have b3 := mul_bd (a := m[i]) (b := l[i].f0.getD j 0) (by omega) (by rw [getD_of_lt hjl]; exact isNum_iff.1 (hx _ (List.getElem_mem hjl)))
        simp only [rd, Int.toNat_natCast, eg]
        rw [w64_succ (by omega), w64 (a := m[i] * l[i].f0.getD j 0) (by omega) (by omega), w64 (a := sum[j] + m[i] * l[i].f0.getD j 0) (by omega) (by omega)]
        exact ihj)
    exact inner
theorem impl_IsRefuted_ev (d : Int) (l : List S26) (m : List Int) (h : smallA l) (hm : m.length ≤ 1048576) : Ev (fun k => impl_IsRefuted.f k d l m) (isRef d (atsOf l) m) := by
  unfold impl_IsRefuted.f isRef
  have no : ∀ k, impl_IsRefuted.j0 (k + 1) m true d l = some false := fun k => by simp [impl_IsRefuted.j0]
  refine Ev.bind (impl_IsCell_ev d l h) (ev_ite (fun h1 => ?_) (fun h1 => ?_))
  · rw [h1, Bool.true_and, atsOf_length]
    by_cases hlen : m.length = l.length
    · rw [decide_eq_true hlen, show ((m.length : Int) != (l.length : Int)) = false by simp [hlen]]
      simp only [if_true]
      obtain ⟨hd, h16, hA⟩ := isCe_iff.1 h1
      rw [atsOf_length] at h16
      have hA' : ∀ a ∈ l, isAt a.f0 a.f1 = true ∧ (a.f0.length : Int) = d := fun a ha => hA (atOf a) (List.mem_map.2 ⟨a, ha, rfl⟩)
      refine Ev.step (fun k => by rw [impl_IsRefuted.j0, if_neg (by simp)]) ?_
      refine ev_pos (by omega) (ev_pos (by omega) ?_)
      have := impl_IsRefuted_l0_ev d l m hd hlen h16 hA' 0 (by omega) (List.replicate d.toNat 0) 0 false (by simp; omega) (fun x hx => by rw [List.mem_replicate] at hx; omega) (by omega)
      simpa using this
    · rw [decide_eq_false hlen, show ((m.length : Int) != (l.length : Int)) = true by simp; omega]
      exact Ev.step (f := fun _ => some false) no (Ev.now _)
  · refine ev_eqr (Ev.step (f := fun _ => some false) no (Ev.now _)) ?_
    rw [Bool.not_eq_true] at h1; rw [h1]; rfl

end Go.Proofs.Ytaijkhabcidagaa.LFnExactIsRefuted
