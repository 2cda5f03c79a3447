/- What the printed functions of the law FnExactFormatRegion compute, in plain words; each holds under the bounds that it names. -/
import Derived.Test.YtohoibekddhneaaDoorQFnExactFormatRegionx
import Derived.Test.YtohoibekddhneaaDoorPlainFnExactFormatRegion
import Derived.Test.YtohoibekddhneaaDoorPlainAFnExactFormatRegion
set_option linter.unusedVariables false
set_option linter.unusedSimpArgs false
namespace Go.Proofs.YtohoibekddhneaaDoor.LFnExactFormatRegion
open Go.RowKit Go.Proofs.YtohoibekddhneaaDoor.PFnExactFormatRegion Go.Proofs.YtohoibekddhneaaDoor.Pl Go.Proofs.YtohoibekddhneaaDoorW.PrintWords Go.Proofs.YtohoibekddhneaaDoorW.PrintLast Go.Proofs.YtohoibekddhneaaDoorW.PrintMore

theorem spec_l1In_eq (a b c : Int) : spec_l1In.f a b c = some (decide (b ≤ a) && decide (a ≤ c)) := by
  unfold spec_l1In.f
  by_cases h : b ≤ a
  · rw [if_pos h]; simp [h]
  · rw [if_neg h]; simp [h]
theorem spec_IsNumber_eq (n : Int) : spec_IsNumber.f n = some (isNum n) := by
  unfold spec_IsNumber.f
  rw [spec_l1In_eq]; rfl
theorem impl_IsNumber_eq (n : Int) : impl_IsNumber.f n = some (isNum n) := by
  unfold impl_IsNumber.f isNum
  by_cases h : n ≥ -400000000
  · rw [if_pos h]
    have h' : -400000000 ≤ n := h
    simp [h']
  · rw [if_neg h]
    have h' : ¬ -400000000 ≤ n := h
    simp [h']
theorem spec_l1Abs_eq (a : Int) (h : -9223372036854775807 ≤ a) (h' : a ≤ 9223372036854775807) : spec_l1Abs.f a = some (a.natAbs : Int) := by
  unfold spec_l1Abs.f mx
  rw [w64 (by omega) (by omega)]
  congr 1
  split <;> omega
theorem impl_absolute_eq (a : Int) (h : -9223372036854775807 ≤ a) (h' : a ≤ 9223372036854775807) : impl_absolute.f a = some (a.natAbs : Int) := by
  unfold impl_absolute.f
  by_cases c : a < 0
  · rw [if_pos c, w64 (by omega) (by omega)]; congr 1; omega
  · rw [if_neg c]; congr 1; omega
theorem impl_commonDivisor_l0_ev (a b : Int) : Ev (fun k => impl_commonDivisor.l0 k a b) (eu a b) := by
  fun_induction eu a b with
  | case1 a => exact Ev.step (f := fun _ => some a) (fun k => by simp [impl_commonDivisor.l0]) (Ev.now a)
  | case2 a b h ih => exact Ev.step (fun k => by simp only [impl_commonDivisor.l0]; rw [if_neg h]) ih
theorem impl_commonDivisor_ev (a b : Int) (h : -9223372036854775807 ≤ a ∧ a ≤ 9223372036854775807) (h' : -9223372036854775807 ≤ b ∧ b ≤ 9223372036854775807) : Ev (fun k => impl_commonDivisor.f k a b) (Int.gcd a b : Int) := by
  unfold impl_commonDivisor.f
  rw [impl_absolute_eq a h.1 h.2, impl_absolute_eq b h'.1 h'.2]
  simp only [Option.bind_some]
  rw [← eu_abs]
  exact impl_commonDivisor_l0_ev _ _
theorem laws_szIntS_eq (l : List Int) (a : Int) (h : l.length ≤ maxLen) (ha : 0 ≤ a ∧ a ≤ 1048576) : laws_szIntS.f l a = some (lft a l.length) := by
  unfold laws_szIntS.f lft
  unfold maxLen at h
  rw [w64 (by omega) (by omega)]
  by_cases h' : a < (l.length : Int)
  · rw [if_pos (by omega), if_pos h']
  · rw [if_neg (by omega), if_neg h']
theorem laws_szAtom_eq (l : List Int) (c : Int) (s : Bool) (a : Int) (h : l.length ≤ maxLen) (ha : 0 ≤ a ∧ a ≤ 1048576) : laws_szAtom.f l c s a = some (lft a l.length) := by
  unfold laws_szAtom.f
  rw [laws_szIntS_eq l a h ha, Option.bind_some]
  unfold lft
  by_cases h' : a < (l.length : Int)
  · simp [h']
  · rw [if_neg h', if_neg (by omega)]
theorem laws_toIntS_ev (l : List Int) (h : l.length ≤ 1048576) : Ev (fun k => laws_toIntS.f k l) l := by
  unfold laws_toIntS.f
  refine ev_pos (by omega) (ev_pos (by simp; omega) ?_)
  have := ev_put (fun k ys i => laws_toIntS.l0 k l ys i) l (fun _ x => x) 0 l
    (by
      rw [mapIdx_const l (fun x => x), List.map_id']
      exact Ev.step (f := fun _ => some l) (fun k => by simp [laws_toIntS.l0]) (Ev.now _))
    (fun i hi ys hy ih => by
      refine Ev.step (fun k => by rw [laws_toIntS.l0]) ?_
      refine ev_pos (by omega) (ev_pos (by omega) (ev_pos (by omega) ?_))
      rw [w64_succ (by omega)]
      simp only [rd, Int.toNat_natCast, getD_of_lt hi]
      exact ih)
  simpa using this
theorem laws_toAtom_ev (l : List Int) (c : Int) (s : Bool) (h : l.length ≤ 1048576) : Ev (fun k => laws_toAtom.f k l c s) (l, c, s) := by
  unfold laws_toAtom.f
  exact Ev.bind (laws_toIntS_ev l h) (Ev.now _)
theorem laws_eqIntS_ev (l : List Int) (h : l.length ≤ 1048576) : Ev (fun k => laws_eqIntS.f k l l) true := by
  unfold laws_eqIntS.f
  refine ev_pos rfl ?_
  have := ev_all (fun k i => laws_eqIntS.l0 k l l i) l (fun _ => true) true false
    (Ev.step (f := fun _ => some true) (fun k => by simp [laws_eqIntS.l0]) (Ev.now _))
    (fun i hi r _ ih => by
      refine Ev.step (fun k => by rw [laws_eqIntS.l0]) ?_
      refine ev_pos (by omega) (ev_pos (by omega) (ev_pos (by omega) (ev_pos rfl ?_)))
      rw [w64_succ (by omega)]
      exact ih)
    (fun i hi h' => by simp at h')
  simpa using this
theorem laws_eqAtom_ev (l : List Int) (c : Int) (s : Bool) (h : l.length ≤ 1048576) : Ev (fun k => laws_eqAtom.f k l c s l c s) true := by
  unfold laws_eqAtom.f
  refine Ev.bind (laws_eqIntS_ev l h) (ev_pos rfl (ev_pos rfl ?_))
  exact ev_neg (by simp) (Ev.now _)
theorem spec_l2Gcd_l1_ev (x0 : List Int) (i : Nat) (hi : i < 4611686018427387904) (r : Int) (g a : Int) (hg : 0 ≤ g) (ha : 0 ≤ a) (h : Ev (fun k => spec_l2Gcd.l0 k x0 (eu g a) ((i + 1 : Nat) : Int)) r) : Ev (fun k => spec_l2Gcd.l1 k x0 g (i : Nat) a) r := by
  fun_induction eu g a with
  | case1 g => exact Ev.step (fun k => by rw [spec_l2Gcd.l1, if_pos rfl, w64_succ (by omega)]) h
  | case2 g a hz ih => exact Ev.step (fun k => by rw [spec_l2Gcd.l1, if_neg hz]) (ih ha (Int.tmod_nonneg _ hg) h)
theorem spec_l2Gcd_ev (l : List Int) (c : Int) (hl : l.length ≤ 1048576) (hb : ∀ x ∈ l, -9223372036854775807 ≤ x ∧ x ≤ 9223372036854775807) (hc : -9223372036854775807 ≤ c ∧ c ≤ 9223372036854775807) : Ev (fun k => spec_l2Gcd.f k l c) ((Nat.gcd (gcdL l) c.natAbs : Nat) : Int) := by
  unfold spec_l2Gcd.f
  rw [spec_l1Abs_eq c hc.1 hc.2]
  simp only [Option.bind_some]
  have := ev_fold (fun k (g : Nat) i => spec_l2Gcd.l0 k l (g : Int) i) l (fun g x => Nat.gcd g x.natAbs) (fun g => (g : Int)) (fun _ => True)
    (fun g _ => Ev.step (f := fun _ => some (g : Int)) (fun k => by simp [spec_l2Gcd.l0]) (Ev.now _))
    (fun i hi g r _ => ⟨trivial, fun ih => by
      have hx := hb l[i] (List.getElem_mem hi)
      refine Ev.step (fun k => by rw [spec_l2Gcd.l0]) ?_
      refine ev_pos (by omega) (ev_pos (by omega) ?_)
      simp only [rd, Int.toNat_natCast, getD_of_lt hi]
      rw [spec_l1Abs_eq _ hx.1 hx.2]
      simp only [Option.bind_some]
      refine spec_l2Gcd_l1_ev l i (by omega) r _ _ (by omega) (by omega) ?_
      have e : eu (g : Int) (l[i].natAbs : Int) = ((Nat.gcd g l[i].natAbs : Nat) : Int) := by
        have h1 := eu_gcd (g : Int) (l[i].natAbs : Int)
        have h2 := eu_nonneg (g : Int) (l[i].natAbs : Int) (by omega) (by omega)
        simp only [Int.gcd, Int.natAbs_natCast] at h1
        omega
      rw [e]; exact ih⟩) c.natAbs trivial
  refine ev_eqr this ?_
  have e := gcdF_eq l c.natAbs
  unfold gcdF at e
  rw [e, Nat.gcd_comm]
theorem isNum_bd {x : Int} (h : isNum x = true) : -9223372036854775807 ≤ x ∧ x ≤ 9223372036854775807 := by rw [isNum_iff] at h; omega
theorem spec_IsAtom_l0_ev (l : List Int) (c : Int) (s : Bool) (hl : l.length ≤ 1048576) (hc : isNum c = true) : Ev (fun k => spec_IsAtom.l0 k 0 l c s) (if l.all isNum then decide (Nat.gcd (gcdL l) c.natAbs ≤ 1) else false) := by
  have := ev_allq (fun k i => spec_IsAtom.l0 k i l c s) l isNum (decide (Nat.gcd (gcdL l) c.natAbs ≤ 1)) false
    (fun hall => by
      refine Ev.step (fun k => by rw [spec_IsAtom.l0, if_neg (by omega)]) ?_
      refine Ev.bind (spec_l2Gcd_ev l c hl (fun x hx => isNum_bd (List.all_eq_true.1 hall x hx)) (isNum_bd hc)) (ev_some ?_)
      rw [Bool.eq_iff_iff]; simp; omega)
    (fun i hi r hp ih => by
      refine Ev.step (fun k => by rw [spec_IsAtom.l0]) ?_
      refine ev_pos (by omega) (ev_pos (by omega) ?_)
      simp only [rd, Int.toNat_natCast, getD_of_lt hi]
      rw [spec_IsNumber_eq, w64_succ (by omega)]
      simp only [Option.bind_some]
      exact ev_pos hp ih)
    (fun i hi hp => by
      refine Ev.step (fun k => by rw [spec_IsAtom.l0]) ?_
      refine ev_pos (by omega) (ev_pos (by omega) ?_)
      simp only [rd, Int.toNat_natCast, getD_of_lt hi]
      rw [spec_IsNumber_eq]
      simp only [Option.bind_some]
      exact ev_neg (by simp [hp]) (Ev.now _))
  simpa using this
theorem spec_IsAtom_ev (l : List Int) (c : Int) (s : Bool) (hl : l.length ≤ 1048576) : Ev (fun k => spec_IsAtom.f k l c s) (isAt l c) := by
  unfold spec_IsAtom.f
  refine ev_ite (fun h => ?_) (fun h => ?_)
  · refine ev_eqr (Ev.step (f := fun _ => some false) (fun k => by simp [spec_IsAtom.j0]) (Ev.now _)) ?_
    simp only [isAt, show ¬ l.length ≤ 4 by omega, decide_false, Bool.false_and]
  · rw [spec_IsNumber_eq]
    simp only [Option.bind_some]
    cases hc : isNum c with
    | false =>
      refine ev_eqr (Ev.step (f := fun _ => some false) (fun k => by simp [spec_IsAtom.j0]) (Ev.now _)) ?_
      simp [isAt, hc]
    | true =>
      refine Ev.step (f := fun k => spec_IsAtom.l0 k 0 l c s) (fun k => by simp [spec_IsAtom.j0]) ?_
      refine ev_eqr (spec_IsAtom_l0_ev l c s hl hc) ?_
      cases hall : l.all isNum <;> simp [isAt, hc, hall, show l.length ≤ 4 by omega]
theorem impl_divisorOf_ev (l : List Int) (hl : l.length ≤ 1048576) (hb : ∀ x ∈ l, -9223372036854775807 ≤ x ∧ x ≤ 9223372036854775807) : Ev (fun k => impl_divisorOf.f k l) (gcdL l : Int) := by
  unfold impl_divisorOf.f
  have := ev_fold (fun k (g : Nat) i => impl_divisorOf.l0 k (g : Int) l (l.length : Int) i) l (fun g x => Nat.gcd g x.natAbs) (fun g => (g : Int)) (fun g => g ≤ 9223372036854775807)
    (fun g _ => Ev.step (f := fun _ => some (g : Int)) (fun k => by simp [impl_divisorOf.l0]) (Ev.now _))
    (fun i hi g r hg => by
      have hx := hb l[i] (List.getElem_mem hi)
      refine ⟨gcd_le_max _ _ _ hg (by omega), fun ih => ?_⟩
      refine Ev.step (fun k => by rw [impl_divisorOf.l0]) ?_
      refine ev_pos (by omega) (ev_pos (by omega) (ev_pos (by omega) ?_))
      simp only [rd, Int.toNat_natCast, getD_of_lt hi]
      refine Ev.bind (impl_commonDivisor_ev _ _ (by omega) hx) ?_
      rw [w64_succ (by omega)]
      have e : ((Int.gcd (g : Int) l[i] : Nat) : Int) = ((Nat.gcd g l[i].natAbs : Nat) : Int) := by simp [Int.gcd]
      rw [e]; exact ih) 0 (by omega)
  exact this
theorem isNum_bd' {x : Int} (h : isNum x = true) : -9223372036854775807 ≤ x ∧ x ≤ 9223372036854775807 := by rw [isNum_iff] at h; omega
theorem impl_IsAtom_l0_ev (l : List Int) (c : Int) (s : Bool) (hl : l.length ≤ 1048576) (hc : isNum c = true) : Ev (fun k => impl_IsAtom.l0 k l (l.length : Int) 0 l c s) (if l.all isNum then decide (Nat.gcd (gcdL l) c.natAbs ≤ 1) else false) := by
  have := ev_allq (fun k i => impl_IsAtom.l0 k l (l.length : Int) i l c s) l isNum (decide (Nat.gcd (gcdL l) c.natAbs ≤ 1)) false
    (fun hall => by
      have hb := fun x hx => isNum_bd' (List.all_eq_true.1 hall x hx)
      have hg : gcdL l ≤ 9223372036854775807 := gcdL_le l _ (fun x hx => by have := hb x hx; omega)
      refine Ev.step (fun k => by rw [impl_IsAtom.l0, if_neg (by omega)]) ?_
      refine Ev.bind (impl_divisorOf_ev l hl hb) (Ev.bind (impl_commonDivisor_ev _ c (by omega) (isNum_bd' hc)) (ev_some ?_))
      have e : ((Int.gcd (gcdL l : Int) c : Nat) : Int) = ((Nat.gcd (gcdL l) c.natAbs : Nat) : Int) := by simp [Int.gcd]
      rw [e, Bool.eq_iff_iff]; simp; omega)
    (fun i hi r hp ih => by
      refine Ev.step (fun k => by rw [impl_IsAtom.l0]) ?_
      refine ev_pos (by omega) (ev_pos (by omega) (ev_pos (by omega) ?_))
      simp only [rd, Int.toNat_natCast, getD_of_lt hi]
      rw [impl_IsNumber_eq, w64_succ (by omega)]
      simp only [Option.bind_some]
      exact ev_pos hp ih)
    (fun i hi hp => by
      refine Ev.step (fun k => by rw [impl_IsAtom.l0]) ?_
      refine ev_pos (by omega) (ev_pos (by omega) (ev_pos (by omega) ?_))
      simp only [rd, Int.toNat_natCast, getD_of_lt hi]
      rw [impl_IsNumber_eq]
      simp only [Option.bind_some]
      exact ev_neg (by simp [hp]) (Ev.now _))
  simpa using this
theorem impl_IsAtom_ev (l : List Int) (c : Int) (s : Bool) (hl : l.length ≤ 1048576) : Ev (fun k => impl_IsAtom.f k l c s) (isAt l c) := by
  unfold impl_IsAtom.f
  refine ev_ite (fun h => ?_) (fun h => ?_)
  · refine ev_eqr (Ev.step (f := fun _ => some false) (fun k => by simp [impl_IsAtom.j0]) (Ev.now _)) ?_
    simp only [isAt, show ¬ l.length ≤ 4 by omega, decide_false, Bool.false_and]
  · rw [impl_IsNumber_eq]
    simp only [Option.bind_some]
    cases hc : isNum c with
    | false =>
      refine ev_eqr (Ev.step (f := fun _ => some false) (fun k => by simp [impl_IsAtom.j0]) (Ev.now _)) ?_
      simp [isAt, hc]
    | true =>
      refine Ev.step (f := fun k => impl_IsAtom.l0 k l (l.length : Int) 0 l c s) (fun k => by simp [impl_IsAtom.j0]) ?_
      refine ev_eqr (impl_IsAtom_l0_ev l c s hl hc) ?_
      cases hall : l.all isNum <;> simp [isAt, hc, hall, show l.length ≤ 4 by omega]
def wA (x : S24) : Nat := x.f0.length
def wAs (l : List S24) : Nat := l.length + sumL (l.map wA)
def atOf (x : S27) : At := (x.f0, x.f1, x.f2)
def atsOf (l : List S27) : List At := l.map atOf
def smallA (l : List S27) : Prop := l.length ≤ 1048576 ∧ ∀ x ∈ l, x.f0.length ≤ 1048576
theorem atsOf_length (l : List S27) : (atsOf l).length = l.length := by simp [atsOf]
theorem laws_szAtomS_l0_ev (l : List S24) (hl : l.length ≤ 1048576) (hx : ∀ x ∈ l, x.f0.length ≤ maxLen) : ∀ i, i ≤ l.length → ∀ a : Int, 0 ≤ a → a ≤ 1048576 → Ev (fun k => laws_szAtomS.l0 k l a (i : Nat)) (lft a (sumL ((l.drop i).map wA))) := by
  refine down l.length ?_ ?_
  · intro a h0 h1
    refine ev_eqr (Ev.step (f := fun _ => some a) (fun k => by simp [laws_szAtomS.l0]) (Ev.now _)) ?_
    rw [List.drop_length]; simp [sumL, lft]; omega
  · intro i hi ih a h0 h1
    refine Ev.step (fun k => by rw [laws_szAtomS.l0]) ?_
    refine ev_pos (by omega) (ev_pos (by omega) ?_)
    simp only [rd_T24, Int.toNat_natCast, getD_of_lt hi]
    rw [laws_szAtom_eq _ _ _ _ (hx _ (List.getElem_mem hi)) ⟨h0, h1⟩]
    simp only [Option.bind_some]
    have e : sumL ((l.drop i).map wA) = l[i].f0.length + sumL ((l.drop (i + 1)).map wA) := by rw [drop_cons hi]; rfl
    rw [e]
    refine ev_ite (fun h => ev_some ?_) (fun h => ?_)
    · unfold lft at h ⊢; split at h <;> split <;> omega
    · have h2 := lft_nn h
      rw [w64_succ (by omega)]
      refine ev_eqr (ih _ (by omega) (by omega)) ?_
      rw [h2.2]; unfold lft; split <;> split <;> omega
theorem laws_szAtomS_ev (l : List S24) (a : Int) (hl : l.length ≤ maxLen) (hx : ∀ x ∈ l, x.f0.length ≤ maxLen) (h0 : 0 ≤ a) (h1 : a ≤ 1048576) : Ev (fun k => laws_szAtomS.f k l a) (lft a (wAs l)) := by
  unfold laws_szAtomS.f wAs
  unfold maxLen at hl
  rw [w64 (by omega) (by omega)]
  refine ev_ite (fun h => ev_some ?_) (fun h => ?_)
  · unfold lft; rw [if_pos (by omega)]
  · refine ev_eqr (laws_szAtomS_l0_ev l (by omega) hx 0 (by omega) (a - l.length) (by omega) (by omega)) ?_
    simp only [List.drop_zero]
    unfold lft; split <;> split <;> omega
theorem laws_szCell_ev (d : Int) (l : List S24) (a : Int) (hl : l.length ≤ maxLen) (hx : ∀ x ∈ l, x.f0.length ≤ maxLen) (h0 : 0 ≤ a) (h1 : a ≤ 1048576) : Ev (fun k => laws_szCell.f k d l a) (lft a (wAs l)) := by
  unfold laws_szCell.f
  refine Ev.bind (laws_szAtomS_ev l a hl hx h0 h1) (ev_ite (fun h => ev_some ?_) (fun h => Ev.now _))
  unfold lft at h ⊢; split at h <;> split <;> omega
def cvA (x : S24) : S27 := ⟨x.f0, x.f1, x.f2⟩
theorem cvA_small {l : List S24} (h : wAs l ≤ 1048576) : smallA (l.map cvA) := by
  unfold wAs at h
  refine ⟨by simp; omega, fun x hx => ?_⟩
  obtain ⟨y, hy, rfl⟩ := List.mem_map.1 hx
  have := sumL_mem (List.mem_map.2 ⟨y, hy, rfl⟩ : wA y ∈ l.map wA)
  show wA y ≤ _
  omega
theorem laws_toAtomS_ev (l : List S24) (h : wAs l ≤ 1048576) : Ev (fun k => laws_toAtomS.f k l) (l.map cvA) := by
  have hs := cvA_small h
  have hl : l.length ≤ 1048576 := by simpa using hs.1
  unfold laws_toAtomS.f
  refine ev_pos (by omega) (ev_pos (by simp; omega) ?_)
  have := ev_put (fun k ys i => laws_toAtomS.l0 k l ys i) l (fun _ x => cvA x) z27 (l.map cvA)
    (by
      rw [mapIdx_const l cvA]
      exact Ev.step (f := fun _ => some (l.map cvA)) (fun k => by simp [laws_toAtomS.l0]) (Ev.now _))
    (fun i hi ys hy ih => by
      refine Ev.step (fun k => by rw [laws_toAtomS.l0]) ?_
      refine ev_pos (by omega) (ev_pos (by omega) ?_)
      simp only [rd_T24, Int.toNat_natCast, getD_of_lt hi]
      refine Ev.bind (laws_toAtom_ev _ _ _ (hs.2 (cvA l[i]) (List.mem_map.2 ⟨_, List.getElem_mem hi, rfl⟩))) ?_
      refine ev_pos (by omega) ?_
      rw [w64_succ (by omega)]
      exact ih)
  simpa using this
theorem laws_toCell_ev (d : Int) (l : List S24) (h : wAs l ≤ 1048576) : Ev (fun k => laws_toCell.f k d l) (d, l.map cvA) := by
  unfold laws_toCell.f
  exact Ev.bind (laws_toAtomS_ev l h) (Ev.now _)
theorem laws_eqAtomS_ev (l : List S27) (h : smallA l) : Ev (fun k => laws_eqAtomS.f k l l) true := by
  unfold laws_eqAtomS.f
  have hl := h.1
  refine ev_pos rfl ?_
  have := ev_all (fun k i => laws_eqAtomS.l0 k l l i) l (fun _ => true) true false
    (Ev.step (f := fun _ => some true) (fun k => by simp [laws_eqAtomS.l0]) (Ev.now _))
    (fun i hi r _ ih => by
      refine Ev.step (fun k => by rw [laws_eqAtomS.l0]) ?_
      refine ev_pos (by omega) (ev_pos (by omega) (ev_pos (by omega) ?_))
      simp only [rd_T27, Int.toNat_natCast, getD_of_lt hi]
      refine Ev.bind (laws_eqAtom_ev _ _ _ (h.2 _ (List.getElem_mem hi))) (ev_pos rfl ?_)
      rw [w64_succ (by omega)]
      exact ih)
    (fun i hi h' => by simp at h')
  simpa using this
theorem laws_eqCell_ev (d : Int) (l : List S27) (h : smallA l) : Ev (fun k => laws_eqCell.f k d l d l) true := by
  unfold laws_eqCell.f
  exact ev_pos rfl (Ev.bind (laws_eqAtomS_ev l h) (ev_pos rfl (Ev.now _)))
theorem spec_IsCell_ev (d : Int) (l : List S27) (h : smallA l) : Ev (fun k => spec_IsCell.f k d l) (isCe d (atsOf l)) := by
  have hl := h.1
  unfold spec_IsCell.f
  have := ev_allq (fun k i => spec_IsCell.l0 k i d l) l (fun x => isAt x.f0 x.f1 && decide ((x.f0.length : Int) = d)) ((decide (0 ≤ d) && decide (d ≤ 4)) && decide (l.length ≤ 16)) false
    (fun _ => by
      refine Ev.step (fun k => by rw [spec_IsCell.l0, if_neg (by omega)]) ?_
      rw [spec_l1In_eq]
      simp only [Option.bind_some]
      refine ev_ite (fun h' => ev_some ?_) (fun h' => ev_some ?_)
      · rw [h', Bool.eq_iff_iff]; simp; omega
      · rw [Bool.not_eq_true] at h'; rw [h']; rfl)
    (fun i hi r hp ih => by
      simp only [Bool.and_eq_true, decide_eq_true_eq] at hp
      refine Ev.step (fun k => by rw [spec_IsCell.l0]) ?_
      refine ev_pos (by omega) (ev_pos (by omega) ?_)
      simp only [rd_T27, Int.toNat_natCast, getD_of_lt hi]
      refine Ev.bind (spec_IsAtom_ev _ _ _ (h.2 _ (List.getElem_mem hi))) (ev_pos hp.1 (ev_pos hp.2 ?_))
      rw [w64_succ (by omega)]
      exact ih)
    (fun i hi hp => by
      refine Ev.step (fun k => by rw [spec_IsCell.l0]) ?_
      refine ev_pos (by omega) (ev_pos (by omega) ?_)
      simp only [rd_T27, Int.toNat_natCast, getD_of_lt hi]
      refine Ev.bind (spec_IsAtom_ev _ _ _ (h.2 _ (List.getElem_mem hi))) (ev_ite (fun h1 => ev_neg ?_ (Ev.now _)) (fun _ => Ev.now _))
      intro h2
      simp [h1, h2] at hp)
  refine ev_eqr this ?_
  have e : (l.all fun x => isAt x.f0 x.f1 && decide ((x.f0.length : Int) = d)) = (atsOf l).all fun a => isAt a.1 a.2.1 && decide ((a.1.length : Int) = d) := by
    unfold atsOf; rw [List.all_map]; rfl
  unfold isCe
  rw [← e, atsOf_length]
  cases l.all fun x => isAt x.f0 x.f1 && decide ((x.f0.length : Int) = d) <;> simp
theorem impl_IsCell_ev (d : Int) (l : List S27) (h : smallA l) : Ev (fun k => impl_IsCell.f k d l) (isCe d (atsOf l)) := by
  have hl := h.1
  have e : (l.all fun x => isAt x.f0 x.f1 && decide ((x.f0.length : Int) = d)) = (atsOf l).all fun a => isAt a.1 a.2.1 && decide ((a.1.length : Int) = d) := by
    unfold atsOf; rw [List.all_map]; rfl
  unfold impl_IsCell.f
  have no : ∀ k, impl_IsCell.j0 (k + 1) true d l = some false := fun k => by simp [impl_IsCell.j0]
  refine ev_ite (fun h1 => ?_) (fun h1 => ev_ite (fun h2 => ?_) (fun h2 => ?_))
  · refine ev_eqr (Ev.step (f := fun _ => some false) no (Ev.now _)) ?_
    unfold isCe; rw [decide_eq_false (show ¬ 0 ≤ d by omega)]; rfl
  · refine ev_eqr (Ev.step (f := fun _ => some false) no (Ev.now _)) ?_
    unfold isCe; rw [decide_eq_false (show ¬ d ≤ 4 by omega)]; simp
  · by_cases h3 : (l.length : Int) > 16
    · rw [decide_eq_true h3]
      refine ev_eqr (Ev.step (f := fun _ => some false) no (Ev.now _)) ?_
      unfold isCe; rw [atsOf_length, decide_eq_false (show ¬ l.length ≤ 16 by omega)]; simp
    · rw [decide_eq_false h3]
      refine Ev.step (f := fun k => impl_IsCell.l0 k l (l.length : Int) 0 d l) (fun k => by simp [impl_IsCell.j0]) ?_
      have := ev_allq (fun k i => impl_IsCell.l0 k l (l.length : Int) i d l) l (fun x => isAt x.f0 x.f1 && decide ((x.f0.length : Int) = d)) true false
        (fun _ => Ev.step (f := fun _ => some true) (fun k => by simp [impl_IsCell.l0]) (Ev.now _))
        (fun i hi r hp ih => by
          simp only [Bool.and_eq_true, decide_eq_true_eq] at hp
          refine Ev.step (fun k => by rw [impl_IsCell.l0]) ?_
          refine ev_pos (by omega) (ev_pos (by omega) (ev_pos (by omega) ?_))
          simp only [rd_T27, Int.toNat_natCast, getD_of_lt hi]
          refine Ev.bind (impl_IsAtom_ev _ _ _ (h.2 _ (List.getElem_mem hi))) (ev_pos hp.1 (ev_pos hp.2 ?_))
          rw [w64_succ (by omega)]
          exact ih)
        (fun i hi hp => by
          refine Ev.step (fun k => by rw [impl_IsCell.l0]) ?_
          refine ev_pos (by omega) (ev_pos (by omega) (ev_pos (by omega) ?_))
          simp only [rd_T27, Int.toNat_natCast, getD_of_lt hi]
          refine Ev.bind (impl_IsAtom_ev _ _ _ (h.2 _ (List.getElem_mem hi))) (ev_ite (fun h1 => ev_neg ?_ (Ev.now _)) (fun _ => Ev.now _))
          intro h2
          simp [h1, h2] at hp)
      refine ev_eqr this ?_
      unfold isCe
      rw [← e, atsOf_length, decide_eq_true (show 0 ≤ d by omega), decide_eq_true (show d ≤ 4 by omega), decide_eq_true (show l.length ≤ 16 by omega)]
      cases l.all fun x => isAt x.f0 x.f1 && decide ((x.f0.length : Int) = d) <;> rfl
def wC (x : S36) : Nat := wAs x.f1
def wCs (l : List S36) : Nat := l.length + sumL (l.map wC)
def ceOf (x : S41) : Ce := (x.f0, atsOf x.f1)
def cesOf (l : List S41) : List Ce := l.map ceOf
def smallC (l : List S41) : Prop := l.length ≤ 1048576 ∧ ∀ x ∈ l, smallA x.f1
theorem cesOf_length (l : List S41) : (cesOf l).length = l.length := by simp [cesOf]
theorem laws_szCellS_l0_ev (l : List S36) (hl : l.length ≤ 1048576) (hx : ∀ x ∈ l, x.f1.length ≤ maxLen ∧ ∀ y ∈ x.f1, y.f0.length ≤ maxLen) : ∀ i, i ≤ l.length → ∀ a : Int, 0 ≤ a → a ≤ 1048576 → Ev (fun k => laws_szCellS.l0 k l a (i : Nat)) (lft a (sumL ((l.drop i).map wC))) := by
  refine down l.length ?_ ?_
  · intro a h0 h1
    refine ev_eqr (Ev.step (f := fun _ => some a) (fun k => by simp [laws_szCellS.l0]) (Ev.now _)) ?_
    rw [List.drop_length]; simp [sumL, lft]; omega
  · intro i hi ih a h0 h1
    refine Ev.step (fun k => by rw [laws_szCellS.l0]) ?_
    refine ev_pos (by omega) (ev_pos (by omega) ?_)
    simp only [rd_T36, Int.toNat_natCast, getD_of_lt hi]
    refine Ev.bind (laws_szCell_ev _ _ _ (hx _ (List.getElem_mem hi)).1 (hx _ (List.getElem_mem hi)).2 h0 h1) ?_
    have e : sumL ((l.drop i).map wC) = wAs l[i].f1 + sumL ((l.drop (i + 1)).map wC) := by rw [drop_cons hi]; rfl
    rw [e]
    refine ev_ite (fun h => ev_some ?_) (fun h => ?_)
    · unfold lft at h ⊢; split at h <;> split <;> omega
    · have h2 := lft_nn h
      rw [w64_succ (by omega)]
      refine ev_eqr (ih _ (by omega) (by omega)) ?_
      rw [h2.2]; unfold lft; split <;> split <;> omega
theorem laws_szCellS_ev (l : List S36) (a : Int) (hl : l.length ≤ maxLen) (hx : ∀ x ∈ l, x.f1.length ≤ maxLen ∧ ∀ y ∈ x.f1, y.f0.length ≤ maxLen) (h0 : 0 ≤ a) (h1 : a ≤ 1048576) : Ev (fun k => laws_szCellS.f k l a) (lft a (wCs l)) := by
  unfold laws_szCellS.f wCs
  unfold maxLen at hl
  rw [w64 (by omega) (by omega)]
  refine ev_ite (fun h => ev_some ?_) (fun h => ?_)
  · unfold lft; rw [if_pos (by omega)]
  · refine ev_eqr (laws_szCellS_l0_ev l (by omega) hx 0 (by omega) (a - l.length) (by omega) (by omega)) ?_
    simp only [List.drop_zero]
    unfold lft; split <;> split <;> omega
theorem laws_szRegion_ev (d : Int) (l : List S36) (a : Int) (hl : l.length ≤ maxLen) (hx : ∀ x ∈ l, x.f1.length ≤ maxLen ∧ ∀ y ∈ x.f1, y.f0.length ≤ maxLen) (h0 : 0 ≤ a) (h1 : a ≤ 1048576) : Ev (fun k => laws_szRegion.f k d l a) (lft a (wCs l)) := by
  unfold laws_szRegion.f
  refine Ev.bind (laws_szCellS_ev l a hl hx h0 h1) (ev_ite (fun h => ev_some ?_) (fun h => Ev.now _))
  unfold lft at h ⊢; split at h <;> split <;> omega
def cvC (x : S36) : S41 := ⟨x.f0, x.f1.map cvA⟩
theorem wC_le {l : List S36} (h : wCs l ≤ 1048576) : l.length ≤ 1048576 ∧ ∀ x ∈ l, wAs x.f1 ≤ 1048576 := by
  unfold wCs at h
  refine ⟨by omega, fun x hx => ?_⟩
  have h2 : wC x ≤ sumL (l.map wC) := sumL_mem (List.mem_map.2 ⟨x, hx, rfl⟩)
  have h3 : wC x = wAs x.f1 := rfl
  omega
theorem cvC_small {l : List S36} (h : wCs l ≤ 1048576) : smallC (l.map cvC) := by
  obtain ⟨h1, h2⟩ := wC_le h
  refine ⟨by simpa using h1, fun x hx => ?_⟩
  obtain ⟨y, hy, rfl⟩ := List.mem_map.1 hx
  exact cvA_small (h2 y hy)
theorem laws_toCellS_ev (l : List S36) (h : wCs l ≤ 1048576) : Ev (fun k => laws_toCellS.f k l) (l.map cvC) := by
  obtain ⟨hl, hx⟩ := wC_le h
  unfold laws_toCellS.f
  refine ev_pos (by omega) (ev_pos (by simp; omega) ?_)
  have := ev_put (fun k ys i => laws_toCellS.l0 k l ys i) l (fun _ x => cvC x) z41 (l.map cvC)
    (by
      rw [mapIdx_const l cvC]
      exact Ev.step (f := fun _ => some (l.map cvC)) (fun k => by simp [laws_toCellS.l0]) (Ev.now _))
    (fun i hi ys hy ih => by
      refine Ev.step (fun k => by rw [laws_toCellS.l0]) ?_
      refine ev_pos (by omega) (ev_pos (by omega) ?_)
      simp only [rd_T36, Int.toNat_natCast, getD_of_lt hi]
      refine Ev.bind (laws_toCell_ev _ _ (hx _ (List.getElem_mem hi))) ?_
      refine ev_pos (by omega) ?_
      rw [w64_succ (by omega)]
      exact ih)
  simpa using this
theorem laws_toRegion_ev (d : Int) (l : List S36) (h : wCs l ≤ 1048576) : Ev (fun k => laws_toRegion.f k d l) (d, l.map cvC) := by
  unfold laws_toRegion.f
  exact Ev.bind (laws_toCellS_ev l h) (Ev.now _)
theorem laws_eqCellS_ev (l : List S41) (h : smallC l) : Ev (fun k => laws_eqCellS.f k l l) true := by
  unfold laws_eqCellS.f
  have hl := h.1
  refine ev_pos rfl ?_
  have := ev_all (fun k i => laws_eqCellS.l0 k l l i) l (fun _ => true) true false
    (Ev.step (f := fun _ => some true) (fun k => by simp [laws_eqCellS.l0]) (Ev.now _))
    (fun i hi r _ ih => by
      refine Ev.step (fun k => by rw [laws_eqCellS.l0]) ?_
      refine ev_pos (by omega) (ev_pos (by omega) (ev_pos (by omega) ?_))
      simp only [rd_T41, Int.toNat_natCast, getD_of_lt hi]
      refine Ev.bind (laws_eqCell_ev _ _ (h.2 _ (List.getElem_mem hi))) (ev_pos rfl ?_)
      rw [w64_succ (by omega)]
      exact ih)
    (fun i hi h' => by simp at h')
  simpa using this
theorem laws_eqRegion_ev (d : Int) (l : List S41) (h : smallC l) : Ev (fun k => laws_eqRegion.f k d l d l) true := by
  unfold laws_eqRegion.f
  exact ev_pos rfl (Ev.bind (laws_eqCellS_ev l h) (ev_pos rfl (Ev.now _)))
theorem spec_IsRegion_ev (d : Int) (l : List S41) (h : smallC l) : Ev (fun k => spec_IsRegion.f k d l) (isRe d (cesOf l)) := by
  have hl := h.1
  unfold spec_IsRegion.f
  have := ev_allq (fun k i => spec_IsRegion.l0 k i d l) l (fun x => isCe x.f0 (atsOf x.f1) && decide (x.f0 = d)) ((decide (0 ≤ d) && decide (d ≤ 4)) && decide (l.length ≤ 12)) false
    (fun _ => by
      refine Ev.step (fun k => by rw [spec_IsRegion.l0, if_neg (by omega)]) ?_
      rw [spec_l1In_eq]
      simp only [Option.bind_some]
      refine ev_ite (fun h' => ev_some ?_) (fun h' => ev_some ?_)
      · rw [h', Bool.eq_iff_iff]; simp; omega
      · rw [Bool.not_eq_true] at h'; rw [h']; rfl)
    (fun i hi r hp ih => by
      simp only [Bool.and_eq_true, decide_eq_true_eq] at hp
      refine Ev.step (fun k => by rw [spec_IsRegion.l0]) ?_
      refine ev_pos (by omega) (ev_pos (by omega) ?_)
      simp only [rd_T41, Int.toNat_natCast, getD_of_lt hi]
      refine Ev.bind (spec_IsCell_ev _ _ (h.2 _ (List.getElem_mem hi))) (ev_pos hp.1 (ev_pos hp.2 ?_))
      rw [w64_succ (by omega)]
      exact ih)
    (fun i hi hp => by
      refine Ev.step (fun k => by rw [spec_IsRegion.l0]) ?_
      refine ev_pos (by omega) (ev_pos (by omega) ?_)
      simp only [rd_T41, Int.toNat_natCast, getD_of_lt hi]
      refine Ev.bind (spec_IsCell_ev _ _ (h.2 _ (List.getElem_mem hi))) (ev_ite (fun h1 => ev_neg ?_ (Ev.now _)) (fun _ => Ev.now _))
      intro h2
      rw [h1, decide_eq_true h2] at hp
      cases hp)
  refine ev_eqr this ?_
  have e : (l.all fun x => isCe x.f0 (atsOf x.f1) && decide (x.f0 = d)) = (cesOf l).all fun c => isCe c.1 c.2 && decide (c.1 = d) := by
    unfold cesOf; rw [List.all_map]; rfl
  unfold isRe
  rw [← e, cesOf_length]
  cases l.all fun x => isCe x.f0 (atsOf x.f1) && decide (x.f0 = d) <;> simp
theorem impl_IsRegion_ev (d : Int) (l : List S41) (h : smallC l) : Ev (fun k => impl_IsRegion.f k d l) (isRe d (cesOf l)) := by
  have hl := h.1
  have e : (l.all fun x => isCe x.f0 (atsOf x.f1) && decide (x.f0 = d)) = (cesOf l).all fun c => isCe c.1 c.2 && decide (c.1 = d) := by
    unfold cesOf; rw [List.all_map]; rfl
  unfold impl_IsRegion.f
  have no : ∀ k, impl_IsRegion.j0 (k + 1) true d l = some false := fun k => by simp [impl_IsRegion.j0]
  refine ev_ite (fun h1 => ?_) (fun h1 => ev_ite (fun h2 => ?_) (fun h2 => ?_))
  · refine ev_eqr (Ev.step (f := fun _ => some false) no (Ev.now _)) ?_
    unfold isRe; rw [decide_eq_false (show ¬ 0 ≤ d by omega)]; rfl
  · refine ev_eqr (Ev.step (f := fun _ => some false) no (Ev.now _)) ?_
    unfold isRe; rw [decide_eq_false (show ¬ d ≤ 4 by omega)]; simp
  · by_cases h3 : (l.length : Int) > 12
    · rw [decide_eq_true h3]
      refine ev_eqr (Ev.step (f := fun _ => some false) no (Ev.now _)) ?_
      unfold isRe; rw [cesOf_length, decide_eq_false (show ¬ l.length ≤ 12 by omega)]; simp
    · rw [decide_eq_false h3]
      refine Ev.step (f := fun k => impl_IsRegion.l0 k l (l.length : Int) 0 d l) (fun k => by simp [impl_IsRegion.j0]) ?_
      have := ev_allq (fun k i => impl_IsRegion.l0 k l (l.length : Int) i d l) l (fun x => isCe x.f0 (atsOf x.f1) && decide (x.f0 = d)) true false
        (fun _ => Ev.step (f := fun _ => some true) (fun k => by simp [impl_IsRegion.l0]) (Ev.now _))
        (fun i hi r hp ih => by
          simp only [Bool.and_eq_true, decide_eq_true_eq] at hp
          refine Ev.step (fun k => by rw [impl_IsRegion.l0]) ?_
          refine ev_pos (by omega) (ev_pos (by omega) (ev_pos (by omega) ?_))
          simp only [rd_T41, Int.toNat_natCast, getD_of_lt hi]
          refine Ev.bind (impl_IsCell_ev _ _ (h.2 _ (List.getElem_mem hi))) (ev_pos hp.1 (ev_pos hp.2 ?_))
          rw [w64_succ (by omega)]
          exact ih)
        (fun i hi hp => by
          refine Ev.step (fun k => by rw [impl_IsRegion.l0]) ?_
          refine ev_pos (by omega) (ev_pos (by omega) (ev_pos (by omega) ?_))
          simp only [rd_T41, Int.toNat_natCast, getD_of_lt hi]
          refine Ev.bind (impl_IsCell_ev _ _ (h.2 _ (List.getElem_mem hi))) (ev_ite (fun h1 => ev_neg ?_ (Ev.now _)) (fun _ => Ev.now _))
          intro h2
          rw [h1, decide_eq_true h2] at hp
          cases hp)
      refine ev_eqr this ?_
      unfold isRe
      rw [← e, cesOf_length, decide_eq_true (show 0 ≤ d by omega), decide_eq_true (show d ≤ 4 by omega), decide_eq_true (show l.length ≤ 12 by omega)]
      cases l.all fun x => isCe x.f0 (atsOf x.f1) && decide (x.f0 = d) <;> rfl
def digs (u : Nat) : List UInt8 := if h : u = 0 then [] else digs (u / 10) ++ [UInt8.ofNat (48 + u % 10)]
termination_by u
decreasing_by omega
theorem digs_zero : digs 0 = [] := by rw [digs, dif_pos rfl]
theorem digs_pos {u : Nat} (h : ¬ u = 0) : digs u = digs (u / 10) ++ [UInt8.ofNat (48 + u % 10)] := by rw [digs, dif_neg h]
def fmtL (n : Int) : List UInt8 := if n = 0 then [48] else if n < 0 then 45 :: digs n.natAbs else digs n.natAbs
/-- The bytes as a string. -/
def bs (l : List UInt8) : ByteArray := ⟨l.toArray⟩
theorem bs_size (l : List UInt8) : (bs l).size = l.length := by unfold bs; simp [ByteArray.size]
theorem bs_append (l m : List UInt8) : bs l ++ bs m = bs (l ++ m) := by
  unfold bs
  apply ByteArray.ext
  simp [ByteArray.data_append]
theorem dig_piece : ∀ d : Nat, d < 10 → (⟨#[48, 49, 50, 51, 52, 53, 54, 55, 56, 57]⟩ : ByteArray).extract d (d + 1) = bs [UInt8.ofNat (48 + d)]
  | 0, _ => rfl | 1, _ => rfl | 2, _ => rfl | 3, _ => rfl | 4, _ => rfl | 5, _ => rfl | 6, _ => rfl | 7, _ => rfl | 8, _ => rfl | 9, _ => rfl
  | n + 10, h => by omega
theorem dig_bd {d : Nat} (h : d < 10) : (0 : Int) ≤ (d : Int) ∧ (d : Int) ≤ ((d + 1 : Nat) : Int) ∧ ((d + 1 : Nat) : Int) ≤ 10 ∧ wrap64 ((d : Int) + 1) = ((d + 1 : Nat) : Int) := by
  refine ⟨by omega, by omega, by omega, ?_⟩
  rw [w64 (by omega) (by omega)]; omega
theorem decDigits_digs (u : Nat) (h : ¬ u = 0) : Lib.decDigits u = digs u := by
  induction u using Nat.strongRecOn with
  | _ u ih =>
    rw [digs_pos h]
    by_cases h1 : u < 10
    · rw [Lib.decDigits, dif_pos h1, show u / 10 = 0 by omega, digs_zero, show u % 10 = u by omega]; rfl
    · rw [Lib.decDigits, dif_neg h1, ih (u / 10) (by omega) (by omega)]
theorem itoa_fmtL (n : Int) : Lib.itoa n = fmtL n := by
  unfold Lib.itoa fmtL
  by_cases h : n = 0
  · subst h; rw [if_neg (by omega), if_pos rfl]
    show Lib.decDigits 0 = _
    rw [Lib.decDigits, dif_pos (by omega)]; rfl
  · rw [if_neg h]
    by_cases h1 : n < 0
    · rw [if_pos h1, if_pos h1, decDigits_digs _ (by omega)]
    · rw [if_neg h1, if_neg h1, show n.toNat = n.natAbs by omega, decDigits_digs _ (by omega)]
theorem digs_len (j : Nat) : ∀ u : Nat, u < 10 ^ j → (digs u).length ≤ j := by
  induction j with
  | zero => intro u h; have : u = 0 := by simpa using h
            subst this; simp [digs_zero]
  | succ j ih =>
    intro u h
    by_cases hz : u = 0
    · subst hz; simp [digs_zero]
    · rw [digs_pos hz, List.length_append]
      have := ih (u / 10) (by rw [Nat.pow_succ] at h; omega)
      simp; omega
theorem fmtL_len (n : Int) (h0 : -9223372036854775808 ≤ n) (h1 : n ≤ 9223372036854775807) : (fmtL n).length ≤ 21 := by
  have := digs_len 20 n.natAbs (by omega)
  unfold fmtL
  split
  · simp
  · split <;> simp <;> omega
def fmtRL (n d : Int) : List UInt8 := if isRat n d then (if d = 1 then fmtL n else fmtL n ++ 47 :: fmtL d) else [110, 111, 110, 101]
theorem bs_toList (l : List UInt8) : (bs l).toList = l := by rw [ByteArray.toList_eq]; unfold bs; simp
theorem bs_ne (l : List UInt8) : ((bs l).toList != ([] : List UInt8)) = decide (0 < l.length) := by rw [bs_toList]; cases l <;> simp
theorem bs_eq0 (l : List UInt8) : ((bs l).toList == ([] : List UInt8)) = decide (l.length = 0) := by rw [bs_toList]; cases l <;> simp
/-- An atom's text, piece by piece. -/
def nmL (i : Nat) : UInt8 := if i = 0 then 120 else if i = 1 then 121 else if i = 2 then 122 else 116
def plusL (acc : List UInt8) (n : Int) : List UInt8 := if 0 < n ∧ 0 < acc.length then acc ++ [43] else acc
def midL (n : Int) : List UInt8 := if n = -1 then [45] else if n = 1 then [] else fmtL n
def stepL (acc : List UInt8) (i : Nat) (n : Int) : List UInt8 := if n = 0 then acc else plusL acc n ++ midL n ++ [nmL i]
def goL : List Int → Nat → List UInt8 → List UInt8
  | [], _, acc => acc
  | n :: ns, i, acc => goL ns (i + 1) (stepL acc i n)
def endL (s : Bool) : List UInt8 := if s then [60, 48] else [60, 61, 48]
def finL (acc : List UInt8) (c : Int) (s : Bool) : List UInt8 := if c = 0 ∧ 0 < acc.length then acc ++ endL s else plusL acc c ++ fmtL c ++ endL s
def fmtAL (l : List Int) (c : Int) (s : Bool) : List UInt8 := if isAt l c then finL (goL l 0 []) c s else []
theorem plusL_len (acc : List UInt8) (n : Int) : (plusL acc n).length ≤ acc.length + 1 := by unfold plusL; split <;> simp
theorem fmtL_lenN {n : Int} (h : isNum n = true) : (fmtL n).length ≤ 21 := by
  have := isNum_iff.1 h
  exact fmtL_len n (by omega) (by omega)
theorem midL_len {n : Int} (h : isNum n = true) : (midL n).length ≤ 21 := by
  have := fmtL_lenN h
  unfold midL
  split
  · simp
  · split
    · simp
    · exact this
theorem stepL_len (acc : List UInt8) (i : Nat) {n : Int} (h : isNum n = true) : (stepL acc i n).length ≤ acc.length + 23 := by
  have h1 := midL_len h
  have h2 := plusL_len acc n
  unfold stepL
  split
  · omega
  · simp; omega
theorem goL_len : ∀ (ns : List Int) (i : Nat) (acc : List UInt8), (∀ x ∈ ns, isNum x = true) → (goL ns i acc).length ≤ acc.length + 23 * ns.length
  | [], _, acc, _ => by simp [goL]
  | n :: ns, i, acc, h => by
    have h1 := stepL_len acc i (h n (by simp))
    have h2 := goL_len ns (i + 1) (stepL acc i n) (fun x hx => h x (by simp [hx]))
    simp only [goL, List.length_cons]
    omega
theorem finL_len (acc : List UInt8) {c : Int} (s : Bool) (h : isNum c = true) : (finL acc c s).length ≤ acc.length + 25 := by
  have h1 := fmtL_lenN h
  have h2 := plusL_len acc c
  have h3 : (endL s).length ≤ 3 := by cases s <;> simp [endL]
  unfold finL
  split
  · simp; omega
  · simp; omega
theorem fmtAL_len (l : List Int) (c : Int) (s : Bool) : (fmtAL l c s).length ≤ 120 := by
  unfold fmtAL
  split
  · rename_i h
    obtain ⟨h4, hc, hx, _⟩ := isAt_iff.1 h
    have h1 := goL_len l 0 [] hx
    have h2 := finL_len (goL l 0 []) s hc
    simp at h1
    omega
  · simp
theorem nm_piece : ∀ i : Nat, i < 4 → (⟨#[120, 121, 122, 116]⟩ : ByteArray).extract i (i + 1) = bs [nmL i]
  | 0, _ => rfl | 1, _ => rfl | 2, _ => rfl | 3, _ => rfl
  | n + 4, h => by omega
theorem tl_bs {l : List UInt8} {s : ByteArray} (h : (bs l).toList = s.toList) : bs l = s := by
  rw [ByteArray.toList_eq, ByteArray.toList_eq] at h
  exact ByteArray.ext (Array.toList_inj.1 h)
/-- The number that digits spell behind a number. -/
def valL (acc : Nat) (l : List UInt8) : Nat := l.foldl (fun a b => a * 10 + (b.toNat - 48)) acc
def digL (l : List UInt8) : Prop := ∀ b ∈ l, 48 ≤ b.toNat ∧ b.toNat ≤ 57
theorem digs_dig : ∀ u : Nat, digL (digs u) := by
  intro u
  induction u using Nat.strongRecOn with
  | _ u ih =>
    intro b hb
    by_cases h : u = 0
    · subst h; rw [digs_zero] at hb; cases hb
    · rw [digs_pos h] at hb
      rcases List.mem_append.1 hb with hb | hb
      · exact ih (u / 10) (by omega) b hb
      · obtain rfl : b = UInt8.ofNat (48 + u % 10) := by simpa using hb
        have : (UInt8.ofNat (48 + u % 10)).toNat = 48 + u % 10 := by rw [UInt8.toNat_ofNat']; omega
        omega
theorem digs_val : ∀ u : Nat, valL 0 (digs u) = u := by
  intro u
  induction u using Nat.strongRecOn with
  | _ u ih =>
    by_cases h : u = 0
    · subst h; rw [digs_zero]; rfl
    · rw [digs_pos h]
      have e : (UInt8.ofNat (48 + u % 10)).toNat = 48 + u % 10 := by rw [UInt8.toNat_ofNat']; omega
      unfold valL at ih ⊢
      rw [List.foldl_append, ih (u / 10) (by omega)]
      simp only [List.foldl_cons, List.foldl_nil, e]
      omega
theorem valL_bd : ∀ (l : List UInt8) (acc j : Nat), digL l → acc < 10 ^ j → valL acc l < 10 ^ (j + l.length)
  | [], acc, j, _, h => by simpa [valL] using h
  | b :: l, acc, j, hd, h => by
    have hb := hd b (by simp)
    have := valL_bd l (acc * 10 + (b.toNat - 48)) (j + 1) (fun x hx => hd x (by simp [hx])) (by rw [Nat.pow_succ]; omega)
    rw [List.length_cons, show j + (l.length + 1) = j + 1 + l.length by omega]
    exact this
theorem bs_extract (l : List UInt8) (i j : Nat) : (bs l).extract i j = bs ((l.drop i).take (j - i)) := by
  unfold bs
  apply ByteArray.ext
  simp [List.extract_eq_take_drop]
theorem fmtL_no47 (n : Int) : ∀ b ∈ fmtL n, b ≠ 47 := by
  have hd := digs_dig n.natAbs
  have k : ∀ b ∈ digs n.natAbs, b ≠ 47 := fun b hb e => by
    have := hd b hb
    rw [e] at this
    exact absurd this.1 (by decide)
  intro b hb
  unfold fmtL at hb
  split at hb
  · obtain rfl : b = 48 := by simpa using hb
    decide
  · split at hb
    · rcases List.mem_cons.1 hb with e | hb
      · rw [e]; decide
      · exact k b hb
    · exact k b hb
/-- What reading a ratio gives: it, or nothing. -/
def PRat (s : ByteArray) (r : Int × Int × Bool) : Prop := r = (0, 0, false) ∨ ∃ n d, r = (n, d, true) ∧ isRat n d = true ∧ bs (fmtRL n d) = s
theorem makR_rat {n d : Int} (h : isRat n d = true) : makR n d = (n, d) := by
  have hb := isRat_iff.1 h
  have n1 : isNum n = true := isNum_iff.2 hb.2.1
  have n2 : isNum d = true := isNum_iff.2 (by omega)
  unfold makR red redOf
  rw [if_pos (by rw [n1, n2]; rfl), if_neg (show ¬ d = 0 by omega), if_neg (show ¬ d < 0 by omega), hb.2.2]
  simp [h]
theorem spec_FormatInt_fin (n : Int) (l : List UInt8) (hl : l.length ≤ 100) : Ev (fun k => spec_FormatInt.l0 k n (bs l) 0) (bs (if n = 0 then [48] else if n < 0 then 45 :: l else l)) := by
  refine Ev.step (fun k => by rw [spec_FormatInt.l0]) ?_
  refine ev_pos rfl (ev_ite (fun h => ?_) (fun h => ev_ite (fun h1 => ev_pos (by rw [bs_size]; omega) ?_) (fun h1 => ?_)))
  · rw [if_pos h]; exact Ev.now _
  · rw [if_neg h, if_pos h1]
    have : (⟨#[45]⟩ : ByteArray) ++ bs l = bs (45 :: l) := bs_append [45] l
    rw [this]; exact Ev.now _
  · rw [if_neg h, if_neg h1]; exact Ev.now _
theorem spec_FormatInt_go (n : Int) : ∀ (j : Nat) (x : Int) (l : List UInt8), x.natAbs < 10 ^ j → j ≤ 20 → l.length + j ≤ 50 → -9223372036854775808 ≤ x → x ≤ 9223372036854775807 →
    Ev (fun k => spec_FormatInt.l0 k n (bs l) x) (bs (if n = 0 then [48] else if n < 0 then 45 :: (digs x.natAbs ++ l) else digs x.natAbs ++ l)) := by
  intro j
  induction j with
  | zero =>
    intro x l hx _ hl _ _
    have : x = 0 := by simp at hx; exact hx
    subst this
    have := spec_FormatInt_fin n l (by omega)
    simpa [digs_zero] using this
  | succ j ih =>
    intro x l hx hj hl h0 h1
    by_cases hz : x = 0
    · subst hz
      have := spec_FormatInt_fin n l (by omega)
      simpa [digs_zero] using this
    · refine Ev.step (fun k => by rw [spec_FormatInt.l0]) (ev_neg hz ?_)
      have hd : x.natAbs % 10 < 10 := by omega
      obtain ⟨b0, b1, b2, et1⟩ := dig_bd hd
      have e10 : (bs [UInt8.ofNat (48 + x.natAbs % 10)]).size = 1 := bs_size _
      have eq : (wrap64 (Int.tdiv x 10)) = Int.tdiv x 10 := by
        have := Int.natAbs_tdiv x 10
        have h2 : x.natAbs.div (10 : Int).natAbs = x.natAbs / 10 := rfl
        exact w64 (by omega) (by omega)
      have en : (Int.tdiv x 10).natAbs = x.natAbs / 10 := by
        have := Int.natAbs_tdiv x 10
        have h2 : x.natAbs.div (10 : Int).natAbs = x.natAbs / 10 := rfl
        omega
      have go := ih (Int.tdiv x 10) (UInt8.ofNat (48 + x.natAbs % 10) :: l) (by rw [en]; rw [Nat.pow_succ] at hx; omega) (by omega) (by simp; omega) (by omega) (by omega)
      rw [en] at go
      have ed : digs x.natAbs ++ l = digs (x.natAbs / 10) ++ UInt8.ofNat (48 + x.natAbs % 10) :: l := by
        rw [digs_pos (show ¬ x.natAbs = 0 by omega), List.append_assoc]; rfl
      rw [ed]
      have ea : bs [UInt8.ofNat (48 + x.natAbs % 10)] ++ bs l = bs (UInt8.ofNat (48 + x.natAbs % 10) :: l) := bs_append _ _
      refine ev_ite (fun hn => ?_) (fun hn => ?_)
      · have et : wrap64 (-(Int.tmod x 10)) = ((x.natAbs % 10 : Nat) : Int) := by
          have := Int.natAbs_tmod x 10
          have h2 : x.natAbs % (10 : Int).natAbs = x.natAbs % 10 := rfl
          rw [w64 (by omega) (by omega)]; omega
        simp only [et, et1, eq, Int.toNat_natCast, dig_piece _ hd, e10, bs_size, ea]
        exact ev_pos b0 (ev_pos b1 (ev_pos b2 (ev_pos (by clear go ih hx; omega) go)))
      · have et : Int.tmod x 10 = ((x.natAbs % 10 : Nat) : Int) := by
          have := Int.natAbs_tmod x 10
          have h2 : x.natAbs % (10 : Int).natAbs = x.natAbs % 10 := rfl
          omega
        simp only [et, et1, eq, Int.toNat_natCast, dig_piece _ hd, e10, bs_size, ea]
        exact ev_pos b0 (ev_pos b1 (ev_pos b2 (ev_pos (by clear go ih hx; omega) go)))
theorem spec_FormatInt_ev (n : Int) (h0 : -9223372036854775808 ≤ n) (h1 : n ≤ 9223372036854775807) : Ev (fun k => spec_FormatInt.f k n) (bs (fmtL n)) := by
  have := spec_FormatInt_go n 20 n [] (by omega) (by omega) (by simp) h0 h1
  rw [List.append_nil] at this
  exact this
theorem impl_FormatInt_eq (n : Int) (h0 : -9223372036854775808 ≤ n) (h1 : n ≤ 9223372036854775807) : impl_FormatInt.f n = some (bs (fmtL n)) := by
  unfold impl_FormatInt.f strconv_Itoa.f
  rw [if_pos ⟨h0, h1⟩, itoa_fmtL]
  rfl
theorem spec_FormatAtom_j2_ev (l : List Int) (c : Int) (s : Bool) (i : Nat) (hi : i < 4) (acc : List UInt8) (ha : acc.length ≤ 1000) (n : Int) (hn : isNum n = true) (r : ByteArray)
    (h : Ev (fun k => spec_FormatAtom.l0 k (bs (acc ++ midL n ++ [nmL i])) ((i + 1 : Nat) : Int) l c s) r) : Ev (fun k => spec_FormatAtom.j2 k (bs acc) (i : Int) n l c s) r := by
  have hn' := isNum_iff.1 hn
  have e1 : wrap64 ((i : Int) + 1) = ((i + 1 : Nat) : Int) := w64_succ (by omega)
  have ep := nm_piece i hi
  have e45 : bs acc ++ (⟨#[45]⟩ : ByteArray) = bs (acc ++ [45]) := bs_append _ [45]
  refine Ev.step (fun k => by rw [spec_FormatAtom.j2]) ?_
  simp only [e1, Int.toNat_natCast, ep, e45, bs_append, bs_size]
  refine ev_ite (fun h1 => ?_) (fun h1 => ev_ite (fun h2 => ?_) (fun h2 => ?_))
  · have em : midL n = [45] := by unfold midL; rw [if_pos h1]
    rw [em] at h
    exact ev_pos (by omega) (ev_pos (by omega) (ev_pos (by omega) (ev_pos (by omega) (ev_pos (by simp; omega) h))))
  · have em : midL n = [] := by unfold midL; rw [if_neg h1, if_pos h2]
    rw [em, List.append_nil] at h
    exact ev_pos (by omega) (ev_pos (by omega) (ev_pos (by omega) (ev_pos (by simp; omega) h)))
  · have em : midL n = fmtL n := by unfold midL; rw [if_neg h1, if_neg h2]
    rw [em] at h
    have hl := fmtL_lenN hn
    refine Ev.bind (spec_FormatInt_ev n (by omega) (by omega)) ?_
    simp only [bs_append, bs_size]
    exact ev_pos (by omega) (ev_pos (by omega) (ev_pos (by omega) (ev_pos (by omega) (ev_pos (by simp; omega) h))))
theorem spec_FormatAtom_j1_ev (l : List Int) (c : Int) (s : Bool) (i : Nat) (hi : i < 4) (acc : List UInt8) (ha : acc.length ≤ 900) (n : Int) (hn : isNum n = true) (b : Bool) (hb : b = decide (0 < n ∧ 0 < acc.length)) (r : ByteArray)
    (h : Ev (fun k => spec_FormatAtom.l0 k (bs (plusL acc n ++ midL n ++ [nmL i])) ((i + 1 : Nat) : Int) l c s) r) : Ev (fun k => spec_FormatAtom.j1 k (bs acc) (i : Int) n b l c s) r := by
  have e43 : bs acc ++ (⟨#[43]⟩ : ByteArray) = bs (acc ++ [43]) := bs_append _ [43]
  refine Ev.step (fun k => by rw [spec_FormatAtom.j1]) ?_
  subst hb
  refine ev_ite (fun h1 => ?_) (fun h1 => ?_)
  · have ep : plusL acc n = acc ++ [43] := by unfold plusL; rw [if_pos (of_decide_eq_true h1)]
    rw [ep] at h
    rw [e43]
    exact ev_pos (by rw [bs_size]; omega) (spec_FormatAtom_j2_ev l c s i hi _ (by simp; omega) n hn r h)
  · have ep : plusL acc n = acc := by unfold plusL; rw [if_neg (fun h' => h1 (decide_eq_true h'))]
    rw [ep] at h
    exact spec_FormatAtom_j2_ev l c s i hi _ (by omega) n hn r h
theorem spec_FormatAtom_j5_ev (l : List Int) (c : Int) (s : Bool) (hc : isNum c = true) (acc : List UInt8) (ha : acc.length ≤ 1000) (b : Bool) :
    Ev (fun k => spec_FormatAtom.j5 k (bs acc) b l c s) (bs (if b = true then acc ++ fmtL c ++ endL s else acc ++ endL s)) := by
  have hc' := isNum_iff.1 hc
  have hl := fmtL_lenN hc
  have e2 : ∀ x : List UInt8, bs x ++ (⟨#[60, 48]⟩ : ByteArray) = bs (x ++ [60, 48]) := fun x => bs_append x [60, 48]
  have e3 : ∀ x : List UInt8, bs x ++ (⟨#[60, 61, 48]⟩ : ByteArray) = bs (x ++ [60, 61, 48]) := fun x => bs_append x [60, 61, 48]
  refine Ev.step (fun k => by rw [spec_FormatAtom.j5]) ?_
  refine ev_ite (fun h1 => ?_) (fun h1 => ?_)
  · rw [if_pos h1]
    refine Ev.bind (spec_FormatInt_ev c (by omega) (by omega)) ?_
    simp only [bs_append, bs_size, e2, e3]
    refine ev_pos (by omega) (ev_ite (fun h2 => ev_pos (by simp; omega) ?_) (fun h2 => ev_pos (by simp; omega) ?_))
    · subst h2; exact Ev.now _
    · obtain rfl : s = false := by simpa using h2
      exact Ev.now _
  · rw [if_neg h1]
    simp only [bs_append, bs_size, e2, e3]
    refine ev_ite (fun h2 => ev_pos (by omega) ?_) (fun h2 => ev_pos (by omega) ?_)
    · subst h2; exact Ev.now _
    · obtain rfl : s = false := by simpa using h2
      exact Ev.now _
theorem spec_FormatAtom_end_ev (l : List Int) (c : Int) (s : Bool) (hc : isNum c = true) (acc : List UInt8) (ha : acc.length ≤ 900) :
    Ev (fun k => spec_FormatAtom.l0 k (bs acc) (l.length : Int) l c s) (bs (finL acc c s)) := by
  have e43 : bs acc ++ (⟨#[43]⟩ : ByteArray) = bs (acc ++ [43]) := bs_append _ [43]
  refine Ev.step (fun k => by rw [spec_FormatAtom.l0]) ?_
  refine ev_neg (by omega) (ev_ite (fun h1 => ?_) (fun h1 => ?_))
  · rw [bs_ne]
    refine Ev.step (fun k => by rw [spec_FormatAtom.j3]) (ev_ite (fun h2 => ?_) (fun h2 => ?_))
    · rw [e43]
      refine ev_pos (by rw [bs_size]; omega) (Ev.step (fun k => by rw [spec_FormatAtom.j4]) (ev_neg (by omega) ?_))
      refine ev_eqr (spec_FormatAtom_j5_ev l c s hc (acc ++ [43]) (by simp; omega) true) ?_
      unfold finL plusL
      rw [if_pos rfl, if_neg (by omega), if_pos ⟨h1, of_decide_eq_true h2⟩]
    · refine Ev.step (fun k => by rw [spec_FormatAtom.j4]) (ev_neg (by omega) ?_)
      refine ev_eqr (spec_FormatAtom_j5_ev l c s hc acc (by omega) true) ?_
      unfold finL plusL
      rw [if_pos rfl, if_neg (by omega), if_neg (fun h' => h2 (decide_eq_true h'.2))]
  · refine Ev.step (fun k => by rw [spec_FormatAtom.j3]) (ev_neg (by simp) (Ev.step (fun k => by rw [spec_FormatAtom.j4]) (ev_ite (fun h2 => ?_) (fun h2 => ?_))))
    · rw [bs_eq0]
      refine ev_eqr (spec_FormatAtom_j5_ev l c s hc acc (by omega) _) ?_
      unfold finL plusL
      by_cases h3 : acc.length = 0
      · rw [if_pos (decide_eq_true h3), if_neg (by omega), if_neg (by omega)]
      · rw [if_neg (by simpa using h3), if_pos ⟨h2, by omega⟩]
    · refine ev_eqr (spec_FormatAtom_j5_ev l c s hc acc (by omega) true) ?_
      unfold finL plusL
      rw [if_pos rfl, if_neg (by omega), if_neg (by omega)]
theorem spec_FormatAtom_go_ev (l : List Int) (c : Int) (s : Bool) (hc : isNum c = true) (h4 : l.length ≤ 4) : ∀ (ns : List Int) (i : Nat) (acc : List UInt8), ns = l.drop i → i + ns.length = l.length → acc.length ≤ 23 * i → (∀ x ∈ ns, isNum x = true) →
    Ev (fun k => spec_FormatAtom.l0 k (bs acc) (i : Int) l c s) (bs (finL (goL ns i acc) c s))
  | [], i, acc, _, hi, ha, _ => by
    obtain rfl : i = l.length := by simpa using hi
    exact spec_FormatAtom_end_ev l c s hc acc (by omega)
  | n :: ns, i, acc, hd, hi, ha, hx => by
    simp only [List.length_cons] at hi
    have hlt : i < l.length := by omega
    have hq := List.drop_eq_getElem_cons hlt
    rw [← hd] at hq
    obtain ⟨rfl, rfl⟩ := List.cons.inj hq
    have hn := hx _ (List.mem_cons_self ..)
    have ih := spec_FormatAtom_go_ev l c s hc h4 (l.drop (i + 1)) (i + 1) (stepL acc i l[i]) rfl (by simp; omega) (by have := stepL_len acc i hn; omega) (fun x hx' => hx x (List.mem_cons_of_mem _ hx'))
    have hrd : rd l (i : Int) = l[i] := by simp [rd, List.getD_eq_getElem?_getD, hlt]
    refine Ev.step (fun k => by rw [spec_FormatAtom.l0]) ?_
    rw [hrd, w64_succ (by omega)]
    refine ev_pos (by omega) (ev_pos (by omega) (ev_ite (fun h0 => ?_) (fun h0 => ?_)))
    · have : stepL acc i l[i] = acc := by unfold stepL; rw [if_pos h0]
      rw [goL, this]; rw [this] at ih; exact ih
    · have e : stepL acc i l[i] = plusL acc l[i] ++ midL l[i] ++ [nmL i] := by unfold stepL; rw [if_neg h0]
      rw [goL]
      rw [e] at ih ⊢
      refine ev_ite (fun h1 => ?_) (fun h1 => ?_)
      · exact spec_FormatAtom_j1_ev l c s i (by omega) acc (by omega) _ hn _ (by rw [bs_ne]; congr 1; exact propext ⟨fun h => ⟨h1, h⟩, fun h => h.2⟩) _ ih
      · exact spec_FormatAtom_j1_ev l c s i (by omega) acc (by omega) _ hn _ (by rw [decide_eq_false (by omega)]) _ ih
theorem spec_FormatAtom_ev (l : List Int) (c : Int) (s : Bool) (hl : l.length ≤ 1048576) : Ev (fun k => spec_FormatAtom.f k l c s) (bs (fmtAL l c s)) := by
  unfold spec_FormatAtom.f fmtAL
  refine Ev.bind (spec_IsAtom_ev l c s hl) (ev_ite (fun h => ?_) (fun h => ?_))
  · rw [if_pos h]
    obtain ⟨h4, hc, hx, _⟩ := isAt_iff.1 h
    exact spec_FormatAtom_go_ev l c s hc h4 l 0 [] rfl (by simp) (by simp) hx
  · rw [if_neg h]; exact Ev.now _
theorem fa_go : ∀ (ns : List Int) (i : Nat) (acc : List UInt8), acc.length + 23 * ns.length ≤ 700000 → (∀ x ∈ ns, isNum x = true) → FA.go ns i acc = some (goL ns i acc)
  | [], _, _, _, _ => rfl
  | n :: ns, i, acc, ha, hx => by
    simp only [List.length_cons] at ha
    have hn := hx n (by simp)
    have hn' := isNum_iff.1 hn
    have h1 := stepL_len acc i hn
    have ih := fa_go ns (i + 1) (stepL acc i n) (by omega) (fun x h => hx x (by simp [h]))
    have es : FA.step acc i n = some (stepL acc i n) := by
      unfold FA.step stepL midL
      by_cases h0 : n = 0
      · rw [if_pos h0, if_pos h0]
      · rw [if_neg h0, if_neg h0, if_pos (by omega)]
        by_cases h2 : n = 1
        · rw [if_pos h2, if_neg (by omega), if_pos h2, List.append_nil]; rfl
        · rw [if_neg h2]
          by_cases h3 : n = -1
          · rw [if_pos h3, if_pos h3]; rfl
          · rw [if_neg h3, if_neg h3, if_neg h2, impl_FormatInt_eq n (by omega) (by omega), Option.bind_some]
            rw [if_pos (by rw [bs_size]; have := fmtL_lenN hn; omega)]
            rfl
    rw [FA.go, es, goL, Option.bind_some, ih]
theorem impl_FormatAtom_ev (l : List Int) (c : Int) (s : Bool) (hl : l.length ≤ 1048576) : Ev (fun k => impl_FormatAtom.f k l c s) (bs (fmtAL l c s)) := by
  unfold impl_FormatAtom.f fmtAL
  refine Ev.bind (impl_IsAtom_ev l c s hl) (ev_ite (fun h => ?_) (fun h => ?_))
  · rw [if_pos h]
    obtain ⟨h4, hc, hx, _⟩ := isAt_iff.1 h
    have hc' := isNum_iff.1 hc
    have h1 := goL_len l 0 [] hx
    have h2 := fmtL_lenN hc
    have h3 := plusL_len (goL l 0 []) c
    simp only [List.length_nil] at h1
    refine ev_pos h4 (ev_eq ?_)
    rw [fa_go l 0 [] (by simp; omega) hx, Option.bind_some]
    unfold FA.fin finL
    by_cases h0 : c = 0 ∧ 0 < (goL l 0 []).length
    · rw [if_pos h0, if_pos h0]
      unfold FA.tail
      rw [if_pos (by omega)]; rfl
    · rw [if_neg h0, if_neg h0, impl_FormatInt_eq c (by omega) (by omega), Option.bind_some]
      rw [if_pos ⟨by omega, by rw [bs_size]; omega⟩]
      have e : FA.plus (goL l 0 []) c ++ (bs (fmtL c)).data.toList = plusL (goL l 0 []) c ++ fmtL c := rfl
      rw [e]
      unfold FA.tail
      rw [if_pos (by simp; omega)]; rfl
  · rw [if_neg h]; exact Ev.now _
def txtA (a : At) : List UInt8 := fmtAL a.1 a.2.1 a.2.2
def txtsA (l : List At) : List (List UInt8) := l.map txtA
def fmtB (l : List At) : List UInt8 := 123 :: Lib.join (txtsA l) [44] ++ [125]
def fmtCL (d : Int) (l : List At) : List UInt8 := if isCe d l then fmtL d ++ fmtB l else []
theorem join_take_succ (ts : List (List UInt8)) (s : List UInt8) (i : Nat) (h : i < ts.length) : Lib.join (ts.take (i + 1)) s = (if i = 0 then [] else Lib.join (ts.take i) s ++ s) ++ ts[i] := by
  cases ts with
  | nil => simp at h
  | cons x r =>
    cases i with
    | zero => simp [Lib.join_one]
    | succ i =>
      have hr : r[i]? = some (r[i]'(by simpa using h)) := List.getElem?_eq_getElem _
      rw [List.take_succ_cons, Lib.join_cons, Lib.joinTail_take_succ s r i _ hr, if_neg (by omega), List.take_succ_cons, Lib.join_cons]
      simp
theorem join_len (ts : List (List UInt8)) (h : ∀ t ∈ ts, t.length ≤ 120) : ∀ i, i ≤ ts.length → (Lib.join (ts.take i) [44]).length ≤ 121 * i
  | 0, _ => by simp [Lib.join_nil]
  | i + 1, hi => by
    have ih := join_len ts h i (by omega)
    rw [join_take_succ ts [44] i (by omega)]
    have := h ts[i] (List.getElem_mem _)
    split <;> simp <;> omega
theorem txtsA_len (l : List At) : ∀ t ∈ txtsA l, t.length ≤ 120 := by
  intro t ht
  obtain ⟨a, _, rfl⟩ := List.mem_map.1 ht
  exact fmtAL_len _ _ _
theorem join_all (l : List At) : (Lib.join (txtsA l) [44]).length ≤ 121 * l.length := by
  have := join_len _ (txtsA_len l) (txtsA l).length (Nat.le_refl _)
  rw [List.take_of_length_le (Nat.le_refl _)] at this
  simpa [txtsA] using this
theorem fmtB_len (l : List At) : (fmtB l).length ≤ 121 * l.length + 2 := by
  have := join_all l
  unfold fmtB
  simp
  omega
theorem fmtCL_len (d : Int) (l : List At) : (fmtCL d l).length ≤ 2000 := by
  unfold fmtCL
  split
  · rename_i hc
    have hb := isCe_iff.1 hc
    have l1 := fmtL_len d (by omega) (by omega)
    have l2 := fmtB_len l
    simp; omega
  · simp
theorem spec_l3Text_ev (d : Int) (l : List S27) (h : smallA l) (h16 : l.length ≤ 16) : Ev (fun k => spec_l3Text.f k d l) (bs (fmtB (atsOf l))) := by
  unfold spec_l3Text.f
  have hn : (txtsA (atsOf l)).length = l.length := by simp [txtsA, atsOf]
  have hg : ∀ i (hi : i < l.length), (txtsA (atsOf l))[i]'(by omega) = fmtAL l[i].f0 l[i].f1 l[i].f2 := by intro i hi; simp [txtsA, atsOf, atOf, txtA]
  have key : ∀ i, i ≤ l.length → Ev (fun k => spec_l3Text.l0 k (bs (123 :: Lib.join ((txtsA (atsOf l)).take i) [44])) (i : Nat) d l) (bs (fmtB (atsOf l))) := by
    refine down l.length ?_ ?_
    · refine Ev.step (fun k => by rw [spec_l3Text.l0, if_neg (by omega)]) ?_
      rw [List.take_of_length_le (by omega)]
      have hl := join_all (atsOf l)
      rw [atsOf_length] at hl
      refine ev_pos (by rw [bs_size]; simp; omega) (ev_some ?_)
      exact bs_append _ [125]
    · intro i hi ih
      have hl := join_len _ (txtsA_len (atsOf l)) i (by omega)
      have ht := fmtAL_len l[i].f0 l[i].f1 l[i].f2
      rw [join_take_succ _ _ _ (by omega), hg i hi] at ih
      refine Ev.step (fun k => by rw [spec_l3Text.l0]) (ev_pos (by omega) ?_)
      simp only [rd_T27, Int.toNat_natCast, getD_of_lt hi]
      have hf := spec_FormatAtom_ev l[i].f0 l[i].f1 l[i].f2 (h.2 _ (List.getElem_mem _))
      rw [w64_succ (by omega)]
      generalize Lib.join ((txtsA (atsOf l)).take i) [44] = J at hl ih ⊢
      generalize fmtAL l[i].f0 l[i].f1 l[i].f2 = T at ht ih hf
      refine ev_ite (fun h0 => ?_) (fun h0 => ?_)
      · rw [if_neg (by omega)] at ih
        have e44 : bs (123 :: J) ++ (⟨#[44]⟩ : ByteArray) = bs (123 :: J ++ [44]) := bs_append _ [44]
        rw [e44]
        refine ev_pos (by rw [bs_size]; simp; omega) (ev_pos (by omega) (Ev.bind hf (ev_pos (by rw [bs_size, bs_size]; simp; omega) ?_)))
        rw [bs_append]
        exact ih
      · obtain rfl : i = 0 := by omega
        rw [if_pos rfl] at ih
        refine ev_pos (by omega) (Ev.bind hf (ev_pos (by rw [bs_size, bs_size]; simp; omega) ?_))
        rw [bs_append]
        have e0 : J = [] := List.eq_nil_of_length_eq_zero (by omega)
        subst e0
        exact ih
  have := key 0 (by omega)
  simpa [Lib.join_nil, bs] using this
theorem impl_bracesOf_ev (d : Int) (l : List S27) (h : smallA l) (h16 : l.length ≤ 16) : Ev (fun k => impl_bracesOf.f k d l) (bs (fmtB (atsOf l))) := by
  unfold impl_bracesOf.f
  have hl := join_all (atsOf l)
  rw [atsOf_length] at hl
  refine ev_push (fun k ys i => impl_bracesOf.l0 k ys l (l.length : Int) i) l (fun _ x => bs (fmtAL x.f0 x.f1 x.f2)) _ ?_ ?_
  · refine Ev.step (fun k => by rw [impl_bracesOf.l0, if_neg (by omega)]) ?_
    have e : (l.mapIdx fun _ x => bs (fmtAL x.f0 x.f1 x.f2)).map (·.data.toList) = txtsA (atsOf l) := by
      rw [mapIdx_const]; simp [txtsA, atsOf, txtA, atOf, bs]
    have hJ : strings_Join.f (l.mapIdx fun _ x => bs (fmtAL x.f0 x.f1 x.f2)) (⟨#[44]⟩ : ByteArray) = some (bs (Lib.join (txtsA (atsOf l)) [44])) := by
      unfold strings_Join.f
      rw [e, if_pos ⟨by simp; omega, by show (Lib.join (txtsA (atsOf l)) [44]).length ≤ 1000000; omega⟩]
      rfl
    refine ev_bindS hJ (ev_pos (by rw [bs_size]; omega) ?_)
    have e1 : (⟨#[123]⟩ : ByteArray) ++ bs (Lib.join (txtsA (atsOf l)) [44]) = bs (123 :: Lib.join (txtsA (atsOf l)) [44]) := bs_append [123] _
    rw [e1]
    exact ev_pos (by rw [bs_size]; simp; omega) (ev_some (bs_append _ [125]))
  · intro i hi ys hy ih
    refine Ev.step (fun k => by rw [impl_bracesOf.l0]) (ev_pos (by omega) (ev_pos (by omega) (ev_pos (by omega) ?_)))
    simp only [rd_T27, Int.toNat_natCast, getD_of_lt hi]
    rw [w64_succ (by omega)]
    exact Ev.bind (impl_FormatAtom_ev _ _ _ (h.2 _ (List.getElem_mem _))) (ev_pos (by omega) ih)
def rgB (l : List Ce) : List UInt8 := l.flatMap fun c => fmtB c.2
def fmtRgL (d : Int) (l : List Ce) : List UInt8 := if isRe d l then fmtL d ++ [91] ++ rgB l ++ [93] else []
theorem rgB_cons (c : Ce) (l : List Ce) : rgB (c :: l) = fmtB c.2 ++ rgB l := List.flatMap_cons
theorem rgB_len (l : List Ce) (h : ∀ c ∈ l, c.2.length ≤ 16) : (rgB l).length ≤ 2000 * l.length := by
  induction l with
  | nil => simp [rgB]
  | cons c l ih =>
    have h1 := ih (fun x hx => h x (by simp [hx]))
    have h2 := fmtB_len c.2
    have h3 := h c (by simp)
    rw [rgB_cons, List.length_append, List.length_cons]
    omega
theorem spec_FormatRegion_l0_ev (d : Int) (l : List S41) (h : smallC l) (h12 : l.length ≤ 12) (h16 : ∀ x ∈ l, x.f1.length ≤ 16) : ∀ i, i ≤ l.length → ∀ acc : List UInt8, acc.length ≤ 100 + 2000 * i → Ev (fun k => spec_FormatRegion.l0 k (bs acc) (i : Nat) d l) (bs (acc ++ rgB (cesOf (l.drop i)) ++ [93])) := by
  refine down l.length ?_ ?_
  · intro acc ha
    refine Ev.step (fun k => by rw [spec_FormatRegion.l0, if_neg (by omega)]) ?_
    refine ev_pos (by rw [bs_size]; omega) (ev_some ?_)
    rw [List.drop_length]
    have e : rgB (cesOf ([] : List S41)) = [] := rfl
    rw [e, List.append_nil]
    exact bs_append _ [93]
  · intro i hi ih acc ha
    refine Ev.step (fun k => by rw [spec_FormatRegion.l0]) (ev_pos (by omega) (ev_pos (by omega) ?_))
    simp only [rd_T41, Int.toNat_natCast, getD_of_lt hi]
    have hx := h16 l[i] (List.getElem_mem _)
    have hb := fmtB_len (atsOf l[i].f1)
    rw [atsOf_length] at hb
    refine Ev.bind (spec_l3Text_ev l[i].f0 l[i].f1 (h.2 _ (List.getElem_mem _)) hx) (ev_pos (by rw [bs_size, bs_size]; omega) ?_)
    rw [bs_append, w64_succ (by omega)]
    refine ev_eqr (ih (acc ++ fmtB (atsOf l[i].f1)) (by simp; omega)) ?_
    rw [drop_cons hi]
    have e : rgB (cesOf (l[i] :: l.drop (i + 1))) = fmtB (atsOf l[i].f1) ++ rgB (cesOf (l.drop (i + 1))) := rgB_cons _ _
    rw [e]
    simp
theorem spec_FormatRegion_ev (d : Int) (l : List S41) (h : smallC l) : Ev (fun k => spec_FormatRegion.f k d l) (bs (fmtRgL d (cesOf l))) := by
  unfold spec_FormatRegion.f fmtRgL
  refine Ev.bind (spec_IsRegion_ev d l h) (ev_ite (fun hc => ?_) (fun hc => ?_))
  · rw [if_pos hc]
    have hb := isRe_iff.1 hc
    have h12 : l.length ≤ 12 := by rw [← cesOf_length]; exact hb.2.1
    have h16 : ∀ x ∈ l, x.f1.length ≤ 16 := fun x hx => by
      have := (isCe_iff.1 (hb.2.2 (ceOf x) (List.mem_map_of_mem hx)).1).2.1
      rwa [show (ceOf x).2 = atsOf x.f1 from rfl, atsOf_length] at this
    have l1 := fmtL_len d (by omega) (by omega)
    have e1 : bs (fmtL d) ++ (⟨#[91]⟩ : ByteArray) = bs (fmtL d ++ [91]) := bs_append _ [91]
    refine Ev.bind (spec_FormatInt_ev d (by omega) (by omega)) (ev_pos (by rw [bs_size]; omega) ?_)
    rw [e1]
    exact spec_FormatRegion_l0_ev d l h h12 h16 0 (by omega) (fmtL d ++ [91]) (by simp; omega)
  · rw [if_neg hc]; exact Ev.now _
theorem fr_go_ev : ∀ (l : List S41) (acc : List UInt8), smallC l → (∀ x ∈ l, x.f1.length ≤ 16) → acc.length + 2000 * l.length ≤ 900000 → Ev (fun k => FR.go k l acc) (acc ++ rgB (cesOf l))
  | [], acc, _, _, _ => by
    have e : acc ++ rgB (cesOf ([] : List S41)) = acc := by simp [rgB, cesOf]
    rw [e]; exact Ev.now _
  | c :: cs, acc, h, h16, hl => by
    have hx := h16 c (by simp)
    have hb := fmtB_len (atsOf c.f1)
    rw [atsOf_length] at hb
    simp only [List.length_cons] at hl
    have ih := fr_go_ev cs (acc ++ fmtB (atsOf c.f1)) ⟨by have := h.1; simp at this; omega, fun x hx => h.2 x (by simp [hx])⟩ (fun x hx => h16 x (by simp [hx])) (by simp; omega)
    refine Ev.bind (f := fun k t => if acc.length ≤ 900000 ∧ t.size ≤ 3000 then FR.go k cs (acc ++ t.data.toList) else none) (impl_bracesOf_ev c.f0 c.f1 (h.2 c (by simp)) hx) (ev_pos ⟨by omega, by rw [bs_size]; omega⟩ ?_)
    refine ev_eqr ih ?_
    have e : rgB (cesOf (c :: cs)) = fmtB (atsOf c.f1) ++ rgB (cesOf cs) := rgB_cons _ _
    rw [e]
    simp
theorem impl_FormatRegion_ev (d : Int) (l : List S41) (h : smallC l) : Ev (fun k => impl_FormatRegion.f k d l) (bs (fmtRgL d (cesOf l))) := by
  unfold impl_FormatRegion.f fmtRgL
  refine Ev.bind (impl_IsRegion_ev d l h) (ev_ite (fun hc => ?_) (fun hc => ?_))
  · rw [if_pos hc]
    have hb := isRe_iff.1 hc
    have h12 : l.length ≤ 12 := by rw [← cesOf_length]; exact hb.2.1
    have h16 : ∀ x ∈ l, x.f1.length ≤ 16 := fun x hx => by
      have := (isCe_iff.1 (hb.2.2 (ceOf x) (List.mem_map_of_mem hx)).1).2.1
      rwa [show (ceOf x).2 = atsOf x.f1 from rfl, atsOf_length] at this
    have l1 := fmtL_len d (by omega) (by omega)
    have l2 := rgB_len (cesOf l) (fun c hc => by obtain ⟨x, hx, rfl⟩ := List.mem_map.1 hc; rw [show (ceOf x).2 = atsOf x.f1 from rfl, atsOf_length]; exact h16 x hx)
    rw [cesOf_length] at l2
    refine ev_pos h12 (ev_bindS (impl_FormatInt_eq d (by omega) (by omega)) (ev_pos (by rw [bs_size]; omega) ?_))
    have e : (bs (fmtL d)).data.toList ++ [91] = fmtL d ++ [91] := by simp [bs]
    rw [e]
    refine Ev.bind (fr_go_ev l (fmtL d ++ [91]) h h16 (by simp; omega)) (ev_pos (by simp; omega) (ev_some ?_))
    rfl
  · rw [if_neg hc]; exact Ev.now _

end Go.Proofs.YtohoibekddhneaaDoor.LFnExactFormatRegion
