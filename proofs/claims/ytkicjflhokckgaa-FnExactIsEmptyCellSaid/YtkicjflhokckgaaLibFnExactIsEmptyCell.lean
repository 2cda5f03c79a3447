/- What the printed functions of the law FnExactIsEmptyCell compute, in plain words; each holds under the bounds that it names. -/
import Derived.Test.YtkicjflhokckgaaQFnExactIsEmptyCellx
import Derived.Test.YtkicjflhokckgaaPlainFnExactIsEmptyCell
import Derived.Test.YtkicjflhokckgaaPlainAFnExactIsEmptyCell
import Derived.Test.YtkicjflhokckgaaPlainCFnExactIsEmptyCell
set_option linter.unusedVariables false
set_option linter.unusedSimpArgs false
namespace Go.Proofs.Ytkicjflhokckgaa.LFnExactIsEmptyCell
open Go.RowKit Go.Proofs.Ytkicjflhokckgaa.PFnExactIsEmptyCell Go.Proofs.Ytkicjflhokckgaa.Pl Go.Proofs.YtkicjflhokckgaaW.PrintWords Go.Proofs.YtkicjflhokckgaaW.PrintLast Go.Proofs.YtkicjflhokckgaaW.PrintMore

theorem spec_l1In_eq (a b c : Int) : spec_l1In.f a b c = some (decide (b ≤ a) && decide (a ≤ c)) := by
  unfold spec_l1In.f
  by_cases h : b ≤ a
  · rw [if_pos h]; simp [h]
  · rw [if_neg h]; simp [h]
theorem spec_IsNumber_eq (n : Int) : spec_IsNumber.f n = some (isNum n) := by
  unfold spec_IsNumber.f
  rw [spec_l1In_eq]; rfl
theorem impl_IsNumber_eq (n : Int) : impl_IsNumber.f n = some (isNum n) := by
  unfold impl_IsNumber.f isNum
  by_cases h : n ≥ -400000000
  · rw [if_pos h]
    have h' : -400000000 ≤ n := h
    simp [h']
  · rw [if_neg h]
    have h' : ¬ -400000000 ≤ n := h
    simp [h']
theorem spec_l1Abs_eq (a : Int) (h : -9223372036854775807 ≤ a) (h' : a ≤ 9223372036854775807) : spec_l1Abs.f a = some (a.natAbs : Int) := by
  unfold spec_l1Abs.f mx
  rw [w64 (by omega) (by omega)]
  congr 1
  split <;> omega
theorem impl_absolute_eq (a : Int) (h : -9223372036854775807 ≤ a) (h' : a ≤ 9223372036854775807) : impl_absolute.f a = some (a.natAbs : Int) := by
  unfold impl_absolute.f
  by_cases c : a < 0
  · rw [if_pos c, w64 (by omega) (by omega)]; congr 1; omega
  · rw [if_neg c]; congr 1; omega
theorem impl_commonDivisor_l0_ev (a b : Int) : Ev (fun k => impl_commonDivisor.l0 k a b) (eu a b) := by
  fun_induction eu a b with
  | case1 a => exact Ev.step (f := fun _ => some a) (fun k => by simp [impl_commonDivisor.l0]) (Ev.now a)
  | case2 a b h ih => exact Ev.step (fun k => by simp only [impl_commonDivisor.l0]; rw [if_neg h]) ih
theorem impl_commonDivisor_ev (a b : Int) (h : -9223372036854775807 ≤ a ∧ a ≤ 9223372036854775807) (h' : -9223372036854775807 ≤ b ∧ b ≤ 9223372036854775807) : Ev (fun k => impl_commonDivisor.f k a b) (Int.gcd a b : Int) := by
  unfold impl_commonDivisor.f
  rw [impl_absolute_eq a h.1 h.2, impl_absolute_eq b h'.1 h'.2]
  simp only [Option.bind_some]
  rw [← eu_abs]
  exact impl_commonDivisor_l0_ev _ _
theorem laws_szIntS_eq (l : List Int) (a : Int) (h : l.length ≤ maxLen) (ha : 0 ≤ a ∧ a ≤ 1048576) : laws_szIntS.f l a = some (lft a l.length) := by
  unfold laws_szIntS.f lft
  unfold maxLen at h
  rw [w64 (by omega) (by omega)]
  by_cases h' : a < (l.length : Int)
  · rw [if_pos (by omega), if_pos h']
  · rw [if_neg (by omega), if_neg h']
theorem laws_szAtom_eq (l : List Int) (c : Int) (s : Bool) (a : Int) (h : l.length ≤ maxLen) (ha : 0 ≤ a ∧ a ≤ 1048576) : laws_szAtom.f l c s a = some (lft a l.length) := by
  unfold laws_szAtom.f
  rw [laws_szIntS_eq l a h ha, Option.bind_some]
  unfold lft
  by_cases h' : a < (l.length : Int)
  · simp [h']
  · rw [if_neg h', if_neg (by omega)]
theorem laws_toIntS_ev (l : List Int) (h : l.length ≤ 1048576) : Ev (fun k => laws_toIntS.f k l) l := by
  unfold laws_toIntS.f
  refine ev_pos (by omega) (ev_pos (by simp; omega) ?_)
  have := ev_put (fun k ys i => laws_toIntS.l0 k l ys i) l (fun _ x => x) 0 l
    (by
      rw [mapIdx_const l (fun x => x), List.map_id']
      exact Ev.step (f := fun _ => some l) (fun k => by simp [laws_toIntS.l0]) (Ev.now _))
    (fun i hi ys hy ih => by
      refine Ev.step (fun k => by rw [laws_toIntS.l0]) ?_
      refine ev_pos (by omega) (ev_pos (by omega) (ev_pos (by omega) ?_))
      rw [w64_succ (by omega)]
      simp only [rd, Int.toNat_natCast, getD_of_lt hi]
      exact ih)
  simpa using this
theorem laws_toAtom_ev (l : List Int) (c : Int) (s : Bool) (h : l.length ≤ 1048576) : Ev (fun k => laws_toAtom.f k l c s) (l, c, s) := by
  unfold laws_toAtom.f
  exact Ev.bind (laws_toIntS_ev l h) (Ev.now _)
theorem laws_eqIntS_ev (l : List Int) (h : l.length ≤ 1048576) : Ev (fun k => laws_eqIntS.f k l l) true := by
  unfold laws_eqIntS.f
  refine ev_pos rfl ?_
  have := ev_all (fun k i => laws_eqIntS.l0 k l l i) l (fun _ => true) true false
    (Ev.step (f := fun _ => some true) (fun k => by simp [laws_eqIntS.l0]) (Ev.now _))
    (fun i hi r _ ih => by
      refine Ev.step (fun k => by rw [laws_eqIntS.l0]) ?_
      refine ev_pos (by omega) (ev_pos (by omega) (ev_pos (by omega) (ev_pos rfl ?_)))
      rw [w64_succ (by omega)]
      exact ih)
    (fun i hi h' => by simp at h')
  simpa using this
theorem laws_eqAtom_ev (l : List Int) (c : Int) (s : Bool) (h : l.length ≤ 1048576) : Ev (fun k => laws_eqAtom.f k l c s l c s) true := by
  unfold laws_eqAtom.f
  refine Ev.bind (laws_eqIntS_ev l h) (ev_pos rfl (ev_pos rfl ?_))
  exact ev_neg (by simp) (Ev.now _)
theorem spec_l2Gcd_l1_ev (x0 : List Int) (i : Nat) (hi : i < 4611686018427387904) (r : Int) (g a : Int) (hg : 0 ≤ g) (ha : 0 ≤ a) (h : Ev (fun k => spec_l2Gcd.l0 k x0 (eu g a) ((i + 1 : Nat) : Int)) r) : Ev (fun k => spec_l2Gcd.l1 k x0 g (i : Nat) a) r := by
  fun_induction eu g a with
  | case1 g => exact Ev.step (fun k => by rw [spec_l2Gcd.l1, if_pos rfl, w64_succ (by omega)]) h
  | case2 g a hz ih => exact Ev.step (fun k => by rw [spec_l2Gcd.l1, if_neg hz]) (ih ha (Int.tmod_nonneg _ hg) h)
theorem spec_l2Gcd_ev (l : List Int) (c : Int) (hl : l.length ≤ 1048576) (hb : ∀ x ∈ l, -9223372036854775807 ≤ x ∧ x ≤ 9223372036854775807) (hc : -9223372036854775807 ≤ c ∧ c ≤ 9223372036854775807) : Ev (fun k => spec_l2Gcd.f k l c) ((Nat.gcd (gcdL l) c.natAbs : Nat) : Int) := by
  unfold spec_l2Gcd.f
  rw [spec_l1Abs_eq c hc.1 hc.2]
  simp only [Option.bind_some]
  have := ev_fold (fun k (g : Nat) i => spec_l2Gcd.l0 k l (g : Int) i) l (fun g x => Nat.gcd g x.natAbs) (fun g => (g : Int)) (fun _ => True)
    (fun g _ => Ev.step (f := fun _ => some (g : Int)) (fun k => by simp [spec_l2Gcd.l0]) (Ev.now _))
    (fun i hi g r _ => ⟨trivial, fun ih => by
      have hx := hb l[i] (List.getElem_mem hi)
      refine Ev.step (fun k => by rw [spec_l2Gcd.l0]) ?_
      refine ev_pos (by omega) (ev_pos (by omega) ?_)
      simp only [rd, Int.toNat_natCast, getD_of_lt hi]
      rw [spec_l1Abs_eq _ hx.1 hx.2]
      simp only [Option.bind_some]
      refine spec_l2Gcd_l1_ev l i (by omega) r _ _ (by omega) (by omega) ?_
      have e : eu (g : Int) (l[i].natAbs : Int) = ((Nat.gcd g l[i].natAbs : Nat) : Int) := by
        have h1 := eu_gcd (g : Int) (l[i].natAbs : Int)
        have h2 := eu_nonneg (g : Int) (l[i].natAbs : Int) (by omega) (by omega)
        simp only [Int.gcd, Int.natAbs_natCast] at h1
        omega
      rw [e]; exact ih⟩) c.natAbs trivial
  refine ev_eqr this ?_
  have e := gcdF_eq l c.natAbs
  unfold gcdF at e
  rw [e, Nat.gcd_comm]
theorem isNum_bd {x : Int} (h : isNum x = true) : -9223372036854775807 ≤ x ∧ x ≤ 9223372036854775807 := by rw [isNum_iff] at h; omega
theorem spec_IsAtom_l0_ev (l : List Int) (c : Int) (s : Bool) (hl : l.length ≤ 1048576) (hc : isNum c = true) : Ev (fun k => spec_IsAtom.l0 k 0 l c s) (if l.all isNum then decide (Nat.gcd (gcdL l) c.natAbs ≤ 1) else false) := by
  have := ev_allq (fun k i => spec_IsAtom.l0 k i l c s) l isNum (decide (Nat.gcd (gcdL l) c.natAbs ≤ 1)) false
    (fun hall => by
      refine Ev.step (fun k => by rw [spec_IsAtom.l0, if_neg (by omega)]) ?_
      refine Ev.bind (spec_l2Gcd_ev l c hl (fun x hx => isNum_bd (List.all_eq_true.1 hall x hx)) (isNum_bd hc)) (ev_some ?_)
      rw [Bool.eq_iff_iff]; simp; omega)
    (fun i hi r hp ih => by
      refine Ev.step (fun k => by rw [spec_IsAtom.l0]) ?_
      refine ev_pos (by omega) (ev_pos (by omega) ?_)
      simp only [rd, Int.toNat_natCast, getD_of_lt hi]
      rw [spec_IsNumber_eq, w64_succ (by omega)]
      simp only [Option.bind_some]
      exact ev_pos hp ih)
    (fun i hi hp => by
      refine Ev.step (fun k => by rw [spec_IsAtom.l0]) ?_
      refine ev_pos (by omega) (ev_pos (by omega) ?_)
      simp only [rd, Int.toNat_natCast, getD_of_lt hi]
      rw [spec_IsNumber_eq]
      simp only [Option.bind_some]
      exact ev_neg (by simp [hp]) (Ev.now _))
  simpa using this
theorem spec_IsAtom_ev (l : List Int) (c : Int) (s : Bool) (hl : l.length ≤ 1048576) : Ev (fun k => spec_IsAtom.f k l c s) (isAt l c) := by
  unfold spec_IsAtom.f
  refine ev_ite (fun h => ?_) (fun h => ?_)
  · refine ev_eqr (Ev.step (f := fun _ => some false) (fun k => by simp [spec_IsAtom.j0]) (Ev.now _)) ?_
    simp only [isAt, show ¬ l.length ≤ 4 by omega, decide_false, Bool.false_and]
  · rw [spec_IsNumber_eq]
    simp only [Option.bind_some]
    cases hc : isNum c with
    | false =>
      refine ev_eqr (Ev.step (f := fun _ => some false) (fun k => by simp [spec_IsAtom.j0]) (Ev.now _)) ?_
      simp [isAt, hc]
    | true =>
      refine Ev.step (f := fun k => spec_IsAtom.l0 k 0 l c s) (fun k => by simp [spec_IsAtom.j0]) ?_
      refine ev_eqr (spec_IsAtom_l0_ev l c s hl hc) ?_
      cases hall : l.all isNum <;> simp [isAt, hc, hall, show l.length ≤ 4 by omega]
theorem all_tdiv {l : List Int} {g : Int} : ∀ x ∈ l.map (·.tdiv g), ∃ y ∈ l, x = y.tdiv g := by
  intro x hx
  obtain ⟨y, hy, rfl⟩ := List.mem_map.1 hx
  exact ⟨y, hy, rfl⟩
theorem spec_l2Atom_ev (l : List Int) (c : Int) (s : Bool) (hl : l.length ≤ 1048576) (hb : ∀ x ∈ l, -9223372036854775807 ≤ x ∧ x ≤ 9223372036854775807) (hc : -9223372036854775807 ≤ c ∧ c ≤ 9223372036854775807) : Ev (fun k => spec_l2Atom.f k l c s) (mkAt l c s) := by
  unfold spec_l2Atom.f
  refine Ev.bind (spec_l2Gcd_ev l c hl hb hc) ?_
  rw [mx_div1]
  have hp := div1_pos (Nat.gcd (gcdL l) c.natAbs)
  refine ev_neg (by omega) ?_
  rw [w64_tdiv hc.1 hc.2]
  have := ev_push (fun k ys i => spec_l2Atom.l0 k l (div1 (Nat.gcd (gcdL l) c.natAbs)) i ys (c.tdiv (div1 (Nat.gcd (gcdL l) c.natAbs))) s) l (fun _ x => x.tdiv (div1 (Nat.gcd (gcdL l) c.natAbs))) (mkAt l c s)
    (by
      rw [mapIdx_const l (fun x => x.tdiv (div1 (Nat.gcd (gcdL l) c.natAbs)))]
      refine Ev.step (fun k => by rw [spec_l2Atom.l0, if_neg (by omega)]) ?_
      refine Ev.bind (spec_IsAtom_ev _ _ s (by simpa using hl)) ?_
      unfold mkAt
      exact ev_ite (fun h => by simp only [h, if_true]; exact Ev.now _) (fun h => by simp only [h]; exact Ev.now _))
    (fun i hi ys hy ih => by
      have hx := hb l[i] (List.getElem_mem hi)
      refine Ev.step (fun k => by rw [spec_l2Atom.l0]) ?_
      refine ev_pos (by omega) (ev_pos (by omega) (ev_neg (by omega) (ev_pos (by omega) ?_)))
      simp only [rd, Int.toNat_natCast, getD_of_lt hi]
      rw [w64_succ (by omega), w64_tdiv hx.1 hx.2]
      exact ih)
  simpa using this
theorem impl_divisorOf_ev (l : List Int) (hl : l.length ≤ 1048576) (hb : ∀ x ∈ l, -9223372036854775807 ≤ x ∧ x ≤ 9223372036854775807) : Ev (fun k => impl_divisorOf.f k l) (gcdL l : Int) := by
  unfold impl_divisorOf.f
  have := ev_fold (fun k (g : Nat) i => impl_divisorOf.l0 k (g : Int) l (l.length : Int) i) l (fun g x => Nat.gcd g x.natAbs) (fun g => (g : Int)) (fun g => g ≤ 9223372036854775807)
    (fun g _ => Ev.step (f := fun _ => some (g : Int)) (fun k => by simp [impl_divisorOf.l0]) (Ev.now _))
    (fun i hi g r hg => by
      have hx := hb l[i] (List.getElem_mem hi)
      refine ⟨gcd_le_max _ _ _ hg (by omega), fun ih => ?_⟩
      refine Ev.step (fun k => by rw [impl_divisorOf.l0]) ?_
      refine ev_pos (by omega) (ev_pos (by omega) (ev_pos (by omega) ?_))
      simp only [rd, Int.toNat_natCast, getD_of_lt hi]
      refine Ev.bind (impl_commonDivisor_ev _ _ (by omega) hx) ?_
      rw [w64_succ (by omega)]
      have e : ((Int.gcd (g : Int) l[i] : Nat) : Int) = ((Nat.gcd g l[i].natAbs : Nat) : Int) := by simp [Int.gcd]
      rw [e]; exact ih) 0 (by omega)
  exact this
theorem isNum_bd' {x : Int} (h : isNum x = true) : -9223372036854775807 ≤ x ∧ x ≤ 9223372036854775807 := by rw [isNum_iff] at h; omega
theorem impl_IsAtom_l0_ev (l : List Int) (c : Int) (s : Bool) (hl : l.length ≤ 1048576) (hc : isNum c = true) : Ev (fun k => impl_IsAtom.l0 k l (l.length : Int) 0 l c s) (if l.all isNum then decide (Nat.gcd (gcdL l) c.natAbs ≤ 1) else false) := by
  have := ev_allq (fun k i => impl_IsAtom.l0 k l (l.length : Int) i l c s) l isNum (decide (Nat.gcd (gcdL l) c.natAbs ≤ 1)) false
    (fun hall => by
      have hb := fun x hx => isNum_bd' (List.all_eq_true.1 hall x hx)
      have hg : gcdL l ≤ 9223372036854775807 := gcdL_le l _ (fun x hx => by have := hb x hx; omega)
      refine Ev.step (fun k => by rw [impl_IsAtom.l0, if_neg (by omega)]) ?_
      refine Ev.bind (impl_divisorOf_ev l hl hb) (Ev.bind (impl_commonDivisor_ev _ c (by omega) (isNum_bd' hc)) (ev_some ?_))
      have e : ((Int.gcd (gcdL l : Int) c : Nat) : Int) = ((Nat.gcd (gcdL l) c.natAbs : Nat) : Int) := by simp [Int.gcd]
      rw [e, Bool.eq_iff_iff]; simp; omega)
    (fun i hi r hp ih => by
      refine Ev.step (fun k => by rw [impl_IsAtom.l0]) ?_
      refine ev_pos (by omega) (ev_pos (by omega) (ev_pos (by omega) ?_))
      simp only [rd, Int.toNat_natCast, getD_of_lt hi]
      rw [impl_IsNumber_eq, w64_succ (by omega)]
      simp only [Option.bind_some]
      exact ev_pos hp ih)
    (fun i hi hp => by
      refine Ev.step (fun k => by rw [impl_IsAtom.l0]) ?_
      refine ev_pos (by omega) (ev_pos (by omega) (ev_pos (by omega) ?_))
      simp only [rd, Int.toNat_natCast, getD_of_lt hi]
      rw [impl_IsNumber_eq]
      simp only [Option.bind_some]
      exact ev_neg (by simp [hp]) (Ev.now _))
  simpa using this
theorem impl_IsAtom_ev (l : List Int) (c : Int) (s : Bool) (hl : l.length ≤ 1048576) : Ev (fun k => impl_IsAtom.f k l c s) (isAt l c) := by
  unfold impl_IsAtom.f
  refine ev_ite (fun h => ?_) (fun h => ?_)
  · refine ev_eqr (Ev.step (f := fun _ => some false) (fun k => by simp [impl_IsAtom.j0]) (Ev.now _)) ?_
    simp only [isAt, show ¬ l.length ≤ 4 by omega, decide_false, Bool.false_and]
  · rw [impl_IsNumber_eq]
    simp only [Option.bind_some]
    cases hc : isNum c with
    | false =>
      refine ev_eqr (Ev.step (f := fun _ => some false) (fun k => by simp [impl_IsAtom.j0]) (Ev.now _)) ?_
      simp [isAt, hc]
    | true =>
      refine Ev.step (f := fun k => impl_IsAtom.l0 k l (l.length : Int) 0 l c s) (fun k => by simp [impl_IsAtom.j0]) ?_
      refine ev_eqr (impl_IsAtom_l0_ev l c s hl hc) ?_
      cases hall : l.all isNum <;> simp [isAt, hc, hall, show l.length ≤ 4 by omega]
theorem impl_makeOf_j0_ev (l : List Int) (c : Int) (s : Bool) (g : Int) (hg : 0 < g) (hl : l.length ≤ 1048576) (hb : ∀ x ∈ l, -9223372036854775807 ≤ x ∧ x ≤ 9223372036854775807) (hc : -9223372036854775807 ≤ c ∧ c ≤ 9223372036854775807) :
    Ev (fun k => impl_makeOf.j0 k l c s g) (if isAt (l.map (·.tdiv g)) (c.tdiv g) then (l.map (·.tdiv g), c.tdiv g, s, true) else noAt) := by
  refine Ev.step (fun k => by rw [impl_makeOf.j0]) ?_
  refine ev_pos (by omega) (ev_pos (by simp; omega) (ev_neg (by omega) ?_))
  rw [w64_tdiv hc.1 hc.2]
  have := ev_put (fun k ys i => impl_makeOf.l0 k g l (l.length : Int) i ys (c.tdiv g) s) l (fun _ x => x.tdiv g) 0 (if isAt (l.map (·.tdiv g)) (c.tdiv g) then (l.map (·.tdiv g), c.tdiv g, s, true) else noAt)
    (by
      rw [mapIdx_const l (fun x => x.tdiv g)]
      refine Ev.step (fun k => by rw [impl_makeOf.l0, if_neg (by omega)]) ?_
      refine Ev.bind (impl_IsAtom_ev _ _ s (by simpa using hl)) ?_
      exact ev_ite (fun h => by simp only [h, if_true]; exact Ev.now _) (fun h => by simp only [h]; exact Ev.now _))
    (fun i hi ys hy ih => by
      have hx := hb l[i] (List.getElem_mem hi)
      refine Ev.step (fun k => by rw [impl_makeOf.l0]) ?_
      refine ev_pos (by omega) (ev_pos (by omega) (ev_pos (by omega) (ev_neg (by omega) (ev_pos (by omega) ?_))))
      simp only [rd, Int.toNat_natCast, getD_of_lt hi]
      rw [w64_succ (by omega), w64_tdiv hx.1 hx.2]
      exact ih)
  simpa using this
theorem impl_makeOf_ev (l : List Int) (c : Int) (s : Bool) (hl : l.length ≤ 1048576) (hb : ∀ x ∈ l, -9223372036854775807 ≤ x ∧ x ≤ 9223372036854775807) (hc : -9223372036854775807 ≤ c ∧ c ≤ 9223372036854775807) : Ev (fun k => impl_makeOf.f k l c s) (mkAt l c s) := by
  have hg : gcdL l ≤ 9223372036854775807 := gcdL_le l _ (fun x hx => by have := hb x hx; omega)
  unfold impl_makeOf.f
  refine Ev.bind (impl_divisorOf_ev l hl hb) (Ev.bind (impl_commonDivisor_ev _ c (by omega) hc) ?_)
  have e : ((Int.gcd (gcdL l : Int) c : Nat) : Int) = ((Nat.gcd (gcdL l) c.natAbs : Nat) : Int) := by simp [Int.gcd]
  rw [e]
  unfold mkAt
  refine ev_ite (fun h => ?_) (fun h => ?_)
  · have e2 : div1 (Nat.gcd (gcdL l) c.natAbs) = 1 := by unfold div1; rw [if_pos (by omega)]
    simp only [e2]
    exact impl_makeOf_j0_ev l c s 1 (by omega) hl hb hc
  · have e2 : div1 (Nat.gcd (gcdL l) c.natAbs) = ((Nat.gcd (gcdL l) c.natAbs : Nat) : Int) := by unfold div1; rw [if_neg (by omega)]
    simp only [e2]
    exact impl_makeOf_j0_ev l c s _ (by omega) hl hb hc
theorem spec_l2Steep_ev (l : List Int) (c : Int) (s : Bool) (hl : l.length ≤ 1048576) (hb : ∀ x ∈ l, -9223372036854775807 ≤ x ∧ x ≤ 9223372036854775807) : Ev (fun k => spec_l2Steep.f k l c s) (gcdL l : Int) := by
  unfold spec_l2Steep.f
  refine Ev.bind (spec_l2Gcd_ev l 0 hl hb (by omega)) (ev_some ?_)
  simp
theorem spec_l2Way_ev (l1 : List Int) (c1 : Int) (s1 : Bool) (l2 : List Int) (c2 : Int) (s2 : Bool) (hl1 : l1.length ≤ 1048576) (hlen : l1.length = l2.length)
    (hb1 : ∀ x ∈ l1, -9223372036854775807 ≤ x ∧ x ≤ 9223372036854775807) (hb2 : ∀ x ∈ l2, -9223372036854775807 ≤ x ∧ x ≤ 9223372036854775807) : Ev (fun k => spec_l2Way.f k l1 c1 s1 l2 c2 s2) (wayAt l1 l2) := by
  unfold spec_l2Way.f wayAt
  refine Ev.bind (spec_l2Steep_ev l1 c1 s1 hl1 hb1) (Ev.bind (spec_l2Steep_ev l2 c2 s2 (by omega) hb2) ?_)
  rw [mx_div1, mx_div1]
  have hp1 := div1_pos (gcdL l1)
  have hp2 := div1_pos (gcdL l2)
  have key : ∀ i, i ≤ l1.length → Ev (fun k => spec_l2Way.l0 k (div1 (gcdL l1)) (div1 (gcdL l2)) (i : Nat) l1 c1 s1 l2 c2 s2) (cmpDir (div1 (gcdL l1)) (div1 (gcdL l2)) (l1.drop i) (l2.drop i)) := by
    refine down l1.length ?_ ?_
    · rw [List.drop_length, hlen, List.drop_length]
      exact Ev.step (f := fun k => spec_l2Way.j1 k (div1 (gcdL l1)) (div1 (gcdL l2)) (l2.length : Nat) false l1 c1 s1 l2 c2 s2) (fun k => by rw [spec_l2Way.l0, if_neg (by omega)]) (Ev.step (f := fun _ => some 0) (fun k => by simp [spec_l2Way.j1]) (Ev.now _))
    · intro i hi ih
      have hi2 : i < l2.length := by omega
      have hx := hb1 l1[i] (List.getElem_mem hi)
      have hy := hb2 l2[i] (List.getElem_mem hi2)
      refine Ev.step (fun k => by rw [spec_l2Way.l0, if_pos (by omega), decide_eq_true (by omega)]) ?_
      refine Ev.step (fun k => by rw [spec_l2Way.j1, if_pos rfl]) ?_
      refine ev_pos (by omega) (ev_pos (by omega) (ev_neg (by omega) (ev_pos (by omega) (ev_neg (by omega) ?_))))
      simp only [rd, Int.toNat_natCast, getD_of_lt hi, getD_of_lt hi2]
      rw [w64_succ (by omega), w64_tdiv hx.1 hx.2, w64_tdiv hy.1 hy.2, drop_cons hi, drop_cons hi2, cmpDir]
      refine ev_ite (fun he => ?_) (fun he => ev_ite (fun hl => ?_) (fun hl => ?_))
      · rw [if_neg (by omega), if_neg (by omega)]; exact ih
      · rw [if_pos hl]; exact Ev.now _
      · rw [if_neg hl, if_pos (by omega)]; exact Ev.now _
  simpa using key 0 (by omega)
theorem div1_le {l : List Int} (h : ∀ x ∈ l, isNum x = true) : div1 (gcdL l) ≤ 400000000 := by
  have := gcdL_le l 400000000 (fun x hx => by have := isNum_iff.1 (h x hx); omega)
  unfold div1; split <;> omega
theorem spec_l2Stronger_ev (l1 : List Int) (c1 : Int) (s1 : Bool) (l2 : List Int) (c2 : Int) (s2 : Bool) (hl1 : l1.length ≤ 1048576) (hl2 : l2.length ≤ 1048576)
    (hb1 : ∀ x ∈ l1, isNum x = true) (hb2 : ∀ x ∈ l2, isNum x = true) (hc1 : isNum c1 = true) (hc2 : isNum c2 = true) :
    Ev (fun k => spec_l2Stronger.f k l1 c1 s1 l2 c2 s2) (decide (c2 * div1 (gcdL l1) < c1 * div1 (gcdL l2)) || decide (c1 * div1 (gcdL l2) = c2 * div1 (gcdL l1)) && (s1 || !s2)) := by
  unfold spec_l2Stronger.f
  refine Ev.bind (spec_l2Steep_ev l2 c2 s2 hl2 (fun x hx => isNum_bd (hb2 x hx))) (Ev.bind (spec_l2Steep_ev l1 c1 s1 hl1 (fun x hx => isNum_bd (hb1 x hx))) ?_)
  rw [mx_div1, mx_div1]
  have p1 := div1_pos (gcdL l1)
  have p2 := div1_pos (gcdL l2)
  have q1 := div1_le hb1
  have q2 := div1_le hb2
  rw [isNum_iff] at hc1 hc2
  have m1 := mul_bd (a := c1) (b := div1 (gcdL l2)) (by omega) (by omega)
  have m2 := mul_bd (a := c2) (b := div1 (gcdL l1)) (by omega) (by omega)
  rw [w64 (a := c1 * div1 (gcdL l2)) (by omega) (by omega), w64 (a := c2 * div1 (gcdL l1)) (by omega) (by omega)]
  refine ev_ite (fun h => ev_some ?_) (fun h => ev_ite (fun h' => ev_ite (fun hs => ev_some ?_) (fun hs => ev_some ?_)) (fun h' => ev_some ?_))
  · have h2 : c2 * div1 (gcdL l1) < c1 * div1 (gcdL l2) := h
    rw [decide_eq_true h2]; rfl
  · rw [hs, decide_eq_true h']; simp
  · rw [Bool.not_eq_true] at hs
    rw [hs, decide_eq_true h', h']; simp
  · have h2 : ¬ c2 * div1 (gcdL l1) < c1 * div1 (gcdL l2) := h
    rw [decide_eq_false h', decide_eq_false h2]; rfl
theorem impl_sign_eq (a b : Int) : impl_sign.f a b = some (sgn a b) := by
  unfold impl_sign.f sgn
  by_cases h : a < b
  · simp [h]
  · rw [if_neg h, if_neg h]
    by_cases h2 : b < a
    · rw [if_pos h2, if_pos (show a > b from h2)]
    · rw [if_neg h2, if_neg (show ¬ a > b from h2)]
theorem impl_directionDivisor_ev (l : List Int) (c : Int) (s : Bool) (hl : l.length ≤ 1048576) (hb : ∀ x ∈ l, -9223372036854775807 ≤ x ∧ x ≤ 9223372036854775807) : Ev (fun k => impl_directionDivisor.f k l c s) (div1 (gcdL l)) := by
  unfold impl_directionDivisor.f
  refine Ev.bind (impl_divisorOf_ev l hl hb) (ev_ite (fun h => ev_some ?_) (fun h => ev_some ?_))
  · unfold div1; rw [if_pos (by omega)]
  · unfold div1; rw [if_neg (by omega)]
theorem impl_compareDirections_ev (l1 : List Int) (c1 : Int) (s1 : Bool) (l2 : List Int) (c2 : Int) (s2 : Bool) (hl1 : l1.length ≤ 1048576) (hlen : l1.length = l2.length)
    (hb1 : ∀ x ∈ l1, -9223372036854775807 ≤ x ∧ x ≤ 9223372036854775807) (hb2 : ∀ x ∈ l2, -9223372036854775807 ≤ x ∧ x ≤ 9223372036854775807) : Ev (fun k => impl_compareDirections.f k l1 c1 s1 l2 c2 s2) (wayAt l1 l2) := by
  unfold impl_compareDirections.f wayAt
  refine Ev.bind (impl_directionDivisor_ev l1 c1 s1 hl1 hb1) (Ev.bind (impl_directionDivisor_ev l2 c2 s2 (by omega) hb2) ?_)
  have hp1 := div1_pos (gcdL l1)
  have hp2 := div1_pos (gcdL l2)
  have key : ∀ i, i ≤ l1.length → Ev (fun k => impl_compareDirections.l0 k (div1 (gcdL l1)) (div1 (gcdL l2)) (l1.length : Int) (i : Nat) l1 c1 s1 l2 c2 s2) (cmpDir (div1 (gcdL l1)) (div1 (gcdL l2)) (l1.drop i) (l2.drop i)) := by
    refine down l1.length ?_ ?_
    · rw [List.drop_length, show l2.drop l1.length = [] by rw [hlen, List.drop_length]]
      exact Ev.step (f := fun _ => some 0) (fun k => by simp [impl_compareDirections.l0]) (Ev.now _)
    · intro i hi ih
      have hi2 : i < l2.length := by omega
      have hx := hb1 l1[i] (List.getElem_mem hi)
      have hy := hb2 l2[i] (List.getElem_mem hi2)
      refine Ev.step (fun k => by rw [impl_compareDirections.l0]) ?_
      refine ev_pos (by omega) (ev_pos (by omega) (ev_pos (by omega) (ev_neg (by omega) (ev_pos (by omega) (ev_neg (by omega) ?_)))))
      simp only [rd, Int.toNat_natCast, getD_of_lt hi, getD_of_lt hi2]
      rw [w64_succ (by omega), w64_tdiv hx.1 hx.2, w64_tdiv hy.1 hy.2, drop_cons hi, drop_cons hi2, cmpDir, impl_sign_eq]
      simp only [Option.bind_some]
      unfold sgn
      by_cases h : l1[i].tdiv (div1 (gcdL l1)) < l2[i].tdiv (div1 (gcdL l2))
      · simp only [if_pos h]; exact ev_neg (by omega) (Ev.now _)
      · simp only [if_neg h]
        by_cases h2 : l2[i].tdiv (div1 (gcdL l2)) < l1[i].tdiv (div1 (gcdL l1))
        · simp only [if_pos h2]; exact ev_neg (by omega) (Ev.now _)
        · simp only [if_neg h2]; exact ev_pos (by simp) ih
  simpa using key 0 (by omega)
theorem div1_le' {l : List Int} (h : ∀ x ∈ l, isNum x = true) : div1 (gcdL l) ≤ 400000000 := by
  have := gcdL_le l 400000000 (fun x hx => by have := isNum_iff.1 (h x hx); omega)
  unfold div1; split <;> omega
theorem impl_CompareAtoms_ev (l1 : List Int) (c1 : Int) (s1 : Bool) (l2 : List Int) (c2 : Int) (s2 : Bool) (hl1 : l1.length ≤ 1048576) (hl2 : l2.length ≤ 1048576) : Ev (fun k => impl_CompareAtoms.f k l1 c1 s1 l2 c2 s2) (cmpAt l1 c1 s1 l2 c2 s2) := by
  unfold impl_CompareAtoms.f cmpAt
  have no : ∀ k, impl_CompareAtoms.j0 (k + 1) true l1 c1 s1 l2 c2 s2 = some 2 := fun k => by simp [impl_CompareAtoms.j0]
  refine Ev.bind (impl_IsAtom_ev l1 c1 s1 hl1) (ev_ite (fun h1 => Ev.bind (impl_IsAtom_ev l2 c2 s2 hl2) (ev_ite (fun h2 => ?_) (fun h2 => ?_))) (fun h1 => ?_))
  · by_cases hlen : l1.length = l2.length
    · have e : ((l1.length : Int) != (l2.length : Int)) = false := by simp [hlen]
      rw [e, h1, h2, decide_eq_true hlen]
      simp only [Bool.and_self, if_true]
      obtain ⟨_, hc1, hb1, _⟩ := isAt_iff.1 h1
      obtain ⟨_, hc2, hb2, _⟩ := isAt_iff.1 h2
      have hb1' := fun x hx => isNum_bd' (hb1 x hx)
      have hb2' := fun x hx => isNum_bd' (hb2 x hx)
      refine Ev.step (fun k => by rw [impl_CompareAtoms.j0, if_neg (by simp)]) ?_
      refine Ev.bind (impl_compareDirections_ev l1 c1 s1 l2 c2 s2 hl1 hlen hb1' hb2') (ev_ite (fun hw => ?_) (fun hw => ?_))
      · refine ev_eqr ?_ (if_neg (fun h => h hw)).symm
        refine Ev.bind (impl_directionDivisor_ev l2 c2 s2 hl2 hb2') (Ev.bind (impl_directionDivisor_ev l1 c1 s1 hl1 hb1') ?_)
        have p1 := div1_pos (gcdL l1)
        have p2 := div1_pos (gcdL l2)
        have q1 := div1_le' hb1
        have q2 := div1_le' hb2
        rw [isNum_iff] at hc1 hc2
        have m1 := mul_bd (a := c1) (b := div1 (gcdL l2)) (by omega) (by omega)
        have m2 := mul_bd (a := c2) (b := div1 (gcdL l1)) (by omega) (by omega)
        rw [w64 (a := c1 * div1 (gcdL l2)) (by omega) (by omega), w64 (a := c2 * div1 (gcdL l1)) (by omega) (by omega), impl_sign_eq]
        simp only [Option.bind_some]
        unfold strengthAt
        refine ev_ite (fun hs => ?_) (fun hs => ?_)
        · refine ev_eqr ?_ (if_neg (fun h => h hs)).symm
          refine ev_ite (fun h => ev_some ?_) (fun h => ev_ite (fun h' => ev_some ?_) (fun h' => ev_some ?_))
          · rw [if_pos (by simpa using h)]
          · rw [if_neg (by simpa using h), if_pos h']
          · rw [if_neg (by simpa using h), if_neg h']
        · rw [if_pos (by simpa using hs)]; exact Ev.now _
      · rw [if_pos (by simpa using hw)]; exact Ev.now _
    · have e : ((l1.length : Int) != (l2.length : Int)) = true := by simp; omega
      rw [e]
      refine ev_eqr (Ev.step (f := fun _ => some 2) no (Ev.now _)) ?_
      rw [decide_eq_false hlen]; simp
  · refine ev_eqr (Ev.step (f := fun _ => some 2) no (Ev.now _)) ?_
    simp [h2]
  · refine ev_eqr (Ev.step (f := fun _ => some 2) no (Ev.now _)) ?_
    simp [h1]
theorem mix_bd {p q x y : Int} (hp : 0 ≤ p ∧ p ≤ 400000000) (hq : 0 ≤ q ∧ q ≤ 400000000) (hx : isNum x = true) (hy : isNum y = true) :
    wrap64 (p * x) = p * x ∧ wrap64 (q * y) = q * y ∧ wrap64 (p * x + q * y) = p * x + q * y ∧ -9223372036854775807 ≤ p * x + q * y ∧ p * x + q * y ≤ 9223372036854775807 := by
  rw [isNum_iff] at hx hy
  have m1 := mul_bd (a := p) (b := x) (by omega) hx
  have m2 := mul_bd (a := q) (b := y) (by omega) hy
  exact ⟨w64 (by omega) (by omega), w64 (by omega) (by omega), w64 (by omega) (by omega), by omega, by omega⟩
theorem mixL_bd {p q : Int} {l1 l2 : List Int} (hp : 0 ≤ p ∧ p ≤ 400000000) (hq : 0 ≤ q ∧ q ≤ 400000000) (h1 : ∀ x ∈ l1, isNum x = true) (h2 : ∀ x ∈ l2, isNum x = true) : ∀ x ∈ mixL p l1 q l2, -9223372036854775807 ≤ x ∧ x ≤ 9223372036854775807 := by
  intro x hx
  unfold mixL at hx
  obtain ⟨i, hi, rfl⟩ := List.getElem_of_mem hx
  rw [List.length_zipWith] at hi
  rw [List.getElem_zipWith]
  have := mix_bd hp hq (h1 _ (List.getElem_mem (show i < l1.length by omega))) (h2 _ (List.getElem_mem (show i < l2.length by omega)))
  exact ⟨this.2.2.2.1, this.2.2.2.2⟩
theorem mixL_idx (p : Int) (l1 : List Int) (q : Int) (l2 : List Int) (h : l1.length = l2.length) : l1.mapIdx (fun i x => p * x + q * l2.getD i 0) = mixL p l1 q l2 := by
  unfold mixL
  refine List.ext_getElem (by simp; omega) (fun i h1 h2 => ?_)
  simp only [List.length_mapIdx] at h1
  rw [List.getElem_mapIdx, List.getElem_zipWith, getD_of_lt (by omega)]
theorem spec_MixAtoms_ev (l1 : List Int) (c1 : Int) (s1 : Bool) (p : Int) (l2 : List Int) (c2 : Int) (s2 : Bool) (q : Int) (hl1 : l1.length ≤ 1048576) (hl2 : l2.length ≤ 1048576) : Ev (fun k => spec_MixAtoms.f k l1 c1 s1 p l2 c2 s2 q) (mixAt l1 c1 s1 p l2 c2 s2 q) := by
  unfold spec_MixAtoms.f mixAt
  have no : ∀ k, spec_MixAtoms.j0 (k + 1) p q true l1 c1 s1 l2 c2 s2 = some noAt := fun k => by simp [spec_MixAtoms.j0, noAt]
  have nop : ∀ {b : Bool}, b = false → Ev (fun k => spec_MixAtoms.j0 k p q true l1 c1 s1 l2 c2 s2) (if b then mkAt (mixL p l1 q l2) (p * c1 + q * c2) (s1 && decide (0 < p) || s2 && decide (0 < q)) else noAt) := fun hb => by
    rw [hb]; exact Ev.step (f := fun _ => some noAt) no (Ev.now _)
  refine Ev.bind (spec_IsAtom_ev l1 c1 s1 hl1) (ev_ite (fun h1 => Ev.bind (spec_IsAtom_ev l2 c2 s2 hl2) (ev_ite (fun h2 => ev_ite (fun h3 => ?_) (fun h3 => ?_)) (fun h2 => ?_))) (fun h1 => ?_))
  · have h3' : l1.length = l2.length := by omega
    rw [spec_l1In_eq, spec_l1In_eq]
    simp only [Option.bind_some]
    refine ev_ite (fun h4 => ?_) (fun h4 => ?_)
    · rw [h1, h2, decide_eq_true h3', h4]
      simp only [Bool.and_self, Bool.true_and]
      cases h5 : decide (0 ≤ q) && decide (q ≤ 400000000) with
      | false => exact nop rfl
      | true =>
        simp only [if_true]
        simp only [Bool.and_eq_true, decide_eq_true_eq] at h4 h5
        obtain ⟨_, hc1, hb1, _⟩ := isAt_iff.1 h1
        obtain ⟨_, hc2, hb2, _⟩ := isAt_iff.1 h2
        have mc := mix_bd h4 h5 hc1 hc2
        have hbm := mixL_bd h4 h5 hb1 hb2
        have hlm : (mixL p l1 q l2).length ≤ 1048576 := by unfold mixL; rw [List.length_zipWith]; omega
        refine Ev.step (fun k => by rw [spec_MixAtoms.j0, if_neg (by simp)]) ?_
        exact ev_push (fun k ys i => spec_MixAtoms.l0 k p q ys i l1 c1 s1 l2 c2 s2) l1 (fun i x => p * x + q * l2.getD i 0) (mkAt (mixL p l1 q l2) (p * c1 + q * c2) (s1 && decide (0 < p) || s2 && decide (0 < q)))
          (by
            rw [mixL_idx p l1 q l2 h3']
            refine Ev.step (fun k => by rw [spec_MixAtoms.l0, if_neg (by omega)]) ?_
            rw [mc.1, mc.2.1, mc.2.2.1]
            have fin : ∀ s, Ev (fun k => (spec_l2Atom.f k (mixL p l1 q l2) (p * c1 + q * c2) s).bind fun bt => some (bt.1, bt.2.1, bt.2.2.1, bt.2.2.2)) (mkAt (mixL p l1 q l2) (p * c1 + q * c2) s) :=
              fun s => Ev.bind (spec_l2Atom_ev _ _ s hlm hbm mc.2.2.2) (Ev.now _)
            cases s1 with
            | true =>
              refine ev_pos rfl (ev_ite (fun hp => ?_) (fun hp => ?_))
              · rw [decide_eq_true (show 0 < p from hp)]; exact fin true
              · rw [decide_eq_false (show ¬ 0 < p from hp)]
                cases s2 with
                | true => refine ev_pos rfl ?_; exact fin _
                | false => refine ev_neg (by simp) ?_; exact fin _
            | false =>
              refine ev_neg (by simp) ?_
              cases s2 with
              | true => refine ev_pos rfl ?_; exact fin _
              | false => refine ev_neg (by simp) ?_; exact fin _)
          (fun i hi ys hy ih => by
            have hi2 : i < l2.length := by omega
            have mx := mix_bd h4 h5 (hb1 _ (List.getElem_mem hi)) (hb2 _ (List.getElem_mem hi2))
            refine Ev.step (fun k => by rw [spec_MixAtoms.l0]) ?_
            refine ev_pos (by omega) (ev_pos (by omega) (ev_pos (by omega) (ev_pos (by omega) ?_)))
            simp only [rd, Int.toNat_natCast, getD_of_lt hi, getD_of_lt hi2] at ih ⊢
            rw [w64_succ (by omega), mx.1, mx.2.1, mx.2.2.1]
            exact ih)
    · exact nop (by rw [Bool.not_eq_true] at h4; rw [h4]; simp)
  · exact nop (by rw [decide_eq_false (show ¬ l1.length = l2.length by omega)]; simp)
  · exact nop (by simp [h2])
  · exact nop (by simp [h1])
theorem mix_bd' {p q x y : Int} (hp : 0 ≤ p ∧ p ≤ 400000000) (hq : 0 ≤ q ∧ q ≤ 400000000) (hx : isNum x = true) (hy : isNum y = true) :
    wrap64 (p * x) = p * x ∧ wrap64 (q * y) = q * y ∧ wrap64 (p * x + q * y) = p * x + q * y ∧ -9223372036854775807 ≤ p * x + q * y ∧ p * x + q * y ≤ 9223372036854775807 := by
  rw [isNum_iff] at hx hy
  have m1 := mul_bd (a := p) (b := x) (by omega) hx
  have m2 := mul_bd (a := q) (b := y) (by omega) hy
  exact ⟨w64 (by omega) (by omega), w64 (by omega) (by omega), w64 (by omega) (by omega), by omega, by omega⟩
theorem mixL_bd' {p q : Int} {l1 l2 : List Int} (hp : 0 ≤ p ∧ p ≤ 400000000) (hq : 0 ≤ q ∧ q ≤ 400000000) (h1 : ∀ x ∈ l1, isNum x = true) (h2 : ∀ x ∈ l2, isNum x = true) : ∀ x ∈ mixL p l1 q l2, -9223372036854775807 ≤ x ∧ x ≤ 9223372036854775807 := by
  intro x hx
  unfold mixL at hx
  obtain ⟨i, hi, rfl⟩ := List.getElem_of_mem hx
  rw [List.length_zipWith] at hi
  rw [List.getElem_zipWith]
  have := mix_bd' hp hq (h1 _ (List.getElem_mem (show i < l1.length by omega))) (h2 _ (List.getElem_mem (show i < l2.length by omega)))
  exact ⟨this.2.2.2.1, this.2.2.2.2⟩
theorem mixL_idx' (p : Int) (l1 : List Int) (q : Int) (l2 : List Int) (h : l1.length = l2.length) : (List.replicate l1.length (0 : Int)).mapIdx (fun i _ => p * l1.getD i 0 + q * l2.getD i 0) = mixL p l1 q l2 := by
  unfold mixL
  refine List.ext_getElem (by simp; omega) (fun i h1 h2 => ?_)
  simp only [List.length_mapIdx, List.length_replicate] at h1
  rw [List.getElem_mapIdx, List.getElem_zipWith, getD_of_lt (by omega), getD_of_lt (by omega)]
theorem impl_MixAtoms_j1_ev (l1 : List Int) (c1 : Int) (s1 : Bool) (p : Int) (l2 : List Int) (c2 : Int) (s2 : Bool) (q : Int) (h4 : 0 ≤ p ∧ p ≤ 400000000) (h5 : 0 ≤ q ∧ q ≤ 400000000) (h1 : isAt l1 c1 = true) (h2 : isAt l2 c2 = true) (h3 : l1.length = l2.length) :
    Ev (fun k => impl_MixAtoms.j1 k p q false l1 c1 s1 l2 c2 s2) (mkAt (mixL p l1 q l2) (p * c1 + q * c2) (s1 && decide (0 < p) || s2 && decide (0 < q))) := by
  obtain ⟨hl4, hc1, hb1, _⟩ := isAt_iff.1 h1
  obtain ⟨_, hc2, hb2, _⟩ := isAt_iff.1 h2
  have mc := mix_bd' h4 h5 hc1 hc2
  have hbm := mixL_bd' h4 h5 hb1 hb2
  have hlm : (mixL p l1 q l2).length ≤ 1048576 := by unfold mixL; rw [List.length_zipWith]; omega
  refine Ev.step (fun k => by rw [impl_MixAtoms.j1, if_neg (by simp)]) ?_
  refine ev_pos (by omega) (ev_pos (by simp; omega) ?_)
  simp only [Option.bind_some, Int.toNat_natCast, List.length_replicate]
  have := ev_upd (fun k ys i => impl_MixAtoms.l0 k p q ys (l1.length : Int) i l1 c1 s1 l2 c2 s2) (List.replicate l1.length (0 : Int)) (fun i _ => p * l1.getD i 0 + q * l2.getD i 0) (mkAt (mixL p l1 q l2) (p * c1 + q * c2) (s1 && decide (0 < p) || s2 && decide (0 < q)))
    (by
      rw [mixL_idx' p l1 q l2 h3, List.length_replicate]
      refine Ev.step (fun k => by rw [impl_MixAtoms.l0, if_neg (by omega)]) ?_
      rw [mc.1, mc.2.1, mc.2.2.1]
      have fin : ∀ s, Ev (fun k => (impl_makeOf.f k (mixL p l1 q l2) (p * c1 + q * c2) s).bind fun bt => some (bt.1, bt.2.1, bt.2.2.1, bt.2.2.2)) (mkAt (mixL p l1 q l2) (p * c1 + q * c2) s) :=
        fun s => Ev.bind (impl_makeOf_ev _ _ s hlm hbm mc.2.2.2) (Ev.now _)
      have eq : (q != 0) = decide (0 < q) := by rw [Bool.eq_iff_iff]; simp; omega
      rw [eq]
      cases s1 with
      | true =>
        refine ev_pos rfl (ev_ite (fun hp => ?_) (fun hp => ?_))
        · rw [decide_eq_false (show ¬ 0 < p by omega)]
          cases s2 with
          | true => refine ev_pos rfl ?_; exact fin _
          | false => refine ev_neg (by simp) ?_; exact fin _
        · rw [decide_eq_true (show 0 < p by omega)]; exact fin true
      | false =>
        refine ev_neg (by simp) ?_
        cases s2 with
        | true => refine ev_pos rfl ?_; exact fin _
        | false => refine ev_neg (by simp) ?_; exact fin _)
    (fun i hi ys hy hyi ih => by
      rw [List.length_replicate] at hi hy
      have hi2 : i < l2.length := by omega
      have mx := mix_bd' h4 h5 (hb1 _ (List.getElem_mem hi)) (hb2 _ (List.getElem_mem hi2))
      refine Ev.step (fun k => by rw [impl_MixAtoms.l0]) ?_
      refine ev_pos (by omega) (ev_pos (by omega) (ev_pos (by omega) (ev_pos (by omega) (ev_pos (by omega) ?_))))
      simp only [rd, Int.toNat_natCast, getD_of_lt hi, getD_of_lt hi2] at ih ⊢
      rw [w64_succ (by omega), mx.1, mx.2.1, mx.2.2.1]
      exact ih)
  exact this
theorem impl_MixAtoms_ev (l1 : List Int) (c1 : Int) (s1 : Bool) (p : Int) (l2 : List Int) (c2 : Int) (s2 : Bool) (q : Int) (hl1 : l1.length ≤ 1048576) (hl2 : l2.length ≤ 1048576) : Ev (fun k => impl_MixAtoms.f k l1 c1 s1 p l2 c2 s2 q) (mixAt l1 c1 s1 p l2 c2 s2 q) := by
  unfold impl_MixAtoms.f mixAt
  have no : ∀ k, impl_MixAtoms.j0 (k + 1) p q true l1 c1 s1 l2 c2 s2 = some noAt := fun k => by simp [impl_MixAtoms.j0, noAt]
  have no1 : ∀ k, impl_MixAtoms.j1 (k + 1) p q true l1 c1 s1 l2 c2 s2 = some noAt := fun k => by simp [impl_MixAtoms.j1, noAt]
  have nop : ∀ {b : Bool}, b = false → Ev (fun k => impl_MixAtoms.j0 k p q true l1 c1 s1 l2 c2 s2) (if b then mkAt (mixL p l1 q l2) (p * c1 + q * c2) (s1 && decide (0 < p) || s2 && decide (0 < q)) else noAt) := fun hb => by
    rw [hb]; exact Ev.step (f := fun _ => some noAt) no (Ev.now _)
  have nop1 : ∀ {b : Bool}, b = false → Ev (fun k => impl_MixAtoms.j1 k p q true l1 c1 s1 l2 c2 s2) (if b then mkAt (mixL p l1 q l2) (p * c1 + q * c2) (s1 && decide (0 < p) || s2 && decide (0 < q)) else noAt) := fun hb => by
    rw [hb]; exact Ev.step (f := fun _ => some noAt) no1 (Ev.now _)
  refine Ev.bind (impl_IsAtom_ev l1 c1 s1 hl1) (ev_ite (fun h1 => Ev.bind (impl_IsAtom_ev l2 c2 s2 hl2) (ev_ite (fun h2 => ?_) (fun h2 => ?_))) (fun h1 => ?_))
  · by_cases h3 : l1.length = l2.length
    · rw [show ((l1.length : Int) != (l2.length : Int)) = false by simp [h3]]
      refine Ev.step (fun k => by rw [impl_MixAtoms.j0, if_neg (by simp)]) ?_
      refine ev_ite (fun a => nop1 ?_) (fun a => ev_ite (fun b => nop1 ?_) (fun b => ev_ite (fun c => nop1 ?_) (fun c => ?_)))
      · rw [decide_eq_false (show ¬ 0 ≤ p by omega)]; simp
      · rw [decide_eq_false (show ¬ p ≤ 400000000 by omega)]; simp
      · rw [decide_eq_false (show ¬ 0 ≤ q by omega)]; simp
      · by_cases d : q > 400000000
        · rw [decide_eq_true d]
          exact nop1 (by rw [decide_eq_false (show ¬ q ≤ 400000000 by omega)]; simp)
        · rw [decide_eq_false d, h1, h2, decide_eq_true h3, decide_eq_true (show 0 ≤ p by omega), decide_eq_true (show p ≤ 400000000 by omega), decide_eq_true (show 0 ≤ q by omega), decide_eq_true (show q ≤ 400000000 by omega)]
          exact impl_MixAtoms_j1_ev l1 c1 s1 p l2 c2 s2 q (by omega) (by omega) h1 h2 h3
    · rw [show ((l1.length : Int) != (l2.length : Int)) = true by simp; omega]
      exact nop (by rw [decide_eq_false h3]; simp)
  · exact nop (by simp [h2])
  · exact nop (by simp [h1])
def wA (x : S49) : Nat := x.f0.length
def wAs (l : List S49) : Nat := l.length + sumL (l.map wA)
def atOf (x : S52) : At := (x.f0, x.f1, x.f2)
def atsOf (l : List S52) : List At := l.map atOf
def smallA (l : List S52) : Prop := l.length ≤ 1048576 ∧ ∀ x ∈ l, x.f0.length ≤ 1048576
theorem atsOf_length (l : List S52) : (atsOf l).length = l.length := by simp [atsOf]
theorem laws_szAtomS_l0_ev (l : List S49) (hl : l.length ≤ 1048576) (hx : ∀ x ∈ l, x.f0.length ≤ maxLen) : ∀ i, i ≤ l.length → ∀ a : Int, 0 ≤ a → a ≤ 1048576 → Ev (fun k => laws_szAtomS.l0 k l a (i : Nat)) (lft a (sumL ((l.drop i).map wA))) := by
  refine down l.length ?_ ?_
  · intro a h0 h1
    refine ev_eqr (Ev.step (f := fun _ => some a) (fun k => by simp [laws_szAtomS.l0]) (Ev.now _)) ?_
    rw [List.drop_length]; simp [sumL, lft]; omega
  · intro i hi ih a h0 h1
    refine Ev.step (fun k => by rw [laws_szAtomS.l0]) ?_
    refine ev_pos (by omega) (ev_pos (by omega) ?_)
    simp only [rd_T49, Int.toNat_natCast, getD_of_lt hi]
    rw [laws_szAtom_eq _ _ _ _ (hx _ (List.getElem_mem hi)) ⟨h0, h1⟩]
    simp only [Option.bind_some]
    have e : sumL ((l.drop i).map wA) = l[i].f0.length + sumL ((l.drop (i + 1)).map wA) := by rw [drop_cons hi]; rfl
    rw [e]
    refine ev_ite (fun h => ev_some ?_) (fun h => ?_)
    · unfold lft at h ⊢; split at h <;> split <;> omega
    · have h2 := lft_nn h
      rw [w64_succ (by omega)]
      refine ev_eqr (ih _ (by omega) (by omega)) ?_
      rw [h2.2]; unfold lft; split <;> split <;> omega
theorem laws_szAtomS_ev (l : List S49) (a : Int) (hl : l.length ≤ maxLen) (hx : ∀ x ∈ l, x.f0.length ≤ maxLen) (h0 : 0 ≤ a) (h1 : a ≤ 1048576) : Ev (fun k => laws_szAtomS.f k l a) (lft a (wAs l)) := by
  unfold laws_szAtomS.f wAs
  unfold maxLen at hl
  rw [w64 (by omega) (by omega)]
  refine ev_ite (fun h => ev_some ?_) (fun h => ?_)
  · unfold lft; rw [if_pos (by omega)]
  · refine ev_eqr (laws_szAtomS_l0_ev l (by omega) hx 0 (by omega) (a - l.length) (by omega) (by omega)) ?_
    simp only [List.drop_zero]
    unfold lft; split <;> split <;> omega
theorem laws_szCell_ev (d : Int) (l : List S49) (a : Int) (hl : l.length ≤ maxLen) (hx : ∀ x ∈ l, x.f0.length ≤ maxLen) (h0 : 0 ≤ a) (h1 : a ≤ 1048576) : Ev (fun k => laws_szCell.f k d l a) (lft a (wAs l)) := by
  unfold laws_szCell.f
  refine Ev.bind (laws_szAtomS_ev l a hl hx h0 h1) (ev_ite (fun h => ev_some ?_) (fun h => Ev.now _))
  unfold lft at h ⊢; split at h <;> split <;> omega
def cvA (x : S49) : S52 := ⟨x.f0, x.f1, x.f2⟩
theorem cvA_small {l : List S49} (h : wAs l ≤ 1048576) : smallA (l.map cvA) := by
  unfold wAs at h
  refine ⟨by simp; omega, fun x hx => ?_⟩
  obtain ⟨y, hy, rfl⟩ := List.mem_map.1 hx
  have := sumL_mem (List.mem_map.2 ⟨y, hy, rfl⟩ : wA y ∈ l.map wA)
  show wA y ≤ _
  omega
theorem laws_toAtomS_ev (l : List S49) (h : wAs l ≤ 1048576) : Ev (fun k => laws_toAtomS.f k l) (l.map cvA) := by
  have hs := cvA_small h
  have hl : l.length ≤ 1048576 := by simpa using hs.1
  unfold laws_toAtomS.f
  refine ev_pos (by omega) (ev_pos (by simp; omega) ?_)
  have := ev_put (fun k ys i => laws_toAtomS.l0 k l ys i) l (fun _ x => cvA x) z52 (l.map cvA)
    (by
      rw [mapIdx_const l cvA]
      exact Ev.step (f := fun _ => some (l.map cvA)) (fun k => by simp [laws_toAtomS.l0]) (Ev.now _))
    (fun i hi ys hy ih => by
      refine Ev.step (fun k => by rw [laws_toAtomS.l0]) ?_
      refine ev_pos (by omega) (ev_pos (by omega) ?_)
      simp only [rd_T49, Int.toNat_natCast, getD_of_lt hi]
      refine Ev.bind (laws_toAtom_ev _ _ _ (hs.2 (cvA l[i]) (List.mem_map.2 ⟨_, List.getElem_mem hi, rfl⟩))) ?_
      refine ev_pos (by omega) ?_
      rw [w64_succ (by omega)]
      exact ih)
  simpa using this
theorem laws_toCell_ev (d : Int) (l : List S49) (h : wAs l ≤ 1048576) : Ev (fun k => laws_toCell.f k d l) (d, l.map cvA) := by
  unfold laws_toCell.f
  exact Ev.bind (laws_toAtomS_ev l h) (Ev.now _)
theorem laws_eqAtomS_ev (l : List S52) (h : smallA l) : Ev (fun k => laws_eqAtomS.f k l l) true := by
  unfold laws_eqAtomS.f
  have hl := h.1
  refine ev_pos rfl ?_
  have := ev_all (fun k i => laws_eqAtomS.l0 k l l i) l (fun _ => true) true false
    (Ev.step (f := fun _ => some true) (fun k => by simp [laws_eqAtomS.l0]) (Ev.now _))
    (fun i hi r _ ih => by
      refine Ev.step (fun k => by rw [laws_eqAtomS.l0]) ?_
      refine ev_pos (by omega) (ev_pos (by omega) (ev_pos (by omega) ?_))
      simp only [rd_T52, Int.toNat_natCast, getD_of_lt hi]
      refine Ev.bind (laws_eqAtom_ev _ _ _ (h.2 _ (List.getElem_mem hi))) (ev_pos rfl ?_)
      rw [w64_succ (by omega)]
      exact ih)
    (fun i hi h' => by simp at h')
  simpa using this
theorem laws_eqCell_ev (d : Int) (l : List S52) (h : smallA l) : Ev (fun k => laws_eqCell.f k d l d l) true := by
  unfold laws_eqCell.f
  exact ev_pos rfl (Ev.bind (laws_eqAtomS_ev l h) (ev_pos rfl (Ev.now _)))
theorem spec_IsCell_ev (d : Int) (l : List S52) (h : smallA l) : Ev (fun k => spec_IsCell.f k d l) (isCe d (atsOf l)) := by
  have hl := h.1
  unfold spec_IsCell.f
  have := ev_allq (fun k i => spec_IsCell.l0 k i d l) l (fun x => isAt x.f0 x.f1 && decide ((x.f0.length : Int) = d)) ((decide (0 ≤ d) && decide (d ≤ 4)) && decide (l.length ≤ 16)) false
    (fun _ => by
      refine Ev.step (fun k => by rw [spec_IsCell.l0, if_neg (by omega)]) ?_
      rw [spec_l1In_eq]
      simp only [Option.bind_some]
      refine ev_ite (fun h' => ev_some ?_) (fun h' => ev_some ?_)
      · rw [h', Bool.eq_iff_iff]; simp; omega
      · rw [Bool.not_eq_true] at h'; rw [h']; rfl)
    (fun i hi r hp ih => by
      simp only [Bool.and_eq_true, decide_eq_true_eq] at hp
      refine Ev.step (fun k => by rw [spec_IsCell.l0]) ?_
      refine ev_pos (by omega) (ev_pos (by omega) ?_)
      simp only [rd_T52, Int.toNat_natCast, getD_of_lt hi]
      refine Ev.bind (spec_IsAtom_ev _ _ _ (h.2 _ (List.getElem_mem hi))) (ev_pos hp.1 (ev_pos hp.2 ?_))
      rw [w64_succ (by omega)]
      exact ih)
    (fun i hi hp => by
      refine Ev.step (fun k => by rw [spec_IsCell.l0]) ?_
      refine ev_pos (by omega) (ev_pos (by omega) ?_)
      simp only [rd_T52, Int.toNat_natCast, getD_of_lt hi]
      refine Ev.bind (spec_IsAtom_ev _ _ _ (h.2 _ (List.getElem_mem hi))) (ev_ite (fun h1 => ev_neg ?_ (Ev.now _)) (fun _ => Ev.now _))
      intro h2
      simp [h1, h2] at hp)
  refine ev_eqr this ?_
  have e : (l.all fun x => isAt x.f0 x.f1 && decide ((x.f0.length : Int) = d)) = (atsOf l).all fun a => isAt a.1 a.2.1 && decide ((a.1.length : Int) = d) := by
    unfold atsOf; rw [List.all_map]; rfl
  unfold isCe
  rw [← e, atsOf_length]
  cases l.all fun x => isAt x.f0 x.f1 && decide ((x.f0.length : Int) = d) <;> simp
theorem impl_IsCell_ev (d : Int) (l : List S52) (h : smallA l) : Ev (fun k => impl_IsCell.f k d l) (isCe d (atsOf l)) := by
  have hl := h.1
  have e : (l.all fun x => isAt x.f0 x.f1 && decide ((x.f0.length : Int) = d)) = (atsOf l).all fun a => isAt a.1 a.2.1 && decide ((a.1.length : Int) = d) := by
    unfold atsOf; rw [List.all_map]; rfl
  unfold impl_IsCell.f
  have no : ∀ k, impl_IsCell.j0 (k + 1) true d l = some false := fun k => by simp [impl_IsCell.j0]
  refine ev_ite (fun h1 => ?_) (fun h1 => ev_ite (fun h2 => ?_) (fun h2 => ?_))
  · refine ev_eqr (Ev.step (f := fun _ => some false) no (Ev.now _)) ?_
    unfold isCe; rw [decide_eq_false (show ¬ 0 ≤ d by omega)]; rfl
  · refine ev_eqr (Ev.step (f := fun _ => some false) no (Ev.now _)) ?_
    unfold isCe; rw [decide_eq_false (show ¬ d ≤ 4 by omega)]; simp
  · by_cases h3 : (l.length : Int) > 16
    · rw [decide_eq_true h3]
      refine ev_eqr (Ev.step (f := fun _ => some false) no (Ev.now _)) ?_
      unfold isCe; rw [atsOf_length, decide_eq_false (show ¬ l.length ≤ 16 by omega)]; simp
    · rw [decide_eq_false h3]
      refine Ev.step (f := fun k => impl_IsCell.l0 k l (l.length : Int) 0 d l) (fun k => by simp [impl_IsCell.j0]) ?_
      have := ev_allq (fun k i => impl_IsCell.l0 k l (l.length : Int) i d l) l (fun x => isAt x.f0 x.f1 && decide ((x.f0.length : Int) = d)) true false
        (fun _ => Ev.step (f := fun _ => some true) (fun k => by simp [impl_IsCell.l0]) (Ev.now _))
        (fun i hi r hp ih => by
          simp only [Bool.and_eq_true, decide_eq_true_eq] at hp
          refine Ev.step (fun k => by rw [impl_IsCell.l0]) ?_
          refine ev_pos (by omega) (ev_pos (by omega) (ev_pos (by omega) ?_))
          simp only [rd_T52, Int.toNat_natCast, getD_of_lt hi]
          refine Ev.bind (impl_IsAtom_ev _ _ _ (h.2 _ (List.getElem_mem hi))) (ev_pos hp.1 (ev_pos hp.2 ?_))
          rw [w64_succ (by omega)]
          exact ih)
        (fun i hi hp => by
          refine Ev.step (fun k => by rw [impl_IsCell.l0]) ?_
          refine ev_pos (by omega) (ev_pos (by omega) (ev_pos (by omega) ?_))
          simp only [rd_T52, Int.toNat_natCast, getD_of_lt hi]
          refine Ev.bind (impl_IsAtom_ev _ _ _ (h.2 _ (List.getElem_mem hi))) (ev_ite (fun h1 => ev_neg ?_ (Ev.now _)) (fun _ => Ev.now _))
          intro h2
          simp [h1, h2] at hp)
      refine ev_eqr this ?_
      unfold isCe
      rw [← e, atsOf_length, decide_eq_true (show 0 ≤ d by omega), decide_eq_true (show d ≤ 4 by omega), decide_eq_true (show l.length ≤ 16 by omega)]
      cases l.all fun x => isAt x.f0 x.f1 && decide ((x.f0.length : Int) = d) <;> rfl
def ceOf (x : S28) : Ce := (x.f0, atsOf x.f1)
def cesOf (l : List S28) : List Ce := l.map ceOf
def smallC (l : List S28) : Prop := l.length ≤ 1048576 ∧ ∀ x ∈ l, smallA x.f1
theorem cesOf_length (l : List S28) : (cesOf l).length = l.length := by simp [cesOf]
def atB (a : At) : S52 := ⟨a.1, a.2.1, a.2.2⟩
theorem atB_of (x : S52) : atB (atOf x) = x := by cases x; rfl
def atsB (l : List At) : List S52 := l.map atB
theorem atsOf_B (l : List At) : atsOf (atsB l) = l := by
  unfold atsOf atsB
  rw [List.map_map]
  conv => rhs; rw [← List.map_id l]
  exact List.map_congr_left (fun x _ => rfl)
theorem atsB_of (l : List S52) : atsB (atsOf l) = l := by
  unfold atsOf atsB
  rw [List.map_map]
  conv => rhs; rw [← List.map_id l]
  exact List.map_congr_left (fun x _ => atB_of x)
theorem atsB_len (l : List At) : (atsB l).length = l.length := by simp [atsB]
theorem atsB_append (l m : List At) : atsB (l ++ m) = atsB l ++ atsB m := by simp [atsB]
def badA (a : At) : Bool := decide (gcdL a.1 = 0) && (decide (0 < a.2.1) || decide (a.2.1 = 0) && a.2.2)
def hasV (a : At) : Bool := !decide (gcdL a.1 = 0)
def noneA (d : Int) : At := (List.replicate d.toNat 0, 1, false)
def nrm (d : Int) (L : List At) : List At := if L.any badA then [noneA d] else nfL (L.filter hasV)
/-- A valid atom of so many coefficients. -/
def okA (d : Int) (a : At) : Prop := isAt a.1 a.2.1 = true ∧ (a.1.length : Int) = d
theorem okA_num {d : Int} {a : At} (h : okA d a) : (∀ x ∈ a.1, isNum x = true) ∧ isNum a.2.1 = true ∧ a.1.length ≤ 4 := by
  obtain ⟨h1, h2, h3, _⟩ := isAt_iff.1 h.1
  exact ⟨h3, h2, h1⟩
theorem okA_bd {d : Int} {a : At} (h : okA d a) : ∀ x ∈ a.1, -9223372036854775807 ≤ x ∧ x ≤ 9223372036854775807 := fun x hx => isNum_bd ((okA_num h).1 x hx)
theorem noneA_ok {d : Int} (h : 0 ≤ d ∧ d ≤ 4) : okA d (noneA d) := by
  refine ⟨isAt_iff.2 ⟨by simp [noneA]; omega, by simp [noneA]; decide, fun x hx => ?_, ?_⟩, by simp [noneA]; omega⟩
  · rw [(List.mem_replicate.1 hx).2]; decide
  · simp [noneA]
theorem putN_len (a : At) : ∀ R, (putN a R).length ≤ R.length + 1
  | [] => by simp [putN]
  | b :: l => by
    have := putN_len a l
    unfold putN
    split
    · simp; omega
    · split
      · split <;> simp
      · simp
theorem nfF_len : ∀ (L acc : List At), (L.foldl (fun acc a => putN a acc) acc).length ≤ acc.length + L.length
  | [], acc => by simp
  | a :: L, acc => by
    have h1 := nfF_len L (putN a acc)
    have h2 := putN_len a acc
    simp only [List.foldl_cons, List.length_cons]
    omega
theorem nfF_ok (d : Int) : ∀ (L acc : List At), (∀ a ∈ L, okA d a) → (∀ a ∈ acc, okA d a) → ∀ a ∈ L.foldl (fun acc a => putN a acc) acc, okA d a
  | [], acc, _, h => h
  | a :: L, acc, h, h' => nfF_ok d L (putN a acc) (fun x hx => h x (by simp [hx])) (fun x hx => by
    rcases putN_mem a acc x hx with rfl | hx
    · exact h x (by simp)
    · exact h' x hx)
theorem nrm_len (d : Int) (L : List At) : (nrm d L).length ≤ L.length + 1 := by
  unfold nrm
  split
  · simp
  · have := nfF_len (L.filter hasV) []
    have h2 := List.length_filter_le hasV L
    unfold nfL
    simp at this
    omega
theorem nrm_16 (d : Int) (L : List At) (h : L.length ≤ 16) : (nrm d L).length ≤ 16 := by
  unfold nrm
  split
  · simp
  · have := nfF_len (L.filter hasV) []
    have h2 := List.length_filter_le hasV L
    unfold nfL
    simp at this
    omega
theorem nrm_ok {d : Int} (hd : 0 ≤ d ∧ d ≤ 4) {L : List At} (h : ∀ a ∈ L, okA d a) : ∀ a ∈ nrm d L, okA d a := by
  unfold nrm
  split
  · intro a ha
    obtain rfl : a = noneA d := by simpa using ha
    exact noneA_ok hd
  · exact nfF_ok d _ _ (fun a ha => h a (List.mem_filter.1 ha).1) (fun a ha => by cases ha)
theorem spec_l3Put_j2f (a : S52) (P S : List S52) (hl : (P ++ S).length ≤ 200000) (x : Bool) (hx : x = false) : Ev (fun k => spec_l3Put.j2 k (P ++ S) (P.length : Nat) x a.f0 a.f1 a.f2) (P ++ a :: S) := by
  subst hx
  refine Ev.step (fun k => by rw [spec_l3Put.j2]) ?_
  refine ev_neg (by simp) ?_
  rw [List.length_append] at hl
  simp only [Option.bind_some, Int.toNat_natCast, List.take_left, List.drop_left, List.nil_append, List.length_nil, Nat.zero_add]
  refine ev_pos (by omega) (ev_pos (by simp; omega) (ev_pos (by omega) (ev_pos (by simp; omega) (ev_pos (by simp; omega) (ev_some ?_)))))
  cases a; simp
theorem stronger_iff (a b : At) : (decide (a.2.1 * div1 (gcdL b.1) < b.2.1 * div1 (gcdL a.1)) || decide (b.2.1 * div1 (gcdL a.1) = a.2.1 * div1 (gcdL b.1)) && (b.2.2 || !a.2.2)) = decide (0 ≤ stA b a) := by
  have h := stA_iff a b
  have hf := stA_flip a b
  rw [Bool.eq_iff_iff]
  simp only [Bool.or_eq_true, Bool.and_eq_true, decide_eq_true_eq, Bool.not_eq_true']
  have e : 0 ≤ stA b a ↔ stA a b ≤ 0 := by omega
  rw [e, h]
  constructor
  · rintro (h1 | ⟨h1, h2⟩)
    · exact .inl h1
    · exact .inr ⟨h1.symm, fun h3 => h2.resolve_right (by rw [h3]; simp)⟩
  · rintro (h1 | ⟨h1, h2⟩)
    · exact .inl h1
    · refine .inr ⟨h1.symm, ?_⟩
      cases hs : a.2.2
      · exact .inr rfl
      · exact .inl (h2 hs)
theorem spec_l3Put_go (d : Int) (a : S52) (ha : okA d (atOf a)) : ∀ (S P : List S52), (P ++ S).length ≤ 200000 → (∀ x ∈ S, okA d (atOf x)) →
    Ev (fun k => spec_l3Put.l0 k (P ++ S) (P.length : Nat) a.f0 a.f1 a.f2) (P ++ atsB (putN (atOf a) (atsOf S)))
  | [], P, hl, _ => by
    have e : P ++ atsB (putN (atOf a) (atsOf ([] : List S52))) = P ++ a :: [] := by
      show P ++ [atB (atOf a)] = _
      rw [atB_of]
    rw [e]
    refine Ev.step (fun k => by rw [spec_l3Put.l0]) ?_
    refine ev_neg (by simp) ?_
    refine Ev.step (fun k => by rw [spec_l3Put.j1]) ?_
    exact ev_neg (by simp) (spec_l3Put_j2f a P [] hl _ rfl)
  | b :: S, P, hl, hS => by
    have hb := hS b (by simp)
    obtain ⟨na, ca, la⟩ := okA_num ha
    obtain ⟨nb, cb, lb⟩ := okA_num hb
    have hlen : b.f0.length = a.f0.length := by have h1 := ha.2; have h2 := hb.2; simp only [atOf] at h1 h2; omega
    have hL : (P ++ b :: S).length = P.length + (S.length + 1) := by simp
    have hrd : rd_T52 (P ++ b :: S) ((P.length : Nat) : Int) = b := by simp [rd_T52, List.getD_eq_getElem?_getD]
    have hw := spec_l2Way_ev b.f0 b.f1 b.f2 a.f0 a.f1 a.f2 (by simp only [atOf] at lb; omega) hlen (okA_bd hb) (okA_bd ha)
    have ih := spec_l3Put_go d a ha S (P ++ [b]) (by simpa using hl) (fun x hx => hS x (by simp [hx]))
    refine Ev.step (fun k => by rw [spec_l3Put.l0]) ?_
    refine ev_pos (by omega) (ev_pos (by omega) ?_)
    rw [hrd]
    refine Ev.bind hw (ev_ite (fun h => ?_) (fun h => ?_))
    · have e : putN (atOf a) (atsOf (b :: S)) = atOf b :: putN (atOf a) (atsOf S) := by
        show putN (atOf a) (atOf b :: atsOf S) = _
        rw [putN]; exact if_pos h
      have e2 : P ++ atsB (putN (atOf a) (atsOf (b :: S))) = (P ++ [b]) ++ atsB (putN (atOf a) (atsOf S)) := by
        rw [e]
        show P ++ (atB (atOf b) :: _) = _
        rw [atB_of]; simp; rfl
      rw [e2, w64_succ (by omega)]
      rw [List.append_assoc] at ih
      have e3 : (P ++ [b]).length = P.length + 1 := by simp
      rw [e3] at ih
      exact ih
    · refine Ev.step (fun k => by rw [spec_l3Put.j1]) ?_
      refine ev_pos (by omega) (ev_pos (by omega) ?_)
      rw [hrd]
      refine Ev.bind hw ?_
      by_cases h0 : wayAt b.f0 a.f0 = 0
      · refine Ev.step (fun k => by rw [spec_l3Put.j2]) ?_
        refine ev_pos (by rw [h0]; rfl) (ev_pos (by omega) (ev_pos (by omega) ?_))
        rw [hrd]
        have hs := spec_l2Stronger_ev b.f0 b.f1 b.f2 a.f0 a.f1 a.f2 (by simp only [atOf] at lb; omega) (by simp only [atOf] at la; omega) nb na cb ca
        have es := stronger_iff (atOf a) (atOf b)
        simp only [atOf] at es
        refine Ev.bind (ev_eqr hs es) (ev_ite (fun h1 => ev_some ?_) (fun h1 => ?_))
        · have e : putN (atOf a) (atsOf (b :: S)) = atOf b :: atsOf S := by
            show putN (atOf a) (atOf b :: atsOf S) = _
            rw [putN]; exact (if_neg h).trans ((if_pos h0).trans (if_pos (of_decide_eq_true h1)))
          rw [e]
          show _ = P ++ (atB (atOf b) :: atsB (atsOf S))
          rw [atB_of, atsB_of]
        · simp only [Option.bind_some, List.nil_append, List.length_nil, Nat.zero_add, Int.toNat_natCast]
          refine ev_pos (by omega) (ev_pos (by omega) (ev_some ?_))
          have e : putN (atOf a) (atsOf (b :: S)) = atOf a :: atsOf S := by
            show putN (atOf a) (atOf b :: atsOf S) = _
            rw [putN]; exact (if_neg h).trans ((if_pos h0).trans (if_neg (fun h2 => h1 (decide_eq_true h2))))
          rw [e]
          show _ = P ++ (atB (atOf a) :: atsB (atsOf S))
          rw [atB_of, atsB_of, List.set_append_right _ _ (Nat.le_refl _), Nat.sub_self]
          rfl
      · have e : putN (atOf a) (atsOf (b :: S)) = atOf a :: atOf b :: atsOf S := by
          show putN (atOf a) (atOf b :: atsOf S) = _
          rw [putN]; exact (if_neg h).trans (if_neg h0)
        have e2 : P ++ atsB (putN (atOf a) (atsOf (b :: S))) = P ++ a :: b :: S := by
          rw [e]
          show P ++ (atB (atOf a) :: atB (atOf b) :: atsB (atsOf S)) = _
          rw [atB_of, atB_of, atsB_of]
        rw [e2]
        exact spec_l3Put_j2f a P (b :: S) hl _ (beq_eq_false_iff_ne.2 h0)
theorem spec_l3Put_ev (d : Int) (R : List At) (a : At) (hR : ∀ x ∈ R, okA d x) (ha : okA d a) (hl : R.length ≤ 200000) : Ev (fun k => spec_l3Put.f k (atsB R) a.1 a.2.1 a.2.2) (atsB (putN a R)) := by
  have := spec_l3Put_go d (atB a) ha (atsB R) [] (by simpa [atsB] using hl) (fun x hx => by obtain ⟨y, hy, rfl⟩ := List.mem_map.1 hx; exact hR y hy)
  rw [atsOf_B] at this
  exact this
theorem spec_l2Constant_ev (l : List Int) (c : Int) (s : Bool) (hl : l.length ≤ 1048576) : Ev (fun k => spec_l2Constant.f k l c s) (decide (gcdL l = 0)) := by
  unfold spec_l2Constant.f
  have := ev_all (fun k i => spec_l2Constant.l0 k i l c s) l (fun x => decide (x = 0)) true false
    (Ev.step (fun k => by rw [spec_l2Constant.l0, if_neg (by omega)]) (Ev.now _))
    (fun i h r hp hr => by
      refine Ev.step (fun k => by rw [spec_l2Constant.l0]) ?_
      refine ev_pos (by omega) (ev_pos (by omega) ?_)
      rw [w64_succ (by omega)]
      exact ev_pos (by simpa [rd, List.getD_eq_getElem?_getD, h] using hp) hr)
    (fun i h hp => by
      refine Ev.step (fun k => by rw [spec_l2Constant.l0]) ?_
      refine ev_pos (by omega) (ev_pos (by omega) ?_)
      exact ev_neg (by simpa [rd, List.getD_eq_getElem?_getD, h] using hp) (Ev.now _))
  refine ev_eqr this ?_
  have hz := gcdL_zero l
  by_cases h : gcdL l = 0
  · rw [if_pos (List.all_eq_true.2 (fun x hx => decide_eq_true (hz.1 h x hx))), decide_eq_true h]
  · rw [if_neg (fun h2 => h (hz.2 (fun x hx => of_decide_eq_true (List.all_eq_true.1 h2 x hx)))), decide_eq_false h]
theorem spec_l2Truth_eq (l : List Int) (c : Int) (s : Bool) : spec_l2Truth.f l c s = some (!(decide (0 < c) || decide (c = 0) && s)) := by
  unfold spec_l2Truth.f
  by_cases h : c < 0
  · rw [if_pos h, decide_eq_false (show ¬ 0 < c by omega), decide_eq_false (show ¬ c = 0 by omega)]; rfl
  · rw [if_neg h]
    by_cases h0 : c = 0
    · rw [if_pos h0, decide_eq_false (show ¬ 0 < c by omega), decide_eq_true h0]; cases s <;> rfl
    · rw [if_neg h0, decide_eq_true (show 0 < c by omega)]; rfl
theorem spec_l3Normal_go (d : Int) (hd : 0 ≤ d ∧ d ≤ 4) (L : List At) (hl : L.length ≤ 100000) (hL : ∀ a ∈ L, okA d a) : ∀ (S : List At) (i : Nat) (acc : List At), L.drop i = S → i ≤ L.length → acc.length ≤ i → (∀ a ∈ acc, okA d a) →
    Ev (fun k => spec_l3Normal.l0 k d (atsB L) (i : Nat) d (atsB acc)) (d, atsB (if S.any badA then [noneA d] else (S.filter hasV).foldl (fun acc a => putN a acc) acc))
  | [], i, acc, hS, hi, ha, hok => by
    have : L.length ≤ i := by simpa using hS
    refine Ev.step (fun k => by rw [spec_l3Normal.l0]) ?_
    exact ev_neg (by rw [atsB_len]; omega) (Ev.now _)
  | a :: S, i, acc, hS, hi, ha, hok => by
    have hlt : i < L.length := by
      rcases Nat.lt_or_ge i L.length with h | h
      · exact h
      · rw [List.drop_of_length_le h] at hS; cases hS
    rw [List.drop_eq_getElem_cons hlt] at hS
    obtain ⟨hx, hS⟩ := List.cons.inj hS
    have hoka : okA d a := hL a (by rw [← hx]; exact List.getElem_mem _)
    obtain ⟨na, ca, la⟩ := okA_num hoka
    have hrd : rd_T52 (atsB L) ((i : Nat) : Int) = atB a := by
      have h2 : i < (atsB L).length := by rw [atsB_len]; exact hlt
      simp only [rd_T52, Int.toNat_natCast]
      rw [getD_of_lt h2]
      simp [atsB, hx]
    refine Ev.step (fun k => by rw [spec_l3Normal.l0]) ?_
    refine ev_pos (by rw [atsB_len]; omega) (ev_pos (by omega) ?_)
    rw [hrd]
    show Ev (fun k => (spec_l2Constant.f k a.1 a.2.1 a.2.2).bind _) _
    refine Ev.bind (spec_l2Constant_ev a.1 a.2.1 a.2.2 (by omega)) (ev_ite (fun hc => ?_) (fun hc => ?_))
    · show Ev (fun k => (spec_l2Truth.f a.1 a.2.1 a.2.2).bind _) _
      have eb : badA a = (decide (0 < a.2.1) || decide (a.2.1 = 0) && a.2.2) := by unfold badA; rw [hc]; rfl
      have eh : hasV a = false := by unfold hasV; rw [hc]; rfl
      refine ev_bindS (spec_l2Truth_eq _ _ _) ?_
      rw [← eb]
      refine ev_ite (fun ht => ?_) (fun ht => ?_)
      · have hb : badA a = false := by simpa using ht
        have ih := spec_l3Normal_go d hd L hl hL S (i + 1) acc hS (by omega) (by omega) hok
        rw [w64_succ (by omega), List.any_cons, hb, Bool.false_or, List.filter_cons_of_neg (by rw [eh]; simp)]
        exact ih
      · have hb : badA a = true := by simpa using ht
        rw [List.any_cons, hb, Bool.true_or, if_pos rfl]
        have en : spec_l3None.f d = some (d, [atB (noneA d)]) := by
          unfold spec_l3None.f
          rw [if_pos hd.1, if_pos (by omega)]; rfl
        exact ev_bindS en (Ev.now _)
    · have eb : badA a = false := by unfold badA; rw [Bool.eq_false_iff.2 hc]; rfl
      have eh : hasV a = true := by unfold hasV; rw [Bool.eq_false_iff.2 hc]; rfl
      have ea : spec_l3Atom.f a.1 a.2.1 a.2.2 = some (a.1, a.2.1, a.2.2) := by
        unfold spec_l3Atom.f
        simp only [Option.bind_some, List.nil_append, List.length_nil, Nat.zero_add]
        rw [if_pos (by omega)]
      have ih := spec_l3Normal_go d hd L hl hL S (i + 1) (putN a acc) hS (by omega) (by have := putN_len a acc; omega) (fun x hx => by
        rcases putN_mem a acc x hx with rfl | hx
        · exact hoka
        · exact hok x hx)
      show Ev (fun k => (spec_l3Atom.f a.1 a.2.1 a.2.2).bind _) _
      refine ev_bindS ea (Ev.bind (spec_l3Put_ev d acc a hok hoka (by omega)) ?_)
      rw [w64_succ (by omega), List.any_cons, eb, Bool.false_or, List.filter_cons_of_pos eh, List.foldl_cons]
      exact ih
theorem spec_l3Normal_ev (d : Int) (hd : 0 ≤ d ∧ d ≤ 4) (L : List At) (hl : L.length ≤ 100000) (hL : ∀ a ∈ L, okA d a) : Ev (fun k => spec_l3Normal.f k d (atsB L)) (d, atsB (nrm d L)) :=
  spec_l3Normal_go d hd L hl hL L 0 [] rfl (Nat.zero_le _) (Nat.zero_le _) (fun a ha => by cases ha)
/-- Many evaluations that end, all at once. -/
theorem ev_many {α β : Type} (g : Nat → α → Option β) (f : α → β) : ∀ l : List α, (∀ a ∈ l, Ev (fun k => g k a) (f a)) → ∃ K, ∀ k, K ≤ k → ∀ a ∈ l, g k a = some (f a)
  | [], _ => ⟨0, fun _ _ a ha => by cases ha⟩
  | a :: l, h => by
    obtain ⟨K1, h1⟩ := h a (by simp)
    obtain ⟨K2, h2⟩ := ev_many g f l (fun x hx => h x (by simp [hx]))
    refine ⟨max K1 K2, fun k hk x hx => ?_⟩
    rcases List.mem_cons.1 hx with rfl | hx
    · exact h1 k (by omega)
    · exact h2 k (by omega) x hx
theorem ev_many2 {α β : Type} (g : Nat → α → α → Option β) (f : α → α → β) (l : List α) (h : ∀ a ∈ l, ∀ b ∈ l, Ev (fun k => g k a b) (f a b)) : ∃ K, ∀ k, K ≤ k → ∀ a ∈ l, ∀ b ∈ l, g k a b = some (f a b) := by
  obtain ⟨K, hK⟩ := ev_many (fun k (p : α × α) => g k p.1 p.2) (fun p => f p.1 p.2) (l.flatMap fun a => l.map fun b => (a, b)) (fun p hp => by
    obtain ⟨a, ha, hp⟩ := List.mem_flatMap.1 hp
    obtain ⟨b, hb, rfl⟩ := List.mem_map.1 hp
    exact h a ha b hb)
  exact ⟨K, fun k hk a ha b hb => hK k hk (a, b) (List.mem_flatMap.2 ⟨a, ha, List.mem_map.2 ⟨b, hb, rfl⟩⟩)⟩
def cmpB (a b : S52) : Int := cmpK (atOf a) (atOf b)
theorem cmpAt_K {d : Int} {a b : At} (ha : okA d a) (hb : okA d b) : cmpAt a.1 a.2.1 a.2.2 b.1 b.2.1 b.2.2 = cmpK a b := by
  have hl : a.1.length = b.1.length := by have h1 := ha.2; have h2 := hb.2; omega
  unfold cmpAt cmpK stA
  rw [if_pos (by simp [ha.1, hb.1, hl])]
theorem sort_ev (d : Int) (K : List S52) (hl : K.length ≤ 100000) (hK : ∀ x ∈ K, okA d (atOf x) ∧ gcdL x.f0 ≠ 0) : Ev (fun k => slices_SortFunc.f k K) (isort cmpB K) := by
  obtain ⟨N, hN⟩ := ev_many2 (fun k a b => cmpO k a b) cmpB K (fun a ha b hb => by
    have h1 := (hK a ha).1
    have h2 := (hK b hb).1
    have l1 := (okA_num h1).2.2
    have l2 := (okA_num h2).2.2
    simp only [atOf] at l1 l2
    have := impl_CompareAtoms_ev a.f0 a.f1 a.f2 b.f0 b.f1 b.f2 (by omega) (by omega)
    have e := cmpAt_K h1 h2
    simp only [atOf] at e
    rw [e] at this
    exact this)
  refine ⟨N, fun k hk => ?_⟩
  have hc := hN k hk
  have hI : ∀ a ∈ K, ∀ b ∈ K, cmpI k a b = cmpB a b := fun a ha b hb => by unfold cmpI; rw [hc a ha b hb]; rfl
  have hlen : ∀ a ∈ K, ∀ b ∈ K, (atOf a).1.length = (atOf b).1.length := fun a ha b hb => by have h1 := (hK a ha).1.2; have h2 := (hK b hb).1.2; omega
  have fine : cmpFine k K := by
    refine ⟨by omega, fun a ha b hb => by rw [hc a ha b hb]; rfl, fun a ha b hb => ?_, fun a ha b hb h0 => ?_, fun a ha b hb c hcc h1 h2 => ?_⟩
    · rw [hI a ha b hb, hI b hb a ha]; exact cmpK_flip _ _
    · rw [hI a ha b hb] at h0
      have e := cmpK_eq (hK a ha).1.1 (hK b hb).1.1 (hlen a ha b hb) (hK a ha).2 (hK b hb).2 h0
      have e1 := congrArg Prod.fst e
      have e2 := congrArg Prod.snd e
      exact ⟨e1, congrArg Prod.fst e2, congrArg Prod.snd e2⟩
    · rw [hI a ha b hb] at h1
      rw [hI b hb c hcc] at h2
      rw [hI a ha c hcc]
      exact cmpK_trans (hlen a ha b hb) (hlen b hb c hcc) h1 h2
  unfold slices_SortFunc.f
  exact (if_pos fine).trans (congrArg some (isort_congr (cmpI k) cmpB K hI))
theorem impl_normal_l1 (d e : Int) (T : List S52) (hl : T.length ≤ 100000) (hT : ∀ x ∈ T, okA d (atOf x)) : ∀ (S : List S52) (i : Nat) (acc : List S52), T.drop i = S → i ≤ T.length → acc.length ≤ i →
    Ev (fun k => impl_normalOf.l1 k T T (T.length : Int) (i : Nat) e acc) (e, acc ++ atsB (ddN (atsOf S)))
  | [], i, acc, hS, hi, ha => by
    have : T.length ≤ i := by simpa using hS
    refine Ev.step (fun k => by rw [impl_normalOf.l1]) ?_
    refine ev_neg (by omega) (ev_some ?_)
    show _ = (e, acc ++ [])
    rw [List.append_nil]
  | a :: S, i, acc, hS, hi, ha => by
    have hlt : i < T.length := by
      rcases Nat.lt_or_ge i T.length with h | h
      · exact h
      · rw [List.drop_of_length_le h] at hS; cases hS
    rw [List.drop_eq_getElem_cons hlt] at hS
    obtain ⟨hx, hS⟩ := List.cons.inj hS
    have hrd : rd_T52 T ((i : Nat) : Int) = a := by
      simp only [rd_T52, Int.toNat_natCast]
      rw [getD_of_lt hlt, hx]
    have oka := hT a (by rw [← hx]; exact List.getElem_mem _)
    refine Ev.step (fun k => by rw [impl_normalOf.l1]) ?_
    refine ev_pos (by omega) (ev_pos (by omega) (ev_pos (by omega) ?_))
    rw [hrd, w64_succ (by omega)]
    have push := impl_normal_l1 d e T hl hT S (i + 1) (acc ++ [a]) hS (by omega) (by simp; omega)
    rw [List.append_assoc] at push
    refine ev_ite (fun h => ev_pos (by omega) ?_) (fun h => ?_)
    · have hlt2 : i + 1 < T.length := by omega
      cases S with
      | nil =>
        have : T.length ≤ i + 1 := by simpa using hS
        omega
      | cons b S =>
        have hS2 := hS
        rw [List.drop_eq_getElem_cons hlt2] at hS2
        obtain ⟨hy, hS2⟩ := List.cons.inj hS2
        have hrd2 : rd_T52 T ((i + 1 : Nat) : Int) = b := by
          simp only [rd_T52, Int.toNat_natCast]
          rw [getD_of_lt hlt2, hy]
        have okb := hT b (by rw [← hy]; exact List.getElem_mem _)
        have hlen : a.f0.length = b.f0.length := by have h1 := oka.2; have h2 := okb.2; simp only [atOf] at h1 h2; omega
        have la := (okA_num oka).2.2
        simp only [atOf] at la
        have skip := impl_normal_l1 d e T hl hT (b :: S) (i + 1) acc hS (by omega) (by omega)
        rw [hrd2]
        refine Ev.bind (impl_compareDirections_ev a.f0 a.f1 a.f2 b.f0 b.f1 b.f2 (by omega) hlen (okA_bd oka) (okA_bd okb)) (ev_ite (fun h0 => ?_) (fun h0 => ev_pos (by omega) ?_))
        · have ed : ddN (atsOf (a :: b :: S)) = ddN (atsOf (b :: S)) := by
            show ddN (atOf a :: atOf b :: atsOf S) = _
            rw [ddN]; exact if_pos h0
          rw [ed]; exact skip
        · have ed : ddN (atsOf (a :: b :: S)) = atOf a :: ddN (atsOf (b :: S)) := by
            show ddN (atOf a :: atOf b :: atsOf S) = _
            rw [ddN]; exact if_neg h0
          rw [ed]
          have e2 : acc ++ atsB (atOf a :: ddN (atsOf (b :: S))) = acc ++ ([a] ++ atsB (ddN (atsOf (b :: S)))) := by
            show acc ++ (atB (atOf a) :: _) = _
            rw [atB_of]; rfl
          rw [e2]; exact push
    · have hS0 : S = [] := by
        have : T.length ≤ i + 1 := by omega
        rw [List.drop_of_length_le this] at hS
        exact hS.symm
      subst hS0
      refine ev_pos (by omega) ?_
      have ed : acc ++ atsB (ddN (atsOf [a])) = acc ++ ([a] ++ atsB (ddN (atsOf ([] : List S52)))) := by
        show acc ++ [atB (atOf a)] = acc ++ ([a] ++ [])
        rw [atB_of]; simp
      rw [ed]; exact push
theorem impl_normal_sorted (d : Int) (K : List S52) (hl : K.length ≤ 100000) (hK : ∀ x ∈ K, okA d (atOf x) ∧ gcdL x.f0 ≠ 0) :
    Ev (fun k => (slices_SortFunc.f k K).bind fun t => impl_normalOf.l1 k t t (t.length : Int) 0 d ([] : List S52)) (d, atsB (nfL (atsOf K))) := by
  have hp := isort_perm cmpB K
  have hlen : ∀ a ∈ K, ∀ b ∈ K, (atOf a).1.length = (atOf b).1.length := fun a ha b hb => by have h1 := (hK a ha).1.2; have h2 := (hK b hb).1.2; omega
  have hs := isort_sorted cmpB K (fun x hx y hy => cmpK_flip _ _) (fun x hx y hy z hz h1 h2 => cmpK_trans (hlen x hx y hy) (hlen y hy z hz) h1 h2)
  have h1 := impl_normal_l1 d d (isort cmpB K) (by rw [hp.length_eq]; exact hl) (fun x hx => (hK x (hp.mem_iff.1 hx)).1) (isort cmpB K) 0 [] rfl (Nat.zero_le _) (Nat.zero_le _)
  have e : ddN (atsOf (isort cmpB K)) = nfL (atsOf K) := dd_nf d.toNat (atsOf K) (atsOf (isort cmpB K)) (fun a ha => by
    obtain ⟨x, hx, rfl⟩ := List.mem_map.1 ha
    have h := hK x hx
    exact ⟨h.1.1, by have := h.1.2; omega, h.2⟩) (hp.map atOf) (List.pairwise_map.2 hs)
  rw [e] at h1
  exact Ev.bind (sort_ev d K hl hK) h1
theorem impl_normal_l0 (d : Int) (hd : 0 ≤ d ∧ d ≤ 4) (L : List At) (hl : L.length ≤ 100000) (hL : ∀ a ∈ L, okA d a) : ∀ (S : List At) (i : Nat) (acc : List At), L.drop i = S → i ≤ L.length → acc.length ≤ i → (∀ a ∈ acc, okA d a ∧ gcdL a.1 ≠ 0) →
    Ev (fun k => impl_normalOf.l0 k d (atsB acc) (atsB L) ((atsB L).length : Int) (i : Nat)) (d, atsB (if S.any badA then [noneA d] else nfL (acc ++ S.filter hasV)))
  | [], i, acc, hS, hi, ha, hok => by
    have : L.length ≤ i := by simpa using hS
    refine Ev.step (fun k => by rw [impl_normalOf.l0]) ?_
    refine ev_neg (by rw [atsB_len]; omega) ?_
    have := impl_normal_sorted d (atsB acc) (by rw [atsB_len]; omega) (fun x hx => by obtain ⟨y, hy, rfl⟩ := List.mem_map.1 hx; exact hok y hy)
    rw [atsOf_B] at this
    refine ev_eqr this ?_
    show _ = (d, atsB (nfL (acc ++ [])))
    rw [List.append_nil]
  | a :: S, i, acc, hS, hi, ha, hok => by
    have hlt : i < L.length := by
      rcases Nat.lt_or_ge i L.length with h | h
      · exact h
      · rw [List.drop_of_length_le h] at hS; cases hS
    rw [List.drop_eq_getElem_cons hlt] at hS
    obtain ⟨hx, hS⟩ := List.cons.inj hS
    have hoka : okA d a := hL a (by rw [← hx]; exact List.getElem_mem _)
    obtain ⟨na, ca, la⟩ := okA_num hoka
    have hrd : rd_T52 (atsB L) ((i : Nat) : Int) = atB a := by
      have h2 : i < (atsB L).length := by rw [atsB_len]; exact hlt
      simp only [rd_T52, Int.toNat_natCast]
      rw [getD_of_lt h2]
      simp [atsB, hx]
    have hvar : Ev (fun k => impl_hasVariables.f k a.1 a.2.1 a.2.2) (hasV a) := by
      unfold impl_hasVariables.f
      refine Ev.bind (impl_divisorOf_ev a.1 (by omega) (okA_bd hoka)) (ev_some ?_)
      unfold hasV
      by_cases h : gcdL a.1 = 0
      · rw [h]; rfl
      · rw [decide_eq_false h]; exact bne_iff_ne.2 (by omega)
    have next : badA a = false → hasV a = false → Ev (fun k => impl_normalOf.l0 k d (atsB acc) (atsB L) ((atsB L).length : Int) ((i + 1 : Nat) : Int)) (d, atsB (if (a :: S).any badA then [noneA d] else nfL (acc ++ (a :: S).filter hasV))) := fun hb hv => by
      have ih := impl_normal_l0 d hd L hl hL S (i + 1) acc hS (by omega) (by omega) hok
      rw [List.any_cons, hb, Bool.false_or, List.filter_cons_of_neg (by rw [hv]; simp)]
      exact ih
    have stop : badA a = true → Ev (fun k => (impl_emptyCell.f d).bind fun t => some (t.1, t.2)) (d, atsB (if (a :: S).any badA then [noneA d] else nfL (acc ++ (a :: S).filter hasV))) := fun hb => by
      rw [List.any_cons, hb, Bool.true_or, if_pos rfl]
      have en : impl_emptyCell.f d = some (d, [atB (noneA d)]) := by
        unfold impl_emptyCell.f
        rw [if_pos hd.1, if_pos (by omega)]; rfl
      exact ev_bindS en (Ev.now _)
    have j1 : ∀ x, hasV a = false → badA a = x → Ev (fun k => impl_normalOf.j1 k d (atsB acc) (atsB L) ((atsB L).length : Int) (i : Nat) x) (d, atsB (if (a :: S).any badA then [noneA d] else nfL (acc ++ (a :: S).filter hasV))) := fun x hv hb => by
      refine Ev.step (fun k => by rw [impl_normalOf.j1]) ?_
      rw [w64_succ (by omega)]
      exact ev_ite (fun h => stop (hb.trans h)) (fun h => next (hb.trans (Bool.eq_false_iff.2 h)) hv)
    refine Ev.step (fun k => by rw [impl_normalOf.l0]) ?_
    refine ev_pos (by rw [atsB_len]; omega) (ev_pos (by omega) (ev_pos (by rw [atsB_len]; omega) ?_))
    rw [hrd]
    refine Ev.bind hvar (ev_ite (fun hv => ?_) (fun hv => ?_))
    · have hg : gcdL a.1 ≠ 0 := by unfold hasV at hv; simpa using hv
      have eb : badA a = false := by unfold badA; rw [decide_eq_false hg]; rfl
      have ea : impl_copyAtom.f a.1 a.2.1 a.2.2 = some (a.1, a.2.1, a.2.2) := by
        unfold impl_copyAtom.f impl_copyNumbers.f
        simp only [Option.bind_some, List.nil_append, List.length_nil, Nat.zero_add]
        rw [if_pos (by omega)]; rfl
      have ih := impl_normal_l0 d hd L hl hL S (i + 1) (acc ++ [a]) hS (by omega) (by simp; omega) (fun x hx => by
        rcases List.mem_append.1 hx with hx | hx
        · exact hok x hx
        · obtain rfl : x = a := by simpa using hx
          exact ⟨hoka, hg⟩)
      refine ev_bindS ea (ev_pos (by rw [atsB_len]; omega) ?_)
      rw [w64_succ (by omega), List.any_cons, eb, Bool.false_or, List.filter_cons_of_pos hv]
      rw [atsB_append, List.append_assoc] at ih
      exact ih
    · have hv2 : hasV a = false := Bool.eq_false_iff.2 hv
      have hg : decide (gcdL a.1 = 0) = true := by unfold hasV at hv2; simpa using hv2
      refine ev_ite (fun h1 => j1 _ hv2 ?_) (fun h1 => ev_ite (fun h2 => j1 _ hv2 ?_) (fun h2 => j1 _ hv2 ?_))
      · have h3 : 0 < a.2.1 := h1
        unfold badA; rw [hg, decide_eq_true h3]; rfl
      · have h3 : ¬ 0 < a.2.1 := h1
        have h4 : a.2.1 = 0 := h2
        unfold badA; rw [hg, decide_eq_false h3, decide_eq_true h4]; rfl
      · have h3 : ¬ 0 < a.2.1 := h1
        have h4 : ¬ a.2.1 = 0 := h2
        unfold badA; rw [hg, decide_eq_false h3, decide_eq_false h4]; rfl
theorem impl_normalOf_ev (d : Int) (hd : 0 ≤ d ∧ d ≤ 4) (L : List At) (hl : L.length ≤ 100000) (hL : ∀ a ∈ L, okA d a) : Ev (fun k => impl_normalOf.f k d (atsB L)) (d, atsB (nrm d L)) := by
  have := impl_normal_l0 d hd L hl hL L 0 [] rfl (Nat.zero_le _) (Nat.zero_le _) (fun a ha => by cases ha)
  rw [List.nil_append] at this
  exact this
/-- One atom mixed with all that bound a variable below. -/
def mixGo (v : Nat) (a : At) : List At → List At → Option (List At)
  | [], acc => some acc
  | b :: bs, acc => if 0 ≤ b.1.getD v 0 then mixGo v a bs acc else
      if (mixAt a.1 a.2.1 a.2.2 (-(b.1.getD v 0)) b.1 b.2.1 b.2.2 (a.1.getD v 0)).2.2.2 = true then
        mixGo v a bs (acc ++ [((mixAt a.1 a.2.1 a.2.2 (-(b.1.getD v 0)) b.1 b.2.1 b.2.2 (a.1.getD v 0)).1, (mixAt a.1 a.2.1 a.2.2 (-(b.1.getD v 0)) b.1 b.2.1 b.2.2 (a.1.getD v 0)).2.1, (mixAt a.1 a.2.1 a.2.2 (-(b.1.getD v 0)) b.1 b.2.1 b.2.2 (a.1.getD v 0)).2.2.1)])
      else none
def dropGo (v : Nat) (L : List At) : List At → List At → Option (List At)
  | [], acc => some acc
  | a :: tl_, acc => if a.1.getD v 0 ≤ 0 then dropGo v L tl_ acc else (mixGo v a L acc).bind (dropGo v L tl_)
def free (v : Nat) (a : At) : Bool := decide (a.1.getD v 0 = 0)
def limN (d : Int) (M : List At) : Int × List At × Bool := if 16 < (nrm d M).length then (0, [], false) else (d, nrm d M, true)
def dropC (d : Int) (v : Nat) (L : List At) : Int × List At × Bool := match dropGo v L L (L.filter (free v)) with
  | none => (0, [], false)
  | some M => limN d M
theorem mkAt_ok {l : List Int} {c : Int} {s : Bool} (h : (mkAt l c s).2.2.2 = true) : isAt (mkAt l c s).1 (mkAt l c s).2.1 = true ∧ (mkAt l c s).1.length = l.length := by
  unfold mkAt at h ⊢
  simp only [] at h ⊢
  split
  · rename_i hi; exact ⟨hi, by simp⟩
  · rename_i hi; rw [if_neg hi] at h; exact absurd h (by simp [noAt])
theorem mixAt_ok {d : Int} {a b : At} {p q : Int} (ha : okA d a) (hb : okA d b) (h : (mixAt a.1 a.2.1 a.2.2 p b.1 b.2.1 b.2.2 q).2.2.2 = true) : okA d ((mixAt a.1 a.2.1 a.2.2 p b.1 b.2.1 b.2.2 q).1, (mixAt a.1 a.2.1 a.2.2 p b.1 b.2.1 b.2.2 q).2.1, (mixAt a.1 a.2.1 a.2.2 p b.1 b.2.1 b.2.2 q).2.2.1) := by
  unfold mixAt at h ⊢
  split
  · rename_i hi
    rw [if_pos hi] at h
    obtain ⟨h1, h2⟩ := mkAt_ok h
    refine ⟨h1, ?_⟩
    have hl : (mixL p a.1 q b.1).length = a.1.length := by
      have h3 := ha.2; have h4 := hb.2
      unfold mixL
      rw [List.length_zipWith]; omega
    show ((mkAt _ _ _).1.length : Int) = d
    rw [h2, hl]; exact ha.2
  · rename_i hi
    rw [if_neg hi] at h; exact absurd h (by simp [noAt])
theorem mixGo_ok {d : Int} (v : Nat) {a : At} (ha : okA d a) : ∀ (bs acc M : List At), (∀ b ∈ bs, okA d b) → (∀ b ∈ acc, okA d b) → mixGo v a bs acc = some M → (∀ b ∈ M, okA d b) ∧ M.length ≤ acc.length + bs.length
  | [], acc, M, _, h, e => by
    obtain rfl := Option.some.inj e
    exact ⟨h, by simp⟩
  | b :: bs, acc, M, hb, h, e => by
    unfold mixGo at e
    have hb' : ∀ x ∈ bs, okA d x := fun x hx => hb x (by simp [hx])
    split at e
    · have := mixGo_ok v ha bs acc M hb' h e
      exact ⟨this.1, by simp; omega⟩
    · split at e
      · rename_i hm
        have := mixGo_ok v ha bs _ M hb' (fun x hx => by
          rcases List.mem_append.1 hx with hx | hx
          · exact h x hx
          · obtain rfl := List.mem_singleton.1 hx
            exact mixAt_ok ha (hb b (by simp)) hm) e
        exact ⟨this.1, by have h2 := this.2; simp at h2 ⊢; omega⟩
      · cases e
theorem dropGo_ok {d : Int} (v : Nat) {L : List At} (hL : ∀ a ∈ L, okA d a) : ∀ (tl_ acc M : List At), (∀ a ∈ tl_, okA d a) → (∀ b ∈ acc, okA d b) → dropGo v L tl_ acc = some M → (∀ b ∈ M, okA d b) ∧ M.length ≤ acc.length + tl_.length * L.length
  | [], acc, M, _, h, e => by
    obtain rfl := Option.some.inj e
    exact ⟨h, by simp⟩
  | a :: tl_, acc, M, ha, h, e => by
    unfold dropGo at e
    have ha' : ∀ x ∈ tl_, okA d x := fun x hx => ha x (by simp [hx])
    split at e
    · have := dropGo_ok v hL tl_ acc M ha' h e
      exact ⟨this.1, by have h2 := this.2; rw [List.length_cons, Nat.add_mul]; omega⟩
    · obtain ⟨M1, e1, e2⟩ := Option.bind_eq_some_iff.mp e
      have h1 := mixGo_ok v (ha a (by simp)) L acc M1 hL h e1
      have h2 := dropGo_ok v hL tl_ M1 M ha' h1.1 e2
      exact ⟨h2.1, by rw [List.length_cons, Nat.add_mul]; omega⟩
theorem drop_mid {d : Int} (v : Nat) {L M : List At} (hl : L.length ≤ 16) (hL : ∀ a ∈ L, okA d a) (e : dropGo v L L (L.filter (free v)) = some M) : (∀ b ∈ M, okA d b) ∧ M.length ≤ 100000 := by
  have := dropGo_ok v hL L _ M hL (fun b hb => hL b (List.mem_filter.1 hb).1) e
  have h1 := List.length_filter_le (free v) L
  have h2 : L.length * L.length ≤ 16 * 16 := Nat.mul_le_mul hl hl
  exact ⟨this.1, by omega⟩
theorem dropC_ok {d : Int} (hd : 0 ≤ d ∧ d ≤ 4) (v : Nat) {L : List At} (hl : L.length ≤ 16) (hL : ∀ a ∈ L, okA d a) (h : (dropC d v L).2.2 = true) : (dropC d v L).1 = d ∧ (dropC d v L).2.1.length ≤ 16 ∧ ∀ a ∈ (dropC d v L).2.1, okA d a := by
  unfold dropC at h ⊢
  cases e : dropGo v L L (L.filter (free v)) with
  | none => rw [e] at h; cases h
  | some M =>
    rw [e] at h
    obtain ⟨h1, h2⟩ := drop_mid v hl hL e
    simp only [limN] at h ⊢
    split at h
    · cases h
    · rename_i h16
      rw [if_neg h16]
      exact ⟨rfl, by show (nrm d M).length ≤ 16; omega, nrm_ok hd h1⟩
theorem coef_bd {d : Int} {a : At} (h : okA d a) (v : Nat) : -400000000 ≤ a.1.getD v 0 ∧ a.1.getD v 0 ≤ 400000000 := by
  by_cases hv : v < a.1.length
  · rw [getD_of_lt hv]
    exact isNum_iff.1 ((okA_num h).1 _ (List.getElem_mem _))
  · rw [List.getD_eq_getElem?_getD, List.getElem?_eq_none (by omega)]; simp
theorem rd_atsB (L : List At) (i : Nat) (h : i < L.length) : rd_T52 (atsB L) ((i : Nat) : Int) = atB L[i] := by
  have h2 : i < (atsB L).length := by rw [atsB_len]; exact h
  simp only [rd_T52, Int.toNat_natCast]
  rw [getD_of_lt h2]
  simp [atsB]
theorem rd_coef (l : List Int) (v : Nat) : rd l ((v : Nat) : Int) = l.getD v 0 := by unfold rd; rw [Int.toNat_natCast]
theorem drop_step {α : Type} {L S : List α} {a : α} {i : Nat} (h : L.drop i = a :: S) : ∃ hi : i < L.length, L[i] = a ∧ L.drop (i + 1) = S := by
  have hlt : i < L.length := by
    rcases Nat.lt_or_ge i L.length with h2 | h2
    · exact h2
    · rw [List.drop_of_length_le h2] at h; cases h
  rw [List.drop_eq_getElem_cons hlt] at h
  obtain ⟨h1, h2⟩ := List.cons.inj h
  exact ⟨hlt, h1, h2⟩
theorem drop_end {α : Type} {L : List α} {i : Nat} (h : L.drop i = []) : L.length ≤ i := by simpa using h
/-- What the reference makes of the atoms that were collected. -/
def dropOut (r : Int × List At × Bool) : Int × List S52 × Bool := (r.1, atsB r.2.1, r.2.2)
theorem spec_drop_end (d : Int) (hd : 0 ≤ d ∧ d ≤ 4) (v : Nat) (L acc : List At) (i : Nat) (hi : L.length ≤ i) (hi2 : i ≤ 100000) (hok : ∀ a ∈ acc, okA d a) (hl : acc.length ≤ 100000) : Ev (fun k => spec_l3Drop.l1 k (v : Int) (atsB acc) (i : Nat) d (atsB L)) (dropOut (limN d acc)) := by
  refine Ev.step (fun k => by rw [spec_l3Drop.l1]) ?_
  refine ev_neg (by rw [atsB_len]; omega) (Ev.bind (spec_l3Normal_ev d hd acc hl hok) ?_)
  unfold limN
  refine ev_ite (fun h => ?_) (fun h => ?_)
  · rw [if_pos (by simp only [atsB_len] at h; omega)]; exact Ev.now _
  · rw [if_neg (by simp only [atsB_len] at h; omega)]; exact Ev.now _
theorem spec_drop_l2 (d : Int) (v : Nat) (L : List At) (hl16 : L.length ≤ 16) (hL : ∀ a ∈ L, okA d a) (hv : (v : Int) < d) (a : At) (ia : Nat) (hia : ia < L.length) (ea : L[ia] = a) (r : Int × List S52 × Bool) :
    ∀ (bs : List At) (j : Nat) (acc : List At), L.drop j = bs → j ≤ L.length → acc.length + bs.length ≤ 90000 →
    (∀ M, (if a.1.getD v 0 ≤ 0 then some acc else mixGo v a bs acc) = some M → Ev (fun k => spec_l3Drop.l1 k (v : Int) (atsB M) ((ia + 1 : Nat) : Int) d (atsB L)) r) →
    ((if a.1.getD v 0 ≤ 0 then some acc else mixGo v a bs acc) = none → r = (0, [], false)) →
    Ev (fun k => spec_l3Drop.l2 k (v : Int) (atsB acc) (ia : Nat) (j : Nat) d (atsB L)) r
  | [], j, acc, hbs, hj, hacc, hgo, hno => by
    have := drop_end hbs
    refine Ev.step (fun k => by rw [spec_l3Drop.l2]) ?_
    refine ev_neg (by rw [atsB_len]; omega) ?_
    rw [w64_succ (by omega)]
    exact hgo acc (by split <;> rfl)
  | b :: bs, j, acc, hbs, hj, hacc, hgo, hno => by
    obtain ⟨hjl, eb, hbs'⟩ := drop_step hbs
    have oka := hL a (by rw [← ea]; exact List.getElem_mem _)
    have okb := hL b (by rw [← eb]; exact List.getElem_mem _)
    have la := oka.2
    have lb := okb.2
    have ba := coef_bd oka v
    have bb := coef_bd okb v
    have na := (okA_num oka).2.2
    have nb := (okA_num okb).2.2
    have hra : rd_T52 (atsB L) ((ia : Nat) : Int) = atB a := by rw [rd_atsB L ia hia, ea]
    have hrb : rd_T52 (atsB L) ((j : Nat) : Int) = atB b := by rw [rd_atsB L j hjl, eb]
    simp only [List.length_cons] at hacc
    refine Ev.step (fun k => by rw [spec_l3Drop.l2]) ?_
    rw [hra, hrb]
    simp only [atB, rd_coef]
    refine ev_pos (by rw [atsB_len]; omega) (ev_pos (by omega) (ev_pos (by rw [atsB_len]; omega) (ev_pos (by omega) (ev_pos (by omega) (ev_pos (by omega) (ev_pos (by omega) ?_))))))
    have skip : (a.1.getD v 0 ≤ 0 ∨ 0 ≤ b.1.getD v 0) → ∀ x, x = true → Ev (fun k => spec_l3Drop.j3 k (v : Int) (atsB acc) (ia : Nat) (j : Nat) (a.1.getD v 0) (b.1.getD v 0) x d (atsB L)) r := fun hs x hx => by
      have em : (if a.1.getD v 0 ≤ 0 then some acc else mixGo v a (b :: bs) acc) = (if a.1.getD v 0 ≤ 0 then some acc else mixGo v a bs acc) := by
        split
        · rfl
        · rename_i h0; rw [mixGo, if_pos (hs.resolve_left h0)]
      refine Ev.step (fun k => by rw [spec_l3Drop.j3]) ?_
      refine ev_pos hx ?_
      rw [w64_succ (by omega)]
      rw [em] at hgo hno
      exact spec_drop_l2 d v L hl16 hL hv a ia hia ea r bs (j + 1) acc hbs' (by omega) (by omega) hgo hno
    refine ev_ite (fun h0 => skip (.inl h0) _ rfl) (fun h0 => ?_)
    by_cases h1 : 0 ≤ b.1.getD v 0
    · exact skip (.inr h1) _ (decide_eq_true h1)
    · have hn : ¬ (b.1.getD v 0 ≥ 0) := h1
      rw [decide_eq_false hn]
      refine Ev.step (fun k => by rw [spec_l3Drop.j3]) ?_
      rw [hra, hrb]
      simp only [atB]
      refine ev_neg (by simp) (ev_pos (by omega) (ev_pos (by rw [atsB_len]; omega) (ev_pos (by omega) (ev_pos (by rw [atsB_len]; omega) ?_))))
      rw [w64 (a := -(b.1.getD v 0)) (by omega) (by omega), w64_succ (by omega)]
      refine Ev.bind (spec_MixAtoms_ev a.1 a.2.1 a.2.2 _ b.1 b.2.1 b.2.2 _ (by omega) (by omega)) (ev_ite (fun hm => ev_pos (by rw [atsB_len]; omega) ?_) (fun hm => ?_))
      · rw [if_neg h0, mixGo, if_neg h1, if_pos hm] at hgo hno
        have ih := spec_drop_l2 d v L hl16 hL hv a ia hia ea r bs (j + 1) _ hbs' (by omega) (by simp; omega) (fun M hM => hgo M ((if_neg h0).symm.trans hM)) (fun hM => hno ((if_neg h0).symm.trans hM))
        rw [atsB_append] at ih
        exact ih
      · rw [if_neg h0, mixGo, if_neg h1, if_neg hm] at hno
        rw [hno rfl]
        exact Ev.now _
theorem spec_drop_l1 (d : Int) (hd : 0 ≤ d ∧ d ≤ 4) (v : Nat) (L : List At) (hl16 : L.length ≤ 16) (hL : ∀ a ∈ L, okA d a) (hv : (v : Int) < d) : ∀ (tl_ : List At) (i : Nat) (acc : List At), L.drop i = tl_ → i ≤ L.length → acc.length + tl_.length * L.length ≤ 80000 → (∀ a ∈ acc, okA d a) →
    Ev (fun k => spec_l3Drop.l1 k (v : Int) (atsB acc) (i : Nat) d (atsB L)) (match dropGo v L tl_ acc with | none => (0, [], false) | some M => dropOut (limN d M))
  | [], i, acc, has, hi, hacc, hok => spec_drop_end d hd v L acc i (drop_end has) (by omega) hok (by simp at hacc; omega)
  | a :: tl_, i, acc, has, hi, hacc, hok => by
    obtain ⟨hil, ea, has'⟩ := drop_step has
    have oka := hL a (by rw [← ea]; exact List.getElem_mem _)
    rw [List.length_cons, Nat.add_mul, Nat.one_mul] at hacc
    refine Ev.step (fun k => by rw [spec_l3Drop.l1]) ?_
    refine ev_pos (by rw [atsB_len]; omega) ?_
    refine spec_drop_l2 d v L hl16 hL hv a i hil ea _ L 0 acc rfl (Nat.zero_le _) (by omega) (fun M hM => ?_) (fun hM => ?_)
    · by_cases h0 : a.1.getD v 0 ≤ 0
      · rw [if_pos h0] at hM
        obtain rfl := Option.some.inj hM
        rw [dropGo, if_pos h0]
        exact spec_drop_l1 d hd v L hl16 hL hv tl_ (i + 1) acc has' (by omega) (by omega) hok
      · rw [if_neg h0] at hM
        have h1 := mixGo_ok v oka L acc M hL hok hM
        rw [dropGo, if_neg h0, hM]
        exact spec_drop_l1 d hd v L hl16 hL hv tl_ (i + 1) M has' (by omega) (by omega) h1.1
    · by_cases h0 : a.1.getD v 0 ≤ 0
      · rw [if_pos h0] at hM; cases hM
      · rw [if_neg h0] at hM
        rw [dropGo, if_neg h0, hM]; rfl
theorem spec_drop_l0 (d : Int) (v : Nat) (L : List At) (hl16 : L.length ≤ 16) (hL : ∀ a ∈ L, okA d a) (hv : (v : Int) < d) (r : Int × List S52 × Bool) (h : Ev (fun k => spec_l3Drop.l1 k (v : Int) (atsB (L.filter (free v))) ((0 : Nat) : Int) d (atsB L)) r) :
    ∀ (tl_ : List At) (i : Nat) (acc : List At), L.drop i = tl_ → i ≤ L.length → acc.length ≤ i → acc ++ tl_.filter (free v) = L.filter (free v) → Ev (fun k => spec_l3Drop.l0 k (v : Int) (atsB acc) (i : Nat) d (atsB L)) r
  | [], i, acc, has, hi, hacc, he => by
    have := drop_end has
    refine Ev.step (fun k => by rw [spec_l3Drop.l0]) ?_
    refine ev_neg (by rw [atsB_len]; omega) ?_
    have e : acc = L.filter (free v) := by simpa using he
    rw [e]; exact h
  | a :: tl_, i, acc, has, hi, hacc, he => by
    obtain ⟨hil, ea, has'⟩ := drop_step has
    have oka := hL a (by rw [← ea]; exact List.getElem_mem _)
    have la := oka.2
    have hra : rd_T52 (atsB L) ((i : Nat) : Int) = atB a := by rw [rd_atsB L i hil, ea]
    refine Ev.step (fun k => by rw [spec_l3Drop.l0]) ?_
    rw [hra]
    simp only [atB, rd_coef]
    refine ev_pos (by rw [atsB_len]; omega) (ev_pos (by omega) (ev_pos (by omega) (ev_pos (by omega) ?_)))
    rw [w64_succ (by omega)]
    refine ev_ite (fun h0 => ev_pos (by rw [atsB_len]; omega) ?_) (fun h0 => ?_)
    · have hf : free v a = true := decide_eq_true h0
      have ih := spec_drop_l0 d v L hl16 hL hv r h tl_ (i + 1) (acc ++ [a]) has' (by omega) (by simp; omega) (by rw [← he, List.filter_cons_of_pos hf]; simp)
      rw [atsB_append] at ih
      exact ih
    · have hf : ¬ free v a = true := fun h2 => h0 (of_decide_eq_true h2)
      exact spec_drop_l0 d v L hl16 hL hv r h tl_ (i + 1) acc has' (by omega) (by omega) (by rw [← he, List.filter_cons_of_neg hf])
theorem dropOut_match (d : Int) (o : Option (List At)) : (match o with | none => ((0, [], false) : Int × List S52 × Bool) | some M => dropOut (limN d M)) = dropOut (match o with | none => (0, [], false) | some M => limN d M) := by
  cases o <;> rfl
theorem spec_l3Drop_ev (d : Int) (hd : 0 ≤ d ∧ d ≤ 4) (v : Nat) (L : List At) (hl16 : L.length ≤ 16) (hL : ∀ a ∈ L, okA d a) (hv : (v : Int) < d) : Ev (fun k => spec_l3Drop.f k d (atsB L) (v : Int)) (dropOut (dropC d v L)) := by
  unfold dropC
  rw [← dropOut_match]
  have hf := List.length_filter_le (free v) L
  have h2 : L.length * L.length ≤ 16 * 16 := Nat.mul_le_mul hl16 hl16
  exact spec_drop_l0 d v L hl16 hL hv _ (spec_drop_l1 d hd v L hl16 hL hv L 0 _ rfl (Nat.zero_le _) (by omega) (fun a ha => hL a (List.mem_filter.1 ha).1)) L 0 [] rfl (Nat.zero_le _) (Nat.zero_le _) (by simp)
theorem impl_limited_ev (d : Int) (hd : 0 ≤ d ∧ d ≤ 4) (M : List At) (hl : M.length ≤ 100000) (hok : ∀ a ∈ M, okA d a) : Ev (fun k => impl_limitedNormal.f k d (atsB M)) (dropOut (limN d M)) := by
  unfold impl_limitedNormal.f limN
  refine Ev.bind (impl_normalOf_ev d hd M hl hok) (ev_ite (fun h => ?_) (fun h => ?_))
  · rw [if_pos (by simp only [atsB_len] at h; omega)]; exact Ev.now _
  · rw [if_neg (by simp only [atsB_len] at h; omega)]; exact Ev.now _
theorem impl_drop_l2 (d : Int) (v : Nat) (L : List At) (hl16 : L.length ≤ 16) (hL : ∀ a ∈ L, okA d a) (hv : (v : Int) < d) (a : At) (oka : okA d a) (h0 : ¬ a.1.getD v 0 ≤ 0) (ia : Nat) (hia : ia < L.length) (r : Int × List S52 × Bool) :
    ∀ (bs : List At) (j : Nat) (acc : List At), L.drop j = bs → j ≤ L.length → acc.length + bs.length ≤ 90000 →
    (∀ M, mixGo v a bs acc = some M → Ev (fun k => impl_DropVariable.l1 k (v : Int) (atsB M) (atsB L) ((atsB L).length : Int) ((ia + 1 : Nat) : Int) d (atsB L)) r) →
    (mixGo v a bs acc = none → r = (0, [], false)) →
    Ev (fun k => impl_DropVariable.l2 k (v : Int) (atsB acc) (atsB L) ((atsB L).length : Int) (ia : Nat) (atsB L) ((atsB L).length : Int) (j : Nat) d (atsB L) a.1 a.2.1 a.2.2) r
  | [], j, acc, hbs, hj, hacc, hgo, hno => by
    have := drop_end hbs
    refine Ev.step (fun k => by rw [impl_DropVariable.l2]) ?_
    refine ev_neg (by rw [atsB_len]; omega) ?_
    rw [w64_succ (by omega)]
    exact hgo acc rfl
  | b :: bs, j, acc, hbs, hj, hacc, hgo, hno => by
    obtain ⟨hjl, eb, hbs'⟩ := drop_step hbs
    have okb := hL b (by rw [← eb]; exact List.getElem_mem _)
    have la := oka.2
    have lb := okb.2
    have ba := coef_bd oka v
    have bb := coef_bd okb v
    have na := (okA_num oka).2.2
    have nb := (okA_num okb).2.2
    have hrb : rd_T52 (atsB L) ((j : Nat) : Int) = atB b := by rw [rd_atsB L j hjl, eb]
    simp only [List.length_cons] at hacc
    refine Ev.step (fun k => by rw [impl_DropVariable.l2]) ?_
    rw [hrb]
    simp only [atB, rd_coef]
    refine ev_pos (by rw [atsB_len]; omega) (ev_pos (by omega) (ev_pos (by rw [atsB_len]; omega) (ev_pos (by omega) (ev_pos (by omega) ?_))))
    rw [w64_succ (by omega)]
    refine ev_ite (fun h1 => ?_) (fun h1 => ?_)
    · have h2 : 0 ≤ b.1.getD v 0 := h1
      rw [mixGo, if_pos h2] at hgo hno
      exact impl_drop_l2 d v L hl16 hL hv a oka h0 ia hia r bs (j + 1) acc hbs' (by omega) (by omega) hgo hno
    · have h2 : ¬ 0 ≤ b.1.getD v 0 := h1
      refine ev_pos (by omega) ?_
      rw [w64 (a := -(b.1.getD v 0)) (by omega) (by omega)]
      refine Ev.bind (impl_MixAtoms_ev a.1 a.2.1 a.2.2 _ b.1 b.2.1 b.2.2 _ (by omega) (by omega)) (ev_ite (fun hm => ev_pos (by rw [atsB_len]; omega) ?_) (fun hm => ?_))
      · rw [mixGo, if_neg h2, if_pos hm] at hgo hno
        have ih := impl_drop_l2 d v L hl16 hL hv a oka h0 ia hia r bs (j + 1) _ hbs' (by omega) (by simp; omega) hgo hno
        rw [atsB_append] at ih
        exact ih
      · rw [mixGo, if_neg h2, if_neg hm] at hno
        rw [hno rfl]
        exact Ev.now _
theorem impl_drop_l1 (d : Int) (hd : 0 ≤ d ∧ d ≤ 4) (v : Nat) (L : List At) (hl16 : L.length ≤ 16) (hL : ∀ a ∈ L, okA d a) (hv : (v : Int) < d) : ∀ (tl_ : List At) (i : Nat) (acc : List At), L.drop i = tl_ → i ≤ L.length → acc.length + tl_.length * L.length ≤ 80000 → (∀ a ∈ acc, okA d a) →
    Ev (fun k => impl_DropVariable.l1 k (v : Int) (atsB acc) (atsB L) ((atsB L).length : Int) (i : Nat) d (atsB L)) (match dropGo v L tl_ acc with | none => (0, [], false) | some M => dropOut (limN d M))
  | [], i, acc, has, hi, hacc, hok => by
    have := drop_end has
    refine Ev.step (fun k => by rw [impl_DropVariable.l1]) ?_
    exact ev_neg (by rw [atsB_len]; omega) (Ev.bind (impl_limited_ev d hd acc (by simp at hacc; omega) hok) (Ev.now _))
  | a :: tl_, i, acc, has, hi, hacc, hok => by
    obtain ⟨hil, ea, has'⟩ := drop_step has
    have oka := hL a (by rw [← ea]; exact List.getElem_mem _)
    have la := oka.2
    have hra : rd_T52 (atsB L) ((i : Nat) : Int) = atB a := by rw [rd_atsB L i hil, ea]
    rw [List.length_cons, Nat.add_mul, Nat.one_mul] at hacc
    refine Ev.step (fun k => by rw [impl_DropVariable.l1]) ?_
    rw [hra]
    simp only [atB, rd_coef]
    refine ev_pos (by rw [atsB_len]; omega) (ev_pos (by omega) (ev_pos (by rw [atsB_len]; omega) (ev_pos (by omega) (ev_pos (by omega) ?_))))
    refine ev_ite (fun h0 => ?_) (fun h0 => ?_)
    · rw [dropGo, if_pos h0, w64_succ (by omega)]
      exact impl_drop_l1 d hd v L hl16 hL hv tl_ (i + 1) acc has' (by omega) (by omega) hok
    · refine impl_drop_l2 d v L hl16 hL hv a oka h0 i hil _ L 0 acc rfl (Nat.zero_le _) (by omega) (fun M hM => ?_) (fun hM => ?_)
      · have h1 := mixGo_ok v oka L acc M hL hok hM
        rw [dropGo, if_neg h0, hM]
        exact impl_drop_l1 d hd v L hl16 hL hv tl_ (i + 1) M has' (by omega) (by omega) h1.1
      · rw [dropGo, if_neg h0, hM]; rfl
theorem impl_drop_l0 (d : Int) (v : Nat) (L : List At) (hl16 : L.length ≤ 16) (hL : ∀ a ∈ L, okA d a) (hv : (v : Int) < d) (r : Int × List S52 × Bool) (h : Ev (fun k => impl_DropVariable.l1 k (v : Int) (atsB (L.filter (free v))) (atsB L) ((atsB L).length : Int) ((0 : Nat) : Int) d (atsB L)) r) :
    ∀ (tl_ : List At) (i : Nat) (acc : List At), L.drop i = tl_ → i ≤ L.length → acc.length ≤ i → acc ++ tl_.filter (free v) = L.filter (free v) → Ev (fun k => impl_DropVariable.l0 k (v : Int) (atsB acc) (atsB L) ((atsB L).length : Int) (i : Nat) d (atsB L)) r
  | [], i, acc, has, hi, hacc, he => by
    have := drop_end has
    refine Ev.step (fun k => by rw [impl_DropVariable.l0]) ?_
    refine ev_neg (by rw [atsB_len]; omega) ?_
    have e : acc = L.filter (free v) := by simpa using he
    rw [e]; exact h
  | a :: tl_, i, acc, has, hi, hacc, he => by
    obtain ⟨hil, ea, has'⟩ := drop_step has
    have oka := hL a (by rw [← ea]; exact List.getElem_mem _)
    have la := oka.2
    have hra : rd_T52 (atsB L) ((i : Nat) : Int) = atB a := by rw [rd_atsB L i hil, ea]
    refine Ev.step (fun k => by rw [impl_DropVariable.l0]) ?_
    rw [hra]
    simp only [atB, rd_coef]
    refine ev_pos (by rw [atsB_len]; omega) (ev_pos (by omega) (ev_pos (by rw [atsB_len]; omega) (ev_pos (by omega) (ev_pos (by omega) ?_))))
    rw [w64_succ (by omega)]
    refine ev_ite (fun h0 => ev_pos (by rw [atsB_len]; omega) ?_) (fun h0 => ?_)
    · have hf : free v a = true := decide_eq_true h0
      have ih := impl_drop_l0 d v L hl16 hL hv r h tl_ (i + 1) (acc ++ [a]) has' (by omega) (by simp; omega) (by rw [← he, List.filter_cons_of_pos hf]; simp)
      rw [atsB_append] at ih
      exact ih
    · have hf : ¬ free v a = true := fun h2 => h0 (of_decide_eq_true h2)
      exact impl_drop_l0 d v L hl16 hL hv r h tl_ (i + 1) acc has' (by omega) (by omega) (by rw [← he, List.filter_cons_of_neg hf])
theorem okCe {d : Int} {L : List At} : isCe d L = true ↔ (0 ≤ d ∧ d ≤ 4) ∧ L.length ≤ 16 ∧ ∀ a ∈ L, okA d a := isCe_iff
theorem smallB {d : Int} {L : List At} (hl : L.length ≤ 1048576) (hL : ∀ a ∈ L, okA d a) : smallA (atsB L) := ⟨by rw [atsB_len]; exact hl, fun x hx => by
  obtain ⟨y, hy, rfl⟩ := List.mem_map.1 hx
  have := (okA_num (hL y hy)).2.2
  show y.1.length ≤ 1048576
  omega⟩
theorem impl_DropVariable_ev (d : Int) (hd : 0 ≤ d ∧ d ≤ 4) (v : Nat) (L : List At) (hl16 : L.length ≤ 16) (hL : ∀ a ∈ L, okA d a) (hv : (v : Int) < d) : Ev (fun k => impl_DropVariable.f k d (atsB L) (v : Int)) (dropOut (dropC d v L)) := by
  have hc := impl_IsCell_ev d (atsB L) (smallB (by omega) hL)
  rw [atsOf_B, okCe.2 ⟨hd, hl16, hL⟩] at hc
  have hf := List.length_filter_le (free v) L
  have h2 : L.length * L.length ≤ 16 * 16 := Nat.mul_le_mul hl16 hl16
  unfold impl_DropVariable.f
  refine Ev.bind hc (ev_pos rfl (ev_neg (by omega) ?_))
  refine Ev.step (fun k => by rw [impl_DropVariable.j0]) ?_
  refine ev_neg (by simp; omega) ?_
  unfold dropC
  rw [← dropOut_match]
  exact impl_drop_l0 d v L hl16 hL hv _ (impl_drop_l1 d hd v L hl16 hL hv L 0 _ rfl (Nat.zero_le _) (by omega) (fun a ha => hL a (List.mem_filter.1 ha).1)) L 0 [] rfl (Nat.zero_le _) (Nat.zero_le _) (by simp)
/-- Variables below n dropped, from the last one on. -/
def elim (d : Int) : Nat → List At → Option (List At)
  | 0, L => some L
  | n + 1, L => if (dropC d n L).2.2 = true then elim d n (dropC d n L).2.1 else none
def emptyC (d : Int) (L : List At) : Bool × Bool := if isCe d L then (match elim d d.toNat (nrm d L) with | none => (false, false) | some R => (decide (0 < R.length), true)) else (false, false)
theorem spec_empty_l0 (d : Int) (hd : 0 ≤ d ∧ d ≤ 4) : ∀ (n : Nat) (L : List At), (n : Int) ≤ d → L.length ≤ 16 → (∀ a ∈ L, okA d a) →
    Ev (fun k => spec_IsEmptyCell.l0 k ((n : Int) - 1) d (atsB L)) (match elim d n L with | none => (false, false) | some R => (decide (0 < R.length), true))
  | 0, L, hn, hl, hL => by
    refine Ev.step (fun k => by rw [spec_IsEmptyCell.l0]) ?_
    refine ev_neg (by omega) (ev_some ?_)
    simp only [elim, atsB_len]
    congr 1
    rw [Bool.eq_iff_iff]
    simp
  | n + 1, L, hn, hl, hL => by
    have e1 : ((n + 1 : Nat) : Int) - 1 = (n : Int) := by omega
    rw [e1]
    refine Ev.step (fun k => by rw [spec_IsEmptyCell.l0]) ?_
    refine ev_pos (by omega) (Ev.bind (spec_l3Drop_ev d hd n L hl hL (by omega)) (ev_ite (fun h => ?_) (fun h => ?_)))
    · obtain ⟨h1, h2, h3⟩ := dropC_ok hd n hl hL h
      have ih := spec_empty_l0 d hd n (dropC d n L).2.1 (by omega) h2 h3
      have h' : (dropC d n L).2.2 = true := h
      simp only [elim, h', if_true]
      rw [w64 (by omega) (by omega)]
      show Ev (fun k => spec_IsEmptyCell.l0 k ((n : Int) - 1) (dropC d n L).1 (atsB (dropC d n L).2.1)) _
      rw [h1]
      exact ih
    · have h' : ¬ (dropC d n L).2.2 = true := h
      simp only [elim, h']
      exact Ev.now _
theorem spec_IsEmptyCell_ev (d : Int) (l : List S52) (h : smallA l) : Ev (fun k => spec_IsEmptyCell.f k d l) (emptyC d (atsOf l)) := by
  unfold spec_IsEmptyCell.f emptyC
  refine Ev.bind (spec_IsCell_ev d l h) (ev_ite (fun hc => ?_) (fun hc => ?_))
  · rw [if_pos hc]
    obtain ⟨hd, h16, hL⟩ := isCe_iff.1 hc
    have hn := spec_l3Normal_ev d hd (atsOf l) (by omega) hL
    rw [atsB_of] at hn
    refine Ev.bind hn ?_
    have := spec_empty_l0 d hd d.toNat (nrm d (atsOf l)) (by omega) (nrm_16 d _ h16) (nrm_ok hd hL)
    rw [w64 (by omega) (by omega)]
    rw [show ((d.toNat : Nat) : Int) = d by omega] at this
    exact this
  · rw [if_neg hc]; exact Ev.now _
theorem impl_proj_l0 (d : Int) (hd : 0 ≤ d ∧ d ≤ 4) : ∀ (n : Nat) (C : List S28) (L : List At), (n : Int) ≤ d → C.length = d.toNat + 1 → C[n]? = some ⟨d, atsB L⟩ → L.length ≤ 16 → (∀ a ∈ L, okA d a) →
    ∃ r : List S28 × Bool, Ev (fun k => impl_projectionsOf.l0 k C ((n : Int) - 1)) r ∧ (match elim d n L with | none => r.2 = false | some R => r.2 = true ∧ r.1[0]? = some ⟨d, atsB R⟩)
  | 0, C, L, hn, hC, hget, hl, hL => by
    refine ⟨(C, true), Ev.step (fun k => by rw [impl_projectionsOf.l0]) (ev_neg (by omega) (Ev.now _)), ?_⟩
    simp only [elim]
    exact ⟨trivial, hget⟩
  | n + 1, C, L, hn, hC, hget, hl, hL => by
    have e1 : ((n + 1 : Nat) : Int) - 1 = (n : Int) := by omega
    rw [e1]
    have hlt : n + 1 < C.length := (List.getElem?_eq_some_iff.1 hget).1
    have hrd : rd_T28 C ((n + 1 : Nat) : Int) = ⟨d, atsB L⟩ := by
      simp only [rd_T28, Int.toNat_natCast, List.getD_eq_getElem?_getD, hget, Option.getD_some]
    have hdrop := impl_DropVariable_ev d hd n L hl hL (by omega)
    by_cases h : (dropC d n L).2.2 = true
    · obtain ⟨h1, h2, h3⟩ := dropC_ok hd n hl hL h
      obtain ⟨r, hr, hp⟩ := impl_proj_l0 d hd n (C.set n ⟨d, atsB (dropC d n L).2.1⟩) (dropC d n L).2.1 (by omega) (by simpa using hC) (by rw [List.getElem?_set_self (by omega)]) h2 h3
      refine ⟨r, ?_, by simp only [elim, h, if_true]; exact hp⟩
      refine Ev.step (fun k => by rw [impl_projectionsOf.l0]) ?_
      rw [w64_succ (by omega), hrd]
      refine ev_pos (by omega) (ev_pos (by omega) (ev_pos (by omega) (Ev.bind hdrop (ev_pos h (ev_pos (by omega) (ev_pos (by omega) ?_))))))
      rw [Int.toNat_natCast, w64 (by omega) (by omega)]
      show Ev (fun k => impl_projectionsOf.l0 k (C.set n ⟨(dropC d n L).1, atsB (dropC d n L).2.1⟩) ((n : Int) - 1)) _
      rw [h1]
      exact hr
    · refine ⟨([], false), ?_, by rw [elim, if_neg h]⟩
      refine Ev.step (fun k => by rw [impl_projectionsOf.l0]) ?_
      rw [w64_succ (by omega), hrd]
      exact ev_pos (by omega) (ev_pos (by omega) (ev_pos (by omega) (Ev.bind hdrop (ev_neg h (Ev.now _)))))
theorem impl_IsEmptyCell_ev (d : Int) (l : List S52) (h : smallA l) : Ev (fun k => impl_IsEmptyCell.f k d l) (emptyC d (atsOf l)) := by
  unfold impl_IsEmptyCell.f emptyC
  by_cases hc : isCe d (atsOf l) = true
  · rw [if_pos hc]
    obtain ⟨hd, h16, hL⟩ := isCe_iff.1 hc
    have hn := impl_normalOf_ev d hd (atsOf l) (by omega) hL
    rw [atsB_of] at hn
    obtain ⟨r, hr, hp⟩ := impl_proj_l0 d hd d.toNat ((List.replicate (d.toNat + 1) z28).set d.toNat ⟨d, atsB (nrm d (atsOf l))⟩) (nrm d (atsOf l)) (by omega) (by simp) (by rw [List.getElem?_set_self (by simp)]) (nrm_16 d _ h16) (nrm_ok hd hL)
    have hproj : Ev (fun k => impl_projectionsOf.f k d l) r := by
      unfold impl_projectionsOf.f
      have hcell := impl_IsCell_ev d l h
      rw [hc] at hcell
      refine Ev.bind hcell (ev_pos rfl ?_)
      rw [w64 (a := d + 1) (by omega) (by omega), show (d + 1).toNat = d.toNat + 1 by omega]
      refine ev_pos (by omega) (ev_pos (by omega) ?_)
      simp only [Option.bind_some]
      refine Ev.bind hn (ev_pos hd.1 (ev_pos (by simp; omega) ?_))
      rw [w64 (by omega) (by omega)]
      rw [show ((d.toNat : Nat) : Int) = d by omega] at hr
      exact hr
    refine Ev.bind hproj ?_
    cases he : elim d d.toNat (nrm d (atsOf l)) with
    | none =>
      rw [he] at hp
      exact ev_neg (by rw [hp]; simp) (Ev.now _)
    | some R =>
      rw [he] at hp
      obtain ⟨hp1, hp2⟩ := hp
      have hlen := (List.getElem?_eq_some_iff.1 hp2).1
      have hrd : rd_T28 r.1 0 = ⟨d, atsB R⟩ := by
        simp only [rd_T28, List.getD_eq_getElem?_getD]
        rw [show (0 : Int).toNat = 0 from rfl, hp2, Option.getD_some]
      rw [hrd]
      refine ev_pos hp1 (ev_pos (by omega) (ev_some ?_))
      congr 1
      rw [Bool.eq_iff_iff]
      simp [atsB_len]
  · rw [if_neg hc]
    have hproj : Ev (fun k => impl_projectionsOf.f k d l) ([], false) := by
      unfold impl_projectionsOf.f
      have hcell := impl_IsCell_ev d l h
      exact Ev.bind hcell (ev_neg hc (Ev.now _))
    exact Ev.bind hproj (ev_neg (by simp) (Ev.now _))
def emRo : List (Int × List At) → Bool → Bool × Bool
  | [], b => (b, true)
  | c :: cs, b => if (emptyC c.1 c.2).2 = true then emRo cs (b && (emptyC c.1 c.2).1) else (false, false)
def emptyR (d : Int) (cs : List (Int × List At)) : Bool × Bool := if isRe d cs = true then emRo cs true else (false, false)

end Go.Proofs.Ytkicjflhokckgaa.LFnExactIsEmptyCell
