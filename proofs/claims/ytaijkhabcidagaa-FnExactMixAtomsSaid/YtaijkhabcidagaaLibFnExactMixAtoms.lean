/- What the printed functions of the law FnExactMixAtoms compute, in plain words; each holds under the bounds that it names. -/
import Derived.Test.YtaijkhabcidagaaQFnExactMixAtomsx
import Derived.Test.YtaijkhabcidagaaPlainFnExactMixAtoms
import Derived.Test.YtaijkhabcidagaaPlainAFnExactMixAtoms
set_option linter.unusedVariables false
set_option linter.unusedSimpArgs false
namespace Go.Proofs.Ytaijkhabcidagaa.LFnExactMixAtoms
open Go.RowKit Go.Proofs.Ytaijkhabcidagaa.PFnExactMixAtoms Go.Proofs.Ytaijkhabcidagaa.Pl Go.Proofs.YtaijkhabcidagaaW.PrintWords Go.Proofs.YtaijkhabcidagaaW.PrintLast Go.Proofs.YtaijkhabcidagaaW.PrintMore

theorem spec_l1In_eq (a b c : Int) : spec_l1In.f a b c = some (decide (b ≤ a) && decide (a ≤ c)) := by
  unfold spec_l1In.f
  by_cases h : b ≤ a
  · rw [if_pos h]; simp [h]
  · rw [if_neg h]; simp [h]
theorem spec_IsNumber_eq (n : Int) : spec_IsNumber.f n = some (isNum n) := by
  unfold spec_IsNumber.f
  rw [spec_l1In_eq]; rfl
theorem impl_IsNumber_eq (n : Int) : impl_IsNumber.f n = some (isNum n) := by
  unfold impl_IsNumber.f isNum
  by_cases h : n ≥ -400000000
  · rw [if_pos h]
    have h' : -400000000 ≤ n := h
    simp [h']
  · rw [if_neg h]
    have h' : ¬ -400000000 ≤ n := h
    simp [h']
theorem spec_l1Abs_eq (a : Int) (h : -9223372036854775807 ≤ a) (h' : a ≤ 9223372036854775807) : spec_l1Abs.f a = some (a.natAbs : Int) := by
  unfold spec_l1Abs.f mx
  rw [w64 (by omega) (by omega)]
  congr 1
  split <;> omega
theorem impl_absolute_eq (a : Int) (h : -9223372036854775807 ≤ a) (h' : a ≤ 9223372036854775807) : impl_absolute.f a = some (a.natAbs : Int) := by
  unfold impl_absolute.f
  by_cases c : a < 0
  · rw [if_pos c, w64 (by omega) (by omega)]; congr 1; omega
  · rw [if_neg c]; congr 1; omega
theorem impl_commonDivisor_l0_ev (a b : Int) : Ev (fun k => impl_commonDivisor.l0 k a b) (eu a b) := by
  fun_induction eu a b with
  | case1 a => exact Ev.step (f := fun _ => some a) (fun k => by simp [impl_commonDivisor.l0]) (Ev.now a)
  | case2 a b h ih => exact Ev.step (fun k => by simp only [impl_commonDivisor.l0]; rw [if_neg h]) ih
theorem impl_commonDivisor_ev (a b : Int) (h : -9223372036854775807 ≤ a ∧ a ≤ 9223372036854775807) (h' : -9223372036854775807 ≤ b ∧ b ≤ 9223372036854775807) : Ev (fun k => impl_commonDivisor.f k a b) (Int.gcd a b : Int) := by
  unfold impl_commonDivisor.f
  rw [impl_absolute_eq a h.1 h.2, impl_absolute_eq b h'.1 h'.2]
  simp only [Option.bind_some]
  rw [← eu_abs]
  exact impl_commonDivisor_l0_ev _ _
theorem laws_szIntS_eq (l : List Int) (a : Int) (h : l.length ≤ maxLen) (ha : 0 ≤ a ∧ a ≤ 1048576) : laws_szIntS.f l a = some (lft a l.length) := by
  unfold laws_szIntS.f lft
  unfold maxLen at h
  rw [w64 (by omega) (by omega)]
  by_cases h' : a < (l.length : Int)
  · rw [if_pos (by omega), if_pos h']
  · rw [if_neg (by omega), if_neg h']
theorem laws_szAtom_eq (l : List Int) (c : Int) (s : Bool) (a : Int) (h : l.length ≤ maxLen) (ha : 0 ≤ a ∧ a ≤ 1048576) : laws_szAtom.f l c s a = some (lft a l.length) := by
  unfold laws_szAtom.f
  rw [laws_szIntS_eq l a h ha, Option.bind_some]
  unfold lft
  by_cases h' : a < (l.length : Int)
  · simp [h']
  · rw [if_neg h', if_neg (by omega)]
theorem laws_toIntS_ev (l : List Int) (h : l.length ≤ 1048576) : Ev (fun k => laws_toIntS.f k l) l := by
  unfold laws_toIntS.f
  refine ev_pos (by omega) (ev_pos (by simp; omega) ?_)
  have := ev_put (fun k ys i => laws_toIntS.l0 k l ys i) l (fun _ x => x) 0 l
    (by
      rw [mapIdx_const l (fun x => x), List.map_id']
      exact Ev.step (f := fun _ => some l) (fun k => by simp [laws_toIntS.l0]) (Ev.now _))
    (fun i hi ys hy ih => by
      refine Ev.step (fun k => by rw [laws_toIntS.l0]) ?_
      refine ev_pos (by omega) (ev_pos (by omega) (ev_pos (by omega) ?_))
      rw [w64_succ (by omega)]
      simp only [rd, Int.toNat_natCast, getD_of_lt hi]
      exact ih)
  simpa using this
theorem laws_toAtom_ev (l : List Int) (c : Int) (s : Bool) (h : l.length ≤ 1048576) : Ev (fun k => laws_toAtom.f k l c s) (l, c, s) := by
  unfold laws_toAtom.f
  exact Ev.bind (laws_toIntS_ev l h) (Ev.now _)
theorem laws_eqIntS_ev (l : List Int) (h : l.length ≤ 1048576) : Ev (fun k => laws_eqIntS.f k l l) true := by
  unfold laws_eqIntS.f
  refine ev_pos rfl ?_
  have := ev_all (fun k i => laws_eqIntS.l0 k l l i) l (fun _ => true) true false
    (Ev.step (f := fun _ => some true) (fun k => by simp [laws_eqIntS.l0]) (Ev.now _))
    (fun i hi r _ ih => by
      refine Ev.step (fun k => by rw [laws_eqIntS.l0]) ?_
      refine ev_pos (by omega) (ev_pos (by omega) (ev_pos (by omega) (ev_pos rfl ?_)))
      rw [w64_succ (by omega)]
      exact ih)
    (fun i hi h' => by simp at h')
  simpa using this
theorem laws_eqAtom_ev (l : List Int) (c : Int) (s : Bool) (h : l.length ≤ 1048576) : Ev (fun k => laws_eqAtom.f k l c s l c s) true := by
  unfold laws_eqAtom.f
  refine Ev.bind (laws_eqIntS_ev l h) (ev_pos rfl (ev_pos rfl ?_))
  exact ev_neg (by simp) (Ev.now _)
theorem laws_markIntS_l0_ev (d : Nat) : ∀ (xs ys : List Int) (m : Int), ys.length = d → (xs ++ ys).length ≤ 1048576 → 0 ≤ m → m + d ≤ 4611686018427387904 → Ev (fun k => laws_markIntS.l0 k (xs ++ ys) m (xs.length : Nat)) (m + d, xs ++ mkI m d) := by
  induction d with
  | zero =>
    intro xs ys m hy hl h0 h1
    obtain rfl : ys = [] := List.length_eq_zero_iff.1 hy
    refine Ev.step (f := fun _ => some (m, xs ++ [])) (fun k => by simp [laws_markIntS.l0]) (ev_some ?_)
    simp [mkI]
  | succ d ih =>
    intro xs ys m hy hl h0 h1
    match ys, hy with
    | y :: ys, hy =>
      simp only [List.length_append, List.length_cons] at hl hy
      refine Ev.step (fun k => by rw [laws_markIntS.l0]) ?_
      refine ev_pos (by simp; omega) (ev_pos (by omega) ?_)
      rw [w64_succ (by omega), w64 (a := m + 1) (by omega) (by omega)]
      have e : (xs ++ y :: ys).set ((xs.length : Nat) : Int).toNat m = (xs ++ [m]) ++ ys := by simp
      have e2 : ((xs.length + 1 : Nat) : Int) = ((xs ++ [m]).length : Nat) := by simp
      rw [e, e2]
      refine ev_eqr (ih (xs ++ [m]) ys (m + 1) (by omega) (by simp; omega) (by omega) (by omega)) ?_
      simp [mkI]; omega
theorem laws_markIntS_ev (l : List Int) (m : Int) (hl : l.length ≤ 1048576) (h0 : 0 ≤ m) (h1 : m + l.length ≤ 4611686018427387904) : Ev (fun k => laws_markIntS.f k l m) (m + l.length, mkI m l.length) := by
  unfold laws_markIntS.f
  simpa using laws_markIntS_l0_ev l.length [] l m rfl (by simpa using hl) h0 h1
theorem laws_markAtom_ev (l : List Int) (c : Int) (s : Bool) (m : Int) (hl : l.length ≤ 1048576) (h0 : 0 ≤ m) (h1 : m + l.length ≤ 4611686018427387904) : Ev (fun k => laws_markAtom.f k l c s m) (m + l.length, mkI m l.length) := by
  unfold laws_markAtom.f
  exact Ev.bind (laws_markIntS_ev l m hl h0 h1) (Ev.now _)
theorem laws_heldIntS_ev (n : Nat) (m : Int) (hl : n ≤ 1048576) (h0 : 0 ≤ m) (h1 : m + n ≤ 4611686018427387904) : Ev (fun k => laws_heldIntS.f k (mkI m n) m) (m + n) := by
  unfold laws_heldIntS.f
  have hlen := mkI_length n m
  have key : ∀ i, i ≤ n → Ev (fun k => laws_heldIntS.l0 k (mkI m n) (m + i) (i : Nat)) (m + n) := by
    refine down n ?_ ?_
    · exact Ev.step (f := fun _ => some (m + n)) (fun k => by simp [laws_heldIntS.l0, hlen]) (Ev.now _)
    · intro i hi ih
      refine Ev.step (fun k => by rw [laws_heldIntS.l0]) ?_
      refine ev_pos (by omega) (ev_pos (by omega) (ev_pos ?_ ?_))
      · simp only [rd, Int.toNat_natCast]
        rw [getD_of_lt (by omega), mkI_get]
      · rw [w64_succ (by omega), w64 (by omega) (by omega)]
        have e : m + (i : Int) + 1 = m + ((i + 1 : Nat) : Int) := by omega
        rw [e]; exact ih
  simpa using key 0 (by omega)
theorem laws_heldAtom_ev (n : Nat) (c : Int) (s : Bool) (m : Int) (hl : n ≤ 1048576) (h0 : 0 ≤ m) (h1 : m + n ≤ 4611686018427387904) : Ev (fun k => laws_heldAtom.f k (mkI m n) c s m) (m + n) := by
  unfold laws_heldAtom.f
  exact Ev.bind (laws_heldIntS_ev n m hl h0 h1) (ev_neg (by omega) (Ev.now _))
theorem spec_l2Gcd_l1_ev (x0 : List Int) (i : Nat) (hi : i < 4611686018427387904) (r : Int) (g a : Int) (hg : 0 ≤ g) (ha : 0 ≤ a) (h : Ev (fun k => spec_l2Gcd.l0 k x0 (eu g a) ((i + 1 : Nat) : Int)) r) : Ev (fun k => spec_l2Gcd.l1 k x0 g (i : Nat) a) r := by
  fun_induction eu g a with
  | case1 g => exact Ev.step (fun k => by rw [spec_l2Gcd.l1, if_pos rfl, w64_succ (by omega)]) h
  | case2 g a hz ih => exact Ev.step (fun k => by rw [spec_l2Gcd.l1, if_neg hz]) (ih ha (Int.tmod_nonneg _ hg) h)
theorem spec_l2Gcd_ev (l : List Int) (c : Int) (hl : l.length ≤ 1048576) (hb : ∀ x ∈ l, -9223372036854775807 ≤ x ∧ x ≤ 9223372036854775807) (hc : -9223372036854775807 ≤ c ∧ c ≤ 9223372036854775807) : Ev (fun k => spec_l2Gcd.f k l c) ((Nat.gcd (gcdL l) c.natAbs : Nat) : Int) := by
  unfold spec_l2Gcd.f
  rw [spec_l1Abs_eq c hc.1 hc.2]
  simp only [Option.bind_some]
  have := ev_fold (fun k (g : Nat) i => spec_l2Gcd.l0 k l (g : Int) i) l (fun g x => Nat.gcd g x.natAbs) (fun g => (g : Int)) (fun _ => True)
    (fun g _ => Ev.step (f := fun _ => some (g : Int)) (fun k => by simp [spec_l2Gcd.l0]) (Ev.now _))
    (fun i hi g r _ => ⟨trivial, fun ih => by
      have hx := hb l[i] (List.getElem_mem hi)
      refine Ev.step (fun k => by rw [spec_l2Gcd.l0]) ?_
      refine ev_pos (by omega) (ev_pos (by omega) ?_)
      simp only [rd, Int.toNat_natCast, getD_of_lt hi]
      rw [spec_l1Abs_eq _ hx.1 hx.2]
      simp only [Option.bind_some]
      refine spec_l2Gcd_l1_ev l i (by omega) r _ _ (by omega) (by omega) ?_
      have e : eu (g : Int) (l[i].natAbs : Int) = ((Nat.gcd g l[i].natAbs : Nat) : Int) := by
        have h1 := eu_gcd (g : Int) (l[i].natAbs : Int)
        have h2 := eu_nonneg (g : Int) (l[i].natAbs : Int) (by omega) (by omega)
        simp only [Int.gcd, Int.natAbs_natCast] at h1
        omega
      rw [e]; exact ih⟩) c.natAbs trivial
  refine ev_eqr this ?_
  have e := gcdF_eq l c.natAbs
  unfold gcdF at e
  rw [e, Nat.gcd_comm]
theorem isNum_bd {x : Int} (h : isNum x = true) : -9223372036854775807 ≤ x ∧ x ≤ 9223372036854775807 := by rw [isNum_iff] at h; omega
theorem spec_IsAtom_l0_ev (l : List Int) (c : Int) (s : Bool) (hl : l.length ≤ 1048576) (hc : isNum c = true) : Ev (fun k => spec_IsAtom.l0 k 0 l c s) (if l.all isNum then decide (Nat.gcd (gcdL l) c.natAbs ≤ 1) else false) := by
  have := ev_allq (fun k i => spec_IsAtom.l0 k i l c s) l isNum (decide (Nat.gcd (gcdL l) c.natAbs ≤ 1)) false
    (fun hall => by
      refine Ev.step (fun k => by rw [spec_IsAtom.l0, if_neg (by omega)]) ?_
      refine Ev.bind (spec_l2Gcd_ev l c hl (fun x hx => isNum_bd (List.all_eq_true.1 hall x hx)) (isNum_bd hc)) (ev_some ?_)
      rw [Bool.eq_iff_iff]; simp; omega)
    (fun i hi r hp ih => by
      refine Ev.step (fun k => by rw [spec_IsAtom.l0]) ?_
      refine ev_pos (by omega) (ev_pos (by omega) ?_)
      simp only [rd, Int.toNat_natCast, getD_of_lt hi]
      rw [spec_IsNumber_eq, w64_succ (by omega)]
      simp only [Option.bind_some]
      exact ev_pos hp ih)
    (fun i hi hp => by
      refine Ev.step (fun k => by rw [spec_IsAtom.l0]) ?_
      refine ev_pos (by omega) (ev_pos (by omega) ?_)
      simp only [rd, Int.toNat_natCast, getD_of_lt hi]
      rw [spec_IsNumber_eq]
      simp only [Option.bind_some]
      exact ev_neg (by simp [hp]) (Ev.now _))
  simpa using this
theorem spec_IsAtom_ev (l : List Int) (c : Int) (s : Bool) (hl : l.length ≤ 1048576) : Ev (fun k => spec_IsAtom.f k l c s) (isAt l c) := by
  unfold spec_IsAtom.f
  refine ev_ite (fun h => ?_) (fun h => ?_)
  · refine ev_eqr (Ev.step (f := fun _ => some false) (fun k => by simp [spec_IsAtom.j0]) (Ev.now _)) ?_
    simp only [isAt, show ¬ l.length ≤ 4 by omega, decide_false, Bool.false_and]
  · rw [spec_IsNumber_eq]
    simp only [Option.bind_some]
    cases hc : isNum c with
    | false =>
      refine ev_eqr (Ev.step (f := fun _ => some false) (fun k => by simp [spec_IsAtom.j0]) (Ev.now _)) ?_
      simp [isAt, hc]
    | true =>
      refine Ev.step (f := fun k => spec_IsAtom.l0 k 0 l c s) (fun k => by simp [spec_IsAtom.j0]) ?_
      refine ev_eqr (spec_IsAtom_l0_ev l c s hl hc) ?_
      cases hall : l.all isNum <;> simp [isAt, hc, hall, show l.length ≤ 4 by omega]
theorem all_tdiv {l : List Int} {g : Int} : ∀ x ∈ l.map (·.tdiv g), ∃ y ∈ l, x = y.tdiv g := by
  intro x hx
  obtain ⟨y, hy, rfl⟩ := List.mem_map.1 hx
  exact ⟨y, hy, rfl⟩
theorem spec_l2Atom_ev (l : List Int) (c : Int) (s : Bool) (hl : l.length ≤ 1048576) (hb : ∀ x ∈ l, -9223372036854775807 ≤ x ∧ x ≤ 9223372036854775807) (hc : -9223372036854775807 ≤ c ∧ c ≤ 9223372036854775807) : Ev (fun k => spec_l2Atom.f k l c s) (mkAt l c s) := by
  unfold spec_l2Atom.f
  refine Ev.bind (spec_l2Gcd_ev l c hl hb hc) ?_
  rw [mx_div1]
  have hp := div1_pos (Nat.gcd (gcdL l) c.natAbs)
  refine ev_neg (by omega) ?_
  rw [w64_tdiv hc.1 hc.2]
  have := ev_push (fun k ys i => spec_l2Atom.l0 k l (div1 (Nat.gcd (gcdL l) c.natAbs)) i ys (c.tdiv (div1 (Nat.gcd (gcdL l) c.natAbs))) s) l (fun _ x => x.tdiv (div1 (Nat.gcd (gcdL l) c.natAbs))) (mkAt l c s)
    (by
      rw [mapIdx_const l (fun x => x.tdiv (div1 (Nat.gcd (gcdL l) c.natAbs)))]
      refine Ev.step (fun k => by rw [spec_l2Atom.l0, if_neg (by omega)]) ?_
      refine Ev.bind (spec_IsAtom_ev _ _ s (by simpa using hl)) ?_
      unfold mkAt
      exact ev_ite (fun h => by simp only [h, if_true]; exact Ev.now _) (fun h => by simp only [h]; exact Ev.now _))
    (fun i hi ys hy ih => by
      have hx := hb l[i] (List.getElem_mem hi)
      refine Ev.step (fun k => by rw [spec_l2Atom.l0]) ?_
      refine ev_pos (by omega) (ev_pos (by omega) (ev_neg (by omega) (ev_pos (by omega) ?_)))
      simp only [rd, Int.toNat_natCast, getD_of_lt hi]
      rw [w64_succ (by omega), w64_tdiv hx.1 hx.2]
      exact ih)
  simpa using this
theorem impl_divisorOf_ev (l : List Int) (hl : l.length ≤ 1048576) (hb : ∀ x ∈ l, -9223372036854775807 ≤ x ∧ x ≤ 9223372036854775807) : Ev (fun k => impl_divisorOf.f k l) (gcdL l : Int) := by
  unfold impl_divisorOf.f
  have := ev_fold (fun k (g : Nat) i => impl_divisorOf.l0 k (g : Int) l (l.length : Int) i) l (fun g x => Nat.gcd g x.natAbs) (fun g => (g : Int)) (fun g => g ≤ 9223372036854775807)
    (fun g _ => Ev.step (f := fun _ => some (g : Int)) (fun k => by simp [impl_divisorOf.l0]) (Ev.now _))
    (fun i hi g r hg => by
      have hx := hb l[i] (List.getElem_mem hi)
      refine ⟨gcd_le_max _ _ _ hg (by omega), fun ih => ?_⟩
      refine Ev.step (fun k => by rw [impl_divisorOf.l0]) ?_
      refine ev_pos (by omega) (ev_pos (by omega) (ev_pos (by omega) ?_))
      simp only [rd, Int.toNat_natCast, getD_of_lt hi]
      refine Ev.bind (impl_commonDivisor_ev _ _ (by omega) hx) ?_
      rw [w64_succ (by omega)]
      have e : ((Int.gcd (g : Int) l[i] : Nat) : Int) = ((Nat.gcd g l[i].natAbs : Nat) : Int) := by simp [Int.gcd]
      rw [e]; exact ih) 0 (by omega)
  exact this
theorem isNum_bd' {x : Int} (h : isNum x = true) : -9223372036854775807 ≤ x ∧ x ≤ 9223372036854775807 := by rw [isNum_iff] at h; omega
theorem impl_IsAtom_l0_ev (l : List Int) (c : Int) (s : Bool) (hl : l.length ≤ 1048576) (hc : isNum c = true) : Ev (fun k => impl_IsAtom.l0 k l (l.length : Int) 0 l c s) (if l.all isNum then decide (Nat.gcd (gcdL l) c.natAbs ≤ 1) else false) := by
  have := ev_allq (fun k i => impl_IsAtom.l0 k l (l.length : Int) i l c s) l isNum (decide (Nat.gcd (gcdL l) c.natAbs ≤ 1)) false
    (fun hall => by
      have hb := fun x hx => isNum_bd' (List.all_eq_true.1 hall x hx)
      have hg : gcdL l ≤ 9223372036854775807 := gcdL_le l _ (fun x hx => by have := hb x hx; omega)
      refine Ev.step (fun k => by rw [impl_IsAtom.l0, if_neg (by omega)]) ?_
      refine Ev.bind (impl_divisorOf_ev l hl hb) (Ev.bind (impl_commonDivisor_ev _ c (by omega) (isNum_bd' hc)) (ev_some ?_))
      have e : ((Int.gcd (gcdL l : Int) c : Nat) : Int) = ((Nat.gcd (gcdL l) c.natAbs : Nat) : Int) := by simp [Int.gcd]
      rw [e, Bool.eq_iff_iff]; simp; omega)
    (fun i hi r hp ih => by
      refine Ev.step (fun k => by rw [impl_IsAtom.l0]) ?_
      refine ev_pos (by omega) (ev_pos (by omega) (ev_pos (by omega) ?_))
      simp only [rd, Int.toNat_natCast, getD_of_lt hi]
      rw [impl_IsNumber_eq, w64_succ (by omega)]
      simp only [Option.bind_some]
      exact ev_pos hp ih)
    (fun i hi hp => by
      refine Ev.step (fun k => by rw [impl_IsAtom.l0]) ?_
      refine ev_pos (by omega) (ev_pos (by omega) (ev_pos (by omega) ?_))
      simp only [rd, Int.toNat_natCast, getD_of_lt hi]
      rw [impl_IsNumber_eq]
      simp only [Option.bind_some]
      exact ev_neg (by simp [hp]) (Ev.now _))
  simpa using this
theorem impl_IsAtom_ev (l : List Int) (c : Int) (s : Bool) (hl : l.length ≤ 1048576) : Ev (fun k => impl_IsAtom.f k l c s) (isAt l c) := by
  unfold impl_IsAtom.f
  refine ev_ite (fun h => ?_) (fun h => ?_)
  · refine ev_eqr (Ev.step (f := fun _ => some false) (fun k => by simp [impl_IsAtom.j0]) (Ev.now _)) ?_
    simp only [isAt, show ¬ l.length ≤ 4 by omega, decide_false, Bool.false_and]
  · rw [impl_IsNumber_eq]
    simp only [Option.bind_some]
    cases hc : isNum c with
    | false =>
      refine ev_eqr (Ev.step (f := fun _ => some false) (fun k => by simp [impl_IsAtom.j0]) (Ev.now _)) ?_
      simp [isAt, hc]
    | true =>
      refine Ev.step (f := fun k => impl_IsAtom.l0 k l (l.length : Int) 0 l c s) (fun k => by simp [impl_IsAtom.j0]) ?_
      refine ev_eqr (impl_IsAtom_l0_ev l c s hl hc) ?_
      cases hall : l.all isNum <;> simp [isAt, hc, hall, show l.length ≤ 4 by omega]
theorem impl_makeOf_j0_ev (l : List Int) (c : Int) (s : Bool) (g : Int) (hg : 0 < g) (hl : l.length ≤ 1048576) (hb : ∀ x ∈ l, -9223372036854775807 ≤ x ∧ x ≤ 9223372036854775807) (hc : -9223372036854775807 ≤ c ∧ c ≤ 9223372036854775807) :
    Ev (fun k => impl_makeOf.j0 k l c s g) (if isAt (l.map (·.tdiv g)) (c.tdiv g) then (l.map (·.tdiv g), c.tdiv g, s, true) else noAt) := by
  refine Ev.step (fun k => by rw [impl_makeOf.j0]) ?_
  refine ev_pos (by omega) (ev_pos (by simp; omega) (ev_neg (by omega) ?_))
  rw [w64_tdiv hc.1 hc.2]
  have := ev_put (fun k ys i => impl_makeOf.l0 k g l (l.length : Int) i ys (c.tdiv g) s) l (fun _ x => x.tdiv g) 0 (if isAt (l.map (·.tdiv g)) (c.tdiv g) then (l.map (·.tdiv g), c.tdiv g, s, true) else noAt)
    (by
      rw [mapIdx_const l (fun x => x.tdiv g)]
      refine Ev.step (fun k => by rw [impl_makeOf.l0, if_neg (by omega)]) ?_
      refine Ev.bind (impl_IsAtom_ev _ _ s (by simpa using hl)) ?_
      exact ev_ite (fun h => by simp only [h, if_true]; exact Ev.now _) (fun h => by simp only [h]; exact Ev.now _))
    (fun i hi ys hy ih => by
      have hx := hb l[i] (List.getElem_mem hi)
      refine Ev.step (fun k => by rw [impl_makeOf.l0]) ?_
      refine ev_pos (by omega) (ev_pos (by omega) (ev_pos (by omega) (ev_neg (by omega) (ev_pos (by omega) ?_))))
      simp only [rd, Int.toNat_natCast, getD_of_lt hi]
      rw [w64_succ (by omega), w64_tdiv hx.1 hx.2]
      exact ih)
  simpa using this
theorem impl_makeOf_ev (l : List Int) (c : Int) (s : Bool) (hl : l.length ≤ 1048576) (hb : ∀ x ∈ l, -9223372036854775807 ≤ x ∧ x ≤ 9223372036854775807) (hc : -9223372036854775807 ≤ c ∧ c ≤ 9223372036854775807) : Ev (fun k => impl_makeOf.f k l c s) (mkAt l c s) := by
  have hg : gcdL l ≤ 9223372036854775807 := gcdL_le l _ (fun x hx => by have := hb x hx; omega)
  unfold impl_makeOf.f
  refine Ev.bind (impl_divisorOf_ev l hl hb) (Ev.bind (impl_commonDivisor_ev _ c (by omega) hc) ?_)
  have e : ((Int.gcd (gcdL l : Int) c : Nat) : Int) = ((Nat.gcd (gcdL l) c.natAbs : Nat) : Int) := by simp [Int.gcd]
  rw [e]
  unfold mkAt
  refine ev_ite (fun h => ?_) (fun h => ?_)
  · have e2 : div1 (Nat.gcd (gcdL l) c.natAbs) = 1 := by unfold div1; rw [if_pos (by omega)]
    simp only [e2]
    exact impl_makeOf_j0_ev l c s 1 (by omega) hl hb hc
  · have e2 : div1 (Nat.gcd (gcdL l) c.natAbs) = ((Nat.gcd (gcdL l) c.natAbs : Nat) : Int) := by unfold div1; rw [if_neg (by omega)]
    simp only [e2]
    exact impl_makeOf_j0_ev l c s _ (by omega) hl hb hc
theorem mix_bd {p q x y : Int} (hp : 0 ≤ p ∧ p ≤ 400000000) (hq : 0 ≤ q ∧ q ≤ 400000000) (hx : isNum x = true) (hy : isNum y = true) :
    wrap64 (p * x) = p * x ∧ wrap64 (q * y) = q * y ∧ wrap64 (p * x + q * y) = p * x + q * y ∧ -9223372036854775807 ≤ p * x + q * y ∧ p * x + q * y ≤ 9223372036854775807 := by
  rw [isNum_iff] at hx hy
  have m1 := mul_bd (a := p) (b := x) (by omega) hx
  have m2 := mul_bd (a := q) (b := y) (by omega) hy
  exact ⟨w64 (by omega) (by omega), w64 (by omega) (by omega), w64 (by omega) (by omega), by omega, by omega⟩
theorem mixL_bd {p q : Int} {l1 l2 : List Int} (hp : 0 ≤ p ∧ p ≤ 400000000) (hq : 0 ≤ q ∧ q ≤ 400000000) (h1 : ∀ x ∈ l1, isNum x = true) (h2 : ∀ x ∈ l2, isNum x = true) : ∀ x ∈ mixL p l1 q l2, -9223372036854775807 ≤ x ∧ x ≤ 9223372036854775807 := by
  intro x hx
  unfold mixL at hx
  obtain ⟨i, hi, rfl⟩ := List.getElem_of_mem hx
  rw [List.length_zipWith] at hi
  rw [List.getElem_zipWith]
  have := mix_bd hp hq (h1 _ (List.getElem_mem (show i < l1.length by omega))) (h2 _ (List.getElem_mem (show i < l2.length by omega)))
  exact ⟨this.2.2.2.1, this.2.2.2.2⟩
theorem mixL_idx (p : Int) (l1 : List Int) (q : Int) (l2 : List Int) (h : l1.length = l2.length) : l1.mapIdx (fun i x => p * x + q * l2.getD i 0) = mixL p l1 q l2 := by
  unfold mixL
  refine List.ext_getElem (by simp; omega) (fun i h1 h2 => ?_)
  simp only [List.length_mapIdx] at h1
  rw [List.getElem_mapIdx, List.getElem_zipWith, getD_of_lt (by omega)]
theorem spec_MixAtoms_ev (l1 : List Int) (c1 : Int) (s1 : Bool) (p : Int) (l2 : List Int) (c2 : Int) (s2 : Bool) (q : Int) (hl1 : l1.length ≤ 1048576) (hl2 : l2.length ≤ 1048576) : Ev (fun k => spec_MixAtoms.f k l1 c1 s1 p l2 c2 s2 q) (mixAt l1 c1 s1 p l2 c2 s2 q) := by
  unfold spec_MixAtoms.f mixAt
  have no : ∀ k, spec_MixAtoms.j0 (k + 1) p q true l1 c1 s1 l2 c2 s2 = some noAt := fun k => by simp [spec_MixAtoms.j0, noAt]
  have nop : ∀ {b : Bool}, b = false → Ev (fun k => spec_MixAtoms.j0 k p q true l1 c1 s1 l2 c2 s2) (if b then mkAt (mixL p l1 q l2) (p * c1 + q * c2) (s1 && decide (0 < p) || s2 && decide (0 < q)) else noAt) := fun hb => by
    rw [hb]; exact Ev.step (f := fun _ => some noAt) no (Ev.now _)
  refine Ev.bind (spec_IsAtom_ev l1 c1 s1 hl1) (ev_ite (fun h1 => Ev.bind (spec_IsAtom_ev l2 c2 s2 hl2) (ev_ite (fun h2 => ev_ite (fun h3 => ?_) (fun h3 => ?_)) (fun h2 => ?_))) (fun h1 => ?_))
  · have h3' : l1.length = l2.length := by omega
    rw [spec_l1In_eq, spec_l1In_eq]
    simp only [Option.bind_some]
    refine ev_ite (fun h4 => ?_) (fun h4 => ?_)
    · rw [h1, h2, decide_eq_true h3', h4]
      simp only [Bool.and_self, Bool.true_and]
      cases h5 : decide (0 ≤ q) && decide (q ≤ 400000000) with
      | false => exact nop rfl
      | true =>
        simp only [if_true]
        simp only [Bool.and_eq_true, decide_eq_true_eq] at h4 h5
        obtain ⟨_, hc1, hb1, _⟩ := isAt_iff.1 h1
        obtain ⟨_, hc2, hb2, _⟩ := isAt_iff.1 h2
        have mc := mix_bd h4 h5 hc1 hc2
        have hbm := mixL_bd h4 h5 hb1 hb2
        have hlm : (mixL p l1 q l2).length ≤ 1048576 := by unfold mixL; rw [List.length_zipWith]; omega
        refine Ev.step (fun k => by rw [spec_MixAtoms.j0, if_neg (by simp)]) ?_
        exact ev_push (fun k ys i => spec_MixAtoms.l0 k p q ys i l1 c1 s1 l2 c2 s2) l1 (fun i x => p * x + q * l2.getD i 0) (mkAt (mixL p l1 q l2) (p * c1 + q * c2) (s1 && decide (0 < p) || s2 && decide (0 < q)))
          (by
            rw [mixL_idx p l1 q l2 h3']
            refine Ev.step (fun k => by rw [spec_MixAtoms.l0, if_neg (by omega)]) ?_
            rw [mc.1, mc.2.1, mc.2.2.1]
            have fin : ∀ s, Ev (fun k => (spec_l2Atom.f k (mixL p l1 q l2) (p * c1 + q * c2) s).bind fun bt => some (bt.1, bt.2.1, bt.2.2.1, bt.2.2.2)) (mkAt (mixL p l1 q l2) (p * c1 + q * c2) s) :=
              fun s => Ev.bind (spec_l2Atom_ev _ _ s hlm hbm mc.2.2.2) (Ev.now _)
            cases s1 with
            | true =>
              refine ev_pos rfl (ev_ite (fun hp => ?_) (fun hp => ?_))
              · rw [decide_eq_true (show 0 < p from hp)]; exact fin true
              · rw [decide_eq_false (show ¬ 0 < p from hp)]
                cases s2 with
                | true => refine ev_pos rfl ?_; exact fin _
                | false => refine ev_neg (by simp) ?_; exact fin _
            | false =>
              refine ev_neg (by simp) ?_
              cases s2 with
              | true => refine ev_pos rfl ?_; exact fin _
              | false => refine ev_neg (by simp) ?_; exact fin _)
          (fun i hi ys hy ih => by
            have hi2 : i < l2.length := by omega
            have mx := mix_bd h4 h5 (hb1 _ (List.getElem_mem hi)) (hb2 _ (List.getElem_mem hi2))
            refine Ev.step (fun k => by rw [spec_MixAtoms.l0]) ?_
            refine ev_pos (by omega) (ev_pos (by omega) (ev_pos (by omega) (ev_pos (by omega) ?_)))
            simp only [rd, Int.toNat_natCast, getD_of_lt hi, getD_of_lt hi2] at ih ⊢
            rw [w64_succ (by omega), mx.1, mx.2.1, mx.2.2.1]
            exact ih)
    · exact nop (by rw [Bool.not_eq_true] at h4; rw [h4]; simp)
  · exact nop (by rw [decide_eq_false (show ¬ l1.length = l2.length by omega)]; simp)
  · exact nop (by simp [h2])
  · exact nop (by simp [h1])
theorem mix_bd' {p q x y : Int} (hp : 0 ≤ p ∧ p ≤ 400000000) (hq : 0 ≤ q ∧ q ≤ 400000000) (hx : isNum x = true) (hy : isNum y = true) :
    wrap64 (p * x) = p * x ∧ wrap64 (q * y) = q * y ∧ wrap64 (p * x + q * y) = p * x + q * y ∧ -9223372036854775807 ≤ p * x + q * y ∧ p * x + q * y ≤ 9223372036854775807 := by
  rw [isNum_iff] at hx hy
  have m1 := mul_bd (a := p) (b := x) (by omega) hx
  have m2 := mul_bd (a := q) (b := y) (by omega) hy
  exact ⟨w64 (by omega) (by omega), w64 (by omega) (by omega), w64 (by omega) (by omega), by omega, by omega⟩
theorem mixL_bd' {p q : Int} {l1 l2 : List Int} (hp : 0 ≤ p ∧ p ≤ 400000000) (hq : 0 ≤ q ∧ q ≤ 400000000) (h1 : ∀ x ∈ l1, isNum x = true) (h2 : ∀ x ∈ l2, isNum x = true) : ∀ x ∈ mixL p l1 q l2, -9223372036854775807 ≤ x ∧ x ≤ 9223372036854775807 := by
  intro x hx
  unfold mixL at hx
  obtain ⟨i, hi, rfl⟩ := List.getElem_of_mem hx
  rw [List.length_zipWith] at hi
  rw [List.getElem_zipWith]
  have := mix_bd' hp hq (h1 _ (List.getElem_mem (show i < l1.length by omega))) (h2 _ (List.getElem_mem (show i < l2.length by omega)))
  exact ⟨this.2.2.2.1, this.2.2.2.2⟩
theorem mixL_idx' (p : Int) (l1 : List Int) (q : Int) (l2 : List Int) (h : l1.length = l2.length) : (List.replicate l1.length (0 : Int)).mapIdx (fun i _ => p * l1.getD i 0 + q * l2.getD i 0) = mixL p l1 q l2 := by
  unfold mixL
  refine List.ext_getElem (by simp; omega) (fun i h1 h2 => ?_)
  simp only [List.length_mapIdx, List.length_replicate] at h1
  rw [List.getElem_mapIdx, List.getElem_zipWith, getD_of_lt (by omega), getD_of_lt (by omega)]
theorem impl_MixAtoms_j1_ev (l1 : List Int) (c1 : Int) (s1 : Bool) (p : Int) (l2 : List Int) (c2 : Int) (s2 : Bool) (q : Int) (h4 : 0 ≤ p ∧ p ≤ 400000000) (h5 : 0 ≤ q ∧ q ≤ 400000000) (h1 : isAt l1 c1 = true) (h2 : isAt l2 c2 = true) (h3 : l1.length = l2.length) :
    Ev (fun k => impl_MixAtoms.j1 k p q false l1 c1 s1 l2 c2 s2) (mkAt (mixL p l1 q l2) (p * c1 + q * c2) (s1 && decide (0 < p) || s2 && decide (0 < q))) := by
  obtain ⟨hl4, hc1, hb1, _⟩ := isAt_iff.1 h1
  obtain ⟨_, hc2, hb2, _⟩ := isAt_iff.1 h2
  have mc := mix_bd' h4 h5 hc1 hc2
  have hbm := mixL_bd' h4 h5 hb1 hb2
  have hlm : (mixL p l1 q l2).length ≤ 1048576 := by unfold mixL; rw [List.length_zipWith]; omega
  refine Ev.step (fun k => by rw [impl_MixAtoms.j1, if_neg (by simp)]) ?_
  refine ev_pos (by omega) (ev_pos (by simp; omega) ?_)
  simp only [Option.bind_some, Int.toNat_natCast, List.length_replicate]
  have := ev_upd (fun k ys i => impl_MixAtoms.l0 k p q ys (l1.length : Int) i l1 c1 s1 l2 c2 s2) (List.replicate l1.length (0 : Int)) (fun i _ => p * l1.getD i 0 + q * l2.getD i 0) (mkAt (mixL p l1 q l2) (p * c1 + q * c2) (s1 && decide (0 < p) || s2 && decide (0 < q)))
    (by
      rw [mixL_idx' p l1 q l2 h3, List.length_replicate]
      refine Ev.step (fun k => by rw [impl_MixAtoms.l0, if_neg (by omega)]) ?_
      rw [mc.1, mc.2.1, mc.2.2.1]
      have fin : ∀ s, Ev (fun k => (impl_makeOf.f k (mixL p l1 q l2) (p * c1 + q * c2) s).bind fun bt => some (bt.1, bt.2.1, bt.2.2.1, bt.2.2.2)) (mkAt (mixL p l1 q l2) (p * c1 + q * c2) s) :=
        fun s => Ev.bind (impl_makeOf_ev _ _ s hlm hbm mc.2.2.2) (Ev.now _)
      have eq : (q != 0) = decide (0 < q) := by rw [Bool.eq_iff_iff]; simp; omega
      rw [eq]
      cases s1 with
      | true =>
        refine ev_pos rfl (ev_ite (fun hp => ?_) (fun hp => ?_))
        · rw [decide_eq_false (show ¬ 0 < p by omega)]
          cases s2 with
          | true => refine ev_pos rfl ?_; exact fin _
          | false => refine ev_neg (by simp) ?_; exact fin _
        · rw [decide_eq_true (show 0 < p by omega)]; exact fin true
      | false =>
        refine ev_neg (by simp) ?_
        cases s2 with
        | true => refine ev_pos rfl ?_; exact fin _
        | false => refine ev_neg (by simp) ?_; exact fin _)
    (fun i hi ys hy hyi ih => by
      rw [List.length_replicate] at hi hy
      have hi2 : i < l2.length := by omega
      have mx := mix_bd' h4 h5 (hb1 _ (List.getElem_mem hi)) (hb2 _ (List.getElem_mem hi2))
      refine Ev.step (fun k => by rw [impl_MixAtoms.l0]) ?_
      refine ev_pos (by omega) (ev_pos (by omega) (ev_pos (by omega) (ev_pos (by omega) (ev_pos (by omega) ?_))))
      simp only [rd, Int.toNat_natCast, getD_of_lt hi, getD_of_lt hi2] at ih ⊢
      rw [w64_succ (by omega), mx.1, mx.2.1, mx.2.2.1]
      exact ih)
  exact this
theorem impl_MixAtoms_ev (l1 : List Int) (c1 : Int) (s1 : Bool) (p : Int) (l2 : List Int) (c2 : Int) (s2 : Bool) (q : Int) (hl1 : l1.length ≤ 1048576) (hl2 : l2.length ≤ 1048576) : Ev (fun k => impl_MixAtoms.f k l1 c1 s1 p l2 c2 s2 q) (mixAt l1 c1 s1 p l2 c2 s2 q) := by
  unfold impl_MixAtoms.f mixAt
  have no : ∀ k, impl_MixAtoms.j0 (k + 1) p q true l1 c1 s1 l2 c2 s2 = some noAt := fun k => by simp [impl_MixAtoms.j0, noAt]
  have no1 : ∀ k, impl_MixAtoms.j1 (k + 1) p q true l1 c1 s1 l2 c2 s2 = some noAt := fun k => by simp [impl_MixAtoms.j1, noAt]
  have nop : ∀ {b : Bool}, b = false → Ev (fun k => impl_MixAtoms.j0 k p q true l1 c1 s1 l2 c2 s2) (if b then mkAt (mixL p l1 q l2) (p * c1 + q * c2) (s1 && decide (0 < p) || s2 && decide (0 < q)) else noAt) := fun hb => by
    rw [hb]; exact Ev.step (f := fun _ => some noAt) no (Ev.now _)
  have nop1 : ∀ {b : Bool}, b = false → Ev (fun k => impl_MixAtoms.j1 k p q true l1 c1 s1 l2 c2 s2) (if b then mkAt (mixL p l1 q l2) (p * c1 + q * c2) (s1 && decide (0 < p) || s2 && decide (0 < q)) else noAt) := fun hb => by
    rw [hb]; exact Ev.step (f := fun _ => some noAt) no1 (Ev.now _)
  refine Ev.bind (impl_IsAtom_ev l1 c1 s1 hl1) (ev_ite (fun h1 => Ev.bind (impl_IsAtom_ev l2 c2 s2 hl2) (ev_ite (fun h2 => ?_) (fun h2 => ?_))) (fun h1 => ?_))
  · by_cases h3 : l1.length = l2.length
    · rw [show ((l1.length : Int) != (l2.length : Int)) = false by simp [h3]]
      refine Ev.step (fun k => by rw [impl_MixAtoms.j0, if_neg (by simp)]) ?_
      refine ev_ite (fun a => nop1 ?_) (fun a => ev_ite (fun b => nop1 ?_) (fun b => ev_ite (fun c => nop1 ?_) (fun c => ?_)))
      · rw [decide_eq_false (show ¬ 0 ≤ p by omega)]; simp
      · rw [decide_eq_false (show ¬ p ≤ 400000000 by omega)]; simp
      · rw [decide_eq_false (show ¬ 0 ≤ q by omega)]; simp
      · by_cases d : q > 400000000
        · rw [decide_eq_true d]
          exact nop1 (by rw [decide_eq_false (show ¬ q ≤ 400000000 by omega)]; simp)
        · rw [decide_eq_false d, h1, h2, decide_eq_true h3, decide_eq_true (show 0 ≤ p by omega), decide_eq_true (show p ≤ 400000000 by omega), decide_eq_true (show 0 ≤ q by omega), decide_eq_true (show q ≤ 400000000 by omega)]
          exact impl_MixAtoms_j1_ev l1 c1 s1 p l2 c2 s2 q (by omega) (by omega) h1 h2 h3
    · rw [show ((l1.length : Int) != (l2.length : Int)) = true by simp; omega]
      exact nop (by rw [decide_eq_false h3]; simp)
  · exact nop (by simp [h2])
  · exact nop (by simp [h1])

end Go.Proofs.Ytaijkhabcidagaa.LFnExactMixAtoms
