/- What the printed functions of the law FnExactFormatAtom compute, in plain words; each holds under the bounds that it names. -/
import Derived.Test.YtohoibekddhneaaDoorQFnExactFormatAtomx
import Derived.Test.YtohoibekddhneaaDoorPlainFnExactFormatAtom
import Derived.Test.YtohoibekddhneaaDoorPlainAFnExactFormatAtom
set_option linter.unusedVariables false
set_option linter.unusedSimpArgs false
namespace Go.Proofs.YtohoibekddhneaaDoor.LFnExactFormatAtom
open Go.RowKit Go.Proofs.YtohoibekddhneaaDoor.PFnExactFormatAtom Go.Proofs.YtohoibekddhneaaDoor.Pl Go.Proofs.YtohoibekddhneaaDoorW.PrintWords Go.Proofs.YtohoibekddhneaaDoorW.PrintLast Go.Proofs.YtohoibekddhneaaDoorW.PrintMore

theorem spec_l1In_eq (a b c : Int) : spec_l1In.f a b c = some (decide (b ≤ a) && decide (a ≤ c)) := by
  unfold spec_l1In.f
  by_cases h : b ≤ a
  · rw [if_pos h]; simp [h]
  · rw [if_neg h]; simp [h]
theorem spec_IsNumber_eq (n : Int) : spec_IsNumber.f n = some (isNum n) := by
  unfold spec_IsNumber.f
  rw [spec_l1In_eq]; rfl
theorem impl_IsNumber_eq (n : Int) : impl_IsNumber.f n = some (isNum n) := by
  unfold impl_IsNumber.f isNum
  by_cases h : n ≥ -400000000
  · rw [if_pos h]
    have h' : -400000000 ≤ n := h
    simp [h']
  · rw [if_neg h]
    have h' : ¬ -400000000 ≤ n := h
    simp [h']
theorem spec_l1Abs_eq (a : Int) (h : -9223372036854775807 ≤ a) (h' : a ≤ 9223372036854775807) : spec_l1Abs.f a = some (a.natAbs : Int) := by
  unfold spec_l1Abs.f mx
  rw [w64 (by omega) (by omega)]
  congr 1
  split <;> omega
theorem impl_absolute_eq (a : Int) (h : -9223372036854775807 ≤ a) (h' : a ≤ 9223372036854775807) : impl_absolute.f a = some (a.natAbs : Int) := by
  unfold impl_absolute.f
  by_cases c : a < 0
  · rw [if_pos c, w64 (by omega) (by omega)]; congr 1; omega
  · rw [if_neg c]; congr 1; omega
theorem impl_commonDivisor_l0_ev (a b : Int) : Ev (fun k => impl_commonDivisor.l0 k a b) (eu a b) := by
  fun_induction eu a b with
  | case1 a => exact Ev.step (f := fun _ => some a) (fun k => by simp [impl_commonDivisor.l0]) (Ev.now a)
  | case2 a b h ih => exact Ev.step (fun k => by simp only [impl_commonDivisor.l0]; rw [if_neg h]) ih
theorem impl_commonDivisor_ev (a b : Int) (h : -9223372036854775807 ≤ a ∧ a ≤ 9223372036854775807) (h' : -9223372036854775807 ≤ b ∧ b ≤ 9223372036854775807) : Ev (fun k => impl_commonDivisor.f k a b) (Int.gcd a b : Int) := by
  unfold impl_commonDivisor.f
  rw [impl_absolute_eq a h.1 h.2, impl_absolute_eq b h'.1 h'.2]
  simp only [Option.bind_some]
  rw [← eu_abs]
  exact impl_commonDivisor_l0_ev _ _
theorem laws_szIntS_eq (l : List Int) (a : Int) (h : l.length ≤ maxLen) (ha : 0 ≤ a ∧ a ≤ 1048576) : laws_szIntS.f l a = some (lft a l.length) := by
  unfold laws_szIntS.f lft
  unfold maxLen at h
  rw [w64 (by omega) (by omega)]
  by_cases h' : a < (l.length : Int)
  · rw [if_pos (by omega), if_pos h']
  · rw [if_neg (by omega), if_neg h']
theorem laws_szAtom_eq (l : List Int) (c : Int) (s : Bool) (a : Int) (h : l.length ≤ maxLen) (ha : 0 ≤ a ∧ a ≤ 1048576) : laws_szAtom.f l c s a = some (lft a l.length) := by
  unfold laws_szAtom.f
  rw [laws_szIntS_eq l a h ha, Option.bind_some]
  unfold lft
  by_cases h' : a < (l.length : Int)
  · simp [h']
  · rw [if_neg h', if_neg (by omega)]
theorem laws_toIntS_ev (l : List Int) (h : l.length ≤ 1048576) : Ev (fun k => laws_toIntS.f k l) l := by
  unfold laws_toIntS.f
  refine ev_pos (by omega) (ev_pos (by simp; omega) ?_)
  have := ev_put (fun k ys i => laws_toIntS.l0 k l ys i) l (fun _ x => x) 0 l
    (by
      rw [mapIdx_const l (fun x => x), List.map_id']
      exact Ev.step (f := fun _ => some l) (fun k => by simp [laws_toIntS.l0]) (Ev.now _))
    (fun i hi ys hy ih => by
      refine Ev.step (fun k => by rw [laws_toIntS.l0]) ?_
      refine ev_pos (by omega) (ev_pos (by omega) (ev_pos (by omega) ?_))
      rw [w64_succ (by omega)]
      simp only [rd, Int.toNat_natCast, getD_of_lt hi]
      exact ih)
  simpa using this
theorem laws_toAtom_ev (l : List Int) (c : Int) (s : Bool) (h : l.length ≤ 1048576) : Ev (fun k => laws_toAtom.f k l c s) (l, c, s) := by
  unfold laws_toAtom.f
  exact Ev.bind (laws_toIntS_ev l h) (Ev.now _)
theorem laws_eqIntS_ev (l : List Int) (h : l.length ≤ 1048576) : Ev (fun k => laws_eqIntS.f k l l) true := by
  unfold laws_eqIntS.f
  refine ev_pos rfl ?_
  have := ev_all (fun k i => laws_eqIntS.l0 k l l i) l (fun _ => true) true false
    (Ev.step (f := fun _ => some true) (fun k => by simp [laws_eqIntS.l0]) (Ev.now _))
    (fun i hi r _ ih => by
      refine Ev.step (fun k => by rw [laws_eqIntS.l0]) ?_
      refine ev_pos (by omega) (ev_pos (by omega) (ev_pos (by omega) (ev_pos rfl ?_)))
      rw [w64_succ (by omega)]
      exact ih)
    (fun i hi h' => by simp at h')
  simpa using this
theorem laws_eqAtom_ev (l : List Int) (c : Int) (s : Bool) (h : l.length ≤ 1048576) : Ev (fun k => laws_eqAtom.f k l c s l c s) true := by
  unfold laws_eqAtom.f
  refine Ev.bind (laws_eqIntS_ev l h) (ev_pos rfl (ev_pos rfl ?_))
  exact ev_neg (by simp) (Ev.now _)
theorem spec_l2Gcd_l1_ev (x0 : List Int) (i : Nat) (hi : i < 4611686018427387904) (r : Int) (g a : Int) (hg : 0 ≤ g) (ha : 0 ≤ a) (h : Ev (fun k => spec_l2Gcd.l0 k x0 (eu g a) ((i + 1 : Nat) : Int)) r) : Ev (fun k => spec_l2Gcd.l1 k x0 g (i : Nat) a) r := by
  fun_induction eu g a with
  | case1 g => exact Ev.step (fun k => by rw [spec_l2Gcd.l1, if_pos rfl, w64_succ (by omega)]) h
  | case2 g a hz ih => exact Ev.step (fun k => by rw [spec_l2Gcd.l1, if_neg hz]) (ih ha (Int.tmod_nonneg _ hg) h)
theorem spec_l2Gcd_ev (l : List Int) (c : Int) (hl : l.length ≤ 1048576) (hb : ∀ x ∈ l, -9223372036854775807 ≤ x ∧ x ≤ 9223372036854775807) (hc : -9223372036854775807 ≤ c ∧ c ≤ 9223372036854775807) : Ev (fun k => spec_l2Gcd.f k l c) ((Nat.gcd (gcdL l) c.natAbs : Nat) : Int) := by
  unfold spec_l2Gcd.f
  rw [spec_l1Abs_eq c hc.1 hc.2]
  simp only [Option.bind_some]
  have := ev_fold (fun k (g : Nat) i => spec_l2Gcd.l0 k l (g : Int) i) l (fun g x => Nat.gcd g x.natAbs) (fun g => (g : Int)) (fun _ => True)
    (fun g _ => Ev.step (f := fun _ => some (g : Int)) (fun k => by simp [spec_l2Gcd.l0]) (Ev.now _))
    (fun i hi g r _ => ⟨trivial, fun ih => by
      have hx := hb l[i] (List.getElem_mem hi)
      refine Ev.step (fun k => by rw [spec_l2Gcd.l0]) ?_
      refine ev_pos (by omega) (ev_pos (by omega) ?_)
      simp only [rd, Int.toNat_natCast, getD_of_lt hi]
      rw [spec_l1Abs_eq _ hx.1 hx.2]
      simp only [Option.bind_some]
      refine spec_l2Gcd_l1_ev l i (by omega) r _ _ (by omega) (by omega) ?_
      have e : eu (g : Int) (l[i].natAbs : Int) = ((Nat.gcd g l[i].natAbs : Nat) : Int) := by
        have h1 := eu_gcd (g : Int) (l[i].natAbs : Int)
        have h2 := eu_nonneg (g : Int) (l[i].natAbs : Int) (by omega) (by omega)
        simp only [Int.gcd, Int.natAbs_natCast] at h1
        omega
      rw [e]; exact ih⟩) c.natAbs trivial
  refine ev_eqr this ?_
  have e := gcdF_eq l c.natAbs
  unfold gcdF at e
  rw [e, Nat.gcd_comm]
theorem isNum_bd {x : Int} (h : isNum x = true) : -9223372036854775807 ≤ x ∧ x ≤ 9223372036854775807 := by rw [isNum_iff] at h; omega
theorem spec_IsAtom_l0_ev (l : List Int) (c : Int) (s : Bool) (hl : l.length ≤ 1048576) (hc : isNum c = true) : Ev (fun k => spec_IsAtom.l0 k 0 l c s) (if l.all isNum then decide (Nat.gcd (gcdL l) c.natAbs ≤ 1) else false) := by
  have := ev_allq (fun k i => spec_IsAtom.l0 k i l c s) l isNum (decide (Nat.gcd (gcdL l) c.natAbs ≤ 1)) false
    (fun hall => by
      refine Ev.step (fun k => by rw [spec_IsAtom.l0, if_neg (by omega)]) ?_
      refine Ev.bind (spec_l2Gcd_ev l c hl (fun x hx => isNum_bd (List.all_eq_true.1 hall x hx)) (isNum_bd hc)) (ev_some ?_)
      rw [Bool.eq_iff_iff]; simp; omega)
    (fun i hi r hp ih => by
      refine Ev.step (fun k => by rw [spec_IsAtom.l0]) ?_
      refine ev_pos (by omega) (ev_pos (by omega) ?_)
      simp only [rd, Int.toNat_natCast, getD_of_lt hi]
      rw [spec_IsNumber_eq, w64_succ (by omega)]
      simp only [Option.bind_some]
      exact ev_pos hp ih)
    (fun i hi hp => by
      refine Ev.step (fun k => by rw [spec_IsAtom.l0]) ?_
      refine ev_pos (by omega) (ev_pos (by omega) ?_)
      simp only [rd, Int.toNat_natCast, getD_of_lt hi]
      rw [spec_IsNumber_eq]
      simp only [Option.bind_some]
      exact ev_neg (by simp [hp]) (Ev.now _))
  simpa using this
theorem spec_IsAtom_ev (l : List Int) (c : Int) (s : Bool) (hl : l.length ≤ 1048576) : Ev (fun k => spec_IsAtom.f k l c s) (isAt l c) := by
  unfold spec_IsAtom.f
  refine ev_ite (fun h => ?_) (fun h => ?_)
  · refine ev_eqr (Ev.step (f := fun _ => some false) (fun k => by simp [spec_IsAtom.j0]) (Ev.now _)) ?_
    simp only [isAt, show ¬ l.length ≤ 4 by omega, decide_false, Bool.false_and]
  · rw [spec_IsNumber_eq]
    simp only [Option.bind_some]
    cases hc : isNum c with
    | false =>
      refine ev_eqr (Ev.step (f := fun _ => some false) (fun k => by simp [spec_IsAtom.j0]) (Ev.now _)) ?_
      simp [isAt, hc]
    | true =>
      refine Ev.step (f := fun k => spec_IsAtom.l0 k 0 l c s) (fun k => by simp [spec_IsAtom.j0]) ?_
      refine ev_eqr (spec_IsAtom_l0_ev l c s hl hc) ?_
      cases hall : l.all isNum <;> simp [isAt, hc, hall, show l.length ≤ 4 by omega]
theorem impl_divisorOf_ev (l : List Int) (hl : l.length ≤ 1048576) (hb : ∀ x ∈ l, -9223372036854775807 ≤ x ∧ x ≤ 9223372036854775807) : Ev (fun k => impl_divisorOf.f k l) (gcdL l : Int) := by
  unfold impl_divisorOf.f
  have := ev_fold (fun k (g : Nat) i => impl_divisorOf.l0 k (g : Int) l (l.length : Int) i) l (fun g x => Nat.gcd g x.natAbs) (fun g => (g : Int)) (fun g => g ≤ 9223372036854775807)
    (fun g _ => Ev.step (f := fun _ => some (g : Int)) (fun k => by simp [impl_divisorOf.l0]) (Ev.now _))
    (fun i hi g r hg => by
      have hx := hb l[i] (List.getElem_mem hi)
      refine ⟨gcd_le_max _ _ _ hg (by omega), fun ih => ?_⟩
      refine Ev.step (fun k => by rw [impl_divisorOf.l0]) ?_
      refine ev_pos (by omega) (ev_pos (by omega) (ev_pos (by omega) ?_))
      simp only [rd, Int.toNat_natCast, getD_of_lt hi]
      refine Ev.bind (impl_commonDivisor_ev _ _ (by omega) hx) ?_
      rw [w64_succ (by omega)]
      have e : ((Int.gcd (g : Int) l[i] : Nat) : Int) = ((Nat.gcd g l[i].natAbs : Nat) : Int) := by simp [Int.gcd]
      rw [e]; exact ih) 0 (by omega)
  exact this
theorem isNum_bd' {x : Int} (h : isNum x = true) : -9223372036854775807 ≤ x ∧ x ≤ 9223372036854775807 := by rw [isNum_iff] at h; omega
theorem impl_IsAtom_l0_ev (l : List Int) (c : Int) (s : Bool) (hl : l.length ≤ 1048576) (hc : isNum c = true) : Ev (fun k => impl_IsAtom.l0 k l (l.length : Int) 0 l c s) (if l.all isNum then decide (Nat.gcd (gcdL l) c.natAbs ≤ 1) else false) := by
  have := ev_allq (fun k i => impl_IsAtom.l0 k l (l.length : Int) i l c s) l isNum (decide (Nat.gcd (gcdL l) c.natAbs ≤ 1)) false
    (fun hall => by
      have hb := fun x hx => isNum_bd' (List.all_eq_true.1 hall x hx)
      have hg : gcdL l ≤ 9223372036854775807 := gcdL_le l _ (fun x hx => by have := hb x hx; omega)
      refine Ev.step (fun k => by rw [impl_IsAtom.l0, if_neg (by omega)]) ?_
      refine Ev.bind (impl_divisorOf_ev l hl hb) (Ev.bind (impl_commonDivisor_ev _ c (by omega) (isNum_bd' hc)) (ev_some ?_))
      have e : ((Int.gcd (gcdL l : Int) c : Nat) : Int) = ((Nat.gcd (gcdL l) c.natAbs : Nat) : Int) := by simp [Int.gcd]
      rw [e, Bool.eq_iff_iff]; simp; omega)
    (fun i hi r hp ih => by
      refine Ev.step (fun k => by rw [impl_IsAtom.l0]) ?_
      refine ev_pos (by omega) (ev_pos (by omega) (ev_pos (by omega) ?_))
      simp only [rd, Int.toNat_natCast, getD_of_lt hi]
      rw [impl_IsNumber_eq, w64_succ (by omega)]
      simp only [Option.bind_some]
      exact ev_pos hp ih)
    (fun i hi hp => by
      refine Ev.step (fun k => by rw [impl_IsAtom.l0]) ?_
      refine ev_pos (by omega) (ev_pos (by omega) (ev_pos (by omega) ?_))
      simp only [rd, Int.toNat_natCast, getD_of_lt hi]
      rw [impl_IsNumber_eq]
      simp only [Option.bind_some]
      exact ev_neg (by simp [hp]) (Ev.now _))
  simpa using this
theorem impl_IsAtom_ev (l : List Int) (c : Int) (s : Bool) (hl : l.length ≤ 1048576) : Ev (fun k => impl_IsAtom.f k l c s) (isAt l c) := by
  unfold impl_IsAtom.f
  refine ev_ite (fun h => ?_) (fun h => ?_)
  · refine ev_eqr (Ev.step (f := fun _ => some false) (fun k => by simp [impl_IsAtom.j0]) (Ev.now _)) ?_
    simp only [isAt, show ¬ l.length ≤ 4 by omega, decide_false, Bool.false_and]
  · rw [impl_IsNumber_eq]
    simp only [Option.bind_some]
    cases hc : isNum c with
    | false =>
      refine ev_eqr (Ev.step (f := fun _ => some false) (fun k => by simp [impl_IsAtom.j0]) (Ev.now _)) ?_
      simp [isAt, hc]
    | true =>
      refine Ev.step (f := fun k => impl_IsAtom.l0 k l (l.length : Int) 0 l c s) (fun k => by simp [impl_IsAtom.j0]) ?_
      refine ev_eqr (impl_IsAtom_l0_ev l c s hl hc) ?_
      cases hall : l.all isNum <;> simp [isAt, hc, hall, show l.length ≤ 4 by omega]
def digs (u : Nat) : List UInt8 := if h : u = 0 then [] else digs (u / 10) ++ [UInt8.ofNat (48 + u % 10)]
termination_by u
decreasing_by omega
theorem digs_zero : digs 0 = [] := by rw [digs, dif_pos rfl]
theorem digs_pos {u : Nat} (h : ¬ u = 0) : digs u = digs (u / 10) ++ [UInt8.ofNat (48 + u % 10)] := by rw [digs, dif_neg h]
def fmtL (n : Int) : List UInt8 := if n = 0 then [48] else if n < 0 then 45 :: digs n.natAbs else digs n.natAbs
/-- The bytes as a string. -/
def bs (l : List UInt8) : ByteArray := ⟨l.toArray⟩
theorem bs_size (l : List UInt8) : (bs l).size = l.length := by unfold bs; simp [ByteArray.size]
theorem bs_append (l m : List UInt8) : bs l ++ bs m = bs (l ++ m) := by
  unfold bs
  apply ByteArray.ext
  simp [ByteArray.data_append]
theorem dig_piece : ∀ d : Nat, d < 10 → (⟨#[48, 49, 50, 51, 52, 53, 54, 55, 56, 57]⟩ : ByteArray).extract d (d + 1) = bs [UInt8.ofNat (48 + d)]
  | 0, _ => rfl | 1, _ => rfl | 2, _ => rfl | 3, _ => rfl | 4, _ => rfl | 5, _ => rfl | 6, _ => rfl | 7, _ => rfl | 8, _ => rfl | 9, _ => rfl
  | n + 10, h => by omega
theorem dig_bd {d : Nat} (h : d < 10) : (0 : Int) ≤ (d : Int) ∧ (d : Int) ≤ ((d + 1 : Nat) : Int) ∧ ((d + 1 : Nat) : Int) ≤ 10 ∧ wrap64 ((d : Int) + 1) = ((d + 1 : Nat) : Int) := by
  refine ⟨by omega, by omega, by omega, ?_⟩
  rw [w64 (by omega) (by omega)]; omega
theorem spec_FormatInt_fin (n : Int) (l : List UInt8) (hl : l.length ≤ 100) : Ev (fun k => spec_FormatInt.l0 k n (bs l) 0) (bs (if n = 0 then [48] else if n < 0 then 45 :: l else l)) := by
  refine Ev.step (fun k => by rw [spec_FormatInt.l0]) ?_
  refine ev_pos rfl (ev_ite (fun h => ?_) (fun h => ev_ite (fun h1 => ev_pos (by rw [bs_size]; omega) ?_) (fun h1 => ?_)))
  · rw [if_pos h]; exact Ev.now _
  · rw [if_neg h, if_pos h1]
    have : (⟨#[45]⟩ : ByteArray) ++ bs l = bs (45 :: l) := bs_append [45] l
    rw [this]; exact Ev.now _
  · rw [if_neg h, if_neg h1]; exact Ev.now _
theorem spec_FormatInt_go (n : Int) : ∀ (j : Nat) (x : Int) (l : List UInt8), x.natAbs < 10 ^ j → j ≤ 20 → l.length + j ≤ 50 → -9223372036854775808 ≤ x → x ≤ 9223372036854775807 →
    Ev (fun k => spec_FormatInt.l0 k n (bs l) x) (bs (if n = 0 then [48] else if n < 0 then 45 :: (digs x.natAbs ++ l) else digs x.natAbs ++ l)) := by
  intro j
  induction j with
  | zero =>
    intro x l hx _ hl _ _
    have : x = 0 := by simp at hx; exact hx
    subst this
    have := spec_FormatInt_fin n l (by omega)
    simpa [digs_zero] using this
  | succ j ih =>
    intro x l hx hj hl h0 h1
    by_cases hz : x = 0
    · subst hz
      have := spec_FormatInt_fin n l (by omega)
      simpa [digs_zero] using this
    · refine Ev.step (fun k => by rw [spec_FormatInt.l0]) (ev_neg hz ?_)
      have hd : x.natAbs % 10 < 10 := by omega
      obtain ⟨b0, b1, b2, et1⟩ := dig_bd hd
      have e10 : (bs [UInt8.ofNat (48 + x.natAbs % 10)]).size = 1 := bs_size _
      have eq : (wrap64 (Int.tdiv x 10)) = Int.tdiv x 10 := by
        have := Int.natAbs_tdiv x 10
        have h2 : x.natAbs.div (10 : Int).natAbs = x.natAbs / 10 := rfl
        exact w64 (by omega) (by omega)
      have en : (Int.tdiv x 10).natAbs = x.natAbs / 10 := by
        have := Int.natAbs_tdiv x 10
        have h2 : x.natAbs.div (10 : Int).natAbs = x.natAbs / 10 := rfl
        omega
      have go := ih (Int.tdiv x 10) (UInt8.ofNat (48 + x.natAbs % 10) :: l) (by rw [en]; rw [Nat.pow_succ] at hx; omega) (by omega) (by simp; omega) (by omega) (by omega)
      rw [en] at go
      have ed : digs x.natAbs ++ l = digs (x.natAbs / 10) ++ UInt8.ofNat (48 + x.natAbs % 10) :: l := by
        rw [digs_pos (show ¬ x.natAbs = 0 by omega), List.append_assoc]; rfl
      rw [ed]
      have ea : bs [UInt8.ofNat (48 + x.natAbs % 10)] ++ bs l = bs (UInt8.ofNat (48 + x.natAbs % 10) :: l) := bs_append _ _
      refine ev_ite (fun hn => ?_) (fun hn => ?_)
      · have et : wrap64 (-(Int.tmod x 10)) = ((x.natAbs % 10 : Nat) : Int) := by
          have := Int.natAbs_tmod x 10
          have h2 : x.natAbs % (10 : Int).natAbs = x.natAbs % 10 := rfl
          rw [w64 (by omega) (by omega)]; omega
        simp only [et, et1, eq, Int.toNat_natCast, dig_piece _ hd, e10, bs_size, ea]
        exact ev_pos b0 (ev_pos b1 (ev_pos b2 (ev_pos (by clear go ih hx; omega) go)))
      · have et : Int.tmod x 10 = ((x.natAbs % 10 : Nat) : Int) := by
          have := Int.natAbs_tmod x 10
          have h2 : x.natAbs % (10 : Int).natAbs = x.natAbs % 10 := rfl
          omega
        simp only [et, et1, eq, Int.toNat_natCast, dig_piece _ hd, e10, bs_size, ea]
        exact ev_pos b0 (ev_pos b1 (ev_pos b2 (ev_pos (by clear go ih hx; omega) go)))
theorem spec_FormatInt_ev (n : Int) (h0 : -9223372036854775808 ≤ n) (h1 : n ≤ 9223372036854775807) : Ev (fun k => spec_FormatInt.f k n) (bs (fmtL n)) := by
  have := spec_FormatInt_go n 20 n [] (by omega) (by omega) (by simp) h0 h1
  rw [List.append_nil] at this
  exact this
theorem decDigits_digs (u : Nat) (h : ¬ u = 0) : Lib.decDigits u = digs u := by
  induction u using Nat.strongRecOn with
  | _ u ih =>
    rw [digs_pos h]
    by_cases h1 : u < 10
    · rw [Lib.decDigits, dif_pos h1, show u / 10 = 0 by omega, digs_zero, show u % 10 = u by omega]; rfl
    · rw [Lib.decDigits, dif_neg h1, ih (u / 10) (by omega) (by omega)]
theorem itoa_fmtL (n : Int) : Lib.itoa n = fmtL n := by
  unfold Lib.itoa fmtL
  by_cases h : n = 0
  · subst h; rw [if_neg (by omega), if_pos rfl]
    show Lib.decDigits 0 = _
    rw [Lib.decDigits, dif_pos (by omega)]; rfl
  · rw [if_neg h]
    by_cases h1 : n < 0
    · rw [if_pos h1, if_pos h1, decDigits_digs _ (by omega)]
    · rw [if_neg h1, if_neg h1, show n.toNat = n.natAbs by omega, decDigits_digs _ (by omega)]
theorem impl_FormatInt_eq (n : Int) (h0 : -9223372036854775808 ≤ n) (h1 : n ≤ 9223372036854775807) : impl_FormatInt.f n = some (bs (fmtL n)) := by
  unfold impl_FormatInt.f strconv_Itoa.f
  rw [if_pos ⟨h0, h1⟩, itoa_fmtL]
  rfl
theorem digs_len (j : Nat) : ∀ u : Nat, u < 10 ^ j → (digs u).length ≤ j := by
  induction j with
  | zero => intro u h; have : u = 0 := by simpa using h
            subst this; simp [digs_zero]
  | succ j ih =>
    intro u h
    by_cases hz : u = 0
    · subst hz; simp [digs_zero]
    · rw [digs_pos hz, List.length_append]
      have := ih (u / 10) (by rw [Nat.pow_succ] at h; omega)
      simp; omega
theorem fmtL_len (n : Int) (h0 : -9223372036854775808 ≤ n) (h1 : n ≤ 9223372036854775807) : (fmtL n).length ≤ 21 := by
  have := digs_len 20 n.natAbs (by omega)
  unfold fmtL
  split
  · simp
  · split <;> simp <;> omega
theorem bs_toList (l : List UInt8) : (bs l).toList = l := by rw [ByteArray.toList_eq]; unfold bs; simp
theorem bs_ne (l : List UInt8) : ((bs l).toList != ([] : List UInt8)) = decide (0 < l.length) := by rw [bs_toList]; cases l <;> simp
theorem bs_eq0 (l : List UInt8) : ((bs l).toList == ([] : List UInt8)) = decide (l.length = 0) := by rw [bs_toList]; cases l <;> simp
/-- An atom's text, piece by piece. -/
def nmL (i : Nat) : UInt8 := if i = 0 then 120 else if i = 1 then 121 else if i = 2 then 122 else 116
def plusL (acc : List UInt8) (n : Int) : List UInt8 := if 0 < n ∧ 0 < acc.length then acc ++ [43] else acc
def midL (n : Int) : List UInt8 := if n = -1 then [45] else if n = 1 then [] else fmtL n
def stepL (acc : List UInt8) (i : Nat) (n : Int) : List UInt8 := if n = 0 then acc else plusL acc n ++ midL n ++ [nmL i]
def goL : List Int → Nat → List UInt8 → List UInt8
  | [], _, acc => acc
  | n :: ns, i, acc => goL ns (i + 1) (stepL acc i n)
def endL (s : Bool) : List UInt8 := if s then [60, 48] else [60, 61, 48]
def finL (acc : List UInt8) (c : Int) (s : Bool) : List UInt8 := if c = 0 ∧ 0 < acc.length then acc ++ endL s else plusL acc c ++ fmtL c ++ endL s
def fmtAL (l : List Int) (c : Int) (s : Bool) : List UInt8 := if isAt l c then finL (goL l 0 []) c s else []
theorem plusL_len (acc : List UInt8) (n : Int) : (plusL acc n).length ≤ acc.length + 1 := by unfold plusL; split <;> simp
theorem fmtL_lenN {n : Int} (h : isNum n = true) : (fmtL n).length ≤ 21 := by
  have := isNum_iff.1 h
  exact fmtL_len n (by omega) (by omega)
theorem midL_len {n : Int} (h : isNum n = true) : (midL n).length ≤ 21 := by
  have := fmtL_lenN h
  unfold midL
  split
  · simp
  · split
    · simp
    · exact this
theorem stepL_len (acc : List UInt8) (i : Nat) {n : Int} (h : isNum n = true) : (stepL acc i n).length ≤ acc.length + 23 := by
  have h1 := midL_len h
  have h2 := plusL_len acc n
  unfold stepL
  split
  · omega
  · simp; omega
theorem goL_len : ∀ (ns : List Int) (i : Nat) (acc : List UInt8), (∀ x ∈ ns, isNum x = true) → (goL ns i acc).length ≤ acc.length + 23 * ns.length
  | [], _, acc, _ => by simp [goL]
  | n :: ns, i, acc, h => by
    have h1 := stepL_len acc i (h n (by simp))
    have h2 := goL_len ns (i + 1) (stepL acc i n) (fun x hx => h x (by simp [hx]))
    simp only [goL, List.length_cons]
    omega
theorem finL_len (acc : List UInt8) {c : Int} (s : Bool) (h : isNum c = true) : (finL acc c s).length ≤ acc.length + 25 := by
  have h1 := fmtL_lenN h
  have h2 := plusL_len acc c
  have h3 : (endL s).length ≤ 3 := by cases s <;> simp [endL]
  unfold finL
  split
  · simp; omega
  · simp; omega
theorem fmtAL_len (l : List Int) (c : Int) (s : Bool) : (fmtAL l c s).length ≤ 120 := by
  unfold fmtAL
  split
  · rename_i h
    obtain ⟨h4, hc, hx, _⟩ := isAt_iff.1 h
    have h1 := goL_len l 0 [] hx
    have h2 := finL_len (goL l 0 []) s hc
    simp at h1
    omega
  · simp
theorem nm_piece : ∀ i : Nat, i < 4 → (⟨#[120, 121, 122, 116]⟩ : ByteArray).extract i (i + 1) = bs [nmL i]
  | 0, _ => rfl | 1, _ => rfl | 2, _ => rfl | 3, _ => rfl
  | n + 4, h => by omega
theorem spec_FormatAtom_j2_ev (l : List Int) (c : Int) (s : Bool) (i : Nat) (hi : i < 4) (acc : List UInt8) (ha : acc.length ≤ 1000) (n : Int) (hn : isNum n = true) (r : ByteArray)
    (h : Ev (fun k => spec_FormatAtom.l0 k (bs (acc ++ midL n ++ [nmL i])) ((i + 1 : Nat) : Int) l c s) r) : Ev (fun k => spec_FormatAtom.j2 k (bs acc) (i : Int) n l c s) r := by
  have hn' := isNum_iff.1 hn
  have e1 : wrap64 ((i : Int) + 1) = ((i + 1 : Nat) : Int) := w64_succ (by omega)
  have ep := nm_piece i hi
  have e45 : bs acc ++ (⟨#[45]⟩ : ByteArray) = bs (acc ++ [45]) := bs_append _ [45]
  refine Ev.step (fun k => by rw [spec_FormatAtom.j2]) ?_
  simp only [e1, Int.toNat_natCast, ep, e45, bs_append, bs_size]
  refine ev_ite (fun h1 => ?_) (fun h1 => ev_ite (fun h2 => ?_) (fun h2 => ?_))
  · have em : midL n = [45] := by unfold midL; rw [if_pos h1]
    rw [em] at h
    exact ev_pos (by omega) (ev_pos (by omega) (ev_pos (by omega) (ev_pos (by omega) (ev_pos (by simp; omega) h))))
  · have em : midL n = [] := by unfold midL; rw [if_neg h1, if_pos h2]
    rw [em, List.append_nil] at h
    exact ev_pos (by omega) (ev_pos (by omega) (ev_pos (by omega) (ev_pos (by simp; omega) h)))
  · have em : midL n = fmtL n := by unfold midL; rw [if_neg h1, if_neg h2]
    rw [em] at h
    have hl := fmtL_lenN hn
    refine Ev.bind (spec_FormatInt_ev n (by omega) (by omega)) ?_
    simp only [bs_append, bs_size]
    exact ev_pos (by omega) (ev_pos (by omega) (ev_pos (by omega) (ev_pos (by omega) (ev_pos (by simp; omega) h))))
theorem spec_FormatAtom_j1_ev (l : List Int) (c : Int) (s : Bool) (i : Nat) (hi : i < 4) (acc : List UInt8) (ha : acc.length ≤ 900) (n : Int) (hn : isNum n = true) (b : Bool) (hb : b = decide (0 < n ∧ 0 < acc.length)) (r : ByteArray)
    (h : Ev (fun k => spec_FormatAtom.l0 k (bs (plusL acc n ++ midL n ++ [nmL i])) ((i + 1 : Nat) : Int) l c s) r) : Ev (fun k => spec_FormatAtom.j1 k (bs acc) (i : Int) n b l c s) r := by
  have e43 : bs acc ++ (⟨#[43]⟩ : ByteArray) = bs (acc ++ [43]) := bs_append _ [43]
  refine Ev.step (fun k => by rw [spec_FormatAtom.j1]) ?_
  subst hb
  refine ev_ite (fun h1 => ?_) (fun h1 => ?_)
  · have ep : plusL acc n = acc ++ [43] := by unfold plusL; rw [if_pos (of_decide_eq_true h1)]
    rw [ep] at h
    rw [e43]
    exact ev_pos (by rw [bs_size]; omega) (spec_FormatAtom_j2_ev l c s i hi _ (by simp; omega) n hn r h)
  · have ep : plusL acc n = acc := by unfold plusL; rw [if_neg (fun h' => h1 (decide_eq_true h'))]
    rw [ep] at h
    exact spec_FormatAtom_j2_ev l c s i hi _ (by omega) n hn r h
theorem spec_FormatAtom_j5_ev (l : List Int) (c : Int) (s : Bool) (hc : isNum c = true) (acc : List UInt8) (ha : acc.length ≤ 1000) (b : Bool) :
    Ev (fun k => spec_FormatAtom.j5 k (bs acc) b l c s) (bs (if b = true then acc ++ fmtL c ++ endL s else acc ++ endL s)) := by
  have hc' := isNum_iff.1 hc
  have hl := fmtL_lenN hc
  have e2 : ∀ x : List UInt8, bs x ++ (⟨#[60, 48]⟩ : ByteArray) = bs (x ++ [60, 48]) := fun x => bs_append x [60, 48]
  have e3 : ∀ x : List UInt8, bs x ++ (⟨#[60, 61, 48]⟩ : ByteArray) = bs (x ++ [60, 61, 48]) := fun x => bs_append x [60, 61, 48]
  refine Ev.step (fun k => by rw [spec_FormatAtom.j5]) ?_
  refine ev_ite (fun h1 => ?_) (fun h1 => ?_)
  · rw [if_pos h1]
    refine Ev.bind (spec_FormatInt_ev c (by omega) (by omega)) ?_
    simp only [bs_append, bs_size, e2, e3]
    refine ev_pos (by omega) (ev_ite (fun h2 => ev_pos (by simp; omega) ?_) (fun h2 => ev_pos (by simp; omega) ?_))
    · subst h2; exact Ev.now _
    · obtain rfl : s = false := by simpa using h2
      exact Ev.now _
  · rw [if_neg h1]
    simp only [bs_append, bs_size, e2, e3]
    refine ev_ite (fun h2 => ev_pos (by omega) ?_) (fun h2 => ev_pos (by omega) ?_)
    · subst h2; exact Ev.now _
    · obtain rfl : s = false := by simpa using h2
      exact Ev.now _
theorem spec_FormatAtom_end_ev (l : List Int) (c : Int) (s : Bool) (hc : isNum c = true) (acc : List UInt8) (ha : acc.length ≤ 900) :
    Ev (fun k => spec_FormatAtom.l0 k (bs acc) (l.length : Int) l c s) (bs (finL acc c s)) := by
  have e43 : bs acc ++ (⟨#[43]⟩ : ByteArray) = bs (acc ++ [43]) := bs_append _ [43]
  refine Ev.step (fun k => by rw [spec_FormatAtom.l0]) ?_
  refine ev_neg (by omega) (ev_ite (fun h1 => ?_) (fun h1 => ?_))
  · rw [bs_ne]
    refine Ev.step (fun k => by rw [spec_FormatAtom.j3]) (ev_ite (fun h2 => ?_) (fun h2 => ?_))
    · rw [e43]
      refine ev_pos (by rw [bs_size]; omega) (Ev.step (fun k => by rw [spec_FormatAtom.j4]) (ev_neg (by omega) ?_))
      refine ev_eqr (spec_FormatAtom_j5_ev l c s hc (acc ++ [43]) (by simp; omega) true) ?_
      unfold finL plusL
      rw [if_pos rfl, if_neg (by omega), if_pos ⟨h1, of_decide_eq_true h2⟩]
    · refine Ev.step (fun k => by rw [spec_FormatAtom.j4]) (ev_neg (by omega) ?_)
      refine ev_eqr (spec_FormatAtom_j5_ev l c s hc acc (by omega) true) ?_
      unfold finL plusL
      rw [if_pos rfl, if_neg (by omega), if_neg (fun h' => h2 (decide_eq_true h'.2))]
  · refine Ev.step (fun k => by rw [spec_FormatAtom.j3]) (ev_neg (by simp) (Ev.step (fun k => by rw [spec_FormatAtom.j4]) (ev_ite (fun h2 => ?_) (fun h2 => ?_))))
    · rw [bs_eq0]
      refine ev_eqr (spec_FormatAtom_j5_ev l c s hc acc (by omega) _) ?_
      unfold finL plusL
      by_cases h3 : acc.length = 0
      · rw [if_pos (decide_eq_true h3), if_neg (by omega), if_neg (by omega)]
      · rw [if_neg (by simpa using h3), if_pos ⟨h2, by omega⟩]
    · refine ev_eqr (spec_FormatAtom_j5_ev l c s hc acc (by omega) true) ?_
      unfold finL plusL
      rw [if_pos rfl, if_neg (by omega), if_neg (by omega)]
theorem spec_FormatAtom_go_ev (l : List Int) (c : Int) (s : Bool) (hc : isNum c = true) (h4 : l.length ≤ 4) : ∀ (ns : List Int) (i : Nat) (acc : List UInt8), ns = l.drop i → i + ns.length = l.length → acc.length ≤ 23 * i → (∀ x ∈ ns, isNum x = true) →
    Ev (fun k => spec_FormatAtom.l0 k (bs acc) (i : Int) l c s) (bs (finL (goL ns i acc) c s))
  | [], i, acc, _, hi, ha, _ => by
    obtain rfl : i = l.length := by simpa using hi
    exact spec_FormatAtom_end_ev l c s hc acc (by omega)
  | n :: ns, i, acc, hd, hi, ha, hx => by
    simp only [List.length_cons] at hi
    have hlt : i < l.length := by omega
    have hq := List.drop_eq_getElem_cons hlt
    rw [← hd] at hq
    obtain ⟨rfl, rfl⟩ := List.cons.inj hq
    have hn := hx _ (List.mem_cons_self ..)
    have ih := spec_FormatAtom_go_ev l c s hc h4 (l.drop (i + 1)) (i + 1) (stepL acc i l[i]) rfl (by simp; omega) (by have := stepL_len acc i hn; omega) (fun x hx' => hx x (List.mem_cons_of_mem _ hx'))
    have hrd : rd l (i : Int) = l[i] := by simp [rd, List.getD_eq_getElem?_getD, hlt]
    refine Ev.step (fun k => by rw [spec_FormatAtom.l0]) ?_
    rw [hrd, w64_succ (by omega)]
    refine ev_pos (by omega) (ev_pos (by omega) (ev_ite (fun h0 => ?_) (fun h0 => ?_)))
    · have : stepL acc i l[i] = acc := by unfold stepL; rw [if_pos h0]
      rw [goL, this]; rw [this] at ih; exact ih
    · have e : stepL acc i l[i] = plusL acc l[i] ++ midL l[i] ++ [nmL i] := by unfold stepL; rw [if_neg h0]
      rw [goL]
      rw [e] at ih ⊢
      refine ev_ite (fun h1 => ?_) (fun h1 => ?_)
      · exact spec_FormatAtom_j1_ev l c s i (by omega) acc (by omega) _ hn _ (by rw [bs_ne]; congr 1; exact propext ⟨fun h => ⟨h1, h⟩, fun h => h.2⟩) _ ih
      · exact spec_FormatAtom_j1_ev l c s i (by omega) acc (by omega) _ hn _ (by rw [decide_eq_false (by omega)]) _ ih
theorem spec_FormatAtom_ev (l : List Int) (c : Int) (s : Bool) (hl : l.length ≤ 1048576) : Ev (fun k => spec_FormatAtom.f k l c s) (bs (fmtAL l c s)) := by
  unfold spec_FormatAtom.f fmtAL
  refine Ev.bind (spec_IsAtom_ev l c s hl) (ev_ite (fun h => ?_) (fun h => ?_))
  · rw [if_pos h]
    obtain ⟨h4, hc, hx, _⟩ := isAt_iff.1 h
    exact spec_FormatAtom_go_ev l c s hc h4 l 0 [] rfl (by simp) (by simp) hx
  · rw [if_neg h]; exact Ev.now _
theorem fa_go : ∀ (ns : List Int) (i : Nat) (acc : List UInt8), acc.length + 23 * ns.length ≤ 700000 → (∀ x ∈ ns, isNum x = true) → FA.go ns i acc = some (goL ns i acc)
  | [], _, _, _, _ => rfl
  | n :: ns, i, acc, ha, hx => by
    simp only [List.length_cons] at ha
    have hn := hx n (by simp)
    have hn' := isNum_iff.1 hn
    have h1 := stepL_len acc i hn
    have ih := fa_go ns (i + 1) (stepL acc i n) (by omega) (fun x h => hx x (by simp [h]))
    have es : FA.step acc i n = some (stepL acc i n) := by
      unfold FA.step stepL midL
      by_cases h0 : n = 0
      · rw [if_pos h0, if_pos h0]
      · rw [if_neg h0, if_neg h0, if_pos (by omega)]
        by_cases h2 : n = 1
        · rw [if_pos h2, if_neg (by omega), if_pos h2, List.append_nil]; rfl
        · rw [if_neg h2]
          by_cases h3 : n = -1
          · rw [if_pos h3, if_pos h3]; rfl
          · rw [if_neg h3, if_neg h3, if_neg h2, impl_FormatInt_eq n (by omega) (by omega), Option.bind_some]
            rw [if_pos (by rw [bs_size]; have := fmtL_lenN hn; omega)]
            rfl
    rw [FA.go, es, goL, Option.bind_some, ih]
theorem impl_FormatAtom_ev (l : List Int) (c : Int) (s : Bool) (hl : l.length ≤ 1048576) : Ev (fun k => impl_FormatAtom.f k l c s) (bs (fmtAL l c s)) := by
  unfold impl_FormatAtom.f fmtAL
  refine Ev.bind (impl_IsAtom_ev l c s hl) (ev_ite (fun h => ?_) (fun h => ?_))
  · rw [if_pos h]
    obtain ⟨h4, hc, hx, _⟩ := isAt_iff.1 h
    have hc' := isNum_iff.1 hc
    have h1 := goL_len l 0 [] hx
    have h2 := fmtL_lenN hc
    have h3 := plusL_len (goL l 0 []) c
    simp only [List.length_nil] at h1
    refine ev_pos h4 (ev_eq ?_)
    rw [fa_go l 0 [] (by simp; omega) hx, Option.bind_some]
    unfold FA.fin finL
    by_cases h0 : c = 0 ∧ 0 < (goL l 0 []).length
    · rw [if_pos h0, if_pos h0]
      unfold FA.tail
      rw [if_pos (by omega)]; rfl
    · rw [if_neg h0, if_neg h0, impl_FormatInt_eq c (by omega) (by omega), Option.bind_some]
      rw [if_pos ⟨by omega, by rw [bs_size]; omega⟩]
      have e : FA.plus (goL l 0 []) c ++ (bs (fmtL c)).data.toList = plusL (goL l 0 []) c ++ fmtL c := rfl
      rw [e]
      unfold FA.tail
      rw [if_pos (by simp; omega)]; rfl
  · rw [if_neg h]; exact Ev.now _

end Go.Proofs.YtohoibekddhneaaDoor.LFnExactFormatAtom
