/- What the printed functions of the law FnExactParseAtom compute, in plain words; each holds under the bounds that it names. -/
import Derived.Test.YtohoibekddhneaaDoorQFnExactParseAtomx
import Derived.Test.YtohoibekddhneaaDoorPlainFnExactParseAtom
import Derived.Test.YtohoibekddhneaaDoorPlainAFnExactParseAtom
set_option linter.unusedVariables false
set_option linter.unusedSimpArgs false
namespace Go.Proofs.YtohoibekddhneaaDoor.LFnExactParseAtom
open Go.RowKit Go.Proofs.YtohoibekddhneaaDoor.PFnExactParseAtom Go.Proofs.YtohoibekddhneaaDoor.Pl Go.Proofs.YtohoibekddhneaaDoorW.PrintWords Go.Proofs.YtohoibekddhneaaDoorW.PrintLast Go.Proofs.YtohoibekddhneaaDoorW.PrintMore

theorem spec_l1In_eq (a b c : Int) : spec_l1In.f a b c = some (decide (b ≤ a) && decide (a ≤ c)) := by
  unfold spec_l1In.f
  by_cases h : b ≤ a
  · rw [if_pos h]; simp [h]
  · rw [if_neg h]; simp [h]
theorem spec_IsNumber_eq (n : Int) : spec_IsNumber.f n = some (isNum n) := by
  unfold spec_IsNumber.f
  rw [spec_l1In_eq]; rfl
theorem impl_IsNumber_eq (n : Int) : impl_IsNumber.f n = some (isNum n) := by
  unfold impl_IsNumber.f isNum
  by_cases h : n ≥ -400000000
  · rw [if_pos h]
    have h' : -400000000 ≤ n := h
    simp [h']
  · rw [if_neg h]
    have h' : ¬ -400000000 ≤ n := h
    simp [h']
theorem spec_l1Abs_eq (a : Int) (h : -9223372036854775807 ≤ a) (h' : a ≤ 9223372036854775807) : spec_l1Abs.f a = some (a.natAbs : Int) := by
  unfold spec_l1Abs.f mx
  rw [w64 (by omega) (by omega)]
  congr 1
  split <;> omega
theorem impl_absolute_eq (a : Int) (h : -9223372036854775807 ≤ a) (h' : a ≤ 9223372036854775807) : impl_absolute.f a = some (a.natAbs : Int) := by
  unfold impl_absolute.f
  by_cases c : a < 0
  · rw [if_pos c, w64 (by omega) (by omega)]; congr 1; omega
  · rw [if_neg c]; congr 1; omega
theorem impl_commonDivisor_l0_ev (a b : Int) : Ev (fun k => impl_commonDivisor.l0 k a b) (eu a b) := by
  fun_induction eu a b with
  | case1 a => exact Ev.step (f := fun _ => some a) (fun k => by simp [impl_commonDivisor.l0]) (Ev.now a)
  | case2 a b h ih => exact Ev.step (fun k => by simp only [impl_commonDivisor.l0]; rw [if_neg h]) ih
theorem impl_commonDivisor_ev (a b : Int) (h : -9223372036854775807 ≤ a ∧ a ≤ 9223372036854775807) (h' : -9223372036854775807 ≤ b ∧ b ≤ 9223372036854775807) : Ev (fun k => impl_commonDivisor.f k a b) (Int.gcd a b : Int) := by
  unfold impl_commonDivisor.f
  rw [impl_absolute_eq a h.1 h.2, impl_absolute_eq b h'.1 h'.2]
  simp only [Option.bind_some]
  rw [← eu_abs]
  exact impl_commonDivisor_l0_ev _ _
theorem laws_eqIntS_ev (l : List Int) (h : l.length ≤ 1048576) : Ev (fun k => laws_eqIntS.f k l l) true := by
  unfold laws_eqIntS.f
  refine ev_pos rfl ?_
  have := ev_all (fun k i => laws_eqIntS.l0 k l l i) l (fun _ => true) true false
    (Ev.step (f := fun _ => some true) (fun k => by simp [laws_eqIntS.l0]) (Ev.now _))
    (fun i hi r _ ih => by
      refine Ev.step (fun k => by rw [laws_eqIntS.l0]) ?_
      refine ev_pos (by omega) (ev_pos (by omega) (ev_pos (by omega) (ev_pos rfl ?_)))
      rw [w64_succ (by omega)]
      exact ih)
    (fun i hi h' => by simp at h')
  simpa using this
theorem laws_eqAtom_ev (l : List Int) (c : Int) (s : Bool) (h : l.length ≤ 1048576) : Ev (fun k => laws_eqAtom.f k l c s l c s) true := by
  unfold laws_eqAtom.f
  refine Ev.bind (laws_eqIntS_ev l h) (ev_pos rfl (ev_pos rfl ?_))
  exact ev_neg (by simp) (Ev.now _)
theorem laws_markIntS_l0_ev (d : Nat) : ∀ (xs ys : List Int) (m : Int), ys.length = d → (xs ++ ys).length ≤ 1048576 → 0 ≤ m → m + d ≤ 4611686018427387904 → Ev (fun k => laws_markIntS.l0 k (xs ++ ys) m (xs.length : Nat)) (m + d, xs ++ mkI m d) := by
  induction d with
  | zero =>
    intro xs ys m hy hl h0 h1
    obtain rfl : ys = [] := List.length_eq_zero_iff.1 hy
    refine Ev.step (f := fun _ => some (m, xs ++ [])) (fun k => by simp [laws_markIntS.l0]) (ev_some ?_)
    simp [mkI]
  | succ d ih =>
    intro xs ys m hy hl h0 h1
    match ys, hy with
    | y :: ys, hy =>
      simp only [List.length_append, List.length_cons] at hl hy
      refine Ev.step (fun k => by rw [laws_markIntS.l0]) ?_
      refine ev_pos (by simp; omega) (ev_pos (by omega) ?_)
      rw [w64_succ (by omega), w64 (a := m + 1) (by omega) (by omega)]
      have e : (xs ++ y :: ys).set ((xs.length : Nat) : Int).toNat m = (xs ++ [m]) ++ ys := by simp
      have e2 : ((xs.length + 1 : Nat) : Int) = ((xs ++ [m]).length : Nat) := by simp
      rw [e, e2]
      refine ev_eqr (ih (xs ++ [m]) ys (m + 1) (by omega) (by simp; omega) (by omega) (by omega)) ?_
      simp [mkI]; omega
theorem laws_markIntS_ev (l : List Int) (m : Int) (hl : l.length ≤ 1048576) (h0 : 0 ≤ m) (h1 : m + l.length ≤ 4611686018427387904) : Ev (fun k => laws_markIntS.f k l m) (m + l.length, mkI m l.length) := by
  unfold laws_markIntS.f
  simpa using laws_markIntS_l0_ev l.length [] l m rfl (by simpa using hl) h0 h1
theorem laws_markAtom_ev (l : List Int) (c : Int) (s : Bool) (m : Int) (hl : l.length ≤ 1048576) (h0 : 0 ≤ m) (h1 : m + l.length ≤ 4611686018427387904) : Ev (fun k => laws_markAtom.f k l c s m) (m + l.length, mkI m l.length) := by
  unfold laws_markAtom.f
  exact Ev.bind (laws_markIntS_ev l m hl h0 h1) (Ev.now _)
theorem laws_heldIntS_ev (n : Nat) (m : Int) (hl : n ≤ 1048576) (h0 : 0 ≤ m) (h1 : m + n ≤ 4611686018427387904) : Ev (fun k => laws_heldIntS.f k (mkI m n) m) (m + n) := by
  unfold laws_heldIntS.f
  have hlen := mkI_length n m
  have key : ∀ i, i ≤ n → Ev (fun k => laws_heldIntS.l0 k (mkI m n) (m + i) (i : Nat)) (m + n) := by
    refine down n ?_ ?_
    · exact Ev.step (f := fun _ => some (m + n)) (fun k => by simp [laws_heldIntS.l0, hlen]) (Ev.now _)
    · intro i hi ih
      refine Ev.step (fun k => by rw [laws_heldIntS.l0]) ?_
      refine ev_pos (by omega) (ev_pos (by omega) (ev_pos ?_ ?_))
      · simp only [rd, Int.toNat_natCast]
        rw [getD_of_lt (by omega), mkI_get]
      · rw [w64_succ (by omega), w64 (by omega) (by omega)]
        have e : m + (i : Int) + 1 = m + ((i + 1 : Nat) : Int) := by omega
        rw [e]; exact ih
  simpa using key 0 (by omega)
theorem laws_heldAtom_ev (n : Nat) (c : Int) (s : Bool) (m : Int) (hl : n ≤ 1048576) (h0 : 0 ≤ m) (h1 : m + n ≤ 4611686018427387904) : Ev (fun k => laws_heldAtom.f k (mkI m n) c s m) (m + n) := by
  unfold laws_heldAtom.f
  exact Ev.bind (laws_heldIntS_ev n m hl h0 h1) (ev_neg (by omega) (Ev.now _))
theorem spec_l2Gcd_l1_ev (x0 : List Int) (i : Nat) (hi : i < 4611686018427387904) (r : Int) (g a : Int) (hg : 0 ≤ g) (ha : 0 ≤ a) (h : Ev (fun k => spec_l2Gcd.l0 k x0 (eu g a) ((i + 1 : Nat) : Int)) r) : Ev (fun k => spec_l2Gcd.l1 k x0 g (i : Nat) a) r := by
  fun_induction eu g a with
  | case1 g => exact Ev.step (fun k => by rw [spec_l2Gcd.l1, if_pos rfl, w64_succ (by omega)]) h
  | case2 g a hz ih => exact Ev.step (fun k => by rw [spec_l2Gcd.l1, if_neg hz]) (ih ha (Int.tmod_nonneg _ hg) h)
theorem spec_l2Gcd_ev (l : List Int) (c : Int) (hl : l.length ≤ 1048576) (hb : ∀ x ∈ l, -9223372036854775807 ≤ x ∧ x ≤ 9223372036854775807) (hc : -9223372036854775807 ≤ c ∧ c ≤ 9223372036854775807) : Ev (fun k => spec_l2Gcd.f k l c) ((Nat.gcd (gcdL l) c.natAbs : Nat) : Int) := by
  unfold spec_l2Gcd.f
  rw [spec_l1Abs_eq c hc.1 hc.2]
  simp only [Option.bind_some]
  have := ev_fold (fun k (g : Nat) i => spec_l2Gcd.l0 k l (g : Int) i) l (fun g x => Nat.gcd g x.natAbs) (fun g => (g : Int)) (fun _ => True)
    (fun g _ => Ev.step (f := fun _ => some (g : Int)) (fun k => by simp [spec_l2Gcd.l0]) (Ev.now _))
    (fun i hi g r _ => ⟨trivial, fun ih => by
      have hx := hb l[i] (List.getElem_mem hi)
      refine Ev.step (fun k => by rw [spec_l2Gcd.l0]) ?_
      refine ev_pos (by omega) (ev_pos (by omega) ?_)
      simp only [rd, Int.toNat_natCast, getD_of_lt hi]
      rw [spec_l1Abs_eq _ hx.1 hx.2]
      simp only [Option.bind_some]
      refine spec_l2Gcd_l1_ev l i (by omega) r _ _ (by omega) (by omega) ?_
      have e : eu (g : Int) (l[i].natAbs : Int) = ((Nat.gcd g l[i].natAbs : Nat) : Int) := by
        have h1 := eu_gcd (g : Int) (l[i].natAbs : Int)
        have h2 := eu_nonneg (g : Int) (l[i].natAbs : Int) (by omega) (by omega)
        simp only [Int.gcd, Int.natAbs_natCast] at h1
        omega
      rw [e]; exact ih⟩) c.natAbs trivial
  refine ev_eqr this ?_
  have e := gcdF_eq l c.natAbs
  unfold gcdF at e
  rw [e, Nat.gcd_comm]
theorem isNum_bd {x : Int} (h : isNum x = true) : -9223372036854775807 ≤ x ∧ x ≤ 9223372036854775807 := by rw [isNum_iff] at h; omega
theorem spec_IsAtom_l0_ev (l : List Int) (c : Int) (s : Bool) (hl : l.length ≤ 1048576) (hc : isNum c = true) : Ev (fun k => spec_IsAtom.l0 k 0 l c s) (if l.all isNum then decide (Nat.gcd (gcdL l) c.natAbs ≤ 1) else false) := by
  have := ev_allq (fun k i => spec_IsAtom.l0 k i l c s) l isNum (decide (Nat.gcd (gcdL l) c.natAbs ≤ 1)) false
    (fun hall => by
      refine Ev.step (fun k => by rw [spec_IsAtom.l0, if_neg (by omega)]) ?_
      refine Ev.bind (spec_l2Gcd_ev l c hl (fun x hx => isNum_bd (List.all_eq_true.1 hall x hx)) (isNum_bd hc)) (ev_some ?_)
      rw [Bool.eq_iff_iff]; simp; omega)
    (fun i hi r hp ih => by
      refine Ev.step (fun k => by rw [spec_IsAtom.l0]) ?_
      refine ev_pos (by omega) (ev_pos (by omega) ?_)
      simp only [rd, Int.toNat_natCast, getD_of_lt hi]
      rw [spec_IsNumber_eq, w64_succ (by omega)]
      simp only [Option.bind_some]
      exact ev_pos hp ih)
    (fun i hi hp => by
      refine Ev.step (fun k => by rw [spec_IsAtom.l0]) ?_
      refine ev_pos (by omega) (ev_pos (by omega) ?_)
      simp only [rd, Int.toNat_natCast, getD_of_lt hi]
      rw [spec_IsNumber_eq]
      simp only [Option.bind_some]
      exact ev_neg (by simp [hp]) (Ev.now _))
  simpa using this
theorem spec_IsAtom_ev (l : List Int) (c : Int) (s : Bool) (hl : l.length ≤ 1048576) : Ev (fun k => spec_IsAtom.f k l c s) (isAt l c) := by
  unfold spec_IsAtom.f
  refine ev_ite (fun h => ?_) (fun h => ?_)
  · refine ev_eqr (Ev.step (f := fun _ => some false) (fun k => by simp [spec_IsAtom.j0]) (Ev.now _)) ?_
    simp only [isAt, show ¬ l.length ≤ 4 by omega, decide_false, Bool.false_and]
  · rw [spec_IsNumber_eq]
    simp only [Option.bind_some]
    cases hc : isNum c with
    | false =>
      refine ev_eqr (Ev.step (f := fun _ => some false) (fun k => by simp [spec_IsAtom.j0]) (Ev.now _)) ?_
      simp [isAt, hc]
    | true =>
      refine Ev.step (f := fun k => spec_IsAtom.l0 k 0 l c s) (fun k => by simp [spec_IsAtom.j0]) ?_
      refine ev_eqr (spec_IsAtom_l0_ev l c s hl hc) ?_
      cases hall : l.all isNum <;> simp [isAt, hc, hall, show l.length ≤ 4 by omega]
theorem impl_divisorOf_ev (l : List Int) (hl : l.length ≤ 1048576) (hb : ∀ x ∈ l, -9223372036854775807 ≤ x ∧ x ≤ 9223372036854775807) : Ev (fun k => impl_divisorOf.f k l) (gcdL l : Int) := by
  unfold impl_divisorOf.f
  have := ev_fold (fun k (g : Nat) i => impl_divisorOf.l0 k (g : Int) l (l.length : Int) i) l (fun g x => Nat.gcd g x.natAbs) (fun g => (g : Int)) (fun g => g ≤ 9223372036854775807)
    (fun g _ => Ev.step (f := fun _ => some (g : Int)) (fun k => by simp [impl_divisorOf.l0]) (Ev.now _))
    (fun i hi g r hg => by
      have hx := hb l[i] (List.getElem_mem hi)
      refine ⟨gcd_le_max _ _ _ hg (by omega), fun ih => ?_⟩
      refine Ev.step (fun k => by rw [impl_divisorOf.l0]) ?_
      refine ev_pos (by omega) (ev_pos (by omega) (ev_pos (by omega) ?_))
      simp only [rd, Int.toNat_natCast, getD_of_lt hi]
      refine Ev.bind (impl_commonDivisor_ev _ _ (by omega) hx) ?_
      rw [w64_succ (by omega)]
      have e : ((Int.gcd (g : Int) l[i] : Nat) : Int) = ((Nat.gcd g l[i].natAbs : Nat) : Int) := by simp [Int.gcd]
      rw [e]; exact ih) 0 (by omega)
  exact this
theorem isNum_bd' {x : Int} (h : isNum x = true) : -9223372036854775807 ≤ x ∧ x ≤ 9223372036854775807 := by rw [isNum_iff] at h; omega
theorem impl_IsAtom_l0_ev (l : List Int) (c : Int) (s : Bool) (hl : l.length ≤ 1048576) (hc : isNum c = true) : Ev (fun k => impl_IsAtom.l0 k l (l.length : Int) 0 l c s) (if l.all isNum then decide (Nat.gcd (gcdL l) c.natAbs ≤ 1) else false) := by
  have := ev_allq (fun k i => impl_IsAtom.l0 k l (l.length : Int) i l c s) l isNum (decide (Nat.gcd (gcdL l) c.natAbs ≤ 1)) false
    (fun hall => by
      have hb := fun x hx => isNum_bd' (List.all_eq_true.1 hall x hx)
      have hg : gcdL l ≤ 9223372036854775807 := gcdL_le l _ (fun x hx => by have := hb x hx; omega)
      refine Ev.step (fun k => by rw [impl_IsAtom.l0, if_neg (by omega)]) ?_
      refine Ev.bind (impl_divisorOf_ev l hl hb) (Ev.bind (impl_commonDivisor_ev _ c (by omega) (isNum_bd' hc)) (ev_some ?_))
      have e : ((Int.gcd (gcdL l : Int) c : Nat) : Int) = ((Nat.gcd (gcdL l) c.natAbs : Nat) : Int) := by simp [Int.gcd]
      rw [e, Bool.eq_iff_iff]; simp; omega)
    (fun i hi r hp ih => by
      refine Ev.step (fun k => by rw [impl_IsAtom.l0]) ?_
      refine ev_pos (by omega) (ev_pos (by omega) (ev_pos (by omega) ?_))
      simp only [rd, Int.toNat_natCast, getD_of_lt hi]
      rw [impl_IsNumber_eq, w64_succ (by omega)]
      simp only [Option.bind_some]
      exact ev_pos hp ih)
    (fun i hi hp => by
      refine Ev.step (fun k => by rw [impl_IsAtom.l0]) ?_
      refine ev_pos (by omega) (ev_pos (by omega) (ev_pos (by omega) ?_))
      simp only [rd, Int.toNat_natCast, getD_of_lt hi]
      rw [impl_IsNumber_eq]
      simp only [Option.bind_some]
      exact ev_neg (by simp [hp]) (Ev.now _))
  simpa using this
theorem impl_IsAtom_ev (l : List Int) (c : Int) (s : Bool) (hl : l.length ≤ 1048576) : Ev (fun k => impl_IsAtom.f k l c s) (isAt l c) := by
  unfold impl_IsAtom.f
  refine ev_ite (fun h => ?_) (fun h => ?_)
  · refine ev_eqr (Ev.step (f := fun _ => some false) (fun k => by simp [impl_IsAtom.j0]) (Ev.now _)) ?_
    simp only [isAt, show ¬ l.length ≤ 4 by omega, decide_false, Bool.false_and]
  · rw [impl_IsNumber_eq]
    simp only [Option.bind_some]
    cases hc : isNum c with
    | false =>
      refine ev_eqr (Ev.step (f := fun _ => some false) (fun k => by simp [impl_IsAtom.j0]) (Ev.now _)) ?_
      simp [isAt, hc]
    | true =>
      refine Ev.step (f := fun k => impl_IsAtom.l0 k l (l.length : Int) 0 l c s) (fun k => by simp [impl_IsAtom.j0]) ?_
      refine ev_eqr (impl_IsAtom_l0_ev l c s hl hc) ?_
      cases hall : l.all isNum <;> simp [isAt, hc, hall, show l.length ≤ 4 by omega]
def digs (u : Nat) : List UInt8 := if h : u = 0 then [] else digs (u / 10) ++ [UInt8.ofNat (48 + u % 10)]
termination_by u
decreasing_by omega
theorem digs_zero : digs 0 = [] := by rw [digs, dif_pos rfl]
theorem digs_pos {u : Nat} (h : ¬ u = 0) : digs u = digs (u / 10) ++ [UInt8.ofNat (48 + u % 10)] := by rw [digs, dif_neg h]
def fmtL (n : Int) : List UInt8 := if n = 0 then [48] else if n < 0 then 45 :: digs n.natAbs else digs n.natAbs
/-- The bytes as a string. -/
def bs (l : List UInt8) : ByteArray := ⟨l.toArray⟩
theorem bs_size (l : List UInt8) : (bs l).size = l.length := by unfold bs; simp [ByteArray.size]
theorem bs_append (l m : List UInt8) : bs l ++ bs m = bs (l ++ m) := by
  unfold bs
  apply ByteArray.ext
  simp [ByteArray.data_append]
theorem dig_piece : ∀ d : Nat, d < 10 → (⟨#[48, 49, 50, 51, 52, 53, 54, 55, 56, 57]⟩ : ByteArray).extract d (d + 1) = bs [UInt8.ofNat (48 + d)]
  | 0, _ => rfl | 1, _ => rfl | 2, _ => rfl | 3, _ => rfl | 4, _ => rfl | 5, _ => rfl | 6, _ => rfl | 7, _ => rfl | 8, _ => rfl | 9, _ => rfl
  | n + 10, h => by omega
theorem dig_bd {d : Nat} (h : d < 10) : (0 : Int) ≤ (d : Int) ∧ (d : Int) ≤ ((d + 1 : Nat) : Int) ∧ ((d + 1 : Nat) : Int) ≤ 10 ∧ wrap64 ((d : Int) + 1) = ((d + 1 : Nat) : Int) := by
  refine ⟨by omega, by omega, by omega, ?_⟩
  rw [w64 (by omega) (by omega)]; omega
theorem decDigits_digs (u : Nat) (h : ¬ u = 0) : Lib.decDigits u = digs u := by
  induction u using Nat.strongRecOn with
  | _ u ih =>
    rw [digs_pos h]
    by_cases h1 : u < 10
    · rw [Lib.decDigits, dif_pos h1, show u / 10 = 0 by omega, digs_zero, show u % 10 = u by omega]; rfl
    · rw [Lib.decDigits, dif_neg h1, ih (u / 10) (by omega) (by omega)]
theorem itoa_fmtL (n : Int) : Lib.itoa n = fmtL n := by
  unfold Lib.itoa fmtL
  by_cases h : n = 0
  · subst h; rw [if_neg (by omega), if_pos rfl]
    show Lib.decDigits 0 = _
    rw [Lib.decDigits, dif_pos (by omega)]; rfl
  · rw [if_neg h]
    by_cases h1 : n < 0
    · rw [if_pos h1, if_pos h1, decDigits_digs _ (by omega)]
    · rw [if_neg h1, if_neg h1, show n.toNat = n.natAbs by omega, decDigits_digs _ (by omega)]
theorem digs_len (j : Nat) : ∀ u : Nat, u < 10 ^ j → (digs u).length ≤ j := by
  induction j with
  | zero => intro u h; have : u = 0 := by simpa using h
            subst this; simp [digs_zero]
  | succ j ih =>
    intro u h
    by_cases hz : u = 0
    · subst hz; simp [digs_zero]
    · rw [digs_pos hz, List.length_append]
      have := ih (u / 10) (by rw [Nat.pow_succ] at h; omega)
      simp; omega
theorem fmtL_len (n : Int) (h0 : -9223372036854775808 ≤ n) (h1 : n ≤ 9223372036854775807) : (fmtL n).length ≤ 21 := by
  have := digs_len 20 n.natAbs (by omega)
  unfold fmtL
  split
  · simp
  · split <;> simp <;> omega
def fmtRL (n d : Int) : List UInt8 := if isRat n d then (if d = 1 then fmtL n else fmtL n ++ 47 :: fmtL d) else [110, 111, 110, 101]
theorem bs_toList (l : List UInt8) : (bs l).toList = l := by rw [ByteArray.toList_eq]; unfold bs; simp
theorem bs_ne (l : List UInt8) : ((bs l).toList != ([] : List UInt8)) = decide (0 < l.length) := by rw [bs_toList]; cases l <;> simp
theorem bs_eq0 (l : List UInt8) : ((bs l).toList == ([] : List UInt8)) = decide (l.length = 0) := by rw [bs_toList]; cases l <;> simp
/-- An atom's text, piece by piece. -/
def nmL (i : Nat) : UInt8 := if i = 0 then 120 else if i = 1 then 121 else if i = 2 then 122 else 116
def plusL (acc : List UInt8) (n : Int) : List UInt8 := if 0 < n ∧ 0 < acc.length then acc ++ [43] else acc
def midL (n : Int) : List UInt8 := if n = -1 then [45] else if n = 1 then [] else fmtL n
def stepL (acc : List UInt8) (i : Nat) (n : Int) : List UInt8 := if n = 0 then acc else plusL acc n ++ midL n ++ [nmL i]
def goL : List Int → Nat → List UInt8 → List UInt8
  | [], _, acc => acc
  | n :: ns, i, acc => goL ns (i + 1) (stepL acc i n)
def endL (s : Bool) : List UInt8 := if s then [60, 48] else [60, 61, 48]
def finL (acc : List UInt8) (c : Int) (s : Bool) : List UInt8 := if c = 0 ∧ 0 < acc.length then acc ++ endL s else plusL acc c ++ fmtL c ++ endL s
def fmtAL (l : List Int) (c : Int) (s : Bool) : List UInt8 := if isAt l c then finL (goL l 0 []) c s else []
theorem plusL_len (acc : List UInt8) (n : Int) : (plusL acc n).length ≤ acc.length + 1 := by unfold plusL; split <;> simp
theorem fmtL_lenN {n : Int} (h : isNum n = true) : (fmtL n).length ≤ 21 := by
  have := isNum_iff.1 h
  exact fmtL_len n (by omega) (by omega)
theorem midL_len {n : Int} (h : isNum n = true) : (midL n).length ≤ 21 := by
  have := fmtL_lenN h
  unfold midL
  split
  · simp
  · split
    · simp
    · exact this
theorem stepL_len (acc : List UInt8) (i : Nat) {n : Int} (h : isNum n = true) : (stepL acc i n).length ≤ acc.length + 23 := by
  have h1 := midL_len h
  have h2 := plusL_len acc n
  unfold stepL
  split
  · omega
  · simp; omega
theorem goL_len : ∀ (ns : List Int) (i : Nat) (acc : List UInt8), (∀ x ∈ ns, isNum x = true) → (goL ns i acc).length ≤ acc.length + 23 * ns.length
  | [], _, acc, _ => by simp [goL]
  | n :: ns, i, acc, h => by
    have h1 := stepL_len acc i (h n (by simp))
    have h2 := goL_len ns (i + 1) (stepL acc i n) (fun x hx => h x (by simp [hx]))
    simp only [goL, List.length_cons]
    omega
theorem finL_len (acc : List UInt8) {c : Int} (s : Bool) (h : isNum c = true) : (finL acc c s).length ≤ acc.length + 25 := by
  have h1 := fmtL_lenN h
  have h2 := plusL_len acc c
  have h3 : (endL s).length ≤ 3 := by cases s <;> simp [endL]
  unfold finL
  split
  · simp; omega
  · simp; omega
theorem fmtAL_len (l : List Int) (c : Int) (s : Bool) : (fmtAL l c s).length ≤ 120 := by
  unfold fmtAL
  split
  · rename_i h
    obtain ⟨h4, hc, hx, _⟩ := isAt_iff.1 h
    have h1 := goL_len l 0 [] hx
    have h2 := finL_len (goL l 0 []) s hc
    simp at h1
    omega
  · simp
theorem nm_piece : ∀ i : Nat, i < 4 → (⟨#[120, 121, 122, 116]⟩ : ByteArray).extract i (i + 1) = bs [nmL i]
  | 0, _ => rfl | 1, _ => rfl | 2, _ => rfl | 3, _ => rfl
  | n + 4, h => by omega
theorem tl_bs {l : List UInt8} {s : ByteArray} (h : (bs l).toList = s.toList) : bs l = s := by
  rw [ByteArray.toList_eq, ByteArray.toList_eq] at h
  exact ByteArray.ext (Array.toList_inj.1 h)
/-- The number that digits spell behind a number. -/
def valL (acc : Nat) (l : List UInt8) : Nat := l.foldl (fun a b => a * 10 + (b.toNat - 48)) acc
def digL (l : List UInt8) : Prop := ∀ b ∈ l, 48 ≤ b.toNat ∧ b.toNat ≤ 57
theorem digs_dig : ∀ u : Nat, digL (digs u) := by
  intro u
  induction u using Nat.strongRecOn with
  | _ u ih =>
    intro b hb
    by_cases h : u = 0
    · subst h; rw [digs_zero] at hb; cases hb
    · rw [digs_pos h] at hb
      rcases List.mem_append.1 hb with hb | hb
      · exact ih (u / 10) (by omega) b hb
      · obtain rfl : b = UInt8.ofNat (48 + u % 10) := by simpa using hb
        have : (UInt8.ofNat (48 + u % 10)).toNat = 48 + u % 10 := by rw [UInt8.toNat_ofNat']; omega
        omega
theorem digs_val : ∀ u : Nat, valL 0 (digs u) = u := by
  intro u
  induction u using Nat.strongRecOn with
  | _ u ih =>
    by_cases h : u = 0
    · subst h; rw [digs_zero]; rfl
    · rw [digs_pos h]
      have e : (UInt8.ofNat (48 + u % 10)).toNat = 48 + u % 10 := by rw [UInt8.toNat_ofNat']; omega
      unfold valL at ih ⊢
      rw [List.foldl_append, ih (u / 10) (by omega)]
      simp only [List.foldl_cons, List.foldl_nil, e]
      omega
theorem valL_bd : ∀ (l : List UInt8) (acc j : Nat), digL l → acc < 10 ^ j → valL acc l < 10 ^ (j + l.length)
  | [], acc, j, _, h => by simpa [valL] using h
  | b :: l, acc, j, hd, h => by
    have hb := hd b (by simp)
    have := valL_bd l (acc * 10 + (b.toNat - 48)) (j + 1) (fun x hx => hd x (by simp [hx])) (by rw [Nat.pow_succ]; omega)
    rw [List.length_cons, show j + (l.length + 1) = j + 1 + l.length by omega]
    exact this
theorem bs_extract (l : List UInt8) (i j : Nat) : (bs l).extract i j = bs ((l.drop i).take (j - i)) := by
  unfold bs
  apply ByteArray.ext
  simp [List.extract_eq_take_drop]
theorem fmtL_no47 (n : Int) : ∀ b ∈ fmtL n, b ≠ 47 := by
  have hd := digs_dig n.natAbs
  have k : ∀ b ∈ digs n.natAbs, b ≠ 47 := fun b hb e => by
    have := hd b hb
    rw [e] at this
    exact absurd this.1 (by decide)
  intro b hb
  unfold fmtL at hb
  split at hb
  · obtain rfl : b = 48 := by simpa using hb
    decide
  · split at hb
    · rcases List.mem_cons.1 hb with e | hb
      · rw [e]; decide
      · exact k b hb
    · exact k b hb
/-- What reading a ratio gives: it, or nothing. -/
def PRat (s : ByteArray) (r : Int × Int × Bool) : Prop := r = (0, 0, false) ∨ ∃ n d, r = (n, d, true) ∧ isRat n d = true ∧ bs (fmtRL n d) = s
theorem makR_rat {n d : Int} (h : isRat n d = true) : makR n d = (n, d) := by
  have hb := isRat_iff.1 h
  have n1 : isNum n = true := isNum_iff.2 hb.2.1
  have n2 : isNum d = true := isNum_iff.2 (by omega)
  unfold makR red redOf
  rw [if_pos (by rw [n1, n2]; rfl), if_neg (show ¬ d = 0 by omega), if_neg (show ¬ d < 0 by omega), hb.2.2]
  simp [h]
theorem spec_FormatInt_fin (n : Int) (l : List UInt8) (hl : l.length ≤ 100) : Ev (fun k => spec_FormatInt.l0 k n (bs l) 0) (bs (if n = 0 then [48] else if n < 0 then 45 :: l else l)) := by
  refine Ev.step (fun k => by rw [spec_FormatInt.l0]) ?_
  refine ev_pos rfl (ev_ite (fun h => ?_) (fun h => ev_ite (fun h1 => ev_pos (by rw [bs_size]; omega) ?_) (fun h1 => ?_)))
  · rw [if_pos h]; exact Ev.now _
  · rw [if_neg h, if_pos h1]
    have : (⟨#[45]⟩ : ByteArray) ++ bs l = bs (45 :: l) := bs_append [45] l
    rw [this]; exact Ev.now _
  · rw [if_neg h, if_neg h1]; exact Ev.now _
theorem spec_FormatInt_go (n : Int) : ∀ (j : Nat) (x : Int) (l : List UInt8), x.natAbs < 10 ^ j → j ≤ 20 → l.length + j ≤ 50 → -9223372036854775808 ≤ x → x ≤ 9223372036854775807 →
    Ev (fun k => spec_FormatInt.l0 k n (bs l) x) (bs (if n = 0 then [48] else if n < 0 then 45 :: (digs x.natAbs ++ l) else digs x.natAbs ++ l)) := by
  intro j
  induction j with
  | zero =>
    intro x l hx _ hl _ _
    have : x = 0 := by simp at hx; exact hx
    subst this
    have := spec_FormatInt_fin n l (by omega)
    simpa [digs_zero] using this
  | succ j ih =>
    intro x l hx hj hl h0 h1
    by_cases hz : x = 0
    · subst hz
      have := spec_FormatInt_fin n l (by omega)
      simpa [digs_zero] using this
    · refine Ev.step (fun k => by rw [spec_FormatInt.l0]) (ev_neg hz ?_)
      have hd : x.natAbs % 10 < 10 := by omega
      obtain ⟨b0, b1, b2, et1⟩ := dig_bd hd
      have e10 : (bs [UInt8.ofNat (48 + x.natAbs % 10)]).size = 1 := bs_size _
      have eq : (wrap64 (Int.tdiv x 10)) = Int.tdiv x 10 := by
        have := Int.natAbs_tdiv x 10
        have h2 : x.natAbs.div (10 : Int).natAbs = x.natAbs / 10 := rfl
        exact w64 (by omega) (by omega)
      have en : (Int.tdiv x 10).natAbs = x.natAbs / 10 := by
        have := Int.natAbs_tdiv x 10
        have h2 : x.natAbs.div (10 : Int).natAbs = x.natAbs / 10 := rfl
        omega
      have go := ih (Int.tdiv x 10) (UInt8.ofNat (48 + x.natAbs % 10) :: l) (by rw [en]; rw [Nat.pow_succ] at hx; omega) (by omega) (by simp; omega) (by omega) (by omega)
      rw [en] at go
      have ed : digs x.natAbs ++ l = digs (x.natAbs / 10) ++ UInt8.ofNat (48 + x.natAbs % 10) :: l := by
        rw [digs_pos (show ¬ x.natAbs = 0 by omega), List.append_assoc]; rfl
      rw [ed]
      have ea : bs [UInt8.ofNat (48 + x.natAbs % 10)] ++ bs l = bs (UInt8.ofNat (48 + x.natAbs % 10) :: l) := bs_append _ _
      refine ev_ite (fun hn => ?_) (fun hn => ?_)
      · have et : wrap64 (-(Int.tmod x 10)) = ((x.natAbs % 10 : Nat) : Int) := by
          have := Int.natAbs_tmod x 10
          have h2 : x.natAbs % (10 : Int).natAbs = x.natAbs % 10 := rfl
          rw [w64 (by omega) (by omega)]; omega
        simp only [et, et1, eq, Int.toNat_natCast, dig_piece _ hd, e10, bs_size, ea]
        exact ev_pos b0 (ev_pos b1 (ev_pos b2 (ev_pos (by clear go ih hx; omega) go)))
      · have et : Int.tmod x 10 = ((x.natAbs % 10 : Nat) : Int) := by
          have := Int.natAbs_tmod x 10
          have h2 : x.natAbs % (10 : Int).natAbs = x.natAbs % 10 := rfl
          omega
        simp only [et, et1, eq, Int.toNat_natCast, dig_piece _ hd, e10, bs_size, ea]
        exact ev_pos b0 (ev_pos b1 (ev_pos b2 (ev_pos (by clear go ih hx; omega) go)))
theorem spec_FormatInt_ev (n : Int) (h0 : -9223372036854775808 ≤ n) (h1 : n ≤ 9223372036854775807) : Ev (fun k => spec_FormatInt.f k n) (bs (fmtL n)) := by
  have := spec_FormatInt_go n 20 n [] (by omega) (by omega) (by simp) h0 h1
  rw [List.append_nil] at this
  exact this
theorem impl_FormatInt_eq (n : Int) (h0 : -9223372036854775808 ≤ n) (h1 : n ≤ 9223372036854775807) : impl_FormatInt.f n = some (bs (fmtL n)) := by
  unfold impl_FormatInt.f strconv_Itoa.f
  rw [if_pos ⟨h0, h1⟩, itoa_fmtL]
  rfl
theorem spec_FormatAtom_j2_ev (l : List Int) (c : Int) (s : Bool) (i : Nat) (hi : i < 4) (acc : List UInt8) (ha : acc.length ≤ 1000) (n : Int) (hn : isNum n = true) (r : ByteArray)
    (h : Ev (fun k => spec_FormatAtom.l0 k (bs (acc ++ midL n ++ [nmL i])) ((i + 1 : Nat) : Int) l c s) r) : Ev (fun k => spec_FormatAtom.j2 k (bs acc) (i : Int) n l c s) r := by
  have hn' := isNum_iff.1 hn
  have e1 : wrap64 ((i : Int) + 1) = ((i + 1 : Nat) : Int) := w64_succ (by omega)
  have ep := nm_piece i hi
  have e45 : bs acc ++ (⟨#[45]⟩ : ByteArray) = bs (acc ++ [45]) := bs_append _ [45]
  refine Ev.step (fun k => by rw [spec_FormatAtom.j2]) ?_
  simp only [e1, Int.toNat_natCast, ep, e45, bs_append, bs_size]
  refine ev_ite (fun h1 => ?_) (fun h1 => ev_ite (fun h2 => ?_) (fun h2 => ?_))
  · have em : midL n = [45] := by unfold midL; rw [if_pos h1]
    rw [em] at h
    exact ev_pos (by omega) (ev_pos (by omega) (ev_pos (by omega) (ev_pos (by omega) (ev_pos (by simp; omega) h))))
  · have em : midL n = [] := by unfold midL; rw [if_neg h1, if_pos h2]
    rw [em, List.append_nil] at h
    exact ev_pos (by omega) (ev_pos (by omega) (ev_pos (by omega) (ev_pos (by simp; omega) h)))
  · have em : midL n = fmtL n := by unfold midL; rw [if_neg h1, if_neg h2]
    rw [em] at h
    have hl := fmtL_lenN hn
    refine Ev.bind (spec_FormatInt_ev n (by omega) (by omega)) ?_
    simp only [bs_append, bs_size]
    exact ev_pos (by omega) (ev_pos (by omega) (ev_pos (by omega) (ev_pos (by omega) (ev_pos (by simp; omega) h))))
theorem spec_FormatAtom_j1_ev (l : List Int) (c : Int) (s : Bool) (i : Nat) (hi : i < 4) (acc : List UInt8) (ha : acc.length ≤ 900) (n : Int) (hn : isNum n = true) (b : Bool) (hb : b = decide (0 < n ∧ 0 < acc.length)) (r : ByteArray)
    (h : Ev (fun k => spec_FormatAtom.l0 k (bs (plusL acc n ++ midL n ++ [nmL i])) ((i + 1 : Nat) : Int) l c s) r) : Ev (fun k => spec_FormatAtom.j1 k (bs acc) (i : Int) n b l c s) r := by
  have e43 : bs acc ++ (⟨#[43]⟩ : ByteArray) = bs (acc ++ [43]) := bs_append _ [43]
  refine Ev.step (fun k => by rw [spec_FormatAtom.j1]) ?_
  subst hb
  refine ev_ite (fun h1 => ?_) (fun h1 => ?_)
  · have ep : plusL acc n = acc ++ [43] := by unfold plusL; rw [if_pos (of_decide_eq_true h1)]
    rw [ep] at h
    rw [e43]
    exact ev_pos (by rw [bs_size]; omega) (spec_FormatAtom_j2_ev l c s i hi _ (by simp; omega) n hn r h)
  · have ep : plusL acc n = acc := by unfold plusL; rw [if_neg (fun h' => h1 (decide_eq_true h'))]
    rw [ep] at h
    exact spec_FormatAtom_j2_ev l c s i hi _ (by omega) n hn r h
theorem spec_FormatAtom_j5_ev (l : List Int) (c : Int) (s : Bool) (hc : isNum c = true) (acc : List UInt8) (ha : acc.length ≤ 1000) (b : Bool) :
    Ev (fun k => spec_FormatAtom.j5 k (bs acc) b l c s) (bs (if b = true then acc ++ fmtL c ++ endL s else acc ++ endL s)) := by
  have hc' := isNum_iff.1 hc
  have hl := fmtL_lenN hc
  have e2 : ∀ x : List UInt8, bs x ++ (⟨#[60, 48]⟩ : ByteArray) = bs (x ++ [60, 48]) := fun x => bs_append x [60, 48]
  have e3 : ∀ x : List UInt8, bs x ++ (⟨#[60, 61, 48]⟩ : ByteArray) = bs (x ++ [60, 61, 48]) := fun x => bs_append x [60, 61, 48]
  refine Ev.step (fun k => by rw [spec_FormatAtom.j5]) ?_
  refine ev_ite (fun h1 => ?_) (fun h1 => ?_)
  · rw [if_pos h1]
    refine Ev.bind (spec_FormatInt_ev c (by omega) (by omega)) ?_
    simp only [bs_append, bs_size, e2, e3]
    refine ev_pos (by omega) (ev_ite (fun h2 => ev_pos (by simp; omega) ?_) (fun h2 => ev_pos (by simp; omega) ?_))
    · subst h2; exact Ev.now _
    · obtain rfl : s = false := by simpa using h2
      exact Ev.now _
  · rw [if_neg h1]
    simp only [bs_append, bs_size, e2, e3]
    refine ev_ite (fun h2 => ev_pos (by omega) ?_) (fun h2 => ev_pos (by omega) ?_)
    · subst h2; exact Ev.now _
    · obtain rfl : s = false := by simpa using h2
      exact Ev.now _
theorem spec_FormatAtom_end_ev (l : List Int) (c : Int) (s : Bool) (hc : isNum c = true) (acc : List UInt8) (ha : acc.length ≤ 900) :
    Ev (fun k => spec_FormatAtom.l0 k (bs acc) (l.length : Int) l c s) (bs (finL acc c s)) := by
  have e43 : bs acc ++ (⟨#[43]⟩ : ByteArray) = bs (acc ++ [43]) := bs_append _ [43]
  refine Ev.step (fun k => by rw [spec_FormatAtom.l0]) ?_
  refine ev_neg (by omega) (ev_ite (fun h1 => ?_) (fun h1 => ?_))
  · rw [bs_ne]
    refine Ev.step (fun k => by rw [spec_FormatAtom.j3]) (ev_ite (fun h2 => ?_) (fun h2 => ?_))
    · rw [e43]
      refine ev_pos (by rw [bs_size]; omega) (Ev.step (fun k => by rw [spec_FormatAtom.j4]) (ev_neg (by omega) ?_))
      refine ev_eqr (spec_FormatAtom_j5_ev l c s hc (acc ++ [43]) (by simp; omega) true) ?_
      unfold finL plusL
      rw [if_pos rfl, if_neg (by omega), if_pos ⟨h1, of_decide_eq_true h2⟩]
    · refine Ev.step (fun k => by rw [spec_FormatAtom.j4]) (ev_neg (by omega) ?_)
      refine ev_eqr (spec_FormatAtom_j5_ev l c s hc acc (by omega) true) ?_
      unfold finL plusL
      rw [if_pos rfl, if_neg (by omega), if_neg (fun h' => h2 (decide_eq_true h'.2))]
  · refine Ev.step (fun k => by rw [spec_FormatAtom.j3]) (ev_neg (by simp) (Ev.step (fun k => by rw [spec_FormatAtom.j4]) (ev_ite (fun h2 => ?_) (fun h2 => ?_))))
    · rw [bs_eq0]
      refine ev_eqr (spec_FormatAtom_j5_ev l c s hc acc (by omega) _) ?_
      unfold finL plusL
      by_cases h3 : acc.length = 0
      · rw [if_pos (decide_eq_true h3), if_neg (by omega), if_neg (by omega)]
      · rw [if_neg (by simpa using h3), if_pos ⟨h2, by omega⟩]
    · refine ev_eqr (spec_FormatAtom_j5_ev l c s hc acc (by omega) true) ?_
      unfold finL plusL
      rw [if_pos rfl, if_neg (by omega), if_neg (by omega)]
theorem spec_FormatAtom_go_ev (l : List Int) (c : Int) (s : Bool) (hc : isNum c = true) (h4 : l.length ≤ 4) : ∀ (ns : List Int) (i : Nat) (acc : List UInt8), ns = l.drop i → i + ns.length = l.length → acc.length ≤ 23 * i → (∀ x ∈ ns, isNum x = true) →
    Ev (fun k => spec_FormatAtom.l0 k (bs acc) (i : Int) l c s) (bs (finL (goL ns i acc) c s))
  | [], i, acc, _, hi, ha, _ => by
    obtain rfl : i = l.length := by simpa using hi
    exact spec_FormatAtom_end_ev l c s hc acc (by omega)
  | n :: ns, i, acc, hd, hi, ha, hx => by
    simp only [List.length_cons] at hi
    have hlt : i < l.length := by omega
    have hq := List.drop_eq_getElem_cons hlt
    rw [← hd] at hq
    obtain ⟨rfl, rfl⟩ := List.cons.inj hq
    have hn := hx _ (List.mem_cons_self ..)
    have ih := spec_FormatAtom_go_ev l c s hc h4 (l.drop (i + 1)) (i + 1) (stepL acc i l[i]) rfl (by simp; omega) (by have := stepL_len acc i hn; omega) (fun x hx' => hx x (List.mem_cons_of_mem _ hx'))
    have hrd : rd l (i : Int) = l[i] := by simp [rd, List.getD_eq_getElem?_getD, hlt]
    refine Ev.step (fun k => by rw [spec_FormatAtom.l0]) ?_
    rw [hrd, w64_succ (by omega)]
    refine ev_pos (by omega) (ev_pos (by omega) (ev_ite (fun h0 => ?_) (fun h0 => ?_)))
    · have : stepL acc i l[i] = acc := by unfold stepL; rw [if_pos h0]
      rw [goL, this]; rw [this] at ih; exact ih
    · have e : stepL acc i l[i] = plusL acc l[i] ++ midL l[i] ++ [nmL i] := by unfold stepL; rw [if_neg h0]
      rw [goL]
      rw [e] at ih ⊢
      refine ev_ite (fun h1 => ?_) (fun h1 => ?_)
      · exact spec_FormatAtom_j1_ev l c s i (by omega) acc (by omega) _ hn _ (by rw [bs_ne]; congr 1; exact propext ⟨fun h => ⟨h1, h⟩, fun h => h.2⟩) _ ih
      · exact spec_FormatAtom_j1_ev l c s i (by omega) acc (by omega) _ hn _ (by rw [decide_eq_false (by omega)]) _ ih
theorem spec_FormatAtom_ev (l : List Int) (c : Int) (s : Bool) (hl : l.length ≤ 1048576) : Ev (fun k => spec_FormatAtom.f k l c s) (bs (fmtAL l c s)) := by
  unfold spec_FormatAtom.f fmtAL
  refine Ev.bind (spec_IsAtom_ev l c s hl) (ev_ite (fun h => ?_) (fun h => ?_))
  · rw [if_pos h]
    obtain ⟨h4, hc, hx, _⟩ := isAt_iff.1 h
    exact spec_FormatAtom_go_ev l c s hc h4 l 0 [] rfl (by simp) (by simp) hx
  · rw [if_neg h]; exact Ev.now _
theorem fa_go : ∀ (ns : List Int) (i : Nat) (acc : List UInt8), acc.length + 23 * ns.length ≤ 700000 → (∀ x ∈ ns, isNum x = true) → FA.go ns i acc = some (goL ns i acc)
  | [], _, _, _, _ => rfl
  | n :: ns, i, acc, ha, hx => by
    simp only [List.length_cons] at ha
    have hn := hx n (by simp)
    have hn' := isNum_iff.1 hn
    have h1 := stepL_len acc i hn
    have ih := fa_go ns (i + 1) (stepL acc i n) (by omega) (fun x h => hx x (by simp [h]))
    have es : FA.step acc i n = some (stepL acc i n) := by
      unfold FA.step stepL midL
      by_cases h0 : n = 0
      · rw [if_pos h0, if_pos h0]
      · rw [if_neg h0, if_neg h0, if_pos (by omega)]
        by_cases h2 : n = 1
        · rw [if_pos h2, if_neg (by omega), if_pos h2, List.append_nil]; rfl
        · rw [if_neg h2]
          by_cases h3 : n = -1
          · rw [if_pos h3, if_pos h3]; rfl
          · rw [if_neg h3, if_neg h3, if_neg h2, impl_FormatInt_eq n (by omega) (by omega), Option.bind_some]
            rw [if_pos (by rw [bs_size]; have := fmtL_lenN hn; omega)]
            rfl
    rw [FA.go, es, goL, Option.bind_some, ih]
theorem impl_FormatAtom_ev (l : List Int) (c : Int) (s : Bool) (hl : l.length ≤ 1048576) : Ev (fun k => impl_FormatAtom.f k l c s) (bs (fmtAL l c s)) := by
  unfold impl_FormatAtom.f fmtAL
  refine Ev.bind (impl_IsAtom_ev l c s hl) (ev_ite (fun h => ?_) (fun h => ?_))
  · rw [if_pos h]
    obtain ⟨h4, hc, hx, _⟩ := isAt_iff.1 h
    have hc' := isNum_iff.1 hc
    have h1 := goL_len l 0 [] hx
    have h2 := fmtL_lenN hc
    have h3 := plusL_len (goL l 0 []) c
    simp only [List.length_nil] at h1
    refine ev_pos h4 (ev_eq ?_)
    rw [fa_go l 0 [] (by simp; omega) hx, Option.bind_some]
    unfold FA.fin finL
    by_cases h0 : c = 0 ∧ 0 < (goL l 0 []).length
    · rw [if_pos h0, if_pos h0]
      unfold FA.tail
      rw [if_pos (by omega)]; rfl
    · rw [if_neg h0, if_neg h0, impl_FormatInt_eq c (by omega) (by omega), Option.bind_some]
      rw [if_pos ⟨by omega, by rw [bs_size]; omega⟩]
      have e : FA.plus (goL l 0 []) c ++ (bs (fmtL c)).data.toList = plusL (goL l 0 []) c ++ fmtL c := rfl
      rw [e]
      unfold FA.tail
      rw [if_pos (by simp; omega)]; rfl
  · rw [if_neg h]; exact Ev.now _
theorem bt_bs (l : List UInt8) (i : Nat) (h : i < l.length) : bt (bs l) (i : Int) = (l[i].toNat : Int) := by
  unfold bt
  rw [dif_pos (by rw [bs_size, Int.toNat_natCast]; exact h)]
  rfl
theorem decFrom_val : ∀ (l : List UInt8) (acc : Nat), digL l → Lib.decFrom acc l = some (valL acc l)
  | [], _, _ => rfl
  | b :: l, acc, h => by
    have hb := h b (by simp)
    unfold Lib.decFrom Lib.digitVal
    rw [if_pos hb]
    exact decFrom_val l _ (fun x hx => h x (by simp [hx]))
theorem atoi_fmtL (n : Int) (hn : isNum n = true) : Lib.atoi (fmtL n) = some n := by
  have hb := isNum_iff.1 hn
  have hv := digs_val n.natAbs
  have hd := digs_dig n.natAbs
  by_cases h0 : n = 0
  · subst h0; rfl
  · have hne : digs n.natAbs ≠ [] := by rw [digs_pos (by omega)]; simp
    have hnat : Lib.decNat (digs n.natAbs) = some n.natAbs := by
      unfold Lib.decNat
      rw [if_neg (by simpa using hne), decFrom_val _ _ hd, hv]
    by_cases h1 : n < 0
    · have e : fmtL n = 45 :: digs n.natAbs := by unfold fmtL; rw [if_neg h0, if_pos h1]
      rw [e]
      unfold Lib.atoi
      dsimp only
      rw [if_pos (by rfl), hnat, Option.map_some]
      congr 1; omega
    · have e : fmtL n = digs n.natAbs := by unfold fmtL; rw [if_neg h0, if_neg h1]
      rw [e]
      cases hq : digs n.natAbs with
      | nil => exact absurd hq hne
      | cons b r =>
        have hb2 := hd b (by rw [hq]; simp)
        unfold Lib.atoi
        have n45 : (b == 45) = false := beq_eq_false_iff_ne.mpr (fun e => by subst e; revert hb2; decide)
        have n43 : (b == 43) = false := beq_eq_false_iff_ne.mpr (fun e => by subst e; revert hb2; decide)
        dsimp only
        rw [n45, n43, ← hq, hnat]
        simp
        omega
theorem impl_ParseInt_num (n : Int) (hn : isNum n = true) : impl_ParseInt.f (bs (fmtL n)) = some (n, true) := by
  have hb := isNum_iff.1 hn
  have hl := fmtL_len n (by omega) (by omega)
  have hl18 : (fmtL n).length ≤ 18 := by
    have := digs_len 9 n.natAbs (by omega)
    unfold fmtL
    split
    · simp
    · split <;> simp <;> omega
  have ha : Lib.atoiAll (bs (fmtL n)).data.toList = .ok n := by
    show Lib.atoiAll (fmtL n) = _
    rw [Lib.atoiAll_short _ hl18, atoi_fmtL n hn]; rfl
  unfold impl_ParseInt.f
  rw [if_pos (by rw [bs_size]; omega), ha]
  simp only []
  rw [impl_IsNumber_eq, Option.bind_some, if_pos hn, impl_FormatInt_eq n (by omega) (by omega), Option.bind_some, if_pos rfl]
theorem impl_ParseInt_none (s : ByteArray) (hs : s.size ≤ 1048576) (h : ∀ n, isNum n = true → s ≠ bs (fmtL n)) : impl_ParseInt.f s = some (0, false) := by
  unfold impl_ParseInt.f
  rw [if_pos (by omega)]
  cases hA : Lib.atoiAll s.data.toList with
  | ok v =>
    simp only []
    rw [impl_IsNumber_eq, Option.bind_some]
    by_cases hn : isNum v = true
    · have hb := isNum_iff.1 hn
      rw [if_pos hn, impl_FormatInt_eq v (by omega) (by omega), Option.bind_some, if_neg (fun e => h v hn (tl_bs e).symm)]
    · rw [if_neg hn]
  | «syntax» => rfl
  | range => rfl
theorem impl_ParseInt_or (s : ByteArray) (hs : s.size ≤ 1048576) : (∃ n, isNum n = true ∧ s = bs (fmtL n) ∧ impl_ParseInt.f s = some (n, true)) ∨ impl_ParseInt.f s = some (0, false) := by
  by_cases h : ∃ n, isNum n = true ∧ s = bs (fmtL n)
  · obtain ⟨n, hn, rfl⟩ := h
    exact .inl ⟨n, hn, rfl, impl_ParseInt_num n hn⟩
  · exact .inr (impl_ParseInt_none s hs (fun n hn e => h ⟨n, hn, e⟩))
/-- What is left of an atom's text in front of its end: coefficients from the i-th on, e: something is written already. -/
def sgT (e : Bool) (n : Int) : List UInt8 := if n < 0 then [45] else if e then [43] else []
def dgT (n : Int) : List UInt8 := if n = 1 ∨ n = -1 then [] else digs n.natAbs
def dgC (c : Int) : List UInt8 := if c = 0 then [48] else digs c.natAbs
def tailL : List Int → Nat → Bool → Int → List UInt8
  | [], _, e, c => if c = 0 ∧ e = true then [] else sgT e c ++ dgC c
  | n :: ns, i, e, c => if n = 0 then tailL ns (i + 1) e c else sgT e n ++ (dgT n ++ nmL i :: tailL ns (i + 1) true c)
theorem fmtL_sg (n : Int) : fmtL n = sgT false n ++ dgC n := by
  unfold fmtL sgT dgC
  by_cases h : n = 0
  · subst h; rfl
  · rw [if_neg h, if_neg h]
    split <;> simp
theorem digs_one : digs 1 = [49] := by rw [digs_pos (by decide), show 1 / 10 = 0 from rfl, digs_zero]; rfl
theorem term_eq (acc : List UInt8) (i : Nat) (n : Int) (h : ¬ n = 0) : stepL acc i n = acc ++ (sgT (decide (0 < acc.length)) n ++ (dgT n ++ [nmL i])) := by
  unfold stepL
  rw [if_neg h]
  unfold plusL midL sgT dgT
  by_cases h1 : n = -1
  · subst h1
    simp
  · by_cases h2 : n = 1
    · subst h2
      by_cases ha : 0 < acc.length
      · simp [ha]
      · simp [ha]
    · rw [if_neg h1, if_neg h2, if_neg (show ¬ (n = 1 ∨ n = -1) by omega), fmtL, if_neg h]
      by_cases h3 : n < 0
      · rw [if_neg (by omega), if_pos h3, if_pos h3]; simp
      · rw [if_neg h3, if_neg h3]
        by_cases ha : 0 < acc.length
        · rw [if_pos ⟨by omega, ha⟩, if_pos (by simpa using ha)]; simp
        · rw [if_neg (by omega), if_neg (by simpa using ha)]; simp
theorem body_tail (c : Int) : ∀ (ns : List Int) (i : Nat) (acc : List UInt8), (if c = 0 ∧ 0 < (goL ns i acc).length then goL ns i acc else plusL (goL ns i acc) c ++ fmtL c) = acc ++ tailL ns i (decide (0 < acc.length)) c
  | [], i, acc => by
    show (if c = 0 ∧ 0 < acc.length then acc else plusL acc c ++ fmtL c) = acc ++ (if c = 0 ∧ decide (0 < acc.length) = true then [] else sgT (decide (0 < acc.length)) c ++ dgC c)
    by_cases h : c = 0 ∧ 0 < acc.length
    · rw [if_pos h, if_pos ⟨h.1, by simpa using h.2⟩]; simp
    · rw [if_neg h, if_neg (by simpa using h)]
      unfold plusL
      rw [fmtL_sg]
      unfold sgT
      by_cases h1 : c < 0
      · rw [if_neg (by omega), if_pos h1, if_pos h1]
      · rw [if_neg h1, if_neg h1]
        by_cases ha : 0 < acc.length
        · rw [if_pos ⟨by omega, ha⟩]; simp [ha]
        · rw [if_neg (by omega)]; simp [ha]
  | n :: ns, i, acc => by
    rw [goL, body_tail c ns (i + 1) (stepL acc i n), tailL]
    by_cases h : n = 0
    · rw [if_pos h]; unfold stepL; rw [if_pos h]
    · rw [if_neg h, term_eq acc i n h]
      have e : decide (0 < (acc ++ (sgT (decide (0 < acc.length)) n ++ (dgT n ++ [nmL i]))).length) = true := decide_eq_true (by simp only [List.length_append, List.length_cons]; omega)
      rw [e]
      simp
theorem fmtAL_tail {l : List Int} {c : Int} (s : Bool) (h : isAt l c = true) : fmtAL l c s = tailL l 0 false c ++ endL s := by
  have := body_tail c l 0 []
  unfold fmtAL finL
  rw [if_pos h]
  simp only [List.length_nil, Nat.lt_irrefl, decide_false, List.nil_append] at this
  rw [← this]
  split <;> simp
/-- What reading an atom gives: it, or nothing. -/
def noA : List Int × Int × Bool × Bool := ([], 0, false, false)
def PAt (T : List UInt8) (d : Nat) (r : List Int × Int × Bool × Bool) : Prop := r = noA ∨ ∃ l c s, r = (l, c, s, true) ∧ l.length = d ∧ fmtAL l c s = T
theorem fmtAL_ne {l : List Int} {c : Int} {s : Bool} (h : isAt l c = true) : fmtAL l c s ≠ [] := by
  rw [fmtAL_tail s h]
  cases s <;> simp [endL]
theorem fmtAL_at {l : List Int} {c : Int} {s : Bool} (h : fmtAL l c s ≠ []) : isAt l c = true := by
  unfold fmtAL at h
  by_cases hi : isAt l c = true
  · exact hi
  · rw [if_neg hi] at h; exact absurd rfl h
theorem dgC_dig (c : Int) : digL (dgC c) := by
  unfold dgC
  split
  · intro b hb; obtain rfl : b = 48 := by simpa using hb
    decide
  · exact digs_dig _
theorem dgT_dig (c : Int) : digL (dgT c) := by
  unfold dgT
  split
  · intro b hb; cases hb
  · exact digs_dig _
theorem digs_ne {u : Nat} (h : ¬ u = 0) : digs u ≠ [] := by rw [digs_pos h]; simp
theorem dgC_ne (c : Int) : dgC c ≠ [] := by
  unfold dgC
  split
  · simp
  · exact digs_ne (by omega)
theorem digs9 {n : Int} (hn : isNum n = true) : (digs n.natAbs).length ≤ 9 := digs_len 9 _ (by have := isNum_iff.1 hn; omega)
theorem sgT_len (e : Bool) (n : Int) : (sgT e n).length ≤ 1 := by unfold sgT; split <;> (try split) <;> simp
theorem tailL_len {c : Int} (hc : isNum c = true) : ∀ (ns : List Int) (i : Nat) (e : Bool), (∀ x ∈ ns, isNum x = true) → (tailL ns i e c).length ≤ 11 * ns.length + 11
  | [], i, e, _ => by
    unfold tailL
    have h1 := digs9 hc
    have h2 := sgT_len e c
    split
    · simp
    · unfold dgC; split <;> simp <;> omega
  | n :: ns, i, e, hn => by
    unfold tailL
    have h1 := digs9 (hn n (by simp))
    have h2 := sgT_len e n
    have h3 := tailL_len hc ns (i + 1) e (fun x hx => hn x (by simp [hx]))
    have h4 := tailL_len hc ns (i + 1) true (fun x hx => hn x (by simp [hx]))
    split
    · simp; omega
    · unfold dgT; split <;> simp <;> omega
theorem fmtAL_len57 {l : List Int} {c : Int} (s : Bool) : (fmtAL l c s).length ≤ 80 := by
  by_cases h : isAt l c = true
  · rw [fmtAL_tail s h]
    obtain ⟨h4, hc, hx, _⟩ := isAt_iff.1 h
    have := tailL_len hc l 0 false hx
    have h3 : (endL s).length ≤ 3 := by cases s <;> simp [endL]
    simp; omega
  · unfold fmtAL; rw [if_neg h]; simp
/-- What reading a number gives, on bytes. -/
def pI (h : List UInt8) : Int × Bool := (impl_ParseInt.f (bs h)).getD (0, false)
theorem pI_eq (h : List UInt8) (hl : h.length ≤ 1048576) : impl_ParseInt.f (bs h) = some (pI h) := by
  unfold pI
  rcases impl_ParseInt_or (bs h) (by rw [bs_size]; exact hl) with ⟨n, _, _, e⟩ | e <;> rw [e] <;> rfl
theorem pI_num {n : Int} (h : isNum n = true) : pI (fmtL n) = (n, true) := by
  unfold pI; rw [impl_ParseInt_num n h]; rfl
theorem pI_nil : pI [] = (0, false) := by
  unfold pI
  rw [impl_ParseInt_none (bs []) (by simp [bs_size]) (fun n _ e => by
    have e2 := congrArg ByteArray.toList e
    rw [bs_toList, bs_toList, fmtL_sg] at e2
    have := dgC_ne n
    simp at e2
    exact this e2.2)]
  rfl
def isDig (b : UInt8) : Bool := decide (48 ≤ b.toNat) && decide (b.toNat ≤ 57)
def rtN (R : List UInt8) : Nat := (R.takeWhile isDig).length
def rtI : List UInt8 → Nat
  | [] => 0
  | b :: r => if b = 43 ∨ b = 45 then 1 + rtN r else rtN (b :: r)
theorem rtI_cons (b : UInt8) (r : List UInt8) : rtI (b :: r) = if b = 43 ∨ b = 45 then 1 + rtN r else rtN (b :: r) := rfl
def rtV (R : List UInt8) (i : Nat) : Int := match R[i]? with
  | some b => Lib.indexByte [120, 121, 122, 116] b
  | none => -1
def rtH (h : List UInt8) : List UInt8 := if h = [] ∨ h = [45] then h ++ [49] else h
def rtAt (R : List UInt8) (i : Nat) : Int × Int × ByteArray × Bool :=
  if 0 ≤ rtV R i then ((pI (rtH (Lib.trimPrefix (R.take i) [43]))).1, rtV R i, bs (R.drop (i + 1)), (pI (rtH (Lib.trimPrefix (R.take i) [43]))).2)
  else ((pI (Lib.trimPrefix (R.take i) [43])).1, rtV R i, bs (R.drop i), (pI (Lib.trimPrefix (R.take i) [43])).2)
theorem trim_len (h : List UInt8) : (Lib.trimPrefix h [43]).length ≤ h.length := by
  unfold Lib.trimPrefix; split <;> simp
theorem ix_u8 (b : UInt8) : ((b.toNat : Int)).toNat.toUInt8 = b := by
  rw [Int.toNat_natCast]; exact UInt8.ofNat_toNat
theorem ix_lt (b : UInt8) : -1 ≤ Lib.indexByte [120, 121, 122, 116] b ∧ Lib.indexByte [120, 121, 122, 116] b < 4 := by
  unfold Lib.indexByte Lib.indexByte Lib.indexByte Lib.indexByte Lib.indexByte
  split
  · omega
  · split <;> (try split) <;> (try split) <;> (try split) <;> (try split) <;> simp_all
theorem rtV_bd (R : List UInt8) (i : Nat) : -1 ≤ rtV R i ∧ rtV R i < 4 := by
  unfold rtV
  split
  · exact ix_lt _
  · omega
theorem rtV_lt {R : List UInt8} {i : Nat} (h : 0 ≤ rtV R i) : i < R.length := by
  unfold rtV at h
  split at h
  · rename_i b hb
    exact (List.getElem?_eq_some_iff.1 hb).1
  · omega
theorem readTerm_j4_ev (R : List UInt8) (i : Nat) (hi : i ≤ R.length) (hR : R.length ≤ 80) : Ev (fun k => impl_readTerm.j4 k (bs R) (i : Int) (bs (Lib.trimPrefix (R.take i) [43])) (rtV R i)) (rtAt R i) := by
  have ht := trim_len (R.take i)
  have ht2 : (Lib.trimPrefix (R.take i) [43]).length ≤ 80 := by simp at ht; omega
  have ed : ∀ j, (bs R).extract j (bs R).size = bs (R.drop j) := fun j => by
    rw [bs_extract, bs_size]
    congr 1
    exact List.take_of_length_le (by rw [List.length_drop]; omega)
  unfold rtAt
  generalize Lib.trimPrefix (R.take i) [43] = H at ht2 ⊢
  refine Ev.step (fun k => by rw [impl_readTerm.j4]) (ev_pos (by omega) (ev_pos (by rw [bs_size]; omega) (ev_ite (fun hv => ?_) (fun hv => ?_))))
  · rw [if_pos hv]
    have hlt := rtV_lt hv
    have hw : wrap64 ((i : Int) + 1) = ((i + 1 : Nat) : Int) := w64_succ (by omega)
    simp only [hw, Int.toNat_natCast, ed, bs_toList]
    have e1 : bs H ++ (⟨#[49]⟩ : ByteArray) = bs (H ++ [49]) := bs_append _ [49]
    rw [e1]
    have hs := bs_size H
    refine ev_pos (by omega) (ev_pos (by rw [bs_size]; omega) (ev_ite (fun h0 => ?_) (fun h0 => ev_ite (fun h1 => ?_) (fun h1 => ?_))))
    · have e : rtH H = H ++ [49] := by unfold rtH; rw [if_pos (.inl h0)]
      rw [e]
      exact ev_pos (by omega) (ev_bindS (pI_eq _ (by simp; omega)) (Ev.now _))
    · have e : rtH H = H ++ [49] := by unfold rtH; rw [if_pos (.inr h1)]
      rw [e]
      exact ev_pos (by omega) (ev_bindS (pI_eq _ (by simp; omega)) (Ev.now _))
    · have e : rtH H = H := by unfold rtH; rw [if_neg (by rintro (h | h); exact h0 h; exact h1 h)]
      rw [e]
      exact ev_bindS (pI_eq _ (by omega)) (Ev.now _)
  · rw [if_neg hv, Int.toNat_natCast, ed]
    exact ev_bindS (pI_eq _ (by omega)) (Ev.now _)
theorem readTerm_j3_ev (R : List UInt8) (i : Nat) (hi : i ≤ R.length) (hR : R.length ≤ 80) : Ev (fun k => impl_readTerm.j3 k (bs R) (i : Int)) (rtAt R i) := by
  have h4 := readTerm_j4_ev R i hi hR
  have et : strings_TrimPrefix.f ((bs R).extract 0 i) (⟨#[43]⟩ : ByteArray) = some (bs (Lib.trimPrefix (R.take i) [43])) := by
    rw [bs_extract, List.drop_zero, Nat.sub_zero]
    rfl
  refine Ev.step (fun k => by rw [impl_readTerm.j3]) (ev_pos (by omega) (ev_pos (by rw [bs_size]; omega) ?_))
  rw [Int.toNat_natCast]
  refine ev_bindS et (ev_ite (fun h => ?_) (fun h => ?_))
  · have hlt : i < R.length := by rw [bs_size] at h; omega
    have ei : strings_IndexByte.f (⟨#[120, 121, 122, 116]⟩ : ByteArray) (bt (bs R) (i : Int)) = some (rtV R i) := by
      rw [bt_bs R i hlt]
      unfold strings_IndexByte.f rtV
      rw [ix_u8, List.getElem?_eq_getElem hlt]
    exact ev_bindS ei h4
  · have hge : ¬ i < R.length := by rw [bs_size] at h; omega
    have ev : rtV R i = -1 := by unfold rtV; rw [List.getElem?_eq_none (by omega)]
    rw [ev] at h4
    exact h4
theorem readTerm_l0_ev (R : List UInt8) (hR : R.length ≤ 80) : ∀ (S : List UInt8) (i : Nat), R.drop i = S → i ≤ R.length → Ev (fun k => impl_readTerm.l0 k (bs R) (i : Int)) (rtAt R (i + rtN S))
  | [], i, hd, hi => by
    have : R.length ≤ i := by simpa using hd
    exact Ev.step (fun k => by rw [impl_readTerm.l0]) (ev_neg (by rw [bs_size]; omega) (readTerm_j3_ev R i hi hR))
  | b :: S, i, hd, hi => by
    have hlt : i < R.length := by
      rcases Nat.lt_or_ge i R.length with h | h
      · exact h
      · rw [List.drop_of_length_le h] at hd; cases hd
    rw [List.drop_eq_getElem_cons hlt] at hd
    obtain ⟨hb, hd⟩ := List.cons.inj hd
    have ebt : bt (bs R) (i : Int) = (b.toNat : Int) := by rw [bt_bs R i hlt, hb]
    have ih := readTerm_l0_ev R hR S (i + 1) hd (by omega)
    have hj := readTerm_j3_ev R i hi hR
    refine Ev.step (fun k => by rw [impl_readTerm.l0]) (ev_pos (by rw [bs_size]; omega) (ev_pos (by omega) ?_))
    rw [ebt]
    unfold rtN
    rw [List.takeWhile_cons]
    refine ev_ite (fun h1 => ev_ite (fun h2 => ?_) (fun h2 => ?_)) (fun h1 => ?_)
    · have e : isDig b = true := by unfold isDig; simp; omega
      rw [if_pos e, w64_succ (by omega)]
      have e2 : i + (b :: S.takeWhile isDig).length = i + 1 + rtN S := by unfold rtN; simp; omega
      rw [e2]
      exact ih
    · have e : ¬ isDig b = true := by unfold isDig; simp; omega
      rw [if_neg e]
      exact hj
    · have e : ¬ isDig b = true := by unfold isDig; simp; omega
      rw [if_neg e]
      exact hj
theorem readTerm_ev (R : List UInt8) (hR : R.length ≤ 80) : Ev (fun k => impl_readTerm.f k (bs R)) (rtAt R (rtI R)) := by
  unfold impl_readTerm.f
  have j1 : ∀ (i : Nat), i ≤ R.length → Ev (fun k => impl_readTerm.j1 k (bs R) (i : Int)) (rtAt R (i + rtN (R.drop i))) := fun i hi =>
    Ev.step (fun k => by rw [impl_readTerm.j1]) (readTerm_l0_ev R hR _ i rfl hi)
  cases R with
  | nil =>
    refine ev_neg (by rw [bs_size]; simp) ?_
    refine Ev.step (fun k => by rw [impl_readTerm.j0]) ?_
    exact ev_neg (by simp) (j1 0 (by simp))
  | cons b r =>
    have ebt : bt (bs (b :: r)) 0 = (b.toNat : Int) := bt_bs (b :: r) 0 (by simp)
    refine ev_pos (by rw [bs_size]; simp only [List.length_cons]; omega) ?_
    rw [ebt]
    have y : b = 43 ∨ b = 45 → Ev (fun k => impl_readTerm.j0 k (bs (b :: r)) 0 true) (rtAt (b :: r) (rtI (b :: r))) := fun h => by
      refine Ev.step (fun k => by rw [impl_readTerm.j0]) (ev_pos rfl ?_)
      have := j1 1 (by simp)
      rw [rtI_cons]
      rw [if_pos h, show wrap64 ((0 : Int) + 1) = 1 from by rw [w64 (by omega) (by omega)]; rfl]
      exact this
    refine ev_ite (fun h => ?_) (fun h => ?_)
    · have e : b = 43 := UInt8.toNat_inj.1 (by show b.toNat = 43; omega)
      exact y (.inl e)
    · by_cases h2 : b = 45
      · have e : ((b.toNat : Int) == 45) = true := by rw [h2]; rfl
        rw [e]
        exact y (.inr h2)
      · have e : ((b.toNat : Int) == 45) = false := beq_eq_false_iff_ne.2 (fun e => h2 (UInt8.toNat_inj.1 (by show b.toNat = 45; omega)))
        rw [e]
        refine Ev.step (fun k => by rw [impl_readTerm.j0]) (ev_neg (by simp) ?_)
        have := j1 0 (by simp)
        rw [rtI_cons]
        rw [if_neg (by rintro (h' | h'); rw [h'] at h; exact h rfl; exact h2 h')]
        rw [Nat.zero_add, List.drop_zero] at this
        exact this
/-- Reading digits behind a sign. -/
theorem rtN_dig (D rest : List UInt8) (h : digL D) (hr : ∀ b r, rest = b :: r → isDig b = false) : rtN (D ++ rest) = D.length := by
  unfold rtN
  induction D with
  | nil =>
    cases rest with
    | nil => rfl
    | cons b r => simp [hr b r rfl]
  | cons d D ih =>
    have hd := h d (by simp)
    have e : isDig d = true := by unfold isDig; simp; omega
    rw [List.cons_append, List.takeWhile_cons, if_pos e]
    simpa using ih (fun b hb => h b (by simp [hb]))
theorem rtI_sg (e : Bool) (n : Int) (D rest : List UInt8) (h : digL D) (hr : ∀ b r, rest = b :: r → isDig b = false ∧ b ≠ 43 ∧ b ≠ 45) : rtI (sgT e n ++ (D ++ rest)) = (sgT e n).length + D.length := by
  have hN := rtN_dig D rest h (fun b r he => (hr b r he).1)
  have h0 : rtI (D ++ rest) = D.length := by
    cases D with
    | nil =>
      cases rest with
      | nil => rfl
      | cons b r =>
        have hb := hr b r rfl
        rw [← hN]
        show rtI (b :: r) = rtN (b :: r)
        rw [rtI_cons]
        rw [if_neg (by rintro (h' | h'); exact hb.2.1 h'; exact hb.2.2 h')]
    | cons d D =>
      have hd := h d (by simp)
      rw [← hN]
      show rtI (d :: (D ++ rest)) = rtN (d :: (D ++ rest))
      rw [rtI_cons]
      rw [if_neg (by rintro (h' | h') <;> (rw [h'] at hd; exact absurd hd.1 (by decide)))]
  unfold sgT
  split
  · show rtI (45 :: (D ++ rest)) = _
    rw [rtI_cons]
    rw [if_pos (.inr rfl), hN]; simp
  · split
    · show rtI (43 :: (D ++ rest)) = _
      rw [rtI_cons]
      rw [if_pos (.inl rfl), hN]; simp
    · simpa using h0
theorem trim_sg (e : Bool) (n : Int) (D : List UInt8) (h : digL D) : Lib.trimPrefix (sgT e n ++ D) [43] = sgT false n ++ D := by
  have h0 : Lib.trimPrefix D [43] = D := by
    unfold Lib.trimPrefix Lib.hasPrefix
    cases D with
    | nil => rfl
    | cons d D =>
      have hd := h d (by simp)
      have : ¬ d = 43 := by rintro rfl; exact absurd hd.1 (by decide)
      have h2 : ((43 : UInt8) == d) = false := beq_eq_false_iff_ne.2 (fun e => this e.symm)
      simp [List.isPrefixOf, h2]
  unfold sgT
  by_cases hn : n < 0
  · rw [if_pos hn, if_pos hn]
    simp [Lib.trimPrefix, Lib.hasPrefix, List.isPrefixOf]
  · rw [if_neg hn, if_neg hn]
    cases e
    · simpa using h0
    · simp [Lib.trimPrefix, Lib.hasPrefix, List.isPrefixOf]
theorem nm_ix : ∀ i : Nat, i < 4 → Lib.indexByte [120, 121, 122, 116] (nmL i) = i ∧ isDig (nmL i) = false ∧ nmL i ≠ 43 ∧ nmL i ≠ 45 ∧ nmL i ≠ 60
  | 0, _ => by decide
  | 1, _ => by decide
  | 2, _ => by decide
  | 3, _ => by decide
  | n + 4, h => by omega
theorem rt_term (e : Bool) (n : Int) (i : Nat) (hi : i < 4) (hn : isNum n = true) (h0 : ¬ n = 0) (rest : List UInt8) :
    rtAt (sgT e n ++ (dgT n ++ nmL i :: rest)) (rtI (sgT e n ++ (dgT n ++ nmL i :: rest))) = (n, (i : Int), bs rest, true) := by
  obtain ⟨x1, x2, x3, x4, _⟩ := nm_ix i hi
  rw [rtI_sg e n (dgT n) (nmL i :: rest) (dgT_dig n) (by rintro b r he; obtain ⟨rfl, rfl⟩ := List.cons.inj he; exact ⟨x2, x3, x4⟩)]
  have ea : sgT e n ++ (dgT n ++ nmL i :: rest) = (sgT e n ++ dgT n) ++ nmL i :: rest := by simp
  have el : (sgT e n).length + (dgT n).length = (sgT e n ++ dgT n).length := by simp
  rw [ea, el]
  have ev : rtV ((sgT e n ++ dgT n) ++ nmL i :: rest) (sgT e n ++ dgT n).length = (i : Int) := by
    unfold rtV
    rw [List.getElem?_append_right (Nat.le_refl _), Nat.sub_self]
    exact x1
  have ek : ((sgT e n ++ dgT n) ++ nmL i :: rest).take (sgT e n ++ dgT n).length = sgT e n ++ dgT n := List.take_left
  have ed : ((sgT e n ++ dgT n) ++ nmL i :: rest).drop ((sgT e n ++ dgT n).length + 1) = rest := by
    rw [← List.drop_drop, List.drop_left]; rfl
  have eh : rtH (sgT false n ++ dgT n) = fmtL n := by
    rw [fmtL_sg]
    unfold dgT dgC
    rw [if_neg h0]
    by_cases h1 : n = 1
    · subst h1
      simp [sgT, rtH, digs_one]
    · by_cases h2 : n = -1
      · subst h2
        simp [sgT, rtH, digs_one]
      · rw [if_neg (by omega)]
        have hne := digs_ne (u := n.natAbs) (by omega)
        unfold rtH
        rw [if_neg]
        rintro (h | h)
        · simp at h; exact hne h.2
        · unfold sgT at h
          by_cases hneg : n < 0
          · rw [if_pos hneg] at h
            simp at h
            exact hne h
          · rw [if_neg hneg] at h
            simp only [Bool.false_eq_true, if_false, List.nil_append] at h
            have := digs_dig n.natAbs 45 (by rw [h]; simp)
            exact absurd this.1 (by decide)
  unfold rtAt
  rw [ev, if_pos (by omega), ek, ed, trim_sg e n (dgT n) (dgT_dig n), eh, pI_num hn]
theorem rt_const (e : Bool) (c : Int) (hc : isNum c = true) : rtAt (sgT e c ++ dgC c) (rtI (sgT e c ++ dgC c)) = (c, -1, bs [], true) := by
  have hi := rtI_sg e c (dgC c) [] (dgC_dig c) (by rintro b r he; cases he)
  rw [List.append_nil] at hi
  rw [hi]
  have el : (sgT e c).length + (dgC c).length = (sgT e c ++ dgC c).length := by simp
  rw [el]
  have ev : rtV (sgT e c ++ dgC c) (sgT e c ++ dgC c).length = -1 := by
    unfold rtV
    rw [List.getElem?_eq_none (Nat.le_refl _)]
  unfold rtAt
  rw [ev, if_neg (by omega), List.take_length, List.drop_length, trim_sg e c (dgC c) (dgC_dig c), ← fmtL_sg, pI_num hc]
theorem impl_end_ev (T : List UInt8) (d : Nat) (co : List Int) (c : Int) (s : Bool) (hl : co.length ≤ 1048576) : Ev (fun k => impl_ParseAtom.l0 k (bs T) (d : Int) (bs []) co c s) (if fmtAL co c s = T then (co, c, s, true) else noA) := by
  refine Ev.step (fun k => by rw [impl_ParseAtom.l0]) (ev_pos (bs_toList []) (Ev.bind (impl_FormatAtom_ev co c s hl) ?_))
  simp only [bs_toList]
  refine ev_ite (fun h => ?_) (fun h => ?_)
  · rw [if_pos h]; exact Ev.now _
  · rw [if_neg h]; exact Ev.now _
theorem impl_j3_fail (T : ByteArray) (d n v : Int) (rest : ByteArray) (b : Bool) (co : List Int) (c : Int) (s : Bool) (hb : b = true) : Ev (fun k => impl_ParseAtom.j3 k T d n v rest b co c s) noA := by
  refine Ev.step (fun k => by rw [impl_ParseAtom.j3]) ?_
  exact ev_pos hb (Ev.now _)
theorem impl_j3_var (T : ByteArray) (d n v : Int) (rest : ByteArray) (b : Bool) (co : List Int) (c : Int) (s : Bool) (hb : b = false) (hv : 0 ≤ v) (hl : v < (co.length : Int)) (r : List Int × Int × Bool × Bool) (h : Ev (fun k => impl_ParseAtom.l0 k T d rest (co.set v.toNat n) c s) r) :
    Ev (fun k => impl_ParseAtom.j3 k T d n v rest b co c s) r := by
  refine Ev.step (fun k => by rw [impl_ParseAtom.j3]) ?_
  exact ev_neg (by simp [hb]) (ev_pos hv (ev_pos hv (ev_pos hl h)))
theorem impl_j3_const (T : ByteArray) (d n v : Int) (rest : ByteArray) (b : Bool) (co : List Int) (c : Int) (s : Bool) (hb : b = false) (hv : ¬ 0 ≤ v) (r : List Int × Int × Bool × Bool) (h : Ev (fun k => impl_ParseAtom.l0 k T d rest co n s) r) :
    Ev (fun k => impl_ParseAtom.j3 k T d n v rest b co c s) r := by
  refine Ev.step (fun k => by rw [impl_ParseAtom.j3]) ?_
  exact ev_neg (by simp [hb]) (ev_neg hv h)
theorem impl_step_ev (T R : List UInt8) (d : Nat) (co : List Int) (c : Int) (s : Bool) (hR : R.length ≤ 80) (hne : R ≠ []) (n v : Int) (rest : ByteArray) (b : Bool) (ht : rtAt R (rtI R) = (n, v, rest, b)) (r : List Int × Int × Bool × Bool)
    (h : Ev (fun k => impl_ParseAtom.j3 k (bs T) (d : Int) n v rest (if b = true then decide (v ≥ (d : Int)) else true) co c s) r) : Ev (fun k => impl_ParseAtom.l0 k (bs T) (d : Int) (bs R) co c s) r := by
  have hr := readTerm_ev R hR
  rw [ht] at hr
  refine Ev.step (fun k => by rw [impl_ParseAtom.l0]) (ev_neg (by rw [bs_toList]; exact hne) (Ev.bind hr (ev_ite (fun hb => ?_) (fun hb => ?_))))
  · rw [if_pos hb] at h; exact h
  · rw [if_neg hb] at h; exact h
theorem impl_ParseAtom_go (T : List UInt8) (d : Nat) (hd : d ≤ 4) (c : Int) (hc : isNum c = true) (s : Bool) (r : List Int × Int × Bool × Bool) : ∀ (ns : List Int) (i : Nat) (e : Bool) (pre : List Int), pre.length = i → i + ns.length = d → (∀ x ∈ ns, isNum x = true) → (tailL ns i e c).length ≤ 80 →
    Ev (fun k => impl_ParseAtom.l0 k (bs T) (d : Int) (bs []) (pre ++ ns) c s) r → Ev (fun k => impl_ParseAtom.l0 k (bs T) (d : Int) (bs (tailL ns i e c)) (pre ++ List.replicate ns.length 0) 0 s) r
  | [], i, e, pre, hp, hi, hn, hT, h => by
    unfold tailL at hT ⊢
    by_cases h0 : c = 0 ∧ e = true
    · rw [if_pos h0, ← h0.1]; simpa using h
    · rw [if_neg h0] at hT ⊢
      refine impl_step_ev T _ d _ _ s hT (by have := dgC_ne c; simp [this]) _ _ _ _ (rt_const e c hc) r ?_
      refine Ev.step (fun k => by rw [impl_ParseAtom.j3]) (ev_neg (by simp; omega) (ev_neg (by omega) ?_))
      simpa using h
  | n :: ns, i, e, pre, hp, hi, hn, hT, h => by
    unfold tailL at hT ⊢
    by_cases h0 : n = 0
    · rw [if_pos h0] at hT ⊢
      subst h0
      have := impl_ParseAtom_go T d hd c hc s r ns (i + 1) e (pre ++ [0]) (by simp; omega) (by simp at hi; omega) (fun x hx => hn x (by simp [hx])) hT (by simpa using h)
      rw [List.append_assoc] at this
      exact this
    · rw [if_neg h0] at hT ⊢
      simp only [List.length_cons] at hi
      refine impl_step_ev T _ d _ _ s hT (by simp) _ _ _ _ (rt_term e n i (by omega) (hn n (by simp)) h0 _) r ?_
      have hlen : (tailL ns (i + 1) true c).length ≤ 80 := by simp at hT; omega
      have := impl_ParseAtom_go T d hd c hc s r ns (i + 1) true (pre ++ [n]) (by simp; omega) (by omega) (fun x hx => hn x (by simp [hx])) hlen (by simpa using h)
      refine Ev.step (fun k => by rw [impl_ParseAtom.j3]) (ev_neg (by simp; omega) (ev_pos (by omega) (ev_pos (by omega) (ev_pos (by simp; omega) ?_))))
      rw [Int.toNat_natCast]
      have es : (pre ++ List.replicate (ns.length + 1) 0).set i n = pre ++ [n] ++ List.replicate ns.length 0 := by
        rw [List.set_append_right _ _ (by omega), show i - pre.length = 0 by omega, List.replicate_succ]
        simp
      rw [List.length_cons, es]
      exact this
theorem cut1 (B : List UInt8) : Lib.hasSuffix (B ++ endL true) [60, 48] = true ∧ Lib.trimSuffix (B ++ endL true) [60, 48] = B := by
  have h : Lib.hasSuffix (B ++ endL true) [60, 48] = true := by
    unfold Lib.hasSuffix; rw [List.isSuffixOf_iff_suffix]; exact List.suffix_append _ _
  refine ⟨h, ?_⟩
  unfold Lib.trimSuffix
  rw [if_pos h]
  simp [endL]
theorem cut2 (B : List UInt8) : Lib.hasSuffix (B ++ endL false) [60, 48] = false ∧ Lib.hasSuffix (B ++ endL false) [60, 61, 48] = true ∧ Lib.trimSuffix (B ++ endL false) [60, 61, 48] = B := by
  have h : Lib.hasSuffix (B ++ endL false) [60, 61, 48] = true := by
    unfold Lib.hasSuffix; rw [List.isSuffixOf_iff_suffix]; exact List.suffix_append _ _
  refine ⟨?_, h, ?_⟩
  · rw [Bool.eq_false_iff]
    intro hc
    unfold Lib.hasSuffix at hc
    rw [List.isSuffixOf_iff_suffix] at hc
    obtain ⟨t, ht⟩ := hc
    have e := congrArg List.reverse ht
    simp [endL] at e
  · unfold Lib.trimSuffix
    rw [if_pos h]
    simp [endL]
theorem cutS_eq (T p : List UInt8) (h : T.length ≤ 80) : strings_CutSuffix.f (bs T) (bs p) = some (bs (Lib.trimSuffix T p), Lib.hasSuffix T p) := by
  unfold strings_CutSuffix.f
  rw [if_pos (by rw [bs_size]; omega)]
  rfl
theorem impl_ParseAtom_num {l : List Int} {c : Int} (s : Bool) (h : isAt l c = true) : Ev (fun k => impl_ParseAtom.f k (bs (fmtAL l c s)) (l.length : Int)) (l, c, s, true) := by
  obtain ⟨h4, hc, hx, _⟩ := isAt_iff.1 h
  have h80 := fmtAL_len57 (l := l) (c := c) s
  have hfin := impl_end_ev (fmtAL l c s) l.length l c s (by omega)
  rw [if_pos rfl] at hfin
  have et := fmtAL_tail s h
  have hT : (tailL l 0 false c).length ≤ 80 := by rw [et] at h80; simp at h80; omega
  have hgo := impl_ParseAtom_go (fmtAL l c s) l.length h4 c hc s (l, c, s, true) l 0 false [] rfl (by omega) hx hT (by simpa using hfin)
  unfold impl_ParseAtom.f
  have e80 : decide (((bs (fmtAL l c s)).size : Int) > 80) = false := by rw [bs_size]; simp; omega
  rw [e80]
  have j1 : Ev (fun k => impl_ParseAtom.j1 k (bs (fmtAL l c s)) (l.length : Int) (bs (tailL l 0 false c)) s (List.replicate l.length 0) 0 false) (l, c, s, true) :=
    Ev.step (fun k => by rw [impl_ParseAtom.j1]) (by simpa using hgo)
  have c1 := cutS_eq (fmtAL l c s) [60, 48] h80
  have c2 := cutS_eq (fmtAL l c s) [60, 61, 48] h80
  refine ev_neg (by omega) (ev_neg (by omega) (Ev.step (fun k => by rw [impl_ParseAtom.j0]) (ev_neg (by simp) (ev_pos (by omega) (ev_pos (by omega) ?_)))))
  rw [Int.toNat_natCast]
  simp only [Option.bind_some]
  cases s with
  | true =>
    have k1 := cut1 (tailL l 0 false c)
    rw [← et] at k1
    rw [k1.1, k1.2] at c1
    exact ev_bindS c1 (ev_pos rfl j1)
  | false =>
    have k2 := cut2 (tailL l 0 false c)
    rw [← et] at k2
    rw [k2.1] at c1
    rw [k2.2.1, k2.2.2] at c2
    exact ev_bindS c1 (ev_neg (by simp) (ev_bindS c2 (ev_pos rfl j1)))
theorem impl_ParseAtom_rest (T : List UInt8) (d : Nat) (hd : d ≤ 4) (s : Bool) : ∀ (N : Nat) (R : List UInt8) (co : List Int) (c : Int), R.length ≤ N → R.length ≤ 80 → co.length = d → ∃ r, Ev (fun k => impl_ParseAtom.l0 k (bs T) (d : Int) (bs R) co c s) r ∧ PAt T d r := by
  intro N
  induction N with
  | zero =>
    intro R co c hN hR hco
    obtain rfl : R = [] := List.eq_nil_of_length_eq_zero (by omega)
    refine ⟨_, impl_end_ev T d co c s (by omega), ?_⟩
    split
    · rename_i h; exact .inr ⟨co, c, s, rfl, hco, h⟩
    · exact .inl rfl
  | succ N ih =>
    intro R co c hN hR hco
    by_cases hne : R = []
    · subst hne
      refine ⟨_, impl_end_ev T d co c s (by omega), ?_⟩
      split
      · rename_i h; exact .inr ⟨co, c, s, rfl, hco, h⟩
      · exact .inl rfl
    · have hv := rtV_bd R (rtI R)
      have st := impl_step_ev T R d co c s hR hne
      unfold rtAt at st
      by_cases h0 : 0 ≤ rtV R (rtI R)
      · have hlt := rtV_lt h0
        rw [if_pos h0] at st
        have st := st _ _ _ _ rfl
        by_cases hok : (pI (rtH (Lib.trimPrefix (R.take (rtI R)) [43]))).2 = true
        · by_cases hd2 : rtV R (rtI R) ≥ (d : Int)
          · refine ⟨noA, st _ (impl_j3_fail _ _ _ _ _ _ _ _ _ (by rw [if_pos hok]; simpa using hd2)), .inl rfl⟩
          · obtain ⟨r, hr, hp⟩ := ih (R.drop (rtI R + 1)) (co.set (rtV R (rtI R)).toNat (pI (rtH (Lib.trimPrefix (R.take (rtI R)) [43]))).1) c (by rw [List.length_drop]; omega) (by rw [List.length_drop]; omega) (by rw [List.length_set]; exact hco)
            exact ⟨r, st _ (impl_j3_var _ _ _ _ _ _ _ _ _ (by rw [if_pos hok]; simpa using hd2) h0 (by omega) _ hr), hp⟩
        · exact ⟨noA, st _ (impl_j3_fail _ _ _ _ _ _ _ _ _ (by rw [if_neg hok])), .inl rfl⟩
      · rw [if_neg h0] at st
        have st := st _ _ _ _ rfl
        by_cases hok : (pI (Lib.trimPrefix (R.take (rtI R)) [43])).2 = true
        · have hpos : 0 < rtI R := by
            rcases Nat.eq_zero_or_pos (rtI R) with h | h
            · rw [h] at hok
              have : Lib.trimPrefix (R.take 0) [43] = [] := by simp [Lib.trimPrefix]
              rw [this, pI_nil] at hok
              cases hok
            · exact h
          have hRl : 0 < R.length := List.length_pos_iff.2 hne
          obtain ⟨r, hr, hp⟩ := ih (R.drop (rtI R)) co (pI (Lib.trimPrefix (R.take (rtI R)) [43])).1 (by rw [List.length_drop]; omega) (by rw [List.length_drop]; omega) hco
          exact ⟨r, st _ (impl_j3_const _ _ _ _ _ _ _ _ _ (by rw [if_pos hok]; simp; omega) (by omega) _ hr), hp⟩
        · exact ⟨noA, st _ (impl_j3_fail _ _ _ _ _ _ _ _ _ (by rw [if_neg hok])), .inl rfl⟩
theorem impl_ParseAtom_any (T : List UInt8) (d : Nat) (hd : d ≤ 4) (h80 : T.length ≤ 80) : ∃ r, Ev (fun k => impl_ParseAtom.f k (bs T) (d : Int)) r ∧ PAt T d r ∧ (Lib.hasSuffix T [60, 48] = false → Lib.hasSuffix T [60, 61, 48] = false → r = noA) := by
  unfold impl_ParseAtom.f
  have e80 : decide (((bs T).size : Int) > 80) = false := by rw [bs_size]; simp; omega
  rw [e80]
  have c1 := cutS_eq T [60, 48] h80
  have c2 := cutS_eq T [60, 61, 48] h80
  have pre : ∀ {r}, Ev (fun k => (strings_CutSuffix.f (bs T) (⟨#[60, 48]⟩ : ByteArray)).bind fun bt194 => (if bt194.2 = true then (impl_ParseAtom.j1 k (bs T) (d : Int) bt194.1 bt194.2 (List.replicate d 0) 0 false) else ((strings_CutSuffix.f (bs T) (⟨#[60, 61, 48]⟩ : ByteArray)).bind fun bt196 => (if bt196.2 = true then (impl_ParseAtom.j1 k (bs T) (d : Int) bt196.1 bt194.2 (List.replicate d 0) 0 false) else (some (([] : List Int), 0, false, false)))))) r →
      Ev (fun k => if (d : Int) < 0 then (impl_ParseAtom.j0 k (bs T) (d : Int) true) else (if (d : Int) > 4 then (impl_ParseAtom.j0 k (bs T) (d : Int) true) else (impl_ParseAtom.j0 k (bs T) (d : Int) false))) r := fun {r} h => by
    refine ev_neg (by omega) (ev_neg (by omega) (Ev.step (fun k => by rw [impl_ParseAtom.j0]) (ev_neg (by simp) (ev_pos (by omega) (ev_pos (by omega) ?_)))))
    rw [Int.toNat_natCast]
    exact h
  have tl : ∀ p, (Lib.trimSuffix T p).length ≤ 80 := by
    intro p
    unfold Lib.trimSuffix
    split
    · rw [List.length_take]; omega
    · exact h80
  by_cases h1 : Lib.hasSuffix T [60, 48] = true
  · obtain ⟨r, hr, hp⟩ := impl_ParseAtom_rest T d hd true 80 (Lib.trimSuffix T [60, 48]) (List.replicate d 0) 0 (tl _) (tl _) (by simp)
    rw [h1] at c1
    exact ⟨r, pre (ev_bindS c1 (ev_pos rfl (Ev.step (fun k => by rw [impl_ParseAtom.j1]) hr))), hp, fun e _ => by rw [h1] at e; cases e⟩
  · rw [Bool.eq_false_iff.2 h1] at c1
    by_cases h2 : Lib.hasSuffix T [60, 61, 48] = true
    · obtain ⟨r, hr, hp⟩ := impl_ParseAtom_rest T d hd false 80 (Lib.trimSuffix T [60, 61, 48]) (List.replicate d 0) 0 (tl _) (tl _) (by simp)
      rw [h2] at c2
      exact ⟨r, pre (ev_bindS c1 (ev_neg (by simp) (ev_bindS c2 (ev_pos rfl (Ev.step (fun k => by rw [impl_ParseAtom.j1]) hr))))), hp, fun _ e => by rw [h2] at e; cases e⟩
    · rw [Bool.eq_false_iff.2 h2] at c2
      exact ⟨noA, pre (ev_bindS c1 (ev_neg (by simp) (ev_bindS c2 (ev_neg (by simp) (Ev.now _))))), .inl rfl, fun _ _ => rfl⟩
theorem impl_ParseAtom_out (T : List UInt8) (d : Int) (h : d < 0 ∨ 4 < d ∨ 80 < T.length) : Ev (fun k => impl_ParseAtom.f k (bs T) d) noA := by
  unfold impl_ParseAtom.f
  have j : ∀ b, b = true → Ev (fun k => impl_ParseAtom.j0 k (bs T) d b) noA := fun b hb => by
    refine Ev.step (fun k => by rw [impl_ParseAtom.j0]) ?_
    exact ev_pos hb (Ev.now _)
  refine ev_ite (fun _ => j _ rfl) (fun h1 => ev_ite (fun _ => j _ rfl) (fun h2 => j _ ?_))
  rw [bs_size]; simp; omega
def vGo (b : UInt8) : Nat → Nat → Int → Int
  | 0, _, v => v
  | m + 1, j, v => vGo b m (j + 1) (if b = nmL j then (j : Int) else v)
abbrev PSt := Int × Int × Bool × List Int × Int
/-- The reader's state behind a byte. -/
def stS (d : Nat) (b : UInt8) (t : PSt) : PSt :=
  if b = 43 ∨ b = 45 then (0, if b = 45 then -1 else 1, false, t.2.2.2.1, if t.2.2.1 = true then wrap64 (t.2.1 * t.1) else t.2.2.2.2)
  else if isDig b = true then (mn (wrap64 (wrap64 (t.1 * 10) + ((b.toNat : Int) - 48) % 256)) 800000000, t.2.1, true, t.2.2.2.1, t.2.2.2.2)
  else if 0 ≤ vGo b d 0 (-1) then (0, t.2.1, false, t.2.2.2.1.set (vGo b d 0 (-1)).toNat (wrap64 (t.2.1 * (if t.2.2.1 = true then t.1 else 1))), t.2.2.2.2)
  else t
def goS (d : Nat) : List UInt8 → PSt → PSt
  | [], t => t
  | b :: R, t => if b = 60 then t else goS d R (stS d b t)
def cFin (t : PSt) : Int := if t.2.2.1 = true then wrap64 (t.2.1 * t.1) else t.2.2.2.2
def sOf (T : List UInt8) : Bool := if 2 < T.length then (bt (bs T) ((T.length : Int) - 2) == 60) else false
def finS (T : List UInt8) (t : PSt) : List Int × Int × Bool × Bool := if fmtAL t.2.2.2.1 (cFin t) (sOf T) = T then (t.2.2.2.1, cFin t, sOf T, true) else noA
theorem vGo_bd (b : UInt8) (d : Nat) : ∀ (m j : Nat) (v : Int), j + m = d → -1 ≤ v → v < d → -1 ≤ vGo b m j v ∧ vGo b m j v < d
  | 0, j, v, _, h0, h1 => ⟨h0, h1⟩
  | m + 1, j, v, hj, h0, h1 => vGo_bd b d m (j + 1) _ (by omega) (by split <;> omega) (by split <;> omega)
theorem spec_fin_ev (T : List UInt8) (hT : T.length ≤ 80) (d n sg : Int) (dg : Bool) (i : Int) (co : List Int) (c : Int) (hl : co.length ≤ 1048576) (x : Bool) (hx : x = false) :
    Ev (fun k => spec_ParseAtom.j2 k (bs T) d n sg dg i x co c false) (finS T (n, sg, dg, co, c)) := by
  subst hx
  refine Ev.step (fun k => by rw [spec_ParseAtom.j2]) ?_
  refine ev_neg (by simp) ?_
  have key : ∀ (c' : Int) (s' : Bool), Ev (fun k => (spec_FormatAtom.f k co c' s').bind fun t => if t.toList = (bs T).toList then some (co, c', s', true) else some (([] : List Int), 0, false, false)) (if fmtAL co c' s' = T then (co, c', s', true) else noA) := fun c' s' => by
    refine Ev.bind (spec_FormatAtom_ev co c' s' hl) ?_
    simp only [bs_toList]
    refine ev_ite (fun h => ?_) (fun h => ?_)
    · rw [if_pos h]; exact Ev.now _
    · rw [if_neg h]; exact Ev.now _
  have both : ∀ c', Ev (fun k => if ((bs T).size : Int) > 2 then (if 0 ≤ (wrap64 (((bs T).size : Int) - 2)) then (if (wrap64 (((bs T).size : Int) - 2)) < ((bs T).size : Int) then ((spec_FormatAtom.f k co c' ((bt (bs T) (wrap64 (((bs T).size : Int) - 2))) == 60)).bind fun t => if t.toList = (bs T).toList then some (co, c', ((bt (bs T) (wrap64 (((bs T).size : Int) - 2))) == 60), true) else some (([] : List Int), 0, false, false)) else none) else none) else ((spec_FormatAtom.f k co c' false).bind fun t => if t.toList = (bs T).toList then some (co, c', false, true) else some (([] : List Int), 0, false, false))) (if fmtAL co c' (sOf T) = T then (co, c', sOf T, true) else noA) := fun c' => by
    have hw : wrap64 (((bs T).size : Int) - 2) = (T.length : Int) - 2 := by rw [bs_size, w64 (by omega) (by omega)]
    rw [hw]
    unfold sOf
    refine ev_ite (fun h => ?_) (fun h => ?_)
    · have h2 : 2 < T.length := by rw [bs_size] at h; omega
      rw [if_pos h2]
      exact ev_pos (by omega) (ev_pos (by rw [bs_size]; omega) (key _ _))
    · have h2 : ¬ 2 < T.length := by rw [bs_size] at h; omega
      rw [if_neg h2]
      exact key _ _
  unfold finS cFin
  refine ev_ite (fun h => ?_) (fun h => ?_)
  · simp only [h, if_true]
    exact both _
  · simp only [h, if_false]
    exact both _
theorem nm_bt (j : Nat) (h : j < 4) : bt (⟨#[120, 121, 122, 116]⟩ : ByteArray) (j : Int) = ((nmL j).toNat : Int) := by
  have := bt_bs [120, 121, 122, 116] j (by simpa using h)
  refine this.trans ?_
  match j, h with
  | 0, _ => rfl
  | 1, _ => rfl
  | 2, _ => rfl
  | 3, _ => rfl
theorem spec_l1_ev (T : List UInt8) (hT : T.length ≤ 80) (d : Nat) (hd : d ≤ 4) (n sg : Int) (dg : Bool) (co : List Int) (c : Int) (i : Nat) (hi : i < T.length) (b : UInt8) (hb : T[i] = b) (V : Int) (r : List Int × Int × Bool × Bool)
    (h : Ev (fun k => spec_ParseAtom.j4 k (bs T) (d : Int) n sg dg (i : Int) V (decide (b = 43 ∨ b = 45)) co c false) r) :
    ∀ (m j : Nat) (v : Int), j + m = d → vGo b m j v = V → Ev (fun k => spec_ParseAtom.l1 k (bs T) (d : Int) n sg dg (i : Int) v (j : Int) co c false) r
  | 0, j, v, hj, hv => by
    have ebt : bt (bs T) (i : Int) = (b.toNat : Int) := by rw [bt_bs T i hi, hb]
    obtain rfl : v = V := hv
    refine Ev.step (fun k => by rw [spec_ParseAtom.l1]) ?_
    refine ev_neg (by omega) (ev_pos (by omega) (ev_pos (by rw [bs_size]; omega) ?_))
    rw [ebt]
    refine ev_ite (fun h1 => ?_) (fun h1 => ?_)
    · have e : b = 43 := UInt8.toNat_inj.1 (by show b.toNat = 43; omega)
      rw [decide_eq_true (Or.inl e : b = 43 ∨ b = 45)] at h
      exact h
    · have e : ((b.toNat : Int) == 45) = decide (b = 43 ∨ b = 45) := by
        rw [Bool.eq_iff_iff]
        simp only [beq_iff_eq, decide_eq_true_eq]
        constructor
        · intro h2; exact .inr (UInt8.toNat_inj.1 (by show b.toNat = 45; omega))
        · rintro (rfl | rfl)
          · exact absurd rfl h1
          · rfl
      rw [e]; exact h
  | m + 1, j, v, hj, hv => by
    have ebt : bt (bs T) (i : Int) = (b.toNat : Int) := by rw [bt_bs T i hi, hb]
    have hv2 : vGo b m (j + 1) (if b = nmL j then (j : Int) else v) = V := hv
    have ih := spec_l1_ev T hT d hd n sg dg co c i hi b hb V r h m (j + 1) _ (by omega) hv2
    refine Ev.step (fun k => by rw [spec_ParseAtom.l1]) ?_
    refine ev_pos (by omega) (ev_pos (by omega) (ev_pos (by rw [bs_size]; omega) (ev_pos (by omega) (ev_pos (by omega) ?_))))
    rw [ebt, nm_bt j (by omega), w64_succ (by omega)]
    refine ev_ite (fun h1 => ?_) (fun h1 => ?_)
    · rw [if_pos (UInt8.toNat_inj.1 (by omega))] at ih; exact ih
    · rw [if_neg (fun e => h1 (by rw [e]))] at ih; exact ih
theorem stS_len (d : Nat) (b : UInt8) (t : PSt) : (stS d b t).2.2.2.1.length = t.2.2.2.1.length := by
  unfold stS; split
  · rfl
  · split
    · rfl
    · split
      · simp
      · rfl
theorem spec_j4_ev (T : List UInt8) (hT : T.length ≤ 80) (d : Nat) (hd : d ≤ 4) (n sg : Int) (dg : Bool) (co : List Int) (c : Int) (i : Nat) (hi : i < T.length) (b : UInt8) (hb : T[i] = b) (hco : co.length = d) (r : List Int × Int × Bool × Bool)
    (h : ∀ t, t = stS d b (n, sg, dg, co, c) → Ev (fun k => spec_ParseAtom.l0 k (bs T) (d : Int) t.1 t.2.1 t.2.2.1 ((i + 1 : Nat) : Int) t.2.2.2.1 t.2.2.2.2 false) r) :
    Ev (fun k => spec_ParseAtom.j4 k (bs T) (d : Int) n sg dg (i : Int) (vGo b d 0 (-1)) (decide (b = 43 ∨ b = 45)) co c false) r := by
  have ebt : bt (bs T) (i : Int) = (b.toNat : Int) := by rw [bt_bs T i hi, hb]
  have hs := bs_size T
  have h1 := h _ rfl
  clear h
  unfold stS at h1
  refine Ev.step (fun k => by rw [spec_ParseAtom.j4]) ?_
  rw [ebt, w64_succ (by omega)]
  by_cases hsg : b = 43 ∨ b = 45
  · rw [if_pos hsg] at h1
    refine ev_pos (decide_eq_true hsg) ?_
    refine ev_ite (fun hdg => ?_) (fun hdg => ?_)
    · simp only [hdg, if_true] at h1
      refine ev_pos (by omega) (ev_pos (by omega) (ev_ite (fun h45 => ?_) (fun h45 => ?_)))
      · have e : b = 45 := UInt8.toNat_inj.1 (by show b.toNat = 45; omega)
        simp only [e, if_true] at h1
        exact h1
      · have e : ¬ b = 45 := fun e => h45 (by rw [e]; rfl)
        simp only [e, if_false] at h1
        exact h1
    · simp only [hdg, if_false] at h1
      refine ev_pos (by omega) (ev_pos (by omega) (ev_ite (fun h45 => ?_) (fun h45 => ?_)))
      · have e : b = 45 := UInt8.toNat_inj.1 (by show b.toNat = 45; omega)
        simp only [e, if_true] at h1
        exact h1
      · have e : ¬ b = 45 := fun e => h45 (by rw [e]; rfl)
        simp only [e, if_false] at h1
        exact h1
  · rw [if_neg hsg] at h1
    refine ev_neg (by simpa using hsg) (ev_pos (by omega) (ev_pos (by omega) ?_))
    have no : isDig b = false → ∀ x, x = false → Ev (fun k => spec_ParseAtom.j5 k (bs T) (d : Int) n sg dg (i : Int) (vGo b d 0 (-1)) x co c false) r := fun hdig x hx => by
      subst hx
      rw [if_neg (by rw [hdig]; simp)] at h1
      have hv := vGo_bd b d d 0 (-1) (by omega) (by omega) (by omega)
      refine Ev.step (fun k => by rw [spec_ParseAtom.j5]) ?_
      rw [w64_succ (by omega)]
      refine ev_neg (by simp) (ev_ite (fun h0 => ?_) (fun h0 => ?_))
      · rw [if_pos h0] at h1
        refine ev_ite (fun hdg => ?_) (fun hdg => ?_)
        · simp only [hdg, if_true] at h1
          exact ev_pos (by omega) (ev_pos (by omega) h1)
        · simp only [hdg, if_false] at h1
          exact ev_pos (by omega) (ev_pos (by omega) h1)
      · rw [if_neg h0] at h1
        exact h1
    refine ev_ite (fun h48 => ?_) (fun h48 => ?_)
    · by_cases h57 : b.toNat ≤ 57
      · have e : isDig b = true := by unfold isDig; simp; omega
        rw [if_pos e] at h1
        refine Ev.step (fun k => by rw [spec_ParseAtom.j5]) ?_
        rw [w64_succ (by omega), ebt]
        exact ev_pos (decide_eq_true (by omega)) (ev_pos (by omega) (ev_pos (by omega) h1))
      · exact no (by unfold isDig; simp; omega) _ (decide_eq_false (by omega))
    · exact no (by unfold isDig; simp; omega) _ rfl
theorem spec_l0_ev (T : List UInt8) (hT : T.length ≤ 80) (d : Nat) (hd : d ≤ 4) : ∀ (R : List UInt8) (i : Nat) (t : PSt), T.drop i = R → i ≤ T.length → t.2.2.2.1.length = d →
    Ev (fun k => spec_ParseAtom.l0 k (bs T) (d : Int) t.1 t.2.1 t.2.2.1 (i : Int) t.2.2.2.1 t.2.2.2.2 false) (finS T (goS d R t))
  | [], i, t, hR, hi, hco => by
    have : T.length ≤ i := by simpa using hR
    refine Ev.step (fun k => by rw [spec_ParseAtom.l0]) ?_
    exact ev_neg (by rw [bs_size]; omega) (spec_fin_ev T hT _ _ _ _ _ _ _ (by omega) _ rfl)
  | b :: R, i, t, hR, hi, hco => by
    have hlt : i < T.length := by
      rcases Nat.lt_or_ge i T.length with h | h
      · exact h
      · rw [List.drop_of_length_le h] at hR; cases hR
    rw [List.drop_eq_getElem_cons hlt] at hR
    obtain ⟨hb, hR⟩ := List.cons.inj hR
    have ebt : bt (bs T) (i : Int) = (b.toNat : Int) := by rw [bt_bs T i hlt, hb]
    refine Ev.step (fun k => by rw [spec_ParseAtom.l0]) ?_
    refine ev_pos (by rw [bs_size]; omega) (ev_pos (by omega) ?_)
    rw [ebt]
    unfold goS
    by_cases h60 : b = 60
    · rw [if_pos h60]
      exact spec_fin_ev T hT _ _ _ _ _ _ _ (by omega) _ (by rw [h60]; rfl)
    · rw [if_neg h60]
      have e : ((b.toNat : Int) != 60) = true := bne_iff_ne.2 (fun e => h60 (UInt8.toNat_inj.1 (by show b.toNat = 60; omega)))
      rw [e]
      refine Ev.step (fun k => by rw [spec_ParseAtom.j2]) ?_
      refine ev_pos rfl (spec_l1_ev T hT d hd _ _ _ _ _ i hlt b hb (vGo b d 0 (-1)) _ ?_ d 0 (-1) (by omega) rfl)
      refine spec_j4_ev T hT d hd _ _ _ _ _ i hlt b hb hco _ (fun t' ht' => ?_)
      have := spec_l0_ev T hT d hd R (i + 1) t' hR (by omega) (by rw [ht', stS_len]; exact hco)
      rw [ht'] at this ⊢
      exact this
theorem spec_ParseAtom_ev (T : List UInt8) (d : Nat) (hd : d ≤ 4) (hT : T.length ≤ 80) : Ev (fun k => spec_ParseAtom.f k (bs T) (d : Int)) (finS T (goS d T (0, 1, false, List.replicate d 0, 0))) := by
  unfold spec_ParseAtom.f
  rw [spec_l1In_eq]
  have e80 : decide (((bs T).size : Int) > 80) = false := by rw [bs_size]; simp; omega
  rw [e80]
  refine ev_bindS rfl (ev_pos (by simp; omega) ?_)
  refine Ev.step (fun k => by rw [spec_ParseAtom.j0]) ?_
  refine ev_neg (by simp) (ev_pos (by omega) (ev_pos (by omega) ?_))
  rw [Int.toNat_natCast]
  exact spec_l0_ev T hT d hd T 0 (0, 1, false, List.replicate d 0, 0) rfl (by omega) (by simp)
theorem spec_ParseAtom_out (T : List UInt8) (d : Int) (h : d < 0 ∨ 4 < d ∨ 80 < T.length) : Ev (fun k => spec_ParseAtom.f k (bs T) d) noA := by
  unfold spec_ParseAtom.f
  rw [spec_l1In_eq]
  have j : ∀ b, b = true → Ev (fun k => spec_ParseAtom.j0 k (bs T) d b) noA := fun b hb => by
    refine Ev.step (fun k => by rw [spec_ParseAtom.j0]) ?_
    exact ev_pos hb (Ev.now _)
  refine ev_bindS rfl (ev_ite (fun h1 => j _ ?_) (fun _ => j _ rfl))
  simp at h1
  rw [bs_size]; simp; omega
theorem spec_ParseAtom_any (T : List UInt8) (d : Nat) (hd : d ≤ 4) (hT : T.length ≤ 80) : ∃ r, Ev (fun k => spec_ParseAtom.f k (bs T) (d : Int)) r ∧ PAt T d r := by
  refine ⟨_, spec_ParseAtom_ev T d hd hT, ?_⟩
  have hlen : ∀ (R : List UInt8) (t : PSt), (goS d R t).2.2.2.1.length = t.2.2.2.1.length := by
    intro R
    induction R with
    | nil => intro t; rfl
    | cons b R ih => intro t; unfold goS; split; rfl; rw [ih, stS_len]
  unfold finS
  split
  · rename_i h; exact .inr ⟨_, _, _, rfl, by rw [hlen]; simp, h⟩
  · exact .inl rfl
theorem valL_le : ∀ (D : List UInt8) (a : Nat), a ≤ valL a D
  | [], a => Nat.le_refl _
  | b :: D, a => Nat.le_trans (by omega) (valL_le D (a * 10 + (b.toNat - 48)))
theorem stS_dig (d : Nat) (b : UInt8) (m : Nat) (sg : Int) (dg : Bool) (co : List Int) (c0 : Int) (hb : 48 ≤ b.toNat ∧ b.toNat ≤ 57) (hm : m * 10 + (b.toNat - 48) ≤ 400000000) :
    stS d b ((m : Int), sg, dg, co, c0) = (((m * 10 + (b.toNat - 48) : Nat) : Int), sg, true, co, c0) := by
  have e1 : ¬ (b = 43 ∨ b = 45) := by rintro (rfl | rfl) <;> exact absurd hb.1 (by decide)
  have e2 : isDig b = true := by unfold isDig; simp; omega
  unfold stS
  rw [if_neg e1, if_pos e2]
  have e3 : mn (wrap64 (wrap64 ((m : Int) * 10) + ((b.toNat : Int) - 48) % 256)) 800000000 = ((m * 10 + (b.toNat - 48) : Nat) : Int) := by
    rw [w64 (a := (m : Int) * 10) (by omega) (by omega), w64 (by omega) (by omega)]
    unfold mn
    split <;> omega
  rw [e3]
theorem spec_dig (d : Nat) (R : List UInt8) (sg : Int) (co : List Int) (c0 : Int) : ∀ (D : List UInt8) (m : Nat) (dg : Bool), digL D → valL m D ≤ 400000000 →
    goS d (D ++ R) ((m : Int), sg, dg, co, c0) = goS d R (((valL m D : Nat) : Int), sg, dg || !D.isEmpty, co, c0)
  | [], m, dg, _, _ => by simp [valL]
  | b :: D, m, dg, h, hv => by
    have hb := h b (by simp)
    have h60 : ¬ b = 60 := by rintro rfl; exact absurd hb.2 (by decide)
    have hle := valL_le D (m * 10 + (b.toNat - 48))
    have hv2 : valL (m * 10 + (b.toNat - 48)) D ≤ 400000000 := hv
    rw [List.cons_append, goS, if_neg h60, stS_dig d b m sg dg co c0 hb (by omega), spec_dig d R sg co c0 D _ true (fun x hx => h x (by simp [hx])) hv2]
    simp [valL]
theorem spec_sg (d : Nat) (R : List UInt8) (e : Bool) (n sg : Int) (co : List Int) (c0 : Int) (he : e = false → sg = 1) : goS d (sgT e n ++ R) (0, sg, false, co, c0) = goS d R (0, if n < 0 then -1 else 1, false, co, c0) := by
  unfold sgT
  by_cases hn : n < 0
  · rw [if_pos hn, if_pos hn]
    show goS d R (stS d 45 (0, sg, false, co, c0)) = _
    rfl
  · rw [if_neg hn, if_neg hn]
    cases e with
    | false => rw [he rfl]; rfl
    | true =>
      show goS d R (stS d 43 (0, sg, false, co, c0)) = _
      rfl
theorem vGo_nm (d i : Nat) (hd : d ≤ 4) (hi : i < d) : vGo (nmL i) d 0 (-1) = i := by
  have h1 : d = 1 ∨ d = 2 ∨ d = 3 ∨ d = 4 := by omega
  rcases h1 with rfl | rfl | rfl | rfl
  · obtain rfl : i = 0 := by omega
    decide
  · have h2 : i = 0 ∨ i = 1 := by omega
    rcases h2 with rfl | rfl <;> decide
  · have h2 : i = 0 ∨ i = 1 ∨ i = 2 := by omega
    rcases h2 with rfl | rfl | rfl <;> decide
  · have h2 : i = 0 ∨ i = 1 ∨ i = 2 ∨ i = 3 := by omega
    rcases h2 with rfl | rfl | rfl | rfl <;> decide
theorem spec_var (d i : Nat) (hd : d ≤ 4) (hi : i < d) (R : List UInt8) (n sg : Int) (dg : Bool) (co : List Int) (c0 : Int) :
    goS d (nmL i :: R) (n, sg, dg, co, c0) = goS d R (0, sg, false, co.set i (wrap64 (sg * (if dg = true then n else 1))), c0) := by
  obtain ⟨_, x2, x3, x4, x5⟩ := nm_ix i (by omega)
  rw [goS, if_neg x5]
  unfold stS
  rw [if_neg (by rintro (h | h); exact x3 h; exact x4 h), if_neg (by rw [x2]; simp), vGo_nm d i hd hi, if_pos (by omega), Int.toNat_natCast]
theorem spec_term (d i : Nat) (hd : d ≤ 4) (hi : i < d) (R : List UInt8) (e : Bool) (n sg : Int) (co : List Int) (c0 : Int) (hn : isNum n = true) (h0 : ¬ n = 0) (he : e = false → sg = 1) :
    goS d (sgT e n ++ (dgT n ++ nmL i :: R)) (0, sg, false, co, c0) = goS d R (0, if n < 0 then -1 else 1, false, co.set i n, c0) := by
  have hb := isNum_iff.1 hn
  rw [spec_sg d _ e n sg co c0 he]
  unfold dgT
  by_cases h1 : n = 1 ∨ n = -1
  · rw [if_pos h1, List.nil_append, spec_var d i hd hi]
    have e2 : wrap64 ((if n < 0 then -1 else 1) * (if false = true then 0 else 1)) = n := by rcases h1 with rfl | rfl <;> simp [wrap64]
    rw [e2]
  · rw [if_neg h1]
    have hv := digs_val n.natAbs
    have hz := spec_dig d (nmL i :: R) (if n < 0 then -1 else 1) co c0 (digs n.natAbs) 0 false (digs_dig _) (by omega)
    have hne := digs_ne (u := n.natAbs) (by omega)
    rw [hv] at hz
    refine hz.trans ?_
    rw [spec_var d i hd hi]
    have e1 : (false || !(digs n.natAbs).isEmpty) = true := by
      cases hq : digs n.natAbs with
      | nil => exact absurd hq hne
      | cons a b => rfl
    rw [e1, if_pos rfl]
    have e2 : wrap64 ((if n < 0 then -1 else 1) * (n.natAbs : Int)) = n := by
      split
      · rw [w64 (by omega) (by omega)]; omega
      · rw [w64 (by omega) (by omega)]; omega
    rw [e2]
theorem spec_go (d : Nat) (hd : d ≤ 4) (c : Int) (hc : isNum c = true) (s : Bool) : ∀ (ns : List Int) (i : Nat) (e : Bool) (pre : List Int) (sg : Int), pre.length = i → i + ns.length = d → (∀ x ∈ ns, isNum x = true) → (e = false → sg = 1) →
    (goS d (tailL ns i e c ++ endL s) (0, sg, false, pre ++ List.replicate ns.length 0, 0)).2.2.2.1 = pre ++ ns ∧ cFin (goS d (tailL ns i e c ++ endL s) (0, sg, false, pre ++ List.replicate ns.length 0, 0)) = c
  | [], i, e, pre, sg, hp, hi, hn, he => by
    have hend : ∀ t : PSt, goS d (endL s) t = t := fun t => by cases s <;> rfl
    unfold tailL
    by_cases h0 : c = 0 ∧ e = true
    · rw [if_pos h0, List.nil_append, hend]
      refine ⟨rfl, ?_⟩
      rw [h0.1]; rfl
    · rw [if_neg h0, List.append_assoc, spec_sg d _ e c sg _ _ he]
      have hb := isNum_iff.1 hc
      have hv : valL 0 (dgC c) = c.natAbs := by
        unfold dgC
        split
        · rename_i h; rw [h]; rfl
        · exact digs_val _
      have hz := spec_dig d (endL s) (if c < 0 then -1 else 1) (pre ++ List.replicate ([] : List Int).length 0) 0 (dgC c) 0 false (dgC_dig c) (by omega)
      have hne := dgC_ne c
      have e1 : (false || !(dgC c).isEmpty) = true := by
        cases hq : dgC c with
        | nil => exact absurd hq hne
        | cons a b => rfl
      rw [hv, e1, hend] at hz
      have hz' : goS d (dgC c ++ endL s) (0, if c < 0 then -1 else 1, false, pre ++ List.replicate ([] : List Int).length 0, 0) = _ := hz
      rw [hz']
      refine ⟨rfl, ?_⟩
      show wrap64 ((if c < 0 then -1 else 1) * (c.natAbs : Int)) = c
      split
      · rw [w64 (by omega) (by omega)]; omega
      · rw [w64 (by omega) (by omega)]; omega
  | n :: ns, i, e, pre, sg, hp, hi, hn, he => by
    simp only [List.length_cons] at hi
    unfold tailL
    by_cases h0 : n = 0
    · rw [if_pos h0]
      subst h0
      have := spec_go d hd c hc s ns (i + 1) e (pre ++ [0]) sg (by simp; omega) (by omega) (fun x hx => hn x (by simp [hx])) he
      rw [List.append_assoc, List.append_assoc] at this
      exact this
    · rw [if_neg h0]
      have ea : (sgT e n ++ (dgT n ++ nmL i :: tailL ns (i + 1) true c)) ++ endL s = sgT e n ++ (dgT n ++ nmL i :: (tailL ns (i + 1) true c ++ endL s)) := by simp
      rw [ea, spec_term d i hd (by omega) _ e n sg _ _ (hn n (by simp)) h0 he]
      have es : (pre ++ List.replicate (n :: ns).length 0).set i n = pre ++ [n] ++ List.replicate ns.length 0 := by
        rw [List.set_append_right _ _ (by omega), show i - pre.length = 0 by omega, List.length_cons, List.replicate_succ]
        simp
      rw [es]
      have := spec_go d hd c hc s ns (i + 1) true (pre ++ [n]) (if n < 0 then -1 else 1) (by simp; omega) (by omega) (fun x hx => hn x (by simp [hx])) (fun h => by cases h)
      rw [List.append_assoc pre [n] ns] at this
      exact this
theorem tailL_ne (c : Int) : ∀ (ns : List Int) (i : Nat), 0 < (tailL ns i false c).length
  | [], i => by
    have := List.length_pos_iff.2 (dgC_ne c)
    unfold tailL
    rw [if_neg (by simp)]
    simp; omega
  | n :: ns, i => by
    unfold tailL
    split
    · exact tailL_ne c ns (i + 1)
    · simp; omega
theorem sOf_end (B : List UInt8) (h : 0 < B.length) (s : Bool) : sOf (B ++ endL s) = s := by
  unfold sOf
  cases s with
  | true =>
    have hl : (B ++ endL true).length = B.length + 2 := by simp [endL]
    rw [if_pos (by omega), hl, show ((B.length + 2 : Nat) : Int) - 2 = (B.length : Int) by omega, bt_bs _ _ (by omega), List.getElem_append_right (Nat.le_refl _)]
    simp [endL]
  | false =>
    have hl : (B ++ endL false).length = B.length + 3 := by simp [endL]
    rw [if_pos (by omega), hl, show ((B.length + 3 : Nat) : Int) - 2 = ((B.length + 1 : Nat) : Int) by omega, bt_bs _ _ (by omega), List.getElem_append_right (by omega)]
    simp [endL]
theorem spec_ParseAtom_num {l : List Int} {c : Int} (s : Bool) (h : isAt l c = true) : Ev (fun k => spec_ParseAtom.f k (bs (fmtAL l c s)) (l.length : Int)) (l, c, s, true) := by
  obtain ⟨h4, hc, hx, _⟩ := isAt_iff.1 h
  have h80 := fmtAL_len57 (l := l) (c := c) s
  have hev := spec_ParseAtom_ev (fmtAL l c s) l.length h4 h80
  have et := fmtAL_tail s h
  obtain ⟨g1, g2⟩ := spec_go l.length h4 c hc s l 0 false [] 1 rfl (by omega) hx (fun _ => rfl)
  rw [List.nil_append, List.nil_append, ← et] at g1
  rw [List.nil_append, ← et] at g2
  have hs : sOf (fmtAL l c s) = s := by rw [et]; exact sOf_end _ (tailL_ne c l 0) s
  unfold finS at hev
  rw [g1, g2, hs, if_pos rfl] at hev
  exact hev
theorem zero_at (d : Nat) (hd : d ≤ 4) : isAt (List.replicate d 0) 0 = true := by
  have hz : ∀ x ∈ List.replicate d (0 : Int), x = 0 := fun x hx => (List.mem_replicate.1 hx).2
  refine isAt_iff.2 ⟨by simpa using hd, by decide, fun x hx => by rw [hz x hx]; decide, ?_⟩
  rw [(gcdL_zero _).2 hz]
  decide
theorem parse_both (T : List UInt8) (d : Int) : ∃ r : List Int × Int × Bool × Bool, Ev (fun k => spec_ParseAtom.f k (bs T) d) r ∧ Ev (fun k => impl_ParseAtom.f k (bs T) d) r ∧ r.1.length ≤ 4 := by
  by_cases ho : d < 0 ∨ 4 < d ∨ 80 < T.length
  · exact ⟨_, spec_ParseAtom_out T d ho, impl_ParseAtom_out T d ho, by simp [noA]⟩
  · obtain ⟨e, rfl⟩ : ∃ e : Nat, d = e := ⟨d.toNat, by omega⟩
    by_cases hv : ∃ l c s, isAt l c = true ∧ l.length = e ∧ fmtAL l c s = T
    · obtain ⟨l, c, s, h1, h2, h3⟩ := hv
      subst h2 h3
      exact ⟨_, spec_ParseAtom_num s h1, impl_ParseAtom_num s h1, by show l.length ≤ 4; omega⟩
    · obtain ⟨r1, e1, p1⟩ := spec_ParseAtom_any T e (by omega) (by omega)
      obtain ⟨r2, e2, p2, q2⟩ := impl_ParseAtom_any T e (by omega) (by omega)
      by_cases hT : T = []
      · subst hT
        have e3 := spec_ParseAtom_ev [] e (by omega) (by simp)
        have e4 : finS [] (goS e [] (0, 1, false, List.replicate e 0, 0)) = noA := by
          unfold finS
          exact if_neg (fmtAL_ne (zero_at e (by omega)))
        rw [e4] at e3
        rw [q2 rfl rfl] at e2
        exact ⟨_, e3, e2, by simp [noA]⟩
      · have no : ∀ r, PAt T e r → r = noA := fun r hp => hp.resolve_right (fun ⟨l, c, s, _, h2, h3⟩ => hv ⟨l, c, s, fmtAL_at (by rw [h3]; exact hT), h2, h3⟩)
        rw [no r1 p1] at e1
        rw [no r2 p2] at e2
        exact ⟨_, e1, e2, by simp [noA]⟩

end Go.Proofs.YtohoibekddhneaaDoor.LFnExactParseAtom
