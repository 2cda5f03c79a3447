/- What the printed functions of the law FnExactFormatRatio compute, in plain words; each holds under the bounds that it names. -/
import Derived.Test.YtaijkhabcidagaaDoorQFnExactFormatRatiox
import Derived.Test.YtaijkhabcidagaaDoorPlainFnExactFormatRatio
import Derived.Test.YtaijkhabcidagaaDoorPlainAFnExactFormatRatio
set_option linter.unusedVariables false
set_option linter.unusedSimpArgs false
namespace Go.Proofs.YtaijkhabcidagaaDoor.LFnExactFormatRatio
open Go.RowKit Go.Proofs.YtaijkhabcidagaaDoor.PFnExactFormatRatio Go.Proofs.YtaijkhabcidagaaDoor.Pl Go.Proofs.YtaijkhabcidagaaDoorW.PrintWords Go.Proofs.YtaijkhabcidagaaDoorW.PrintLast Go.Proofs.YtaijkhabcidagaaDoorW.PrintMore

theorem spec_l1In_eq (a b c : Int) : spec_l1In.f a b c = some (decide (b ≤ a) && decide (a ≤ c)) := by
  unfold spec_l1In.f
  by_cases h : b ≤ a
  · rw [if_pos h]; simp [h]
  · rw [if_neg h]; simp [h]
theorem spec_IsNumber_eq (n : Int) : spec_IsNumber.f n = some (isNum n) := by
  unfold spec_IsNumber.f
  rw [spec_l1In_eq]; rfl
theorem impl_IsNumber_eq (n : Int) : impl_IsNumber.f n = some (isNum n) := by
  unfold impl_IsNumber.f isNum
  by_cases h : n ≥ -400000000
  · rw [if_pos h]
    have h' : -400000000 ≤ n := h
    simp [h']
  · rw [if_neg h]
    have h' : ¬ -400000000 ≤ n := h
    simp [h']
theorem spec_l1Abs_eq (a : Int) (h : -9223372036854775807 ≤ a) (h' : a ≤ 9223372036854775807) : spec_l1Abs.f a = some (a.natAbs : Int) := by
  unfold spec_l1Abs.f mx
  rw [w64 (by omega) (by omega)]
  congr 1
  split <;> omega
theorem impl_absolute_eq (a : Int) (h : -9223372036854775807 ≤ a) (h' : a ≤ 9223372036854775807) : impl_absolute.f a = some (a.natAbs : Int) := by
  unfold impl_absolute.f
  by_cases c : a < 0
  · rw [if_pos c, w64 (by omega) (by omega)]; congr 1; omega
  · rw [if_neg c]; congr 1; omega
theorem impl_commonDivisor_l0_ev (a b : Int) : Ev (fun k => impl_commonDivisor.l0 k a b) (eu a b) := by
  fun_induction eu a b with
  | case1 a => exact Ev.step (f := fun _ => some a) (fun k => by simp [impl_commonDivisor.l0]) (Ev.now a)
  | case2 a b h ih => exact Ev.step (fun k => by simp only [impl_commonDivisor.l0]; rw [if_neg h]) ih
theorem impl_commonDivisor_ev (a b : Int) (h : -9223372036854775807 ≤ a ∧ a ≤ 9223372036854775807) (h' : -9223372036854775807 ≤ b ∧ b ≤ 9223372036854775807) : Ev (fun k => impl_commonDivisor.f k a b) (Int.gcd a b : Int) := by
  unfold impl_commonDivisor.f
  rw [impl_absolute_eq a h.1 h.2, impl_absolute_eq b h'.1 h'.2]
  simp only [Option.bind_some]
  rw [← eu_abs]
  exact impl_commonDivisor_l0_ev _ _
theorem spec_GcdOf_l0_ev (a b : Int) (h : -9223372036854775807 ≤ a ∧ a ≤ 9223372036854775807) (h' : -9223372036854775807 ≤ b ∧ b ≤ 9223372036854775807) : Ev (fun k => spec_GcdOf.l0 k a b) (Int.gcd a b : Int) := by
  rw [← eu_gcd]
  fun_induction eu a b with
  | case1 a => exact Ev.step (f := fun _ => some (a.natAbs : Int)) (fun k => by simp [spec_GcdOf.l0, spec_l1Abs_eq a h.1 h.2]) (Ev.now _)
  | case2 a b hb ih =>
    have := tmod_lt (a := a) hb
    exact Ev.step (fun k => by simp only [spec_GcdOf.l0]; rw [if_neg hb]) (ih h' (by omega))
theorem spec_GcdOf_ev (a b : Int) : Ev (fun k => spec_GcdOf.f k a b) (gcdOf a b) := by
  unfold spec_GcdOf.f gcdOf
  rw [spec_IsNumber_eq, spec_IsNumber_eq]
  simp only [Option.bind_some]
  cases ha : isNum a with
  | false => exact Ev.step (f := fun _ => some 0) (fun k => by simp [spec_GcdOf.j0]) (Ev.now _)
  | true =>
    cases hb : isNum b with
    | false => exact Ev.step (f := fun _ => some 0) (fun k => by simp [spec_GcdOf.j0]) (Ev.now _)
    | true =>
      rw [isNum_iff] at ha hb
      exact Ev.step (f := fun k => spec_GcdOf.l0 k a b) (fun k => by simp [spec_GcdOf.j0]) (spec_GcdOf_l0_ev a b (by omega) (by omega))
theorem impl_GcdOf_ev (a b : Int) : Ev (fun k => impl_GcdOf.f k a b) (gcdOf a b) := by
  unfold impl_GcdOf.f gcdOf
  rw [impl_IsNumber_eq, impl_IsNumber_eq]
  simp only [Option.bind_some]
  cases ha : isNum a with
  | false => simp; exact Ev.now _
  | true =>
    cases hb : isNum b with
    | false => simp; exact Ev.now _
    | true =>
      rw [isNum_iff] at ha hb
      simp only [if_true, Bool.and_self]
      exact Ev.bind (impl_commonDivisor_ev a b (by omega) (by omega)) (Ev.now _)
theorem spec_IsRatio_ev (n d : Int) : Ev (fun k => spec_IsRatio.f k n d) (isRat n d) := by
  unfold spec_IsRatio.f isRat
  rw [spec_l1In_eq, spec_IsNumber_eq]
  simp only [Option.bind_some]
  cases h1 : decide (1 ≤ d) && decide (d ≤ 400000000) with
  | false => simp; exact Ev.now _
  | true =>
    cases h2 : isNum n with
    | false => simp; exact Ev.now _
    | true =>
      simp only [if_true, Bool.true_and]
      refine Ev.bind (spec_GcdOf_ev n d) (ev_some ?_)
      have h3 : isNum d = true := by simp at h1; rw [isNum_iff]; omega
      simp only [gcdOf, h2, h3, Bool.and_self, if_true]
      rw [Bool.eq_iff_iff]; simp; omega
theorem impl_IsRatio_ev (n d : Int) : Ev (fun k => impl_IsRatio.f k n d) (isRat n d) := by
  unfold impl_IsRatio.f isRat
  rw [impl_IsNumber_eq]
  simp only [Option.bind_some]
  refine ev_ite (fun h1 => ev_ite (fun h2 => ?_) (fun h2 => ev_some ?_)) (fun h1 => ev_some ?_)
  · have h1' : 1 ≤ d := h1
    cases h3 : isNum n with
    | false => simp; exact Ev.now _
    | true =>
      simp only [if_true, h1', h2, decide_true, Bool.and_self, Bool.true_and]
      refine Ev.bind (impl_GcdOf_ev n d) (ev_some ?_)
      have h4 : isNum d = true := by rw [isNum_iff]; omega
      simp only [gcdOf, h3, h4, Bool.and_self, if_true]
      rw [Bool.eq_iff_iff]; simp; omega
  · simp [h2]
  · have h1' : ¬ 1 ≤ d := h1
    simp [h1']
def digs (u : Nat) : List UInt8 := if h : u = 0 then [] else digs (u / 10) ++ [UInt8.ofNat (48 + u % 10)]
termination_by u
decreasing_by omega
theorem digs_zero : digs 0 = [] := by rw [digs, dif_pos rfl]
theorem digs_pos {u : Nat} (h : ¬ u = 0) : digs u = digs (u / 10) ++ [UInt8.ofNat (48 + u % 10)] := by rw [digs, dif_neg h]
def fmtL (n : Int) : List UInt8 := if n = 0 then [48] else if n < 0 then 45 :: digs n.natAbs else digs n.natAbs
/-- The bytes as a string. -/
def bs (l : List UInt8) : ByteArray := ⟨l.toArray⟩
theorem bs_size (l : List UInt8) : (bs l).size = l.length := by unfold bs; simp [ByteArray.size]
theorem bs_append (l m : List UInt8) : bs l ++ bs m = bs (l ++ m) := by
  unfold bs
  apply ByteArray.ext
  simp [ByteArray.data_append]
theorem dig_piece : ∀ d : Nat, d < 10 → (⟨#[48, 49, 50, 51, 52, 53, 54, 55, 56, 57]⟩ : ByteArray).extract d (d + 1) = bs [UInt8.ofNat (48 + d)]
  | 0, _ => rfl | 1, _ => rfl | 2, _ => rfl | 3, _ => rfl | 4, _ => rfl | 5, _ => rfl | 6, _ => rfl | 7, _ => rfl | 8, _ => rfl | 9, _ => rfl
  | n + 10, h => by omega
theorem dig_bd {d : Nat} (h : d < 10) : (0 : Int) ≤ (d : Int) ∧ (d : Int) ≤ ((d + 1 : Nat) : Int) ∧ ((d + 1 : Nat) : Int) ≤ 10 ∧ wrap64 ((d : Int) + 1) = ((d + 1 : Nat) : Int) := by
  refine ⟨by omega, by omega, by omega, ?_⟩
  rw [w64 (by omega) (by omega)]; omega
theorem spec_FormatInt_fin (n : Int) (l : List UInt8) (hl : l.length ≤ 100) : Ev (fun k => spec_FormatInt.l0 k n (bs l) 0) (bs (if n = 0 then [48] else if n < 0 then 45 :: l else l)) := by
  refine Ev.step (fun k => by rw [spec_FormatInt.l0]) ?_
  refine ev_pos rfl (ev_ite (fun h => ?_) (fun h => ev_ite (fun h1 => ev_pos (by rw [bs_size]; omega) ?_) (fun h1 => ?_)))
  · rw [if_pos h]; exact Ev.now _
  · rw [if_neg h, if_pos h1]
    have : (⟨#[45]⟩ : ByteArray) ++ bs l = bs (45 :: l) := bs_append [45] l
    rw [this]; exact Ev.now _
  · rw [if_neg h, if_neg h1]; exact Ev.now _
theorem spec_FormatInt_go (n : Int) : ∀ (j : Nat) (x : Int) (l : List UInt8), x.natAbs < 10 ^ j → j ≤ 20 → l.length + j ≤ 50 → -9223372036854775808 ≤ x → x ≤ 9223372036854775807 →
    Ev (fun k => spec_FormatInt.l0 k n (bs l) x) (bs (if n = 0 then [48] else if n < 0 then 45 :: (digs x.natAbs ++ l) else digs x.natAbs ++ l)) := by
  intro j
  induction j with
  | zero =>
    intro x l hx _ hl _ _
    have : x = 0 := by simp at hx; exact hx
    subst this
    have := spec_FormatInt_fin n l (by omega)
    simpa [digs_zero] using this
  | succ j ih =>
    intro x l hx hj hl h0 h1
    by_cases hz : x = 0
    · subst hz
      have := spec_FormatInt_fin n l (by omega)
      simpa [digs_zero] using this
    · refine Ev.step (fun k => by rw [spec_FormatInt.l0]) (ev_neg hz ?_)
      have hd : x.natAbs % 10 < 10 := by omega
      obtain ⟨b0, b1, b2, et1⟩ := dig_bd hd
      have e10 : (bs [UInt8.ofNat (48 + x.natAbs % 10)]).size = 1 := bs_size _
      have eq : (wrap64 (Int.tdiv x 10)) = Int.tdiv x 10 := by
        have := Int.natAbs_tdiv x 10
        have h2 : x.natAbs.div (10 : Int).natAbs = x.natAbs / 10 := rfl
        exact w64 (by omega) (by omega)
      have en : (Int.tdiv x 10).natAbs = x.natAbs / 10 := by
        have := Int.natAbs_tdiv x 10
        have h2 : x.natAbs.div (10 : Int).natAbs = x.natAbs / 10 := rfl
        omega
      have go := ih (Int.tdiv x 10) (UInt8.ofNat (48 + x.natAbs % 10) :: l) (by rw [en]; rw [Nat.pow_succ] at hx; omega) (by omega) (by simp; omega) (by omega) (by omega)
      rw [en] at go
      have ed : digs x.natAbs ++ l = digs (x.natAbs / 10) ++ UInt8.ofNat (48 + x.natAbs % 10) :: l := by
        rw [digs_pos (show ¬ x.natAbs = 0 by omega), List.append_assoc]; rfl
      rw [ed]
      have ea : bs [UInt8.ofNat (48 + x.natAbs % 10)] ++ bs l = bs (UInt8.ofNat (48 + x.natAbs % 10) :: l) := bs_append _ _
      refine ev_ite (fun hn => ?_) (fun hn => ?_)
      · have et : wrap64 (-(Int.tmod x 10)) = ((x.natAbs % 10 : Nat) : Int) := by
          have := Int.natAbs_tmod x 10
          have h2 : x.natAbs % (10 : Int).natAbs = x.natAbs % 10 := rfl
          rw [w64 (by omega) (by omega)]; omega
        simp only [et, et1, eq, Int.toNat_natCast, dig_piece _ hd, e10, bs_size, ea]
        exact ev_pos b0 (ev_pos b1 (ev_pos b2 (ev_pos (by clear go ih hx; omega) go)))
      · have et : Int.tmod x 10 = ((x.natAbs % 10 : Nat) : Int) := by
          have := Int.natAbs_tmod x 10
          have h2 : x.natAbs % (10 : Int).natAbs = x.natAbs % 10 := rfl
          omega
        simp only [et, et1, eq, Int.toNat_natCast, dig_piece _ hd, e10, bs_size, ea]
        exact ev_pos b0 (ev_pos b1 (ev_pos b2 (ev_pos (by clear go ih hx; omega) go)))
theorem spec_FormatInt_ev (n : Int) (h0 : -9223372036854775808 ≤ n) (h1 : n ≤ 9223372036854775807) : Ev (fun k => spec_FormatInt.f k n) (bs (fmtL n)) := by
  have := spec_FormatInt_go n 20 n [] (by omega) (by omega) (by simp) h0 h1
  rw [List.append_nil] at this
  exact this
theorem decDigits_digs (u : Nat) (h : ¬ u = 0) : Lib.decDigits u = digs u := by
  induction u using Nat.strongRecOn with
  | _ u ih =>
    rw [digs_pos h]
    by_cases h1 : u < 10
    · rw [Lib.decDigits, dif_pos h1, show u / 10 = 0 by omega, digs_zero, show u % 10 = u by omega]; rfl
    · rw [Lib.decDigits, dif_neg h1, ih (u / 10) (by omega) (by omega)]
theorem itoa_fmtL (n : Int) : Lib.itoa n = fmtL n := by
  unfold Lib.itoa fmtL
  by_cases h : n = 0
  · subst h; rw [if_neg (by omega), if_pos rfl]
    show Lib.decDigits 0 = _
    rw [Lib.decDigits, dif_pos (by omega)]; rfl
  · rw [if_neg h]
    by_cases h1 : n < 0
    · rw [if_pos h1, if_pos h1, decDigits_digs _ (by omega)]
    · rw [if_neg h1, if_neg h1, show n.toNat = n.natAbs by omega, decDigits_digs _ (by omega)]
theorem impl_FormatInt_eq (n : Int) (h0 : -9223372036854775808 ≤ n) (h1 : n ≤ 9223372036854775807) : impl_FormatInt.f n = some (bs (fmtL n)) := by
  unfold impl_FormatInt.f strconv_Itoa.f
  rw [if_pos ⟨h0, h1⟩, itoa_fmtL]
  rfl
theorem digs_len (j : Nat) : ∀ u : Nat, u < 10 ^ j → (digs u).length ≤ j := by
  induction j with
  | zero => intro u h; have : u = 0 := by simpa using h
            subst this; simp [digs_zero]
  | succ j ih =>
    intro u h
    by_cases hz : u = 0
    · subst hz; simp [digs_zero]
    · rw [digs_pos hz, List.length_append]
      have := ih (u / 10) (by rw [Nat.pow_succ] at h; omega)
      simp; omega
theorem fmtL_len (n : Int) (h0 : -9223372036854775808 ≤ n) (h1 : n ≤ 9223372036854775807) : (fmtL n).length ≤ 21 := by
  have := digs_len 20 n.natAbs (by omega)
  unfold fmtL
  split
  · simp
  · split <;> simp <;> omega
def fmtRL (n d : Int) : List UInt8 := if isRat n d then (if d = 1 then fmtL n else fmtL n ++ 47 :: fmtL d) else [110, 111, 110, 101]
theorem spec_FormatRatio_ev (n d : Int) : Ev (fun k => spec_FormatRatio.f k n d) (bs (fmtRL n d)) := by
  unfold spec_FormatRatio.f fmtRL
  refine Ev.bind (spec_IsRatio_ev n d) (ev_ite (fun h => ?_) (fun h => ?_))
  · rw [if_pos h]
    have hb := isRat_iff.1 h
    have l1 := fmtL_len n (by omega) (by omega)
    have l2 := fmtL_len d (by omega) (by omega)
    refine ev_ite (fun h1 => ?_) (fun h1 => ?_)
    · rw [if_pos h1]
      exact Ev.bind (spec_FormatInt_ev n (by omega) (by omega)) (Ev.now _)
    · rw [if_neg h1]
      have e1 : bs (fmtL n) ++ (⟨#[47]⟩ : ByteArray) = bs (fmtL n ++ [47]) := bs_append _ [47]
      refine Ev.bind (spec_FormatInt_ev n (by omega) (by omega)) (ev_pos (by rw [bs_size]; omega) (Ev.bind (spec_FormatInt_ev d (by omega) (by omega)) ?_))
      rw [e1]
      refine ev_pos (by rw [bs_size, bs_size]; simp; omega) ?_
      rw [bs_append, List.append_assoc]; exact Ev.now _
  · rw [if_neg h]; exact Ev.now _
theorem impl_FormatRatio_ev (n d : Int) : Ev (fun k => impl_FormatRatio.f k n d) (bs (fmtRL n d)) := by
  unfold impl_FormatRatio.f fmtRL
  refine Ev.bind (impl_IsRatio_ev n d) (ev_ite (fun h => ?_) (fun h => ?_))
  · rw [if_pos h]
    have hb := isRat_iff.1 h
    have l1 := fmtL_len n (by omega) (by omega)
    have l2 := fmtL_len d (by omega) (by omega)
    rw [impl_FormatInt_eq n (by omega) (by omega), impl_FormatInt_eq d (by omega) (by omega)]
    refine ev_ite (fun h1 => ?_) (fun h1 => ?_)
    · rw [if_pos h1]; exact Ev.now _
    · rw [if_neg h1]
      have e1 : bs (fmtL n) ++ (⟨#[47]⟩ : ByteArray) = bs (fmtL n ++ [47]) := bs_append _ [47]
      simp only [Option.bind_some]
      refine ev_pos (by rw [bs_size]; omega) ?_
      rw [e1]
      refine ev_pos (by rw [bs_size, bs_size]; simp; omega) ?_
      rw [bs_append, List.append_assoc]; exact Ev.now _
  · rw [if_neg h]; exact Ev.now _

end Go.Proofs.YtaijkhabcidagaaDoor.LFnExactFormatRatio
