/- What the printed functions of the law FnExactParseRatio compute, in plain words; each holds under the bounds that it names. -/
import Derived.Test.YtohoibekddhneaaDoorQFnExactParseRatiox
import Derived.Test.YtohoibekddhneaaDoorPlainFnExactParseRatio
import Derived.Test.YtohoibekddhneaaDoorPlainAFnExactParseRatio
set_option linter.unusedVariables false
set_option linter.unusedSimpArgs false
namespace Go.Proofs.YtohoibekddhneaaDoor.LFnExactParseRatio
open Go.RowKit Go.Proofs.YtohoibekddhneaaDoor.PFnExactParseRatio Go.Proofs.YtohoibekddhneaaDoor.Pl Go.Proofs.YtohoibekddhneaaDoorW.PrintWords Go.Proofs.YtohoibekddhneaaDoorW.PrintLast Go.Proofs.YtohoibekddhneaaDoorW.PrintMore

theorem spec_l1In_eq (a b c : Int) : spec_l1In.f a b c = some (decide (b ≤ a) && decide (a ≤ c)) := by
  unfold spec_l1In.f
  by_cases h : b ≤ a
  · rw [if_pos h]; simp [h]
  · rw [if_neg h]; simp [h]
theorem spec_IsNumber_eq (n : Int) : spec_IsNumber.f n = some (isNum n) := by
  unfold spec_IsNumber.f
  rw [spec_l1In_eq]; rfl
theorem impl_IsNumber_eq (n : Int) : impl_IsNumber.f n = some (isNum n) := by
  unfold impl_IsNumber.f isNum
  by_cases h : n ≥ -400000000
  · rw [if_pos h]
    have h' : -400000000 ≤ n := h
    simp [h']
  · rw [if_neg h]
    have h' : ¬ -400000000 ≤ n := h
    simp [h']
theorem spec_l1Abs_eq (a : Int) (h : -9223372036854775807 ≤ a) (h' : a ≤ 9223372036854775807) : spec_l1Abs.f a = some (a.natAbs : Int) := by
  unfold spec_l1Abs.f mx
  rw [w64 (by omega) (by omega)]
  congr 1
  split <;> omega
theorem impl_absolute_eq (a : Int) (h : -9223372036854775807 ≤ a) (h' : a ≤ 9223372036854775807) : impl_absolute.f a = some (a.natAbs : Int) := by
  unfold impl_absolute.f
  by_cases c : a < 0
  · rw [if_pos c, w64 (by omega) (by omega)]; congr 1; omega
  · rw [if_neg c]; congr 1; omega
theorem impl_commonDivisor_l0_ev (a b : Int) : Ev (fun k => impl_commonDivisor.l0 k a b) (eu a b) := by
  fun_induction eu a b with
  | case1 a => exact Ev.step (f := fun _ => some a) (fun k => by simp [impl_commonDivisor.l0]) (Ev.now a)
  | case2 a b h ih => exact Ev.step (fun k => by simp only [impl_commonDivisor.l0]; rw [if_neg h]) ih
theorem impl_commonDivisor_ev (a b : Int) (h : -9223372036854775807 ≤ a ∧ a ≤ 9223372036854775807) (h' : -9223372036854775807 ≤ b ∧ b ≤ 9223372036854775807) : Ev (fun k => impl_commonDivisor.f k a b) (Int.gcd a b : Int) := by
  unfold impl_commonDivisor.f
  rw [impl_absolute_eq a h.1 h.2, impl_absolute_eq b h'.1 h'.2]
  simp only [Option.bind_some]
  rw [← eu_abs]
  exact impl_commonDivisor_l0_ev _ _
theorem spec_GcdOf_l0_ev (a b : Int) (h : -9223372036854775807 ≤ a ∧ a ≤ 9223372036854775807) (h' : -9223372036854775807 ≤ b ∧ b ≤ 9223372036854775807) : Ev (fun k => spec_GcdOf.l0 k a b) (Int.gcd a b : Int) := by
  rw [← eu_gcd]
  fun_induction eu a b with
  | case1 a => exact Ev.step (f := fun _ => some (a.natAbs : Int)) (fun k => by simp [spec_GcdOf.l0, spec_l1Abs_eq a h.1 h.2]) (Ev.now _)
  | case2 a b hb ih =>
    have := tmod_lt (a := a) hb
    exact Ev.step (fun k => by simp only [spec_GcdOf.l0]; rw [if_neg hb]) (ih h' (by omega))
theorem spec_GcdOf_ev (a b : Int) : Ev (fun k => spec_GcdOf.f k a b) (gcdOf a b) := by
  unfold spec_GcdOf.f gcdOf
  rw [spec_IsNumber_eq, spec_IsNumber_eq]
  simp only [Option.bind_some]
  cases ha : isNum a with
  | false => exact Ev.step (f := fun _ => some 0) (fun k => by simp [spec_GcdOf.j0]) (Ev.now _)
  | true =>
    cases hb : isNum b with
    | false => exact Ev.step (f := fun _ => some 0) (fun k => by simp [spec_GcdOf.j0]) (Ev.now _)
    | true =>
      rw [isNum_iff] at ha hb
      exact Ev.step (f := fun k => spec_GcdOf.l0 k a b) (fun k => by simp [spec_GcdOf.j0]) (spec_GcdOf_l0_ev a b (by omega) (by omega))
theorem impl_GcdOf_ev (a b : Int) : Ev (fun k => impl_GcdOf.f k a b) (gcdOf a b) := by
  unfold impl_GcdOf.f gcdOf
  rw [impl_IsNumber_eq, impl_IsNumber_eq]
  simp only [Option.bind_some]
  cases ha : isNum a with
  | false => simp; exact Ev.now _
  | true =>
    cases hb : isNum b with
    | false => simp; exact Ev.now _
    | true =>
      rw [isNum_iff] at ha hb
      simp only [if_true, Bool.and_self]
      exact Ev.bind (impl_commonDivisor_ev a b (by omega) (by omega)) (Ev.now _)
theorem spec_IsRatio_ev (n d : Int) : Ev (fun k => spec_IsRatio.f k n d) (isRat n d) := by
  unfold spec_IsRatio.f isRat
  rw [spec_l1In_eq, spec_IsNumber_eq]
  simp only [Option.bind_some]
  cases h1 : decide (1 ≤ d) && decide (d ≤ 400000000) with
  | false => simp; exact Ev.now _
  | true =>
    cases h2 : isNum n with
    | false => simp; exact Ev.now _
    | true =>
      simp only [if_true, Bool.true_and]
      refine Ev.bind (spec_GcdOf_ev n d) (ev_some ?_)
      have h3 : isNum d = true := by simp at h1; rw [isNum_iff]; omega
      simp only [gcdOf, h2, h3, Bool.and_self, if_true]
      rw [Bool.eq_iff_iff]; simp; omega
theorem impl_IsRatio_ev (n d : Int) : Ev (fun k => impl_IsRatio.f k n d) (isRat n d) := by
  unfold impl_IsRatio.f isRat
  rw [impl_IsNumber_eq]
  simp only [Option.bind_some]
  refine ev_ite (fun h1 => ev_ite (fun h2 => ?_) (fun h2 => ev_some ?_)) (fun h1 => ev_some ?_)
  · have h1' : 1 ≤ d := h1
    cases h3 : isNum n with
    | false => simp; exact Ev.now _
    | true =>
      simp only [if_true, h1', h2, decide_true, Bool.and_self, Bool.true_and]
      refine Ev.bind (impl_GcdOf_ev n d) (ev_some ?_)
      have h4 : isNum d = true := by rw [isNum_iff]; omega
      simp only [gcdOf, h3, h4, Bool.and_self, if_true]
      rw [Bool.eq_iff_iff]; simp; omega
  · simp [h2]
  · have h1' : ¬ 1 ≤ d := h1
    simp [h1']
theorem spec_l2Make_l0_ev (n d a b : Int) (hn : -9223372036854775807 ≤ n ∧ n ≤ 9223372036854775807) (hd : -9223372036854775807 ≤ d ∧ d ≤ 9223372036854775807)
    (h : -9223372036854775807 ≤ a ∧ a ≤ 9223372036854775807) (h' : -9223372036854775807 ≤ b ∧ b ≤ 9223372036854775807) (hg : (Int.gcd a b : Int) = Int.gcd n d) (hz : ¬ d = 0) : Ev (fun k => spec_l2Make.l0 k n d a b) (redOf n d) := by
  have hp := gcd_pos n d hz
  have he := eu_gcd a b
  revert he
  fun_induction eu a b with
  | case1 a =>
    intro he
    refine Ev.step (fun k => by simp only [spec_l2Make.l0, if_true]; rw [spec_l1Abs_eq a h.1 h.2, Option.bind_some]) ?_
    have e : (a.natAbs : Int) = Int.gcd n d := by rw [← hg, ← he]
    rw [e]
    refine ev_ite (fun h0 => by omega) (fun _ => ?_)
    rw [w64_tdiv hn.1 hn.2, w64_tdiv hd.1 hd.2]
    unfold redOf
    refine Ev.bind (spec_IsRatio_ev _ _) ?_
    exact ev_ite (fun h => by rw [if_pos h]; exact Ev.now _) (fun h => by rw [if_neg h]; exact Ev.now _)
  | case2 a b hb ih =>
    intro he
    have := tmod_lt (a := a) hb
    refine Ev.step (fun k => by simp only [spec_l2Make.l0]; rw [if_neg hb]) (ih h' (by omega) ?_ ?_)
    · rw [← hg]
      have e1 := eu_gcd b (a.tmod b)
      have e2 := eu_gcd a b
      have e3 : eu a b = eu b (a.tmod b) := by rw [eu]; simp [hb]
      rw [e3] at e2
      omega
    · exact eu_gcd _ _
theorem spec_l2Make_ev (n d : Int) (hn : -9223372036854775807 ≤ n ∧ n ≤ 9223372036854775807) (hd : -9223372036854775807 ≤ d ∧ d ≤ 9223372036854775807) : Ev (fun k => spec_l2Make.f k n d) (red n d) := by
  unfold spec_l2Make.f red
  refine ev_ite (fun h => by rw [if_pos h]; exact Ev.now _) (fun h => ?_)
  rw [if_neg h]
  refine ev_ite (fun h' => ?_) (fun h' => ?_)
  · rw [if_pos h', w64 (by omega) (by omega), w64 (by omega) (by omega)]
    exact Ev.step (fun k => by simp only [spec_l2Make.j0]) (spec_l2Make_l0_ev _ _ _ _ (by omega) (by omega) (by omega) (by omega) rfl (by omega))
  · rw [if_neg h']
    exact Ev.step (fun k => by simp only [spec_l2Make.j0]) (spec_l2Make_l0_ev _ _ _ _ (by omega) (by omega) (by omega) (by omega) rfl (by omega))
theorem spec_MakeRatio_ev (n d : Int) : Ev (fun k => spec_MakeRatio.f k n d) (makR n d) := by
  unfold spec_MakeRatio.f makR
  rw [spec_IsNumber_eq, spec_IsNumber_eq]
  simp only [Option.bind_some]
  cases ha : isNum n with
  | false => simp; exact Ev.now _
  | true =>
    cases hb : isNum d with
    | false => simp; exact Ev.now _
    | true =>
      rw [isNum_iff] at ha hb
      simp only [if_true, Bool.and_self]
      exact Ev.bind (spec_l2Make_ev n d (by omega) (by omega)) (Ev.now _)
theorem laws_eqRatio_eq (a b : Int × Int) : laws_eqRatio.f a.1 a.2 b.1 b.2 = some (decide (a = b)) := by
  obtain ⟨a0, a1⟩ := a
  obtain ⟨b0, b1⟩ := b
  unfold laws_eqRatio.f
  simp only [Prod.mk.injEq]
  by_cases h1 : a0 = b0
  · by_cases h2 : a1 = b1
    · simp [h1, h2]
    · simp [h2]
  · simp [h1]
def digs (u : Nat) : List UInt8 := if h : u = 0 then [] else digs (u / 10) ++ [UInt8.ofNat (48 + u % 10)]
termination_by u
decreasing_by omega
theorem digs_zero : digs 0 = [] := by rw [digs, dif_pos rfl]
theorem digs_pos {u : Nat} (h : ¬ u = 0) : digs u = digs (u / 10) ++ [UInt8.ofNat (48 + u % 10)] := by rw [digs, dif_neg h]
def fmtL (n : Int) : List UInt8 := if n = 0 then [48] else if n < 0 then 45 :: digs n.natAbs else digs n.natAbs
/-- The bytes as a string. -/
def bs (l : List UInt8) : ByteArray := ⟨l.toArray⟩
theorem bs_size (l : List UInt8) : (bs l).size = l.length := by unfold bs; simp [ByteArray.size]
theorem bs_append (l m : List UInt8) : bs l ++ bs m = bs (l ++ m) := by
  unfold bs
  apply ByteArray.ext
  simp [ByteArray.data_append]
theorem dig_piece : ∀ d : Nat, d < 10 → (⟨#[48, 49, 50, 51, 52, 53, 54, 55, 56, 57]⟩ : ByteArray).extract d (d + 1) = bs [UInt8.ofNat (48 + d)]
  | 0, _ => rfl | 1, _ => rfl | 2, _ => rfl | 3, _ => rfl | 4, _ => rfl | 5, _ => rfl | 6, _ => rfl | 7, _ => rfl | 8, _ => rfl | 9, _ => rfl
  | n + 10, h => by omega
theorem dig_bd {d : Nat} (h : d < 10) : (0 : Int) ≤ (d : Int) ∧ (d : Int) ≤ ((d + 1 : Nat) : Int) ∧ ((d + 1 : Nat) : Int) ≤ 10 ∧ wrap64 ((d : Int) + 1) = ((d + 1 : Nat) : Int) := by
  refine ⟨by omega, by omega, by omega, ?_⟩
  rw [w64 (by omega) (by omega)]; omega
theorem spec_FormatInt_fin (n : Int) (l : List UInt8) (hl : l.length ≤ 100) : Ev (fun k => spec_FormatInt.l0 k n (bs l) 0) (bs (if n = 0 then [48] else if n < 0 then 45 :: l else l)) := by
  refine Ev.step (fun k => by rw [spec_FormatInt.l0]) ?_
  refine ev_pos rfl (ev_ite (fun h => ?_) (fun h => ev_ite (fun h1 => ev_pos (by rw [bs_size]; omega) ?_) (fun h1 => ?_)))
  · rw [if_pos h]; exact Ev.now _
  · rw [if_neg h, if_pos h1]
    have : (⟨#[45]⟩ : ByteArray) ++ bs l = bs (45 :: l) := bs_append [45] l
    rw [this]; exact Ev.now _
  · rw [if_neg h, if_neg h1]; exact Ev.now _
theorem spec_FormatInt_go (n : Int) : ∀ (j : Nat) (x : Int) (l : List UInt8), x.natAbs < 10 ^ j → j ≤ 20 → l.length + j ≤ 50 → -9223372036854775808 ≤ x → x ≤ 9223372036854775807 →
    Ev (fun k => spec_FormatInt.l0 k n (bs l) x) (bs (if n = 0 then [48] else if n < 0 then 45 :: (digs x.natAbs ++ l) else digs x.natAbs ++ l)) := by
  intro j
  induction j with
  | zero =>
    intro x l hx _ hl _ _
    have : x = 0 := by simp at hx; exact hx
    subst this
    have := spec_FormatInt_fin n l (by omega)
    simpa [digs_zero] using this
  | succ j ih =>
    intro x l hx hj hl h0 h1
    by_cases hz : x = 0
    · subst hz
      have := spec_FormatInt_fin n l (by omega)
      simpa [digs_zero] using this
    · refine Ev.step (fun k => by rw [spec_FormatInt.l0]) (ev_neg hz ?_)
      have hd : x.natAbs % 10 < 10 := by omega
      obtain ⟨b0, b1, b2, et1⟩ := dig_bd hd
      have e10 : (bs [UInt8.ofNat (48 + x.natAbs % 10)]).size = 1 := bs_size _
      have eq : (wrap64 (Int.tdiv x 10)) = Int.tdiv x 10 := by
        have := Int.natAbs_tdiv x 10
        have h2 : x.natAbs.div (10 : Int).natAbs = x.natAbs / 10 := rfl
        exact w64 (by omega) (by omega)
      have en : (Int.tdiv x 10).natAbs = x.natAbs / 10 := by
        have := Int.natAbs_tdiv x 10
        have h2 : x.natAbs.div (10 : Int).natAbs = x.natAbs / 10 := rfl
        omega
      have go := ih (Int.tdiv x 10) (UInt8.ofNat (48 + x.natAbs % 10) :: l) (by rw [en]; rw [Nat.pow_succ] at hx; omega) (by omega) (by simp; omega) (by omega) (by omega)
      rw [en] at go
      have ed : digs x.natAbs ++ l = digs (x.natAbs / 10) ++ UInt8.ofNat (48 + x.natAbs % 10) :: l := by
        rw [digs_pos (show ¬ x.natAbs = 0 by omega), List.append_assoc]; rfl
      rw [ed]
      have ea : bs [UInt8.ofNat (48 + x.natAbs % 10)] ++ bs l = bs (UInt8.ofNat (48 + x.natAbs % 10) :: l) := bs_append _ _
      refine ev_ite (fun hn => ?_) (fun hn => ?_)
      · have et : wrap64 (-(Int.tmod x 10)) = ((x.natAbs % 10 : Nat) : Int) := by
          have := Int.natAbs_tmod x 10
          have h2 : x.natAbs % (10 : Int).natAbs = x.natAbs % 10 := rfl
          rw [w64 (by omega) (by omega)]; omega
        simp only [et, et1, eq, Int.toNat_natCast, dig_piece _ hd, e10, bs_size, ea]
        exact ev_pos b0 (ev_pos b1 (ev_pos b2 (ev_pos (by clear go ih hx; omega) go)))
      · have et : Int.tmod x 10 = ((x.natAbs % 10 : Nat) : Int) := by
          have := Int.natAbs_tmod x 10
          have h2 : x.natAbs % (10 : Int).natAbs = x.natAbs % 10 := rfl
          omega
        simp only [et, et1, eq, Int.toNat_natCast, dig_piece _ hd, e10, bs_size, ea]
        exact ev_pos b0 (ev_pos b1 (ev_pos b2 (ev_pos (by clear go ih hx; omega) go)))
theorem spec_FormatInt_ev (n : Int) (h0 : -9223372036854775808 ≤ n) (h1 : n ≤ 9223372036854775807) : Ev (fun k => spec_FormatInt.f k n) (bs (fmtL n)) := by
  have := spec_FormatInt_go n 20 n [] (by omega) (by omega) (by simp) h0 h1
  rw [List.append_nil] at this
  exact this
theorem decDigits_digs (u : Nat) (h : ¬ u = 0) : Lib.decDigits u = digs u := by
  induction u using Nat.strongRecOn with
  | _ u ih =>
    rw [digs_pos h]
    by_cases h1 : u < 10
    · rw [Lib.decDigits, dif_pos h1, show u / 10 = 0 by omega, digs_zero, show u % 10 = u by omega]; rfl
    · rw [Lib.decDigits, dif_neg h1, ih (u / 10) (by omega) (by omega)]
theorem itoa_fmtL (n : Int) : Lib.itoa n = fmtL n := by
  unfold Lib.itoa fmtL
  by_cases h : n = 0
  · subst h; rw [if_neg (by omega), if_pos rfl]
    show Lib.decDigits 0 = _
    rw [Lib.decDigits, dif_pos (by omega)]; rfl
  · rw [if_neg h]
    by_cases h1 : n < 0
    · rw [if_pos h1, if_pos h1, decDigits_digs _ (by omega)]
    · rw [if_neg h1, if_neg h1, show n.toNat = n.natAbs by omega, decDigits_digs _ (by omega)]
theorem impl_FormatInt_eq (n : Int) (h0 : -9223372036854775808 ≤ n) (h1 : n ≤ 9223372036854775807) : impl_FormatInt.f n = some (bs (fmtL n)) := by
  unfold impl_FormatInt.f strconv_Itoa.f
  rw [if_pos ⟨h0, h1⟩, itoa_fmtL]
  rfl
theorem digs_len (j : Nat) : ∀ u : Nat, u < 10 ^ j → (digs u).length ≤ j := by
  induction j with
  | zero => intro u h; have : u = 0 := by simpa using h
            subst this; simp [digs_zero]
  | succ j ih =>
    intro u h
    by_cases hz : u = 0
    · subst hz; simp [digs_zero]
    · rw [digs_pos hz, List.length_append]
      have := ih (u / 10) (by rw [Nat.pow_succ] at h; omega)
      simp; omega
theorem fmtL_len (n : Int) (h0 : -9223372036854775808 ≤ n) (h1 : n ≤ 9223372036854775807) : (fmtL n).length ≤ 21 := by
  have := digs_len 20 n.natAbs (by omega)
  unfold fmtL
  split
  · simp
  · split <;> simp <;> omega
def fmtRL (n d : Int) : List UInt8 := if isRat n d then (if d = 1 then fmtL n else fmtL n ++ 47 :: fmtL d) else [110, 111, 110, 101]
theorem spec_FormatRatio_ev (n d : Int) : Ev (fun k => spec_FormatRatio.f k n d) (bs (fmtRL n d)) := by
  unfold spec_FormatRatio.f fmtRL
  refine Ev.bind (spec_IsRatio_ev n d) (ev_ite (fun h => ?_) (fun h => ?_))
  · rw [if_pos h]
    have hb := isRat_iff.1 h
    have l1 := fmtL_len n (by omega) (by omega)
    have l2 := fmtL_len d (by omega) (by omega)
    refine ev_ite (fun h1 => ?_) (fun h1 => ?_)
    · rw [if_pos h1]
      exact Ev.bind (spec_FormatInt_ev n (by omega) (by omega)) (Ev.now _)
    · rw [if_neg h1]
      have e1 : bs (fmtL n) ++ (⟨#[47]⟩ : ByteArray) = bs (fmtL n ++ [47]) := bs_append _ [47]
      refine Ev.bind (spec_FormatInt_ev n (by omega) (by omega)) (ev_pos (by rw [bs_size]; omega) (Ev.bind (spec_FormatInt_ev d (by omega) (by omega)) ?_))
      rw [e1]
      refine ev_pos (by rw [bs_size, bs_size]; simp; omega) ?_
      rw [bs_append, List.append_assoc]; exact Ev.now _
  · rw [if_neg h]; exact Ev.now _
theorem bs_toList (l : List UInt8) : (bs l).toList = l := by rw [ByteArray.toList_eq]; unfold bs; simp
theorem bs_ne (l : List UInt8) : ((bs l).toList != ([] : List UInt8)) = decide (0 < l.length) := by rw [bs_toList]; cases l <;> simp
theorem bs_eq0 (l : List UInt8) : ((bs l).toList == ([] : List UInt8)) = decide (l.length = 0) := by rw [bs_toList]; cases l <;> simp
/-- An atom's text, piece by piece. -/
def nmL (i : Nat) : UInt8 := if i = 0 then 120 else if i = 1 then 121 else if i = 2 then 122 else 116
def plusL (acc : List UInt8) (n : Int) : List UInt8 := if 0 < n ∧ 0 < acc.length then acc ++ [43] else acc
def midL (n : Int) : List UInt8 := if n = -1 then [45] else if n = 1 then [] else fmtL n
def stepL (acc : List UInt8) (i : Nat) (n : Int) : List UInt8 := if n = 0 then acc else plusL acc n ++ midL n ++ [nmL i]
def goL : List Int → Nat → List UInt8 → List UInt8
  | [], _, acc => acc
  | n :: ns, i, acc => goL ns (i + 1) (stepL acc i n)
def endL (s : Bool) : List UInt8 := if s then [60, 48] else [60, 61, 48]
def finL (acc : List UInt8) (c : Int) (s : Bool) : List UInt8 := if c = 0 ∧ 0 < acc.length then acc ++ endL s else plusL acc c ++ fmtL c ++ endL s
def fmtAL (l : List Int) (c : Int) (s : Bool) : List UInt8 := if isAt l c then finL (goL l 0 []) c s else []
theorem plusL_len (acc : List UInt8) (n : Int) : (plusL acc n).length ≤ acc.length + 1 := by unfold plusL; split <;> simp
theorem fmtL_lenN {n : Int} (h : isNum n = true) : (fmtL n).length ≤ 21 := by
  have := isNum_iff.1 h
  exact fmtL_len n (by omega) (by omega)
theorem midL_len {n : Int} (h : isNum n = true) : (midL n).length ≤ 21 := by
  have := fmtL_lenN h
  unfold midL
  split
  · simp
  · split
    · simp
    · exact this
theorem stepL_len (acc : List UInt8) (i : Nat) {n : Int} (h : isNum n = true) : (stepL acc i n).length ≤ acc.length + 23 := by
  have h1 := midL_len h
  have h2 := plusL_len acc n
  unfold stepL
  split
  · omega
  · simp; omega
theorem goL_len : ∀ (ns : List Int) (i : Nat) (acc : List UInt8), (∀ x ∈ ns, isNum x = true) → (goL ns i acc).length ≤ acc.length + 23 * ns.length
  | [], _, acc, _ => by simp [goL]
  | n :: ns, i, acc, h => by
    have h1 := stepL_len acc i (h n (by simp))
    have h2 := goL_len ns (i + 1) (stepL acc i n) (fun x hx => h x (by simp [hx]))
    simp only [goL, List.length_cons]
    omega
theorem finL_len (acc : List UInt8) {c : Int} (s : Bool) (h : isNum c = true) : (finL acc c s).length ≤ acc.length + 25 := by
  have h1 := fmtL_lenN h
  have h2 := plusL_len acc c
  have h3 : (endL s).length ≤ 3 := by cases s <;> simp [endL]
  unfold finL
  split
  · simp; omega
  · simp; omega
theorem fmtAL_len (l : List Int) (c : Int) (s : Bool) : (fmtAL l c s).length ≤ 120 := by
  unfold fmtAL
  split
  · rename_i h
    obtain ⟨h4, hc, hx, _⟩ := isAt_iff.1 h
    have h1 := goL_len l 0 [] hx
    have h2 := finL_len (goL l 0 []) s hc
    simp at h1
    omega
  · simp
theorem nm_piece : ∀ i : Nat, i < 4 → (⟨#[120, 121, 122, 116]⟩ : ByteArray).extract i (i + 1) = bs [nmL i]
  | 0, _ => rfl | 1, _ => rfl | 2, _ => rfl | 3, _ => rfl
  | n + 4, h => by omega
theorem tl_bs {l : List UInt8} {s : ByteArray} (h : (bs l).toList = s.toList) : bs l = s := by
  rw [ByteArray.toList_eq, ByteArray.toList_eq] at h
  exact ByteArray.ext (Array.toList_inj.1 h)
theorem bt_bs (l : List UInt8) (i : Nat) (h : i < l.length) : bt (bs l) (i : Int) = (l[i].toNat : Int) := by
  unfold bt
  rw [dif_pos (by rw [bs_size, Int.toNat_natCast]; exact h)]
  rfl
/-- What reading a number gives: it, or nothing. -/
def PInt (s : ByteArray) (r : Int × Bool) : Prop := r = (0, false) ∨ ∃ n, r = (n, true) ∧ isNum n = true ∧ bs (fmtL n) = s
theorem spec_ParseInt_j4_ok (s : ByteArray) (n d : Int) (h1 : ¬ d < 1) (h2 : ¬ d > 10) (h3 : isNum n = true) (h4 : bs (fmtL n) = s) : Ev (fun k => spec_ParseInt.j4 k s n d) (n, true) := by
  have hb := isNum_iff.1 h3
  refine Ev.step (fun k => by rw [spec_ParseInt.j4]) (ev_neg h1 (ev_neg h2 ?_))
  rw [spec_IsNumber_eq]
  simp only [Option.bind_some]
  exact ev_pos h3 (Ev.bind (spec_FormatInt_ev n (by omega) (by omega)) (ev_pos (by rw [h4]) (Ev.now _)))
theorem spec_ParseInt_j4_ev (s : ByteArray) (n d : Int) : ∃ r, Ev (fun k => spec_ParseInt.j4 k s n d) r ∧ PInt s r := by
  by_cases h1 : d < 1
  · exact ⟨(0, false), Ev.step (fun k => by rw [spec_ParseInt.j4]) (ev_pos h1 (Ev.now _)), .inl rfl⟩
  · by_cases h2 : d > 10
    · exact ⟨(0, false), Ev.step (fun k => by rw [spec_ParseInt.j4]) (ev_neg h1 (ev_pos h2 (Ev.now _))), .inl rfl⟩
    · by_cases h3 : isNum n = true
      · by_cases h4 : bs (fmtL n) = s
        · exact ⟨(n, true), spec_ParseInt_j4_ok s n d h1 h2 h3 h4, .inr ⟨n, rfl, h3, h4⟩⟩
        · refine ⟨(0, false), Ev.step (fun k => by rw [spec_ParseInt.j4]) (ev_neg h1 (ev_neg h2 ?_)), .inl rfl⟩
          have hb := isNum_iff.1 h3
          rw [spec_IsNumber_eq]
          simp only [Option.bind_some]
          exact ev_pos h3 (Ev.bind (spec_FormatInt_ev n (by omega) (by omega)) (ev_neg (fun e => h4 (tl_bs e)) (Ev.now _)))
      · refine ⟨(0, false), Ev.step (fun k => by rw [spec_ParseInt.j4]) (ev_neg h1 (ev_neg h2 ?_)), .inl rfl⟩
        rw [spec_IsNumber_eq]
        simp only [Option.bind_some]
        exact ev_neg h3 (Ev.now _)
theorem spec_ParseInt_j3_ev (s : ByteArray) (n d : Int) (b : Bool) : ∃ r, Ev (fun k => spec_ParseInt.j3 k s n d b) r ∧ PInt s r := by
  cases b with
  | true =>
    obtain ⟨r, h, p⟩ := spec_ParseInt_j4_ev s (wrap64 (-n)) d
    exact ⟨r, Ev.step (fun k => by rw [spec_ParseInt.j3]) (ev_pos rfl h), p⟩
  | false =>
    obtain ⟨r, h, p⟩ := spec_ParseInt_j4_ev s n d
    exact ⟨r, Ev.step (fun k => by rw [spec_ParseInt.j3]) (ev_neg (by simp) h), p⟩
theorem spec_ParseInt_l0_ev (s : ByteArray) (hs : s.size ≤ 1048576) : ∀ (c i : Nat) (n d : Int), i + c = s.size → 0 ≤ d → d ≤ i → ∃ r, Ev (fun k => spec_ParseInt.l0 k s n d (i : Int)) r ∧ PInt s r := by
  intro c
  have fin : ∀ (i : Nat) (n d : Int), i ≤ s.size → d ≤ i → ∃ r, Ev (fun k => spec_ParseInt.j1 k s n d (i : Int) false) r ∧ PInt s r := by
    intro i n d hi hd
    by_cases h : d > 0
    · obtain ⟨r, h1, p⟩ := spec_ParseInt_j3_ev s n d (bt s 0 == 45)
      exact ⟨r, Ev.step (fun k => by rw [spec_ParseInt.j1]) (ev_neg (by simp) (ev_pos h (ev_pos (by omega) h1))), p⟩
    · obtain ⟨r, h1, p⟩ := spec_ParseInt_j3_ev s n d false
      exact ⟨r, Ev.step (fun k => by rw [spec_ParseInt.j1]) (ev_neg (by simp) (ev_neg h h1)), p⟩
  induction c with
  | zero =>
    intro i n d hi h0 hd
    obtain ⟨r, h, p⟩ := fin i n d (by omega) hd
    exact ⟨r, Ev.step (fun k => by rw [spec_ParseInt.l0]) (ev_neg (by omega) h), p⟩
  | succ c ih =>
    intro i n d hi h0 hd
    by_cases hd12 : d < 12
    · have j2f : ∃ r, Ev (fun k => spec_ParseInt.j2 k s n d (i : Int) false) r ∧ PInt s r := by
        by_cases b1 : bt s (i : Int) < 48
        · exact ⟨(0, false), Ev.step (fun k => by rw [spec_ParseInt.j2]) (ev_neg (by simp) (ev_pos (by omega) (ev_pos (by omega) (ev_pos b1 (Ev.now _))))), .inl rfl⟩
        · by_cases b2 : bt s (i : Int) > 57
          · exact ⟨(0, false), Ev.step (fun k => by rw [spec_ParseInt.j2]) (ev_neg (by simp) (ev_pos (by omega) (ev_pos (by omega) (ev_neg b1 (ev_pos b2 (Ev.now _)))))), .inl rfl⟩
          · obtain ⟨r, h, p⟩ := ih (i + 1) (wrap64 ((wrap64 (n * 10)) + ((bt s (i : Int) - 48) % 256))) (d + 1) (by omega) (by omega) (by omega)
            refine ⟨r, Ev.step (fun k => by rw [spec_ParseInt.j2]) (ev_neg (by simp) (ev_pos (by omega) (ev_pos (by omega) (ev_neg b1 (ev_neg b2 ?_))))), p⟩
            rw [w64_succ (by omega), w64 (a := d + 1) (by omega) (by omega)]
            exact h
      by_cases hz : i = 0
      · by_cases hm : bt s (i : Int) == 45
        · obtain ⟨r, h, p⟩ := ih (i + 1) n d (by omega) h0 (by omega)
          refine ⟨r, Ev.step (fun k => by rw [spec_ParseInt.l0]) (ev_pos (by omega) ?_), p⟩
          rw [decide_eq_true hd12]
          refine Ev.step (fun k => by rw [spec_ParseInt.j1]) (ev_pos rfl (ev_pos (by omega) (ev_pos (by omega) (ev_pos (by omega) ?_))))
          rw [hm]
          refine Ev.step (fun k => by rw [spec_ParseInt.j2]) (ev_pos rfl ?_)
          rw [w64_succ (by omega)]
          exact h
        · obtain ⟨r, h, p⟩ := j2f
          refine ⟨r, Ev.step (fun k => by rw [spec_ParseInt.l0]) (ev_pos (by omega) ?_), p⟩
          rw [decide_eq_true hd12]
          refine Ev.step (fun k => by rw [spec_ParseInt.j1]) (ev_pos rfl (ev_pos (by omega) (ev_pos (by omega) (ev_pos (by omega) ?_))))
          rw [Bool.eq_false_iff.mpr hm]
          exact h
      · obtain ⟨r, h, p⟩ := j2f
        refine ⟨r, Ev.step (fun k => by rw [spec_ParseInt.l0]) (ev_pos (by omega) ?_), p⟩
        rw [decide_eq_true hd12]
        exact Ev.step (fun k => by rw [spec_ParseInt.j1]) (ev_pos rfl (ev_neg (by omega) h))
    · obtain ⟨r, h, p⟩ := fin i n d (by omega) hd
      refine ⟨r, Ev.step (fun k => by rw [spec_ParseInt.l0]) (ev_pos (by omega) ?_), p⟩
      rw [decide_eq_false hd12]
      exact h
theorem spec_ParseInt_any (s : ByteArray) (hs : s.size ≤ 1048576) : ∃ r, Ev (fun k => spec_ParseInt.f k s) r ∧ PInt s r := spec_ParseInt_l0_ev s hs s.size 0 0 0 (by omega) (by omega) (by omega)
/-- The number that digits spell behind a number. -/
def valL (acc : Nat) (l : List UInt8) : Nat := l.foldl (fun a b => a * 10 + (b.toNat - 48)) acc
def digL (l : List UInt8) : Prop := ∀ b ∈ l, 48 ≤ b.toNat ∧ b.toNat ≤ 57
theorem digs_dig : ∀ u : Nat, digL (digs u) := by
  intro u
  induction u using Nat.strongRecOn with
  | _ u ih =>
    intro b hb
    by_cases h : u = 0
    · subst h; rw [digs_zero] at hb; cases hb
    · rw [digs_pos h] at hb
      rcases List.mem_append.1 hb with hb | hb
      · exact ih (u / 10) (by omega) b hb
      · obtain rfl : b = UInt8.ofNat (48 + u % 10) := by simpa using hb
        have : (UInt8.ofNat (48 + u % 10)).toNat = 48 + u % 10 := by rw [UInt8.toNat_ofNat']; omega
        omega
theorem digs_val : ∀ u : Nat, valL 0 (digs u) = u := by
  intro u
  induction u using Nat.strongRecOn with
  | _ u ih =>
    by_cases h : u = 0
    · subst h; rw [digs_zero]; rfl
    · rw [digs_pos h]
      have e : (UInt8.ofNat (48 + u % 10)).toNat = 48 + u % 10 := by rw [UInt8.toNat_ofNat']; omega
      unfold valL at ih ⊢
      rw [List.foldl_append, ih (u / 10) (by omega)]
      simp only [List.foldl_cons, List.foldl_nil, e]
      omega
theorem valL_bd : ∀ (l : List UInt8) (acc j : Nat), digL l → acc < 10 ^ j → valL acc l < 10 ^ (j + l.length)
  | [], acc, j, _, h => by simpa [valL] using h
  | b :: l, acc, j, hd, h => by
    have hb := hd b (by simp)
    have := valL_bd l (acc * 10 + (b.toNat - 48)) (j + 1) (fun x hx => hd x (by simp [hx])) (by rw [Nat.pow_succ]; omega)
    rw [List.length_cons, show j + (l.length + 1) = j + 1 + l.length by omega]
    exact this
theorem spec_ParseInt_loop (r : Int × Bool) : ∀ (B A : List UInt8) (acc d j : Nat), A.length + B.length ≤ 1000 → digL B → acc < 10 ^ j → j + B.length ≤ 17 → d + B.length ≤ 11 → 0 < d + B.length → 0 < (A ++ B).length →
    Ev (fun k => spec_ParseInt.j3 k (bs (A ++ B)) ((valL acc B : Nat) : Int) ((d + B.length : Nat) : Int) (bt (bs (A ++ B)) 0 == 45)) r → Ev (fun k => spec_ParseInt.l0 k (bs (A ++ B)) (acc : Int) (d : Int) (A.length : Int)) r
  | [], A, acc, d, j, _, _, _, _, _, hp, hl, h => by
    refine Ev.step (fun k => by rw [spec_ParseInt.l0]) (ev_neg (by rw [bs_size]; simp) ?_)
    refine Ev.step (fun k => by rw [spec_ParseInt.j1]) (ev_neg (by simp) (ev_pos (by simp at hp; omega) (ev_pos (by rw [bs_size]; omega) ?_)))
    simpa [valL] using h
  | b :: B, A, acc, d, j, hA, hd, ha, hj, h11, _, hl, h => by
    have hb := hd b (by simp)
    simp only [List.length_cons] at hj h11
    have h17 : (10 : Nat) ^ j ≤ 10 ^ 16 := Nat.pow_le_pow_right (by omega) (by omega)
    have hbt : bt (bs (A ++ b :: B)) (A.length : Int) = (b.toNat : Int) := by
      rw [bt_bs _ _ (by simp)]; simp
    have hsz : (A.length : Int) < ((bs (A ++ b :: B)).size : Int) := by rw [bs_size]; simp; omega
    have e : A ++ b :: B = (A ++ [b]) ++ B := by simp
    have ih := spec_ParseInt_loop r B (A ++ [b]) (acc * 10 + (b.toNat - 48)) (d + 1) (j + 1) (by simp at hA ⊢; omega) (fun x hx => hd x (by simp [hx])) (by rw [Nat.pow_succ]; omega) (by omega) (by omega) (by omega) (by rw [← e]; exact hl)
      (by rw [← e]
          have e2 : ((d + 1 + B.length : Nat) : Int) = ((d + (b :: B).length : Nat) : Int) := by simp; omega
          rw [e2]; exact h)
    rw [← e] at ih
    have nx : Ev (fun k => spec_ParseInt.j2 k (bs (A ++ b :: B)) (acc : Int) (d : Int) (A.length : Int) false) r := by
      refine Ev.step (fun k => by rw [spec_ParseInt.j2]) (ev_neg (by simp) (ev_pos (by omega) (ev_pos hsz ?_)))
      rw [hbt]
      refine ev_neg (by omega) (ev_neg (by omega) ?_)
      rw [w64 (a := (acc : Int) * 10) (by omega) (by omega), w64_succ (i := d) (by omega), w64_succ (i := A.length) (by omega), show (((b.toNat : Int) - 48) % 256) = ((b.toNat - 48 : Nat) : Int) by omega, w64 (by omega) (by omega)]
      have e3 : (acc : Int) * 10 + ((b.toNat - 48 : Nat) : Int) = ((acc * 10 + (b.toNat - 48) : Nat) : Int) := by omega
      have e4 : (A ++ [b]).length = A.length + 1 := by simp
      rw [e3]
      rw [e4] at ih
      exact ih
    refine Ev.step (fun k => by rw [spec_ParseInt.l0]) (ev_pos hsz ?_)
    rw [decide_eq_true (show (d : Int) < 12 by omega)]
    refine Ev.step (fun k => by rw [spec_ParseInt.j1]) (ev_pos rfl (ev_ite (fun hz => ev_pos (by omega) (ev_pos hsz ?_)) (fun _ => nx)))
    rw [hbt]
    have : ((b.toNat : Int) == 45) = false := beq_eq_false_iff_ne.mpr (by omega)
    rw [this]; exact nx
theorem spec_ParseInt_num (n : Int) (hn : isNum n = true) : Ev (fun k => spec_ParseInt.f k (bs (fmtL n))) (n, true) := by
  have hb := isNum_iff.1 hn
  have hlen := digs_len 9 n.natAbs (by omega)
  have hv := digs_val n.natAbs
  have hd := digs_dig n.natAbs
  unfold spec_ParseInt.f
  by_cases h0 : n = 0
  · subst h0
    have hbt : bt (bs ([] ++ [48])) 0 ≠ 45 := by
      rw [show (0 : Int) = ((0 : Nat) : Int) from rfl, bt_bs _ 0 (by simp)]
      decide
    have d48 : digL [48] := fun b hb => by
      obtain rfl : b = 48 := by simpa using hb
      decide
    refine spec_ParseInt_loop (0, true) [48] [] 0 0 1 (by decide) d48 (by decide) (by decide) (by decide) (by decide) (by decide) ?_
    rw [beq_eq_false_iff_ne.mpr hbt]
    refine Ev.step (fun k => by rw [spec_ParseInt.j3]) (ev_neg (by simp) ?_)
    exact spec_ParseInt_j4_ok (bs ([] ++ [48])) 0 1 (by omega) (by omega) hn rfl
  · have hpos : 0 < (digs n.natAbs).length := by
      rw [digs_pos (by omega)]; simp
    by_cases h1 : n < 0
    · have e : fmtL n = [45] ++ digs n.natAbs := by unfold fmtL; rw [if_neg h0, if_pos h1]; rfl
      have hbt : bt (bs ([45] ++ digs n.natAbs)) 0 = 45 := by rw [show (0 : Int) = ((0 : Nat) : Int) from rfl, bt_bs _ 0 (by simp)]; rfl
      have hl := spec_ParseInt_loop (n, true) (digs n.natAbs) [45] 0 0 1 (by simp; omega) hd (by omega) (by omega) (by omega) (by omega) (by simp)
        (by rw [hbt, hv, show ((45 : Int) == 45) = true from rfl]
            refine Ev.step (fun k => by rw [spec_ParseInt.j3]) (ev_pos rfl ?_)
            rw [w64 (by omega) (by omega), show -((n.natAbs : Nat) : Int) = n by omega]
            exact spec_ParseInt_j4_ok _ _ _ (by omega) (by omega) hn (by rw [e]))
      rw [e]
      refine Ev.step (fun k => by rw [spec_ParseInt.l0]) (ev_pos (by rw [bs_size]; simp) ?_)
      rw [decide_eq_true (show (0 : Int) < 12 by omega)]
      refine Ev.step (fun k => by rw [spec_ParseInt.j1]) (ev_pos rfl (ev_pos (rfl : (0 : Int) = 0) (ev_pos (by omega) (ev_pos (by rw [bs_size]; simp) ?_))))
      rw [hbt, show ((45 : Int) == 45) = true from rfl]
      refine Ev.step (fun k => by rw [spec_ParseInt.j2]) (ev_pos rfl ?_)
      rw [show wrap64 ((0 : Int) + 1) = (([45] : List UInt8).length : Int) from by rw [w64 (by omega) (by omega)]; rfl]
      exact hl
    · have e : fmtL n = [] ++ digs n.natAbs := by unfold fmtL; rw [if_neg h0, if_neg h1]; rfl
      have hbt : bt (bs ([] ++ digs n.natAbs)) 0 ≠ 45 := by
        rw [show (0 : Int) = ((0 : Nat) : Int) from rfl, bt_bs _ 0 (by simpa using hpos)]
        have := hd _ (List.getElem_mem (l := digs n.natAbs) (n := 0) hpos)
        simp only [List.nil_append]
        omega
      rw [e]
      refine spec_ParseInt_loop (n, true) (digs n.natAbs) [] 0 0 1 (by simp; omega) hd (by omega) (by omega) (by omega) (by omega) (by simpa using hpos) ?_
      rw [beq_eq_false_iff_ne.mpr hbt, hv]
      refine Ev.step (fun k => by rw [spec_ParseInt.j3]) (ev_neg (by simp) ?_)
      rw [show ((n.natAbs : Nat) : Int) = n by omega]
      exact spec_ParseInt_j4_ok _ _ _ (by omega) (by omega) hn (by rw [e])
/-- The number that a text is, or nothing. -/
theorem spec_ParseInt_or (s : ByteArray) (hs : s.size ≤ 1048576) : (∃ n, isNum n = true ∧ s = bs (fmtL n) ∧ Ev (fun k => spec_ParseInt.f k s) (n, true)) ∨ ((∀ n, isNum n = true → s ≠ bs (fmtL n)) ∧ Ev (fun k => spec_ParseInt.f k s) (0, false)) := by
  by_cases h : ∃ n, isNum n = true ∧ s = bs (fmtL n)
  · obtain ⟨n, hn, rfl⟩ := h
    exact .inl ⟨n, hn, rfl, spec_ParseInt_num n hn⟩
  · refine .inr ⟨fun n hn e => h ⟨n, hn, e⟩, ?_⟩
    obtain ⟨r, hr, hp | ⟨n, _, hn, e⟩⟩ := spec_ParseInt_any s hs
    · rw [hp] at hr; exact hr
    · exact absurd ⟨n, hn, e.symm⟩ h
theorem decFrom_val : ∀ (l : List UInt8) (acc : Nat), digL l → Lib.decFrom acc l = some (valL acc l)
  | [], _, _ => rfl
  | b :: l, acc, h => by
    have hb := h b (by simp)
    unfold Lib.decFrom Lib.digitVal
    rw [if_pos hb]
    exact decFrom_val l _ (fun x hx => h x (by simp [hx]))
theorem atoi_fmtL (n : Int) (hn : isNum n = true) : Lib.atoi (fmtL n) = some n := by
  have hb := isNum_iff.1 hn
  have hv := digs_val n.natAbs
  have hd := digs_dig n.natAbs
  by_cases h0 : n = 0
  · subst h0; rfl
  · have hne : digs n.natAbs ≠ [] := by rw [digs_pos (by omega)]; simp
    have hnat : Lib.decNat (digs n.natAbs) = some n.natAbs := by
      unfold Lib.decNat
      rw [if_neg (by simpa using hne), decFrom_val _ _ hd, hv]
    by_cases h1 : n < 0
    · have e : fmtL n = 45 :: digs n.natAbs := by unfold fmtL; rw [if_neg h0, if_pos h1]
      rw [e]
      unfold Lib.atoi
      dsimp only
      rw [if_pos (by rfl), hnat, Option.map_some]
      congr 1; omega
    · have e : fmtL n = digs n.natAbs := by unfold fmtL; rw [if_neg h0, if_neg h1]
      rw [e]
      cases hq : digs n.natAbs with
      | nil => exact absurd hq hne
      | cons b r =>
        have hb2 := hd b (by rw [hq]; simp)
        unfold Lib.atoi
        have n45 : (b == 45) = false := beq_eq_false_iff_ne.mpr (fun e => by subst e; revert hb2; decide)
        have n43 : (b == 43) = false := beq_eq_false_iff_ne.mpr (fun e => by subst e; revert hb2; decide)
        dsimp only
        rw [n45, n43, ← hq, hnat]
        simp
        omega
theorem impl_ParseInt_num (n : Int) (hn : isNum n = true) : impl_ParseInt.f (bs (fmtL n)) = some (n, true) := by
  have hb := isNum_iff.1 hn
  have hl := fmtL_len n (by omega) (by omega)
  have hl18 : (fmtL n).length ≤ 18 := by
    have := digs_len 9 n.natAbs (by omega)
    unfold fmtL
    split
    · simp
    · split <;> simp <;> omega
  have ha : Lib.atoiAll (bs (fmtL n)).data.toList = .ok n := by
    show Lib.atoiAll (fmtL n) = _
    rw [Lib.atoiAll_short _ hl18, atoi_fmtL n hn]; rfl
  unfold impl_ParseInt.f
  rw [if_pos (by rw [bs_size]; omega), ha]
  simp only []
  rw [impl_IsNumber_eq, Option.bind_some, if_pos hn, impl_FormatInt_eq n (by omega) (by omega), Option.bind_some, if_pos rfl]
theorem impl_ParseInt_none (s : ByteArray) (hs : s.size ≤ 1048576) (h : ∀ n, isNum n = true → s ≠ bs (fmtL n)) : impl_ParseInt.f s = some (0, false) := by
  unfold impl_ParseInt.f
  rw [if_pos (by omega)]
  cases hA : Lib.atoiAll s.data.toList with
  | ok v =>
    simp only []
    rw [impl_IsNumber_eq, Option.bind_some]
    by_cases hn : isNum v = true
    · have hb := isNum_iff.1 hn
      rw [if_pos hn, impl_FormatInt_eq v (by omega) (by omega), Option.bind_some, if_neg (fun e => h v hn (tl_bs e).symm)]
    · rw [if_neg hn]
  | «syntax» => rfl
  | range => rfl
/-- Cut at each 47. -/
def cut47 : List UInt8 → List (List UInt8)
  | [] => [[]]
  | c :: r => if c = 47 then [] :: cut47 r else (c :: (cut47 r).head!) :: (cut47 r).tail
theorem cut47_ne : ∀ l, cut47 l ≠ []
  | [] => by simp [cut47]
  | c :: r => by unfold cut47; split <;> simp
theorem bs_extract (l : List UInt8) (i j : Nat) : (bs l).extract i j = bs ((l.drop i).take (j - i)) := by
  unfold bs
  apply ByteArray.ext
  simp [List.extract_eq_take_drop]
theorem cut47_none : ∀ l : List UInt8, (∀ b ∈ l, b ≠ 47) → cut47 l = [l]
  | [], _ => rfl
  | c :: r, h => by
    unfold cut47
    rw [if_neg (h c (by simp)), cut47_none r (fun b hb => h b (by simp [hb]))]
    rfl
theorem cut47_two : ∀ (l m : List UInt8), (∀ b ∈ l, b ≠ 47) → (∀ b ∈ m, b ≠ 47) → cut47 (l ++ 47 :: m) = [l, m]
  | [], m, _, h => by
    show cut47 (47 :: m) = _
    unfold cut47
    rw [if_pos rfl, cut47_none m h]
  | c :: r, m, h, h' => by
    show cut47 (c :: (r ++ 47 :: m)) = _
    unfold cut47
    rw [if_neg (h c (by simp)), cut47_two r m (fun b hb => h b (by simp [hb])) h']
    rfl
theorem spec_l1Split_go (l : List UInt8) (hl : l.length ≤ 1048576) : ∀ (R P : List UInt8) (acc : List ByteArray) (fr : Nat), l.drop fr = P ++ R → fr + P.length + R.length = l.length → acc.length ≤ fr →
    Ev (fun k => spec_l1Split.l0 k (bs l) (⟨#[47]⟩ : ByteArray) acc (fr : Int) ((fr + P.length : Nat) : Int)) (acc ++ ((P ++ (cut47 R).head!) :: (cut47 R).tail).map bs)
  | [], P, acc, fr, hd, hn, ha => by
    simp only [List.length_nil] at hn
    have hP : l.drop fr = P := by simpa using hd
    have hsz : ((bs l).size : Int) = (l.length : Int) := by rw [bs_size]
    have one : ((⟨#[47]⟩ : ByteArray).size : Int) = 1 := rfl
    have fin : Ev (fun k => spec_l1Split.l0 k (bs l) (⟨#[47]⟩ : ByteArray) (acc ++ [bs P]) ((l.length + 1 : Nat) : Int) ((l.length + 1 : Nat) : Int)) (acc ++ [bs P]) :=
      Ev.step (fun k => by rw [spec_l1Split.l0]) (ev_neg (by rw [bs_size]; omega) (Ev.now _))
    have hx : (bs l).extract fr (fr + P.length) = bs P := by rw [bs_extract, hP]; simp
    refine Ev.step (fun k => by rw [spec_l1Split.l0]) (ev_pos (by omega) ?_)
    have e : (((fr + P.length : Nat) : Int) == ((bs l).size : Int)) = true := beq_iff_eq.mpr (by omega)
    rw [e]
    refine Ev.step (fun k => by rw [spec_l1Split.l1]) (ev_pos (by rw [one]; omega) (ev_neg (by omega) (ev_pos rfl (ev_pos (by omega) (ev_pos (by omega) (ev_pos (by omega) (ev_pos (by omega) ?_)))))))
    rw [Int.toNat_natCast, Int.toNat_natCast, hx, w64_succ (by omega), show fr + P.length + 1 = l.length + 1 by omega]
    simpa [cut47, List.head!] using fin
  | c :: R, P, acc, fr, hd, hn, ha => by
    simp only [List.length_cons] at hn
    have hsz : ((bs l).size : Int) = (l.length : Int) := by rw [bs_size]
    have one : ((⟨#[47]⟩ : ByteArray).size : Int) = 1 := rfl
    have hlc : l[fr + P.length]'(by omega) = c := by
      have := congrArg (fun x => x[P.length]?) hd
      simp at this
      have h2 := List.getElem?_eq_getElem (l := l) (i := fr + P.length) (by omega)
      rw [h2] at this
      exact Option.some.inj this
    have hbt : bt (bs l) ((fr + P.length : Nat) : Int) = (c.toNat : Int) := by rw [bt_bs l _ (by omega), hlc]
    have hb47 : bt (⟨#[47]⟩ : ByteArray) 0 = 47 := rfl
    have e : (((fr + P.length : Nat) : Int) == ((bs l).size : Int)) = false := beq_eq_false_iff_ne.mpr (by omega)
    have head : ∀ (b : Bool), b = decide (c = 47) → Ev (fun k => spec_l1Split.l1 k (bs l) (⟨#[47]⟩ : ByteArray) acc (fr : Int) ((fr + P.length : Nat) : Int) b 1) (acc ++ ((P ++ (cut47 (c :: R)).head!) :: (cut47 (c :: R)).tail).map bs) := by
      intro b hb
      refine Ev.step (fun k => by rw [spec_l1Split.l1]) (ev_neg (by rw [one]; omega) ?_)
      by_cases hc : c = 47
      · rw [hb, decide_eq_true hc]
        have hx : (bs l).extract fr (fr + P.length) = bs P := by rw [bs_extract, hd]; simp
        refine ev_pos rfl (ev_pos (by omega) (ev_pos (by omega) (ev_pos (by omega) (ev_pos (by omega) ?_))))
        rw [Int.toNat_natCast, Int.toNat_natCast, hx, w64_succ (by omega)]
        have ih := spec_l1Split_go l hl R [] (acc ++ [bs P]) (fr + P.length + 1) (by
          have : l.drop (fr + (P.length + 1)) = R := by rw [← List.drop_drop, hd]; simp
          simpa [Nat.add_assoc] using this) (by simp; omega) (by simp; omega)
        have ec : cut47 (c :: R) = [] :: cut47 R := by rw [cut47, if_pos hc]
        have eh : (cut47 R).head! :: (cut47 R).tail = cut47 R := by
          cases hq : cut47 R with
          | nil => exact absurd hq (cut47_ne R)
          | cons a b => rfl
        rw [ec]
        simp only [List.length_nil, Nat.add_zero, List.nil_append, eh] at ih
        refine ev_eqr ih ?_
        simp [List.head!]
      · rw [hb, decide_eq_false hc]
        refine ev_neg (by simp) ?_
        rw [w64_succ (by omega)]
        have ih := spec_l1Split_go l hl R (P ++ [c]) acc fr (by rw [hd]; simp) (by simp; omega) ha
        have ec : cut47 (c :: R) = (c :: (cut47 R).head!) :: (cut47 R).tail := by rw [cut47, if_neg hc]
        rw [ec]
        rw [show fr + (P ++ [c]).length = fr + P.length + 1 by simp; omega] at ih
        refine ev_eqr ih ?_
        simp [List.head!]
    refine Ev.step (fun k => by rw [spec_l1Split.l0]) (ev_pos (by omega) ?_)
    rw [e]
    refine Ev.step (fun k => by rw [spec_l1Split.l1]) (ev_pos (by rw [one]; omega) (ev_pos (by omega) (ev_neg (by simp) (ev_pos (by omega) (ev_pos (by omega) ?_)))))
    rw [hbt, hb47, show wrap64 ((0 : Int) + 1) = 1 from by rw [w64 (by omega) (by omega)]; rfl]
    refine head _ ?_
    rw [Bool.eq_iff_iff]
    simp only [beq_iff_eq, decide_eq_true_eq]
    constructor
    · intro h
      have h2 : c.toNat = 47 := by omega
      exact UInt8.toNat_inj.1 h2
    · rintro rfl; rfl
theorem spec_l1Split_ev (l : List UInt8) (hl : l.length ≤ 1048576) : Ev (fun k => spec_l1Split.f k (bs l) (⟨#[47]⟩ : ByteArray)) ((cut47 l).map bs) := by
  have := spec_l1Split_go l hl l [] [] 0 (by simp) (by simp) (by simp)
  have eh : (cut47 l).head! :: (cut47 l).tail = cut47 l := by
    cases hq : cut47 l with
    | nil => exact absurd hq (cut47_ne l)
    | cons a b => rfl
  simp only [List.nil_append, eh] at this
  exact this
/-- What reading a ratio gives: it, or nothing. -/
def PRat (s : ByteArray) (r : Int × Int × Bool) : Prop := r = (0, 0, false) ∨ ∃ n d, r = (n, d, true) ∧ isRat n d = true ∧ bs (fmtRL n d) = s
theorem spec_ParseRatio_j0_ev (s : ByteArray) (a b : Int) : ∃ r, Ev (fun k => spec_ParseRatio.j0 k s a b) r ∧ PRat s r := by
  by_cases h1 : isRat (makR a b).1 (makR a b).2 = true
  · by_cases h2 : bs (fmtRL (makR a b).1 (makR a b).2) = s
    · exact ⟨((makR a b).1, (makR a b).2, true), Ev.step (fun k => by rw [spec_ParseRatio.j0]) (Ev.bind (spec_MakeRatio_ev a b) (Ev.bind (spec_IsRatio_ev _ _) (ev_pos h1 (Ev.bind (spec_FormatRatio_ev _ _) (ev_pos (congrArg ByteArray.toList h2) (Ev.now _)))))), .inr ⟨_, _, rfl, h1, h2⟩⟩
    · exact ⟨(0, 0, false), Ev.step (fun k => by rw [spec_ParseRatio.j0]) (Ev.bind (spec_MakeRatio_ev a b) (Ev.bind (spec_IsRatio_ev _ _) (ev_pos h1 (Ev.bind (spec_FormatRatio_ev _ _) (ev_neg (fun e => h2 (tl_bs e)) (Ev.now _)))))), .inl rfl⟩
  · exact ⟨(0, 0, false), Ev.step (fun k => by rw [spec_ParseRatio.j0]) (Ev.bind (spec_MakeRatio_ev a b) (Ev.bind (spec_IsRatio_ev _ _) (ev_neg h1 (Ev.now _)))), .inl rfl⟩
theorem cut47_len : ∀ (l : List UInt8), ∀ p ∈ cut47 l, p.length ≤ l.length
  | [], p, h => by
    obtain rfl : p = [] := by simpa [cut47] using h
    simp
  | c :: r, p, h => by
    unfold cut47 at h
    split at h
    · rcases List.mem_cons.1 h with e | h'
      · rw [e]; simp
      · have := cut47_len r p h'; simp; omega
    · rcases List.mem_cons.1 h with e | h'
      · have hm : (cut47 r).head! ∈ cut47 r := by
          cases hq : cut47 r with
          | nil => exact absurd hq (cut47_ne r)
          | cons a b => simp [List.head!]
        have := cut47_len r _ hm
        rw [e]; simp; omega
      · have := cut47_len r p (List.mem_of_mem_tail h'); simp; omega
theorem spec_ParseRatio_any (l : List UInt8) (hl : l.length ≤ 1048576) : ∃ r, Ev (fun k => spec_ParseRatio.f k (bs l)) r ∧ PRat (bs l) r := by
  unfold spec_ParseRatio.f
  have hs := spec_l1Split_ev l hl
  have hlen := cut47_len l
  cases hq : cut47 l with
  | nil => exact absurd hq (cut47_ne l)
  | cons p ps =>
    rw [hq] at hs hlen
    obtain ⟨r1, e1, _⟩ := spec_ParseInt_any (bs p) (by rw [bs_size]; have := hlen p (by simp); omega)
    cases ps with
    | nil =>
      obtain ⟨r, e, pr⟩ := spec_ParseRatio_j0_ev (bs l) r1.1 1
      exact ⟨r, Ev.bind hs (ev_pos (by simp) (Ev.bind e1 (ev_neg (by simp) e))), pr⟩
    | cons q qs =>
      obtain ⟨r2, e2, _⟩ := spec_ParseInt_any (bs q) (by rw [bs_size]; have := hlen q (by simp); omega)
      obtain ⟨r, e, pr⟩ := spec_ParseRatio_j0_ev (bs l) r1.1 r2.1
      exact ⟨r, Ev.bind hs (ev_pos (by simp; omega) (Ev.bind e1 (ev_pos (by simp; omega) (ev_pos (by simp; omega) (Ev.bind e2 e))))), pr⟩
theorem makR_rat {n d : Int} (h : isRat n d = true) : makR n d = (n, d) := by
  have hb := isRat_iff.1 h
  have n1 : isNum n = true := isNum_iff.2 hb.2.1
  have n2 : isNum d = true := isNum_iff.2 (by omega)
  unfold makR red redOf
  rw [if_pos (by rw [n1, n2]; rfl), if_neg (show ¬ d = 0 by omega), if_neg (show ¬ d < 0 by omega), hb.2.2]
  simp [h]
theorem spec_ParseRatio_j0_ok {n d : Int} (h : isRat n d = true) : Ev (fun k => spec_ParseRatio.j0 k (bs (fmtRL n d)) n d) (n, d, true) := by
  have hm := spec_MakeRatio_ev n d
  rw [makR_rat h] at hm
  exact Ev.step (fun k => by rw [spec_ParseRatio.j0]) (Ev.bind hm (Ev.bind (spec_IsRatio_ev n d) (ev_pos h (Ev.bind (spec_FormatRatio_ev n d) (ev_pos rfl (Ev.now _))))))
theorem fmtL_no47 (n : Int) : ∀ b ∈ fmtL n, b ≠ 47 := by
  have hd := digs_dig n.natAbs
  have k : ∀ b ∈ digs n.natAbs, b ≠ 47 := fun b hb e => by
    have := hd b hb
    rw [e] at this
    exact absurd this.1 (by decide)
  intro b hb
  unfold fmtL at hb
  split at hb
  · obtain rfl : b = 48 := by simpa using hb
    decide
  · split at hb
    · rcases List.mem_cons.1 hb with e | hb
      · rw [e]; decide
      · exact k b hb
    · exact k b hb
theorem spec_ParseRatio_num {n d : Int} (h : isRat n d = true) : Ev (fun k => spec_ParseRatio.f k (bs (fmtRL n d))) (n, d, true) := by
  have hb := isRat_iff.1 h
  have n1 : isNum n = true := isNum_iff.2 hb.2.1
  have n2 : isNum d = true := isNum_iff.2 (by omega)
  have l1 := fmtL_len n (by omega) (by omega)
  have l2 := fmtL_len d (by omega) (by omega)
  have hj := spec_ParseRatio_j0_ok h
  unfold spec_ParseRatio.f
  by_cases h1 : d = 1
  · have e : fmtRL n d = fmtL n := by unfold fmtRL; rw [if_pos h, if_pos h1]
    rw [e] at hj ⊢
    have hs := spec_l1Split_ev (fmtL n) (by omega)
    rw [cut47_none _ (fmtL_no47 n)] at hs
    subst h1
    exact Ev.bind hs (ev_pos (by simp) (Ev.bind (spec_ParseInt_num n n1) (ev_neg (by simp) hj)))
  · have e : fmtRL n d = fmtL n ++ 47 :: fmtL d := by unfold fmtRL; rw [if_pos h, if_neg h1]
    rw [e] at hj ⊢
    have hs := spec_l1Split_ev (fmtL n ++ 47 :: fmtL d) (by simp; omega)
    rw [cut47_two _ _ (fmtL_no47 n) (fmtL_no47 d)] at hs
    exact Ev.bind hs (ev_pos (by simp) (Ev.bind (spec_ParseInt_num n n1) (ev_pos (by simp) (ev_pos (by simp) (Ev.bind (spec_ParseInt_num d n2) hj)))))
theorem impl_ParseInt_or (s : ByteArray) (hs : s.size ≤ 1048576) : (∃ n, isNum n = true ∧ s = bs (fmtL n) ∧ impl_ParseInt.f s = some (n, true)) ∨ impl_ParseInt.f s = some (0, false) := by
  by_cases h : ∃ n, isNum n = true ∧ s = bs (fmtL n)
  · obtain ⟨n, hn, rfl⟩ := h
    exact .inl ⟨n, hn, rfl, impl_ParseInt_num n hn⟩
  · exact .inr (impl_ParseInt_none s hs (fun n hn e => h ⟨n, hn, e⟩))
theorem impl_ParseRatio_j1_ev (s : ByteArray) (hs : s.size ≤ 1048576) (a d : Int) : ∃ r, Ev (fun k => impl_ParseRatio.j1 k s a d) r ∧ (r = (0, 0, false) ∨ ∃ n, r = (n, d, true) ∧ isRat n d = true ∧ s = bs (fmtL n)) := by
  rcases impl_ParseInt_or s hs with ⟨n, hn, e, h⟩ | h
  · by_cases hr : isRat n d = true
    · exact ⟨(n, d, true), Ev.step (fun k => by rw [impl_ParseRatio.j1]) (ev_bindS h (ev_pos rfl (Ev.bind (impl_IsRatio_ev n d) (ev_pos hr (Ev.now _))))), .inr ⟨n, rfl, hr, e⟩⟩
    · exact ⟨(0, 0, false), Ev.step (fun k => by rw [impl_ParseRatio.j1]) (ev_bindS h (ev_pos rfl (Ev.bind (impl_IsRatio_ev n d) (ev_neg hr (Ev.now _))))), .inl rfl⟩
  · exact ⟨(0, 0, false), Ev.step (fun k => by rw [impl_ParseRatio.j1]) (ev_bindS h (ev_neg (show ¬ (false = true) by decide) (Ev.now _))), .inl rfl⟩
theorem impl_ParseRatio_any (l : List UInt8) (hl : l.length ≤ 1048576) : ∃ r, Ev (fun k => impl_ParseRatio.f k (bs l)) r ∧ PRat (bs l) r := by
  unfold impl_ParseRatio.f
  have key : ∀ (c i : Nat), i + c = l.length → ∃ r, Ev (fun k => impl_ParseRatio.l0 k (bs l) (i : Int) 0 1) r ∧ PRat (bs l) r := by
    intro c
    induction c with
    | zero =>
      intro i hi
      obtain ⟨r, h, p⟩ := impl_ParseRatio_j1_ev (bs l) (by rw [bs_size]; exact hl) 0 1
      refine ⟨r, Ev.step (fun k => by rw [impl_ParseRatio.l0]) (ev_neg (by rw [bs_size]; omega) h), p.elim .inl (fun ⟨n, h1, h2, h3⟩ => .inr ⟨n, 1, h1, h2, ?_⟩)⟩
      rw [h3]; unfold fmtRL; rw [if_pos h2, if_pos rfl]
    | succ c ih =>
      intro i hi
      by_cases hb : bt (bs l) (i : Int) = 47
      · have hx : (bs l).extract (i + 1) (bs l).size = bs (l.drop (i + 1)) := by
          rw [bs_extract, bs_size]
          congr 1
          exact List.take_of_length_le (by rw [List.length_drop]; omega)
        have hp : (bs l).extract 0 i = bs (l.take i) := by rw [bs_extract, List.drop_zero, Nat.sub_zero]
        have pre : ∀ {r d} {b : Bool}, impl_ParseInt.f (bs (l.drop (i + 1))) = some (d, b) → Ev (fun k => if b = true then (if (i : Int) ≤ ((bs l).size : Int) then (if d = 1 then (some (0, 0, false)) else (impl_ParseRatio.j1 k (bs (l.take i)) 0 d)) else (none)) else (some (0, 0, false))) r → Ev (fun k => impl_ParseRatio.l0 k (bs l) (i : Int) 0 1) r := fun {r d b} hP hE => by
          refine Ev.step (fun k => by rw [impl_ParseRatio.l0]) (ev_pos (by rw [bs_size]; omega) (ev_pos (by omega) (ev_pos hb ?_)))
          rw [w64_succ (by omega), Int.toNat_natCast, Int.toNat_natCast, hx, hp]
          exact ev_pos (by omega) (ev_pos (by rw [bs_size]; omega) (ev_bindS hP hE))
        have hcut : bs l = bs (l.take i ++ 47 :: l.drop (i + 1)) := by
          congr 1
          have h47 : l[i]'(by omega) = 47 := by
            rw [bt_bs l i (by omega)] at hb
            have : (l[i]'(by omega)).toNat = 47 := by omega
            exact UInt8.toNat_inj.1 this
          rw [← h47, ← List.drop_eq_getElem_cons (by omega), List.take_append_drop]
        rcases impl_ParseInt_or (bs (l.drop (i + 1))) (by rw [bs_size, List.length_drop]; omega) with ⟨d, hd, e, hP⟩ | hP
        · by_cases h1 : d = 1
          · exact ⟨(0, 0, false), pre hP (ev_pos rfl (ev_pos (by rw [bs_size]; omega) (ev_pos h1 (Ev.now _)))), .inl rfl⟩
          · obtain ⟨r, h, p⟩ := impl_ParseRatio_j1_ev (bs (l.take i)) (by rw [bs_size, List.length_take]; omega) 0 d
            refine ⟨r, pre hP (ev_pos rfl (ev_pos (by rw [bs_size]; omega) (ev_neg h1 h))), p.elim .inl (fun ⟨n, h2, h3, h4⟩ => .inr ⟨n, d, h2, h3, ?_⟩)⟩
            rw [hcut]
            unfold fmtRL
            rw [if_pos h3, if_neg h1]
            have e1 : l.take i = fmtL n := by have := congrArg ByteArray.toList h4; rwa [bs_toList, bs_toList] at this
            have e2 : l.drop (i + 1) = fmtL d := by have := congrArg ByteArray.toList e; rwa [bs_toList, bs_toList] at this
            rw [e1, e2]
        · exact ⟨(0, 0, false), pre hP (ev_neg (show ¬ (false = true) by decide) (Ev.now _)), .inl rfl⟩
      · obtain ⟨r, h, p⟩ := ih (i + 1) (by omega)
        refine ⟨r, Ev.step (fun k => by rw [impl_ParseRatio.l0]) (ev_pos (by rw [bs_size]; omega) (ev_pos (by omega) (ev_neg hb ?_))), p⟩
        rw [w64_succ (by omega)]
        exact h
  exact key l.length 0 (by omega)
theorem impl_ParseRatio_skip (r : Int × Int × Bool) (l : List UInt8) (hl : l.length ≤ 1048576) : ∀ (c i : Nat), i + c ≤ l.length → (∀ b ∈ (l.drop i).take c, b ≠ 47) → Ev (fun k => impl_ParseRatio.l0 k (bs l) ((i + c : Nat) : Int) 0 1) r → Ev (fun k => impl_ParseRatio.l0 k (bs l) (i : Int) 0 1) r
  | 0, i, _, _, h => h
  | c + 1, i, hi, hn, h => by
    have hq := List.drop_eq_getElem_cons (l := l) (i := i) (by omega)
    have hb : bt (bs l) (i : Int) ≠ 47 := by
      rw [bt_bs l i (by omega)]
      have := hn (l[i]'(by omega)) (by rw [hq, List.take_succ_cons]; exact List.mem_cons_self)
      intro e
      have h2 : (l[i]'(by omega)).toNat = 47 := by omega
      exact this (UInt8.toNat_inj.1 h2)
    have ih := impl_ParseRatio_skip r l hl c (i + 1) (by omega) (fun b hb' => hn b (by rw [hq, List.take_succ_cons]; exact List.mem_cons_of_mem _ hb')) (by rw [show i + 1 + c = i + (c + 1) by omega]; exact h)
    refine Ev.step (fun k => by rw [impl_ParseRatio.l0]) (ev_pos (by rw [bs_size]; omega) (ev_pos (by omega) (ev_neg hb ?_)))
    rw [w64_succ (by omega)]
    exact ih
theorem impl_ParseRatio_num {n d : Int} (h : isRat n d = true) : Ev (fun k => impl_ParseRatio.f k (bs (fmtRL n d))) (n, d, true) := by
  have hb := isRat_iff.1 h
  have n1 : isNum n = true := isNum_iff.2 hb.2.1
  have n2 : isNum d = true := isNum_iff.2 (by omega)
  have l1 := fmtL_len n (by omega) (by omega)
  have l2 := fmtL_len d (by omega) (by omega)
  have j1 : Ev (fun k => impl_ParseRatio.j1 k (bs (fmtL n)) 0 d) (n, d, true) := Ev.step (fun k => by rw [impl_ParseRatio.j1]) (ev_bindS (impl_ParseInt_num n n1) (ev_pos rfl (Ev.bind (impl_IsRatio_ev n d) (ev_pos h (Ev.now _)))))
  unfold impl_ParseRatio.f
  by_cases h1 : d = 1
  · have e : fmtRL n d = fmtL n := by unfold fmtRL; rw [if_pos h, if_pos h1]
    rw [e]
    subst h1
    refine impl_ParseRatio_skip _ (fmtL n) (by omega) (fmtL n).length 0 (by omega) (fun b hb' => fmtL_no47 n b (by simpa using hb')) ?_
    exact Ev.step (fun k => by rw [impl_ParseRatio.l0]) (ev_neg (by rw [bs_size]; omega) j1)
  · have e : fmtRL n d = fmtL n ++ 47 :: fmtL d := by unfold fmtRL; rw [if_pos h, if_neg h1]
    rw [e]
    have hsz : (bs (fmtL n ++ 47 :: fmtL d)).size = (fmtL n).length + 1 + (fmtL d).length := by rw [bs_size]; simp; omega
    refine impl_ParseRatio_skip _ _ (by simp; omega) (fmtL n).length 0 (by simp) (fun b hb' => fmtL_no47 n b (by simpa using hb')) ?_
    rw [Nat.zero_add]
    have hbt : bt (bs (fmtL n ++ 47 :: fmtL d)) ((fmtL n).length : Int) = 47 := by rw [bt_bs _ _ (by simp)]; simp
    refine Ev.step (fun k => by rw [impl_ParseRatio.l0]) (ev_pos (by omega) (ev_pos (by omega) (ev_pos hbt ?_)))
    have hx : (bs (fmtL n ++ 47 :: fmtL d)).extract ((fmtL n).length + 1) (bs (fmtL n ++ 47 :: fmtL d)).size = bs (fmtL d) := by
      rw [hsz, bs_extract]
      congr 1
      rw [show (fmtL n ++ 47 :: fmtL d).drop ((fmtL n).length + 1) = fmtL d by rw [← List.drop_drop]; simp]
      exact List.take_of_length_le (by omega)
    have hp : (bs (fmtL n ++ 47 :: fmtL d)).extract 0 (fmtL n).length = bs (fmtL n) := by rw [bs_extract, List.drop_zero, Nat.sub_zero, List.take_left]
    rw [w64_succ (by omega), Int.toNat_natCast, Int.toNat_natCast, hx, hp]
    exact ev_pos (by omega) (ev_pos (by omega) (ev_bindS (impl_ParseInt_num d n2) (ev_pos rfl (ev_pos (by omega) (ev_neg h1 j1)))))

end Go.Proofs.YtohoibekddhneaaDoor.LFnExactParseRatio
