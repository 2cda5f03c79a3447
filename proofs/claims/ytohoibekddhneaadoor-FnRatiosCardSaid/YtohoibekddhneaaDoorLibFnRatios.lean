/- What the printed functions of the law FnRatios compute, in plain words; each holds under the bounds that it names. -/
import Derived.Test.YtohoibekddhneaaDoorQFnRatiosx
import Derived.Test.YtohoibekddhneaaDoorPlainFnRatios
import Derived.Test.YtohoibekddhneaaDoorPlainAFnRatios
import Derived.Test.YtohoibekddhneaaDoorPlainBFnRatios
set_option linter.unusedVariables false
set_option linter.unusedSimpArgs false
namespace Go.Proofs.YtohoibekddhneaaDoor.LFnRatios
open Go.RowKit Go.Proofs.YtohoibekddhneaaDoor.PFnRatios Go.Proofs.YtohoibekddhneaaDoor.Pl Go.Proofs.YtohoibekddhneaaDoorW.PrintWords Go.Proofs.YtohoibekddhneaaDoorW.PrintLast Go.Proofs.YtohoibekddhneaaDoorW.PrintMore

theorem spec_l1In_eq (a b c : Int) : spec_l1In.f a b c = some (decide (b ≤ a) && decide (a ≤ c)) := by
  unfold spec_l1In.f
  by_cases h : b ≤ a
  · rw [if_pos h]; simp [h]
  · rw [if_neg h]; simp [h]
theorem spec_IsNumber_eq (n : Int) : spec_IsNumber.f n = some (isNum n) := by
  unfold spec_IsNumber.f
  rw [spec_l1In_eq]; rfl
theorem impl_IsNumber_eq (n : Int) : impl_IsNumber.f n = some (isNum n) := by
  unfold impl_IsNumber.f isNum
  by_cases h : n ≥ -400000000
  · rw [if_pos h]
    have h' : -400000000 ≤ n := h
    simp [h']
  · rw [if_neg h]
    have h' : ¬ -400000000 ≤ n := h
    simp [h']
theorem spec_l1Abs_eq (a : Int) (h : -9223372036854775807 ≤ a) (h' : a ≤ 9223372036854775807) : spec_l1Abs.f a = some (a.natAbs : Int) := by
  unfold spec_l1Abs.f mx
  rw [w64 (by omega) (by omega)]
  congr 1
  split <;> omega
theorem impl_absolute_eq (a : Int) (h : -9223372036854775807 ≤ a) (h' : a ≤ 9223372036854775807) : impl_absolute.f a = some (a.natAbs : Int) := by
  unfold impl_absolute.f
  by_cases c : a < 0
  · rw [if_pos c, w64 (by omega) (by omega)]; congr 1; omega
  · rw [if_neg c]; congr 1; omega
theorem impl_commonDivisor_l0_ev (a b : Int) : Ev (fun k => impl_commonDivisor.l0 k a b) (eu a b) := by
  fun_induction eu a b with
  | case1 a => exact Ev.step (f := fun _ => some a) (fun k => by simp [impl_commonDivisor.l0]) (Ev.now a)
  | case2 a b h ih => exact Ev.step (fun k => by simp only [impl_commonDivisor.l0]; rw [if_neg h]) ih
theorem impl_commonDivisor_ev (a b : Int) (h : -9223372036854775807 ≤ a ∧ a ≤ 9223372036854775807) (h' : -9223372036854775807 ≤ b ∧ b ≤ 9223372036854775807) : Ev (fun k => impl_commonDivisor.f k a b) (Int.gcd a b : Int) := by
  unfold impl_commonDivisor.f
  rw [impl_absolute_eq a h.1 h.2, impl_absolute_eq b h'.1 h'.2]
  simp only [Option.bind_some]
  rw [← eu_abs]
  exact impl_commonDivisor_l0_ev _ _
theorem spec_GcdOf_l0_ev (a b : Int) (h : -9223372036854775807 ≤ a ∧ a ≤ 9223372036854775807) (h' : -9223372036854775807 ≤ b ∧ b ≤ 9223372036854775807) : Ev (fun k => spec_GcdOf.l0 k a b) (Int.gcd a b : Int) := by
  rw [← eu_gcd]
  fun_induction eu a b with
  | case1 a => exact Ev.step (f := fun _ => some (a.natAbs : Int)) (fun k => by simp [spec_GcdOf.l0, spec_l1Abs_eq a h.1 h.2]) (Ev.now _)
  | case2 a b hb ih =>
    have := tmod_lt (a := a) hb
    exact Ev.step (fun k => by simp only [spec_GcdOf.l0]; rw [if_neg hb]) (ih h' (by omega))
theorem spec_GcdOf_ev (a b : Int) : Ev (fun k => spec_GcdOf.f k a b) (gcdOf a b) := by
  unfold spec_GcdOf.f gcdOf
  rw [spec_IsNumber_eq, spec_IsNumber_eq]
  simp only [Option.bind_some]
  cases ha : isNum a with
  | false => exact Ev.step (f := fun _ => some 0) (fun k => by simp [spec_GcdOf.j0]) (Ev.now _)
  | true =>
    cases hb : isNum b with
    | false => exact Ev.step (f := fun _ => some 0) (fun k => by simp [spec_GcdOf.j0]) (Ev.now _)
    | true =>
      rw [isNum_iff] at ha hb
      exact Ev.step (f := fun k => spec_GcdOf.l0 k a b) (fun k => by simp [spec_GcdOf.j0]) (spec_GcdOf_l0_ev a b (by omega) (by omega))
theorem impl_GcdOf_ev (a b : Int) : Ev (fun k => impl_GcdOf.f k a b) (gcdOf a b) := by
  unfold impl_GcdOf.f gcdOf
  rw [impl_IsNumber_eq, impl_IsNumber_eq]
  simp only [Option.bind_some]
  cases ha : isNum a with
  | false => simp; exact Ev.now _
  | true =>
    cases hb : isNum b with
    | false => simp; exact Ev.now _
    | true =>
      rw [isNum_iff] at ha hb
      simp only [if_true, Bool.and_self]
      exact Ev.bind (impl_commonDivisor_ev a b (by omega) (by omega)) (Ev.now _)
theorem spec_IsRatio_ev (n d : Int) : Ev (fun k => spec_IsRatio.f k n d) (isRat n d) := by
  unfold spec_IsRatio.f isRat
  rw [spec_l1In_eq, spec_IsNumber_eq]
  simp only [Option.bind_some]
  cases h1 : decide (1 ≤ d) && decide (d ≤ 400000000) with
  | false => simp; exact Ev.now _
  | true =>
    cases h2 : isNum n with
    | false => simp; exact Ev.now _
    | true =>
      simp only [if_true, Bool.true_and]
      refine Ev.bind (spec_GcdOf_ev n d) (ev_some ?_)
      have h3 : isNum d = true := by simp at h1; rw [isNum_iff]; omega
      simp only [gcdOf, h2, h3, Bool.and_self, if_true]
      rw [Bool.eq_iff_iff]; simp; omega
theorem impl_IsRatio_ev (n d : Int) : Ev (fun k => impl_IsRatio.f k n d) (isRat n d) := by
  unfold impl_IsRatio.f isRat
  rw [impl_IsNumber_eq]
  simp only [Option.bind_some]
  refine ev_ite (fun h1 => ev_ite (fun h2 => ?_) (fun h2 => ev_some ?_)) (fun h1 => ev_some ?_)
  · have h1' : 1 ≤ d := h1
    cases h3 : isNum n with
    | false => simp; exact Ev.now _
    | true =>
      simp only [if_true, h1', h2, decide_true, Bool.and_self, Bool.true_and]
      refine Ev.bind (impl_GcdOf_ev n d) (ev_some ?_)
      have h4 : isNum d = true := by rw [isNum_iff]; omega
      simp only [gcdOf, h3, h4, Bool.and_self, if_true]
      rw [Bool.eq_iff_iff]; simp; omega
  · simp [h2]
  · have h1' : ¬ 1 ≤ d := h1
    simp [h1']
theorem spec_l2Make_l0_ev (n d a b : Int) (hn : -9223372036854775807 ≤ n ∧ n ≤ 9223372036854775807) (hd : -9223372036854775807 ≤ d ∧ d ≤ 9223372036854775807)
    (h : -9223372036854775807 ≤ a ∧ a ≤ 9223372036854775807) (h' : -9223372036854775807 ≤ b ∧ b ≤ 9223372036854775807) (hg : (Int.gcd a b : Int) = Int.gcd n d) (hz : ¬ d = 0) : Ev (fun k => spec_l2Make.l0 k n d a b) (redOf n d) := by
  have hp := gcd_pos n d hz
  have he := eu_gcd a b
  revert he
  fun_induction eu a b with
  | case1 a =>
    intro he
    refine Ev.step (fun k => by simp only [spec_l2Make.l0, if_true]; rw [spec_l1Abs_eq a h.1 h.2, Option.bind_some]) ?_
    have e : (a.natAbs : Int) = Int.gcd n d := by rw [← hg, ← he]
    rw [e]
    refine ev_ite (fun h0 => by omega) (fun _ => ?_)
    rw [w64_tdiv hn.1 hn.2, w64_tdiv hd.1 hd.2]
    unfold redOf
    refine Ev.bind (spec_IsRatio_ev _ _) ?_
    exact ev_ite (fun h => by rw [if_pos h]; exact Ev.now _) (fun h => by rw [if_neg h]; exact Ev.now _)
  | case2 a b hb ih =>
    intro he
    have := tmod_lt (a := a) hb
    refine Ev.step (fun k => by simp only [spec_l2Make.l0]; rw [if_neg hb]) (ih h' (by omega) ?_ ?_)
    · rw [← hg]
      have e1 := eu_gcd b (a.tmod b)
      have e2 := eu_gcd a b
      have e3 : eu a b = eu b (a.tmod b) := by rw [eu]; simp [hb]
      rw [e3] at e2
      omega
    · exact eu_gcd _ _
theorem spec_l2Make_ev (n d : Int) (hn : -9223372036854775807 ≤ n ∧ n ≤ 9223372036854775807) (hd : -9223372036854775807 ≤ d ∧ d ≤ 9223372036854775807) : Ev (fun k => spec_l2Make.f k n d) (red n d) := by
  unfold spec_l2Make.f red
  refine ev_ite (fun h => by rw [if_pos h]; exact Ev.now _) (fun h => ?_)
  rw [if_neg h]
  refine ev_ite (fun h' => ?_) (fun h' => ?_)
  · rw [if_pos h', w64 (by omega) (by omega), w64 (by omega) (by omega)]
    exact Ev.step (fun k => by simp only [spec_l2Make.j0]) (spec_l2Make_l0_ev _ _ _ _ (by omega) (by omega) (by omega) (by omega) rfl (by omega))
  · rw [if_neg h']
    exact Ev.step (fun k => by simp only [spec_l2Make.j0]) (spec_l2Make_l0_ev _ _ _ _ (by omega) (by omega) (by omega) (by omega) rfl (by omega))
theorem impl_reducedRatio_j0_ev (n d : Int) (hn : -9223372036854775807 ≤ n ∧ n ≤ 9223372036854775807) (hd : -9223372036854775807 ≤ d ∧ d ≤ 9223372036854775807) (hz : ¬ d = 0) : Ev (fun k => impl_reducedRatio.j0 k n d) (redOf n d) := by
  have hp := gcd_pos n d hz
  refine Ev.step (fun k => by rw [impl_reducedRatio.j0]) ?_
  refine Ev.bind (impl_commonDivisor_ev n d hn hd) ?_
  refine ev_ite (fun h0 => by omega) (fun _ => ?_)
  rw [w64_tdiv hn.1 hn.2, w64_tdiv hd.1 hd.2]
  unfold redOf
  refine Ev.bind (impl_IsRatio_ev _ _) ?_
  exact ev_ite (fun h => by rw [if_pos h]; exact Ev.now _) (fun h => by rw [if_neg h]; exact Ev.now _)
theorem impl_reducedRatio_ev (n d : Int) (hn : -9223372036854775807 ≤ n ∧ n ≤ 9223372036854775807) (hd : -9223372036854775807 ≤ d ∧ d ≤ 9223372036854775807) : Ev (fun k => impl_reducedRatio.f k n d) (red n d) := by
  unfold impl_reducedRatio.f red
  refine ev_ite (fun h => by rw [if_pos h]; exact Ev.now _) (fun h => ?_)
  rw [if_neg h]
  refine ev_ite (fun h' => ?_) (fun h' => ?_)
  · rw [if_pos h', w64 (by omega) (by omega), w64 (by omega) (by omega)]
    exact impl_reducedRatio_j0_ev _ _ (by omega) (by omega) (by omega)
  · rw [if_neg h']
    exact impl_reducedRatio_j0_ev _ _ (by omega) (by omega) (by omega)
theorem spec_MakeRatio_ev (n d : Int) : Ev (fun k => spec_MakeRatio.f k n d) (makR n d) := by
  unfold spec_MakeRatio.f makR
  rw [spec_IsNumber_eq, spec_IsNumber_eq]
  simp only [Option.bind_some]
  cases ha : isNum n with
  | false => simp; exact Ev.now _
  | true =>
    cases hb : isNum d with
    | false => simp; exact Ev.now _
    | true =>
      rw [isNum_iff] at ha hb
      simp only [if_true, Bool.and_self]
      exact Ev.bind (spec_l2Make_ev n d (by omega) (by omega)) (Ev.now _)
theorem impl_AddRatios_ev (a b c d : Int) : Ev (fun k => impl_AddRatios.f k a b c d) (addR a b c d) := by
  unfold impl_AddRatios.f addR
  refine Ev.bind (impl_IsRatio_ev a b) (ev_ite (fun h1 => Ev.bind (impl_IsRatio_ev c d) (ev_ite (fun h2 => ?_) (fun h2 => ?_))) (fun h1 => ?_))
  · simp only [h1, h2, Bool.and_self, if_true]
    rw [isRat_iff] at h1 h2
    have m1 := mul_bd (a := a) (b := d) (by omega) (by omega)
    have m2 := mul_bd (a := c) (b := b) (by omega) (by omega)
    have m3 := mul_bd (a := b) (b := d) (by omega) (by omega)
    rw [w64 (a := a * d) (by omega) (by omega), w64 (a := c * b) (by omega) (by omega), w64 (a := b * d) (by omega) (by omega), w64 (by omega) (by omega)]
    exact Ev.bind (impl_reducedRatio_ev _ _ (by omega) (by omega)) (Ev.now _)
  · simp [h2]; exact Ev.now _
  · simp [h1]; exact Ev.now _
theorem impl_MultiplyRatios_ev (a b c d : Int) : Ev (fun k => impl_MultiplyRatios.f k a b c d) (mulR a b c d) := by
  unfold impl_MultiplyRatios.f mulR
  refine Ev.bind (impl_IsRatio_ev a b) (ev_ite (fun h1 => Ev.bind (impl_IsRatio_ev c d) (ev_ite (fun h2 => ?_) (fun h2 => ?_))) (fun h1 => ?_))
  · simp only [h1, h2, Bool.and_self, if_true]
    rw [isRat_iff] at h1 h2
    have m1 := mul_bd (a := a) (b := c) (by omega) (by omega)
    have m3 := mul_bd (a := b) (b := d) (by omega) (by omega)
    rw [w64 (a := a * c) (by omega) (by omega), w64 (a := b * d) (by omega) (by omega)]
    exact Ev.bind (impl_reducedRatio_ev _ _ (by omega) (by omega)) (Ev.now _)
  · simp [h2]; exact Ev.now _
  · simp [h1]; exact Ev.now _
theorem impl_DivideRatios_ev (a b c d : Int) : Ev (fun k => impl_DivideRatios.f k a b c d) (divR a b c d) := by
  unfold impl_DivideRatios.f divR
  refine Ev.bind (impl_IsRatio_ev a b) (ev_ite (fun h1 => Ev.bind (impl_IsRatio_ev c d) (ev_ite (fun h2 => ?_) (fun h2 => ?_))) (fun h1 => ?_))
  · simp only [h1, h2, Bool.and_self, if_true]
    rw [isRat_iff] at h1 h2
    have m1 := mul_bd (a := a) (b := d) (by omega) (by omega)
    have m3 := mul_bd (a := b) (b := c) (by omega) (by omega)
    rw [w64 (a := a * d) (by omega) (by omega), w64 (a := b * c) (by omega) (by omega)]
    refine ev_ite (fun h => by rw [if_pos h]; exact Ev.now _) (fun h => ?_)
    rw [if_neg h]
    exact Ev.bind (impl_reducedRatio_ev _ _ (by omega) (by omega)) (Ev.now _)
  · simp [h2]; exact Ev.now _
  · simp [h1]; exact Ev.now _
theorem impl_NegateRatio_ev (a b : Int) : Ev (fun k => impl_NegateRatio.f k a b) (negR a b) := by
  unfold impl_NegateRatio.f negR
  refine Ev.bind (impl_IsRatio_ev a b) (ev_ite (fun h1 => ?_) (fun h1 => ?_))
  · rw [if_pos h1]
    rw [isRat_iff] at h1
    rw [w64 (by omega) (by omega)]; exact Ev.now _
  · rw [if_neg h1]; exact Ev.now _
theorem impl_CompareRatios_ev (a b c d : Int) : Ev (fun k => impl_CompareRatios.f k a b c d) (cmpR a b c d) := by
  unfold impl_CompareRatios.f cmpR
  refine Ev.bind (impl_IsRatio_ev a b) (ev_ite (fun h1 => Ev.bind (impl_IsRatio_ev c d) ?_) (fun h1 => ?_))
  · cases h2 : isRat c d with
    | false => simp; exact Ev.step (f := fun _ => some 2) (fun k => by simp [impl_CompareRatios.j0]) (Ev.now _)
    | true =>
      simp only [h1, Bool.and_self, if_true, Bool.not_true]
      refine Ev.step (fun k => by simp only [impl_CompareRatios.j0]; rw [if_neg (by simp)]) ?_
      rw [isRat_iff] at h1 h2
      have m1 := mul_bd (a := a) (b := d) (by omega) (by omega)
      have m2 := mul_bd (a := c) (b := b) (by omega) (by omega)
      rw [w64 (a := a * d) (by omega) (by omega), w64 (a := c * b) (by omega) (by omega)]
      refine ev_ite (fun h => by rw [if_pos h]; exact Ev.now _) (fun h => ?_)
      rw [if_neg h]
      exact ev_ite (fun h' => by rw [if_pos h']; exact Ev.now _) (fun h' => by rw [if_neg h']; exact Ev.now _)
  · simp [h1]; exact Ev.step (f := fun _ => some 2) (fun k => by simp [impl_CompareRatios.j0]) (Ev.now _)
theorem laws_big_eq (l : List Int) : laws_big.f l = some (decide ((l.length : Int) > 1048576)) := rfl
theorem i64_and255 (n : Int) : Go.bits .and .i64 n 255 = n % 256 := by
  have h127 : (BitVec.ofInt 64 255).toNat = 2 ^ 8 - 1 := by decide
  have key : (BitVec.ofInt 64 n &&& BitVec.ofInt 64 255).toNat = (n % ((2 ^ 64 : Nat) : Int)).toNat % 2 ^ 8 := by
    rw [BitVec.toNat_and, BitVec.toNat_ofInt, h127, Nat.and_two_pow_sub_one_eq_mod]
  show IntKind.i64.wrap ((BitVec.ofInt 64 n &&& BitVec.ofInt 64 255).toNat : Nat) = n % 256
  rw [key, IntKind.wrap_i64]
  omega
/-- Some rounds give a value of which `P` holds. -/
def Tot {α : Type} (g : Nat → Option α) (P : α → Prop) : Prop := ∃ r, Ev g r ∧ P r
theorem Tot.bind {α β : Type} {g : Nat → Option α} {f : Nat → α → Option β} {P : α → Prop} {Q : β → Prop} (h : Tot g P) (k : ∀ a, P a → Tot (fun n => f n a) Q) : Tot (fun n => (g n).bind (f n)) Q := by
  obtain ⟨a, ha, hp⟩ := h
  obtain ⟨b, hb, hq⟩ := k a hp
  exact ⟨b, Ev.bind ha hb, hq⟩
theorem Tot.ite {α : Type} {c : Prop} [Decidable c] {g f : Nat → Option α} {P : α → Prop} (h : c → Tot g P) (h' : ¬ c → Tot f P) : Tot (fun k => if c then g k else f k) P := by
  by_cases hc : c
  · simp only [hc, if_true]; exact h hc
  · simp only [hc, if_false]; exact h' hc
theorem Tot.pos {α : Type} {c : Prop} [Decidable c] {g f : Nat → Option α} {P : α → Prop} (hc : c) (h : Tot g P) : Tot (fun k => if c then g k else f k) P := by
  simp only [hc, if_true]; exact h
theorem Tot.now {α : Type} {a : α} {P : α → Prop} (h : P a) : Tot (fun _ => some a) P := ⟨a, Ev.now a, h⟩
theorem Tot.mono {α : Type} {g : Nat → Option α} {P Q : α → Prop} (h : Tot g P) (k : ∀ a, P a → Q a) : Tot g Q := by
  obtain ⟨a, ha, hp⟩ := h
  exact ⟨a, ha, k a hp⟩
theorem Tot.step {α : Type} {g f : Nat → Option α} {P : α → Prop} (h : ∀ k, g (k + 1) = f k) (k : Tot f P) : Tot g P := by
  obtain ⟨a, ha, hp⟩ := k
  exact ⟨a, Ev.step h ha, hp⟩
theorem Tot.ev {α : Type} {g : Nat → Option α} {r : α} {P : α → Prop} (h : Ev g r) (hp : P r) : Tot g P := ⟨r, h, hp⟩
theorem spec_l1Byte_tot (l : List Int) (p t : Int) (hl : l.length ≤ 1048576) (hp : 0 ≤ p) : Tot (fun _ => spec_l1Byte.f l p t) (fun r => (0 ≤ r.1 ∧ r.1 ≤ 255) ∧ 0 ≤ r.2.1) := by
  unfold spec_l1Byte.f
  refine Tot.ite (fun h => Tot.pos hp (Tot.now ⟨?_, ?_⟩)) (fun h => Tot.now ⟨?_, hp⟩)
  · simp only [i64_and255]; omega
  · show 0 ≤ wrap64 (p + 1)
    rw [w64 (by omega) (by omega)]; omega
  · simp only [i64_and255]; omega
theorem spec_l1Below_tot (l : List Int) (p t a : Int) (hl : l.length ≤ 1048576) (hp : 0 ≤ p) : Tot (fun _ => spec_l1Below.f l p t a) (fun r => (0 ≤ r.1 ∧ (0 < a → r.1 < a)) ∧ 0 ≤ r.2.1) := by
  unfold spec_l1Below.f
  refine Tot.ite (fun h => Tot.now ⟨⟨by simp, fun h' => by simp; omega⟩, hp⟩) (fun h => Tot.ite (fun h1 => ?_) (fun h1 => ?_))
  · refine Tot.bind (spec_l1Byte_tot l p t hl hp) (fun r hr => ?_)
    have e : ¬ a = 0 := by omega
    simp only [e, if_false]
    exact Tot.now ⟨⟨Int.tmod_nonneg _ hr.1.1, fun h' => Int.tmod_lt_of_pos _ h'⟩, hr.2⟩
  · refine Tot.bind (spec_l1Byte_tot l p t hl hp) (fun r1 h1 => Tot.bind (spec_l1Byte_tot l _ _ hl h1.2) (fun r2 h2 => Tot.bind (spec_l1Byte_tot l _ _ hl h2.2) (fun r3 h3 => Tot.bind (spec_l1Byte_tot l _ _ hl h3.2) (fun r4 h4 => ?_))))
    have e : ¬ a = 0 := by omega
    simp only [e, if_false]
    refine Tot.now ⟨⟨Int.tmod_nonneg _ ?_, fun h' => Int.tmod_lt_of_pos _ h'⟩, h4.2⟩
    obtain ⟨⟨a1, b1⟩, _⟩ := h1
    obtain ⟨⟨a2, b2⟩, _⟩ := h2
    obtain ⟨⟨a3, b3⟩, _⟩ := h3
    obtain ⟨⟨a4, b4⟩, _⟩ := h4
    rw [w64 (a := r1.1 * 16777216) (by omega) (by omega), w64 (a := r2.1 * 65536) (by omega) (by omega), w64 (a := r3.1 * 256) (by omega) (by omega),
      w64 (a := r1.1 * 16777216 + r2.1 * 65536) (by omega) (by omega), w64 (a := r1.1 * 16777216 + r2.1 * 65536 + r3.1 * 256) (by omega) (by omega), w64 (by omega) (by omega)]
    omega
theorem spec_l1PickInt_tot (l : List Int) (p t : Int) (m : List Int) (hl : l.length ≤ 1048576) (hp : 0 ≤ p) (hm : 0 < m.length) : Tot (fun _ => spec_l1PickInt.f l p t m) (fun r => 0 ≤ r.2.1) := by
  unfold spec_l1PickInt.f
  refine Tot.bind (spec_l1Below_tot l p t _ hl hp) (fun r hr => ?_)
  exact Tot.pos hr.1.1 (Tot.pos (hr.1.2 (by omega)) (Tot.now hr.2))
theorem spec_l1Odd_tot (l : List Int) (p t : Int) (hl : l.length ≤ 1048576) (hp : 0 ≤ p) : Tot (fun _ => spec_l1Odd.f l p t) (fun r => 0 ≤ r.2.1) := by
  unfold spec_l1Odd.f
  exact Tot.bind (spec_l1PickInt_tot l p t _ hl hp (by simp)) (fun r hr => Tot.now hr)
theorem spec_l1New_tot (l : List Int) (hl : l.length ≤ 1048576) : Tot (fun k => spec_l1New.f k l) (fun r => r.1 = l ∧ 0 ≤ r.2.1) := by
  unfold spec_l1New.f
  have key : ∀ i, i ≤ l.length → ∀ x, Tot (fun k => spec_l1New.l0 k l x (i : Nat)) (fun r => r.1 = l ∧ 0 ≤ r.2.1) := by
    refine down l.length ?_ ?_
    · intro x
      refine Tot.step (fun k => by rw [spec_l1New.l0, if_neg (by omega)]) (Tot.now ⟨rfl, by simp⟩)
    · intro i hi ih x
      refine Tot.step (fun k => by rw [spec_l1New.l0]) ?_
      refine Tot.pos (by omega) (Tot.ite (fun _ => Tot.pos (by omega) ?_) (fun _ => Tot.now ⟨rfl, by simp⟩))
      rw [w64_succ (by omega)]
      exact ih _
  exact key 0 (by omega) _
theorem spec_l2Any_tot (l : List Int) (p t : Int) (hl : l.length ≤ 1048576) (hp : 0 ≤ p) : Tot (fun k => spec_l2Any.f k l p t) (fun r => 0 ≤ r.2.2.1) := by
  unfold spec_l2Any.f
  refine Tot.bind (spec_l1Below_tot l p t 12 hl hp) (fun r hr => Tot.ite (fun _ => Tot.now hr.2) (fun _ => Tot.ite (fun _ => ?_) (fun _ => Tot.ite (fun _ => ?_) (fun _ => ?_))))
  · exact Tot.bind (spec_l1Odd_tot l _ _ hl hr.2) (fun r1 h1 => Tot.bind (spec_l1PickInt_tot l _ _ _ hl h1 (by simp)) (fun r2 h2 => Tot.now h2))
  · exact Tot.bind (spec_l1Below_tot l _ _ _ hl hr.2) (fun r1 h1 => Tot.bind (spec_l1Below_tot l _ _ _ hl h1.2) (fun r2 h2 => Tot.bind (P := fun _ => True) (Tot.ev (spec_MakeRatio_ev _ _) trivial) (fun r3 _ => Tot.now h2.2)))
  · exact Tot.bind (spec_l1Below_tot l _ _ _ hl hr.2) (fun r1 h1 => Tot.bind (spec_l1Below_tot l _ _ _ hl h1.2) (fun r2 h2 => Tot.bind (P := fun _ => True) (Tot.ev (spec_MakeRatio_ev _ _) trivial) (fun r3 _ => Tot.now h2.2)))
theorem spec_DrawAddRatios_tot (l : List Int) (hl : l.length ≤ 1048576) : Tot (fun k => spec_DrawAddRatios.f k l) (fun _ => True) := by
  unfold spec_DrawAddRatios.f spec_l2Two.f
  refine Tot.bind (P := fun _ => True) (Tot.bind (spec_l1New_tot l hl) (fun r0 h0 => ?_)) (fun r _ => Tot.now trivial)
  obtain ⟨e0, h0⟩ := h0
  rw [e0]
  exact Tot.bind (spec_l2Any_tot l _ _ hl h0) (fun r1 h1 => Tot.bind (spec_l2Any_tot l _ _ hl h1) (fun r2 h2 => Tot.now trivial))
def digs (u : Nat) : List UInt8 := if h : u = 0 then [] else digs (u / 10) ++ [UInt8.ofNat (48 + u % 10)]
termination_by u
decreasing_by omega
theorem digs_zero : digs 0 = [] := by rw [digs, dif_pos rfl]
theorem digs_pos {u : Nat} (h : ¬ u = 0) : digs u = digs (u / 10) ++ [UInt8.ofNat (48 + u % 10)] := by rw [digs, dif_neg h]
def fmtL (n : Int) : List UInt8 := if n = 0 then [48] else if n < 0 then 45 :: digs n.natAbs else digs n.natAbs
/-- The bytes as a string. -/
def bs (l : List UInt8) : ByteArray := ⟨l.toArray⟩
theorem bs_size (l : List UInt8) : (bs l).size = l.length := by unfold bs; simp [ByteArray.size]
theorem bs_append (l m : List UInt8) : bs l ++ bs m = bs (l ++ m) := by
  unfold bs
  apply ByteArray.ext
  simp [ByteArray.data_append]
theorem dig_piece : ∀ d : Nat, d < 10 → (⟨#[48, 49, 50, 51, 52, 53, 54, 55, 56, 57]⟩ : ByteArray).extract d (d + 1) = bs [UInt8.ofNat (48 + d)]
  | 0, _ => rfl | 1, _ => rfl | 2, _ => rfl | 3, _ => rfl | 4, _ => rfl | 5, _ => rfl | 6, _ => rfl | 7, _ => rfl | 8, _ => rfl | 9, _ => rfl
  | n + 10, h => by omega
theorem dig_bd {d : Nat} (h : d < 10) : (0 : Int) ≤ (d : Int) ∧ (d : Int) ≤ ((d + 1 : Nat) : Int) ∧ ((d + 1 : Nat) : Int) ≤ 10 ∧ wrap64 ((d : Int) + 1) = ((d + 1 : Nat) : Int) := by
  refine ⟨by omega, by omega, by omega, ?_⟩
  rw [w64 (by omega) (by omega)]; omega
theorem decDigits_digs (u : Nat) (h : ¬ u = 0) : Lib.decDigits u = digs u := by
  induction u using Nat.strongRecOn with
  | _ u ih =>
    rw [digs_pos h]
    by_cases h1 : u < 10
    · rw [Lib.decDigits, dif_pos h1, show u / 10 = 0 by omega, digs_zero, show u % 10 = u by omega]; rfl
    · rw [Lib.decDigits, dif_neg h1, ih (u / 10) (by omega) (by omega)]
theorem itoa_fmtL (n : Int) : Lib.itoa n = fmtL n := by
  unfold Lib.itoa fmtL
  by_cases h : n = 0
  · subst h; rw [if_neg (by omega), if_pos rfl]
    show Lib.decDigits 0 = _
    rw [Lib.decDigits, dif_pos (by omega)]; rfl
  · rw [if_neg h]
    by_cases h1 : n < 0
    · rw [if_pos h1, if_pos h1, decDigits_digs _ (by omega)]
    · rw [if_neg h1, if_neg h1, show n.toNat = n.natAbs by omega, decDigits_digs _ (by omega)]
theorem digs_len (j : Nat) : ∀ u : Nat, u < 10 ^ j → (digs u).length ≤ j := by
  induction j with
  | zero => intro u h; have : u = 0 := by simpa using h
            subst this; simp [digs_zero]
  | succ j ih =>
    intro u h
    by_cases hz : u = 0
    · subst hz; simp [digs_zero]
    · rw [digs_pos hz, List.length_append]
      have := ih (u / 10) (by rw [Nat.pow_succ] at h; omega)
      simp; omega
theorem fmtL_len (n : Int) (h0 : -9223372036854775808 ≤ n) (h1 : n ≤ 9223372036854775807) : (fmtL n).length ≤ 21 := by
  have := digs_len 20 n.natAbs (by omega)
  unfold fmtL
  split
  · simp
  · split <;> simp <;> omega
def fmtRL (n d : Int) : List UInt8 := if isRat n d then (if d = 1 then fmtL n else fmtL n ++ 47 :: fmtL d) else [110, 111, 110, 101]
theorem bs_toList (l : List UInt8) : (bs l).toList = l := by rw [ByteArray.toList_eq]; unfold bs; simp
theorem bs_ne (l : List UInt8) : ((bs l).toList != ([] : List UInt8)) = decide (0 < l.length) := by rw [bs_toList]; cases l <;> simp
theorem bs_eq0 (l : List UInt8) : ((bs l).toList == ([] : List UInt8)) = decide (l.length = 0) := by rw [bs_toList]; cases l <;> simp
/-- An atom's text, piece by piece. -/
def nmL (i : Nat) : UInt8 := if i = 0 then 120 else if i = 1 then 121 else if i = 2 then 122 else 116
def plusL (acc : List UInt8) (n : Int) : List UInt8 := if 0 < n ∧ 0 < acc.length then acc ++ [43] else acc
def midL (n : Int) : List UInt8 := if n = -1 then [45] else if n = 1 then [] else fmtL n
def stepL (acc : List UInt8) (i : Nat) (n : Int) : List UInt8 := if n = 0 then acc else plusL acc n ++ midL n ++ [nmL i]
def goL : List Int → Nat → List UInt8 → List UInt8
  | [], _, acc => acc
  | n :: ns, i, acc => goL ns (i + 1) (stepL acc i n)
def endL (s : Bool) : List UInt8 := if s then [60, 48] else [60, 61, 48]
def finL (acc : List UInt8) (c : Int) (s : Bool) : List UInt8 := if c = 0 ∧ 0 < acc.length then acc ++ endL s else plusL acc c ++ fmtL c ++ endL s
def fmtAL (l : List Int) (c : Int) (s : Bool) : List UInt8 := if isAt l c then finL (goL l 0 []) c s else []
theorem plusL_len (acc : List UInt8) (n : Int) : (plusL acc n).length ≤ acc.length + 1 := by unfold plusL; split <;> simp
theorem fmtL_lenN {n : Int} (h : isNum n = true) : (fmtL n).length ≤ 21 := by
  have := isNum_iff.1 h
  exact fmtL_len n (by omega) (by omega)
theorem midL_len {n : Int} (h : isNum n = true) : (midL n).length ≤ 21 := by
  have := fmtL_lenN h
  unfold midL
  split
  · simp
  · split
    · simp
    · exact this
theorem stepL_len (acc : List UInt8) (i : Nat) {n : Int} (h : isNum n = true) : (stepL acc i n).length ≤ acc.length + 23 := by
  have h1 := midL_len h
  have h2 := plusL_len acc n
  unfold stepL
  split
  · omega
  · simp; omega
theorem goL_len : ∀ (ns : List Int) (i : Nat) (acc : List UInt8), (∀ x ∈ ns, isNum x = true) → (goL ns i acc).length ≤ acc.length + 23 * ns.length
  | [], _, acc, _ => by simp [goL]
  | n :: ns, i, acc, h => by
    have h1 := stepL_len acc i (h n (by simp))
    have h2 := goL_len ns (i + 1) (stepL acc i n) (fun x hx => h x (by simp [hx]))
    simp only [goL, List.length_cons]
    omega
theorem finL_len (acc : List UInt8) {c : Int} (s : Bool) (h : isNum c = true) : (finL acc c s).length ≤ acc.length + 25 := by
  have h1 := fmtL_lenN h
  have h2 := plusL_len acc c
  have h3 : (endL s).length ≤ 3 := by cases s <;> simp [endL]
  unfold finL
  split
  · simp; omega
  · simp; omega
theorem fmtAL_len (l : List Int) (c : Int) (s : Bool) : (fmtAL l c s).length ≤ 120 := by
  unfold fmtAL
  split
  · rename_i h
    obtain ⟨h4, hc, hx, _⟩ := isAt_iff.1 h
    have h1 := goL_len l 0 [] hx
    have h2 := finL_len (goL l 0 []) s hc
    simp at h1
    omega
  · simp
theorem nm_piece : ∀ i : Nat, i < 4 → (⟨#[120, 121, 122, 116]⟩ : ByteArray).extract i (i + 1) = bs [nmL i]
  | 0, _ => rfl | 1, _ => rfl | 2, _ => rfl | 3, _ => rfl
  | n + 4, h => by omega
theorem tl_bs {l : List UInt8} {s : ByteArray} (h : (bs l).toList = s.toList) : bs l = s := by
  rw [ByteArray.toList_eq, ByteArray.toList_eq] at h
  exact ByteArray.ext (Array.toList_inj.1 h)
/-- The number that digits spell behind a number. -/
def valL (acc : Nat) (l : List UInt8) : Nat := l.foldl (fun a b => a * 10 + (b.toNat - 48)) acc
def digL (l : List UInt8) : Prop := ∀ b ∈ l, 48 ≤ b.toNat ∧ b.toNat ≤ 57
theorem digs_dig : ∀ u : Nat, digL (digs u) := by
  intro u
  induction u using Nat.strongRecOn with
  | _ u ih =>
    intro b hb
    by_cases h : u = 0
    · subst h; rw [digs_zero] at hb; cases hb
    · rw [digs_pos h] at hb
      rcases List.mem_append.1 hb with hb | hb
      · exact ih (u / 10) (by omega) b hb
      · obtain rfl : b = UInt8.ofNat (48 + u % 10) := by simpa using hb
        have : (UInt8.ofNat (48 + u % 10)).toNat = 48 + u % 10 := by rw [UInt8.toNat_ofNat']; omega
        omega
theorem digs_val : ∀ u : Nat, valL 0 (digs u) = u := by
  intro u
  induction u using Nat.strongRecOn with
  | _ u ih =>
    by_cases h : u = 0
    · subst h; rw [digs_zero]; rfl
    · rw [digs_pos h]
      have e : (UInt8.ofNat (48 + u % 10)).toNat = 48 + u % 10 := by rw [UInt8.toNat_ofNat']; omega
      unfold valL at ih ⊢
      rw [List.foldl_append, ih (u / 10) (by omega)]
      simp only [List.foldl_cons, List.foldl_nil, e]
      omega
theorem valL_bd : ∀ (l : List UInt8) (acc j : Nat), digL l → acc < 10 ^ j → valL acc l < 10 ^ (j + l.length)
  | [], acc, j, _, h => by simpa [valL] using h
  | b :: l, acc, j, hd, h => by
    have hb := hd b (by simp)
    have := valL_bd l (acc * 10 + (b.toNat - 48)) (j + 1) (fun x hx => hd x (by simp [hx])) (by rw [Nat.pow_succ]; omega)
    rw [List.length_cons, show j + (l.length + 1) = j + 1 + l.length by omega]
    exact this
theorem bs_extract (l : List UInt8) (i j : Nat) : (bs l).extract i j = bs ((l.drop i).take (j - i)) := by
  unfold bs
  apply ByteArray.ext
  simp [List.extract_eq_take_drop]
theorem fmtL_no47 (n : Int) : ∀ b ∈ fmtL n, b ≠ 47 := by
  have hd := digs_dig n.natAbs
  have k : ∀ b ∈ digs n.natAbs, b ≠ 47 := fun b hb e => by
    have := hd b hb
    rw [e] at this
    exact absurd this.1 (by decide)
  intro b hb
  unfold fmtL at hb
  split at hb
  · obtain rfl : b = 48 := by simpa using hb
    decide
  · split at hb
    · rcases List.mem_cons.1 hb with e | hb
      · rw [e]; decide
      · exact k b hb
    · exact k b hb
/-- What reading a ratio gives: it, or nothing. -/
def PRat (s : ByteArray) (r : Int × Int × Bool) : Prop := r = (0, 0, false) ∨ ∃ n d, r = (n, d, true) ∧ isRat n d = true ∧ bs (fmtRL n d) = s
theorem makR_rat {n d : Int} (h : isRat n d = true) : makR n d = (n, d) := by
  have hb := isRat_iff.1 h
  have n1 : isNum n = true := isNum_iff.2 hb.2.1
  have n2 : isNum d = true := isNum_iff.2 (by omega)
  unfold makR red redOf
  rw [if_pos (by rw [n1, n2]; rfl), if_neg (show ¬ d = 0 by omega), if_neg (show ¬ d < 0 by omega), hb.2.2]
  simp [h]
theorem impl_FormatInt_eq (n : Int) (h0 : -9223372036854775808 ≤ n) (h1 : n ≤ 9223372036854775807) : impl_FormatInt.f n = some (bs (fmtL n)) := by
  unfold impl_FormatInt.f strconv_Itoa.f
  rw [if_pos ⟨h0, h1⟩, itoa_fmtL]
  rfl
theorem impl_FormatRatio_ev (n d : Int) : Ev (fun k => impl_FormatRatio.f k n d) (bs (fmtRL n d)) := by
  unfold impl_FormatRatio.f fmtRL
  refine Ev.bind (impl_IsRatio_ev n d) (ev_ite (fun h => ?_) (fun h => ?_))
  · rw [if_pos h]
    have hb := isRat_iff.1 h
    have l1 := fmtL_len n (by omega) (by omega)
    have l2 := fmtL_len d (by omega) (by omega)
    rw [impl_FormatInt_eq n (by omega) (by omega), impl_FormatInt_eq d (by omega) (by omega)]
    refine ev_ite (fun h1 => ?_) (fun h1 => ?_)
    · rw [if_pos h1]; exact Ev.now _
    · rw [if_neg h1]
      have e1 : bs (fmtL n) ++ (⟨#[47]⟩ : ByteArray) = bs (fmtL n ++ [47]) := bs_append _ [47]
      simp only [Option.bind_some]
      refine ev_pos (by rw [bs_size]; omega) ?_
      rw [e1]
      refine ev_pos (by rw [bs_size, bs_size]; simp; omega) ?_
      rw [bs_append, List.append_assoc]; exact Ev.now _
  · rw [if_neg h]; exact Ev.now _
theorem bt_bs (l : List UInt8) (i : Nat) (h : i < l.length) : bt (bs l) (i : Int) = (l[i].toNat : Int) := by
  unfold bt
  rw [dif_pos (by rw [bs_size, Int.toNat_natCast]; exact h)]
  rfl
theorem decFrom_val : ∀ (l : List UInt8) (acc : Nat), digL l → Lib.decFrom acc l = some (valL acc l)
  | [], _, _ => rfl
  | b :: l, acc, h => by
    have hb := h b (by simp)
    unfold Lib.decFrom Lib.digitVal
    rw [if_pos hb]
    exact decFrom_val l _ (fun x hx => h x (by simp [hx]))
theorem atoi_fmtL (n : Int) (hn : isNum n = true) : Lib.atoi (fmtL n) = some n := by
  have hb := isNum_iff.1 hn
  have hv := digs_val n.natAbs
  have hd := digs_dig n.natAbs
  by_cases h0 : n = 0
  · subst h0; rfl
  · have hne : digs n.natAbs ≠ [] := by rw [digs_pos (by omega)]; simp
    have hnat : Lib.decNat (digs n.natAbs) = some n.natAbs := by
      unfold Lib.decNat
      rw [if_neg (by simpa using hne), decFrom_val _ _ hd, hv]
    by_cases h1 : n < 0
    · have e : fmtL n = 45 :: digs n.natAbs := by unfold fmtL; rw [if_neg h0, if_pos h1]
      rw [e]
      unfold Lib.atoi
      dsimp only
      rw [if_pos (by rfl), hnat, Option.map_some]
      congr 1; omega
    · have e : fmtL n = digs n.natAbs := by unfold fmtL; rw [if_neg h0, if_neg h1]
      rw [e]
      cases hq : digs n.natAbs with
      | nil => exact absurd hq hne
      | cons b r =>
        have hb2 := hd b (by rw [hq]; simp)
        unfold Lib.atoi
        have n45 : (b == 45) = false := beq_eq_false_iff_ne.mpr (fun e => by subst e; revert hb2; decide)
        have n43 : (b == 43) = false := beq_eq_false_iff_ne.mpr (fun e => by subst e; revert hb2; decide)
        dsimp only
        rw [n45, n43, ← hq, hnat]
        simp
        omega
theorem impl_ParseInt_num (n : Int) (hn : isNum n = true) : impl_ParseInt.f (bs (fmtL n)) = some (n, true) := by
  have hb := isNum_iff.1 hn
  have hl := fmtL_len n (by omega) (by omega)
  have hl18 : (fmtL n).length ≤ 18 := by
    have := digs_len 9 n.natAbs (by omega)
    unfold fmtL
    split
    · simp
    · split <;> simp <;> omega
  have ha : Lib.atoiAll (bs (fmtL n)).data.toList = .ok n := by
    show Lib.atoiAll (fmtL n) = _
    rw [Lib.atoiAll_short _ hl18, atoi_fmtL n hn]; rfl
  unfold impl_ParseInt.f
  rw [if_pos (by rw [bs_size]; omega), ha]
  simp only []
  rw [impl_IsNumber_eq, Option.bind_some, if_pos hn, impl_FormatInt_eq n (by omega) (by omega), Option.bind_some, if_pos rfl]
theorem impl_ParseInt_none (s : ByteArray) (hs : s.size ≤ 1048576) (h : ∀ n, isNum n = true → s ≠ bs (fmtL n)) : impl_ParseInt.f s = some (0, false) := by
  unfold impl_ParseInt.f
  rw [if_pos (by omega)]
  cases hA : Lib.atoiAll s.data.toList with
  | ok v =>
    simp only []
    rw [impl_IsNumber_eq, Option.bind_some]
    by_cases hn : isNum v = true
    · have hb := isNum_iff.1 hn
      rw [if_pos hn, impl_FormatInt_eq v (by omega) (by omega), Option.bind_some, if_neg (fun e => h v hn (tl_bs e).symm)]
    · rw [if_neg hn]
  | «syntax» => rfl
  | range => rfl
theorem impl_ParseInt_or (s : ByteArray) (hs : s.size ≤ 1048576) : (∃ n, isNum n = true ∧ s = bs (fmtL n) ∧ impl_ParseInt.f s = some (n, true)) ∨ impl_ParseInt.f s = some (0, false) := by
  by_cases h : ∃ n, isNum n = true ∧ s = bs (fmtL n)
  · obtain ⟨n, hn, rfl⟩ := h
    exact .inl ⟨n, hn, rfl, impl_ParseInt_num n hn⟩
  · exact .inr (impl_ParseInt_none s hs (fun n hn e => h ⟨n, hn, e⟩))
theorem impl_ParseRatio_j1_ev (s : ByteArray) (hs : s.size ≤ 1048576) (a d : Int) : ∃ r, Ev (fun k => impl_ParseRatio.j1 k s a d) r ∧ (r = (0, 0, false) ∨ ∃ n, r = (n, d, true) ∧ isRat n d = true ∧ s = bs (fmtL n)) := by
  rcases impl_ParseInt_or s hs with ⟨n, hn, e, h⟩ | h
  · by_cases hr : isRat n d = true
    · exact ⟨(n, d, true), Ev.step (fun k => by rw [impl_ParseRatio.j1]) (ev_bindS h (ev_pos rfl (Ev.bind (impl_IsRatio_ev n d) (ev_pos hr (Ev.now _))))), .inr ⟨n, rfl, hr, e⟩⟩
    · exact ⟨(0, 0, false), Ev.step (fun k => by rw [impl_ParseRatio.j1]) (ev_bindS h (ev_pos rfl (Ev.bind (impl_IsRatio_ev n d) (ev_neg hr (Ev.now _))))), .inl rfl⟩
  · exact ⟨(0, 0, false), Ev.step (fun k => by rw [impl_ParseRatio.j1]) (ev_bindS h (ev_neg (show ¬ (false = true) by decide) (Ev.now _))), .inl rfl⟩
theorem impl_ParseRatio_any (l : List UInt8) (hl : l.length ≤ 1048576) : ∃ r, Ev (fun k => impl_ParseRatio.f k (bs l)) r ∧ PRat (bs l) r := by
  unfold impl_ParseRatio.f
  have key : ∀ (c i : Nat), i + c = l.length → ∃ r, Ev (fun k => impl_ParseRatio.l0 k (bs l) (i : Int) 0 1) r ∧ PRat (bs l) r := by
    intro c
    induction c with
    | zero =>
      intro i hi
      obtain ⟨r, h, p⟩ := impl_ParseRatio_j1_ev (bs l) (by rw [bs_size]; exact hl) 0 1
      refine ⟨r, Ev.step (fun k => by rw [impl_ParseRatio.l0]) (ev_neg (by rw [bs_size]; omega) h), p.elim .inl (fun ⟨n, h1, h2, h3⟩ => .inr ⟨n, 1, h1, h2, ?_⟩)⟩
      rw [h3]; unfold fmtRL; rw [if_pos h2, if_pos rfl]
    | succ c ih =>
      intro i hi
      by_cases hb : bt (bs l) (i : Int) = 47
      · have hx : (bs l).extract (i + 1) (bs l).size = bs (l.drop (i + 1)) := by
          rw [bs_extract, bs_size]
          congr 1
          exact List.take_of_length_le (by rw [List.length_drop]; omega)
        have hp : (bs l).extract 0 i = bs (l.take i) := by rw [bs_extract, List.drop_zero, Nat.sub_zero]
        have pre : ∀ {r d} {b : Bool}, impl_ParseInt.f (bs (l.drop (i + 1))) = some (d, b) → Ev (fun k => if b = true then (if (i : Int) ≤ ((bs l).size : Int) then (if d = 1 then (some (0, 0, false)) else (impl_ParseRatio.j1 k (bs (l.take i)) 0 d)) else (none)) else (some (0, 0, false))) r → Ev (fun k => impl_ParseRatio.l0 k (bs l) (i : Int) 0 1) r := fun {r d b} hP hE => by
          refine Ev.step (fun k => by rw [impl_ParseRatio.l0]) (ev_pos (by rw [bs_size]; omega) (ev_pos (by omega) (ev_pos hb ?_)))
          rw [w64_succ (by omega), Int.toNat_natCast, Int.toNat_natCast, hx, hp]
          exact ev_pos (by omega) (ev_pos (by rw [bs_size]; omega) (ev_bindS hP hE))
        have hcut : bs l = bs (l.take i ++ 47 :: l.drop (i + 1)) := by
          congr 1
          have h47 : l[i]'(by omega) = 47 := by
            rw [bt_bs l i (by omega)] at hb
            have : (l[i]'(by omega)).toNat = 47 := by omega
            exact UInt8.toNat_inj.1 this
          rw [← h47, ← List.drop_eq_getElem_cons (by omega), List.take_append_drop]
        rcases impl_ParseInt_or (bs (l.drop (i + 1))) (by rw [bs_size, List.length_drop]; omega) with ⟨d, hd, e, hP⟩ | hP
        · by_cases h1 : d = 1
          · exact ⟨(0, 0, false), pre hP (ev_pos rfl (ev_pos (by rw [bs_size]; omega) (ev_pos h1 (Ev.now _)))), .inl rfl⟩
          · obtain ⟨r, h, p⟩ := impl_ParseRatio_j1_ev (bs (l.take i)) (by rw [bs_size, List.length_take]; omega) 0 d
            refine ⟨r, pre hP (ev_pos rfl (ev_pos (by rw [bs_size]; omega) (ev_neg h1 h))), p.elim .inl (fun ⟨n, h2, h3, h4⟩ => .inr ⟨n, d, h2, h3, ?_⟩)⟩
            rw [hcut]
            unfold fmtRL
            rw [if_pos h3, if_neg h1]
            have e1 : l.take i = fmtL n := by have := congrArg ByteArray.toList h4; rwa [bs_toList, bs_toList] at this
            have e2 : l.drop (i + 1) = fmtL d := by have := congrArg ByteArray.toList e; rwa [bs_toList, bs_toList] at this
            rw [e1, e2]
        · exact ⟨(0, 0, false), pre hP (ev_neg (show ¬ (false = true) by decide) (Ev.now _)), .inl rfl⟩
      · obtain ⟨r, h, p⟩ := ih (i + 1) (by omega)
        refine ⟨r, Ev.step (fun k => by rw [impl_ParseRatio.l0]) (ev_pos (by rw [bs_size]; omega) (ev_pos (by omega) (ev_neg hb ?_))), p⟩
        rw [w64_succ (by omega)]
        exact h
  exact key l.length 0 (by omega)
theorem impl_ParseRatio_skip (r : Int × Int × Bool) (l : List UInt8) (hl : l.length ≤ 1048576) : ∀ (c i : Nat), i + c ≤ l.length → (∀ b ∈ (l.drop i).take c, b ≠ 47) → Ev (fun k => impl_ParseRatio.l0 k (bs l) ((i + c : Nat) : Int) 0 1) r → Ev (fun k => impl_ParseRatio.l0 k (bs l) (i : Int) 0 1) r
  | 0, i, _, _, h => h
  | c + 1, i, hi, hn, h => by
    have hq := List.drop_eq_getElem_cons (l := l) (i := i) (by omega)
    have hb : bt (bs l) (i : Int) ≠ 47 := by
      rw [bt_bs l i (by omega)]
      have := hn (l[i]'(by omega)) (by rw [hq, List.take_succ_cons]; exact List.mem_cons_self)
      intro e
      have h2 : (l[i]'(by omega)).toNat = 47 := by omega
      exact this (UInt8.toNat_inj.1 h2)
    have ih := impl_ParseRatio_skip r l hl c (i + 1) (by omega) (fun b hb' => hn b (by rw [hq, List.take_succ_cons]; exact List.mem_cons_of_mem _ hb')) (by rw [show i + 1 + c = i + (c + 1) by omega]; exact h)
    refine Ev.step (fun k => by rw [impl_ParseRatio.l0]) (ev_pos (by rw [bs_size]; omega) (ev_pos (by omega) (ev_neg hb ?_)))
    rw [w64_succ (by omega)]
    exact ih
theorem impl_ParseRatio_num {n d : Int} (h : isRat n d = true) : Ev (fun k => impl_ParseRatio.f k (bs (fmtRL n d))) (n, d, true) := by
  have hb := isRat_iff.1 h
  have n1 : isNum n = true := isNum_iff.2 hb.2.1
  have n2 : isNum d = true := isNum_iff.2 (by omega)
  have l1 := fmtL_len n (by omega) (by omega)
  have l2 := fmtL_len d (by omega) (by omega)
  have j1 : Ev (fun k => impl_ParseRatio.j1 k (bs (fmtL n)) 0 d) (n, d, true) := Ev.step (fun k => by rw [impl_ParseRatio.j1]) (ev_bindS (impl_ParseInt_num n n1) (ev_pos rfl (Ev.bind (impl_IsRatio_ev n d) (ev_pos h (Ev.now _)))))
  unfold impl_ParseRatio.f
  by_cases h1 : d = 1
  · have e : fmtRL n d = fmtL n := by unfold fmtRL; rw [if_pos h, if_pos h1]
    rw [e]
    subst h1
    refine impl_ParseRatio_skip _ (fmtL n) (by omega) (fmtL n).length 0 (by omega) (fun b hb' => fmtL_no47 n b (by simpa using hb')) ?_
    exact Ev.step (fun k => by rw [impl_ParseRatio.l0]) (ev_neg (by rw [bs_size]; omega) j1)
  · have e : fmtRL n d = fmtL n ++ 47 :: fmtL d := by unfold fmtRL; rw [if_pos h, if_neg h1]
    rw [e]
    have hsz : (bs (fmtL n ++ 47 :: fmtL d)).size = (fmtL n).length + 1 + (fmtL d).length := by rw [bs_size]; simp; omega
    refine impl_ParseRatio_skip _ _ (by simp; omega) (fmtL n).length 0 (by simp) (fun b hb' => fmtL_no47 n b (by simpa using hb')) ?_
    rw [Nat.zero_add]
    have hbt : bt (bs (fmtL n ++ 47 :: fmtL d)) ((fmtL n).length : Int) = 47 := by rw [bt_bs _ _ (by simp)]; simp
    refine Ev.step (fun k => by rw [impl_ParseRatio.l0]) (ev_pos (by omega) (ev_pos (by omega) (ev_pos hbt ?_)))
    have hx : (bs (fmtL n ++ 47 :: fmtL d)).extract ((fmtL n).length + 1) (bs (fmtL n ++ 47 :: fmtL d)).size = bs (fmtL d) := by
      rw [hsz, bs_extract]
      congr 1
      rw [show (fmtL n ++ 47 :: fmtL d).drop ((fmtL n).length + 1) = fmtL d by rw [← List.drop_drop]; simp]
      exact List.take_of_length_le (by omega)
    have hp : (bs (fmtL n ++ 47 :: fmtL d)).extract 0 (fmtL n).length = bs (fmtL n) := by rw [bs_extract, List.drop_zero, Nat.sub_zero, List.take_left]
    rw [w64_succ (by omega), Int.toNat_natCast, Int.toNat_natCast, hx, hp]
    exact ev_pos (by omega) (ev_pos (by omega) (ev_bindS (impl_ParseInt_num d n2) (ev_pos rfl (ev_pos (by omega) (ev_neg h1 j1)))))

end Go.Proofs.YtohoibekddhneaaDoor.LFnRatios
