/- Exact values: what ratios, atoms at points, mixed and fixed atoms are as rational numbers. -/
import Derived.Test.YtohoibekddhneaaDoorPlainAFnAtoms
set_option linter.unusedVariables false
namespace Go.Proofs.YtohoibekddhneaaDoor.Pl
open Go.RowKit

/-- The rational number that a pair stands for. -/
def rv (r : Int × Int) : Rat := (r.1 : Rat) / (r.2 : Rat)
theorem cast_ne {d : Int} (h : ¬ d = 0) : (d : Rat) ≠ 0 := by simpa using h
theorem cast_pos {d : Int} (h : 0 < d) : (0 : Rat) < (d : Rat) := by exact_mod_cast h
theorem isRat_den {n d : Int} (h : isRat n d = true) : 0 < d := by rw [isRat_iff] at h; omega
theorem isRat00 : isRat 0 0 = false := by decide

theorem tdiv_cast {a g : Int} (hg : ¬ g = 0) (h : g ∣ a) : ((a.tdiv g : Int) : Rat) = (a : Rat) / (g : Rat) := by
  have e := Int.tdiv_mul_cancel h
  have e2 : ((a.tdiv g : Int) : Rat) * (g : Rat) = (a : Rat) := by exact_mod_cast congrArg (fun x : Int => (x : Rat)) e
  have := cast_ne hg
  rw [← e2, Rat.mul_div_cancel this]
theorem redOf_rv {n d : Int} (hd : ¬ d = 0) (h : isRat (redOf n d).1 (redOf n d).2 = true) : rv (redOf n d) = (n : Rat) / (d : Rat) := by
  unfold redOf at h ⊢
  split at h
  · rename_i hr
    rw [if_pos hr]
    have hg := gcd_pos n d hd
    have hg0 : ¬ (Int.gcd n d : Int) = 0 := by omega
    unfold rv
    rw [tdiv_cast hg0 (Int.gcd_dvd_left _ _), tdiv_cast hg0 (Int.gcd_dvd_right _ _)]
    have h1 := cast_ne hd
    have h2 : (((Int.gcd n d : Int)) : Rat) ≠ 0 := cast_ne hg0
    grind
  · simp [isRat00] at h
theorem red_rv {n d : Int} (hd : ¬ d = 0) (h : isRat (red n d).1 (red n d).2 = true) : rv (red n d) = (n : Rat) / (d : Rat) := by
  unfold red at h ⊢
  rw [if_neg hd] at h ⊢
  split at h
  · rename_i hn
    rw [if_pos hn, redOf_rv (by omega) h]
    have h1 := cast_ne hd
    have e1 : ((-n : Int) : Rat) = -(n : Rat) := by simp
    have e2 : ((-d : Int) : Rat) = -(d : Rat) := by simp
    rw [e1, e2]
    grind
  · rename_i hn
    rw [if_neg hn]
    exact redOf_rv hd h
theorem addR_rv {a b c d : Int} (h : isRat (addR a b c d).1 (addR a b c d).2 = true) : isRat a b = true ∧ isRat c d = true ∧ rv (addR a b c d) = rv (a, b) + rv (c, d) := by
  unfold addR at h ⊢
  split at h
  · rename_i hr
    rw [if_pos hr]
    simp only [Bool.and_eq_true] at hr
    have hb := isRat_den hr.1
    have hd := isRat_den hr.2
    have hbd : ¬ b * d = 0 := Int.mul_ne_zero (by omega) (by omega)
    refine ⟨hr.1, hr.2, ?_⟩
    rw [red_rv hbd h]
    have h1 := cast_ne (show ¬ b = 0 by omega)
    have h2 := cast_ne (show ¬ d = 0 by omega)
    unfold rv
    simp only [Rat.intCast_add, Rat.intCast_mul]
    grind
  · simp [isRat00] at h
theorem mulR_rv {a b c d : Int} (h : isRat (mulR a b c d).1 (mulR a b c d).2 = true) : isRat a b = true ∧ isRat c d = true ∧ rv (mulR a b c d) = rv (a, b) * rv (c, d) := by
  unfold mulR at h ⊢
  split at h
  · rename_i hr
    rw [if_pos hr]
    simp only [Bool.and_eq_true] at hr
    have hb := isRat_den hr.1
    have hd := isRat_den hr.2
    have hbd : ¬ b * d = 0 := Int.mul_ne_zero (by omega) (by omega)
    refine ⟨hr.1, hr.2, ?_⟩
    rw [red_rv hbd h]
    have h1 := cast_ne (show ¬ b = 0 by omega)
    have h2 := cast_ne (show ¬ d = 0 by omega)
    unfold rv
    simp only [Rat.intCast_mul]
    grind
  · simp [isRat00] at h

/-- The exact sum of coefficients and coordinates. -/
def dot : List Int → List (Int × Int) → Rat
  | x :: xs, r :: rs => (x : Rat) * rv r + dot xs rs
  | _, _ => 0
theorem valGo_rv (xs : List Int) : ∀ (ps : List (Int × Int)) (v : Int × Int), isRat (valGo xs ps v).1 (valGo xs ps v).2 = true → isRat v.1 v.2 = true ∧ rv (valGo xs ps v) = rv v + dot xs ps := by
  induction xs with
  | nil => intro ps v h; exact ⟨h, by simp [valGo, dot, Rat.add_zero]⟩
  | cons x xs ih =>
    intro ps v h
    cases ps with
    | nil => exact ⟨h, by simp [valGo, dot, Rat.add_zero]⟩
    | cons r rs =>
      simp only [valGo] at h ⊢
      obtain ⟨h1, h2⟩ := ih rs _ h
      obtain ⟨h3, h4, h5⟩ := addR_rv h1
      obtain ⟨_, h7, h8⟩ := mulR_rv h4
      refine ⟨h3, ?_⟩
      rw [h2, h5, dot]
      have e : rv ((mulR x 1 r.1 r.2).1, (mulR x 1 r.1 r.2).2) = (x : Rat) * rv r := by
        show rv (mulR x 1 r.1 r.2) = _
        rw [h8]
        unfold rv
        simp
        grind
      rw [e]
      show rv v + (x : Rat) * rv r + dot xs rs = _
      grind
def exv (l : List Int) (c : Int) (p : List (Int × Int)) : Rat := (c : Rat) + dot l p
def exH (l : List Int) (c : Int) (s : Bool) (p : List (Int × Int)) : Bool := decide (exv l c p < 0) || decide (exv l c p = 0) && !s
theorem rv_sign {r : Int × Int} (h : isRat r.1 r.2 = true) : (r.1 < 0 ↔ rv r < 0) ∧ (r.1 = 0 ↔ rv r = 0) := by
  have hd := isRat_den h
  have h1 := cast_pos hd
  have e : rv r * (r.2 : Rat) = (r.1 : Rat) := by unfold rv; exact Rat.div_mul_cancel (cast_ne (by omega))
  constructor
  · constructor
    · intro hn
      have : (r.1 : Rat) < 0 := by exact_mod_cast hn
      rw [← e] at this
      by_cases h2 : rv r < 0
      · exact h2
      · have h2 := Rat.not_lt.1 h2
        have := Rat.mul_nonneg h2 (Rat.le_of_lt h1)
        grind
    · intro hn
      have : rv r * (r.2 : Rat) < 0 := by
        have := Rat.mul_pos (show 0 < -rv r by grind) h1
        grind
      rw [e] at this
      exact_mod_cast this
  · constructor
    · intro hn
      rw [hn] at e
      have h2 := cast_ne (show ¬ r.2 = 0 by omega)
      rcases Rat.mul_eq_zero.1 (show rv r * (r.2 : Rat) = 0 by simpa using e) with h3 | h3
      · exact h3
      · exact absurd h3 h2
    · intro hn
      rw [hn] at e
      have : (r.1 : Rat) = 0 := by rw [← e]; simp
      exact_mod_cast this
theorem holdAt_ex {l : List Int} {c : Int} {s : Bool} {p : List (Int × Int)} (h : (holdAt l c s p).2 = true) : (holdAt l c s p).1 = exH l c s p ∧ isAt l c = true ∧ isPoint p l.length = true := by
  unfold holdAt at h ⊢
  split at h
  · rename_i hv
    rw [if_pos hv]
    unfold valAt at hv ⊢
    split at hv
    · rename_i ha
      rw [if_pos ha]
      simp only [Bool.and_eq_true] at ha
      refine ⟨?_, ha.1, ha.2⟩
      simp only [valFin] at hv ⊢
      obtain ⟨_, h2⟩ := valGo_rv l p (c, 1) hv
      have h3 := rv_sign hv
      have e : rv (valGo l p (c, 1)) = exv l c p := by
        rw [h2]; unfold rv exv; simp; grind
      unfold exH
      rw [← e]
      show (decide ((valGo l p (c, 1)).1 < 0) || decide ((valGo l p (c, 1)).1 = 0) && !s) = _
      have d1 : decide ((valGo l p (c, 1)).1 < 0) = decide (rv (valGo l p (c, 1)) < 0) := by rw [Bool.eq_iff_iff]; simpa using h3.1
      have d2 : decide ((valGo l p (c, 1)).1 = 0) = decide (rv (valGo l p (c, 1)) = 0) := by rw [Bool.eq_iff_iff]; simpa using h3.2
      rw [d1, d2]
    · simp at hv
  · simp at h

theorem dot_map (k : Int) (l : List Int) : ∀ p, dot (l.map (· * k)) p = (k : Rat) * dot l p := by
  induction l with
  | nil => intro p; simp [dot]
  | cons x l ih =>
    intro p
    cases p with
    | nil => simp [dot]
    | cons r p => simp only [List.map_cons, dot, ih, Rat.intCast_mul]; grind
/-- The same atom times a positive number holds at the same points. -/
theorem exH_scale {l l' : List Int} {c c' : Int} {p : List (Int × Int)} {k : Rat} (hk : 0 < k) (h : exv l c p = k * exv l' c' p) (s : Bool) : exH l c s p = exH l' c' s p := by
  unfold exH
  have e1 : decide (exv l c p < 0) = decide (exv l' c' p < 0) := by
    rw [Bool.eq_iff_iff, h]; simp only [decide_eq_true_eq]
    constructor
    · intro hn
      by_cases h2 : exv l' c' p < 0
      · exact h2
      · have h2 := Rat.not_lt.1 h2
        have := Rat.mul_nonneg (Rat.le_of_lt hk) h2; grind
    · intro hn
      have := Rat.mul_pos hk (show 0 < -exv l' c' p by grind); grind
  have e2 : decide (exv l c p = 0) = decide (exv l' c' p = 0) := by
    rw [Bool.eq_iff_iff, h]; simp only [decide_eq_true_eq]
    constructor
    · intro hn
      rcases Rat.mul_eq_zero.1 hn with h2 | h2
      · rw [h2] at hk; exact absurd hk (by decide)
      · exact h2
    · intro hn; rw [hn]; simp
  rw [e1, e2]
theorem gcd_dvd_mem {l : List Int} {c : Int} : (∀ x ∈ l, ((Nat.gcd (gcdL l) c.natAbs : Nat) : Int) ∣ x) ∧ ((Nat.gcd (gcdL l) c.natAbs : Nat) : Int) ∣ c := by
  constructor
  · intro x hx
    exact Int.ofNat_dvd_left.2 (Nat.dvd_trans (Nat.gcd_dvd_left _ _) (gcdL_dvd l x hx))
  · exact Int.ofNat_dvd_left.2 (Nat.gcd_dvd_right _ _)
theorem div1_dvd {l : List Int} {c : Int} : (∀ x ∈ l, div1 (Nat.gcd (gcdL l) c.natAbs) ∣ x) ∧ div1 (Nat.gcd (gcdL l) c.natAbs) ∣ c := by
  unfold div1
  split
  · exact ⟨fun x _ => Int.one_dvd _, Int.one_dvd _⟩
  · exact gcd_dvd_mem
theorem map_tdiv_mul {l : List Int} {g : Int} (h : ∀ x ∈ l, g ∣ x) : (l.map (·.tdiv g)).map (· * g) = l := by
  rw [List.map_map]
  conv => rhs; rw [← List.map_id l]
  exact List.map_congr_left (fun x hx => Int.tdiv_mul_cancel (h x hx))
/-- What is made of numbers holds where the numbers do. -/
theorem mkAt_ex {l : List Int} {c : Int} {s : Bool} (h : (mkAt l c s).2.2.2 = true) (t : Bool) (p : List (Int × Int)) : (mkAt l c s).2.2.1 = s ∧ exH l c t p = exH (mkAt l c s).1 (mkAt l c s).2.1 t p := by
  unfold mkAt at h ⊢
  simp only [] at h ⊢
  split at h
  · rename_i hi
    rw [if_pos hi]
    refine ⟨rfl, ?_⟩
    have hg := div1_pos (Nat.gcd (gcdL l) c.natAbs)
    have hd := div1_dvd (l := l) (c := c)
    refine exH_scale (cast_pos hg) ?_ t
    unfold exv
    have e1 : dot l p = (div1 (Nat.gcd (gcdL l) c.natAbs) : Rat) * dot (l.map (·.tdiv (div1 (Nat.gcd (gcdL l) c.natAbs)))) p := by
      rw [← dot_map, map_tdiv_mul hd.1]
    have e2 : (c : Rat) = (div1 (Nat.gcd (gcdL l) c.natAbs) : Rat) * ((c.tdiv (div1 (Nat.gcd (gcdL l) c.natAbs)) : Int) : Rat) := by
      rw [← Rat.intCast_mul]
      exact_mod_cast congrArg (fun x : Int => (x : Rat)) (Int.mul_tdiv_cancel' hd.2).symm
    show (c : Rat) + dot l p = _ * (((c.tdiv (div1 (Nat.gcd (gcdL l) c.natAbs)) : Int) : Rat) + dot (l.map (·.tdiv (div1 (Nat.gcd (gcdL l) c.natAbs)))) p)
    rw [Rat.mul_add, ← e1, ← e2]
  · simp [noAt] at h
theorem dot_mix (p q : Int) (l1 : List Int) : ∀ (l2 : List Int) (r : List (Int × Int)), l1.length = l2.length → dot (mixL p l1 q l2) r = (p : Rat) * dot l1 r + (q : Rat) * dot l2 r := by
  induction l1 with
  | nil => intro l2 r h; cases l2 <;> simp_all [mixL, dot, Rat.add_zero]
  | cons x l1 ih =>
    intro l2 r h
    cases l2 with
    | nil => simp at h
    | cons y l2 =>
      cases r with
      | nil => simp [mixL, dot, Rat.add_zero]
      | cons a r =>
        have := ih l2 r (by simpa using h)
        unfold mixL at this ⊢
        simp only [List.zipWith_cons_cons, dot, this, Rat.intCast_add, Rat.intCast_mul]
        grind
theorem exv_mix (p q : Int) (l1 l2 : List Int) (c1 c2 : Int) (r : List (Int × Int)) (h : l1.length = l2.length) : exv (mixL p l1 q l2) (p * c1 + q * c2) r = (p : Rat) * exv l1 c1 r + (q : Rat) * exv l2 c2 r := by
  unfold exv
  rw [dot_mix p q l1 l2 r h]
  simp only [Rat.intCast_add, Rat.intCast_mul]
  grind
theorem exH_iff {l : List Int} {c : Int} {s : Bool} {p : List (Int × Int)} : exH l c s p = true ↔ exv l c p < 0 ∨ exv l c p = 0 ∧ s = false := by
  unfold exH; simp
theorem exH_mix {p q : Int} (hp : 0 ≤ p) (hq : 0 ≤ q) {l1 l2 : List Int} {c1 c2 : Int} {s1 s2 : Bool} {r : List (Int × Int)} (h : l1.length = l2.length) (h1 : exH l1 c1 s1 r = true) (h2 : exH l2 c2 s2 r = true) :
    exH (mixL p l1 q l2) (p * c1 + q * c2) (s1 && decide (0 < p) || s2 && decide (0 < q)) r = true := by
  rw [exH_iff] at *
  rw [exv_mix p q l1 l2 c1 c2 r h]
  have a1 : exv l1 c1 r ≤ 0 := by rcases h1 with h1 | h1 <;> grind
  have a2 : exv l2 c2 r ≤ 0 := by rcases h2 with h2 | h2 <;> grind
  have hp' : (0 : Rat) ≤ (p : Rat) := by exact_mod_cast hp
  have hq' : (0 : Rat) ≤ (q : Rat) := by exact_mod_cast hq
  have b1 := Rat.mul_nonneg hp' (show 0 ≤ -exv l1 c1 r by grind)
  have b2 := Rat.mul_nonneg hq' (show 0 ≤ -exv l2 c2 r by grind)
  by_cases hz : (p : Rat) * exv l1 c1 r + (q : Rat) * exv l2 c2 r < 0
  · exact .inl hz
  · right
    have z1 : (p : Rat) * exv l1 c1 r = 0 := by grind
    have z2 : (q : Rat) * exv l2 c2 r = 0 := by grind
    refine ⟨by rw [z1, z2, Rat.add_zero], ?_⟩
    rw [Bool.or_eq_false_iff]
    constructor
    · cases hs : s1 with
      | false => rfl
      | true =>
        rw [Bool.true_and, decide_eq_false_iff_not]
        intro hp0
        rcases Rat.mul_eq_zero.1 z1 with h3 | h3
        · exact (cast_ne (show ¬ p = 0 by omega)) h3
        · rcases h1 with h1 | h1
          · rw [h3] at h1; exact absurd h1 (by decide)
          · rw [hs] at h1; simp at h1
    · cases hs : s2 with
      | false => rfl
      | true =>
        rw [Bool.true_and, decide_eq_false_iff_not]
        intro hq0
        rcases Rat.mul_eq_zero.1 z2 with h3 | h3
        · exact (cast_ne (show ¬ q = 0 by omega)) h3
        · rcases h2 with h2 | h2
          · rw [h3] at h2; exact absurd h2 (by decide)
          · rw [hs] at h2; simp at h2
theorem dot_set (d n : Int) (hd : ¬ d = 0) (l : List Int) : ∀ (v : Nat) (p : List (Int × Int)), v < l.length → p[v]? = some (n, d) → dot ((l.map (· * d)).set v 0) p + ((l.getD v 0 * n : Int) : Rat) = (d : Rat) * dot l p := by
  induction l with
  | nil => intro v p h; simp at h
  | cons x l ih =>
    intro v p h hp
    cases p with
    | nil => simp at hp
    | cons r p =>
      cases v with
      | zero =>
        simp at hp
        subst hp
        simp only [List.map_cons, List.set_cons_zero, dot, dot_map, List.getD_cons_zero, Rat.intCast_mul]
        unfold rv
        have := cast_ne hd
        simp
        grind
      | succ v =>
        have := ih v p (by simpa using h) (by simpa using hp)
        simp only [List.map_cons, List.set_cons_succ, dot, List.getD_cons_succ, Rat.intCast_mul] at this ⊢
        grind
theorem exH_fix {l : List Int} {c : Int} {v : Nat} {n d : Int} {p : List (Int × Int)} (hd : 0 < d) (hv : v < l.length) (hp : p[v]? = some (n, d)) (t : Bool) : exH ((l.map (· * d)).set v 0) (c * d + l.getD v 0 * n) t p = exH l c t p := by
  refine exH_scale (cast_pos hd) ?_ t
  unfold exv
  have := dot_set d n (by omega) l v p hv hp
  simp only [Rat.intCast_add, Rat.intCast_mul] at this ⊢
  grind

end Go.Proofs.YtohoibekddhneaaDoor.Pl
