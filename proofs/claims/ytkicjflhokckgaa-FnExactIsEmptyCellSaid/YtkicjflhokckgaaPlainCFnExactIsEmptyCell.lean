/- Normal forms of lists of atoms: in the order of their directions, the strongest one of each direction. Plain lemmas. -/
import Derived.Test.YtkicjflhokckgaaPlainAFnExactIsEmptyCell
set_option linter.unusedVariables false
namespace Go.Proofs.Ytkicjflhokckgaa.Pl
open Go.RowKit

def lexC : List Int → List Int → Int
  | x :: xs, y :: ys => if x < y then -1 else if y < x then 1 else lexC xs ys
  | _, _ => 0
theorem lexC_flip : ∀ a b, lexC b a = - lexC a b
  | [], [] => rfl
  | [], _ :: _ => rfl
  | _ :: _, [] => rfl
  | x :: xs, y :: ys => by
    have ih := lexC_flip xs ys
    unfold lexC
    by_cases h : x < y
    · rw [if_neg (show ¬ y < x by omega), if_pos h, if_pos h]; rfl
    · by_cases h' : y < x
      · rw [if_pos h', if_neg h, if_pos h']
      · rw [if_neg h', if_neg h, if_neg h, if_neg h']; exact ih
theorem lexC_self (a : List Int) : lexC a a = 0 := by have := lexC_flip a a; omega
theorem lexC_eq : ∀ a b : List Int, a.length = b.length → lexC a b = 0 → a = b
  | [], [], _, _ => rfl
  | [], _ :: _, h, _ => by simp at h
  | _ :: _, [], h, _ => by simp at h
  | x :: xs, y :: ys, h, h0 => by
    unfold lexC at h0
    by_cases h1 : x < y
    · rw [if_pos h1] at h0; omega
    · by_cases h2 : y < x
      · rw [if_neg h1, if_pos h2] at h0; omega
      · rw [if_neg h1, if_neg h2] at h0
        rw [lexC_eq xs ys (by simpa using h) h0, show x = y by omega]
theorem lexC_trans : ∀ a b c : List Int, a.length = b.length → b.length = c.length → lexC a b ≤ 0 → lexC b c ≤ 0 → lexC a c ≤ 0
  | [], [], [], _, _, _, _ => by simp [lexC]
  | [], [], _ :: _, _, h, _, _ => by simp at h
  | [], _ :: _, _, h, _, _, _ => by simp at h
  | _ :: _, [], _, h, _, _, _ => by simp at h
  | _ :: _, _ :: _, [], _, h, _, _ => by simp at h
  | x :: xs, y :: ys, z :: zs, h, h', h1, h2 => by
    have ih := lexC_trans xs ys zs (by simpa using h) (by simpa using h')
    unfold lexC at h1 h2 ⊢
    by_cases a1 : x < z
    · rw [if_pos a1]; omega
    · by_cases a2 : x < y
      · by_cases a3 : y < z
        · omega
        · rw [if_neg a3, if_pos (by omega)] at h2; omega
      · by_cases a3 : y < x
        · rw [if_neg a2, if_pos a3] at h1; omega
        · rw [if_neg a2, if_neg a3] at h1
          by_cases a4 : y < z
          · omega
          · by_cases a5 : z < y
            · rw [if_neg a4, if_pos a5] at h2; omega
            · rw [if_neg a4, if_neg a5] at h2
              rw [if_neg a1, if_neg (by omega)]
              exact ih h1 h2
/-- A direction: the coefficients divided by their divisor. -/
def dirL (l : List Int) : List Int := l.map (·.tdiv (div1 (gcdL l)))
theorem dirL_len (l : List Int) : (dirL l).length = l.length := by simp [dirL]
theorem cmpDir_lex (g h : Int) : ∀ l m : List Int, cmpDir g h l m = lexC (l.map (·.tdiv g)) (m.map (·.tdiv h))
  | [], [] => rfl
  | [], _ :: _ => rfl
  | _ :: _, [] => rfl
  | x :: xs, y :: ys => by simp only [cmpDir, List.map_cons, lexC, cmpDir_lex g h xs ys]
theorem way_lex (l m : List Int) : wayAt l m = lexC (dirL l) (dirL m) := cmpDir_lex _ _ l m
theorem way_flip (l m : List Int) : wayAt m l = - wayAt l m := by rw [way_lex, way_lex, lexC_flip]
theorem way_self (l : List Int) : wayAt l l = 0 := by rw [way_lex, lexC_self]
theorem way_dir {l m : List Int} (h : l.length = m.length) (h0 : wayAt l m = 0) : dirL l = dirL m := by
  rw [way_lex] at h0
  exact lexC_eq _ _ (by rw [dirL_len, dirL_len, h]) h0
theorem way_left {l m n : List Int} (h : l.length = m.length) (h0 : wayAt l m = 0) : wayAt l n = wayAt m n := by rw [way_lex, way_lex m, way_dir h h0]
theorem way_right {l m n : List Int} (h : m.length = n.length) (h0 : wayAt m n = 0) : wayAt l m = wayAt l n := by rw [way_lex, way_lex l n, way_dir h h0]
theorem way_le {l m n : List Int} (h : l.length = m.length) (h' : m.length = n.length) (h1 : wayAt l m ≤ 0) (h2 : wayAt m n ≤ 0) : wayAt l n ≤ 0 := by
  rw [way_lex] at *
  exact lexC_trans _ _ _ (by rw [dirL_len, dirL_len, h]) (by rw [dirL_len, dirL_len, h']) h1 h2
theorem way_lt {l m n : List Int} (h : l.length = m.length) (h' : m.length = n.length) (h1 : wayAt l m < 0) (h2 : wayAt m n ≤ 0) : wayAt l n < 0 := by
  have h3 := way_le h h' (by omega) h2
  by_cases h4 : wayAt l n = 0
  · have h5 := way_right (l := m) (h.trans h').symm (by rw [way_flip, h4]; rfl : wayAt n l = 0)
    have h6 := way_flip l m
    omega
  · omega
theorem sgn_flip (a b : Int) : sgn b a = - sgn a b := by
  unfold sgn
  by_cases h : a < b
  · rw [if_neg (by omega), if_pos h, if_pos h]; rfl
  · by_cases h' : b < a
    · rw [if_pos h', if_neg h, if_pos h']
    · rw [if_neg h', if_neg h, if_neg h, if_neg h']; rfl
/-- How strong the first is against the second. -/
def stA (a b : At) : Int := strengthAt a.1 a.2.1 a.2.2 b.1 b.2.1 b.2.2
theorem stA_iff (a b : At) : stA a b ≤ 0 ↔ a.2.1 * div1 (gcdL b.1) < b.2.1 * div1 (gcdL a.1) ∨ a.2.1 * div1 (gcdL b.1) = b.2.1 * div1 (gcdL a.1) ∧ (a.2.2 = true → b.2.2 = true) := by
  unfold stA strengthAt sgn
  by_cases h : a.2.1 * div1 (gcdL b.1) < b.2.1 * div1 (gcdL a.1)
  · simp [h]
  · by_cases h' : b.2.1 * div1 (gcdL a.1) < a.2.1 * div1 (gcdL b.1)
    · simp [h, h']; omega
    · have e : a.2.1 * div1 (gcdL b.1) = b.2.1 * div1 (gcdL a.1) := by omega
      simp only [if_false, ne_eq, not_true_eq_false, e, true_and, false_or, Int.lt_irrefl]
      cases a.2.2 <;> cases b.2.2 <;> simp
theorem stA_flip (a b : At) : stA b a = - stA a b := by
  unfold stA strengthAt
  rw [sgn_flip (a.2.1 * div1 (gcdL b.1))]
  by_cases h : sgn (a.2.1 * div1 (gcdL b.1)) (b.2.1 * div1 (gcdL a.1)) = 0
  · rw [h]
    simp only [Int.neg_zero, ne_eq, not_true_eq_false, if_false]
    cases a.2.2 <;> cases b.2.2 <;> simp
  · rw [if_pos (by omega), if_pos h]
theorem stA_self (a : At) : stA a a = 0 := by have := stA_flip a a; omega
theorem stA_trans (a b c : At) (h1 : stA a b ≤ 0) (h2 : stA b c ≤ 0) : stA a c ≤ 0 := by
  rw [stA_iff] at *
  have ga := div1_pos (gcdL a.1)
  have gb := div1_pos (gcdL b.1)
  have gc := div1_pos (gcdL c.1)
  generalize div1 (gcdL a.1) = x at *
  generalize div1 (gcdL b.1) = y at *
  generalize div1 (gcdL c.1) = z at *
  have e1 : a.2.1 * z * y = a.2.1 * y * z := Int.mul_right_comm ..
  have e2 : c.2.1 * x * y = c.2.1 * y * x := Int.mul_right_comm ..
  have e3 : b.2.1 * x * z = b.2.1 * z * x := Int.mul_right_comm ..
  rcases h1 with h1 | ⟨h1, s1⟩
  · left
    have k1 := Int.mul_lt_mul_of_pos_right h1 gc
    have k2 : b.2.1 * z * x ≤ c.2.1 * y * x := by
      rcases h2 with h2 | ⟨h2, _⟩
      · exact Int.le_of_lt (Int.mul_lt_mul_of_pos_right h2 ga)
      · rw [h2]; exact Int.le_refl _
    exact Int.lt_of_mul_lt_mul_right (by omega : a.2.1 * z * y < c.2.1 * x * y) (Int.le_of_lt gb)
  · have k1 : a.2.1 * y * z = b.2.1 * x * z := by rw [h1]
    rcases h2 with h2 | ⟨h2, s2⟩
    · left
      have k2 := Int.mul_lt_mul_of_pos_right h2 ga
      exact Int.lt_of_mul_lt_mul_right (by omega : a.2.1 * z * y < c.2.1 * x * y) (Int.le_of_lt gb)
    · right
      have k2 : b.2.1 * z * x = c.2.1 * y * x := by rw [h2]
      exact ⟨Int.eq_of_mul_eq_mul_right (Int.ne_of_gt gb) (by omega : a.2.1 * z * y = c.2.1 * x * y), fun h => s2 (s1 h)⟩
/-- Directions first, then strength. -/
def cmpK (a b : At) : Int := if wayAt a.1 b.1 ≠ 0 then wayAt a.1 b.1 else stA a b
theorem cmpK_flip (a b : At) : cmpK b a = - cmpK a b := by
  unfold cmpK
  rw [way_flip a.1 b.1, stA_flip a b]
  by_cases h : wayAt a.1 b.1 = 0
  · rw [if_neg (by omega), if_neg (by omega)]
  · rw [if_pos (by omega), if_pos h]
theorem cmpK_way {a b : At} (h : cmpK a b ≤ 0) : wayAt a.1 b.1 ≤ 0 := by
  unfold cmpK at h
  by_cases h0 : wayAt a.1 b.1 = 0
  · omega
  · rw [if_pos h0] at h; exact h
theorem cmpK_st {a b : At} (h : cmpK a b ≤ 0) (h0 : wayAt a.1 b.1 = 0) : stA a b ≤ 0 := by
  unfold cmpK at h
  rwa [if_neg (by omega)] at h
theorem cmpK_trans {a b c : At} (h : a.1.length = b.1.length) (h' : b.1.length = c.1.length) (h1 : cmpK a b ≤ 0) (h2 : cmpK b c ≤ 0) : cmpK a c ≤ 0 := by
  have w1 := cmpK_way h1
  have w2 := cmpK_way h2
  have w3 := way_le h h' w1 w2
  unfold cmpK
  by_cases h0 : wayAt a.1 c.1 = 0
  · rw [if_neg (by omega)]
    have e1 : wayAt a.1 b.1 = 0 := by
      by_cases hh : wayAt a.1 b.1 = 0
      · exact hh
      · have := way_lt h h' (by omega) w2; omega
    have e2 : wayAt b.1 c.1 = 0 := by rw [← way_left h e1]; exact h0
    exact stA_trans _ _ _ (cmpK_st h1 e1) (cmpK_st h2 e2)
  · rw [if_pos h0]; exact w3
theorem gcd_dvd_all (l : List Int) : ∀ x ∈ l, ((gcdL l : Nat) : Int) ∣ x := by
  induction l with
  | nil => intro x hx; cases hx
  | cons y l ih =>
    intro x hx
    rw [gcdL_cons]
    rcases List.mem_cons.1 hx with rfl | hx
    · exact Int.ofNat_dvd_left.2 (Nat.gcd_dvd_left _ _)
    · exact Int.dvd_trans (Int.natCast_dvd_natCast.2 (Nat.gcd_dvd_right _ _)) (ih x hx)
theorem dir_back (l : List Int) (h : gcdL l ≠ 0) : (dirL l).map (· * ((gcdL l : Nat) : Int)) = l := by
  have e : div1 (gcdL l) = ((gcdL l : Nat) : Int) := by unfold div1; rw [if_neg h]
  unfold dirL
  rw [e, List.map_map]
  conv => rhs; rw [← List.map_id l]
  exact List.map_congr_left (fun x hx => Int.tdiv_mul_cancel (gcd_dvd_all l x hx))
theorem cmpK_eq {a b : At} (ha : isAt a.1 a.2.1 = true) (hb : isAt b.1 b.2.1 = true) (h : a.1.length = b.1.length) (na : gcdL a.1 ≠ 0) (nb : gcdL b.1 ≠ 0) (h0 : cmpK a b = 0) : a = b := by
  have hw : wayAt a.1 b.1 = 0 := by
    unfold cmpK at h0
    by_cases hh : wayAt a.1 b.1 = 0
    · exact hh
    · rw [if_pos hh] at h0; exact absurd h0 hh
  have s1 : stA a b ≤ 0 := cmpK_st (by omega) hw
  have s2 : stA b a ≤ 0 := cmpK_st (by rw [cmpK_flip]; omega) (by rw [way_flip]; omega)
  rw [stA_iff] at s1 s2
  have ea : div1 (gcdL a.1) = ((gcdL a.1 : Nat) : Int) := by unfold div1; rw [if_neg na]
  have eb : div1 (gcdL b.1) = ((gcdL b.1 : Nat) : Int) := by unfold div1; rw [if_neg nb]
  rw [ea, eb] at s1 s2
  have hc : a.2.1 * ((gcdL b.1 : Nat) : Int) = b.2.1 * ((gcdL a.1 : Nat) : Int) := by omega
  have hs : a.2.2 = b.2.2 := by
    have k1 : a.2.2 = true → b.2.2 = true := by rcases s1 with s | s; · omega
                                                · exact s.2
    have k2 : b.2.2 = true → a.2.2 = true := by rcases s2 with s | s; · omega
                                                · exact s.2
    cases hx : a.2.2 <;> cases hy : b.2.2 <;> simp_all
  have ga := (isAt_iff.1 ha).2.2.2
  have gb := (isAt_iff.1 hb).2.2.2
  have ca : Nat.Coprime (gcdL a.1) a.2.1.natAbs := by
    have : 0 < Nat.gcd (gcdL a.1) a.2.1.natAbs := Nat.gcd_pos_of_pos_left _ (by omega)
    unfold Nat.Coprime; omega
  have cb : Nat.Coprime (gcdL b.1) b.2.1.natAbs := by
    have : 0 < Nat.gcd (gcdL b.1) b.2.1.natAbs := Nat.gcd_pos_of_pos_left _ (by omega)
    unfold Nat.Coprime; omega
  have hn : a.2.1.natAbs * gcdL b.1 = b.2.1.natAbs * gcdL a.1 := by
    have := congrArg Int.natAbs hc
    rwa [Int.natAbs_mul, Int.natAbs_mul, Int.natAbs_natCast, Int.natAbs_natCast] at this
  have d1 : gcdL a.1 ∣ gcdL b.1 := ca.dvd_of_dvd_mul_left (by rw [hn]; exact Nat.dvd_mul_left _ _)
  have d2 : gcdL b.1 ∣ gcdL a.1 := cb.dvd_of_dvd_mul_left (by rw [← hn]; exact Nat.dvd_mul_left _ _)
  have eg : gcdL a.1 = gcdL b.1 := Nat.dvd_antisymm d1 d2
  have ec : a.2.1 = b.2.1 := by
    rw [eg] at hc
    exact Int.eq_of_mul_eq_mul_right (by omega) hc
  have el : a.1 = b.1 := by
    rw [← dir_back a.1 na, ← dir_back b.1 nb, way_dir h hw, eg]
  exact Prod.ext el (Prod.ext ec hs)

/-- An atom put into its place: of two in one direction the stronger one stays. -/
def putN (a : At) : List At → List At
  | [] => [a]
  | b :: l => if wayAt b.1 a.1 < 0 then b :: putN a l else if wayAt b.1 a.1 = 0 then (if 0 ≤ stA b a then b :: l else a :: l) else a :: b :: l
def nfL (l : List At) : List At := l.foldl (fun acc a => putN a acc) []
/-- Of neighbours in one direction the last one. -/
def ddN : List At → List At
  | a :: b :: l => if wayAt a.1 b.1 = 0 then ddN (b :: l) else a :: ddN (b :: l)
  | l => l
structure Norm (P : At → Prop) (R : List At) : Prop where
  sub : ∀ r ∈ R, P r
  ord : R.Pairwise (fun a b => wayAt a.1 b.1 < 0)
  best : ∀ a, P a → ∃ r ∈ R, wayAt r.1 a.1 = 0 ∧ 0 ≤ stA r a
theorem putN_mem (a : At) : ∀ R x, x ∈ putN a R → x = a ∨ x ∈ R
  | [], x, h => by simp [putN] at h; exact .inl h
  | b :: l, x, h => by
    unfold putN at h
    split at h
    · rcases List.mem_cons.1 h with rfl | h
      · simp
      · rcases putN_mem a l x h with h | h
        · exact .inl h
        · simp [h]
    · split at h
      · split at h
        · exact .inr h
        · rcases List.mem_cons.1 h with h | h
          · exact .inl h
          · simp [h]
      · rcases List.mem_cons.1 h with h | h
        · exact .inl h
        · exact .inr h
theorem putN_ord (d : Nat) (a : At) (ha : a.1.length = d) : ∀ R : List At, (∀ x ∈ R, x.1.length = d) → R.Pairwise (fun a b => wayAt a.1 b.1 < 0) → (putN a R).Pairwise (fun a b => wayAt a.1 b.1 < 0)
  | [], _, _ => by simp [putN]
  | b :: l, hl, h => by
    obtain ⟨h1, h2⟩ := List.pairwise_cons.1 h
    have hb := hl b (by simp)
    have hl' : ∀ x ∈ l, x.1.length = d := fun x hx => hl x (by simp [hx])
    unfold putN
    split
    · rename_i hw
      refine List.pairwise_cons.2 ⟨fun x hx => ?_, putN_ord d a ha l hl' h2⟩
      rcases putN_mem a l x hx with rfl | hx
      · exact hw
      · exact h1 x hx
    · rename_i hw
      split
      · rename_i h0
        split
        · exact h
        · refine List.pairwise_cons.2 ⟨fun x hx => ?_, h2⟩
          rw [← way_left (hb.trans ha.symm) h0]; exact h1 x hx
      · rename_i h0
        have hab : wayAt a.1 b.1 < 0 := by rw [way_flip]; omega
        refine List.pairwise_cons.2 ⟨fun x hx => ?_, h⟩
        rcases List.mem_cons.1 hx with rfl | hx
        · exact hab
        · exact way_lt (ha.trans hb.symm) (hb.trans (hl' x hx).symm) hab (by have := h1 x hx; omega)
theorem putN_new (a : At) : ∀ R : List At, ∃ r ∈ putN a R, wayAt r.1 a.1 = 0 ∧ 0 ≤ stA r a
  | [] => ⟨a, by simp [putN], way_self _, by rw [stA_self]; omega⟩
  | b :: l => by
    unfold putN
    split
    · obtain ⟨r, h, k⟩ := putN_new a l
      exact ⟨r, by simp [h], k⟩
    · split
      · rename_i h0
        split
        · rename_i h1; exact ⟨b, by simp, h0, h1⟩
        · exact ⟨a, by simp, way_self _, by rw [stA_self]; omega⟩
      · exact ⟨a, by simp, way_self _, by rw [stA_self]; omega⟩
theorem putN_old (a : At) : ∀ R : List At, ∀ x ∈ R, ∃ r ∈ putN a R, wayAt r.1 x.1 = 0 ∧ 0 ≤ stA r x
  | [], x, h => by cases h
  | b :: l, x, h => by
    have hs : 0 ≤ stA x x := by rw [stA_self]; omega
    unfold putN
    split
    · rcases List.mem_cons.1 h with rfl | h
      · exact ⟨x, by simp, way_self _, hs⟩
      · obtain ⟨r, h, k⟩ := putN_old a l x h
        exact ⟨r, by simp [h], k⟩
    · split
      · rename_i h0
        split
        · exact ⟨x, h, way_self _, hs⟩
        · rename_i h1
          rcases List.mem_cons.1 h with rfl | h
          · exact ⟨a, by simp, by rw [way_flip, h0]; rfl, by rw [stA_flip]; omega⟩
          · exact ⟨x, by simp [h], way_self _, hs⟩
      · exact ⟨x, by simp [h], way_self _, hs⟩
theorem putN_norm (d : Nat) {P : At → Prop} (hP : ∀ x, P x → x.1.length = d) (a : At) (ha : a.1.length = d) {R : List At} (h : Norm P R) : Norm (fun x => x = a ∨ P x) (putN a R) where
  sub r hr := (putN_mem a R r hr).elim .inl (fun h' => .inr (h.sub r h'))
  ord := putN_ord d a ha R (fun x hx => hP x (h.sub x hx)) h.ord
  best x hx := by
    rcases hx with rfl | hx
    · exact putN_new x R
    · obtain ⟨r, hr, k1, k2⟩ := h.best x hx
      obtain ⟨q, hq, k3, k4⟩ := putN_old a R r hr
      have lr := hP r (h.sub r hr)
      have lq : q.1.length = d := (putN_mem a R q hq).elim (fun e => by rw [e]; exact ha) (fun h' => hP q (h.sub q h'))
      refine ⟨q, hq, by rw [way_left (lq.trans lr.symm) k3]; exact k1, ?_⟩
      have := stA_trans x r q (by rw [stA_flip]; omega) (by rw [stA_flip]; omega)
      rw [stA_flip]; omega
theorem nfL_norm (d : Nat) (L : List At) (hL : ∀ x ∈ L, x.1.length = d) : Norm (· ∈ L) (nfL L) := by
  have key : ∀ (M : List At) (P : At → Prop) (R : List At), (∀ x ∈ M, x.1.length = d) → (∀ x, P x → x.1.length = d) → Norm P R → Norm (fun x => P x ∨ x ∈ M) (M.foldl (fun acc a => putN a acc) R) := by
    intro M
    induction M with
    | nil => intro P R _ _ h; exact ⟨fun r hr => .inl (h.sub r hr), h.ord, fun a ha => h.best a (ha.elim id (fun h' => by cases h'))⟩
    | cons a M ih =>
      intro P R hM hP h
      have k := ih (fun x => x = a ∨ P x) (putN a R) (fun x hx => hM x (by simp [hx])) (fun x hx => hx.elim (fun e => by rw [e]; exact hM a (by simp)) (hP x)) (putN_norm d hP a (hM a (by simp)) h)
      refine ⟨fun r hr => ?_, k.ord, fun x hx => k.best x ?_⟩
      · rcases k.sub r hr with (rfl | h') | h'
        · exact .inr (by simp)
        · exact .inl h'
        · exact .inr (by simp [h'])
      · rcases hx with h' | h'
        · exact .inl (.inr h')
        · rcases List.mem_cons.1 h' with h' | h'
          · exact .inl (.inl h')
          · exact .inr h'
  have := key L (fun _ => False) [] hL (fun _ h => h.elim) ⟨fun r hr => (by cases hr), List.Pairwise.nil, fun _ h => h.elim⟩
  exact ⟨fun r hr => (this.sub r hr).elim (fun h => h.elim) id, this.ord, fun a ha => this.best a (.inr ha)⟩
theorem ddN_mem : ∀ S x, x ∈ ddN S → x ∈ S
  | [], x, h => by simp [ddN] at h
  | [a], x, h => by simpa [ddN] using h
  | a :: b :: l, x, h => by
    unfold ddN at h
    split at h
    · exact List.mem_cons_of_mem _ (ddN_mem (b :: l) x h)
    · rcases List.mem_cons.1 h with rfl | h
      · simp
      · exact List.mem_cons_of_mem _ (ddN_mem (b :: l) x h)
theorem ddN_ord (d : Nat) : ∀ S : List At, (∀ x ∈ S, x.1.length = d) → S.Pairwise (fun a b => cmpK a b ≤ 0) → (ddN S).Pairwise (fun a b => wayAt a.1 b.1 < 0)
  | [], _, _ => by simp [ddN]
  | [a], _, _ => by simp [ddN]
  | a :: b :: l, hl, h => by
    obtain ⟨h1, h2⟩ := List.pairwise_cons.1 h
    have ih := ddN_ord d (b :: l) (fun x hx => hl x (by simp at hx; simp [hx])) h2
    unfold ddN
    split
    · exact ih
    · rename_i h0
      refine List.pairwise_cons.2 ⟨fun x hx => ?_, ih⟩
      have hx' := ddN_mem _ _ hx
      have la := hl a (by simp)
      have lb := hl b (by simp)
      have lx := hl x (by simp at hx'; simp [hx'])
      have hab : wayAt a.1 b.1 < 0 := by have := cmpK_way (h1 b (by simp)); omega
      refine way_lt (la.trans lb.symm) (lb.trans lx.symm) hab ?_
      rcases List.mem_cons.1 hx' with rfl | hx'
      · rw [way_self]; omega
      · exact cmpK_way ((List.pairwise_cons.1 h2).1 x hx')
theorem ddN_best (d : Nat) : ∀ S : List At, (∀ x ∈ S, x.1.length = d) → S.Pairwise (fun a b => cmpK a b ≤ 0) → ∀ x ∈ S, ∃ r ∈ ddN S, wayAt r.1 x.1 = 0 ∧ 0 ≤ stA r x
  | [], _, _, x, h => by cases h
  | [a], _, _, x, h => by
    obtain rfl : x = a := by simpa using h
    exact ⟨x, by simp [ddN], way_self _, by rw [stA_self]; omega⟩
  | a :: b :: l, hl, h, x, hx => by
    obtain ⟨h1, h2⟩ := List.pairwise_cons.1 h
    have ih := ddN_best d (b :: l) (fun x hx => hl x (by simp at hx; simp [hx])) h2
    unfold ddN
    split
    · rename_i h0
      rcases List.mem_cons.1 hx with rfl | hx
      · obtain ⟨r, hr, k1, k2⟩ := ih b (by simp)
        have hab := cmpK_st (h1 b (by simp)) h0
        refine ⟨r, hr, ?_, ?_⟩
        · have lx := hl x (by simp)
          have lb := hl b (by simp)
          rw [way_right (lx.trans lb.symm) h0]; exact k1
        · have := stA_trans x b r hab (by rw [stA_flip]; omega)
          rw [stA_flip]; omega
      · exact ih x hx
    · rcases List.mem_cons.1 hx with rfl | hx
      · exact ⟨x, by simp, way_self _, by rw [stA_self]; omega⟩
      · obtain ⟨r, hr, k⟩ := ih x hx
        exact ⟨r, by simp [hr], k⟩
theorem ord_unique : ∀ R R' : List At, R.Pairwise (fun a b => wayAt a.1 b.1 < 0) → R'.Pairwise (fun a b => wayAt a.1 b.1 < 0) → (∀ x, x ∈ R ↔ x ∈ R') → R = R'
  | [], [], _, _, _ => rfl
  | [], y :: ys, _, _, h => by have := (h y).2 (by simp); cases this
  | x :: xs, [], _, _, h => by have := (h x).1 (by simp); cases this
  | x :: xs, y :: ys, h1, h2, h => by
    obtain ⟨a1, a2⟩ := List.pairwise_cons.1 h1
    obtain ⟨b1, b2⟩ := List.pairwise_cons.1 h2
    have e : x = y := by
      rcases List.mem_cons.1 ((h x).1 (by simp)) with e | e
      · exact e
      · rcases List.mem_cons.1 ((h y).2 (by simp)) with e' | e'
        · exact e'.symm
        · have k1 := b1 x e
          have k2 := a1 y e'
          rw [way_flip] at k1; omega
    subst e
    have no : ∀ z, wayAt x.1 z.1 < 0 → z ≠ x := fun z hz e => by rw [e, way_self] at hz; omega
    rw [ord_unique xs ys a2 b2 (fun z => ⟨fun hz => ?_, fun hz => ?_⟩)]
    · rcases List.mem_cons.1 ((h z).1 (by simp [hz])) with e | e
      · exact absurd e (no z (a1 z hz))
      · exact e
    · rcases List.mem_cons.1 ((h z).2 (by simp [hz])) with e | e
      · exact absurd e (no z (b1 z hz))
      · exact e
/-- Valid atoms with variables, of so many coefficients. -/
def okN (d : Nat) (a : At) : Prop := isAt a.1 a.2.1 = true ∧ a.1.length = d ∧ gcdL a.1 ≠ 0
theorem norm_unique (d : Nat) {P : At → Prop} (hP : ∀ x, P x → okN d x) {R R' : List At} (h : Norm P R) (h' : Norm P R') : R = R' := by
  have key : ∀ {R R' : List At}, Norm P R → Norm P R' → ∀ r ∈ R, r ∈ R' := by
    intro R R' h h' r hr
    obtain ⟨q, hq, k1, k2⟩ := h'.best r (h.sub r hr)
    obtain ⟨p, hp, k3, k4⟩ := h.best q (h'.sub q hq)
    have or_ := hP r (h.sub r hr)
    have oq := hP q (h'.sub q hq)
    have op := hP p (h.sub p hp)
    have e : p = r := by
      by_cases e : p = r
      · exact e
      · exfalso
        have hw : wayAt p.1 r.1 = 0 := by rw [way_left (op.2.1.trans oq.2.1.symm) k3]; exact k1
        have sep : ∀ (S : List At), S.Pairwise (fun a b => wayAt a.1 b.1 < 0) → ∀ a ∈ S, ∀ b ∈ S, a ≠ b → wayAt a.1 b.1 ≠ 0 := by
          intro S
          induction S with
          | nil => intro _ a ha; cases ha
          | cons c S ih =>
            intro hS a ha b hb hab
            obtain ⟨c1, c2⟩ := List.pairwise_cons.1 hS
            rcases List.mem_cons.1 ha with ea | ha'
            · rcases List.mem_cons.1 hb with eb | hb'
              · exact absurd (ea.trans eb.symm) hab
              · have := c1 b hb'; rw [ea]; omega
            · rcases List.mem_cons.1 hb with eb | hb'
              · have := c1 a ha'; rw [eb, way_flip]; omega
              · exact ih c2 a ha' b hb' hab
        exact sep R h.ord p hp r hr e hw
    subst e
    have e2 : p = q := cmpK_eq or_.1 oq.1 (or_.2.1.trans oq.2.1.symm) or_.2.2 oq.2.2 (by
      unfold cmpK
      rw [if_neg (by rw [k3]; simp)]
      rw [stA_flip] at k2
      omega)
    rw [e2]; exact hq
  exact ord_unique R R' h.ord h'.ord (fun x => ⟨key h h' x, key h' h x⟩)
/-- Sorted and thinned out: the normal form. -/
theorem dd_nf (d : Nat) (L S : List At) (hL : ∀ x ∈ L, okN d x) (hp : S.Perm L) (hs : S.Pairwise (fun a b => cmpK a b ≤ 0)) : ddN S = nfL L := by
  have hS : ∀ x ∈ S, x.1.length = d := fun x hx => (hL x (hp.mem_iff.1 hx)).2.1
  refine norm_unique d (P := (· ∈ L)) (fun x hx => hL x hx) ⟨fun r hr => hp.mem_iff.1 (ddN_mem S r hr), ddN_ord d S hS hs, fun a ha => ddN_best d S hS hs a (hp.mem_iff.2 ha)⟩ (nfL_norm d L (fun x hx => (hL x hx).2.1))
end Go.Proofs.Ytkicjflhokckgaa.Pl
