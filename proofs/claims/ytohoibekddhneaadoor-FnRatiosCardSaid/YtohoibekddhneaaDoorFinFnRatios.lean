/- The plain statement of the law FnRatios, over numbers and lists alone: the call answers true. -/
import Derived.Test.YtohoibekddhneaaDoorLibFnRatios
set_option linter.unusedVariables false
set_option linter.unusedSimpArgs false
namespace Go.Proofs.YtohoibekddhneaaDoor.FinFnRatios
open Go.RowKit Go.Proofs.YtohoibekddhneaaDoor.PFnRatios Go.Proofs.YtohoibekddhneaaDoor.Pl Go.Proofs.YtohoibekddhneaaDoor.LFnRatios Go.Proofs.YtohoibekddhneaaDoorW.PrintWords Go.Proofs.YtohoibekddhneaaDoorW.PrintLast

theorem addR_comm (a b c d : Int) : addR a b c d = addR c d a b := by
  unfold addR
  rw [Bool.and_comm (isRat a b), Int.add_comm (a * d), Int.mul_comm b d]
theorem mulR_comm (a b c d : Int) : mulR a b c d = mulR c d a b := by
  unfold mulR
  rw [Bool.and_comm (isRat a b), Int.mul_comm a c, Int.mul_comm b d]
theorem redOf_same {n m a b : Int} (hm : 0 < m) (h : isRat a b = true) (e : n * b = a * m) : redOf n m = (a, b) := by
  have hb := isRat_iff.1 h
  have hd : b ∣ m := by
    have h1 : b ∣ a * m := ⟨n, by rw [← e, Int.mul_comm]⟩
    have h2 := Int.natAbs_dvd_natAbs.2 h1
    rw [Int.natAbs_mul] at h2
    have h3 : Nat.Coprime b.natAbs a.natAbs := by rw [Nat.coprime_comm]; exact hb.2.2
    exact Int.natAbs_dvd_natAbs.1 (h3.dvd_of_dvd_mul_left h2)
  obtain ⟨k, rfl⟩ := hd
  have hk : 0 < k := by
    rcases Int.lt_trichotomy k 0 with h4 | h4 | h4
    · have := Int.mul_pos (show 0 < b by omega) (show 0 < -k by omega)
      grind
    · subst h4; simp at hm
    · exact h4
  have en : n = a * k := Int.eq_of_mul_eq_mul_right (a := b) (by omega) (by rw [e]; grind)
  subst en
  have eg : (Int.gcd (a * k) (b * k) : Int) = k := by
    rw [Int.gcd_mul_right, hb.2.2]; omega
  unfold redOf
  rw [eg, Int.mul_tdiv_cancel _ (by omega), Int.mul_tdiv_cancel _ (by omega), if_pos h]
theorem red_same {n m a b : Int} (hm : ¬ m = 0) (h : isRat a b = true) (e : n * b = a * m) : red n m = (a, b) := by
  unfold red
  rw [if_neg hm]
  split
  · exact redOf_same (by omega) h (by grind)
  · exact redOf_same (by omega) h e
theorem redOf_cross {n d : Int} (h : isRat (redOf n d).1 (redOf n d).2 = true) : (redOf n d).1 * d = n * (redOf n d).2 := by
  unfold redOf at h ⊢
  split at h
  · rename_i hr
    rw [if_pos hr]
    have e1 := Int.tdiv_mul_cancel (Int.gcd_dvd_left n d)
    have e2 := Int.tdiv_mul_cancel (Int.gcd_dvd_right n d)
    generalize n.tdiv (Int.gcd n d) = x at *
    generalize d.tdiv (Int.gcd n d) = y at *
    generalize (Int.gcd n d : Int) = g at *
    subst e1 e2
    show x * (y * g) = x * g * y
    grind
  · simp [isRat00] at h
theorem red_cross {n d : Int} (h : isRat (red n d).1 (red n d).2 = true) : (red n d).1 * d = n * (red n d).2 := by
  unfold red at h ⊢
  split at h
  · simp [isRat00] at h
  · rename_i h0
    rw [if_neg h0]
    split at h
    · rename_i h1
      rw [if_pos h1]
      have := redOf_cross h
      grind
    · rename_i h1
      rw [if_neg h1]
      exact redOf_cross h
theorem negR_rat {c d : Int} (h : isRat c d = true) : isRat (-c) d = true := by
  rw [isRat_iff] at *
  have : Int.gcd (-c) d = Int.gcd c d := by simp [Int.gcd]
  omega
theorem add_undo {a b c d : Int} (h : isRat (addR a b c d).1 (addR a b c d).2 = true) : addR (addR a b c d).1 (addR a b c d).2 (negR c d).1 (negR c d).2 = (a, b) := by
  have h0 := h
  unfold addR at h
  split at h
  · rename_i hr
    simp only [Bool.and_eq_true] at hr
    have e : addR a b c d = red (a * d + c * b) (b * d) := by unfold addR; rw [if_pos (by simp [hr])]
    rw [e] at h0 ⊢
    have hc := red_cross h0
    have h3 := isRat_den h0
    have h1 := isRat_den hr.1
    have h2 := isRat_den hr.2
    generalize red (a * d + c * b) (b * d) = s at *
    have en : negR c d = (-c, d) := by unfold negR; rw [if_pos hr.2]
    rw [en]
    unfold addR
    rw [if_pos (by simp [h0, negR_rat hr.2])]
    exact red_same (Int.mul_ne_zero (by omega) (by omega)) hr.1 (by grind)
  · simp [isRat00] at h
theorem div_undo {a b c d : Int} (h : isRat (divR a b c d).1 (divR a b c d).2 = true) : mulR (divR a b c d).1 (divR a b c d).2 c d = (a, b) := by
  have h0 := h
  unfold divR at h
  split at h
  · rename_i hr
    simp only [Bool.and_eq_true] at hr
    split at h
    · simp [isRat00] at h
    · rename_i hz
      have e : divR a b c d = red (a * d) (b * c) := by unfold divR; rw [if_pos (by simp [hr]), if_neg hz]
      rw [e] at h0 ⊢
      have hc := red_cross h0
      have h3 := isRat_den h0
      have h1 := isRat_den hr.1
      have h2 := isRat_den hr.2
      generalize red (a * d) (b * c) = s at *
      unfold mulR
      rw [if_pos (by simp [h0, hr.2])]
      exact red_same (Int.mul_ne_zero (by omega) (by omega)) hr.1 (by grind)
  · simp [isRat00] at h
theorem rat_eq {a b c d : Int} (h1 : isRat a b = true) (h2 : isRat c d = true) (e : a * d = c * b) : a = c ∧ b = d := by
  have x1 := redOf_same (n := a) (m := b) (isRat_den h1) h1 rfl
  have x2 := redOf_same (n := a) (m := b) (isRat_den h1) h2 e
  rw [x1] at x2
  simpa using x2
theorem cmp_law (a b c d : Int) : cmpR a b c d = 2 ∧ cmpR c d a b = 2 ∨ cmpR a b c d = -cmpR c d a b ∧ (cmpR a b c d = 0 ↔ a = c ∧ b = d) ∧ -1 ≤ cmpR c d a b ∧ cmpR c d a b ≤ 1 := by
  unfold cmpR
  rw [Bool.and_comm (isRat c d)]
  split
  · rename_i h
    simp only [Bool.and_eq_true] at h
    right
    have := fun e => rat_eq h.1 h.2 e
    have e2 : a = c ∧ b = d → a * d = c * b := by rintro ⟨rfl, rfl⟩; rfl
    refine ⟨?_, ?_, ?_, ?_⟩
    · split <;> split <;> (try split) <;> omega
    · split
      · constructor
        · omega
        · intro e; have := e2 e; omega
      · split
        · constructor
          · omega
          · intro e; have := e2 e; omega
        · constructor
          · intro _; exact this (by omega)
          · intro _; rfl
    · split <;> (try split) <;> omega
    · split <;> (try split) <;> omega
  · left; exact ⟨rfl, rfl⟩
theorem fmtL_mem (n : Int) : ∀ b ∈ fmtL n, b = 45 ∨ 48 ≤ b.toNat ∧ b.toNat ≤ 57 := by
  intro b hb
  unfold fmtL at hb
  split at hb
  · obtain rfl : b = 48 := by simpa using hb
    right; decide
  · split at hb
    · rcases List.mem_cons.1 hb with e | hb
      · exact .inl e
      · exact .inr (digs_dig _ b hb)
    · exact .inr (digs_dig _ b hb)
theorem fmtRL_none {n d : Int} (h : isRat n d = true) : bs (fmtRL n d) ≠ bs [110, 111, 110, 101] := by
  intro e
  have e2 := congrArg ByteArray.toList e
  rw [bs_toList, bs_toList] at e2
  have hm : (110 : UInt8) ∈ fmtRL n d := by rw [e2]; simp
  have k : ∀ m, (110 : UInt8) ∉ fmtL m := fun m hm => by
    rcases fmtL_mem m _ hm with h | h
    · exact absurd h (by decide)
    · exact absurd h (by decide)
  unfold fmtRL at hm
  rw [if_pos h] at hm
  split at hm
  · exact k _ hm
  · rcases List.mem_append.1 hm with hm | hm
    · exact k _ hm
    · rcases List.mem_cons.1 hm with hm | hm
      · exact absurd hm (by decide)
      · exact k _ hm
theorem j2_ev (a b c d x : Int) (hx : x = cmpR a b c d) (e : Bool) (he : e = false) : Ev (fun k => laws_FnRatios.j2 k x e a b c d) true := by
  subst he
  refine Ev.step (fun k => by rw [laws_FnRatios.j2]) (ev_neg (by simp) ?_)
  have hc := impl_CompareRatios_ev c d a b
  rcases cmp_law a b c d with ⟨h1, h2⟩ | ⟨h1, h2, h3, h4⟩
  · rw [h2] at hc
    exact ev_pos (by omega) (Ev.bind hc (ev_pos rfl (Ev.now _)))
  · refine ev_neg (by omega) (Ev.bind hc (ev_pos (by rw [w64 (by omega) (by omega)]; omega) (ev_some ?_)))
    rw [← hx] at h2
    rw [beq_iff_eq, Bool.eq_iff_iff]
    simpa using h2
theorem j1_ev (a b c d : Int) (e : Bool) (he : e = false) : Ev (fun k => laws_FnRatios.j1 k e a b c d) true := by
  subst he
  refine Ev.step (fun k => by rw [laws_FnRatios.j1]) (ev_neg (by simp) ?_)
  refine Ev.bind (impl_FormatRatio_ev a b) ?_
  by_cases h : isRat a b = true
  · refine Ev.bind (impl_ParseRatio_num h) (Ev.bind (impl_CompareRatios_ev a b c d) (Ev.bind (spec_IsRatio_ev a b) ?_))
    rw [h]
    exact ev_neg (by simp) (ev_pos rfl (j2_ev a b c d _ rfl _ (by simp)))
  · have hf : fmtRL a b = [110, 111, 110, 101] := by unfold fmtRL; rw [if_neg h]
    obtain ⟨r, hr, hp⟩ := impl_ParseRatio_any (fmtRL a b) (by rw [hf]; simp)
    obtain rfl := hp.resolve_right (fun ⟨n, d, _, h1, h2⟩ => fmtRL_none h1 (by rw [h2, hf]))
    refine Ev.bind hr (Ev.bind (impl_CompareRatios_ev a b c d) (Ev.bind (spec_IsRatio_ev a b) ?_))
    rw [Bool.eq_false_iff.2 h]
    exact ev_neg (by simp) (ev_neg (by simp) (j2_ev a b c d _ rfl _ rfl))
theorem j0_ev (a b c d : Int) (e : Bool) (he : e = false) (s q : Int × Int) (hs : s = addR a b c d) (hq : q = divR a b c d) : Ev (fun k => laws_FnRatios.j0 k e a b c d s.1 s.2 q.1 q.2) true := by
  subst he
  have quo : Ev (fun k => (spec_IsRatio.f k q.1 q.2).bind fun t => if t = true then (impl_MultiplyRatios.f k q.1 q.2 c d).bind fun m => laws_FnRatios.j1 k (!(m.1 == a) || (!(m.2 == b))) a b c d else laws_FnRatios.j1 k false a b c d) true := by
    refine Ev.bind (spec_IsRatio_ev q.1 q.2) (ev_ite (fun h => Ev.bind (impl_MultiplyRatios_ev _ _ _ _) ?_) (fun _ => j1_ev a b c d _ rfl))
    subst hq
    rw [div_undo h]
    exact j1_ev a b c d _ (by simp)
  refine Ev.step (fun k => by rw [laws_FnRatios.j0]) (ev_neg (by simp) ?_)
  refine Ev.bind (spec_IsRatio_ev s.1 s.2) (ev_ite (fun h => Ev.bind (impl_NegateRatio_ev c d) (Ev.bind (impl_AddRatios_ev _ _ _ _) ?_)) (fun _ => quo))
  subst hs
  rw [add_undo h]
  exact ev_neg (by simp) quo
theorem fin {P Q : Prop} (l : List Int) (_ : P) (_ : Q) : ∃ k, laws_FnRatios.f k l = some true := by
  refine Ev.rounds ?_
  unfold laws_FnRatios.f
  simp only [laws_big_eq, Option.bind_some]
  refine ev_ite (fun _ => Ev.now _) (fun h => ?_)
  have hl : l.length ≤ 1048576 := by simp only [decide_eq_true_eq] at h; omega
  obtain ⟨⟨a, b, c, d⟩, hd, _⟩ := spec_DrawAddRatios_tot l hl
  refine Ev.bind hd (Ev.bind (impl_AddRatios_ev a b c d) (Ev.bind (impl_DivideRatios_ev a b c d) (Ev.bind (impl_AddRatios_ev c d a b) ?_)))
  rw [addR_comm c d a b]
  refine ev_neg (by simp) (Ev.bind (impl_MultiplyRatios_ev a b c d) (Ev.bind (impl_MultiplyRatios_ev c d a b) ?_))
  rw [mulR_comm c d a b]
  exact j0_ev a b c d _ (by simp) _ _ rfl rfl

end Go.Proofs.YtohoibekddhneaaDoor.FinFnRatios
