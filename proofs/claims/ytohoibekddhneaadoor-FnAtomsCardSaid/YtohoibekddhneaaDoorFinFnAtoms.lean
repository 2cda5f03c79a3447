/- The plain statement of the law FnAtoms, over numbers and lists alone: the call answers true. -/
import Derived.Test.YtohoibekddhneaaDoorLibFnAtoms
set_option linter.unusedVariables false
set_option linter.unusedSimpArgs false
namespace Go.Proofs.YtohoibekddhneaaDoor.FinFnAtoms
open Go.RowKit Go.Proofs.YtohoibekddhneaaDoor.PFnAtoms Go.Proofs.YtohoibekddhneaaDoor.Pl Go.Proofs.YtohoibekddhneaaDoor.LFnAtoms Go.Proofs.YtohoibekddhneaaDoorW.PrintWords Go.Proofs.YtohoibekddhneaaDoorW.PrintLast

theorem isRat_neg (n d : Int) : isRat (-n) d = isRat n d := by
  have hg : Int.gcd (-n) d = Int.gcd n d := by simp [Int.gcd]
  rw [Bool.eq_iff_iff, isRat_iff, isRat_iff, hg]
  omega
theorem redOf_neg (n d : Int) : redOf (-n) d = (-(redOf n d).1, (redOf n d).2) := by
  have hg : Int.gcd (-n) d = Int.gcd n d := by simp [Int.gcd]
  unfold redOf
  rw [hg, Int.neg_tdiv, isRat_neg]
  split <;> rfl
theorem red_neg (n d : Int) : red (-n) d = (-(red n d).1, (red n d).2) := by
  unfold red
  split
  · rfl
  · split
    · exact redOf_neg _ _
    · exact redOf_neg _ _
theorem mulR_neg (x a b : Int) : mulR (-x) 1 a b = (-(mulR x 1 a b).1, (mulR x 1 a b).2) := by
  unfold mulR
  rw [isRat_neg]
  split
  · rw [Int.neg_mul, red_neg]
  · rfl
theorem addR_neg (a b c d : Int) : addR (-a) b (-c) d = (-(addR a b c d).1, (addR a b c d).2) := by
  unfold addR
  rw [isRat_neg, isRat_neg]
  split
  · rw [Int.neg_mul, Int.neg_mul, ← Int.neg_add, red_neg]
  · rfl
theorem valGo_neg : ∀ (xs : List Int) (ps : List (Int × Int)) (a b : Int), valGo (xs.map (- ·)) ps (-a, b) = (-(valGo xs ps (a, b)).1, (valGo xs ps (a, b)).2)
  | [], _, _, _ => rfl
  | _ :: _, [], _, _ => rfl
  | x :: xs, r :: rs, a, b => by
    show valGo (xs.map (- ·)) rs (addR (-a) b (mulR (-x) 1 r.1 r.2).1 (mulR (-x) 1 r.1 r.2).2) = _
    rw [mulR_neg, addR_neg]
    exact valGo_neg xs rs _ _
theorem gcdL_neg : ∀ l : List Int, gcdL (l.map (- ·)) = gcdL l
  | [] => rfl
  | x :: l => by rw [List.map_cons, gcdL_cons, gcdL_cons, gcdL_neg l, Int.natAbs_neg]
theorem isAt_neg {l : List Int} {c : Int} (h : isAt l c = true) : isAt (l.map (- ·)) (-c) = true := by
  obtain ⟨h1, h2, h3, h4⟩ := isAt_iff.1 h
  refine isAt_iff.2 ⟨by simpa using h1, isNum_neg h2, ?_, by rw [gcdL_neg, Int.natAbs_neg]; exact h4⟩
  intro x hx
  obtain ⟨y, hy, rfl⟩ := List.mem_map.1 hx
  exact isNum_neg (h3 y hy)
theorem hold_neg {l : List Int} {c : Int} (s : Bool) (p : List (Int × Int)) (h : isAt l c = true) :
    (holdAt l c s p).2 = (holdAt (l.map (- ·)) (-c) (!s) p).2 ∧ ((holdAt l c s p).2 = true → ((holdAt l c s p).1 != (holdAt (l.map (- ·)) (-c) (!s) p).1) = true) := by
  have hv : valAt (l.map (- ·)) (-c) p = (-(valAt l c p).1, (valAt l c p).2.1, (valAt l c p).2.2) := by
    unfold valAt
    rw [isAt_neg h, h, List.length_map]
    split
    · rw [valGo_neg]
      unfold valFin
      rw [isRat_neg]
    · rfl
  unfold holdAt
  rw [hv]
  dsimp only
  by_cases h2 : (valAt l c p).2.2 = true
  · rw [if_pos h2, if_pos h2]
    refine ⟨rfl, fun _ => ?_⟩
    generalize (valAt l c p).1 = v
    dsimp only
    rcases Int.lt_trichotomy v 0 with h3 | h3 | h3
    · rw [decide_eq_true h3, decide_eq_false (show ¬ -v < 0 by omega), decide_eq_false (show ¬ -v = 0 by omega)]; rfl
    · subst h3; cases s <;> rfl
    · rw [decide_eq_false (show ¬ v < 0 by omega), decide_eq_false (show ¬ v = 0 by omega), decide_eq_true (show -v < 0 by omega)]; rfl
  · rw [if_neg h2, if_neg h2]
    exact ⟨rfl, fun h => by cases h⟩
theorem cmpDir_self (g : Int) : ∀ l, cmpDir g g l l = 0
  | [] => rfl
  | x :: l => by
    unfold cmpDir
    rw [if_neg (by omega), if_neg (by omega)]
    exact cmpDir_self g l
theorem cmp_self {l : List Int} {c : Int} (s : Bool) (h : isAt l c = true) : cmpAt l c s l c s = 0 := by
  unfold cmpAt
  rw [if_pos (by simp [h])]
  have e : wayAt l l = 0 := cmpDir_self _ l
  rw [if_neg (by simp [e])]
  unfold strengthAt sgn
  simp
theorem neg_neg_map (l : List Int) : (l.map (- ·)).map (- ·) = l := by
  rw [List.map_map]
  conv => rhs; rw [← List.map_id l]
  exact List.map_congr_left (fun x _ => by simp)
theorem fin {P Q : Prop} (l : List Int) (_ : P) (_ : Q) : ∃ k, laws_FnAtoms.f k l = some true := by
  refine Ev.rounds ?_
  unfold laws_FnAtoms.f
  simp only [laws_big_eq, Option.bind_some]
  refine ev_ite (fun _ => Ev.now _) (fun h => ?_)
  have hl : l.length ≤ 1048576 := by simp only [decide_eq_true_eq] at h; omega
  obtain ⟨⟨l1, c1, s1, t⟩, hd, h1, h2⟩ := spec_DrawHoldsAt_tot l hl
  simp only at h1 h2
  refine Ev.bind hd (Ev.bind (impl_NegateAtom_ev l1 c1 s1 (by omega)) ?_)
  by_cases ha : isAt l1 c1 = true
  · have en : negAt l1 c1 s1 = (l1.map (- ·), -c1, !s1, true) := by unfold negAt; rw [if_pos ha]
    have hb := isAt_neg ha
    have en2 : negAt (l1.map (- ·)) (-c1) (!s1) = (l1, c1, s1, true) := by
      unfold negAt; rw [if_pos hb, neg_neg_map, Int.neg_neg, Bool.not_not]
    have hlen : (l1.map (- ·)).length ≤ 1048576 := by simp; omega
    have n2 := impl_NegateAtom_ev (l1.map (- ·)) (-c1) (!s1) hlen
    rw [en2] at n2
    rw [en]
    obtain ⟨e1, e2⟩ := hold_neg s1 (ptOf t) ha
    have hf := impl_FormatAtom_ev l1 c1 s1 (by omega)
    have hcmp := impl_CompareAtoms_ev l1 c1 s1 l1 c1 s1 (by omega) (by omega)
    rw [cmp_self s1 ha] at hcmp
    refine ev_pos rfl (Ev.bind (impl_HoldsAt_ev l1 c1 s1 t (by omega) h2) (Ev.bind (impl_HoldsAt_ev _ _ _ t hlen h2) (Ev.bind n2 (Ev.bind hf (Ev.bind (impl_ParseAtom_num s1 ha) ?_)))))
    have rest : Ev (fun k => if true = true then ((impl_FormatAtom.f k l1 c1 s1).bind fun t487 => (if t487.toList = (bs (fmtAL l1 c1 s1)).toList then ((impl_CompareAtoms.f k l1 c1 s1 l1 c1 s1).bind fun t488 => (some (t488 == 0))) else (some false))) else (some false)) true :=
      ev_pos rfl (Ev.bind hf (ev_pos rfl (Ev.bind hcmp (Ev.now _))))
    refine ev_pos (by rw [beq_iff_eq]; exact e1) (ev_ite (fun h3 => ev_pos (e2 h3) ?_) (fun _ => ?_))
    · exact ev_pos rfl (Ev.bind hf (ev_pos rfl rest))
    · exact ev_pos rfl (Ev.bind hf (ev_pos rfl rest))
  · have en : negAt l1 c1 s1 = noAt := by unfold negAt; rw [if_neg ha]
    rw [en]
    refine ev_neg (by simp [noAt]) (Ev.bind (spec_IsAtom_ev l1 c1 s1 (by omega)) ?_)
    rw [Bool.eq_false_iff.2 ha]
    exact Ev.now _

end Go.Proofs.YtohoibekddhneaaDoor.FinFnAtoms
