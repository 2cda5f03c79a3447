/- The functions that the law FnExactIsEmptyCell reaches, each as a Lean function with the same answers, and the proof that the call comes to exactly these: turned by program out of the printed texts. No condition but those that each theorem names. -/
import Derived.Test.YtkicjflhokckgaaQFnExactIsEmptyCellx0
import Derived.Test.YtkicjflhokckgaaQFnExactIsEmptyCellx4
namespace Go.Proofs.Ytkicjflhokckgaa.PFnExactIsEmptyCell
open Go.RowKit Go.Proofs.YtkicjflhokckgaaW.PrintWords Go.Proofs.YtkicjflhokckgaaW.PrintLast Go.Proofs.YtkicjflhokckgaaW.PrintMore
attribute [local go_sem] max2_int min2_int max_two min_two max_three min_three max_four min_four   -- for this text's walks alone
set_option linter.unusedVariables false
set_option linter.unusedSimpArgs false

/-! ### impl_DropVariable: function 29 -/
mutual
def impl_DropVariable.j0 : Nat → Int → Bool → Int → List (S52) → Option (Int × (List (S52)) × Bool)
 | 0, _, _, _, _ => none
 | k + 1, x1, x27, x497000, x497001 => if x27 = true then (some (0, ([] : List (S52)), false)) else (impl_DropVariable.l0 k x1 (([] : List (S52))) x497001 (x497001.length : Int) 0 x497000 x497001)
def impl_DropVariable.l0 : Nat → Int → List (S52) → List (S52) → Int → Int → Int → List (S52) → Option (Int × (List (S52)) × Bool)
 | 0, _, _, _, _, _, _, _ => none
 | k + 1, x1, x6, x31, x32, x33, x497000, x497001 => if x33 < x32 then (if 0 ≤ x33 then (if x33 < (x31.length : Int) then (if 0 ≤ x1 then (if x1 < (((rd_T52 x31 x33).f0).length : Int) then (if (rd ((rd_T52 x31 x33).f0) x1) = 0 then (if x6.length < 3518437208883 then (impl_DropVariable.l0 k x1 (x6 ++ [(⟨(rd_T52 x31 x33).f0, (rd_T52 x31 x33).f1, (rd_T52 x31 x33).f2⟩ : S52)]) x31 x32 (wrap64 (x33 + 1)) x497000 x497001) else (none)) else (impl_DropVariable.l0 k x1 x6 x31 x32 (wrap64 (x33 + 1)) x497000 x497001)) else (none)) else (none)) else (none)) else (none)) else (impl_DropVariable.l1 k x1 x6 x497001 (x497001.length : Int) 0 x497000 x497001)
def impl_DropVariable.l1 : Nat → Int → List (S52) → List (S52) → Int → Int → Int → List (S52) → Option (Int × (List (S52)) × Bool)
 | 0, _, _, _, _, _, _, _ => none
 | k + 1, x1, x6, x49, x50, x51, x497000, x497001 => if x51 < x50 then (if 0 ≤ x51 then (if x51 < (x49.length : Int) then (if 0 ≤ x1 then (if x1 < (((rd_T52 x49 x51).f0).length : Int) then (if (rd ((rd_T52 x49 x51).f0) x1) ≤ 0 then (impl_DropVariable.l1 k x1 x6 x49 x50 (wrap64 (x51 + 1)) x497000 x497001) else (impl_DropVariable.l2 k x1 x6 x49 x50 x51 x497001 (x497001.length : Int) 0 x497000 x497001 ((rd_T52 x49 x51).f0) ((rd_T52 x49 x51).f1) ((rd_T52 x49 x51).f2))) else (none)) else (none)) else (none)) else (none)) else ((impl_limitedNormal.f k x497000 x6).bind fun zy => (some (zy.1, zy.2.1, zy.2.2)))
def impl_DropVariable.l2 : Nat → Int → List (S52) → List (S52) → Int → Int → List (S52) → Int → Int → Int → List (S52) → List Int → Int → Bool → Option (Int × (List (S52)) × Bool)
 | 0, _, _, _, _, _, _, _, _, _, _, _, _, _ => none
 | k + 1, x1, x6, x49, x50, x51, x62, x63, x64, x497000, x497001, x515000, x515001, x515002 => if x64 < x63 then (if 0 ≤ x64 then (if x64 < (x62.length : Int) then (if 0 ≤ x1 then (if x1 < (((rd_T52 x62 x64).f0).length : Int) then (if (rd ((rd_T52 x62 x64).f0) x1) ≥ 0 then (impl_DropVariable.l2 k x1 x6 x49 x50 x51 x62 x63 (wrap64 (x64 + 1)) x497000 x497001 x515000 x515001 x515002) else (if x1 < (x515000.length : Int) then ((impl_MixAtoms.f k x515000 x515001 x515002 (wrap64 (-(rd ((rd_T52 x62 x64).f0) x1))) ((rd_T52 x62 x64).f0) ((rd_T52 x62 x64).f1) ((rd_T52 x62 x64).f2) (rd x515000 x1)).bind fun zu => (if zu.2.2.2 = true then (if x6.length < 3518437208883 then (impl_DropVariable.l2 k x1 (x6 ++ [(⟨zu.1, zu.2.1, zu.2.2.1⟩ : S52)]) x49 x50 x51 x62 x63 (wrap64 (x64 + 1)) x497000 x497001 x515000 x515001 x515002) else (none)) else (some (0, ([] : List (S52)), false)))) else (none))) else (none)) else (none)) else (none)) else (none)) else (impl_DropVariable.l1 k x1 x6 x49 x50 (wrap64 (x51 + 1)) x497000 x497001)
end
def impl_DropVariable.f (k : Nat) (a0_0 : Int) (l0_1 : List (S52)) (a1 : Int) : Option (Int × (List (S52)) × Bool) := (impl_IsCell.f k a0_0 l0_1).bind fun zz => (if zz = true then (if a1 < 0 then (impl_DropVariable.j0 k a1 true a0_0 l0_1) else (impl_DropVariable.j0 k a1 (decide (a1 ≥ a0_0)) a0_0 l0_1)) else (impl_DropVariable.j0 k a1 true a0_0 l0_1))
theorem impl_DropVariable.mono_l : ∀ k, (∀ y0 y1 y2 y3, LeO (impl_DropVariable.j0 k y0 y1 y2 y3) (impl_DropVariable.j0 (k + 1) y0 y1 y2 y3)) ∧ (∀ y0 y1 y2 y3 y4 y5 y6, LeO (impl_DropVariable.l0 k y0 y1 y2 y3 y4 y5 y6) (impl_DropVariable.l0 (k + 1) y0 y1 y2 y3 y4 y5 y6)) ∧ (∀ y0 y1 y2 y3 y4 y5 y6, LeO (impl_DropVariable.l1 k y0 y1 y2 y3 y4 y5 y6) (impl_DropVariable.l1 (k + 1) y0 y1 y2 y3 y4 y5 y6)) ∧ (∀ y0 y1 y2 y3 y4 y5 y6 y7 y8 y9 y10 y11 y12, LeO (impl_DropVariable.l2 k y0 y1 y2 y3 y4 y5 y6 y7 y8 y9 y10 y11 y12) (impl_DropVariable.l2 (k + 1) y0 y1 y2 y3 y4 y5 y6 y7 y8 y9 y10 y11 y12))
 | 0 => ⟨fun _ _ _ _ r h => by simp [impl_DropVariable.j0] at h, fun _ _ _ _ _ _ _ r h => by simp [impl_DropVariable.l0] at h, fun _ _ _ _ _ _ _ r h => by simp [impl_DropVariable.l1] at h, fun _ _ _ _ _ _ _ _ _ _ _ _ _ r h => by simp [impl_DropVariable.l2] at h⟩
 | k + 1 => by
  obtain ⟨ih0, ih1, ih2, ih3⟩ := impl_DropVariable.mono_l k
  refine ⟨?_, ?_, ?_, ?_⟩ <;> (intros; first | unfold impl_DropVariable.j0 | unfold impl_DropVariable.l0 | unfold impl_DropVariable.l1 | unfold impl_DropVariable.l2)
  all_goals
   repeat' first
   | (with_reducible exact ih0 _ _ _ _)
   | (with_reducible exact ih1 _ _ _ _ _ _ _)
   | (with_reducible exact ih2 _ _ _ _ _ _ _)
   | (with_reducible exact ih3 _ _ _ _ _ _ _ _ _ _ _ _ _)
   | (with_reducible exact impl_IsCell.mono _ _ _)
   | (with_reducible exact impl_MixAtoms.mono _ _ _ _ _ _ _ _ _)
   | (with_reducible exact impl_limitedNormal.mono _ _ _)
   | (with_reducible exact LeO.refl _)
   | (with_reducible exact LeO.none _)
   | (with_reducible refine LeO.ite ?_ ?_)
   | (with_reducible refine LeO.bind ?_ (fun _ => ?_))
theorem impl_DropVariable.mono : ∀ a0 a1 a2 k, LeO (impl_DropVariable.f k a0 a1 a2) (impl_DropVariable.f (k + 1) a0 a1 a2) := by
 intro a0 a1 a2 k
 obtain ⟨ih0, ih1, ih2, ih3⟩ := impl_DropVariable.mono_l k
 unfold impl_DropVariable.f
 repeat' first
   | (with_reducible exact ih0 _ _ _ _)
   | (with_reducible exact ih1 _ _ _ _ _ _ _)
   | (with_reducible exact ih2 _ _ _ _ _ _ _)
   | (with_reducible exact ih3 _ _ _ _ _ _ _ _ _ _ _ _ _)
   | (with_reducible exact impl_IsCell.mono _ _ _)
   | (with_reducible exact impl_MixAtoms.mono _ _ _ _ _ _ _ _ _)
   | (with_reducible exact impl_limitedNormal.mono _ _ _)
   | (with_reducible exact LeO.refl _)
   | (with_reducible exact LeO.none _)
   | (with_reducible refine LeO.ite ?_ ?_)
   | (with_reducible refine LeO.bind ?_ (fun _ => ?_))
def impl_DropVariable.T18 : Bool × List (List Nat × List Nat) := (true, [([], []), ([], []), ([1], [1]), ([], []), ([2, 3], [2, 3]), ([4], [4]), ([5], [5]), ([], []), ([], []), ([8], [8]), ([], []), ([9, 10], [9, 10]), ([11], [11]), ([0, 6, 7, 12], [0, 6, 7, 12]), ([13], [13]), ([14], [14]), ([14], [14]), ([], []), ([17, 15, 13, 0, 1, 2, 3, 4, 5, 6, 7, 8, 9, 10, 11, 12, 13, 14, 15, 17], [15, 17]), ([16, 18, 0, 1, 2, 3, 4, 5, 6, 7, 8, 9, 10, 11, 12, 13, 14, 15, 16, 17, 18], [16])])
def impl_DropVariable.B18 : List Nat := [0, 0, 2, 0, 14, 30, 62, 0, 0, 256, 0, 1792, 3840, 8191, 16383, 32767, 32767, 0, 196607, 524287]
theorem impl_DropVariable.tab18 : rtab .any (opsOf Try.f29 18) = impl_DropVariable.T18 := by kernel_rfl
theorem impl_DropVariable.bits18 : waitsOk impl_DropVariable.T18.2 impl_DropVariable.B18 = true := by kernel_rfl
set_option maxHeartbeats 8000000 in
set_option maxRecDepth 100000 in
theorem impl_DropVariable.calls (k : Nat) (a0_0 : Int) (P0_1_ : Nat → Prop) (A0_1 : Option Addr) (c0_1 : Nat) (l0_1 : List (S52)) (a1 : Int) (r1 : Int) (r2 : List (S52)) (r3 : Bool) (w : World) (hs0_1 : Kd.V k52 52 w w.heap.size (fun k_ => P0_1_ k_) (.slice A0_1 l0_1.length c0_1) l0_1) (h : impl_DropVariable.f k a0_0 l0_1 a1 = some (r1, r2, r3)) :
  Calls Try.prog 29 #[.agg #[.int .i64 a0_0, .slice A0_1 l0_1.length c0_1], .int .i64 a1] w fun e w' => ∃ v1_ : Value, e = .returned (.tuple #[.agg #[.int .i64 r1, v1_], .bool r3]) ∧ Kd.N k52 52 w' w.heap.size (fun k_ => (P0_1_ k_ ∨ w.heap.size ≤ k_)) v1_ r2 ∧ Below w.heap.size w w' := by
 have hu28 := Try.underlying28
 have hu52 := Try.underlying52
 have qP := Aside0.mk (show Kd.V k52 52 w w.heap.size (fun k_ => (P0_1_ k_ ∨ w.heap.size ≤ k_)) (.slice A0_1 l0_1.length c0_1) l0_1 from Kd.V_mono hs0_1 (fun k_ hk => .inl hk))
 have HB := Aside0.mk (Below.refl w.heap.size w)
 have H : ((impl_IsCell.f k a0_0 l0_1).bind fun zz => (if zz = true then (if a1 < 0 then (impl_DropVariable.j0 k a1 true a0_0 l0_1) else (impl_DropVariable.j0 k a1 (decide (a1 ≥ a0_0)) a0_0 l0_1)) else (impl_DropVariable.j0 k a1 true a0_0 l0_1))) = some (r1, r2, r3) := h
 clear h
 have HC3 := Aside0.mk H
 clear H
 go_enter Try.func29, Try.ntmps29
 go_upto_region 1 with (first | ((with_reducible refine gate_dst (N := 2) rfl ?_); refine bx_ (cs := #[.int .i64 a0_0, .slice A0_1 l0_1.length c0_1]) (t := 28) ?_; intro qk hg w4 hbox hb; replace qP := vE_ qP hg hb; have qf := Aside0.mk (hbox); have Q1 := hz_ HB hg; have Q2 := hz_ HB hg; replace HB := bS_ HB hb; clear hb hbox hg) | ((with_reducible refine gate_dst (N := 4) rfl ?_); refine bx_ (cs := #[.int .i64 0, .slice none 0 0]) (t := 28) ?_; intro qi hg w5 hbox hb; replace qP := vE_ qP hg hb; have qh := Aside0.mk (hbox); have Q3 := hz_ HB hg; have Q4 := hz_ HB hg; replace HB := bS_ HB hb; have qJ := nL_ qf hg; have qK := nG_ qf hg; replace qf := kB_ qf hb; clear hb hbox hg))
 (try simp only [Act.put, sa_, s0_, s1_])
 go_cut [27] (fun v27 wc => ∃ (kq : Nat) (zv : Bool), v27 = .bool zv ∧ Aside0 (impl_DropVariable.j0 kq a1 zv a0_0 l0_1 = some (r1, r2, r3)) ∧ Aside0 (kq ≤ k) ∧ Aside0 (Kd.V k52 52 wc w.heap.size (fun k_ => (P0_1_ k_ ∨ w.heap.size ≤ k_) ∧ k_ ≠ qk ∧ k_ ≠ qi) (.slice A0_1 l0_1.length c0_1) l0_1) ∧ Aside0 (wc.heap[qk]? = some (.cells #[.int .i64 a0_0, (.slice A0_1 l0_1.length c0_1)] 28 (0, 0))) ∧ Aside0 (wc.heap[qi]? = some (.cells #[.int .i64 0, (.slice none 0 0)] 28 (0, 0))) ∧ Aside0 (Below w.heap.size w wc))
 case first =>
  have H := HC3.out
  clear HC3
  replace H := be_ H
  obtain ⟨zz, A60, H⟩ := H
  have A6 := Aside0.mk A60
  clear A60
  by_cases c7 : zz = true
  rotate_left
  ·
   replace c7 := Bool.eq_false_iff.mpr c7
   subst c7
   have H1 : (impl_DropVariable.j0 k a1 true a0_0 l0_1) = some (r1, r2, r3) := by rw [if_neg (show ¬ (false = true) by decide)] at H; exact H
   clear H
   have H := H1
   clear H1
   have H' := Aside0.mk H
   clear H
   have Q5 := qJ.out
   have Q6 := qK.out
   obtain ⟨jt, ju, jv, jw⟩ := b2_ qf
   go_wp2_with (first | ((with_reducible refine gate_callee (f := 53) rfl ?_); refine gL_ (some 16) Try.func53 #[.agg #[.int .i64 a0_0, .slice A0_1 l0_1.length c0_1]] ?_; (with_reducible refine (impl_IsCell.calls k a0_0 _ _ l0_1 false _ ?side1 ?side2 A6.out).mono ?_); (case side1 => repeat (first | exact (Kd.V_reads' qP.out).2.2 | (with_reducible refine Kd.C_alloc ?_ _) | (with_reducible refine Kd.C_drewN ?_ _) | (with_reducible refine Kd.C_drew ?_))); (case side2 => exact (Kd.V_reads' qP.out).2.1); rintro e Jk ⟨rfl, hb⟩; refine ⟨_, rfl, ?_⟩; replace qP := vB_ qP hb; replace qf := kB_ qf hb; replace qh := kB_ qh hb; replace HB := bS_ HB hb; clear hb))
   go_meet
   case rel => exact ⟨_, (true), (by first | rfl | (simp; done) | (simp [*]; done)), H', ⟨by first | omega | exact Nat.le_refl _⟩, ⟨by (with_reducible repeat (first | apply Kd.V_alloc | apply Kd.V_drewN | apply Kd.V_drew)); exact Kd.V_mono qP.out (fun _ hk => ⟨hk.1.1, ⟨hk.1.2, hk.2⟩⟩)⟩, ⟨kf_ qf⟩, ⟨kf_ qh⟩, ⟨bb_ HB⟩⟩
  subst c7
  have H1 : (if a1 < 0 then (impl_DropVariable.j0 k a1 true a0_0 l0_1) else (impl_DropVariable.j0 k a1 (decide (a1 ≥ a0_0)) a0_0 l0_1)) = some (r1, r2, r3) := by rw [if_pos rfl] at H; exact H
  clear H
  have H := H1
  clear H1
  by_cases c8 : a1 < 0
  ·
   rw [if_pos c8] at H
   have zA : decide (a1 < 0) = true := decide_eq_true c8
   clear c8
   (first | rw [zA] | (simp only [i64_w, i32_w]; rw [zA]) | skip)
   have H' := Aside0.mk H
   clear H
   have Z8 := qJ.out
   have Z9 := qK.out
   obtain ⟨jx, jy, jz, jA⟩ := b2_ qf
   go_wp2_with (first | ((with_reducible refine gate_callee (f := 53) rfl ?_); refine gL_ (some 16) Try.func53 #[.agg #[.int .i64 a0_0, .slice A0_1 l0_1.length c0_1]] ?_; (with_reducible refine (impl_IsCell.calls k a0_0 _ _ l0_1 true _ ?side1 ?side2 A6.out).mono ?_); (case side1 => repeat (first | exact (Kd.V_reads' qP.out).2.2 | (with_reducible refine Kd.C_alloc ?_ _) | (with_reducible refine Kd.C_drewN ?_ _) | (with_reducible refine Kd.C_drew ?_))); (case side2 => exact (Kd.V_reads' qP.out).2.1); rintro e Jl ⟨rfl, hb⟩; refine ⟨_, rfl, ?_⟩; replace qP := vB_ qP hb; replace qf := kB_ qf hb; replace qh := kB_ qh hb; replace HB := bS_ HB hb; clear hb))
   go_meet
   case rel => exact ⟨_, (true), (by first | rfl | (simp; done) | (simp [*]; done)), H', ⟨by first | omega | exact Nat.le_refl _⟩, ⟨by (with_reducible repeat (first | apply Kd.V_alloc | apply Kd.V_drewN | apply Kd.V_drew)); exact Kd.V_mono qP.out (fun _ hk => ⟨hk.1.1, ⟨hk.1.2, hk.2⟩⟩)⟩, ⟨kf_ qf⟩, ⟨kf_ qh⟩, ⟨bb_ HB⟩⟩
  rw [if_neg c8] at H
  have zA : decide (a1 < 0) = false := decide_eq_false c8
  clear c8
  (first | rw [zA] | (simp only [i64_w, i32_w]; rw [zA]) | skip)
  have H' := Aside0.mk H
  clear H
  have Q7 := qJ.out
  have Q8 := qK.out
  obtain ⟨jB, jC, jD, jE⟩ := b2_ qf
  go_wp2_with (first | ((with_reducible refine gate_callee (f := 53) rfl ?_); refine gL_ (some 16) Try.func53 #[.agg #[.int .i64 a0_0, .slice A0_1 l0_1.length c0_1]] ?_; (with_reducible refine (impl_IsCell.calls k a0_0 _ _ l0_1 true _ ?side1 ?side2 A6.out).mono ?_); (case side1 => repeat (first | exact (Kd.V_reads' qP.out).2.2 | (with_reducible refine Kd.C_alloc ?_ _) | (with_reducible refine Kd.C_drewN ?_ _) | (with_reducible refine Kd.C_drew ?_))); (case side2 => exact (Kd.V_reads' qP.out).2.1); rintro e Jm ⟨rfl, hb⟩; refine ⟨_, rfl, ?_⟩; replace qP := vB_ qP hb; replace qf := kB_ qf hb; replace qh := kB_ qh hb; replace HB := bS_ HB hb; clear hb; obtain ⟨jF, jG, jH, jI⟩ := b2_ qf))
  go_meet
  case rel => exact ⟨_, (decide (a1 ≥ a0_0)), (by first | rfl | (simp; done) | (simp [*]; done)), H', ⟨by first | omega | exact Nat.le_refl _⟩, ⟨by (with_reducible repeat (first | apply Kd.V_alloc | apply Kd.V_drewN | apply Kd.V_drew)); exact Kd.V_mono qP.out (fun _ hk => ⟨hk.1.1, ⟨hk.1.2, hk.2⟩⟩)⟩, ⟨kf_ qf⟩, ⟨kf_ qh⟩, ⟨bb_ HB⟩⟩
 clear HC3
 obtain ⟨kq, zv, rfl, HA, HJ2, qc, qf, qh, HB⟩ := hcut
 cases kq with
 | zero => exact absurd HA.out (by simp [impl_DropVariable.j0])
 | succ kj2 =>
  have H := HA.out
  clear HA
  simp only [impl_DropVariable.j0] at H
  by_cases c19 : zv = true
  ·
   subst c19
   have H1 : (some (0, ([] : List (S52)), false)) = some (r1, r2, r3) := by rw [if_pos rfl] at H; exact H
   clear H
   have H := H1
   clear H1
   simp only [Option.some.injEq, Prod.mk.injEq] at H
   obtain ⟨rfl, rfl, rfl⟩ := H
   have Q9 := qK.out
   have Za := qJ.out
   obtain ⟨jJ, jK, jL, jM⟩ := b2_ qh
   go_wp2
   refine bodyPost_ret (results_ct rfl _ _ qi 28 #[.int .i64 0, .slice none 0 0] (0, 0) _ rfl (kp_ qh) Try.underlying28 rfl (by kernel_rfl)) rfl ?_
   exact ⟨_, by first | rfl | (simp [errW_none, errW_some] <;> rfl) | (simp [*, errW_none, errW_some] <;> rfl), by first | exact Kd.S_nil _ _ _ _ _ | exact Kd.N_nil _ _ _ _ _ | exact Kd.V_nil _ _ _ _ _ | exact Kd.Q_nil _ _ _ _ _ | exact Kd.R_nil _ _ _ _ _, bb_ HB⟩
  replace c19 := Bool.eq_false_iff.mpr c19
  subst c19
  have H1 : (impl_DropVariable.l0 kj2 a1 (([] : List (S52))) l0_1 (l0_1.length : Int) 0 a0_0 l0_1) = some (r1, r2, r3) := by rw [if_neg (show ¬ (false = true) by decide)] at H; exact H
  clear H
  have H := H1
  clear H1
  obtain ⟨y499, hy499⟩ : ∃ y_ : List (S52), y_ = (([] : List (S52))) := ⟨_, rfl⟩
  replace H : (impl_DropVariable.l0 kj2 a1 y499 l0_1 (l0_1.length : Int) 0 a0_0 l0_1) = some (r1, r2, r3) := by first | (rw [hy499]; with_reducible exact H) | (have H2_ := (Option.bind_some _ _).symm.trans H; rw [hy499]; with_reducible exact H2_) | (have H2_ := (Option.bind_some _ _).symm.trans H; with_reducible exact H2_) | with_reducible exact H | (rw [hy499]; exact H) | exact H
  have Ny499 := Aside0.mk hy499
  clear hy499
  have H' := Aside0.mk H
  clear H
  go_wp2_with (first | ((with_reducible refine gate_dst (N := 29) rfl ?_); refine Kd.N_lit k52 _ 52 ?hg (N' := 29) ?hd (xs := ([] : List (S52))) (inner := []) (ok := (fun k_ => (P0_1_ k_ ∨ w.heap.size ≤ k_) ∧ k_ ≠ qk ∧ k_ ≠ qi)) (okp := (fun k_ => (P0_1_ k_ ∨ w.heap.size ≤ k_) ∧ k_ ≠ qk ∧ k_ ≠ qi)) ?hr ?hp (fun _ hk => hk) ((show ∀ k_, wc.heap.size ≤ k_ → (fun k_ => (P0_1_ k_ ∨ w.heap.size ≤ k_) ∧ k_ ≠ qk ∧ k_ ≠ qi) k_ from fun k_ hk => ⟨(.inr (Nat.le_trans (bz_ HB) hk)), Kd.freshB (g := qk) (o := .cells #[.int .i64 a0_0, .slice A0_1 l0_1.length c0_1] 28 (0, 0)) (kf_ qf) k_ hk, Kd.freshB (g := qi) (o := .cells #[.int .i64 0, .slice none 0 0] 28 (0, 0)) (kf_ qh) k_ hk⟩) _ (Nat.le_refl _)) (Below.refl _ _) (Nat.le_refl _) (by simp) ?_; (case hd => rfl); (case hg => rfl); (case hr => first | (go_simp; done) | (go_simp; rfl)); (case hp => exact (Reps.none _ _)); intro Ja Jn ho23 hb hg_ hnew_; clear hg_ hnew_; (first | rw [← Ny499.out] at ho23 | (simp only [Int.reduceToNat] at ho23; rw [← Ny499.out] at ho23)); replace qc := Aside0.mk (Kd.V_elder' (vm_ qc) (Kd.N_base ho23) hb); have zV := Aside0.mk (Kd.N_lower ho23 (bz_ HB)); replace qf := kB_ qf hb; replace qh := kB_ qh hb; replace HB := bS_ HB hb; clear hb ho23; have Zb := qJ.out; have Zc := qK.out; obtain ⟨jN, jO, jP, jQ⟩ := b2_ qf))
  go_loopg [6, 33] kj2 (fun kq v6 v33 w' => ∃ (zp : List (S52)) (qn : Int), v33 = .int .i64 qn ∧ Aside0 (impl_DropVariable.l0 kq a1 zp l0_1 (l0_1.length : Int) qn a0_0 l0_1 = some (r1, r2, r3)) ∧ Aside0 (kq ≤ kj2) ∧ Aside0 (Kd.N k52 52 w' w.heap.size (fun k_ => (P0_1_ k_ ∨ w.heap.size ≤ k_) ∧ k_ ≠ qk ∧ k_ ≠ qi) v6 zp) ∧ Aside0 (Kd.V k52 52 w' w.heap.size (fun k_ => (P0_1_ k_ ∨ w.heap.size ≤ k_) ∧ some k_ ≠ (v6 : Value).ownBlock ∧ k_ ≠ qk ∧ k_ ≠ qi) (.slice A0_1 l0_1.length c0_1) l0_1) ∧ Aside0 (Kd.V k52 52 w' w.heap.size (fun k_ => (P0_1_ k_ ∨ w.heap.size ≤ k_) ∧ some k_ ≠ (v6 : Value).ownBlock ∧ k_ ≠ qk ∧ k_ ≠ qi) (.slice A0_1 l0_1.length c0_1) l0_1) ∧ Aside0 (w'.heap[qk]? = some (.cells #[.int .i64 a0_0, (.slice A0_1 l0_1.length c0_1)] 28 (0, 0))) ∧ Aside0 (w'.heap[qi]? = some (.cells #[.int .i64 0, (.slice none 0 0)] 28 (0, 0))) ∧ Aside0 (Below w.heap.size w w'))
  case atStart => exact ⟨(y499), (0), (by first | rfl | (simp; done) | (simp [*]; done)), H', ⟨Nat.le_refl _⟩, ⟨by (with_reducible repeat (first | apply Kd.N_alloc | apply Kd.N_drewN | apply Kd.N_drew)); exact zV.out⟩, ⟨by (with_reducible repeat (first | apply Kd.V_alloc | apply Kd.V_drewN | apply Kd.V_drew)); exact Kd.V_mono qc.out (fun _ hk => ⟨hk.1.1, ⟨hk.2, ⟨hk.1.2.1, hk.1.2.2⟩⟩⟩)⟩, ⟨by (with_reducible repeat (first | apply Kd.V_alloc | apply Kd.V_drewN | apply Kd.V_drew)); exact Kd.V_mono qc.out (fun _ hk => ⟨hk.1.1, ⟨hk.2, ⟨hk.1.2.1, hk.1.2.2⟩⟩⟩)⟩, ⟨kf_ qf⟩, ⟨kf_ qh⟩, ⟨bb_ HB⟩⟩
  clear H'
  obtain ⟨zp, qn, rfl, HA, HK2, qq, qR, qc, qf, qh, HB⟩ := hrel
  cases gk with
  | zero => exact absurd HA.out (by simp [impl_DropVariable.l0])
  | succ k2 =>
   have H := HA.out
   clear HA
   simp only [impl_DropVariable.l0] at H
   by_cases c26 : qn < (l0_1.length : Int)
   ·
    rw [if_pos c26] at H
    have zW : decide (qn < (l0_1.length : Int)) = true := decide_eq_true c26
    clear c26
    by_cases c27 : 0 ≤ qn
    rotate_left
    ·
     rw [if_neg c27] at H
     exact absurd H (by simp)
    rw [if_pos c27] at H
    have Zd : decide (0 ≤ qn) = true := decide_eq_true c27
    clear c27
    by_cases c28 : qn < (l0_1.length : Int)
    rotate_left
    ·
     rw [if_neg c28] at H
     exact absurd H (by simp)
    rw [if_pos c28] at H
    have Ze : decide (qn < (l0_1.length : Int)) = true := decide_eq_true c28
    clear c28
    by_cases c29 : 0 ≤ a1
    rotate_left
    ·
     rw [if_neg c29] at H
     exact absurd H (by simp)
    rw [if_pos c29] at H
    have Zf : decide (0 ≤ a1) = true := decide_eq_true c29
    clear c29
    by_cases c30 : a1 < (((rd_T52 l0_1 qn).f0).length : Int)
    rotate_left
    ·
     rw [if_neg c30] at H
     exact absurd H (by simp)
    rw [if_pos c30] at H
    have Zg : decide (a1 < (((rd_T52 l0_1 qn).f0).length : Int)) = true := decide_eq_true c30
    clear c30
    by_cases c31 : (rd ((rd_T52 l0_1 qn).f0) a1) = 0
    rotate_left
    ·
     rw [if_neg c31] at H
     have zX : ((rd ((rd_T52 l0_1 qn).f0) a1) == 0) = false := beq_eq_false_iff_ne.mpr c31
     have zY : ((rd ((rd_T52 l0_1 qn).f0) a1) != 0) = true := bne_iff_ne.mpr c31
     have H' := Aside0.mk H
     clear H
     have p502 : 0 ≤ (qn : Int) := od_
     have q502 : qn < (l0_1.length : Int) := od_
     obtain ⟨zo, q5, c502_0, e502, zq, zG, zH, hl502_0, hi502_0⟩ := at_T52 (Kd.V_reads' qR.out).2.2 qn p502 q502
     cases e502
     obtain ⟨ce502, hce502, hMe502, hcc502⟩ := Kd.V_get qR.out z52 qn p502 (by first | exact q502 | exact od_ | (have e_ := (Kd.V_reads' qR.out).1; omega))
     obtain ⟨ua502_0, uc502_0, rfl, ul502_0, ge502_0⟩ := k52_openF hMe502
     have hv502_0 := hcc502 0 _ rfl
     rw [Nat.add_zero] at hv502_0
     replace hv502_0 := Option.some.inj (hv502_0.symm.trans zq)
     injection hv502_0 with hva_ hvn_ hvc_
     rw [hva_] at ge502_0
     rw [hvc_] at ul502_0
     have HL502_0 := Aside0.mk (show Kd.V (Kd.int .i64) 3 _ w.heap.size _ _ ((rd_T52 l0_1 qn).f0) from Kd.V_mk ul502_0 ge502_0)
     clear hva_ hvn_ hvc_ ge502_0 ul502_0
     clear hcc502 hce502
     have q8 := Aside0.mk hi502_0
     have zI := Aside0.mk hl502_0
     clear hi502_0 hl502_0
     replace p502 := eq_true p502
     replace q502 := eq_true q502
     go_wp2_with (first | ((with_reducible refine gate_dst (N := 8) rfl ?_); refine bx_ (cs := #[.slice none 0 0, .int .i64 0, .bool false]) (t := 52) ?_; intro qt hg Jo hbox hb; replace qq := nE_ qq hg hb; replace qR := vE_ qR hg hb; replace qc := vE_ qc hg hb; replace HL502_0 := vE_ HL502_0 hg hb; replace q8 := cB_ q8 hb; have zc := Aside0.mk (hbox); have zZ := hz_ HB hg; have z0 := hz_ HB hg; replace HB := bS_ HB hb; have zi := nL_ qf hg; have zj := nG_ qf hg; replace qf := kB_ qf hb; have zk := nL_ qh hg; have zl := nG_ qh hg; replace qh := kB_ qh hb; clear hb hbox hg; have Zh := zj.out; have Zi := zi.out; have Zj := zl.out; have Zk := zk.out; obtain ⟨jR, jS, jT, jU, jV, jW⟩ := b3_ zc; have p504 : 0 ≤ (a1 : Int) := od_; have q504 : a1 < (((rd_T52 l0_1 qn).f0).length : Int) := od_; obtain ⟨q6, e504, q2⟩ := Kd.at_int q8.out a1 p504 q504; cases e504; have hn504_0 : q6.block ≠ qt := vb_ HL502_0 (by omega) (fun _ hk => hk.2) (by show 0 < 1; decide); have hn504_1 : q6.block ≠ qt := vb_ HL502_0 (by omega) (fun _ hk => hk.2) (by show 0 < 1; decide); have hn504_2 : q6.block ≠ qt := vb_ HL502_0 (by omega) (fun _ hk => hk.2) (by show 0 < 1; decide); replace q2 := (cell_far (p := ⟨qt, 0, none⟩) (by first | (rw [add_block]; exact hn504_0) | (show (Addr.add _ _).block ≠ _; rw [add_block]; exact hn504_0) | exact hn504_0) (.slice (some q6) ((rd_T52 l0_1 qn).f0).length c502_0)).trans q2; replace q2 := (cell_far (p := ⟨qt, 1, none⟩) (by first | (rw [add_block]; exact hn504_1) | (show (Addr.add _ _).block ≠ _; rw [add_block]; exact hn504_1) | exact hn504_1) (.int .i64 ((rd_T52 l0_1 qn).f1))).trans q2; replace q2 := (cell_far (p := ⟨qt, 2, none⟩) (by first | (rw [add_block]; exact hn504_2) | (show (Addr.add _ _).block ≠ _; rw [add_block]; exact hn504_2) | exact hn504_2) (.bool ((rd_T52 l0_1 qn).f2))).trans q2; clear hn504_0; clear hn504_1; clear hn504_2; replace p504 := eq_true p504; replace q504 := eq_true q504))
     go_roundg k2
     case measure => have := HJ2.out; have := HK2.out; omega
     case rel => exact ⟨(zp), (wrap64 (qn + 1)), (by first | rfl | (simp; done) | (simp [*]; done)), H', ⟨by have := HJ2.out; have := HK2.out; omega⟩, ⟨by (with_reducible repeat (first | apply Kd.N_alloc | apply Kd.N_drewN | apply Kd.N_drew)); exact Kd.N_mono (Kd.N_far (p := ⟨qt, 2, none⟩) (Kd.N_far (p := ⟨qt, 1, none⟩) (Kd.N_far (p := ⟨qt, 0, none⟩) (Kd.N_mono qq.out (fun k_ hk => (⟨hk, hk.2⟩ : _ ∧ k_ ≠ qt))) (fun _ hk => hk.2) (.slice (some q6) ((rd_T52 l0_1 qn).f0).length c502_0)) (fun _ hk => hk.2) (.int .i64 ((rd_T52 l0_1 qn).f1))) (fun _ hk => hk.2) (.bool ((rd_T52 l0_1 qn).f2))) (fun _ hk => ⟨hk.1.1.1, ⟨hk.1.1.2.1, hk.1.1.2.2⟩⟩)⟩, ⟨by (with_reducible repeat (first | apply Kd.V_alloc | apply Kd.V_drewN | apply Kd.V_drew)); exact Kd.V_mono (Kd.V_far (p := ⟨qt, 2, none⟩) (Kd.V_far (p := ⟨qt, 1, none⟩) (Kd.V_far (p := ⟨qt, 0, none⟩) (Kd.V_mono qR.out (fun k_ hk => (⟨hk, hk.2⟩ : _ ∧ k_ ≠ qt))) (fun _ hk => hk.2) (.slice (some q6) ((rd_T52 l0_1 qn).f0).length c502_0)) (fun _ hk => hk.2) (.int .i64 ((rd_T52 l0_1 qn).f1))) (fun _ hk => hk.2) (.bool ((rd_T52 l0_1 qn).f2))) (fun _ hk => ⟨hk.1.1.1, ⟨hk.1.1.2.1, ⟨hk.1.1.2.2.1, hk.1.1.2.2.2⟩⟩⟩)⟩, ⟨by (with_reducible repeat (first | apply Kd.V_alloc | apply Kd.V_drewN | apply Kd.V_drew)); exact Kd.V_mono (Kd.V_far (p := ⟨qt, 2, none⟩) (Kd.V_far (p := ⟨qt, 1, none⟩) (Kd.V_far (p := ⟨qt, 0, none⟩) (Kd.V_mono qc.out (fun k_ hk => (⟨hk, hk.2⟩ : _ ∧ k_ ≠ qt))) (fun _ hk => hk.2) (.slice (some q6) ((rd_T52 l0_1 qn).f0).length c502_0)) (fun _ hk => hk.2) (.int .i64 ((rd_T52 l0_1 qn).f1))) (fun _ hk => hk.2) (.bool ((rd_T52 l0_1 qn).f2))) (fun _ hk => ⟨hk.1.1.1, ⟨hk.1.1.2.1, ⟨hk.1.1.2.2.1, hk.1.1.2.2.2⟩⟩⟩)⟩, ⟨kf_ qf⟩, ⟨kf_ qh⟩, ⟨bb_ HB⟩⟩
    rw [if_pos c31] at H
    have zX : ((rd ((rd_T52 l0_1 qn).f0) a1) == 0) = true := beq_iff_eq.mpr c31
    have zY : ((rd ((rd_T52 l0_1 qn).f0) a1) != 0) = false := bne_eq_false_iff_eq.mpr c31
    clear c31
    by_cases c32 : zp.length < 3518437208883
    rotate_left
    ·
     rw [if_neg c32] at H
     exact absurd H (by simp)
    rw [if_pos c32] at H
    have LMc32 := Aside0.mk c32
    clear c32
    obtain ⟨y505, hy505⟩ : ∃ y_ : List (S52), y_ = (zp ++ [(⟨(rd_T52 l0_1 qn).f0, (rd_T52 l0_1 qn).f1, (rd_T52 l0_1 qn).f2⟩ : S52)]) := ⟨_, rfl⟩
    replace H : (impl_DropVariable.l0 k2 a1 y505 l0_1 (l0_1.length : Int) (wrap64 (qn + 1)) a0_0 l0_1) = some (r1, r2, r3) := by first | (rw [hy505]; with_reducible exact H) | (have H2_ := (Option.bind_some _ _).symm.trans H; rw [hy505]; with_reducible exact H2_) | (have H2_ := (Option.bind_some _ _).symm.trans H; with_reducible exact H2_) | with_reducible exact H | (rw [hy505]; exact H) | exact H
    have Ny505 := Aside0.mk hy505
    clear hy505
    have H' := Aside0.mk H
    clear H
    have p502 : 0 ≤ (qn : Int) := od_
    have q502 : qn < (l0_1.length : Int) := od_
    obtain ⟨zo, q5, c502_0, e502, zq, zG, zH, hl502_0, hi502_0⟩ := at_T52 (Kd.V_reads' qR.out).2.2 qn p502 q502
    cases e502
    obtain ⟨ce502, hce502, hMe502, hcc502⟩ := Kd.V_get qR.out z52 qn p502 (by first | exact q502 | exact od_ | (have e_ := (Kd.V_reads' qR.out).1; omega))
    obtain ⟨ua502_0, uc502_0, rfl, ul502_0, ge502_0⟩ := k52_openF hMe502
    have hv502_0 := hcc502 0 _ rfl
    rw [Nat.add_zero] at hv502_0
    replace hv502_0 := Option.some.inj (hv502_0.symm.trans zq)
    injection hv502_0 with hva_ hvn_ hvc_
    rw [hva_] at ge502_0
    rw [hvc_] at ul502_0
    have HL502_0 := Aside0.mk (show Kd.V (Kd.int .i64) 3 _ w.heap.size _ _ ((rd_T52 l0_1 qn).f0) from Kd.V_mk ul502_0 ge502_0)
    clear hva_ hvn_ hvc_ ge502_0 ul502_0
    clear hcc502 hce502
    have q8 := Aside0.mk hi502_0
    have zI := Aside0.mk hl502_0
    clear hi502_0 hl502_0
    replace p502 := eq_true p502
    replace q502 := eq_true q502
    go_wp2_with (first | ((with_reducible refine gate_dst (N := 8) rfl ?_); refine bx_ (cs := #[.slice none 0 0, .int .i64 0, .bool false]) (t := 52) ?_; intro qt hg Jb hbox hb; replace qq := nE_ qq hg hb; replace qR := vE_ qR hg hb; replace qc := vE_ qc hg hb; replace HL502_0 := vE_ HL502_0 hg hb; replace q8 := cB_ q8 hb; have zc := Aside0.mk (hbox); have zZ := hz_ HB hg; have z0 := hz_ HB hg; replace HB := bS_ HB hb; have zi := nL_ qf hg; have zj := nG_ qf hg; replace qf := kB_ qf hb; have zk := nL_ qh hg; have zl := nG_ qh hg; replace qh := kB_ qh hb; clear hb hbox hg; have Zl := zj.out; have Zm := zi.out; have Zn := zl.out; have Zo := zk.out; obtain ⟨jX, jY, jZ, j1, j2, j3⟩ := b3_ zc) | ((with_reducible refine gate_store (t := 52) (p := 8) rfl ?_); refine store_event (t := 52) (p := 8) (v := ?vo_w37) (w1 := (((Jb.setCell ⟨qt, 0, none⟩ (.slice q5 ((rd_T52 l0_1 qn).f0).length c502_0)).setCell ⟨qt, 1, none⟩ (.int .i64 ((rd_T52 l0_1 qn).f1))).setCell ⟨qt, 2, none⟩ (.bool ((rd_T52 l0_1 qn).f2)))) ?hg ?ho ?hn ?hr ?_; (case ho => rfl); (case hg => rfl); (case hn => rfl); (case hr => first | (go_simp; done) | (go_simp; rfl)); intro zN hw; have n0_ : Aside0 (Kd.N k52 52 zN w.heap.size (fun k_ => (P0_1_ k_ ∨ w.heap.size ≤ k_) ∧ k_ ≠ qk ∧ k_ ≠ qi ∧ k_ ≠ qt) u6 zp) := ⟨(by rw [hw]; exact (by (with_reducible repeat (first | apply Kd.N_alloc | apply Kd.N_drewN | apply Kd.N_drew)); exact Kd.N_mono (Kd.N_far (p := ⟨qt, 2, none⟩) (Kd.N_far (p := ⟨qt, 1, none⟩) (Kd.N_far (p := ⟨qt, 0, none⟩) (Kd.N_mono qq.out (fun k_ hk => (⟨hk, hk.2⟩ : _ ∧ k_ ≠ qt))) (fun _ hk => hk.2) (.slice q5 ((rd_T52 l0_1 qn).f0).length c502_0)) (fun _ hk => hk.2) (.int .i64 ((rd_T52 l0_1 qn).f1))) (fun _ hk => hk.2) (.bool ((rd_T52 l0_1 qn).f2))) (fun _ hk => ⟨hk.1.1.1, ⟨hk.1.1.2.1, ⟨hk.1.1.2.2, hk.1.2⟩⟩⟩)))⟩; have n1_ : Aside0 (Kd.V k52 52 zN w.heap.size (fun k_ => (P0_1_ k_ ∨ w.heap.size ≤ k_) ∧ some k_ ≠ (u6 : Value).ownBlock ∧ k_ ≠ qk ∧ k_ ≠ qi ∧ k_ ≠ qt) (.slice (some zo) l0_1.length c0_1) l0_1) := ⟨(by rw [hw]; exact (by (with_reducible repeat (first | apply Kd.V_alloc | apply Kd.V_drewN | apply Kd.V_drew)); exact Kd.V_mono (Kd.V_far (p := ⟨qt, 2, none⟩) (Kd.V_far (p := ⟨qt, 1, none⟩) (Kd.V_far (p := ⟨qt, 0, none⟩) (Kd.V_mono qR.out (fun k_ hk => (⟨hk, hk.2⟩ : _ ∧ k_ ≠ qt))) (fun _ hk => hk.2) (.slice q5 ((rd_T52 l0_1 qn).f0).length c502_0)) (fun _ hk => hk.2) (.int .i64 ((rd_T52 l0_1 qn).f1))) (fun _ hk => hk.2) (.bool ((rd_T52 l0_1 qn).f2))) (fun _ hk => ⟨hk.1.1.1, ⟨hk.1.1.2.1, ⟨hk.1.1.2.2.1, ⟨hk.1.1.2.2.2, hk.1.2⟩⟩⟩⟩)))⟩; have n2_ : Aside0 (Kd.V k52 52 zN w.heap.size (fun k_ => (P0_1_ k_ ∨ w.heap.size ≤ k_) ∧ some k_ ≠ (u6 : Value).ownBlock ∧ k_ ≠ qk ∧ k_ ≠ qi ∧ k_ ≠ qt) (.slice (some zo) l0_1.length c0_1) l0_1) := ⟨(by rw [hw]; exact (by (with_reducible repeat (first | apply Kd.V_alloc | apply Kd.V_drewN | apply Kd.V_drew)); exact Kd.V_mono (Kd.V_far (p := ⟨qt, 2, none⟩) (Kd.V_far (p := ⟨qt, 1, none⟩) (Kd.V_far (p := ⟨qt, 0, none⟩) (Kd.V_mono qc.out (fun k_ hk => (⟨hk, hk.2⟩ : _ ∧ k_ ≠ qt))) (fun _ hk => hk.2) (.slice q5 ((rd_T52 l0_1 qn).f0).length c502_0)) (fun _ hk => hk.2) (.int .i64 ((rd_T52 l0_1 qn).f1))) (fun _ hk => hk.2) (.bool ((rd_T52 l0_1 qn).f2))) (fun _ hk => ⟨hk.1.1.1, ⟨hk.1.1.2.1, ⟨hk.1.1.2.2.1, ⟨hk.1.1.2.2.2, hk.1.2⟩⟩⟩⟩)))⟩; have n3_ : Aside0 (Kd.V (Kd.int .i64) 3 zN w.heap.size (fun k_ => (P0_1_ k_ ∨ w.heap.size ≤ k_) ∧ some k_ ≠ (u6 : Value).ownBlock ∧ k_ ≠ qk ∧ k_ ≠ qi ∧ k_ ≠ qt) (.slice q5 ((rd_T52 l0_1 qn).f0).length c502_0) ((rd_T52 l0_1 qn).f0)) := ⟨(by rw [hw]; exact (by (with_reducible repeat (first | apply Kd.V_alloc | apply Kd.V_drewN | apply Kd.V_drew)); exact Kd.V_mono (Kd.V_far (p := ⟨qt, 2, none⟩) (Kd.V_far (p := ⟨qt, 1, none⟩) (Kd.V_far (p := ⟨qt, 0, none⟩) (Kd.V_mono HL502_0.out (fun k_ hk => (⟨hk, hk.2⟩ : _ ∧ k_ ≠ qt))) (fun _ hk => hk.2) (.slice q5 ((rd_T52 l0_1 qn).f0).length c502_0)) (fun _ hk => hk.2) (.int .i64 ((rd_T52 l0_1 qn).f1))) (fun _ hk => hk.2) (.bool ((rd_T52 l0_1 qn).f2))) (fun _ hk => ⟨hk.1.1.1, ⟨hk.1.1.2.1, ⟨hk.1.1.2.2.1, ⟨hk.1.1.2.2.2, hk.1.2⟩⟩⟩⟩)))⟩; have n4_ : Aside0 (zN.heap[qk]? = some (.cells #[.int .i64 a0_0, .slice (some zo) l0_1.length c0_1] 28 (0, 0))) := ⟨(by rw [hw]; exact (kf_ qf))⟩; have n5_ : Aside0 (zN.heap[qi]? = some (.cells #[.int .i64 0, .slice none 0 0] 28 (0, 0))) := ⟨(by rw [hw]; exact (kf_ qh))⟩; have n6_ : Aside0 (zN.heap[qt]? = some (.cells #[.slice q5 ((rd_T52 l0_1 qn).f0).length c502_0, .int .i64 ((rd_T52 l0_1 qn).f1), .bool ((rd_T52 l0_1 qn).f2)] 52 (0, 0))) := ⟨(by rw [hw]; exact (kp_ zc))⟩; have n7_ : Aside0 (Below w.heap.size w zN) := ⟨(by rw [hw]; exact (bb_ HB))⟩; clear hw; clear qq; clear qR; clear qc; clear HL502_0; clear qf; clear qh; clear zc; clear HB; have qq := n0_; have qR := n1_; have qc := n2_; have HL502_0 := n3_; have qf := n4_; have qh := n5_; have zc := n6_; have HB := n7_; clear n0_ n1_ n2_ n3_ n4_ n5_ n6_ n7_; obtain ⟨j4, j5, j6, j7, j8, j9⟩ := b3_ zc; have p504 : 0 ≤ (a1 : Int) := od_; have q504 : a1 < (((rd_T52 l0_1 qn).f0).length : Int) := od_; obtain ⟨q6, e504, q2⟩ := Kd.at_int ((Kd.V_reads' HL502_0.out).2.2) a1 p504 q504; cases e504; replace p504 := eq_true p504; replace q504 := eq_true q504) | ((with_reducible refine gate_builtin (b := .append) (xs := #[.tmp 43, .tmp 45]) rfl ?_); at_builtin; refine Kd.N_append k52 (w0 := w) w.heap.size rfl (.tmp 43) (.tmp 45) 26 52 (.agg #[(.slice none 0 0), (.int .i64 0), (.bool false)]) 40 rfl Try.underlying26 info52 rfl (by decide) (by omega) u6 zp (⟨(rd_T52 l0_1 qn).f0, (rd_T52 l0_1 qn).f1, (rd_T52 l0_1 qn).f2⟩ : S52) [.slice (some q6) ((rd_T52 l0_1 qn).f0).length c502_0, .int .i64 ((rd_T52 l0_1 qn).f1), .bool ((rd_T52 l0_1 qn).f2)] (fun k_ => (P0_1_ k_ ∨ w.heap.size ≤ k_) ∧ k_ ≠ qk ∧ k_ ≠ qi ∧ k_ ≠ qt) (fun k_ => ((fun k_ => (P0_1_ k_ ∨ w.heap.size ≤ k_) ∧ k_ ≠ qk ∧ k_ ≠ qi ∧ k_ ≠ qt)) k_ ∧ some k_ ≠ (u6 : Value).ownBlock) rfl rfl ?aP (fun _ hk => hk) ?aF ?aO ?aB ?aS ?aL ?_; (case aP => exact (k52_mkF _ _ (⟨(rd_T52 l0_1 qn).f0, (rd_T52 l0_1 qn).f1, (rd_T52 l0_1 qn).f2⟩ : S52) (Kd.V_reads' (Kd.V_mono (ok' := (fun k_ => ((fun k_ => (P0_1_ k_ ∨ w.heap.size ≤ k_) ∧ k_ ≠ qk ∧ k_ ≠ qi ∧ k_ ≠ qt)) k_ ∧ some k_ ≠ (u6 : Value).ownBlock)) (HL502_0.out) (fun k_ hk => ⟨⟨hk.1, ⟨hk.2.2.1, ⟨hk.2.2.2.1, hk.2.2.2.2⟩⟩⟩, hk.2.1⟩))).2.1 (Kd.V_F (Kd.V_mono (ok' := (fun k_ => ((fun k_ => (P0_1_ k_ ∨ w.heap.size ≤ k_) ∧ k_ ≠ qk ∧ k_ ≠ qi ∧ k_ ≠ qt)) k_ ∧ some k_ ≠ (u6 : Value).ownBlock)) (HL502_0.out) (fun k_ hk => ⟨⟨hk.1, ⟨hk.2.2.1, ⟨hk.2.2.2.1, hk.2.2.2.2⟩⟩⟩, hk.2.1⟩))))); (case aB => exact (bb_ HB)); (case aF => exact (fun k_ hk => ⟨(.inr (Nat.le_trans (bz_ HB) hk)), Kd.freshB (g := qk) (o := .cells #[.int .i64 a0_0, .slice (some zo) l0_1.length c0_1] 28 (0, 0)) (kf_ qf) k_ hk, Kd.freshB (g := qi) (o := .cells #[.int .i64 0, .slice none 0 0] 28 (0, 0)) (kf_ qh) k_ hk, Kd.freshB (g := qt) (o := .cells #[.slice (some q6) ((rd_T52 l0_1 qn).f0).length c502_0, .int .i64 ((rd_T52 l0_1 qn).f1), .bool ((rd_T52 l0_1 qn).f2)] 52 (0, 0)) (kf_ zc) k_ hk⟩)); (case aO => exact (nm_ qq)); (case aS => exact (bz_ HB)); (case aL => have := LMc32.out; omega); intro Jc Jp ho hb hg hat; rw [← Ny505.out] at ho; replace qR := Aside0.mk (Kd.V_afterv (ok := (fun k_ => (P0_1_ k_ ∨ w.heap.size ≤ k_) ∧ k_ ≠ qk ∧ k_ ≠ qi ∧ k_ ≠ qt)) (by (with_reducible repeat (first | apply Kd.V_alloc | apply Kd.V_drewN | apply Kd.V_drew)); exact Kd.V_mono qR.out (fun _ hk => ⟨⟨hk.1, ⟨hk.2.2.1, ⟨hk.2.2.2.1, hk.2.2.2.2⟩⟩⟩, hk.2.1⟩)) hg hat); replace qc := Aside0.mk (Kd.V_afterv (ok := (fun k_ => (P0_1_ k_ ∨ w.heap.size ≤ k_) ∧ k_ ≠ qk ∧ k_ ≠ qi ∧ k_ ≠ qt)) (by (with_reducible repeat (first | apply Kd.V_alloc | apply Kd.V_drewN | apply Kd.V_drew)); exact Kd.V_mono qc.out (fun _ hk => ⟨⟨hk.1, ⟨hk.2.2.1, ⟨hk.2.2.2.1, hk.2.2.2.2⟩⟩⟩, hk.2.1⟩)) hg hat); replace qf := Aside0.mk (blk_grown (g := qk) (o := .cells #[.int .i64 a0_0, .slice (some zo) l0_1.length c0_1] 28 (0, 0)) (kf_ qf) hg (Kd.N_ne qq.out qf.out (by decide))); replace qh := Aside0.mk (blk_grown (g := qi) (o := .cells #[.int .i64 0, .slice none 0 0] 28 (0, 0)) (kf_ qh) hg (Kd.N_ne qq.out qh.out (by decide))); replace HL502_0 := Aside0.mk (Kd.V_afterv (ok := (fun k_ => (P0_1_ k_ ∨ w.heap.size ≤ k_) ∧ k_ ≠ qk ∧ k_ ≠ qi ∧ k_ ≠ qt)) (by (with_reducible repeat (first | apply Kd.V_alloc | apply Kd.V_drewN | apply Kd.V_drew)); exact Kd.V_mono HL502_0.out (fun _ hk => ⟨⟨hk.1, ⟨hk.2.2.1, ⟨hk.2.2.2.1, hk.2.2.2.2⟩⟩⟩, hk.2.1⟩)) hg hat); replace zc := Aside0.mk (blk_grown (g := qt) (o := .cells #[.slice (some q6) ((rd_T52 l0_1 qn).f0).length c502_0, .int .i64 ((rd_T52 l0_1 qn).f1), .bool ((rd_T52 l0_1 qn).f2)] 52 (0, 0)) (kf_ zc) hg (Kd.N_away qq.out (fun _ hk => hk.2.2.2))); replace HB := Aside0.mk (hb); have z1 := Aside0.mk (ho); clear qq; clear ho hb hg hat))
    go_roundg k2
    case measure => have := HJ2.out; have := HK2.out; omega
    case rel => exact ⟨(y505), (wrap64 (qn + 1)), (by first | rfl | (simp; done) | (simp [*]; done)), H', ⟨by have := HJ2.out; have := HK2.out; omega⟩, ⟨by (with_reducible repeat (first | apply Kd.N_alloc | apply Kd.N_drewN | apply Kd.N_drew)); exact Kd.N_mono z1.out (fun _ hk => ⟨hk.1, ⟨hk.2.1, hk.2.2.1⟩⟩)⟩, ⟨by (with_reducible repeat (first | apply Kd.V_alloc | apply Kd.V_drewN | apply Kd.V_drew)); exact Kd.V_mono qR.out (fun _ hk => ⟨hk.1.1, ⟨hk.2, ⟨hk.1.2.1, hk.1.2.2.1⟩⟩⟩)⟩, ⟨by (with_reducible repeat (first | apply Kd.V_alloc | apply Kd.V_drewN | apply Kd.V_drew)); exact Kd.V_mono qc.out (fun _ hk => ⟨hk.1.1, ⟨hk.2, ⟨hk.1.2.1, hk.1.2.2.1⟩⟩⟩)⟩, ⟨kf_ qf⟩, ⟨kf_ qh⟩, ⟨bb_ HB⟩⟩
   rw [if_neg c26] at H
   have zW : decide (qn < (l0_1.length : Int)) = false := decide_eq_false c26
   clear c26
   have H' := Aside0.mk H
   clear H
   have Zp := qJ.out
   have Zq := qK.out
   obtain ⟨Qa, Qb, Qc, Qd⟩ := b2_ qf
   go_wp2
   go_loopg [6, 51] k2 (fun kq v6 v51 w' => ∃ (zr : List (S52)) (qd : Int) (qV : Int), v51 = .int .i64 qd ∧ Aside0 (impl_DropVariable.l1 kq a1 zr l0_1 (l0_1.length : Int) qd a0_0 l0_1 = some (r1, r2, r3)) ∧ Aside0 (kq ≤ k2) ∧ Aside0 (Kd.N k52 52 w' w.heap.size (fun k_ => (P0_1_ k_ ∨ w.heap.size ≤ k_) ∧ k_ ≠ qk ∧ k_ ≠ qi) v6 zr) ∧ Aside0 (Kd.V k52 52 w' w.heap.size (fun k_ => (P0_1_ k_ ∨ w.heap.size ≤ k_) ∧ some k_ ≠ (v6 : Value).ownBlock ∧ k_ ≠ qk ∧ k_ ≠ qi) (.slice A0_1 l0_1.length c0_1) l0_1) ∧ Aside0 (Kd.V k52 52 w' w.heap.size (fun k_ => (P0_1_ k_ ∨ w.heap.size ≤ k_) ∧ some k_ ≠ (v6 : Value).ownBlock ∧ k_ ≠ qk ∧ k_ ≠ qi) (.slice A0_1 l0_1.length c0_1) l0_1) ∧ Aside0 (w'.heap[qk]? = some (.cells #[.int .i64 a0_0, (.slice A0_1 l0_1.length c0_1)] 28 (0, 0))) ∧ Aside0 (w'.heap[qi]? = some (.cells #[.int .i64 qV, (.slice none 0 0)] 28 (0, 0))) ∧ Aside0 (Below w.heap.size w w'))
   case atStart => exact ⟨(zp), (0), (0), (by first | rfl | (simp; done) | (simp [*]; done)), H', ⟨Nat.le_refl _⟩, ⟨by (with_reducible repeat (first | apply Kd.N_alloc | apply Kd.N_drewN | apply Kd.N_drew)); exact qq.out⟩, ⟨by (with_reducible repeat (first | apply Kd.V_alloc | apply Kd.V_drewN | apply Kd.V_drew)); exact qc.out⟩, ⟨by (with_reducible repeat (first | apply Kd.V_alloc | apply Kd.V_drewN | apply Kd.V_drew)); exact qc.out⟩, ⟨kf_ qf⟩, ⟨kf_ qh⟩, ⟨bb_ HB⟩⟩
   clear H'
   obtain ⟨zr, qd, qV, rfl, HA, HK3, qq, qo, qc, qf, qh, HB⟩ := hrel
   cases gk with
   | zero => exact absurd HA.out (by simp [impl_DropVariable.l1])
   | succ k3 =>
    have H := HA.out
    clear HA
    simp only [impl_DropVariable.l1] at H
    by_cases c46 : qd < (l0_1.length : Int)
    rotate_left
    ·
     rw [if_neg c46] at H
     have z2 : decide (qd < (l0_1.length : Int)) = false := decide_eq_false c46
     clear c46
     replace H := be_ H
     obtain ⟨⟨zJ, zK, z3⟩, A1160, H⟩ := H
     replace H : (some (zJ, zK, z3)) = some (r1, r2, r3) := H
     have A116 := Aside0.mk A1160
     clear A1160
     simp only [Option.some.injEq, Prod.mk.injEq] at H
     obtain ⟨rfl, rfl, rfl⟩ := H
     have QM := qJ.out
     have QN := qK.out
     obtain ⟨z4, z5, z6, z7⟩ := b2_ qf
     obtain ⟨zO, zP, eo119⟩ := Kd.N_slice qq.out
     subst eo119
     go_wp2_with (first | ((with_reducible refine gate_callee (f := 58) rfl ?_); refine gL_ (some 103) Try.func58 #[.int .i64 a0_0, .slice zO zr.length zP] ?_; (with_reducible refine (impl_limitedNormal.calls k3 a0_0 _ _ zr zJ zK z3 _ ?side1 ?side2 A116.out).mono ?_); (case side1 => repeat (first | exact (Kd.N_reads' qq.out).2.2 | (with_reducible refine Kd.C_alloc ?_ _) | (with_reducible refine Kd.C_drewN ?_ _) | (with_reducible refine Kd.C_drew ?_))); (case side2 => exact (Kd.N_reads' qq.out).2.1); rintro e Jd ⟨Je, rfl, ho0, hb⟩; refine ⟨_, rfl, ?_⟩; replace qo := Aside0.mk (Kd.V_elder' (vm_ qo) (Kd.N_base ho0) hb); replace qc := Aside0.mk (Kd.V_elder' (vm_ qc) (Kd.N_base ho0) hb); have zQ := Aside0.mk (Kd.N_lower (Kd.N_mono (ok' := fun k_ => (P0_1_ k_ ∨ w.heap.size ≤ k_) ∧ some k_ ≠ (.slice zO zr.length zP : Value).ownBlock ∧ k_ ≠ qk ∧ k_ ≠ qi) ho0 (fun k_ hk_ => ⟨(.inr (Nat.le_trans (bz_ HB) hk_)), (Kd.fresh' (Kd.N_lt (nm_ qq)) k_ hk_), (Kd.freshB (g := qk) (o := .cells #[.int .i64 a0_0, .slice A0_1 l0_1.length c0_1] 28 (0, 0)) (kf_ qf) k_ hk_), (Kd.freshB (g := qi) (o := .cells #[.int .i64 qV, .slice none 0 0] 28 (0, 0)) (kf_ qh) k_ hk_)⟩)) (bz_ HB)); replace qq := Aside0.mk (Kd.N_elder' (nm_ qq) (Kd.N_base ho0) hb); replace qf := kB_ qf hb; replace qh := kB_ qh hb; replace HB := bS_ HB hb; clear hb ho0; obtain ⟨z8, z9, ja, jb⟩ := b2_ qh; obtain ⟨zR, zS, eo122⟩ := Kd.N_slice zQ.out; subst eo122))
     refine bodyPost_ret (results_ct rfl _ _ qi 28 #[.int .i64 zJ, .slice zR zK.length zS] (0, 0) _ rfl (kp_ qh) Try.underlying28 rfl (by kernel_rfl)) rfl ?_
     exact ⟨_, by first | rfl | (simp [errW_none, errW_some] <;> rfl) | (simp [*, errW_none, errW_some] <;> rfl), by (with_reducible repeat (first | apply Kd.N_alloc | apply Kd.N_drewN | apply Kd.N_drew)); exact Kd.N_mono (Kd.N_far (p := ⟨qi, 1, none⟩) (Kd.N_far (p := ⟨qi, 0, none⟩) (Kd.N_mono zQ.out (fun k_ hk => (⟨hk, hk.2.2.2⟩ : _ ∧ k_ ≠ qi))) (fun _ hk => hk.2) (.int .i64 zJ)) (fun _ hk => hk.2) (.slice zR zK.length zS)) (fun _ hk => hk.1.1), bb_ HB⟩
    rw [if_pos c46] at H
    have z2 : decide (qd < (l0_1.length : Int)) = true := decide_eq_true c46
    clear c46
    by_cases c47 : 0 ≤ qd
    rotate_left
    ·
     rw [if_neg c47] at H
     exact absurd H (by simp)
    rw [if_pos c47] at H
    have Zr : decide (0 ≤ qd) = true := decide_eq_true c47
    clear c47
    by_cases c48 : qd < (l0_1.length : Int)
    rotate_left
    ·
     rw [if_neg c48] at H
     exact absurd H (by simp)
    rw [if_pos c48] at H
    have Zs : decide (qd < (l0_1.length : Int)) = true := decide_eq_true c48
    clear c48
    by_cases c49 : 0 ≤ a1
    rotate_left
    ·
     rw [if_neg c49] at H
     exact absurd H (by simp)
    rw [if_pos c49] at H
    have Zt : decide (0 ≤ a1) = true := decide_eq_true c49
    clear c49
    by_cases c50 : a1 < (((rd_T52 l0_1 qd).f0).length : Int)
    rotate_left
    ·
     rw [if_neg c50] at H
     exact absurd H (by simp)
    rw [if_pos c50] at H
    have Zu : decide (a1 < (((rd_T52 l0_1 qd).f0).length : Int)) = true := decide_eq_true c50
    clear c50
    by_cases c51 : (rd ((rd_T52 l0_1 qd).f0) a1) ≤ 0
    ·
     rw [if_pos c51] at H
     have jc : decide ((rd ((rd_T52 l0_1 qd).f0) a1) ≤ 0) = true := decide_eq_true c51
     clear c51
     have H' := Aside0.mk H
     clear H
     have p513 : 0 ≤ (qd : Int) := od_
     have q513 : qd < (l0_1.length : Int) := od_
     obtain ⟨qx, zt, c513_0, e513, zd, zL, zM, hl513_0, hi513_0⟩ := at_T52 (Kd.V_reads' qo.out).2.2 qd p513 q513
     cases e513
     obtain ⟨ce513, hce513, hMe513, hcc513⟩ := Kd.V_get qo.out z52 qd p513 (by first | exact q513 | exact od_ | (have e_ := (Kd.V_reads' qo.out).1; omega))
     obtain ⟨ua513_0, uc513_0, rfl, ul513_0, ge513_0⟩ := k52_openF hMe513
     have hv513_0 := hcc513 0 _ rfl
     rw [Nat.add_zero] at hv513_0
     replace hv513_0 := Option.some.inj (hv513_0.symm.trans zd)
     injection hv513_0 with hva_ hvn_ hvc_
     rw [hva_] at ge513_0
     rw [hvc_] at ul513_0
     have HL513_0 := Aside0.mk (show Kd.V (Kd.int .i64) 3 _ w.heap.size _ _ ((rd_T52 l0_1 qd).f0) from Kd.V_mk ul513_0 ge513_0)
     clear hva_ hvn_ hvc_ ge513_0 ul513_0
     clear hcc513 hce513
     have qI := Aside0.mk hi513_0
     obtain ⟨adw_, Aw_, cw_, ew_, hxw_, hxw1_, hxw2_, hlw_, hiw_⟩ := at_T52 (Kd.V_reads' hs0_1).2.2 qd p513 q513
     obtain rfl : qx = adw_ := (by injection ew_)
     replace hxw_ := Option.some.inj ((ct_ HB hxw_ :).symm.trans zd)
     have ha_ : Aw_ = zt := by injection hxw_
     rw [ha_] at hiw_
     have HW513_0 := Aside0.mk hiw_
     clear hxw_ ha_ hiw_ hlw_ hxw1_ hxw2_ ew_
     have ze := Aside0.mk hl513_0
     clear hi513_0 hl513_0
     replace p513 := eq_true p513
     replace q513 := eq_true q513
     go_wp2_with (first | ((with_reducible refine gate_dst (N := 10) rfl ?_); refine bx_ (cs := #[.slice none 0 0, .int .i64 0, .bool false]) (t := 52) ?_; intro qg hg Jq hbox hb; replace qq := nE_ qq hg hb; replace qo := vE_ qo hg hb; replace qc := vE_ qc hg hb; replace HL513_0 := vE_ HL513_0 hg hb; replace qI := cB_ qI hb; have qj := Aside0.mk (hbox); have jd := hz_ HB hg; have je := hz_ HB hg; replace HB := bS_ HB hb; have zm := nL_ qf hg; have zn := nG_ qf hg; replace qf := kB_ qf hb; have q9 := nL_ qh hg; have za := nG_ qh hg; replace qh := kB_ qh hb; clear hb hbox hg; have Zv := zn.out; have Zw := zm.out; have Zx := za.out; have Zy := q9.out; obtain ⟨Qe, Qf, Qg, Qh, Qi, Qj⟩ := b3_ qj; have p515 : 0 ≤ (a1 : Int) := od_; have q515 : a1 < (((rd_T52 l0_1 qd).f0).length : Int) := od_; obtain ⟨qu, e515, qL⟩ := Kd.at_int qI.out a1 p515 q515; cases e515; have hn515_0 : qu.block ≠ qg := vb_ HL513_0 (by omega) (fun _ hk => hk.2) (by show 0 < 1; decide); have hn515_1 : qu.block ≠ qg := vb_ HL513_0 (by omega) (fun _ hk => hk.2) (by show 0 < 1; decide); have hn515_2 : qu.block ≠ qg := vb_ HL513_0 (by omega) (fun _ hk => hk.2) (by show 0 < 1; decide); replace qL := (cell_far (p := ⟨qg, 0, none⟩) (by first | (rw [add_block]; exact hn515_0) | (show (Addr.add _ _).block ≠ _; rw [add_block]; exact hn515_0) | exact hn515_0) (.slice (some qu) ((rd_T52 l0_1 qd).f0).length c513_0)).trans qL; replace qL := (cell_far (p := ⟨qg, 1, none⟩) (by first | (rw [add_block]; exact hn515_1) | (show (Addr.add _ _).block ≠ _; rw [add_block]; exact hn515_1) | exact hn515_1) (.int .i64 ((rd_T52 l0_1 qd).f1))).trans qL; replace qL := (cell_far (p := ⟨qg, 2, none⟩) (by first | (rw [add_block]; exact hn515_2) | (show (Addr.add _ _).block ≠ _; rw [add_block]; exact hn515_2) | exact hn515_2) (.bool ((rd_T52 l0_1 qd).f2))).trans qL; clear hn515_0; clear hn515_1; clear hn515_2; replace p515 := eq_true p515; replace q515 := eq_true q515))
     go_roundg k3
     case measure => have := HJ2.out; have := HK2.out; have := HK3.out; omega
     case rel => exact ⟨(zr), (wrap64 (qd + 1)), (qV), (by first | rfl | (simp; done) | (simp [*]; done)), H', ⟨by have := HJ2.out; have := HK2.out; have := HK3.out; omega⟩, ⟨by (with_reducible repeat (first | apply Kd.N_alloc | apply Kd.N_drewN | apply Kd.N_drew)); exact Kd.N_mono (Kd.N_far (p := ⟨qg, 2, none⟩) (Kd.N_far (p := ⟨qg, 1, none⟩) (Kd.N_far (p := ⟨qg, 0, none⟩) (Kd.N_mono qq.out (fun k_ hk => (⟨hk, hk.2⟩ : _ ∧ k_ ≠ qg))) (fun _ hk => hk.2) (.slice (some qu) ((rd_T52 l0_1 qd).f0).length c513_0)) (fun _ hk => hk.2) (.int .i64 ((rd_T52 l0_1 qd).f1))) (fun _ hk => hk.2) (.bool ((rd_T52 l0_1 qd).f2))) (fun _ hk => ⟨hk.1.1.1, ⟨hk.1.1.2.1, hk.1.1.2.2⟩⟩)⟩, ⟨by (with_reducible repeat (first | apply Kd.V_alloc | apply Kd.V_drewN | apply Kd.V_drew)); exact Kd.V_mono (Kd.V_far (p := ⟨qg, 2, none⟩) (Kd.V_far (p := ⟨qg, 1, none⟩) (Kd.V_far (p := ⟨qg, 0, none⟩) (Kd.V_mono qo.out (fun k_ hk => (⟨hk, hk.2⟩ : _ ∧ k_ ≠ qg))) (fun _ hk => hk.2) (.slice (some qu) ((rd_T52 l0_1 qd).f0).length c513_0)) (fun _ hk => hk.2) (.int .i64 ((rd_T52 l0_1 qd).f1))) (fun _ hk => hk.2) (.bool ((rd_T52 l0_1 qd).f2))) (fun _ hk => ⟨hk.1.1.1, ⟨hk.1.1.2.1, ⟨hk.1.1.2.2.1, hk.1.1.2.2.2⟩⟩⟩)⟩, ⟨by (with_reducible repeat (first | apply Kd.V_alloc | apply Kd.V_drewN | apply Kd.V_drew)); exact Kd.V_mono (Kd.V_far (p := ⟨qg, 2, none⟩) (Kd.V_far (p := ⟨qg, 1, none⟩) (Kd.V_far (p := ⟨qg, 0, none⟩) (Kd.V_mono qc.out (fun k_ hk => (⟨hk, hk.2⟩ : _ ∧ k_ ≠ qg))) (fun _ hk => hk.2) (.slice (some qu) ((rd_T52 l0_1 qd).f0).length c513_0)) (fun _ hk => hk.2) (.int .i64 ((rd_T52 l0_1 qd).f1))) (fun _ hk => hk.2) (.bool ((rd_T52 l0_1 qd).f2))) (fun _ hk => ⟨hk.1.1.1, ⟨hk.1.1.2.1, ⟨hk.1.1.2.2.1, hk.1.1.2.2.2⟩⟩⟩)⟩, ⟨kf_ qf⟩, ⟨kf_ qh⟩, ⟨bb_ HB⟩⟩
    rw [if_neg c51] at H
    have jc : decide ((rd ((rd_T52 l0_1 qd).f0) a1) ≤ 0) = false := decide_eq_false c51
    clear c51
    have H' := Aside0.mk H
    clear H
    have p513 : 0 ≤ (qd : Int) := od_
    have q513 : qd < (l0_1.length : Int) := od_
    obtain ⟨qx, zt, c513_0, e513, zd, zL, zM, hl513_0, hi513_0⟩ := at_T52 (Kd.V_reads' qo.out).2.2 qd p513 q513
    cases e513
    obtain ⟨ce513, hce513, hMe513, hcc513⟩ := Kd.V_get qo.out z52 qd p513 (by first | exact q513 | exact od_ | (have e_ := (Kd.V_reads' qo.out).1; omega))
    obtain ⟨ua513_0, uc513_0, rfl, ul513_0, ge513_0⟩ := k52_openF hMe513
    have hv513_0 := hcc513 0 _ rfl
    rw [Nat.add_zero] at hv513_0
    replace hv513_0 := Option.some.inj (hv513_0.symm.trans zd)
    injection hv513_0 with hva_ hvn_ hvc_
    rw [hva_] at ge513_0
    rw [hvc_] at ul513_0
    have HL513_0 := Aside0.mk (show Kd.V (Kd.int .i64) 3 _ w.heap.size _ _ ((rd_T52 l0_1 qd).f0) from Kd.V_mk ul513_0 ge513_0)
    clear hva_ hvn_ hvc_ ge513_0 ul513_0
    clear hcc513 hce513
    have qI := Aside0.mk hi513_0
    obtain ⟨adw_, Aw_, cw_, ew_, hxw_, hxw1_, hxw2_, hlw_, hiw_⟩ := at_T52 (Kd.V_reads' hs0_1).2.2 qd p513 q513
    obtain rfl : qx = adw_ := (by injection ew_)
    replace hxw_ := Option.some.inj ((ct_ HB hxw_ :).symm.trans zd)
    have ha_ : Aw_ = zt := by injection hxw_
    rw [ha_] at hiw_
    have HW513_0 := Aside0.mk hiw_
    clear hxw_ ha_ hiw_ hlw_ hxw1_ hxw2_ ew_
    have ze := Aside0.mk hl513_0
    clear hi513_0 hl513_0
    replace p513 := eq_true p513
    replace q513 := eq_true q513
    go_wp2_with (first | ((with_reducible refine gate_dst (N := 10) rfl ?_); refine bx_ (cs := #[.slice none 0 0, .int .i64 0, .bool false]) (t := 52) ?_; intro qg hg Jr hbox hb; replace qq := nE_ qq hg hb; replace qo := vE_ qo hg hb; replace qc := vE_ qc hg hb; replace HL513_0 := vE_ HL513_0 hg hb; replace qI := cB_ qI hb; have qj := Aside0.mk (hbox); have jd := hz_ HB hg; have je := hz_ HB hg; replace HB := bS_ HB hb; have zm := nL_ qf hg; have zn := nG_ qf hg; replace qf := kB_ qf hb; have q9 := nL_ qh hg; have za := nG_ qh hg; replace qh := kB_ qh hb; clear hb hbox hg; have Zz := zn.out; have ZA := zm.out; have ZB := za.out; have ZC := q9.out; obtain ⟨Qk, Ql, Qm, Qn, Qo, Qp⟩ := b3_ qj; have p515 : 0 ≤ (a1 : Int) := od_; have q515 : a1 < (((rd_T52 l0_1 qd).f0).length : Int) := od_; obtain ⟨qu, e515, qL⟩ := Kd.at_int qI.out a1 p515 q515; cases e515; have hn515_0 : qu.block ≠ qg := vb_ HL513_0 (by omega) (fun _ hk => hk.2) (by show 0 < 1; decide); have hn515_1 : qu.block ≠ qg := vb_ HL513_0 (by omega) (fun _ hk => hk.2) (by show 0 < 1; decide); have hn515_2 : qu.block ≠ qg := vb_ HL513_0 (by omega) (fun _ hk => hk.2) (by show 0 < 1; decide); replace qL := (cell_far (p := ⟨qg, 0, none⟩) (by first | (rw [add_block]; exact hn515_0) | (show (Addr.add _ _).block ≠ _; rw [add_block]; exact hn515_0) | exact hn515_0) (.slice (some qu) ((rd_T52 l0_1 qd).f0).length c513_0)).trans qL; replace qL := (cell_far (p := ⟨qg, 1, none⟩) (by first | (rw [add_block]; exact hn515_1) | (show (Addr.add _ _).block ≠ _; rw [add_block]; exact hn515_1) | exact hn515_1) (.int .i64 ((rd_T52 l0_1 qd).f1))).trans qL; replace qL := (cell_far (p := ⟨qg, 2, none⟩) (by first | (rw [add_block]; exact hn515_2) | (show (Addr.add _ _).block ≠ _; rw [add_block]; exact hn515_2) | exact hn515_2) (.bool ((rd_T52 l0_1 qd).f2))).trans qL; clear hn515_0; clear hn515_1; clear hn515_2; replace p515 := eq_true p515; replace q515 := eq_true q515; have ZD := qJ.out; have ZE := qK.out; obtain ⟨Qq, Qr, Qs, Qt⟩ := b2_ qf))
    go_loopg [6, 64] k3 (fun kq v6 v64 w' => ∃ (q3 : List (S52)) (qa : Int) (qC : Int), v64 = .int .i64 qa ∧ Aside0 (impl_DropVariable.l2 kq a1 q3 l0_1 (l0_1.length : Int) qd l0_1 (l0_1.length : Int) qa a0_0 l0_1 ((rd_T52 l0_1 qd).f0) ((rd_T52 l0_1 qd).f1) ((rd_T52 l0_1 qd).f2) = some (r1, r2, r3)) ∧ Aside0 (kq ≤ k3) ∧ Aside0 (Kd.N k52 52 w' w.heap.size (fun k_ => (P0_1_ k_ ∨ w.heap.size ≤ k_) ∧ k_ ≠ qk ∧ k_ ≠ qi ∧ k_ ≠ qg) v6 q3) ∧ Aside0 (Kd.V k52 52 w' w.heap.size (fun k_ => (P0_1_ k_ ∨ w.heap.size ≤ k_) ∧ some k_ ≠ (v6 : Value).ownBlock ∧ k_ ≠ qk ∧ k_ ≠ qi ∧ k_ ≠ qg) (.slice (some qx) l0_1.length c0_1) l0_1) ∧ Aside0 (Kd.V k52 52 w' w.heap.size (fun k_ => (P0_1_ k_ ∨ w.heap.size ≤ k_) ∧ some k_ ≠ (v6 : Value).ownBlock ∧ k_ ≠ qk ∧ k_ ≠ qi ∧ k_ ≠ qg) (.slice (some qx) l0_1.length c0_1) l0_1) ∧ Aside0 (Kd.V k52 52 w' w.heap.size (fun k_ => (P0_1_ k_ ∨ w.heap.size ≤ k_) ∧ some k_ ≠ (v6 : Value).ownBlock ∧ k_ ≠ qk ∧ k_ ≠ qi ∧ k_ ≠ qg) (.slice (some qx) l0_1.length c0_1) l0_1) ∧ Aside0 (w'.heap[qk]? = some (.cells #[.int .i64 a0_0, (.slice (some qx) l0_1.length c0_1)] 28 (0, 0))) ∧ Aside0 (w'.heap[qi]? = some (.cells #[.int .i64 qC, (.slice none 0 0)] 28 (0, 0))) ∧ Aside0 (w'.heap[qg]? = some (.cells #[(.slice (some qu) ((rd_T52 l0_1 qd).f0).length c513_0), .int .i64 ((rd_T52 l0_1 qd).f1), .bool ((rd_T52 l0_1 qd).f2)] 52 (0, 0))) ∧ Aside0 (Below w.heap.size w w'))
    case atStart => exact ⟨(zr), (0), (qV), (by first | rfl | (simp; done) | (simp [*]; done)), H', ⟨Nat.le_refl _⟩, ⟨by (with_reducible repeat (first | apply Kd.N_alloc | apply Kd.N_drewN | apply Kd.N_drew)); exact Kd.N_mono (Kd.N_far (p := ⟨qg, 2, none⟩) (Kd.N_far (p := ⟨qg, 1, none⟩) (Kd.N_far (p := ⟨qg, 0, none⟩) (Kd.N_mono qq.out (fun k_ hk => (⟨hk, hk.2⟩ : _ ∧ k_ ≠ qg))) (fun _ hk => hk.2) (.slice (some qu) ((rd_T52 l0_1 qd).f0).length c513_0)) (fun _ hk => hk.2) (.int .i64 ((rd_T52 l0_1 qd).f1))) (fun _ hk => hk.2) (.bool ((rd_T52 l0_1 qd).f2))) (fun _ hk => ⟨hk.1.1.1, ⟨hk.1.1.2.1, ⟨hk.1.1.2.2, hk.1.2⟩⟩⟩)⟩, ⟨by (with_reducible repeat (first | apply Kd.V_alloc | apply Kd.V_drewN | apply Kd.V_drew)); exact Kd.V_mono (Kd.V_far (p := ⟨qg, 2, none⟩) (Kd.V_far (p := ⟨qg, 1, none⟩) (Kd.V_far (p := ⟨qg, 0, none⟩) (Kd.V_mono qo.out (fun k_ hk => (⟨hk, hk.2⟩ : _ ∧ k_ ≠ qg))) (fun _ hk => hk.2) (.slice (some qu) ((rd_T52 l0_1 qd).f0).length c513_0)) (fun _ hk => hk.2) (.int .i64 ((rd_T52 l0_1 qd).f1))) (fun _ hk => hk.2) (.bool ((rd_T52 l0_1 qd).f2))) (fun _ hk => ⟨hk.1.1.1, ⟨hk.1.1.2.1, ⟨hk.1.1.2.2.1, ⟨hk.1.1.2.2.2, hk.1.2⟩⟩⟩⟩)⟩, ⟨by (with_reducible repeat (first | apply Kd.V_alloc | apply Kd.V_drewN | apply Kd.V_drew)); exact Kd.V_mono (Kd.V_far (p := ⟨qg, 2, none⟩) (Kd.V_far (p := ⟨qg, 1, none⟩) (Kd.V_far (p := ⟨qg, 0, none⟩) (Kd.V_mono qc.out (fun k_ hk => (⟨hk, hk.2⟩ : _ ∧ k_ ≠ qg))) (fun _ hk => hk.2) (.slice (some qu) ((rd_T52 l0_1 qd).f0).length c513_0)) (fun _ hk => hk.2) (.int .i64 ((rd_T52 l0_1 qd).f1))) (fun _ hk => hk.2) (.bool ((rd_T52 l0_1 qd).f2))) (fun _ hk => ⟨hk.1.1.1, ⟨hk.1.1.2.1, ⟨hk.1.1.2.2.1, ⟨hk.1.1.2.2.2, hk.1.2⟩⟩⟩⟩)⟩, ⟨by (with_reducible repeat (first | apply Kd.V_alloc | apply Kd.V_drewN | apply Kd.V_drew)); exact Kd.V_mono (Kd.V_far (p := ⟨qg, 2, none⟩) (Kd.V_far (p := ⟨qg, 1, none⟩) (Kd.V_far (p := ⟨qg, 0, none⟩) (Kd.V_mono qc.out (fun k_ hk => (⟨hk, hk.2⟩ : _ ∧ k_ ≠ qg))) (fun _ hk => hk.2) (.slice (some qu) ((rd_T52 l0_1 qd).f0).length c513_0)) (fun _ hk => hk.2) (.int .i64 ((rd_T52 l0_1 qd).f1))) (fun _ hk => hk.2) (.bool ((rd_T52 l0_1 qd).f2))) (fun _ hk => ⟨hk.1.1.1, ⟨hk.1.1.2.1, ⟨hk.1.1.2.2.1, ⟨hk.1.1.2.2.2, hk.1.2⟩⟩⟩⟩)⟩, ⟨kf_ qf⟩, ⟨kf_ qh⟩, ⟨kp_ qj⟩, ⟨bb_ HB⟩⟩
    clear H'
    obtain ⟨q3, qa, qC, rfl, HA, HK4, qq, qo, qp, qc, qf, qh, qj, HB⟩ := hrel
    have qI := HW513_0
    cases gk with
    | zero => exact absurd HA.out (by simp [impl_DropVariable.l2])
    | succ k4 =>
     have H := HA.out
     clear HA
     simp only [impl_DropVariable.l2] at H
     by_cases c62 : qa < (l0_1.length : Int)
     rotate_left
     ·
      rw [if_neg c62] at H
      have jf : decide (qa < (l0_1.length : Int)) = false := decide_eq_false c62
      clear c62
      have H' := Aside0.mk H
      clear H
      go_wp2
      go_roundg k4
      case measure => have := HJ2.out; have := HK2.out; have := HK3.out; have := HK4.out; omega
      case rel => exact ⟨(q3), (wrap64 (qd + 1)), (qC), (by first | rfl | (simp; done) | (simp [*]; done)), H', ⟨by have := HJ2.out; have := HK2.out; have := HK3.out; have := HK4.out; omega⟩, ⟨by (with_reducible repeat (first | apply Kd.N_alloc | apply Kd.N_drewN | apply Kd.N_drew)); exact Kd.N_mono qq.out (fun _ hk => ⟨hk.1, ⟨hk.2.1, hk.2.2.1⟩⟩)⟩, ⟨by (with_reducible repeat (first | apply Kd.V_alloc | apply Kd.V_drewN | apply Kd.V_drew)); exact Kd.V_mono qo.out (fun _ hk => ⟨hk.1, ⟨hk.2.1, ⟨hk.2.2.1, hk.2.2.2.1⟩⟩⟩)⟩, ⟨by (with_reducible repeat (first | apply Kd.V_alloc | apply Kd.V_drewN | apply Kd.V_drew)); exact Kd.V_mono qc.out (fun _ hk => ⟨hk.1, ⟨hk.2.1, ⟨hk.2.2.1, hk.2.2.2.1⟩⟩⟩)⟩, ⟨kf_ qf⟩, ⟨kf_ qh⟩, ⟨bb_ HB⟩⟩
     rw [if_pos c62] at H
     have jf : decide (qa < (l0_1.length : Int)) = true := decide_eq_true c62
     clear c62
     by_cases c63 : 0 ≤ qa
     rotate_left
     ·
      rw [if_neg c63] at H
      exact absurd H (by simp)
     rw [if_pos c63] at H
     have ZF : decide (0 ≤ qa) = true := decide_eq_true c63
     clear c63
     by_cases c64 : qa < (l0_1.length : Int)
     rotate_left
     ·
      rw [if_neg c64] at H
      exact absurd H (by simp)
     rw [if_pos c64] at H
     have ZG : decide (qa < (l0_1.length : Int)) = true := decide_eq_true c64
     clear c64
     by_cases c65 : 0 ≤ a1
     rotate_left
     ·
      rw [if_neg c65] at H
      exact absurd H (by simp)
     rw [if_pos c65] at H
     have ZH : decide (0 ≤ a1) = true := decide_eq_true c65
     clear c65
     by_cases c66 : a1 < (((rd_T52 l0_1 qa).f0).length : Int)
     rotate_left
     ·
      rw [if_neg c66] at H
      exact absurd H (by simp)
     rw [if_pos c66] at H
     have ZI : decide (a1 < (((rd_T52 l0_1 qa).f0).length : Int)) = true := decide_eq_true c66
     clear c66
     by_cases c67 : (rd ((rd_T52 l0_1 qa).f0) a1) ≥ 0
     ·
      rw [if_pos c67] at H
      have jg : decide (0 ≤ (rd ((rd_T52 l0_1 qa).f0) a1)) = true := decide_eq_true c67
      clear c67
      have H' := Aside0.mk H
      clear H
      have p516 : 0 ≤ (qa : Int) := od_
      have q516 : qa < (l0_1.length : Int) := od_
      obtain ⟨zs, zB, c516_0, e516, zf, zw, zx, hl516_0, hi516_0⟩ := at_T52 (Kd.V_reads' qp.out).2.2 qa p516 q516
      obtain rfl : qx = zs := (by injection e516)
      obtain ⟨ce516, hce516, hMe516, hcc516⟩ := Kd.V_get qp.out z52 qa p516 (by first | exact q516 | exact od_ | (have e_ := (Kd.V_reads' qp.out).1; omega))
      obtain ⟨ua516_0, uc516_0, rfl, ul516_0, ge516_0⟩ := k52_openF hMe516
      have hv516_0 := hcc516 0 _ rfl
      rw [Nat.add_zero] at hv516_0
      replace hv516_0 := Option.some.inj (hv516_0.symm.trans zf)
      injection hv516_0 with hva_ hvn_ hvc_
      rw [hva_] at ge516_0
      rw [hvc_] at ul516_0
      have HL516_0 := Aside0.mk (show Kd.V (Kd.int .i64) 3 _ w.heap.size _ _ ((rd_T52 l0_1 qa).f0) from Kd.V_mk ul516_0 ge516_0)
      clear hva_ hvn_ hvc_ ge516_0 ul516_0
      clear hcc516 hce516
      have qQ := Aside0.mk hi516_0
      have zb := Aside0.mk hl516_0
      clear hi516_0 hl516_0
      replace p516 := eq_true p516
      replace q516 := eq_true q516
      go_wp2_with (first | ((with_reducible refine gate_dst (N := 12) rfl ?_); refine bx_ (cs := #[.slice none 0 0, .int .i64 0, .bool false]) (t := 52) ?_; intro qb hg Js hbox hb; replace qq := nE_ qq hg hb; replace qo := vE_ qo hg hb; replace qp := vE_ qp hg hb; replace qc := vE_ qc hg hb; replace HL516_0 := vE_ HL516_0 hg hb; replace qQ := cB_ qQ hb; have ql := Aside0.mk (hbox); have zT := hz_ HB hg; have zU := hz_ HB hg; replace HB := bS_ HB hb; have qW := nL_ qf hg; have qX := nG_ qf hg; replace qf := kB_ qf hb; have qY := nL_ qh hg; have qZ := nG_ qh hg; replace qh := kB_ qh hb; have q0 := nL_ qj hg; have q1 := nG_ qj hg; replace qj := kB_ qj hb; clear hb hbox hg; have ZJ := qX.out; have ZK := qW.out; have ZL := qZ.out; have ZM := qY.out; have ZN := q1.out; have ZO := q0.out; obtain ⟨Qu, Qv, Qw, Qx, Qy, Qz⟩ := b3_ ql; have p518 : 0 ≤ (a1 : Int) := od_; have q518 : a1 < (((rd_T52 l0_1 qa).f0).length : Int) := od_; obtain ⟨qm, e518, qD⟩ := Kd.at_int qQ.out a1 p518 q518; cases e518; have hn518_0 : qm.block ≠ qb := vb_ HL516_0 (by omega) (fun _ hk => hk.2) (by show 0 < 1; decide); have hn518_1 : qm.block ≠ qb := vb_ HL516_0 (by omega) (fun _ hk => hk.2) (by show 0 < 1; decide); have hn518_2 : qm.block ≠ qb := vb_ HL516_0 (by omega) (fun _ hk => hk.2) (by show 0 < 1; decide); replace qD := (cell_far (p := ⟨qb, 0, none⟩) (by first | (rw [add_block]; exact hn518_0) | (show (Addr.add _ _).block ≠ _; rw [add_block]; exact hn518_0) | exact hn518_0) (.slice (some qm) ((rd_T52 l0_1 qa).f0).length c516_0)).trans qD; replace qD := (cell_far (p := ⟨qb, 1, none⟩) (by first | (rw [add_block]; exact hn518_1) | (show (Addr.add _ _).block ≠ _; rw [add_block]; exact hn518_1) | exact hn518_1) (.int .i64 ((rd_T52 l0_1 qa).f1))).trans qD; replace qD := (cell_far (p := ⟨qb, 2, none⟩) (by first | (rw [add_block]; exact hn518_2) | (show (Addr.add _ _).block ≠ _; rw [add_block]; exact hn518_2) | exact hn518_2) (.bool ((rd_T52 l0_1 qa).f2))).trans qD; clear hn518_0; clear hn518_1; clear hn518_2; replace p518 := eq_true p518; replace q518 := eq_true q518))
      go_roundg k4
      case measure => have := HJ2.out; have := HK2.out; have := HK3.out; have := HK4.out; omega
      case rel => exact ⟨(q3), (wrap64 (qa + 1)), (qC), (by first | rfl | (simp; done) | (simp [*]; done)), H', ⟨by have := HJ2.out; have := HK2.out; have := HK3.out; have := HK4.out; omega⟩, ⟨by (with_reducible repeat (first | apply Kd.N_alloc | apply Kd.N_drewN | apply Kd.N_drew)); exact Kd.N_mono (Kd.N_far (p := ⟨qb, 2, none⟩) (Kd.N_far (p := ⟨qb, 1, none⟩) (Kd.N_far (p := ⟨qb, 0, none⟩) (Kd.N_mono qq.out (fun k_ hk => (⟨hk, hk.2⟩ : _ ∧ k_ ≠ qb))) (fun _ hk => hk.2) (.slice (some qm) ((rd_T52 l0_1 qa).f0).length c516_0)) (fun _ hk => hk.2) (.int .i64 ((rd_T52 l0_1 qa).f1))) (fun _ hk => hk.2) (.bool ((rd_T52 l0_1 qa).f2))) (fun _ hk => ⟨hk.1.1.1, ⟨hk.1.1.2.1, ⟨hk.1.1.2.2.1, hk.1.1.2.2.2⟩⟩⟩)⟩, ⟨by (with_reducible repeat (first | apply Kd.V_alloc | apply Kd.V_drewN | apply Kd.V_drew)); exact Kd.V_mono (Kd.V_far (p := ⟨qb, 2, none⟩) (Kd.V_far (p := ⟨qb, 1, none⟩) (Kd.V_far (p := ⟨qb, 0, none⟩) (Kd.V_mono qo.out (fun k_ hk => (⟨hk, hk.2⟩ : _ ∧ k_ ≠ qb))) (fun _ hk => hk.2) (.slice (some qm) ((rd_T52 l0_1 qa).f0).length c516_0)) (fun _ hk => hk.2) (.int .i64 ((rd_T52 l0_1 qa).f1))) (fun _ hk => hk.2) (.bool ((rd_T52 l0_1 qa).f2))) (fun _ hk => ⟨hk.1.1.1, ⟨hk.1.1.2.1, ⟨hk.1.1.2.2.1, ⟨hk.1.1.2.2.2.1, hk.1.1.2.2.2.2⟩⟩⟩⟩)⟩, ⟨by (with_reducible repeat (first | apply Kd.V_alloc | apply Kd.V_drewN | apply Kd.V_drew)); exact Kd.V_mono (Kd.V_far (p := ⟨qb, 2, none⟩) (Kd.V_far (p := ⟨qb, 1, none⟩) (Kd.V_far (p := ⟨qb, 0, none⟩) (Kd.V_mono qp.out (fun k_ hk => (⟨hk, hk.2⟩ : _ ∧ k_ ≠ qb))) (fun _ hk => hk.2) (.slice (some qm) ((rd_T52 l0_1 qa).f0).length c516_0)) (fun _ hk => hk.2) (.int .i64 ((rd_T52 l0_1 qa).f1))) (fun _ hk => hk.2) (.bool ((rd_T52 l0_1 qa).f2))) (fun _ hk => ⟨hk.1.1.1, ⟨hk.1.1.2.1, ⟨hk.1.1.2.2.1, ⟨hk.1.1.2.2.2.1, hk.1.1.2.2.2.2⟩⟩⟩⟩)⟩, ⟨by (with_reducible repeat (first | apply Kd.V_alloc | apply Kd.V_drewN | apply Kd.V_drew)); exact Kd.V_mono (Kd.V_far (p := ⟨qb, 2, none⟩) (Kd.V_far (p := ⟨qb, 1, none⟩) (Kd.V_far (p := ⟨qb, 0, none⟩) (Kd.V_mono qc.out (fun k_ hk => (⟨hk, hk.2⟩ : _ ∧ k_ ≠ qb))) (fun _ hk => hk.2) (.slice (some qm) ((rd_T52 l0_1 qa).f0).length c516_0)) (fun _ hk => hk.2) (.int .i64 ((rd_T52 l0_1 qa).f1))) (fun _ hk => hk.2) (.bool ((rd_T52 l0_1 qa).f2))) (fun _ hk => ⟨hk.1.1.1, ⟨hk.1.1.2.1, ⟨hk.1.1.2.2.1, ⟨hk.1.1.2.2.2.1, hk.1.1.2.2.2.2⟩⟩⟩⟩)⟩, ⟨kf_ qf⟩, ⟨kf_ qh⟩, ⟨kf_ qj⟩, ⟨bb_ HB⟩⟩
     rw [if_neg c67] at H
     have jg : decide (0 ≤ (rd ((rd_T52 l0_1 qa).f0) a1)) = false := decide_eq_false c67
     clear c67
     by_cases c73 : a1 < (((rd_T52 l0_1 qd).f0).length : Int)
     rotate_left
     ·
      rw [if_neg c73] at H
      exact absurd H (by simp)
     rw [if_pos c73] at H
     have ZP : decide (a1 < (((rd_T52 l0_1 qd).f0).length : Int)) = true := decide_eq_true c73
     clear c73
     replace H := be_ H
     obtain ⟨⟨qF, qG, qH, jh⟩, A740, H⟩ := H
     replace H : (if jh = true then (if q3.length < 3518437208883 then (impl_DropVariable.l2 k4 a1 (q3 ++ [(⟨qF, qG, qH⟩ : S52)]) l0_1 (l0_1.length : Int) qd l0_1 (l0_1.length : Int) (wrap64 (qa + 1)) a0_0 l0_1 ((rd_T52 l0_1 qd).f0) ((rd_T52 l0_1 qd).f1) ((rd_T52 l0_1 qd).f2)) else (none)) else (some (0, ([] : List (S52)), false))) = some (r1, r2, r3) := H
     have A74 := Aside0.mk A740
     clear A740
     by_cases c75 : jh = true
     rotate_left
     ·
      replace c75 := Bool.eq_false_iff.mpr c75
      subst c75
      have H1 : (some (0, ([] : List (S52)), false)) = some (r1, r2, r3) := by rw [if_neg (show ¬ (false = true) by decide)] at H; exact H
      clear H
      have H := H1
      clear H1
      simp only [Option.some.injEq, Prod.mk.injEq] at H
      obtain ⟨rfl, rfl, rfl⟩ := H
      have p516 : 0 ≤ (qa : Int) := od_
      have q516 : qa < (l0_1.length : Int) := od_
      obtain ⟨zs, zB, c516_0, e516, zf, zw, zx, hl516_0, hi516_0⟩ := at_T52 (Kd.V_reads' qp.out).2.2 qa p516 q516
      obtain rfl : qx = zs := (by injection e516)
      obtain ⟨ce516, hce516, hMe516, hcc516⟩ := Kd.V_get qp.out z52 qa p516 (by first | exact q516 | exact od_ | (have e_ := (Kd.V_reads' qp.out).1; omega))
      obtain ⟨ua516_0, uc516_0, rfl, ul516_0, ge516_0⟩ := k52_openF hMe516
      have hv516_0 := hcc516 0 _ rfl
      rw [Nat.add_zero] at hv516_0
      replace hv516_0 := Option.some.inj (hv516_0.symm.trans zf)
      injection hv516_0 with hva_ hvn_ hvc_
      rw [hva_] at ge516_0
      rw [hvc_] at ul516_0
      have HL516_0 := Aside0.mk (show Kd.V (Kd.int .i64) 3 _ w.heap.size _ _ ((rd_T52 l0_1 qa).f0) from Kd.V_mk ul516_0 ge516_0)
      clear hva_ hvn_ hvc_ ge516_0 ul516_0
      clear hcc516 hce516
      have qQ := Aside0.mk hi516_0
      have zb := Aside0.mk hl516_0
      clear hi516_0 hl516_0
      replace p516 := eq_true p516
      replace q516 := eq_true q516
      try go_wp2_with (first | ((with_reducible refine gate_dst (N := 12) rfl ?_); refine bx_ (cs := #[.slice none 0 0, .int .i64 0, .bool false]) (t := 52) ?_; intro qb hg zC hbox hb; replace qq := nE_ qq hg hb; replace qo := vE_ qo hg hb; replace qp := vE_ qp hg hb; replace qc := vE_ qc hg hb; replace HL516_0 := vE_ HL516_0 hg hb; replace qQ := cB_ qQ hb; have ql := Aside0.mk (hbox); have zT := hz_ HB hg; have zU := hz_ HB hg; replace HB := bS_ HB hb; have qW := nL_ qf hg; have qX := nG_ qf hg; replace qf := kB_ qf hb; have qY := nL_ qh hg; have qZ := nG_ qh hg; replace qh := kB_ qh hb; have q0 := nL_ qj hg; have q1 := nG_ qj hg; replace qj := kB_ qj hb; clear hb hbox hg; have ZQ := qX.out; have ZR := qW.out; have QO := qZ.out; have QP := qY.out; have QQ := q1.out; have QR := q0.out; obtain ⟨ji, jj, jk, jl, jm, jn⟩ := b3_ ql; have p518 : 0 ≤ (a1 : Int) := od_; have q518 : a1 < (((rd_T52 l0_1 qa).f0).length : Int) := od_; obtain ⟨qm, e518, qD⟩ := Kd.at_int qQ.out a1 p518 q518; cases e518; have hn518_0 : qm.block ≠ qb := vb_ HL516_0 (by omega) (fun _ hk => hk.2) (by show 0 < 1; decide); have hn518_1 : qm.block ≠ qb := vb_ HL516_0 (by omega) (fun _ hk => hk.2) (by show 0 < 1; decide); have hn518_2 : qm.block ≠ qb := vb_ HL516_0 (by omega) (fun _ hk => hk.2) (by show 0 < 1; decide); replace qD := (cell_far (p := ⟨qb, 0, none⟩) (by first | (rw [add_block]; exact hn518_0) | (show (Addr.add _ _).block ≠ _; rw [add_block]; exact hn518_0) | exact hn518_0) (.slice (some qm) ((rd_T52 l0_1 qa).f0).length c516_0)).trans qD; replace qD := (cell_far (p := ⟨qb, 1, none⟩) (by first | (rw [add_block]; exact hn518_1) | (show (Addr.add _ _).block ≠ _; rw [add_block]; exact hn518_1) | exact hn518_1) (.int .i64 ((rd_T52 l0_1 qa).f1))).trans qD; replace qD := (cell_far (p := ⟨qb, 2, none⟩) (by first | (rw [add_block]; exact hn518_2) | (show (Addr.add _ _).block ≠ _; rw [add_block]; exact hn518_2) | exact hn518_2) (.bool ((rd_T52 l0_1 qa).f2))).trans qD; clear hn518_0; clear hn518_1; clear hn518_2; replace p518 := eq_true p518; replace q518 := eq_true q518))
      have n0_ : Aside0 (Kd.N k52 52 (((zC.setCell ⟨qb, 0, none⟩ (.slice (some qm) ((rd_T52 l0_1 qa).f0).length c516_0)).setCell ⟨qb, 1, none⟩ (.int .i64 ((rd_T52 l0_1 qa).f1))).setCell ⟨qb, 2, none⟩ (.bool ((rd_T52 l0_1 qa).f2))) w.heap.size (fun k_ => (P0_1_ k_ ∨ w.heap.size ≤ k_) ∧ k_ ≠ qk ∧ k_ ≠ qi ∧ k_ ≠ qg ∧ k_ ≠ qb) u6 q3) := ⟨by (with_reducible repeat (first | apply Kd.N_alloc | apply Kd.N_drewN | apply Kd.N_drew)); exact Kd.N_mono (Kd.N_far (p := ⟨qb, 2, none⟩) (Kd.N_far (p := ⟨qb, 1, none⟩) (Kd.N_far (p := ⟨qb, 0, none⟩) (Kd.N_mono qq.out (fun k_ hk => (⟨hk, hk.2⟩ : _ ∧ k_ ≠ qb))) (fun _ hk => hk.2) (.slice (some qm) ((rd_T52 l0_1 qa).f0).length c516_0)) (fun _ hk => hk.2) (.int .i64 ((rd_T52 l0_1 qa).f1))) (fun _ hk => hk.2) (.bool ((rd_T52 l0_1 qa).f2))) (fun _ hk => ⟨hk.1.1.1, ⟨hk.1.1.2.1, ⟨hk.1.1.2.2.1, ⟨hk.1.1.2.2.2, hk.1.2⟩⟩⟩⟩)⟩
      have n1_ : Aside0 (Kd.V k52 52 (((zC.setCell ⟨qb, 0, none⟩ (.slice (some qm) ((rd_T52 l0_1 qa).f0).length c516_0)).setCell ⟨qb, 1, none⟩ (.int .i64 ((rd_T52 l0_1 qa).f1))).setCell ⟨qb, 2, none⟩ (.bool ((rd_T52 l0_1 qa).f2))) w.heap.size (fun k_ => (P0_1_ k_ ∨ w.heap.size ≤ k_) ∧ some k_ ≠ (u6 : Value).ownBlock ∧ k_ ≠ qk ∧ k_ ≠ qi ∧ k_ ≠ qg ∧ k_ ≠ qb) (.slice (some qx) l0_1.length c0_1) l0_1) := ⟨by (with_reducible repeat (first | apply Kd.V_alloc | apply Kd.V_drewN | apply Kd.V_drew)); exact Kd.V_mono (Kd.V_far (p := ⟨qb, 2, none⟩) (Kd.V_far (p := ⟨qb, 1, none⟩) (Kd.V_far (p := ⟨qb, 0, none⟩) (Kd.V_mono qo.out (fun k_ hk => (⟨hk, hk.2⟩ : _ ∧ k_ ≠ qb))) (fun _ hk => hk.2) (.slice (some qm) ((rd_T52 l0_1 qa).f0).length c516_0)) (fun _ hk => hk.2) (.int .i64 ((rd_T52 l0_1 qa).f1))) (fun _ hk => hk.2) (.bool ((rd_T52 l0_1 qa).f2))) (fun _ hk => ⟨hk.1.1.1, ⟨hk.1.1.2.1, ⟨hk.1.1.2.2.1, ⟨hk.1.1.2.2.2.1, ⟨hk.1.1.2.2.2.2, hk.1.2⟩⟩⟩⟩⟩)⟩
      have n2_ : Aside0 (Kd.V k52 52 (((zC.setCell ⟨qb, 0, none⟩ (.slice (some qm) ((rd_T52 l0_1 qa).f0).length c516_0)).setCell ⟨qb, 1, none⟩ (.int .i64 ((rd_T52 l0_1 qa).f1))).setCell ⟨qb, 2, none⟩ (.bool ((rd_T52 l0_1 qa).f2))) w.heap.size (fun k_ => (P0_1_ k_ ∨ w.heap.size ≤ k_) ∧ some k_ ≠ (u6 : Value).ownBlock ∧ k_ ≠ qk ∧ k_ ≠ qi ∧ k_ ≠ qg ∧ k_ ≠ qb) (.slice (some qx) l0_1.length c0_1) l0_1) := ⟨by (with_reducible repeat (first | apply Kd.V_alloc | apply Kd.V_drewN | apply Kd.V_drew)); exact Kd.V_mono (Kd.V_far (p := ⟨qb, 2, none⟩) (Kd.V_far (p := ⟨qb, 1, none⟩) (Kd.V_far (p := ⟨qb, 0, none⟩) (Kd.V_mono qp.out (fun k_ hk => (⟨hk, hk.2⟩ : _ ∧ k_ ≠ qb))) (fun _ hk => hk.2) (.slice (some qm) ((rd_T52 l0_1 qa).f0).length c516_0)) (fun _ hk => hk.2) (.int .i64 ((rd_T52 l0_1 qa).f1))) (fun _ hk => hk.2) (.bool ((rd_T52 l0_1 qa).f2))) (fun _ hk => ⟨hk.1.1.1, ⟨hk.1.1.2.1, ⟨hk.1.1.2.2.1, ⟨hk.1.1.2.2.2.1, ⟨hk.1.1.2.2.2.2, hk.1.2⟩⟩⟩⟩⟩)⟩
      have n3_ : Aside0 (Kd.V k52 52 (((zC.setCell ⟨qb, 0, none⟩ (.slice (some qm) ((rd_T52 l0_1 qa).f0).length c516_0)).setCell ⟨qb, 1, none⟩ (.int .i64 ((rd_T52 l0_1 qa).f1))).setCell ⟨qb, 2, none⟩ (.bool ((rd_T52 l0_1 qa).f2))) w.heap.size (fun k_ => (P0_1_ k_ ∨ w.heap.size ≤ k_) ∧ some k_ ≠ (u6 : Value).ownBlock ∧ k_ ≠ qk ∧ k_ ≠ qi ∧ k_ ≠ qg ∧ k_ ≠ qb) (.slice (some qx) l0_1.length c0_1) l0_1) := ⟨by (with_reducible repeat (first | apply Kd.V_alloc | apply Kd.V_drewN | apply Kd.V_drew)); exact Kd.V_mono (Kd.V_far (p := ⟨qb, 2, none⟩) (Kd.V_far (p := ⟨qb, 1, none⟩) (Kd.V_far (p := ⟨qb, 0, none⟩) (Kd.V_mono qc.out (fun k_ hk => (⟨hk, hk.2⟩ : _ ∧ k_ ≠ qb))) (fun _ hk => hk.2) (.slice (some qm) ((rd_T52 l0_1 qa).f0).length c516_0)) (fun _ hk => hk.2) (.int .i64 ((rd_T52 l0_1 qa).f1))) (fun _ hk => hk.2) (.bool ((rd_T52 l0_1 qa).f2))) (fun _ hk => ⟨hk.1.1.1, ⟨hk.1.1.2.1, ⟨hk.1.1.2.2.1, ⟨hk.1.1.2.2.2.1, ⟨hk.1.1.2.2.2.2, hk.1.2⟩⟩⟩⟩⟩)⟩
      have n4_ : Aside0 (Kd.V (Kd.int .i64) 3 (((zC.setCell ⟨qb, 0, none⟩ (.slice (some qm) ((rd_T52 l0_1 qa).f0).length c516_0)).setCell ⟨qb, 1, none⟩ (.int .i64 ((rd_T52 l0_1 qa).f1))).setCell ⟨qb, 2, none⟩ (.bool ((rd_T52 l0_1 qa).f2))) w.heap.size (fun k_ => (P0_1_ k_ ∨ w.heap.size ≤ k_) ∧ some k_ ≠ (u6 : Value).ownBlock ∧ k_ ≠ qk ∧ k_ ≠ qi ∧ k_ ≠ qg ∧ k_ ≠ qb) (.slice (some qm) ((rd_T52 l0_1 qa).f0).length c516_0) ((rd_T52 l0_1 qa).f0)) := ⟨by (with_reducible repeat (first | apply Kd.V_alloc | apply Kd.V_drewN | apply Kd.V_drew)); exact Kd.V_mono (Kd.V_far (p := ⟨qb, 2, none⟩) (Kd.V_far (p := ⟨qb, 1, none⟩) (Kd.V_far (p := ⟨qb, 0, none⟩) (Kd.V_mono HL516_0.out (fun k_ hk => (⟨hk, hk.2⟩ : _ ∧ k_ ≠ qb))) (fun _ hk => hk.2) (.slice (some qm) ((rd_T52 l0_1 qa).f0).length c516_0)) (fun _ hk => hk.2) (.int .i64 ((rd_T52 l0_1 qa).f1))) (fun _ hk => hk.2) (.bool ((rd_T52 l0_1 qa).f2))) (fun _ hk => ⟨hk.1.1.1, ⟨hk.1.1.2.1, ⟨hk.1.1.2.2.1, ⟨hk.1.1.2.2.2.1, ⟨hk.1.1.2.2.2.2, hk.1.2⟩⟩⟩⟩⟩)⟩
      have n5_ : Aside0 ((((zC.setCell ⟨qb, 0, none⟩ (.slice (some qm) ((rd_T52 l0_1 qa).f0).length c516_0)).setCell ⟨qb, 1, none⟩ (.int .i64 ((rd_T52 l0_1 qa).f1))).setCell ⟨qb, 2, none⟩ (.bool ((rd_T52 l0_1 qa).f2))).heap[qk]? = some (.cells #[.int .i64 a0_0, .slice (some qx) l0_1.length c0_1] 28 (0, 0))) := ⟨kf_ qf⟩
      have n6_ : Aside0 ((((zC.setCell ⟨qb, 0, none⟩ (.slice (some qm) ((rd_T52 l0_1 qa).f0).length c516_0)).setCell ⟨qb, 1, none⟩ (.int .i64 ((rd_T52 l0_1 qa).f1))).setCell ⟨qb, 2, none⟩ (.bool ((rd_T52 l0_1 qa).f2))).heap[qi]? = some (.cells #[.int .i64 qC, .slice none 0 0] 28 (0, 0))) := ⟨kf_ qh⟩
      have n7_ : Aside0 ((((zC.setCell ⟨qb, 0, none⟩ (.slice (some qm) ((rd_T52 l0_1 qa).f0).length c516_0)).setCell ⟨qb, 1, none⟩ (.int .i64 ((rd_T52 l0_1 qa).f1))).setCell ⟨qb, 2, none⟩ (.bool ((rd_T52 l0_1 qa).f2))).heap[qg]? = some (.cells #[.slice (some qu) ((rd_T52 l0_1 qd).f0).length c513_0, .int .i64 ((rd_T52 l0_1 qd).f1), .bool ((rd_T52 l0_1 qd).f2)] 52 (0, 0))) := ⟨kf_ qj⟩
      have n8_ : Aside0 ((((zC.setCell ⟨qb, 0, none⟩ (.slice (some qm) ((rd_T52 l0_1 qa).f0).length c516_0)).setCell ⟨qb, 1, none⟩ (.int .i64 ((rd_T52 l0_1 qa).f1))).setCell ⟨qb, 2, none⟩ (.bool ((rd_T52 l0_1 qa).f2))).heap[qb]? = some (.cells #[.slice (some qm) ((rd_T52 l0_1 qa).f0).length c516_0, .int .i64 ((rd_T52 l0_1 qa).f1), .bool ((rd_T52 l0_1 qa).f2)] 52 (0, 0))) := ⟨kp_ ql⟩
      have n9_ : Aside0 (Below w.heap.size w (((zC.setCell ⟨qb, 0, none⟩ (.slice (some qm) ((rd_T52 l0_1 qa).f0).length c516_0)).setCell ⟨qb, 1, none⟩ (.int .i64 ((rd_T52 l0_1 qa).f1))).setCell ⟨qb, 2, none⟩ (.bool ((rd_T52 l0_1 qa).f2)))) := ⟨bb_ HB⟩
      generalize (((zC.setCell ⟨qb, 0, none⟩ (.slice (some qm) ((rd_T52 l0_1 qa).f0).length c516_0)).setCell ⟨qb, 1, none⟩ (.int .i64 ((rd_T52 l0_1 qa).f1))).setCell ⟨qb, 2, none⟩ (.bool ((rd_T52 l0_1 qa).f2))) = QS at n0_ n1_ n2_ n3_ n4_ n5_ n6_ n7_ n8_ n9_ ⊢
      have qq := n0_
      have qo := n1_
      have qp := n2_
      have qc := n3_
      have HL516_0 := n4_
      have qf := n5_
      have qh := n6_
      have qj := n7_
      have ql := n8_
      have HB := n9_
      clear n0_ n1_ n2_ n3_ n4_ n5_ n6_ n7_ n8_ n9_
      replace qq := Aside0.mk (Kd.N_drew qq.out); replace qo := Aside0.mk (Kd.V_drew qo.out); replace qp := Aside0.mk (Kd.V_drew qp.out); replace qc := Aside0.mk (Kd.V_drew qc.out); replace HL516_0 := Aside0.mk (Kd.V_drew HL516_0.out); replace qf := Aside0.mk (blk_drew qf.out); replace qh := Aside0.mk (blk_drew qh.out); replace qj := Aside0.mk (blk_drew qj.out); replace ql := Aside0.mk (blk_drew ql.out); replace HB := Aside0.mk (below_drew1 HB.out)
      have p519 : 0 ≤ (a1 : Int) := od_
      have q519 : a1 < (((rd_T52 l0_1 qa).f0).length : Int) := od_
      obtain ⟨zD, e519, zg⟩ := Kd.at_int ((Kd.V_reads' HL516_0.out).2.2) a1 p519 q519
      obtain rfl : qm = zD := (by injection e519)
      replace p519 := eq_true p519
      replace q519 := eq_true q519
      have p520 : 0 ≤ (a1 : Int) := od_
      have q520 : a1 < (((rd_T52 l0_1 qd).f0).length : Int) := od_
      obtain ⟨zE, e520, qS⟩ := Kd.at_int qI.out a1 p520 q520
      have hw520_0 := qS
      obtain rfl : qu = zE := (by injection e520)
      replace qS := ct_ HB qS
      replace p520 := eq_true p520
      replace q520 := eq_true q520
      refine start_ (n := 20) (S := fun w' => w'.cell? ⟨qg, 0, none⟩ = some (.slice (some qu) ((rd_T52 l0_1 qd).f0).length c513_0) ∧ w'.cell? ⟨qg, 1, none⟩ = some (.int .i64 ((rd_T52 l0_1 qd).f1)) ∧ w'.cell? ⟨qg, 2, none⟩ = some (.bool ((rd_T52 l0_1 qd).f2)) ∧ w'.cell? ⟨qb, 0, none⟩ = some (.slice (some qm) ((rd_T52 l0_1 qa).f0).length c516_0) ∧ w'.cell? ⟨qb, 1, none⟩ = some (.int .i64 ((rd_T52 l0_1 qa).f1)) ∧ w'.cell? ⟨qb, 2, none⟩ = some (.bool ((rd_T52 l0_1 qa).f2)) ∧ w'.cell? (qm.add (a1).toNat) = some (.int .i64 (rd ((rd_T52 l0_1 qa).f0) a1)) ∧ w'.cell? (qu.add (a1).toNat) = some (.int .i64 (rd ((rd_T52 l0_1 qd).f0) a1))) (ds := []) (fl_ 20 0) (by kernel_rfl) rfl rfl ⟨bc_ qj 0, bc_ qj 1, bc_ qj 2, bc_ ql 0, bc_ ql 1, bc_ ql 2, zg, (ct_ HB hw520_0 :)⟩ (fun hHeld => ?_); refine with_tabW impl_DropVariable.tab18 impl_DropVariable.bits18 (fun HT_ HW_ => ?_)
      generalize QS.drew = Jf at qq qo qp qc HL516_0 qf qh qj ql HB zg qS hHeld ⊢
      refine pX_ 1 (some 76) (fl_ 20 2) HT_ ?_
      refine pX_ 3 (some 78) (fl_ 20 10) HT_ ?_
      refine pX_ 8 (some 83) (fl_ 20 266) HT_ ?_
      refine pX_ 10 (some 85) (fl_ 20 1290) HT_ ?_
      refine tX_ 0 (some 75) (fl_ 20 1291) rfl rfl HT_ HW_ hHeld (by rintro w' ⟨s0, s1, s2, s3, s4, s5, s6, s7⟩; go_simp; with_reducible rfl) ?_
      refine tX_ 2 (some 77) (fl_ 20 1295) rfl rfl HT_ HW_ hHeld (by rintro w' ⟨s0, s1, s2, s3, s4, s5, s6, s7⟩; go_simp; with_reducible rfl) ?_
      refine pX_ 4 (some 79) (fl_ 20 1311) HT_ ?_
      refine tX_ 5 (some 80) (fl_ 20 1343) rfl rfl HT_ HW_ hHeld (by rintro w' ⟨s0, s1, s2, s3, s4, s5, s6, s7⟩; go_simp; with_reducible rfl) ?_
      refine pX_ 6 (some 81) (fl_ 20 1407) HT_ ?_
      refine tX_ 7 (some 82) (fl_ 20 1535) rfl rfl HT_ HW_ hHeld (by rintro w' ⟨s0, s1, s2, s3, s4, s5, s6, s7⟩; go_simp; with_reducible rfl) ?_
      refine tX_ 9 (some 84) (fl_ 20 2047) rfl rfl HT_ HW_ hHeld (by rintro w' ⟨s0, s1, s2, s3, s4, s5, s6, s7⟩; go_simp; with_reducible rfl) ?_
      refine pX_ 11 (some 86) (fl_ 20 4095) HT_ ?_
      refine tX_ 12 (some 87) (fl_ 20 8191) rfl rfl HT_ HW_ hHeld (by rintro w' ⟨s0, s1, s2, s3, s4, s5, s6, s7⟩; go_simp; with_reducible rfl) ?_
      refine join_ (σ := Value × Nat) 2 (fl_ 20 262143) (fun s_ => [(88, .tuple #[.agg #[s_.1, .int .i64 qG, .bool qH], .bool false]), (13, .pointer (some ⟨s_.2, 0, none⟩)), (74, .tuple #[.agg #[s_.1, .int .i64 qG, .bool qH], .bool false]), (89, .agg #[s_.1, .int .i64 qG, .bool qH]), (90, .bool false)]) (fun s_ w' => (w'.cell? ⟨qg, 0, none⟩ = some (.slice (some qu) ((rd_T52 l0_1 qd).f0).length c513_0) ∧ w'.cell? ⟨qg, 1, none⟩ = some (.int .i64 ((rd_T52 l0_1 qd).f1)) ∧ w'.cell? ⟨qg, 2, none⟩ = some (.bool ((rd_T52 l0_1 qd).f2)) ∧ w'.cell? ⟨qb, 0, none⟩ = some (.slice (some qm) ((rd_T52 l0_1 qa).f0).length c516_0) ∧ w'.cell? ⟨qb, 1, none⟩ = some (.int .i64 ((rd_T52 l0_1 qa).f1)) ∧ w'.cell? ⟨qb, 2, none⟩ = some (.bool ((rd_T52 l0_1 qa).f2)) ∧ w'.cell? (qm.add (a1).toNat) = some (.int .i64 (rd ((rd_T52 l0_1 qa).f0) a1)) ∧ w'.cell? (qu.add (a1).toNat) = some (.int .i64 (rd ((rd_T52 l0_1 qd).f0) a1))) ∧ (Kd.V (Kd.int .i64) 3 w' w.heap.size (fun k_ => (P0_1_ k_ ∨ w.heap.size ≤ k_) ∧ some k_ ≠ (s_.1 : Value).ownBlock ∧ some k_ ≠ (u6 : Value).ownBlock ∧ k_ ≠ qk ∧ k_ ≠ qi ∧ k_ ≠ qg ∧ k_ ≠ qb ∧ k_ ≠ s_.2) (.slice (some qm) ((rd_T52 l0_1 qa).f0).length c516_0) ((rd_T52 l0_1 qa).f0)) ∧ (Kd.R (Kd.int .i64) 3 w' w.heap.size (fun k_ => (w.heap.size ≤ k_)) s_.1 qF) ∧ (Kd.V k52 52 w' w.heap.size (fun k_ => (P0_1_ k_ ∨ w.heap.size ≤ k_) ∧ some k_ ≠ (s_.1 : Value).ownBlock ∧ some k_ ≠ (u6 : Value).ownBlock ∧ k_ ≠ qk ∧ k_ ≠ qi ∧ k_ ≠ qg ∧ k_ ≠ qb ∧ k_ ≠ s_.2) (.slice (some qx) l0_1.length c0_1) l0_1) ∧ (Kd.V k52 52 w' w.heap.size (fun k_ => (P0_1_ k_ ∨ w.heap.size ≤ k_) ∧ some k_ ≠ (s_.1 : Value).ownBlock ∧ some k_ ≠ (u6 : Value).ownBlock ∧ k_ ≠ qk ∧ k_ ≠ qi ∧ k_ ≠ qg ∧ k_ ≠ qb ∧ k_ ≠ s_.2) (.slice (some qx) l0_1.length c0_1) l0_1) ∧ (Kd.N k52 52 w' w.heap.size (fun k_ => (P0_1_ k_ ∨ w.heap.size ≤ k_) ∧ some k_ ≠ (s_.1 : Value).ownBlock ∧ k_ ≠ qk ∧ k_ ≠ qi ∧ k_ ≠ qg ∧ k_ ≠ qb ∧ k_ ≠ s_.2) u6 q3) ∧ (Kd.V k52 52 w' w.heap.size (fun k_ => (P0_1_ k_ ∨ w.heap.size ≤ k_) ∧ some k_ ≠ (s_.1 : Value).ownBlock ∧ some k_ ≠ (u6 : Value).ownBlock ∧ k_ ≠ qk ∧ k_ ≠ qi ∧ k_ ≠ qg ∧ k_ ≠ qb ∧ k_ ≠ s_.2) (.slice (some qx) l0_1.length c0_1) l0_1) ∧ (w'.heap[qk]? = some (.cells #[.int .i64 a0_0, .slice (some qx) l0_1.length c0_1] 28 (0, 0))) ∧ (w'.heap[qi]? = some (.cells #[.int .i64 qC, .slice none 0 0] 28 (0, 0))) ∧ (w'.heap[qg]? = some (.cells #[.slice (some qu) ((rd_T52 l0_1 qd).f0).length c513_0, .int .i64 ((rd_T52 l0_1 qd).f1), .bool ((rd_T52 l0_1 qd).f2)] 52 (0, 0))) ∧ (w'.heap[qb]? = some (.cells #[.slice (some qm) ((rd_T52 l0_1 qa).f0).length c516_0, .int .i64 ((rd_T52 l0_1 qa).f1), .bool ((rd_T52 l0_1 qa).f2)] 52 (0, 0))) ∧ (w'.heap[s_.2]? = some (.cells #[.slice none 0 0, .int .i64 0, .bool false] 52 (0, 0))) ∧ (w.heap.size ≤ s_.2) ∧ (w.heap.size ≤ s_.2) ∧ (qk ≠ s_.2) ∧ (s_.2 ≠ qk) ∧ (qi ≠ s_.2) ∧ (s_.2 ≠ qi) ∧ (qg ≠ s_.2) ∧ (s_.2 ≠ qg) ∧ (qb ≠ s_.2) ∧ (s_.2 ≠ qb) ∧ (Below w.heap.size w w')) ?_ ?_
      rotate_left
      ·
       intro hCont
       refine two_ (i := 13) (j := 17) (Ni := some 88) (Nj := some 13) (fl_ 20 16383) (fl_ 20 139263) rfl rfl rfl rfl (two_of HT_.out (by kernel_rfl)) (by decide) (by decide) (fun K hK => ?_) (fun K hK => ?_)
       ·
        skip
        refine goes_ Try.func67 (by kernel_rfl) rfl #[.agg #[.slice (some qu) ((rd_T52 l0_1 qd).f0).length c513_0, .int .i64 ((rd_T52 l0_1 qd).f1), .bool ((rd_T52 l0_1 qd).f2)], .int .i64 (wrap64 (-(rd ((rd_T52 l0_1 qa).f0) a1))), .agg #[.slice (some qm) ((rd_T52 l0_1 qa).f0).length c516_0, .int .i64 ((rd_T52 l0_1 qa).f1), .bool ((rd_T52 l0_1 qa).f2)], .int .i64 (rd ((rd_T52 l0_1 qd).f0) a1)] (by rfl) rfl rfl (by (try simp only [List.map_toArray, List.map_cons, List.map_nil]); first | done | rfl | (simp only [List.length_drop, List.length_take]; rfl)) ?_
        with_reducible refine (impl_MixAtoms.calls k4 _ _ ((rd_T52 l0_1 qd).f0) ((rd_T52 l0_1 qd).f1) ((rd_T52 l0_1 qd).f2) (wrap64 (-(rd ((rd_T52 l0_1 qa).f0) a1))) _ _ ((rd_T52 l0_1 qa).f0) ((rd_T52 l0_1 qa).f1) ((rd_T52 l0_1 qa).f2) (rd ((rd_T52 l0_1 qd).f0) a1) qF qG qH false _ ?side1 ?side2 ?side3 ?side4 A74.out).mono ?_
        (case side1 => exact cb_ qI HB)
        (case side2 => exact ze.out)
        (case side3 => repeat (first | exact ((Kd.V_reads' HL516_0.out).2.2) | (with_reducible refine Kd.C_alloc ?_ _) | (with_reducible refine Kd.C_drewN ?_ _) | (with_reducible refine Kd.C_drew ?_)))
        (case side4 => exact zb.out)
        rintro e QT ⟨qU, rfl, ho0, hb⟩
        have HS6_ := (hb.cell (World.block_lt_of_cell? _ _ (hHeld.2.2.2.2.2.2.1))).trans (hHeld.2.2.2.2.2.2.1)
        refine ⟨_, rfl, ?_⟩
        replace qq := Aside0.mk (Kd.N_elder' (nm_ qq) (Kd.R_base ho0) hb); replace qo := Aside0.mk (Kd.V_elder' (vm_ qo) (Kd.R_base ho0) hb); replace qp := Aside0.mk (Kd.V_elder' (vm_ qp) (Kd.R_base ho0) hb); replace qc := Aside0.mk (Kd.V_elder' (vm_ qc) (Kd.R_base ho0) hb); replace HL516_0 := Aside0.mk (Kd.V_elder' (vm_ HL516_0) (Kd.R_base ho0) hb); have qO := Aside0.mk (Kd.R_lower (Kd.R_newM (M := fun k_ => (w.heap.size ≤ k_)) ho0 (bz_ HB) (fun k_ h_ => h_)) (bz_ HB)); replace qf := kB_ qf hb; replace qh := kB_ qh hb; replace qj := kB_ qj hb; replace ql := kB_ ql hb; replace HB := bS_ HB hb; (try clear hb); (try clear hb2); (try clear hk); (try clear hi); (try clear ho0)
        refine hK.out _ _ ⟨bc_ qj 0, bc_ qj 1, bc_ qj 2, bc_ ql 0, bc_ ql 1, bc_ ql 2, HS6_, (ct_ HB hw520_0 :)⟩ (fun hHeld => ?_)
        clear hK K
        refine norm_ (a' := ?_) ?_ ?_
        rotate_left
        ·
         show Act.put _ (some 88) _ = _
         simp only [Act.put, sa_, s0_, s1_, i64_w, i32_w]
         rfl
        refine pX_ 14 (some 74) (fl_ 20 32767) HT_ ?_
        refine pX_ 15 (some 89) (fl_ 20 65535) HT_ ?_
        refine pX_ 16 (some 90) (fl_ 20 131071) HT_ ?_
        refine one_ (i := 17) (N := some 13) (fl_ 20 262143) rfl rfl (one_of HT_.out (by kernel_rfl)) (by decide) (fun K hK => ?_)
        refine box_step ?hg (N := 13) ?hd (cs := #[.slice none 0 0, .int .i64 0, .bool false]) (t := 52) ?hr ?_; (case hd => rfl); (case hg => rfl); (case hr => first | (go_simp; done) | (go_simp; rfl))
        intro qe hg QU hbox hb
        have HS6_ := (hb.cell (World.block_lt_of_cell? _ _ (hHeld.2.2.2.2.2.2.1))).trans (hHeld.2.2.2.2.2.2.1)
        replace qq := nE_ qq hg hb; replace qo := vE_ qo hg hb; replace qp := vE_ qp hg hb; replace qc := vE_ qc hg hb; replace HL516_0 := vE_ HL516_0 hg hb; replace qO := rB_ qO hb; have qE := Aside0.mk (hbox); have q7 := hz_ HB hg; have zh := hz_ HB hg; replace HB := bS_ HB hb; have qy := nL_ qf hg; have qz := nG_ qf hg; replace qf := kB_ qf hb; have qv := nL_ qh hg; have qw := nG_ qh hg; replace qh := kB_ qh hb; have qr := nL_ qj hg; have qA := nG_ qj hg; replace qj := kB_ qj hb; have qs := nL_ ql hg; have qB := nG_ ql hg; replace ql := kB_ ql hb; clear hb hbox hg
        refine hK.out _ _ ⟨bc_ qj 0, bc_ qj 1, bc_ qj 2, bc_ ql 0, bc_ ql 1, bc_ ql 2, HS6_, (ct_ HB hw520_0 :)⟩ (fun hHeld => ?_)
        clear hK K
        refine norm_ (a' := ?_) ?_ ?_
        rotate_left
        ·
         show Act.put _ (some 13) _ = _
         simp only [Act.put, sa_, s0_, s1_, i64_w, i32_w]
         rfl
        exact norm_ (by simp only [putAll, Act.put, List.setIfInBounds_toArray, List.set_cons_zero, List.set_cons_succ]) (hCont (qU, qe) _ ⟨hHeld, (by (with_reducible repeat (first | apply Kd.V_alloc | apply Kd.V_drewN | apply Kd.V_drew)); exact Kd.V_mono HL516_0.out (fun _ hk => ⟨hk.1.1.1, ⟨hk.1.2, ⟨hk.1.1.2.1, ⟨hk.1.1.2.2.1, ⟨hk.1.1.2.2.2.1, ⟨hk.1.1.2.2.2.2.1, ⟨hk.1.1.2.2.2.2.2, hk.2⟩⟩⟩⟩⟩⟩⟩)), (by (with_reducible repeat (first | apply Kd.R_alloc | apply Kd.R_drewN | apply Kd.R_drew)); exact Kd.R_mono qO.out (fun _ hk => hk.1)), (by (with_reducible repeat (first | apply Kd.V_alloc | apply Kd.V_drewN | apply Kd.V_drew)); exact Kd.V_mono qo.out (fun _ hk => ⟨hk.1.1.1, ⟨hk.1.2, ⟨hk.1.1.2.1, ⟨hk.1.1.2.2.1, ⟨hk.1.1.2.2.2.1, ⟨hk.1.1.2.2.2.2.1, ⟨hk.1.1.2.2.2.2.2, hk.2⟩⟩⟩⟩⟩⟩⟩)), (by (with_reducible repeat (first | apply Kd.V_alloc | apply Kd.V_drewN | apply Kd.V_drew)); exact Kd.V_mono qc.out (fun _ hk => ⟨hk.1.1.1, ⟨hk.1.2, ⟨hk.1.1.2.1, ⟨hk.1.1.2.2.1, ⟨hk.1.1.2.2.2.1, ⟨hk.1.1.2.2.2.2.1, ⟨hk.1.1.2.2.2.2.2, hk.2⟩⟩⟩⟩⟩⟩⟩)), (by (with_reducible repeat (first | apply Kd.N_alloc | apply Kd.N_drewN | apply Kd.N_drew)); exact Kd.N_mono qq.out (fun _ hk => ⟨hk.1.1.1, ⟨hk.1.2, ⟨hk.1.1.2.1, ⟨hk.1.1.2.2.1, ⟨hk.1.1.2.2.2.1, ⟨hk.1.1.2.2.2.2, hk.2⟩⟩⟩⟩⟩⟩)), (by (with_reducible repeat (first | apply Kd.V_alloc | apply Kd.V_drewN | apply Kd.V_drew)); exact Kd.V_mono qp.out (fun _ hk => ⟨hk.1.1.1, ⟨hk.1.2, ⟨hk.1.1.2.1, ⟨hk.1.1.2.2.1, ⟨hk.1.1.2.2.2.1, ⟨hk.1.1.2.2.2.2.1, ⟨hk.1.1.2.2.2.2.2, hk.2⟩⟩⟩⟩⟩⟩⟩)), (kf_ qf), (kf_ qh), (kf_ qj), (kf_ ql), (kf_ qE), q7.out, zh.out, qy.out, qz.out, qv.out, qw.out, qr.out, qA.out, qs.out, qB.out, (bb_ HB)⟩)
       skip
       refine box_step ?hg (N := 13) ?hd (cs := #[.slice none 0 0, .int .i64 0, .bool false]) (t := 52) ?hr ?_; (case hd => rfl); (case hg => rfl); (case hr => first | (go_simp; done) | (go_simp; rfl))
       intro qe hg QT hbox hb
       have HS6_ := (hb.cell (World.block_lt_of_cell? _ _ (hHeld.2.2.2.2.2.2.1))).trans (hHeld.2.2.2.2.2.2.1)
       replace qq := nE_ qq hg hb; replace qo := vE_ qo hg hb; replace qp := vE_ qp hg hb; replace qc := vE_ qc hg hb; replace HL516_0 := vE_ HL516_0 hg hb; have qE := Aside0.mk (hbox); have q7 := hz_ HB hg; have zh := hz_ HB hg; replace HB := bS_ HB hb; have qy := nL_ qf hg; have qz := nG_ qf hg; replace qf := kB_ qf hb; have qv := nL_ qh hg; have qw := nG_ qh hg; replace qh := kB_ qh hb; have qr := nL_ qj hg; have qA := nG_ qj hg; replace qj := kB_ qj hb; have qs := nL_ ql hg; have qB := nG_ ql hg; replace ql := kB_ ql hb; clear hb hbox hg
       refine hK.out _ _ ⟨bc_ qj 0, bc_ qj 1, bc_ qj 2, bc_ ql 0, bc_ ql 1, bc_ ql 2, HS6_, (ct_ HB hw520_0 :)⟩ (fun hHeld => ?_)
       clear hK K
       refine norm_ (a' := ?_) ?_ ?_
       rotate_left
       ·
        show Act.put _ (some 13) _ = _
        simp only [Act.put, sa_, s0_, s1_, i64_w, i32_w]
        rfl
       refine one_ (i := 13) (N := some 88) (fl_ 20 147455) rfl rfl (one_of HT_.out (by kernel_rfl)) (by decide) (fun K hK => ?_)
       refine goes_ Try.func67 (by kernel_rfl) rfl #[.agg #[.slice (some qu) ((rd_T52 l0_1 qd).f0).length c513_0, .int .i64 ((rd_T52 l0_1 qd).f1), .bool ((rd_T52 l0_1 qd).f2)], .int .i64 (wrap64 (-(rd ((rd_T52 l0_1 qa).f0) a1))), .agg #[.slice (some qm) ((rd_T52 l0_1 qa).f0).length c516_0, .int .i64 ((rd_T52 l0_1 qa).f1), .bool ((rd_T52 l0_1 qa).f2)], .int .i64 (rd ((rd_T52 l0_1 qd).f0) a1)] (by rfl) rfl rfl (by (try simp only [List.map_toArray, List.map_cons, List.map_nil]); first | done | rfl | (simp only [List.length_drop, List.length_take]; rfl)) ?_
       with_reducible refine (impl_MixAtoms.calls k4 _ _ ((rd_T52 l0_1 qd).f0) ((rd_T52 l0_1 qd).f1) ((rd_T52 l0_1 qd).f2) (wrap64 (-(rd ((rd_T52 l0_1 qa).f0) a1))) _ _ ((rd_T52 l0_1 qa).f0) ((rd_T52 l0_1 qa).f1) ((rd_T52 l0_1 qa).f2) (rd ((rd_T52 l0_1 qd).f0) a1) qF qG qH false _ ?side1 ?side2 ?side3 ?side4 A74.out).mono ?_
       (case side1 => exact cb_ qI HB)
       (case side2 => exact ze.out)
       (case side3 => repeat (first | exact ((Kd.V_reads' HL516_0.out).2.2) | (with_reducible refine Kd.C_alloc ?_ _) | (with_reducible refine Kd.C_drewN ?_ _) | (with_reducible refine Kd.C_drew ?_)))
       (case side4 => exact zb.out)
       rintro e QU ⟨qU, rfl, ho0, hb⟩
       have HS6_ := (hb.cell (World.block_lt_of_cell? _ _ (hHeld.2.2.2.2.2.2.1))).trans (hHeld.2.2.2.2.2.2.1)
       refine ⟨_, rfl, ?_⟩
       replace qq := Aside0.mk (Kd.N_elder' (nm_ qq) (Kd.R_base ho0) hb); replace qo := Aside0.mk (Kd.V_elder' (vm_ qo) (Kd.R_base ho0) hb); replace qp := Aside0.mk (Kd.V_elder' (vm_ qp) (Kd.R_base ho0) hb); replace qc := Aside0.mk (Kd.V_elder' (vm_ qc) (Kd.R_base ho0) hb); replace HL516_0 := Aside0.mk (Kd.V_elder' (vm_ HL516_0) (Kd.R_base ho0) hb); have qO := Aside0.mk (Kd.R_lower (Kd.R_newM (M := fun k_ => (w.heap.size ≤ k_)) ho0 (bz_ HB) (fun k_ h_ => h_)) (bz_ HB)); replace qf := kB_ qf hb; replace qh := kB_ qh hb; replace qj := kB_ qj hb; replace ql := kB_ ql hb; replace qE := kB_ qE hb; replace HB := bS_ HB hb; (try clear hb); (try clear hb2); (try clear hk); (try clear hi); (try clear ho0)
       refine hK.out _ _ ⟨bc_ qj 0, bc_ qj 1, bc_ qj 2, bc_ ql 0, bc_ ql 1, bc_ ql 2, HS6_, (ct_ HB hw520_0 :)⟩ (fun hHeld => ?_)
       clear hK K
       refine norm_ (a' := ?_) ?_ ?_
       rotate_left
       ·
        show Act.put _ (some 88) _ = _
        simp only [Act.put, sa_, s0_, s1_, i64_w, i32_w]
        rfl
       refine pX_ 14 (some 74) (fl_ 20 163839) HT_ ?_
       refine pX_ 15 (some 89) (fl_ 20 196607) HT_ ?_
       refine pX_ 16 (some 90) (fl_ 20 262143) HT_ ?_
       exact norm_ (by simp only [putAll, Act.put, List.setIfInBounds_toArray, List.set_cons_zero, List.set_cons_succ]) (hCont (qU, qe) _ ⟨hHeld, (by (with_reducible repeat (first | apply Kd.V_alloc | apply Kd.V_drewN | apply Kd.V_drew)); exact Kd.V_mono HL516_0.out (fun _ hk => ⟨hk.1.1.1, ⟨hk.2, ⟨hk.1.1.2.1, ⟨hk.1.1.2.2.1, ⟨hk.1.1.2.2.2.1, ⟨hk.1.1.2.2.2.2.1, ⟨hk.1.1.2.2.2.2.2, hk.1.2⟩⟩⟩⟩⟩⟩⟩)), (by (with_reducible repeat (first | apply Kd.R_alloc | apply Kd.R_drewN | apply Kd.R_drew)); exact Kd.R_mono qO.out (fun _ hk => hk.1)), (by (with_reducible repeat (first | apply Kd.V_alloc | apply Kd.V_drewN | apply Kd.V_drew)); exact Kd.V_mono qo.out (fun _ hk => ⟨hk.1.1.1, ⟨hk.2, ⟨hk.1.1.2.1, ⟨hk.1.1.2.2.1, ⟨hk.1.1.2.2.2.1, ⟨hk.1.1.2.2.2.2.1, ⟨hk.1.1.2.2.2.2.2, hk.1.2⟩⟩⟩⟩⟩⟩⟩)), (by (with_reducible repeat (first | apply Kd.V_alloc | apply Kd.V_drewN | apply Kd.V_drew)); exact Kd.V_mono qc.out (fun _ hk => ⟨hk.1.1.1, ⟨hk.2, ⟨hk.1.1.2.1, ⟨hk.1.1.2.2.1, ⟨hk.1.1.2.2.2.1, ⟨hk.1.1.2.2.2.2.1, ⟨hk.1.1.2.2.2.2.2, hk.1.2⟩⟩⟩⟩⟩⟩⟩)), (by (with_reducible repeat (first | apply Kd.N_alloc | apply Kd.N_drewN | apply Kd.N_drew)); exact Kd.N_mono qq.out (fun _ hk => ⟨hk.1.1.1, ⟨hk.2, ⟨hk.1.1.2.1, ⟨hk.1.1.2.2.1, ⟨hk.1.1.2.2.2.1, ⟨hk.1.1.2.2.2.2, hk.1.2⟩⟩⟩⟩⟩⟩)), (by (with_reducible repeat (first | apply Kd.V_alloc | apply Kd.V_drewN | apply Kd.V_drew)); exact Kd.V_mono qp.out (fun _ hk => ⟨hk.1.1.1, ⟨hk.2, ⟨hk.1.1.2.1, ⟨hk.1.1.2.2.1, ⟨hk.1.1.2.2.2.1, ⟨hk.1.1.2.2.2.2.1, ⟨hk.1.1.2.2.2.2.2, hk.1.2⟩⟩⟩⟩⟩⟩⟩)), (kf_ qf), (kf_ qh), (kf_ qj), (kf_ ql), (kf_ qE), q7.out, zh.out, qy.out, qz.out, qv.out, qw.out, qr.out, qA.out, qs.out, qB.out, (bb_ HB)⟩)
      rintro ⟨qU, qe⟩ qT ⟨hS_, h0_, h1_, h2_, h3_, h4_, h5_, h6_, h7_, h8_, h9_, h10_, h11_, h12_, h13_, h14_, h15_, h16_, h17_, h18_, h19_, h20_, h21_⟩
      have n0_ : Aside0 (Kd.V (Kd.int .i64) 3 qT w.heap.size (fun k_ => (P0_1_ k_ ∨ w.heap.size ≤ k_) ∧ some k_ ≠ (qU : Value).ownBlock ∧ some k_ ≠ (u6 : Value).ownBlock ∧ k_ ≠ qk ∧ k_ ≠ qi ∧ k_ ≠ qg ∧ k_ ≠ qb ∧ k_ ≠ qe) (.slice (some qm) ((rd_T52 l0_1 qa).f0).length c516_0) ((rd_T52 l0_1 qa).f0)) := ⟨h0_⟩
      have n1_ : Aside0 (Kd.R (Kd.int .i64) 3 qT w.heap.size (fun k_ => (w.heap.size ≤ k_)) qU qF) := ⟨h1_⟩
      have n2_ : Aside0 (Kd.V k52 52 qT w.heap.size (fun k_ => (P0_1_ k_ ∨ w.heap.size ≤ k_) ∧ some k_ ≠ (qU : Value).ownBlock ∧ some k_ ≠ (u6 : Value).ownBlock ∧ k_ ≠ qk ∧ k_ ≠ qi ∧ k_ ≠ qg ∧ k_ ≠ qb ∧ k_ ≠ qe) (.slice (some qx) l0_1.length c0_1) l0_1) := ⟨h2_⟩
      have n3_ : Aside0 (Kd.V k52 52 qT w.heap.size (fun k_ => (P0_1_ k_ ∨ w.heap.size ≤ k_) ∧ some k_ ≠ (qU : Value).ownBlock ∧ some k_ ≠ (u6 : Value).ownBlock ∧ k_ ≠ qk ∧ k_ ≠ qi ∧ k_ ≠ qg ∧ k_ ≠ qb ∧ k_ ≠ qe) (.slice (some qx) l0_1.length c0_1) l0_1) := ⟨h3_⟩
      have n4_ : Aside0 (Kd.N k52 52 qT w.heap.size (fun k_ => (P0_1_ k_ ∨ w.heap.size ≤ k_) ∧ some k_ ≠ (qU : Value).ownBlock ∧ k_ ≠ qk ∧ k_ ≠ qi ∧ k_ ≠ qg ∧ k_ ≠ qb ∧ k_ ≠ qe) u6 q3) := ⟨h4_⟩
      have n5_ : Aside0 (Kd.V k52 52 qT w.heap.size (fun k_ => (P0_1_ k_ ∨ w.heap.size ≤ k_) ∧ some k_ ≠ (qU : Value).ownBlock ∧ some k_ ≠ (u6 : Value).ownBlock ∧ k_ ≠ qk ∧ k_ ≠ qi ∧ k_ ≠ qg ∧ k_ ≠ qb ∧ k_ ≠ qe) (.slice (some qx) l0_1.length c0_1) l0_1) := ⟨h5_⟩
      have n6_ : Aside0 (qT.heap[qk]? = some (.cells #[.int .i64 a0_0, .slice (some qx) l0_1.length c0_1] 28 (0, 0))) := ⟨h6_⟩
      have n7_ : Aside0 (qT.heap[qi]? = some (.cells #[.int .i64 qC, .slice none 0 0] 28 (0, 0))) := ⟨h7_⟩
      have n8_ : Aside0 (qT.heap[qg]? = some (.cells #[.slice (some qu) ((rd_T52 l0_1 qd).f0).length c513_0, .int .i64 ((rd_T52 l0_1 qd).f1), .bool ((rd_T52 l0_1 qd).f2)] 52 (0, 0))) := ⟨h8_⟩
      have n9_ : Aside0 (qT.heap[qb]? = some (.cells #[.slice (some qm) ((rd_T52 l0_1 qa).f0).length c516_0, .int .i64 ((rd_T52 l0_1 qa).f1), .bool ((rd_T52 l0_1 qa).f2)] 52 (0, 0))) := ⟨h9_⟩
      have n10_ : Aside0 (qT.heap[qe]? = some (.cells #[.slice none 0 0, .int .i64 0, .bool false] 52 (0, 0))) := ⟨h10_⟩
      have n11_ : Aside0 (w.heap.size ≤ qe) := ⟨h11_⟩
      have n12_ : Aside0 (w.heap.size ≤ qe) := ⟨h12_⟩
      have n13_ : Aside0 (qk ≠ qe) := ⟨h13_⟩
      have n14_ : Aside0 (qe ≠ qk) := ⟨h14_⟩
      have n15_ : Aside0 (qi ≠ qe) := ⟨h15_⟩
      have n16_ : Aside0 (qe ≠ qi) := ⟨h16_⟩
      have n17_ : Aside0 (qg ≠ qe) := ⟨h17_⟩
      have n18_ : Aside0 (qe ≠ qg) := ⟨h18_⟩
      have n19_ : Aside0 (qb ≠ qe) := ⟨h19_⟩
      have n20_ : Aside0 (qe ≠ qb) := ⟨h20_⟩
      have n21_ : Aside0 (Below w.heap.size w qT) := ⟨h21_⟩
      clear qq
      clear qo
      clear qp
      clear qc
      clear HL516_0
      clear qf
      clear qh
      clear qj
      clear ql
      clear HB
      clear h0_ h1_ h2_ h3_ h4_ h5_ h6_ h7_ h8_ h9_ h10_ h11_ h12_ h13_ h14_ h15_ h16_ h17_ h18_ h19_ h20_ h21_
      have HL516_0 := n0_
      have qO := n1_
      have qo := n2_
      have qc := n3_
      have qq := n4_
      have qp := n5_
      have qf := n6_
      have qh := n7_
      have qj := n8_
      have ql := n9_
      have qE := n10_
      have q7 := n11_
      have zh := n12_
      have qy := n13_
      have qz := n14_
      have qv := n15_
      have qw := n16_
      have qr := n17_
      have qA := n18_
      have qs := n19_
      have qB := n20_
      have HB := n21_
      clear n0_ n1_ n2_ n3_ n4_ n5_ n6_ n7_ n8_ n9_ n10_ n11_ n12_ n13_ n14_ n15_ n16_ n17_ n18_ n19_ n20_ n21_
      have hHeld : qT.cell? ⟨qg, 0, none⟩ = some (.slice (some qu) ((rd_T52 l0_1 qd).f0).length c513_0) ∧ qT.cell? ⟨qg, 1, none⟩ = some (.int .i64 ((rd_T52 l0_1 qd).f1)) ∧ qT.cell? ⟨qg, 2, none⟩ = some (.bool ((rd_T52 l0_1 qd).f2)) ∧ qT.cell? ⟨qb, 0, none⟩ = some (.slice (some qm) ((rd_T52 l0_1 qa).f0).length c516_0) ∧ qT.cell? ⟨qb, 1, none⟩ = some (.int .i64 ((rd_T52 l0_1 qa).f1)) ∧ qT.cell? ⟨qb, 2, none⟩ = some (.bool ((rd_T52 l0_1 qa).f2)) ∧ qT.cell? (qm.add (a1).toNat) = some (.int .i64 (rd ((rd_T52 l0_1 qa).f0) a1)) ∧ qT.cell? (qu.add (a1).toNat) = some (.int .i64 (rd ((rd_T52 l0_1 qd).f0) a1)) := hS_
      obtain ⟨ZS, ZT, eo108⟩ := Kd.R_slice qO.out
      (first | subst eo108 | (injection eo108 with f1_ f2_ f3_; have f4_ := f1_.symm; have f5_ := f3_.symm; clear f1_ f2_ f3_; subst f4_; subst f5_))
      refine norm_ (a' := ?_) ?_ ?_
      rotate_left
      ·
       simp only [putAll, Act.put, List.setIfInBounds_toArray, List.set_cons_zero, List.set_cons_succ]
       rfl
      refine one_ (i := 18) (N := none) (fl_ 20 524287) rfl rfl (one_of HT_.out (by kernel_rfl)) (by decide) (fun K hK => ?_)
      have hs109 : qT.cell? ⟨qe, 0, none⟩ = some (.slice none 0 0) := bc_ qE 0
      have hfs109 := blk_frozen qE.out 0
      have hns109_0 := qy.out
      have hns109_1 := qv.out
      have hns109_2 := qr.out
      have hns109_3 := qs.out
      have hms109_0 := qz.out
      have hms109_1 := qw.out
      have hms109_2 := qA.out
      have hms109_3 := qB.out
      have hs110 : qT.cell? ⟨qe, 1, none⟩ = some (.int .i64 0) := bc_ qE 1
      have hfs110 := blk_frozen qE.out 1
      have hns110_0 := qy.out
      have hns110_1 := qv.out
      have hns110_2 := qr.out
      have hns110_3 := qs.out
      have hms110_0 := qz.out
      have hms110_1 := qw.out
      have hms110_2 := qA.out
      have hms110_3 := qB.out
      have hs111 : qT.cell? ⟨qe, 2, none⟩ = some (.bool false) := bc_ qE 2
      have hfs111 := blk_frozen qE.out 2
      have hns111_0 := qy.out
      have hns111_1 := qv.out
      have hns111_2 := qr.out
      have hns111_3 := qs.out
      have hms111_0 := qz.out
      have hms111_1 := qw.out
      have hms111_2 := qA.out
      have hms111_3 := qB.out
      refine skip_ (w1 := ?_) (by rfl) rfl ?_ ?_
      rotate_left
      ·
       go_simp
       rfl
      refine hK.out _ _ ⟨(cf3_ (g := qe) qr.out hHeld.1), (cf3_ (g := qe) qr.out hHeld.2.1), (cf3_ (g := qe) qr.out hHeld.2.2.1), (cf3_ (g := qe) qs.out hHeld.2.2.2.1), (cf3_ (g := qe) qs.out hHeld.2.2.2.2.1), (cf3_ (g := qe) qs.out hHeld.2.2.2.2.2.1), (cf3b_ (g := qe) hHeld.2.2.2.2.2.2.1 (vb_ HL516_0 (by have h1_ : 0 ≤ (a1 : Int) := od_; have h2_ : a1 < (((rd_T52 l0_1 qa).f0).length : Int) := od_; omega) (fun _ hk => hk.2.2.2.2.2.2.2) (by show 0 < 1; decide)) (by first | rfl | exact add_block _ _)), (cf3_ (g := qe) (Nat.ne_of_lt (Nat.lt_of_lt_of_le (by have := World.block_lt_of_cell? _ _ hw520_0; first | rwa [add_block] at this | exact this) q7.out)) hHeld.2.2.2.2.2.2.2)⟩ (fun hHeld => ?_)
      clear hK K
      refine pX_ 19 (some 14) (fl_ 20 1048575) HT_ ?_
      refine done_ (done_of HT_.out (by kernel_rfl)) ?_
      have QV := qK.out
      have QW := qJ.out
      have QX := q9.out
      have QY := za.out
      have QZ := qv.out
      have Q0 := qw.out
      obtain ⟨jo, jp, jq, jr⟩ := b2_ qh
      try go_wp2
      refine bodyPost_ret (results_ct rfl _ _ qi 28 #[.int .i64 0, .slice none 0 0] (0, 0) _ rfl (kp_ qh) Try.underlying28 rfl (by kernel_rfl)) rfl ?_
      exact ⟨_, by first | rfl | (simp [errW_none, errW_some] <;> rfl) | (simp [*, errW_none, errW_some] <;> rfl), by first | exact Kd.S_nil _ _ _ _ _ | exact Kd.N_nil _ _ _ _ _ | exact Kd.V_nil _ _ _ _ _ | exact Kd.Q_nil _ _ _ _ _ | exact Kd.R_nil _ _ _ _ _, bb_ HB⟩
     subst c75
     have H1 : (if q3.length < 3518437208883 then (impl_DropVariable.l2 k4 a1 (q3 ++ [(⟨qF, qG, qH⟩ : S52)]) l0_1 (l0_1.length : Int) qd l0_1 (l0_1.length : Int) (wrap64 (qa + 1)) a0_0 l0_1 ((rd_T52 l0_1 qd).f0) ((rd_T52 l0_1 qd).f1) ((rd_T52 l0_1 qd).f2)) else (none)) = some (r1, r2, r3) := by rw [if_pos rfl] at H; exact H
     clear H
     have H := H1
     clear H1
     by_cases c76 : q3.length < 3518437208883
     rotate_left
     ·
      rw [if_neg c76] at H
      exact absurd H (by simp)
     rw [if_pos c76] at H
     have LMc76 := Aside0.mk c76
     clear c76
     obtain ⟨y528, hy528⟩ : ∃ y_ : List (S52), y_ = (q3 ++ [(⟨qF, qG, qH⟩ : S52)]) := ⟨_, rfl⟩
     replace H : (impl_DropVariable.l2 k4 a1 y528 l0_1 (l0_1.length : Int) qd l0_1 (l0_1.length : Int) (wrap64 (qa + 1)) a0_0 l0_1 ((rd_T52 l0_1 qd).f0) ((rd_T52 l0_1 qd).f1) ((rd_T52 l0_1 qd).f2)) = some (r1, r2, r3) := by first | (rw [hy528]; with_reducible exact H) | (have H2_ := (Option.bind_some _ _).symm.trans H; rw [hy528]; with_reducible exact H2_) | (have H2_ := (Option.bind_some _ _).symm.trans H; with_reducible exact H2_) | with_reducible exact H | (rw [hy528]; exact H) | exact H
     have Ny528 := Aside0.mk hy528
     clear hy528
     have H' := Aside0.mk H
     clear H
     have p516 : 0 ≤ (qa : Int) := od_
     have q516 : qa < (l0_1.length : Int) := od_
     obtain ⟨zs, zB, c516_0, e516, zf, zw, zx, hl516_0, hi516_0⟩ := at_T52 (Kd.V_reads' qp.out).2.2 qa p516 q516
     obtain rfl : qx = zs := (by injection e516)
     obtain ⟨ce516, hce516, hMe516, hcc516⟩ := Kd.V_get qp.out z52 qa p516 (by first | exact q516 | exact od_ | (have e_ := (Kd.V_reads' qp.out).1; omega))
     obtain ⟨ua516_0, uc516_0, rfl, ul516_0, ge516_0⟩ := k52_openF hMe516
     have hv516_0 := hcc516 0 _ rfl
     rw [Nat.add_zero] at hv516_0
     replace hv516_0 := Option.some.inj (hv516_0.symm.trans zf)
     injection hv516_0 with hva_ hvn_ hvc_
     rw [hva_] at ge516_0
     rw [hvc_] at ul516_0
     have HL516_0 := Aside0.mk (show Kd.V (Kd.int .i64) 3 _ w.heap.size _ _ ((rd_T52 l0_1 qa).f0) from Kd.V_mk ul516_0 ge516_0)
     clear hva_ hvn_ hvc_ ge516_0 ul516_0
     clear hcc516 hce516
     have qQ := Aside0.mk hi516_0
     have zb := Aside0.mk hl516_0
     clear hi516_0 hl516_0
     replace p516 := eq_true p516
     replace q516 := eq_true q516
     try go_wp2_with (first | ((with_reducible refine gate_dst (N := 12) rfl ?_); refine bx_ (cs := #[.slice none 0 0, .int .i64 0, .bool false]) (t := 52) ?_; intro qb hg zF hbox hb; replace qq := nE_ qq hg hb; replace qo := vE_ qo hg hb; replace qp := vE_ qp hg hb; replace qc := vE_ qc hg hb; replace HL516_0 := vE_ HL516_0 hg hb; replace qQ := cB_ qQ hb; have ql := Aside0.mk (hbox); have zT := hz_ HB hg; have zU := hz_ HB hg; replace HB := bS_ HB hb; have qW := nL_ qf hg; have qX := nG_ qf hg; replace qf := kB_ qf hb; have qY := nL_ qh hg; have qZ := nG_ qh hg; replace qh := kB_ qh hb; have q0 := nL_ qj hg; have q1 := nG_ qj hg; replace qj := kB_ qj hb; clear hb hbox hg; have ZU := qX.out; have ZV := qW.out; have ZW := qZ.out; have ZX := qY.out; have ZY := q1.out; have ZZ := q0.out; obtain ⟨QA, QB, QC, QD, QE, QF⟩ := b3_ ql; have p518 : 0 ≤ (a1 : Int) := od_; have q518 : a1 < (((rd_T52 l0_1 qa).f0).length : Int) := od_; obtain ⟨qm, e518, qD⟩ := Kd.at_int qQ.out a1 p518 q518; cases e518; have hn518_0 : qm.block ≠ qb := vb_ HL516_0 (by omega) (fun _ hk => hk.2) (by show 0 < 1; decide); have hn518_1 : qm.block ≠ qb := vb_ HL516_0 (by omega) (fun _ hk => hk.2) (by show 0 < 1; decide); have hn518_2 : qm.block ≠ qb := vb_ HL516_0 (by omega) (fun _ hk => hk.2) (by show 0 < 1; decide); replace qD := (cell_far (p := ⟨qb, 0, none⟩) (by first | (rw [add_block]; exact hn518_0) | (show (Addr.add _ _).block ≠ _; rw [add_block]; exact hn518_0) | exact hn518_0) (.slice (some qm) ((rd_T52 l0_1 qa).f0).length c516_0)).trans qD; replace qD := (cell_far (p := ⟨qb, 1, none⟩) (by first | (rw [add_block]; exact hn518_1) | (show (Addr.add _ _).block ≠ _; rw [add_block]; exact hn518_1) | exact hn518_1) (.int .i64 ((rd_T52 l0_1 qa).f1))).trans qD; replace qD := (cell_far (p := ⟨qb, 2, none⟩) (by first | (rw [add_block]; exact hn518_2) | (show (Addr.add _ _).block ≠ _; rw [add_block]; exact hn518_2) | exact hn518_2) (.bool ((rd_T52 l0_1 qa).f2))).trans qD; clear hn518_0; clear hn518_1; clear hn518_2; replace p518 := eq_true p518; replace q518 := eq_true q518))
     have n0_ : Aside0 (Kd.N k52 52 (((zF.setCell ⟨qb, 0, none⟩ (.slice (some qm) ((rd_T52 l0_1 qa).f0).length c516_0)).setCell ⟨qb, 1, none⟩ (.int .i64 ((rd_T52 l0_1 qa).f1))).setCell ⟨qb, 2, none⟩ (.bool ((rd_T52 l0_1 qa).f2))) w.heap.size (fun k_ => (P0_1_ k_ ∨ w.heap.size ≤ k_) ∧ k_ ≠ qk ∧ k_ ≠ qi ∧ k_ ≠ qg ∧ k_ ≠ qb) u6 q3) := ⟨by (with_reducible repeat (first | apply Kd.N_alloc | apply Kd.N_drewN | apply Kd.N_drew)); exact Kd.N_mono (Kd.N_far (p := ⟨qb, 2, none⟩) (Kd.N_far (p := ⟨qb, 1, none⟩) (Kd.N_far (p := ⟨qb, 0, none⟩) (Kd.N_mono qq.out (fun k_ hk => (⟨hk, hk.2⟩ : _ ∧ k_ ≠ qb))) (fun _ hk => hk.2) (.slice (some qm) ((rd_T52 l0_1 qa).f0).length c516_0)) (fun _ hk => hk.2) (.int .i64 ((rd_T52 l0_1 qa).f1))) (fun _ hk => hk.2) (.bool ((rd_T52 l0_1 qa).f2))) (fun _ hk => ⟨hk.1.1.1, ⟨hk.1.1.2.1, ⟨hk.1.1.2.2.1, ⟨hk.1.1.2.2.2, hk.1.2⟩⟩⟩⟩)⟩
     have n1_ : Aside0 (Kd.V k52 52 (((zF.setCell ⟨qb, 0, none⟩ (.slice (some qm) ((rd_T52 l0_1 qa).f0).length c516_0)).setCell ⟨qb, 1, none⟩ (.int .i64 ((rd_T52 l0_1 qa).f1))).setCell ⟨qb, 2, none⟩ (.bool ((rd_T52 l0_1 qa).f2))) w.heap.size (fun k_ => (P0_1_ k_ ∨ w.heap.size ≤ k_) ∧ some k_ ≠ (u6 : Value).ownBlock ∧ k_ ≠ qk ∧ k_ ≠ qi ∧ k_ ≠ qg ∧ k_ ≠ qb) (.slice (some qx) l0_1.length c0_1) l0_1) := ⟨by (with_reducible repeat (first | apply Kd.V_alloc | apply Kd.V_drewN | apply Kd.V_drew)); exact Kd.V_mono (Kd.V_far (p := ⟨qb, 2, none⟩) (Kd.V_far (p := ⟨qb, 1, none⟩) (Kd.V_far (p := ⟨qb, 0, none⟩) (Kd.V_mono qo.out (fun k_ hk => (⟨hk, hk.2⟩ : _ ∧ k_ ≠ qb))) (fun _ hk => hk.2) (.slice (some qm) ((rd_T52 l0_1 qa).f0).length c516_0)) (fun _ hk => hk.2) (.int .i64 ((rd_T52 l0_1 qa).f1))) (fun _ hk => hk.2) (.bool ((rd_T52 l0_1 qa).f2))) (fun _ hk => ⟨hk.1.1.1, ⟨hk.1.1.2.1, ⟨hk.1.1.2.2.1, ⟨hk.1.1.2.2.2.1, ⟨hk.1.1.2.2.2.2, hk.1.2⟩⟩⟩⟩⟩)⟩
     have n2_ : Aside0 (Kd.V k52 52 (((zF.setCell ⟨qb, 0, none⟩ (.slice (some qm) ((rd_T52 l0_1 qa).f0).length c516_0)).setCell ⟨qb, 1, none⟩ (.int .i64 ((rd_T52 l0_1 qa).f1))).setCell ⟨qb, 2, none⟩ (.bool ((rd_T52 l0_1 qa).f2))) w.heap.size (fun k_ => (P0_1_ k_ ∨ w.heap.size ≤ k_) ∧ some k_ ≠ (u6 : Value).ownBlock ∧ k_ ≠ qk ∧ k_ ≠ qi ∧ k_ ≠ qg ∧ k_ ≠ qb) (.slice (some qx) l0_1.length c0_1) l0_1) := ⟨by (with_reducible repeat (first | apply Kd.V_alloc | apply Kd.V_drewN | apply Kd.V_drew)); exact Kd.V_mono (Kd.V_far (p := ⟨qb, 2, none⟩) (Kd.V_far (p := ⟨qb, 1, none⟩) (Kd.V_far (p := ⟨qb, 0, none⟩) (Kd.V_mono qp.out (fun k_ hk => (⟨hk, hk.2⟩ : _ ∧ k_ ≠ qb))) (fun _ hk => hk.2) (.slice (some qm) ((rd_T52 l0_1 qa).f0).length c516_0)) (fun _ hk => hk.2) (.int .i64 ((rd_T52 l0_1 qa).f1))) (fun _ hk => hk.2) (.bool ((rd_T52 l0_1 qa).f2))) (fun _ hk => ⟨hk.1.1.1, ⟨hk.1.1.2.1, ⟨hk.1.1.2.2.1, ⟨hk.1.1.2.2.2.1, ⟨hk.1.1.2.2.2.2, hk.1.2⟩⟩⟩⟩⟩)⟩
     have n3_ : Aside0 (Kd.V k52 52 (((zF.setCell ⟨qb, 0, none⟩ (.slice (some qm) ((rd_T52 l0_1 qa).f0).length c516_0)).setCell ⟨qb, 1, none⟩ (.int .i64 ((rd_T52 l0_1 qa).f1))).setCell ⟨qb, 2, none⟩ (.bool ((rd_T52 l0_1 qa).f2))) w.heap.size (fun k_ => (P0_1_ k_ ∨ w.heap.size ≤ k_) ∧ some k_ ≠ (u6 : Value).ownBlock ∧ k_ ≠ qk ∧ k_ ≠ qi ∧ k_ ≠ qg ∧ k_ ≠ qb) (.slice (some qx) l0_1.length c0_1) l0_1) := ⟨by (with_reducible repeat (first | apply Kd.V_alloc | apply Kd.V_drewN | apply Kd.V_drew)); exact Kd.V_mono (Kd.V_far (p := ⟨qb, 2, none⟩) (Kd.V_far (p := ⟨qb, 1, none⟩) (Kd.V_far (p := ⟨qb, 0, none⟩) (Kd.V_mono qc.out (fun k_ hk => (⟨hk, hk.2⟩ : _ ∧ k_ ≠ qb))) (fun _ hk => hk.2) (.slice (some qm) ((rd_T52 l0_1 qa).f0).length c516_0)) (fun _ hk => hk.2) (.int .i64 ((rd_T52 l0_1 qa).f1))) (fun _ hk => hk.2) (.bool ((rd_T52 l0_1 qa).f2))) (fun _ hk => ⟨hk.1.1.1, ⟨hk.1.1.2.1, ⟨hk.1.1.2.2.1, ⟨hk.1.1.2.2.2.1, ⟨hk.1.1.2.2.2.2, hk.1.2⟩⟩⟩⟩⟩)⟩
     have n4_ : Aside0 (Kd.V (Kd.int .i64) 3 (((zF.setCell ⟨qb, 0, none⟩ (.slice (some qm) ((rd_T52 l0_1 qa).f0).length c516_0)).setCell ⟨qb, 1, none⟩ (.int .i64 ((rd_T52 l0_1 qa).f1))).setCell ⟨qb, 2, none⟩ (.bool ((rd_T52 l0_1 qa).f2))) w.heap.size (fun k_ => (P0_1_ k_ ∨ w.heap.size ≤ k_) ∧ some k_ ≠ (u6 : Value).ownBlock ∧ k_ ≠ qk ∧ k_ ≠ qi ∧ k_ ≠ qg ∧ k_ ≠ qb) (.slice (some qm) ((rd_T52 l0_1 qa).f0).length c516_0) ((rd_T52 l0_1 qa).f0)) := ⟨by (with_reducible repeat (first | apply Kd.V_alloc | apply Kd.V_drewN | apply Kd.V_drew)); exact Kd.V_mono (Kd.V_far (p := ⟨qb, 2, none⟩) (Kd.V_far (p := ⟨qb, 1, none⟩) (Kd.V_far (p := ⟨qb, 0, none⟩) (Kd.V_mono HL516_0.out (fun k_ hk => (⟨hk, hk.2⟩ : _ ∧ k_ ≠ qb))) (fun _ hk => hk.2) (.slice (some qm) ((rd_T52 l0_1 qa).f0).length c516_0)) (fun _ hk => hk.2) (.int .i64 ((rd_T52 l0_1 qa).f1))) (fun _ hk => hk.2) (.bool ((rd_T52 l0_1 qa).f2))) (fun _ hk => ⟨hk.1.1.1, ⟨hk.1.1.2.1, ⟨hk.1.1.2.2.1, ⟨hk.1.1.2.2.2.1, ⟨hk.1.1.2.2.2.2, hk.1.2⟩⟩⟩⟩⟩)⟩
     have n5_ : Aside0 ((((zF.setCell ⟨qb, 0, none⟩ (.slice (some qm) ((rd_T52 l0_1 qa).f0).length c516_0)).setCell ⟨qb, 1, none⟩ (.int .i64 ((rd_T52 l0_1 qa).f1))).setCell ⟨qb, 2, none⟩ (.bool ((rd_T52 l0_1 qa).f2))).heap[qk]? = some (.cells #[.int .i64 a0_0, .slice (some qx) l0_1.length c0_1] 28 (0, 0))) := ⟨kf_ qf⟩
     have n6_ : Aside0 ((((zF.setCell ⟨qb, 0, none⟩ (.slice (some qm) ((rd_T52 l0_1 qa).f0).length c516_0)).setCell ⟨qb, 1, none⟩ (.int .i64 ((rd_T52 l0_1 qa).f1))).setCell ⟨qb, 2, none⟩ (.bool ((rd_T52 l0_1 qa).f2))).heap[qi]? = some (.cells #[.int .i64 qC, .slice none 0 0] 28 (0, 0))) := ⟨kf_ qh⟩
     have n7_ : Aside0 ((((zF.setCell ⟨qb, 0, none⟩ (.slice (some qm) ((rd_T52 l0_1 qa).f0).length c516_0)).setCell ⟨qb, 1, none⟩ (.int .i64 ((rd_T52 l0_1 qa).f1))).setCell ⟨qb, 2, none⟩ (.bool ((rd_T52 l0_1 qa).f2))).heap[qg]? = some (.cells #[.slice (some qu) ((rd_T52 l0_1 qd).f0).length c513_0, .int .i64 ((rd_T52 l0_1 qd).f1), .bool ((rd_T52 l0_1 qd).f2)] 52 (0, 0))) := ⟨kf_ qj⟩
     have n8_ : Aside0 ((((zF.setCell ⟨qb, 0, none⟩ (.slice (some qm) ((rd_T52 l0_1 qa).f0).length c516_0)).setCell ⟨qb, 1, none⟩ (.int .i64 ((rd_T52 l0_1 qa).f1))).setCell ⟨qb, 2, none⟩ (.bool ((rd_T52 l0_1 qa).f2))).heap[qb]? = some (.cells #[.slice (some qm) ((rd_T52 l0_1 qa).f0).length c516_0, .int .i64 ((rd_T52 l0_1 qa).f1), .bool ((rd_T52 l0_1 qa).f2)] 52 (0, 0))) := ⟨kp_ ql⟩
     have n9_ : Aside0 (Below w.heap.size w (((zF.setCell ⟨qb, 0, none⟩ (.slice (some qm) ((rd_T52 l0_1 qa).f0).length c516_0)).setCell ⟨qb, 1, none⟩ (.int .i64 ((rd_T52 l0_1 qa).f1))).setCell ⟨qb, 2, none⟩ (.bool ((rd_T52 l0_1 qa).f2)))) := ⟨bb_ HB⟩
     generalize (((zF.setCell ⟨qb, 0, none⟩ (.slice (some qm) ((rd_T52 l0_1 qa).f0).length c516_0)).setCell ⟨qb, 1, none⟩ (.int .i64 ((rd_T52 l0_1 qa).f1))).setCell ⟨qb, 2, none⟩ (.bool ((rd_T52 l0_1 qa).f2))) = Jg at n0_ n1_ n2_ n3_ n4_ n5_ n6_ n7_ n8_ n9_ ⊢
     have qq := n0_
     have qo := n1_
     have qp := n2_
     have qc := n3_
     have HL516_0 := n4_
     have qf := n5_
     have qh := n6_
     have qj := n7_
     have ql := n8_
     have HB := n9_
     clear n0_ n1_ n2_ n3_ n4_ n5_ n6_ n7_ n8_ n9_
     replace qq := Aside0.mk (Kd.N_drew qq.out); replace qo := Aside0.mk (Kd.V_drew qo.out); replace qp := Aside0.mk (Kd.V_drew qp.out); replace qc := Aside0.mk (Kd.V_drew qc.out); replace HL516_0 := Aside0.mk (Kd.V_drew HL516_0.out); replace qf := Aside0.mk (blk_drew qf.out); replace qh := Aside0.mk (blk_drew qh.out); replace qj := Aside0.mk (blk_drew qj.out); replace ql := Aside0.mk (blk_drew ql.out); replace HB := Aside0.mk (below_drew1 HB.out)
     have p519 : 0 ≤ (a1 : Int) := od_
     have q519 : a1 < (((rd_T52 l0_1 qa).f0).length : Int) := od_
     obtain ⟨zD, e519, zg⟩ := Kd.at_int ((Kd.V_reads' HL516_0.out).2.2) a1 p519 q519
     obtain rfl : qm = zD := (by injection e519)
     replace p519 := eq_true p519
     replace q519 := eq_true q519
     have p520 : 0 ≤ (a1 : Int) := od_
     have q520 : a1 < (((rd_T52 l0_1 qd).f0).length : Int) := od_
     obtain ⟨zE, e520, qS⟩ := Kd.at_int qI.out a1 p520 q520
     have hw520_0 := qS
     obtain rfl : qu = zE := (by injection e520)
     replace qS := ct_ HB qS
     replace p520 := eq_true p520
     replace q520 := eq_true q520
     refine start_ (n := 20) (S := fun w' => w'.cell? ⟨qg, 0, none⟩ = some (.slice (some qu) ((rd_T52 l0_1 qd).f0).length c513_0) ∧ w'.cell? ⟨qg, 1, none⟩ = some (.int .i64 ((rd_T52 l0_1 qd).f1)) ∧ w'.cell? ⟨qg, 2, none⟩ = some (.bool ((rd_T52 l0_1 qd).f2)) ∧ w'.cell? ⟨qb, 0, none⟩ = some (.slice (some qm) ((rd_T52 l0_1 qa).f0).length c516_0) ∧ w'.cell? ⟨qb, 1, none⟩ = some (.int .i64 ((rd_T52 l0_1 qa).f1)) ∧ w'.cell? ⟨qb, 2, none⟩ = some (.bool ((rd_T52 l0_1 qa).f2)) ∧ w'.cell? (qm.add (a1).toNat) = some (.int .i64 (rd ((rd_T52 l0_1 qa).f0) a1)) ∧ w'.cell? (qu.add (a1).toNat) = some (.int .i64 (rd ((rd_T52 l0_1 qd).f0) a1))) (ds := []) (fl_ 20 0) (by kernel_rfl) rfl rfl ⟨bc_ qj 0, bc_ qj 1, bc_ qj 2, bc_ ql 0, bc_ ql 1, bc_ ql 2, zg, (ct_ HB hw520_0 :)⟩ (fun hHeld => ?_); refine with_tabW impl_DropVariable.tab18 impl_DropVariable.bits18 (fun HT_ HW_ => ?_)
     generalize Jg.drew = Jt at qq qo qp qc HL516_0 qf qh qj ql HB zg qS hHeld ⊢
     refine pX_ 1 (some 76) (fl_ 20 2) HT_ ?_
     refine pX_ 3 (some 78) (fl_ 20 10) HT_ ?_
     refine pX_ 8 (some 83) (fl_ 20 266) HT_ ?_
     refine pX_ 10 (some 85) (fl_ 20 1290) HT_ ?_
     refine tX_ 0 (some 75) (fl_ 20 1291) rfl rfl HT_ HW_ hHeld (by rintro w' ⟨s0, s1, s2, s3, s4, s5, s6, s7⟩; go_simp; with_reducible rfl) ?_
     refine tX_ 2 (some 77) (fl_ 20 1295) rfl rfl HT_ HW_ hHeld (by rintro w' ⟨s0, s1, s2, s3, s4, s5, s6, s7⟩; go_simp; with_reducible rfl) ?_
     refine pX_ 4 (some 79) (fl_ 20 1311) HT_ ?_
     refine tX_ 5 (some 80) (fl_ 20 1343) rfl rfl HT_ HW_ hHeld (by rintro w' ⟨s0, s1, s2, s3, s4, s5, s6, s7⟩; go_simp; with_reducible rfl) ?_
     refine pX_ 6 (some 81) (fl_ 20 1407) HT_ ?_
     refine tX_ 7 (some 82) (fl_ 20 1535) rfl rfl HT_ HW_ hHeld (by rintro w' ⟨s0, s1, s2, s3, s4, s5, s6, s7⟩; go_simp; with_reducible rfl) ?_
     refine tX_ 9 (some 84) (fl_ 20 2047) rfl rfl HT_ HW_ hHeld (by rintro w' ⟨s0, s1, s2, s3, s4, s5, s6, s7⟩; go_simp; with_reducible rfl) ?_
     refine pX_ 11 (some 86) (fl_ 20 4095) HT_ ?_
     refine tX_ 12 (some 87) (fl_ 20 8191) rfl rfl HT_ HW_ hHeld (by rintro w' ⟨s0, s1, s2, s3, s4, s5, s6, s7⟩; go_simp; with_reducible rfl) ?_
     refine join_ (σ := Value × Nat) 2 (fl_ 20 262143) (fun s_ => [(88, .tuple #[.agg #[s_.1, .int .i64 qG, .bool qH], .bool true]), (13, .pointer (some ⟨s_.2, 0, none⟩)), (74, .tuple #[.agg #[s_.1, .int .i64 qG, .bool qH], .bool true]), (89, .agg #[s_.1, .int .i64 qG, .bool qH]), (90, .bool true)]) (fun s_ w' => (w'.cell? ⟨qg, 0, none⟩ = some (.slice (some qu) ((rd_T52 l0_1 qd).f0).length c513_0) ∧ w'.cell? ⟨qg, 1, none⟩ = some (.int .i64 ((rd_T52 l0_1 qd).f1)) ∧ w'.cell? ⟨qg, 2, none⟩ = some (.bool ((rd_T52 l0_1 qd).f2)) ∧ w'.cell? ⟨qb, 0, none⟩ = some (.slice (some qm) ((rd_T52 l0_1 qa).f0).length c516_0) ∧ w'.cell? ⟨qb, 1, none⟩ = some (.int .i64 ((rd_T52 l0_1 qa).f1)) ∧ w'.cell? ⟨qb, 2, none⟩ = some (.bool ((rd_T52 l0_1 qa).f2)) ∧ w'.cell? (qm.add (a1).toNat) = some (.int .i64 (rd ((rd_T52 l0_1 qa).f0) a1)) ∧ w'.cell? (qu.add (a1).toNat) = some (.int .i64 (rd ((rd_T52 l0_1 qd).f0) a1))) ∧ (Kd.V (Kd.int .i64) 3 w' w.heap.size (fun k_ => (P0_1_ k_ ∨ w.heap.size ≤ k_) ∧ some k_ ≠ (s_.1 : Value).ownBlock ∧ some k_ ≠ (u6 : Value).ownBlock ∧ k_ ≠ qk ∧ k_ ≠ qi ∧ k_ ≠ qg ∧ k_ ≠ qb ∧ k_ ≠ s_.2) (.slice (some qm) ((rd_T52 l0_1 qa).f0).length c516_0) ((rd_T52 l0_1 qa).f0)) ∧ (Kd.R (Kd.int .i64) 3 w' w.heap.size (fun k_ => (w.heap.size ≤ k_)) s_.1 qF) ∧ (Kd.V k52 52 w' w.heap.size (fun k_ => (P0_1_ k_ ∨ w.heap.size ≤ k_) ∧ some k_ ≠ (s_.1 : Value).ownBlock ∧ some k_ ≠ (u6 : Value).ownBlock ∧ k_ ≠ qk ∧ k_ ≠ qi ∧ k_ ≠ qg ∧ k_ ≠ qb ∧ k_ ≠ s_.2) (.slice (some qx) l0_1.length c0_1) l0_1) ∧ (Kd.V k52 52 w' w.heap.size (fun k_ => (P0_1_ k_ ∨ w.heap.size ≤ k_) ∧ some k_ ≠ (s_.1 : Value).ownBlock ∧ some k_ ≠ (u6 : Value).ownBlock ∧ k_ ≠ qk ∧ k_ ≠ qi ∧ k_ ≠ qg ∧ k_ ≠ qb ∧ k_ ≠ s_.2) (.slice (some qx) l0_1.length c0_1) l0_1) ∧ (Kd.N k52 52 w' w.heap.size (fun k_ => (P0_1_ k_ ∨ w.heap.size ≤ k_) ∧ some k_ ≠ (s_.1 : Value).ownBlock ∧ k_ ≠ qk ∧ k_ ≠ qi ∧ k_ ≠ qg ∧ k_ ≠ qb ∧ k_ ≠ s_.2) u6 q3) ∧ (Kd.V k52 52 w' w.heap.size (fun k_ => (P0_1_ k_ ∨ w.heap.size ≤ k_) ∧ some k_ ≠ (s_.1 : Value).ownBlock ∧ some k_ ≠ (u6 : Value).ownBlock ∧ k_ ≠ qk ∧ k_ ≠ qi ∧ k_ ≠ qg ∧ k_ ≠ qb ∧ k_ ≠ s_.2) (.slice (some qx) l0_1.length c0_1) l0_1) ∧ (w'.heap[qk]? = some (.cells #[.int .i64 a0_0, .slice (some qx) l0_1.length c0_1] 28 (0, 0))) ∧ (w'.heap[qi]? = some (.cells #[.int .i64 qC, .slice none 0 0] 28 (0, 0))) ∧ (w'.heap[qg]? = some (.cells #[.slice (some qu) ((rd_T52 l0_1 qd).f0).length c513_0, .int .i64 ((rd_T52 l0_1 qd).f1), .bool ((rd_T52 l0_1 qd).f2)] 52 (0, 0))) ∧ (w'.heap[qb]? = some (.cells #[.slice (some qm) ((rd_T52 l0_1 qa).f0).length c516_0, .int .i64 ((rd_T52 l0_1 qa).f1), .bool ((rd_T52 l0_1 qa).f2)] 52 (0, 0))) ∧ (w'.heap[s_.2]? = some (.cells #[.slice none 0 0, .int .i64 0, .bool false] 52 (0, 0))) ∧ (w.heap.size ≤ s_.2) ∧ (w.heap.size ≤ s_.2) ∧ (qk ≠ s_.2) ∧ (s_.2 ≠ qk) ∧ (qi ≠ s_.2) ∧ (s_.2 ≠ qi) ∧ (qg ≠ s_.2) ∧ (s_.2 ≠ qg) ∧ (qb ≠ s_.2) ∧ (s_.2 ≠ qb) ∧ (Below w.heap.size w w')) ?_ ?_
     rotate_left
     ·
      intro hCont
      refine two_ (i := 13) (j := 17) (Ni := some 88) (Nj := some 13) (fl_ 20 16383) (fl_ 20 139263) rfl rfl rfl rfl (two_of HT_.out (by kernel_rfl)) (by decide) (by decide) (fun K hK => ?_) (fun K hK => ?_)
      ·
       skip
       refine goes_ Try.func67 (by kernel_rfl) rfl #[.agg #[.slice (some qu) ((rd_T52 l0_1 qd).f0).length c513_0, .int .i64 ((rd_T52 l0_1 qd).f1), .bool ((rd_T52 l0_1 qd).f2)], .int .i64 (wrap64 (-(rd ((rd_T52 l0_1 qa).f0) a1))), .agg #[.slice (some qm) ((rd_T52 l0_1 qa).f0).length c516_0, .int .i64 ((rd_T52 l0_1 qa).f1), .bool ((rd_T52 l0_1 qa).f2)], .int .i64 (rd ((rd_T52 l0_1 qd).f0) a1)] (by rfl) rfl rfl (by (try simp only [List.map_toArray, List.map_cons, List.map_nil]); first | done | rfl | (simp only [List.length_drop, List.length_take]; rfl)) ?_
       with_reducible refine (impl_MixAtoms.calls k4 _ _ ((rd_T52 l0_1 qd).f0) ((rd_T52 l0_1 qd).f1) ((rd_T52 l0_1 qd).f2) (wrap64 (-(rd ((rd_T52 l0_1 qa).f0) a1))) _ _ ((rd_T52 l0_1 qa).f0) ((rd_T52 l0_1 qa).f1) ((rd_T52 l0_1 qa).f2) (rd ((rd_T52 l0_1 qd).f0) a1) qF qG qH true _ ?side1 ?side2 ?side3 ?side4 A74.out).mono ?_
       (case side1 => exact cb_ qI HB)
       (case side2 => exact ze.out)
       (case side3 => repeat (first | exact ((Kd.V_reads' HL516_0.out).2.2) | (with_reducible refine Kd.C_alloc ?_ _) | (with_reducible refine Kd.C_drewN ?_ _) | (with_reducible refine Kd.C_drew ?_)))
       (case side4 => exact zb.out)
       rintro e Jh ⟨qU, rfl, ho0, hb⟩
       have HS6_ := (hb.cell (World.block_lt_of_cell? _ _ (hHeld.2.2.2.2.2.2.1))).trans (hHeld.2.2.2.2.2.2.1)
       refine ⟨_, rfl, ?_⟩
       replace qq := Aside0.mk (Kd.N_elder' (nm_ qq) (Kd.R_base ho0) hb); replace qo := Aside0.mk (Kd.V_elder' (vm_ qo) (Kd.R_base ho0) hb); replace qp := Aside0.mk (Kd.V_elder' (vm_ qp) (Kd.R_base ho0) hb); replace qc := Aside0.mk (Kd.V_elder' (vm_ qc) (Kd.R_base ho0) hb); replace HL516_0 := Aside0.mk (Kd.V_elder' (vm_ HL516_0) (Kd.R_base ho0) hb); have qO := Aside0.mk (Kd.R_lower (Kd.R_newM (M := fun k_ => (w.heap.size ≤ k_)) ho0 (bz_ HB) (fun k_ h_ => h_)) (bz_ HB)); replace qf := kB_ qf hb; replace qh := kB_ qh hb; replace qj := kB_ qj hb; replace ql := kB_ ql hb; replace HB := bS_ HB hb; (try clear hb); (try clear hb2); (try clear hk); (try clear hi); (try clear ho0)
       refine hK.out _ _ ⟨bc_ qj 0, bc_ qj 1, bc_ qj 2, bc_ ql 0, bc_ ql 1, bc_ ql 2, HS6_, (ct_ HB hw520_0 :)⟩ (fun hHeld => ?_)
       clear hK K
       refine norm_ (a' := ?_) ?_ ?_
       rotate_left
       ·
        show Act.put _ (some 88) _ = _
        simp only [Act.put, sa_, s0_, s1_, i64_w, i32_w]
        rfl
       refine pX_ 14 (some 74) (fl_ 20 32767) HT_ ?_
       refine pX_ 15 (some 89) (fl_ 20 65535) HT_ ?_
       refine pX_ 16 (some 90) (fl_ 20 131071) HT_ ?_
       refine one_ (i := 17) (N := some 13) (fl_ 20 262143) rfl rfl (one_of HT_.out (by kernel_rfl)) (by decide) (fun K hK => ?_)
       refine box_step ?hg (N := 13) ?hd (cs := #[.slice none 0 0, .int .i64 0, .bool false]) (t := 52) ?hr ?_; (case hd => rfl); (case hg => rfl); (case hr => first | (go_simp; done) | (go_simp; rfl))
       intro qe hg Ji hbox hb
       have HS6_ := (hb.cell (World.block_lt_of_cell? _ _ (hHeld.2.2.2.2.2.2.1))).trans (hHeld.2.2.2.2.2.2.1)
       replace qq := nE_ qq hg hb; replace qo := vE_ qo hg hb; replace qp := vE_ qp hg hb; replace qc := vE_ qc hg hb; replace HL516_0 := vE_ HL516_0 hg hb; replace qO := rB_ qO hb; have qE := Aside0.mk (hbox); have q7 := hz_ HB hg; have zh := hz_ HB hg; replace HB := bS_ HB hb; have qy := nL_ qf hg; have qz := nG_ qf hg; replace qf := kB_ qf hb; have qv := nL_ qh hg; have qw := nG_ qh hg; replace qh := kB_ qh hb; have qr := nL_ qj hg; have qA := nG_ qj hg; replace qj := kB_ qj hb; have qs := nL_ ql hg; have qB := nG_ ql hg; replace ql := kB_ ql hb; clear hb hbox hg
       refine hK.out _ _ ⟨bc_ qj 0, bc_ qj 1, bc_ qj 2, bc_ ql 0, bc_ ql 1, bc_ ql 2, HS6_, (ct_ HB hw520_0 :)⟩ (fun hHeld => ?_)
       clear hK K
       refine norm_ (a' := ?_) ?_ ?_
       rotate_left
       ·
        show Act.put _ (some 13) _ = _
        simp only [Act.put, sa_, s0_, s1_, i64_w, i32_w]
        rfl
       exact norm_ (by simp only [putAll, Act.put, List.setIfInBounds_toArray, List.set_cons_zero, List.set_cons_succ]) (hCont (qU, qe) _ ⟨hHeld, (by (with_reducible repeat (first | apply Kd.V_alloc | apply Kd.V_drewN | apply Kd.V_drew)); exact Kd.V_mono HL516_0.out (fun _ hk => ⟨hk.1.1.1, ⟨hk.1.2, ⟨hk.1.1.2.1, ⟨hk.1.1.2.2.1, ⟨hk.1.1.2.2.2.1, ⟨hk.1.1.2.2.2.2.1, ⟨hk.1.1.2.2.2.2.2, hk.2⟩⟩⟩⟩⟩⟩⟩)), (by (with_reducible repeat (first | apply Kd.R_alloc | apply Kd.R_drewN | apply Kd.R_drew)); exact Kd.R_mono qO.out (fun _ hk => hk.1)), (by (with_reducible repeat (first | apply Kd.V_alloc | apply Kd.V_drewN | apply Kd.V_drew)); exact Kd.V_mono qo.out (fun _ hk => ⟨hk.1.1.1, ⟨hk.1.2, ⟨hk.1.1.2.1, ⟨hk.1.1.2.2.1, ⟨hk.1.1.2.2.2.1, ⟨hk.1.1.2.2.2.2.1, ⟨hk.1.1.2.2.2.2.2, hk.2⟩⟩⟩⟩⟩⟩⟩)), (by (with_reducible repeat (first | apply Kd.V_alloc | apply Kd.V_drewN | apply Kd.V_drew)); exact Kd.V_mono qc.out (fun _ hk => ⟨hk.1.1.1, ⟨hk.1.2, ⟨hk.1.1.2.1, ⟨hk.1.1.2.2.1, ⟨hk.1.1.2.2.2.1, ⟨hk.1.1.2.2.2.2.1, ⟨hk.1.1.2.2.2.2.2, hk.2⟩⟩⟩⟩⟩⟩⟩)), (by (with_reducible repeat (first | apply Kd.N_alloc | apply Kd.N_drewN | apply Kd.N_drew)); exact Kd.N_mono qq.out (fun _ hk => ⟨hk.1.1.1, ⟨hk.1.2, ⟨hk.1.1.2.1, ⟨hk.1.1.2.2.1, ⟨hk.1.1.2.2.2.1, ⟨hk.1.1.2.2.2.2, hk.2⟩⟩⟩⟩⟩⟩)), (by (with_reducible repeat (first | apply Kd.V_alloc | apply Kd.V_drewN | apply Kd.V_drew)); exact Kd.V_mono qp.out (fun _ hk => ⟨hk.1.1.1, ⟨hk.1.2, ⟨hk.1.1.2.1, ⟨hk.1.1.2.2.1, ⟨hk.1.1.2.2.2.1, ⟨hk.1.1.2.2.2.2.1, ⟨hk.1.1.2.2.2.2.2, hk.2⟩⟩⟩⟩⟩⟩⟩)), (kf_ qf), (kf_ qh), (kf_ qj), (kf_ ql), (kf_ qE), q7.out, zh.out, qy.out, qz.out, qv.out, qw.out, qr.out, qA.out, qs.out, qB.out, (bb_ HB)⟩)
      skip
      refine box_step ?hg (N := 13) ?hd (cs := #[.slice none 0 0, .int .i64 0, .bool false]) (t := 52) ?hr ?_; (case hd => rfl); (case hg => rfl); (case hr => first | (go_simp; done) | (go_simp; rfl))
      intro qe hg Jh hbox hb
      have HS6_ := (hb.cell (World.block_lt_of_cell? _ _ (hHeld.2.2.2.2.2.2.1))).trans (hHeld.2.2.2.2.2.2.1)
      replace qq := nE_ qq hg hb; replace qo := vE_ qo hg hb; replace qp := vE_ qp hg hb; replace qc := vE_ qc hg hb; replace HL516_0 := vE_ HL516_0 hg hb; have qE := Aside0.mk (hbox); have q7 := hz_ HB hg; have zh := hz_ HB hg; replace HB := bS_ HB hb; have qy := nL_ qf hg; have qz := nG_ qf hg; replace qf := kB_ qf hb; have qv := nL_ qh hg; have qw := nG_ qh hg; replace qh := kB_ qh hb; have qr := nL_ qj hg; have qA := nG_ qj hg; replace qj := kB_ qj hb; have qs := nL_ ql hg; have qB := nG_ ql hg; replace ql := kB_ ql hb; clear hb hbox hg
      refine hK.out _ _ ⟨bc_ qj 0, bc_ qj 1, bc_ qj 2, bc_ ql 0, bc_ ql 1, bc_ ql 2, HS6_, (ct_ HB hw520_0 :)⟩ (fun hHeld => ?_)
      clear hK K
      refine norm_ (a' := ?_) ?_ ?_
      rotate_left
      ·
       show Act.put _ (some 13) _ = _
       simp only [Act.put, sa_, s0_, s1_, i64_w, i32_w]
       rfl
      refine one_ (i := 13) (N := some 88) (fl_ 20 147455) rfl rfl (one_of HT_.out (by kernel_rfl)) (by decide) (fun K hK => ?_)
      refine goes_ Try.func67 (by kernel_rfl) rfl #[.agg #[.slice (some qu) ((rd_T52 l0_1 qd).f0).length c513_0, .int .i64 ((rd_T52 l0_1 qd).f1), .bool ((rd_T52 l0_1 qd).f2)], .int .i64 (wrap64 (-(rd ((rd_T52 l0_1 qa).f0) a1))), .agg #[.slice (some qm) ((rd_T52 l0_1 qa).f0).length c516_0, .int .i64 ((rd_T52 l0_1 qa).f1), .bool ((rd_T52 l0_1 qa).f2)], .int .i64 (rd ((rd_T52 l0_1 qd).f0) a1)] (by rfl) rfl rfl (by (try simp only [List.map_toArray, List.map_cons, List.map_nil]); first | done | rfl | (simp only [List.length_drop, List.length_take]; rfl)) ?_
      with_reducible refine (impl_MixAtoms.calls k4 _ _ ((rd_T52 l0_1 qd).f0) ((rd_T52 l0_1 qd).f1) ((rd_T52 l0_1 qd).f2) (wrap64 (-(rd ((rd_T52 l0_1 qa).f0) a1))) _ _ ((rd_T52 l0_1 qa).f0) ((rd_T52 l0_1 qa).f1) ((rd_T52 l0_1 qa).f2) (rd ((rd_T52 l0_1 qd).f0) a1) qF qG qH true _ ?side1 ?side2 ?side3 ?side4 A74.out).mono ?_
      (case side1 => exact cb_ qI HB)
      (case side2 => exact ze.out)
      (case side3 => repeat (first | exact ((Kd.V_reads' HL516_0.out).2.2) | (with_reducible refine Kd.C_alloc ?_ _) | (with_reducible refine Kd.C_drewN ?_ _) | (with_reducible refine Kd.C_drew ?_)))
      (case side4 => exact zb.out)
      rintro e Ji ⟨qU, rfl, ho0, hb⟩
      have HS6_ := (hb.cell (World.block_lt_of_cell? _ _ (hHeld.2.2.2.2.2.2.1))).trans (hHeld.2.2.2.2.2.2.1)
      refine ⟨_, rfl, ?_⟩
      replace qq := Aside0.mk (Kd.N_elder' (nm_ qq) (Kd.R_base ho0) hb); replace qo := Aside0.mk (Kd.V_elder' (vm_ qo) (Kd.R_base ho0) hb); replace qp := Aside0.mk (Kd.V_elder' (vm_ qp) (Kd.R_base ho0) hb); replace qc := Aside0.mk (Kd.V_elder' (vm_ qc) (Kd.R_base ho0) hb); replace HL516_0 := Aside0.mk (Kd.V_elder' (vm_ HL516_0) (Kd.R_base ho0) hb); have qO := Aside0.mk (Kd.R_lower (Kd.R_newM (M := fun k_ => (w.heap.size ≤ k_)) ho0 (bz_ HB) (fun k_ h_ => h_)) (bz_ HB)); replace qf := kB_ qf hb; replace qh := kB_ qh hb; replace qj := kB_ qj hb; replace ql := kB_ ql hb; replace qE := kB_ qE hb; replace HB := bS_ HB hb; (try clear hb); (try clear hb2); (try clear hk); (try clear hi); (try clear ho0)
      refine hK.out _ _ ⟨bc_ qj 0, bc_ qj 1, bc_ qj 2, bc_ ql 0, bc_ ql 1, bc_ ql 2, HS6_, (ct_ HB hw520_0 :)⟩ (fun hHeld => ?_)
      clear hK K
      refine norm_ (a' := ?_) ?_ ?_
      rotate_left
      ·
       show Act.put _ (some 88) _ = _
       simp only [Act.put, sa_, s0_, s1_, i64_w, i32_w]
       rfl
      refine pX_ 14 (some 74) (fl_ 20 163839) HT_ ?_
      refine pX_ 15 (some 89) (fl_ 20 196607) HT_ ?_
      refine pX_ 16 (some 90) (fl_ 20 262143) HT_ ?_
      exact norm_ (by simp only [putAll, Act.put, List.setIfInBounds_toArray, List.set_cons_zero, List.set_cons_succ]) (hCont (qU, qe) _ ⟨hHeld, (by (with_reducible repeat (first | apply Kd.V_alloc | apply Kd.V_drewN | apply Kd.V_drew)); exact Kd.V_mono HL516_0.out (fun _ hk => ⟨hk.1.1.1, ⟨hk.2, ⟨hk.1.1.2.1, ⟨hk.1.1.2.2.1, ⟨hk.1.1.2.2.2.1, ⟨hk.1.1.2.2.2.2.1, ⟨hk.1.1.2.2.2.2.2, hk.1.2⟩⟩⟩⟩⟩⟩⟩)), (by (with_reducible repeat (first | apply Kd.R_alloc | apply Kd.R_drewN | apply Kd.R_drew)); exact Kd.R_mono qO.out (fun _ hk => hk.1)), (by (with_reducible repeat (first | apply Kd.V_alloc | apply Kd.V_drewN | apply Kd.V_drew)); exact Kd.V_mono qo.out (fun _ hk => ⟨hk.1.1.1, ⟨hk.2, ⟨hk.1.1.2.1, ⟨hk.1.1.2.2.1, ⟨hk.1.1.2.2.2.1, ⟨hk.1.1.2.2.2.2.1, ⟨hk.1.1.2.2.2.2.2, hk.1.2⟩⟩⟩⟩⟩⟩⟩)), (by (with_reducible repeat (first | apply Kd.V_alloc | apply Kd.V_drewN | apply Kd.V_drew)); exact Kd.V_mono qc.out (fun _ hk => ⟨hk.1.1.1, ⟨hk.2, ⟨hk.1.1.2.1, ⟨hk.1.1.2.2.1, ⟨hk.1.1.2.2.2.1, ⟨hk.1.1.2.2.2.2.1, ⟨hk.1.1.2.2.2.2.2, hk.1.2⟩⟩⟩⟩⟩⟩⟩)), (by (with_reducible repeat (first | apply Kd.N_alloc | apply Kd.N_drewN | apply Kd.N_drew)); exact Kd.N_mono qq.out (fun _ hk => ⟨hk.1.1.1, ⟨hk.2, ⟨hk.1.1.2.1, ⟨hk.1.1.2.2.1, ⟨hk.1.1.2.2.2.1, ⟨hk.1.1.2.2.2.2, hk.1.2⟩⟩⟩⟩⟩⟩)), (by (with_reducible repeat (first | apply Kd.V_alloc | apply Kd.V_drewN | apply Kd.V_drew)); exact Kd.V_mono qp.out (fun _ hk => ⟨hk.1.1.1, ⟨hk.2, ⟨hk.1.1.2.1, ⟨hk.1.1.2.2.1, ⟨hk.1.1.2.2.2.1, ⟨hk.1.1.2.2.2.2.1, ⟨hk.1.1.2.2.2.2.2, hk.1.2⟩⟩⟩⟩⟩⟩⟩)), (kf_ qf), (kf_ qh), (kf_ qj), (kf_ ql), (kf_ qE), q7.out, zh.out, qy.out, qz.out, qv.out, qw.out, qr.out, qA.out, qs.out, qB.out, (bb_ HB)⟩)
     rintro ⟨qU, qe⟩ q4 ⟨hS_, h0_, h1_, h2_, h3_, h4_, h5_, h6_, h7_, h8_, h9_, h10_, h11_, h12_, h13_, h14_, h15_, h16_, h17_, h18_, h19_, h20_, h21_⟩
     have n0_ : Aside0 (Kd.V (Kd.int .i64) 3 q4 w.heap.size (fun k_ => (P0_1_ k_ ∨ w.heap.size ≤ k_) ∧ some k_ ≠ (qU : Value).ownBlock ∧ some k_ ≠ (u6 : Value).ownBlock ∧ k_ ≠ qk ∧ k_ ≠ qi ∧ k_ ≠ qg ∧ k_ ≠ qb ∧ k_ ≠ qe) (.slice (some qm) ((rd_T52 l0_1 qa).f0).length c516_0) ((rd_T52 l0_1 qa).f0)) := ⟨h0_⟩
     have n1_ : Aside0 (Kd.R (Kd.int .i64) 3 q4 w.heap.size (fun k_ => (w.heap.size ≤ k_)) qU qF) := ⟨h1_⟩
     have n2_ : Aside0 (Kd.V k52 52 q4 w.heap.size (fun k_ => (P0_1_ k_ ∨ w.heap.size ≤ k_) ∧ some k_ ≠ (qU : Value).ownBlock ∧ some k_ ≠ (u6 : Value).ownBlock ∧ k_ ≠ qk ∧ k_ ≠ qi ∧ k_ ≠ qg ∧ k_ ≠ qb ∧ k_ ≠ qe) (.slice (some qx) l0_1.length c0_1) l0_1) := ⟨h2_⟩
     have n3_ : Aside0 (Kd.V k52 52 q4 w.heap.size (fun k_ => (P0_1_ k_ ∨ w.heap.size ≤ k_) ∧ some k_ ≠ (qU : Value).ownBlock ∧ some k_ ≠ (u6 : Value).ownBlock ∧ k_ ≠ qk ∧ k_ ≠ qi ∧ k_ ≠ qg ∧ k_ ≠ qb ∧ k_ ≠ qe) (.slice (some qx) l0_1.length c0_1) l0_1) := ⟨h3_⟩
     have n4_ : Aside0 (Kd.N k52 52 q4 w.heap.size (fun k_ => (P0_1_ k_ ∨ w.heap.size ≤ k_) ∧ some k_ ≠ (qU : Value).ownBlock ∧ k_ ≠ qk ∧ k_ ≠ qi ∧ k_ ≠ qg ∧ k_ ≠ qb ∧ k_ ≠ qe) u6 q3) := ⟨h4_⟩
     have n5_ : Aside0 (Kd.V k52 52 q4 w.heap.size (fun k_ => (P0_1_ k_ ∨ w.heap.size ≤ k_) ∧ some k_ ≠ (qU : Value).ownBlock ∧ some k_ ≠ (u6 : Value).ownBlock ∧ k_ ≠ qk ∧ k_ ≠ qi ∧ k_ ≠ qg ∧ k_ ≠ qb ∧ k_ ≠ qe) (.slice (some qx) l0_1.length c0_1) l0_1) := ⟨h5_⟩
     have n6_ : Aside0 (q4.heap[qk]? = some (.cells #[.int .i64 a0_0, .slice (some qx) l0_1.length c0_1] 28 (0, 0))) := ⟨h6_⟩
     have n7_ : Aside0 (q4.heap[qi]? = some (.cells #[.int .i64 qC, .slice none 0 0] 28 (0, 0))) := ⟨h7_⟩
     have n8_ : Aside0 (q4.heap[qg]? = some (.cells #[.slice (some qu) ((rd_T52 l0_1 qd).f0).length c513_0, .int .i64 ((rd_T52 l0_1 qd).f1), .bool ((rd_T52 l0_1 qd).f2)] 52 (0, 0))) := ⟨h8_⟩
     have n9_ : Aside0 (q4.heap[qb]? = some (.cells #[.slice (some qm) ((rd_T52 l0_1 qa).f0).length c516_0, .int .i64 ((rd_T52 l0_1 qa).f1), .bool ((rd_T52 l0_1 qa).f2)] 52 (0, 0))) := ⟨h9_⟩
     have n10_ : Aside0 (q4.heap[qe]? = some (.cells #[.slice none 0 0, .int .i64 0, .bool false] 52 (0, 0))) := ⟨h10_⟩
     have n11_ : Aside0 (w.heap.size ≤ qe) := ⟨h11_⟩
     have n12_ : Aside0 (w.heap.size ≤ qe) := ⟨h12_⟩
     have n13_ : Aside0 (qk ≠ qe) := ⟨h13_⟩
     have n14_ : Aside0 (qe ≠ qk) := ⟨h14_⟩
     have n15_ : Aside0 (qi ≠ qe) := ⟨h15_⟩
     have n16_ : Aside0 (qe ≠ qi) := ⟨h16_⟩
     have n17_ : Aside0 (qg ≠ qe) := ⟨h17_⟩
     have n18_ : Aside0 (qe ≠ qg) := ⟨h18_⟩
     have n19_ : Aside0 (qb ≠ qe) := ⟨h19_⟩
     have n20_ : Aside0 (qe ≠ qb) := ⟨h20_⟩
     have n21_ : Aside0 (Below w.heap.size w q4) := ⟨h21_⟩
     clear qq
     clear qo
     clear qp
     clear qc
     clear HL516_0
     clear qf
     clear qh
     clear qj
     clear ql
     clear HB
     clear h0_ h1_ h2_ h3_ h4_ h5_ h6_ h7_ h8_ h9_ h10_ h11_ h12_ h13_ h14_ h15_ h16_ h17_ h18_ h19_ h20_ h21_
     have HL516_0 := n0_
     have qO := n1_
     have qo := n2_
     have qc := n3_
     have qq := n4_
     have qp := n5_
     have qf := n6_
     have qh := n7_
     have qj := n8_
     have ql := n9_
     have qE := n10_
     have q7 := n11_
     have zh := n12_
     have qy := n13_
     have qz := n14_
     have qv := n15_
     have qw := n16_
     have qr := n17_
     have qA := n18_
     have qs := n19_
     have qB := n20_
     have HB := n21_
     clear n0_ n1_ n2_ n3_ n4_ n5_ n6_ n7_ n8_ n9_ n10_ n11_ n12_ n13_ n14_ n15_ n16_ n17_ n18_ n19_ n20_ n21_
     have hHeld : q4.cell? ⟨qg, 0, none⟩ = some (.slice (some qu) ((rd_T52 l0_1 qd).f0).length c513_0) ∧ q4.cell? ⟨qg, 1, none⟩ = some (.int .i64 ((rd_T52 l0_1 qd).f1)) ∧ q4.cell? ⟨qg, 2, none⟩ = some (.bool ((rd_T52 l0_1 qd).f2)) ∧ q4.cell? ⟨qb, 0, none⟩ = some (.slice (some qm) ((rd_T52 l0_1 qa).f0).length c516_0) ∧ q4.cell? ⟨qb, 1, none⟩ = some (.int .i64 ((rd_T52 l0_1 qa).f1)) ∧ q4.cell? ⟨qb, 2, none⟩ = some (.bool ((rd_T52 l0_1 qa).f2)) ∧ q4.cell? (qm.add (a1).toNat) = some (.int .i64 (rd ((rd_T52 l0_1 qa).f0) a1)) ∧ q4.cell? (qu.add (a1).toNat) = some (.int .i64 (rd ((rd_T52 l0_1 qd).f0) a1)) := hS_
     obtain ⟨qM, qN, eo87⟩ := Kd.R_slice qO.out
     (first | subst eo87 | (injection eo87 with f1_ f2_ f3_; have f4_ := f1_.symm; have f5_ := f3_.symm; clear f1_ f2_ f3_; subst f4_; subst f5_))
     refine norm_ (a' := ?_) ?_ ?_
     rotate_left
     ·
      simp only [putAll, Act.put, List.setIfInBounds_toArray, List.set_cons_zero, List.set_cons_succ]
      rfl
     refine one_ (i := 18) (N := none) (fl_ 20 524287) rfl rfl (one_of HT_.out (by kernel_rfl)) (by decide) (fun K hK => ?_)
     have hs88 : q4.cell? ⟨qe, 0, none⟩ = some (.slice none 0 0) := bc_ qE 0
     have hfs88 := blk_frozen qE.out 0
     have hns88_0 := qy.out
     have hns88_1 := qv.out
     have hns88_2 := qr.out
     have hns88_3 := qs.out
     have hms88_0 := qz.out
     have hms88_1 := qw.out
     have hms88_2 := qA.out
     have hms88_3 := qB.out
     have hs89 : q4.cell? ⟨qe, 1, none⟩ = some (.int .i64 0) := bc_ qE 1
     have hfs89 := blk_frozen qE.out 1
     have hns89_0 := qy.out
     have hns89_1 := qv.out
     have hns89_2 := qr.out
     have hns89_3 := qs.out
     have hms89_0 := qz.out
     have hms89_1 := qw.out
     have hms89_2 := qA.out
     have hms89_3 := qB.out
     have hs90 : q4.cell? ⟨qe, 2, none⟩ = some (.bool false) := bc_ qE 2
     have hfs90 := blk_frozen qE.out 2
     have hns90_0 := qy.out
     have hns90_1 := qv.out
     have hns90_2 := qr.out
     have hns90_3 := qs.out
     have hms90_0 := qz.out
     have hms90_1 := qw.out
     have hms90_2 := qA.out
     have hms90_3 := qB.out
     refine skip_ (w1 := ?_) (by rfl) rfl ?_ ?_
     rotate_left
     ·
      go_simp
      rfl
     refine hK.out _ _ ⟨(cf3_ (g := qe) qr.out hHeld.1), (cf3_ (g := qe) qr.out hHeld.2.1), (cf3_ (g := qe) qr.out hHeld.2.2.1), (cf3_ (g := qe) qs.out hHeld.2.2.2.1), (cf3_ (g := qe) qs.out hHeld.2.2.2.2.1), (cf3_ (g := qe) qs.out hHeld.2.2.2.2.2.1), (cf3b_ (g := qe) hHeld.2.2.2.2.2.2.1 (vb_ HL516_0 (by have h1_ : 0 ≤ (a1 : Int) := od_; have h2_ : a1 < (((rd_T52 l0_1 qa).f0).length : Int) := od_; omega) (fun _ hk => hk.2.2.2.2.2.2.2) (by show 0 < 1; decide)) (by first | rfl | exact add_block _ _)), (cf3_ (g := qe) (Nat.ne_of_lt (Nat.lt_of_lt_of_le (by have := World.block_lt_of_cell? _ _ hw520_0; first | rwa [add_block] at this | exact this) q7.out)) hHeld.2.2.2.2.2.2.2)⟩ (fun hHeld => ?_)
     clear hK K
     refine pX_ 19 (some 14) (fl_ 20 1048575) HT_ ?_
     refine done_ (done_of HT_.out (by kernel_rfl)) ?_
     have n0_ : Aside0 (Kd.N k52 52 (((q4.setCell ⟨qe, 0, none⟩ (.slice qM qF.length qN)).setCell ⟨qe, 1, none⟩ (.int .i64 qG)).setCell ⟨qe, 2, none⟩ (.bool qH)) w.heap.size (fun k_ => (P0_1_ k_ ∨ w.heap.size ≤ k_) ∧ some k_ ≠ (.slice qM qF.length qN : Value).ownBlock ∧ k_ ≠ qk ∧ k_ ≠ qi ∧ k_ ≠ qg ∧ k_ ≠ qb ∧ k_ ≠ qe) u6 q3) := ⟨by (with_reducible repeat (first | apply Kd.N_alloc | apply Kd.N_drewN | apply Kd.N_drew)); exact Kd.N_mono (Kd.N_far (p := ⟨qe, 2, none⟩) (Kd.N_far (p := ⟨qe, 1, none⟩) (Kd.N_far (p := ⟨qe, 0, none⟩) (Kd.N_mono qq.out (fun k_ hk => (⟨hk, hk.2.2.2.2.2.2⟩ : _ ∧ k_ ≠ qe))) (fun _ hk => hk.2) (.slice qM qF.length qN)) (fun _ hk => hk.2) (.int .i64 qG)) (fun _ hk => hk.2) (.bool qH)) (fun _ hk => ⟨hk.1.1, ⟨hk.1.2.1, ⟨hk.1.2.2.1, ⟨hk.1.2.2.2.1, ⟨hk.1.2.2.2.2.1, ⟨hk.1.2.2.2.2.2.1, hk.1.2.2.2.2.2.2⟩⟩⟩⟩⟩⟩)⟩
     have n1_ : Aside0 (Kd.V k52 52 (((q4.setCell ⟨qe, 0, none⟩ (.slice qM qF.length qN)).setCell ⟨qe, 1, none⟩ (.int .i64 qG)).setCell ⟨qe, 2, none⟩ (.bool qH)) w.heap.size (fun k_ => (P0_1_ k_ ∨ w.heap.size ≤ k_) ∧ some k_ ≠ (u6 : Value).ownBlock ∧ some k_ ≠ (.slice qM qF.length qN : Value).ownBlock ∧ k_ ≠ qk ∧ k_ ≠ qi ∧ k_ ≠ qg ∧ k_ ≠ qb ∧ k_ ≠ qe) (.slice (some qx) l0_1.length c0_1) l0_1) := ⟨by (with_reducible repeat (first | apply Kd.V_alloc | apply Kd.V_drewN | apply Kd.V_drew)); exact Kd.V_mono (Kd.V_far (p := ⟨qe, 2, none⟩) (Kd.V_far (p := ⟨qe, 1, none⟩) (Kd.V_far (p := ⟨qe, 0, none⟩) (Kd.V_mono qo.out (fun k_ hk => (⟨hk, hk.2.2.2.2.2.2.2⟩ : _ ∧ k_ ≠ qe))) (fun _ hk => hk.2) (.slice qM qF.length qN)) (fun _ hk => hk.2) (.int .i64 qG)) (fun _ hk => hk.2) (.bool qH)) (fun _ hk => ⟨hk.1.1, ⟨hk.1.2.2.1, ⟨hk.1.2.1, ⟨hk.1.2.2.2.1, ⟨hk.1.2.2.2.2.1, ⟨hk.1.2.2.2.2.2.1, ⟨hk.1.2.2.2.2.2.2.1, hk.1.2.2.2.2.2.2.2⟩⟩⟩⟩⟩⟩⟩)⟩
     have n2_ : Aside0 (Kd.V k52 52 (((q4.setCell ⟨qe, 0, none⟩ (.slice qM qF.length qN)).setCell ⟨qe, 1, none⟩ (.int .i64 qG)).setCell ⟨qe, 2, none⟩ (.bool qH)) w.heap.size (fun k_ => (P0_1_ k_ ∨ w.heap.size ≤ k_) ∧ some k_ ≠ (u6 : Value).ownBlock ∧ some k_ ≠ (.slice qM qF.length qN : Value).ownBlock ∧ k_ ≠ qk ∧ k_ ≠ qi ∧ k_ ≠ qg ∧ k_ ≠ qb ∧ k_ ≠ qe) (.slice (some qx) l0_1.length c0_1) l0_1) := ⟨by (with_reducible repeat (first | apply Kd.V_alloc | apply Kd.V_drewN | apply Kd.V_drew)); exact Kd.V_mono (Kd.V_far (p := ⟨qe, 2, none⟩) (Kd.V_far (p := ⟨qe, 1, none⟩) (Kd.V_far (p := ⟨qe, 0, none⟩) (Kd.V_mono qp.out (fun k_ hk => (⟨hk, hk.2.2.2.2.2.2.2⟩ : _ ∧ k_ ≠ qe))) (fun _ hk => hk.2) (.slice qM qF.length qN)) (fun _ hk => hk.2) (.int .i64 qG)) (fun _ hk => hk.2) (.bool qH)) (fun _ hk => ⟨hk.1.1, ⟨hk.1.2.2.1, ⟨hk.1.2.1, ⟨hk.1.2.2.2.1, ⟨hk.1.2.2.2.2.1, ⟨hk.1.2.2.2.2.2.1, ⟨hk.1.2.2.2.2.2.2.1, hk.1.2.2.2.2.2.2.2⟩⟩⟩⟩⟩⟩⟩)⟩
     have n3_ : Aside0 (Kd.V k52 52 (((q4.setCell ⟨qe, 0, none⟩ (.slice qM qF.length qN)).setCell ⟨qe, 1, none⟩ (.int .i64 qG)).setCell ⟨qe, 2, none⟩ (.bool qH)) w.heap.size (fun k_ => (P0_1_ k_ ∨ w.heap.size ≤ k_) ∧ some k_ ≠ (u6 : Value).ownBlock ∧ some k_ ≠ (.slice qM qF.length qN : Value).ownBlock ∧ k_ ≠ qk ∧ k_ ≠ qi ∧ k_ ≠ qg ∧ k_ ≠ qb ∧ k_ ≠ qe) (.slice (some qx) l0_1.length c0_1) l0_1) := ⟨by (with_reducible repeat (first | apply Kd.V_alloc | apply Kd.V_drewN | apply Kd.V_drew)); exact Kd.V_mono (Kd.V_far (p := ⟨qe, 2, none⟩) (Kd.V_far (p := ⟨qe, 1, none⟩) (Kd.V_far (p := ⟨qe, 0, none⟩) (Kd.V_mono qc.out (fun k_ hk => (⟨hk, hk.2.2.2.2.2.2.2⟩ : _ ∧ k_ ≠ qe))) (fun _ hk => hk.2) (.slice qM qF.length qN)) (fun _ hk => hk.2) (.int .i64 qG)) (fun _ hk => hk.2) (.bool qH)) (fun _ hk => ⟨hk.1.1, ⟨hk.1.2.2.1, ⟨hk.1.2.1, ⟨hk.1.2.2.2.1, ⟨hk.1.2.2.2.2.1, ⟨hk.1.2.2.2.2.2.1, ⟨hk.1.2.2.2.2.2.2.1, hk.1.2.2.2.2.2.2.2⟩⟩⟩⟩⟩⟩⟩)⟩
     have n4_ : Aside0 (Kd.V (Kd.int .i64) 3 (((q4.setCell ⟨qe, 0, none⟩ (.slice qM qF.length qN)).setCell ⟨qe, 1, none⟩ (.int .i64 qG)).setCell ⟨qe, 2, none⟩ (.bool qH)) w.heap.size (fun k_ => (P0_1_ k_ ∨ w.heap.size ≤ k_) ∧ some k_ ≠ (u6 : Value).ownBlock ∧ some k_ ≠ (.slice qM qF.length qN : Value).ownBlock ∧ k_ ≠ qk ∧ k_ ≠ qi ∧ k_ ≠ qg ∧ k_ ≠ qb ∧ k_ ≠ qe) (.slice (some qm) ((rd_T52 l0_1 qa).f0).length c516_0) ((rd_T52 l0_1 qa).f0)) := ⟨by (with_reducible repeat (first | apply Kd.V_alloc | apply Kd.V_drewN | apply Kd.V_drew)); exact Kd.V_mono (Kd.V_far (p := ⟨qe, 2, none⟩) (Kd.V_far (p := ⟨qe, 1, none⟩) (Kd.V_far (p := ⟨qe, 0, none⟩) (Kd.V_mono HL516_0.out (fun k_ hk => (⟨hk, hk.2.2.2.2.2.2.2⟩ : _ ∧ k_ ≠ qe))) (fun _ hk => hk.2) (.slice qM qF.length qN)) (fun _ hk => hk.2) (.int .i64 qG)) (fun _ hk => hk.2) (.bool qH)) (fun _ hk => ⟨hk.1.1, ⟨hk.1.2.2.1, ⟨hk.1.2.1, ⟨hk.1.2.2.2.1, ⟨hk.1.2.2.2.2.1, ⟨hk.1.2.2.2.2.2.1, ⟨hk.1.2.2.2.2.2.2.1, hk.1.2.2.2.2.2.2.2⟩⟩⟩⟩⟩⟩⟩)⟩
     have n5_ : Aside0 (Kd.R (Kd.int .i64) 3 (((q4.setCell ⟨qe, 0, none⟩ (.slice qM qF.length qN)).setCell ⟨qe, 1, none⟩ (.int .i64 qG)).setCell ⟨qe, 2, none⟩ (.bool qH)) w.heap.size (fun k_ => (w.heap.size ≤ k_)) (.slice qM qF.length qN) qF) := ⟨by (with_reducible repeat (first | apply Kd.R_alloc | apply Kd.R_drewN | apply Kd.R_drew)); exact Kd.R_mono (Kd.R_far (p := ⟨qe, 2, none⟩) (Kd.R_far (p := ⟨qe, 1, none⟩) (Kd.R_far (p := ⟨qe, 0, none⟩) (Kd.R_types qO.out qE.out (by decide)) (fun _ hk => hk.2) (.slice qM qF.length qN)) (fun _ hk => hk.2) (.int .i64 qG)) (fun _ hk => hk.2) (.bool qH)) (fun _ hk => hk.1)⟩
     have n6_ : Aside0 ((((q4.setCell ⟨qe, 0, none⟩ (.slice qM qF.length qN)).setCell ⟨qe, 1, none⟩ (.int .i64 qG)).setCell ⟨qe, 2, none⟩ (.bool qH)).heap[qk]? = some (.cells #[.int .i64 a0_0, .slice (some qx) l0_1.length c0_1] 28 (0, 0))) := ⟨kf_ qf⟩
     have n7_ : Aside0 ((((q4.setCell ⟨qe, 0, none⟩ (.slice qM qF.length qN)).setCell ⟨qe, 1, none⟩ (.int .i64 qG)).setCell ⟨qe, 2, none⟩ (.bool qH)).heap[qi]? = some (.cells #[.int .i64 qC, .slice none 0 0] 28 (0, 0))) := ⟨kf_ qh⟩
     have n8_ : Aside0 ((((q4.setCell ⟨qe, 0, none⟩ (.slice qM qF.length qN)).setCell ⟨qe, 1, none⟩ (.int .i64 qG)).setCell ⟨qe, 2, none⟩ (.bool qH)).heap[qg]? = some (.cells #[.slice (some qu) ((rd_T52 l0_1 qd).f0).length c513_0, .int .i64 ((rd_T52 l0_1 qd).f1), .bool ((rd_T52 l0_1 qd).f2)] 52 (0, 0))) := ⟨kf_ qj⟩
     have n9_ : Aside0 ((((q4.setCell ⟨qe, 0, none⟩ (.slice qM qF.length qN)).setCell ⟨qe, 1, none⟩ (.int .i64 qG)).setCell ⟨qe, 2, none⟩ (.bool qH)).heap[qb]? = some (.cells #[.slice (some qm) ((rd_T52 l0_1 qa).f0).length c516_0, .int .i64 ((rd_T52 l0_1 qa).f1), .bool ((rd_T52 l0_1 qa).f2)] 52 (0, 0))) := ⟨kf_ ql⟩
     have n10_ : Aside0 ((((q4.setCell ⟨qe, 0, none⟩ (.slice qM qF.length qN)).setCell ⟨qe, 1, none⟩ (.int .i64 qG)).setCell ⟨qe, 2, none⟩ (.bool qH)).heap[qe]? = some (.cells #[.slice qM qF.length qN, .int .i64 qG, .bool qH] 52 (0, 0))) := ⟨kp_ qE⟩
     have n11_ : Aside0 (Below w.heap.size w (((q4.setCell ⟨qe, 0, none⟩ (.slice qM qF.length qN)).setCell ⟨qe, 1, none⟩ (.int .i64 qG)).setCell ⟨qe, 2, none⟩ (.bool qH))) := ⟨bb_ HB⟩
     generalize (((q4.setCell ⟨qe, 0, none⟩ (.slice qM qF.length qN)).setCell ⟨qe, 1, none⟩ (.int .i64 qG)).setCell ⟨qe, 2, none⟩ (.bool qH)) = Ju at n0_ n1_ n2_ n3_ n4_ n5_ n6_ n7_ n8_ n9_ n10_ n11_ ⊢
     have qq := n0_
     have qo := n1_
     have qp := n2_
     have qc := n3_
     have HL516_0 := n4_
     have qO := n5_
     have qf := n6_
     have qh := n7_
     have qj := n8_
     have ql := n9_
     have qE := n10_
     have HB := n11_
     clear n0_ n1_ n2_ n3_ n4_ n5_ n6_ n7_ n8_ n9_ n10_ n11_
     have Z0 := qz.out
     have Z1 := qy.out
     have Z2 := qw.out
     have Z3 := qv.out
     have Z4 := qA.out
     have Z5 := qr.out
     have Z6 := qB.out
     have Z7 := qs.out
     obtain ⟨QG, QH, QI, QJ, QK, QL⟩ := b3_ qE
     try go_wp2_with (first | ((with_reducible refine gate_builtin (b := .append) (xs := #[.tmp 94, .tmp 96]) rfl ?_); at_builtin; refine Kd.N_append k52 (w0 := w) w.heap.size rfl (.tmp 94) (.tmp 96) 26 52 (.agg #[(.slice none 0 0), (.int .i64 0), (.bool false)]) 40 rfl Try.underlying26 info52 rfl (by decide) (by omega) u6 q3 (⟨qF, qG, qH⟩ : S52) [.slice qM qF.length qN, .int .i64 qG, .bool qH] (fun k_ => (P0_1_ k_ ∨ w.heap.size ≤ k_) ∧ k_ ≠ qk ∧ k_ ≠ qi ∧ k_ ≠ qg ∧ k_ ≠ qb ∧ k_ ≠ qe) (fun k_ => ((fun k_ => (P0_1_ k_ ∨ w.heap.size ≤ k_) ∧ k_ ≠ qk ∧ k_ ≠ qi ∧ k_ ≠ qg ∧ k_ ≠ qb ∧ k_ ≠ qe)) k_ ∧ some k_ ≠ (u6 : Value).ownBlock) rfl rfl ?aP (fun _ hk => hk) ?aF ?aO ?aB ?aS ?aL ?_; (case aP => exact (k52_mkF _ _ (⟨qF, qG, qH⟩ : S52) (Kd.R_reads' (Kd.R_mono (ok' := (fun k_ => ((fun k_ => (P0_1_ k_ ∨ w.heap.size ≤ k_) ∧ k_ ≠ qk ∧ k_ ≠ qi ∧ k_ ≠ qg ∧ k_ ≠ qb ∧ k_ ≠ qe)) k_ ∧ some k_ ≠ (u6 : Value).ownBlock)) (Kd.R_types (Kd.R_types (Kd.R_types (Kd.R_types (Kd.R_types (Kd.R_apart' (qO.out) (Kd.N_typed qq.out) (by decide)) qf.out (by decide)) qh.out (by decide)) qj.out (by decide)) ql.out (by decide)) qE.out (by decide)) (fun k_ hk => ⟨⟨(.inr (hk.1.1.1.1.1.1)), ⟨hk.1.1.1.1.2, ⟨hk.1.1.1.2, ⟨hk.1.1.2, ⟨hk.1.2, hk.2⟩⟩⟩⟩⟩, hk.1.1.1.1.1.2⟩))).2.1 (Kd.R_F (Kd.R_mono (ok' := (fun k_ => ((fun k_ => (P0_1_ k_ ∨ w.heap.size ≤ k_) ∧ k_ ≠ qk ∧ k_ ≠ qi ∧ k_ ≠ qg ∧ k_ ≠ qb ∧ k_ ≠ qe)) k_ ∧ some k_ ≠ (u6 : Value).ownBlock)) (Kd.R_types (Kd.R_types (Kd.R_types (Kd.R_types (Kd.R_types (Kd.R_apart' (qO.out) (Kd.N_typed qq.out) (by decide)) qf.out (by decide)) qh.out (by decide)) qj.out (by decide)) ql.out (by decide)) qE.out (by decide)) (fun k_ hk => ⟨⟨(.inr (hk.1.1.1.1.1.1)), ⟨hk.1.1.1.1.2, ⟨hk.1.1.1.2, ⟨hk.1.1.2, ⟨hk.1.2, hk.2⟩⟩⟩⟩⟩, hk.1.1.1.1.1.2⟩))))); (case aB => exact (bb_ HB)); (case aF => exact (fun k_ hk => ⟨(.inr (Nat.le_trans (bz_ HB) hk)), Kd.freshB (g := qk) (o := .cells #[.int .i64 a0_0, .slice (some qx) l0_1.length c0_1] 28 (0, 0)) (kf_ qf) k_ hk, Kd.freshB (g := qi) (o := .cells #[.int .i64 qC, .slice none 0 0] 28 (0, 0)) (kf_ qh) k_ hk, Kd.freshB (g := qg) (o := .cells #[.slice (some qu) ((rd_T52 l0_1 qd).f0).length c513_0, .int .i64 ((rd_T52 l0_1 qd).f1), .bool ((rd_T52 l0_1 qd).f2)] 52 (0, 0)) (kf_ qj) k_ hk, Kd.freshB (g := qb) (o := .cells #[.slice (some qm) ((rd_T52 l0_1 qa).f0).length c516_0, .int .i64 ((rd_T52 l0_1 qa).f1), .bool ((rd_T52 l0_1 qa).f2)] 52 (0, 0)) (kf_ ql) k_ hk, Kd.freshB (g := qe) (o := .cells #[.slice qM qF.length qN, .int .i64 qG, .bool qH] 52 (0, 0)) (kf_ qE) k_ hk⟩)); (case aO => exact (by (with_reducible repeat (first | apply Kd.N_alloc | apply Kd.N_drewN | apply Kd.N_drew)); exact Kd.N_mono qq.out (fun _ hk => ⟨hk.1, ⟨hk.2.2.1, ⟨hk.2.2.2.1, ⟨hk.2.2.2.2.1, ⟨hk.2.2.2.2.2.1, hk.2.2.2.2.2.2⟩⟩⟩⟩⟩))); (case aS => exact (bz_ HB)); (case aL => have := LMc76.out; omega); intro Jj Jv ho hb hg hat; rw [← Ny528.out] at ho; replace qo := Aside0.mk (Kd.V_afterv (ok := (fun k_ => (P0_1_ k_ ∨ w.heap.size ≤ k_) ∧ some k_ ≠ (.slice qM qF.length qN : Value).ownBlock ∧ k_ ≠ qk ∧ k_ ≠ qi ∧ k_ ≠ qg ∧ k_ ≠ qb ∧ k_ ≠ qe)) (by (with_reducible repeat (first | apply Kd.V_alloc | apply Kd.V_drewN | apply Kd.V_drew)); exact Kd.V_mono qo.out (fun _ hk => ⟨⟨hk.1, ⟨hk.2.2.1, ⟨hk.2.2.2.1, ⟨hk.2.2.2.2.1, ⟨hk.2.2.2.2.2.1, ⟨hk.2.2.2.2.2.2.1, hk.2.2.2.2.2.2.2⟩⟩⟩⟩⟩⟩, hk.2.1⟩)) hg hat); replace qp := Aside0.mk (Kd.V_afterv (ok := (fun k_ => (P0_1_ k_ ∨ w.heap.size ≤ k_) ∧ some k_ ≠ (.slice qM qF.length qN : Value).ownBlock ∧ k_ ≠ qk ∧ k_ ≠ qi ∧ k_ ≠ qg ∧ k_ ≠ qb ∧ k_ ≠ qe)) (by (with_reducible repeat (first | apply Kd.V_alloc | apply Kd.V_drewN | apply Kd.V_drew)); exact Kd.V_mono qp.out (fun _ hk => ⟨⟨hk.1, ⟨hk.2.2.1, ⟨hk.2.2.2.1, ⟨hk.2.2.2.2.1, ⟨hk.2.2.2.2.2.1, ⟨hk.2.2.2.2.2.2.1, hk.2.2.2.2.2.2.2⟩⟩⟩⟩⟩⟩, hk.2.1⟩)) hg hat); replace qc := Aside0.mk (Kd.V_afterv (ok := (fun k_ => (P0_1_ k_ ∨ w.heap.size ≤ k_) ∧ some k_ ≠ (.slice qM qF.length qN : Value).ownBlock ∧ k_ ≠ qk ∧ k_ ≠ qi ∧ k_ ≠ qg ∧ k_ ≠ qb ∧ k_ ≠ qe)) (by (with_reducible repeat (first | apply Kd.V_alloc | apply Kd.V_drewN | apply Kd.V_drew)); exact Kd.V_mono qc.out (fun _ hk => ⟨⟨hk.1, ⟨hk.2.2.1, ⟨hk.2.2.2.1, ⟨hk.2.2.2.2.1, ⟨hk.2.2.2.2.2.1, ⟨hk.2.2.2.2.2.2.1, hk.2.2.2.2.2.2.2⟩⟩⟩⟩⟩⟩, hk.2.1⟩)) hg hat); replace qf := Aside0.mk (blk_grown (g := qk) (o := .cells #[.int .i64 a0_0, .slice (some qx) l0_1.length c0_1] 28 (0, 0)) (kf_ qf) hg (Kd.N_ne qq.out qf.out (by decide))); replace qh := Aside0.mk (blk_grown (g := qi) (o := .cells #[.int .i64 qC, .slice none 0 0] 28 (0, 0)) (kf_ qh) hg (Kd.N_ne qq.out qh.out (by decide))); replace qj := Aside0.mk (blk_grown (g := qg) (o := .cells #[.slice (some qu) ((rd_T52 l0_1 qd).f0).length c513_0, .int .i64 ((rd_T52 l0_1 qd).f1), .bool ((rd_T52 l0_1 qd).f2)] 52 (0, 0)) (kf_ qj) hg (Kd.N_away qq.out (fun _ hk => hk.2.2.2.2.1))); replace HL516_0 := Aside0.mk (Kd.V_afterv (ok := (fun k_ => (P0_1_ k_ ∨ w.heap.size ≤ k_) ∧ some k_ ≠ (.slice qM qF.length qN : Value).ownBlock ∧ k_ ≠ qk ∧ k_ ≠ qi ∧ k_ ≠ qg ∧ k_ ≠ qb ∧ k_ ≠ qe)) (by (with_reducible repeat (first | apply Kd.V_alloc | apply Kd.V_drewN | apply Kd.V_drew)); exact Kd.V_mono HL516_0.out (fun _ hk => ⟨⟨hk.1, ⟨hk.2.2.1, ⟨hk.2.2.2.1, ⟨hk.2.2.2.2.1, ⟨hk.2.2.2.2.2.1, ⟨hk.2.2.2.2.2.2.1, hk.2.2.2.2.2.2.2⟩⟩⟩⟩⟩⟩, hk.2.1⟩)) hg hat); replace ql := Aside0.mk (blk_grown (g := qb) (o := .cells #[.slice (some qm) ((rd_T52 l0_1 qa).f0).length c516_0, .int .i64 ((rd_T52 l0_1 qa).f1), .bool ((rd_T52 l0_1 qa).f2)] 52 (0, 0)) (kf_ ql) hg (Kd.N_away qq.out (fun _ hk => hk.2.2.2.2.2.1))); replace qE := Aside0.mk (blk_grown (g := qe) (o := .cells #[.slice qM qF.length qN, .int .i64 qG, .bool qH] 52 (0, 0)) (kf_ qE) hg (Kd.N_away qq.out (fun _ hk => hk.2.2.2.2.2.2))); replace HB := Aside0.mk (hb); have js := Aside0.mk (ho); clear qq; clear qO; clear ho hb hg hat))
     go_roundg k4
     case measure => have := HJ2.out; have := HK2.out; have := HK3.out; have := HK4.out; omega
     case rel => exact ⟨(y528), (wrap64 (qa + 1)), (qC), (by first | rfl | (simp; done) | (simp [*]; done)), H', ⟨by have := HJ2.out; have := HK2.out; have := HK3.out; have := HK4.out; omega⟩, ⟨by (with_reducible repeat (first | apply Kd.N_alloc | apply Kd.N_drewN | apply Kd.N_drew)); exact Kd.N_mono js.out (fun _ hk => ⟨hk.1, ⟨hk.2.1, ⟨hk.2.2.1, hk.2.2.2.1⟩⟩⟩)⟩, ⟨by (with_reducible repeat (first | apply Kd.V_alloc | apply Kd.V_drewN | apply Kd.V_drew)); exact Kd.V_mono qo.out (fun _ hk => ⟨hk.1.1, ⟨hk.2, ⟨hk.1.2.2.1, ⟨hk.1.2.2.2.1, hk.1.2.2.2.2.1⟩⟩⟩⟩)⟩, ⟨by (with_reducible repeat (first | apply Kd.V_alloc | apply Kd.V_drewN | apply Kd.V_drew)); exact Kd.V_mono qp.out (fun _ hk => ⟨hk.1.1, ⟨hk.2, ⟨hk.1.2.2.1, ⟨hk.1.2.2.2.1, hk.1.2.2.2.2.1⟩⟩⟩⟩)⟩, ⟨by (with_reducible repeat (first | apply Kd.V_alloc | apply Kd.V_drewN | apply Kd.V_drew)); exact Kd.V_mono qc.out (fun _ hk => ⟨hk.1.1, ⟨hk.2, ⟨hk.1.2.2.1, ⟨hk.1.2.2.2.1, hk.1.2.2.2.2.1⟩⟩⟩⟩)⟩, ⟨kf_ qf⟩, ⟨kf_ qh⟩, ⟨kf_ qj⟩, ⟨bb_ HB⟩⟩

/-! ### impl_projectionsOf: function 61 -/
def impl_projectionsOf.l0 : Nat → List (S28) → Int → Option ((List (S28)) × Bool)
 | 0, _, _ => none
 | k + 1, x4, x5 => if x5 ≥ 0 then (if 0 ≤ (wrap64 (x5 + 1)) then (if (wrap64 (x5 + 1)) < (x4.length : Int) then ((impl_DropVariable.f k ((rd_T28 x4 (wrap64 (x5 + 1))).f0) ((rd_T28 x4 (wrap64 (x5 + 1))).f1) x5).bind fun qw => (if qw.2.2 = true then (if 0 ≤ x5 then (if x5 < (x4.length : Int) then (impl_projectionsOf.l0 k (x4.set (x5 : Int).toNat (⟨qw.1, qw.2.1⟩ : S28)) (wrap64 (x5 - 1))) else (none)) else (none)) else (some (([] : List (S28)), false)))) else (none)) else (none)) else (some (x4, true))
def impl_projectionsOf.f (k : Nat) (a0_0 : Int) (l0_1 : List (S52)) : Option ((List (S28)) × Bool) := (impl_IsCell.f k a0_0 l0_1).bind fun qD => (if qD = true then (if 0 ≤ (wrap64 (a0_0 + 1)) then (if (wrap64 (a0_0 + 1) : Int).toNat ≤ 8796093022208 then ((some (List.replicate (wrap64 (a0_0 + 1) : Int).toNat z28 : List (S28))).bind fun y533 => ((impl_normalOf.f k a0_0 l0_1).bind fun ql => (if 0 ≤ a0_0 then (if a0_0 < (y533.length : Int) then (impl_projectionsOf.l0 k (y533.set (a0_0 : Int).toNat (⟨ql.1, ql.2⟩ : S28)) (wrap64 (a0_0 - 1))) else (none)) else (none)))) else (none)) else (none)) else (some (([] : List (S28)), false)))
theorem impl_projectionsOf.mono_l : ∀ k, (∀ y0 y1, LeO (impl_projectionsOf.l0 k y0 y1) (impl_projectionsOf.l0 (k + 1) y0 y1))
 | 0 => fun _ _ r h => by simp [impl_projectionsOf.l0] at h
 | k + 1 => by
  have ih0 := impl_projectionsOf.mono_l k
  ·
   intro y0 y1
   unfold impl_projectionsOf.l0
   repeat' first
   | (with_reducible exact ih0 _ _)
   | (with_reducible exact impl_DropVariable.mono _ _ _ _)
   | (with_reducible exact impl_IsCell.mono _ _ _)
   | (with_reducible exact impl_normalOf.mono _ _ _)
   | (with_reducible exact LeO.refl _)
   | (with_reducible exact LeO.none _)
   | (with_reducible refine LeO.ite ?_ ?_)
   | (with_reducible refine LeO.bind ?_ (fun _ => ?_))
theorem impl_projectionsOf.mono : ∀ a0 a1 k, LeO (impl_projectionsOf.f k a0 a1) (impl_projectionsOf.f (k + 1) a0 a1) := by
 intro a0 a1 k
 have ih0 := impl_projectionsOf.mono_l k
 unfold impl_projectionsOf.f
 repeat' first
   | (with_reducible exact ih0 _ _)
   | (with_reducible exact impl_DropVariable.mono _ _ _ _)
   | (with_reducible exact impl_IsCell.mono _ _ _)
   | (with_reducible exact impl_normalOf.mono _ _ _)
   | (with_reducible exact LeO.refl _)
   | (with_reducible exact LeO.none _)
   | (with_reducible refine LeO.ite ?_ ?_)
   | (with_reducible refine LeO.bind ?_ (fun _ => ?_))
def impl_projectionsOf.T4 : Bool × List (List Nat × List Nat) := (true, [([], []), ([], []), ([1], [1]), ([], []), ([3], [3]), ([], []), ([5], [5]), ([4, 6], [4, 6]), ([0, 2, 0, 1, 2, 3, 4, 5, 6, 7], [0, 2]), ([8, 7, 7, 0, 1, 2, 3, 4, 5, 6, 7], [7, 8])])
def impl_projectionsOf.B4 : List Nat := [0, 0, 2, 0, 8, 0, 32, 120, 255, 511]
theorem impl_projectionsOf.tab4 : rtab .any (opsOf Try.f61 4) = impl_projectionsOf.T4 := by kernel_rfl
theorem impl_projectionsOf.bits4 : waitsOk impl_projectionsOf.T4.2 impl_projectionsOf.B4 = true := by kernel_rfl
set_option maxHeartbeats 8000000 in
set_option maxRecDepth 100000 in
theorem impl_projectionsOf.calls (k : Nat) (a0_0 : Int) (P0_1_ : Nat → Prop) (A0_1 : Option Addr) (c0_1 : Nat) (l0_1 : List (S52)) (r1 : List (S28)) (r2 : Bool) (w : World) (hs0_1 : Kd.V k52 52 w w.heap.size (fun k_ => P0_1_ k_) (.slice A0_1 l0_1.length c0_1) l0_1) (h : impl_projectionsOf.f k a0_0 l0_1 = some (r1, r2)) :
  Calls Try.prog 61 #[.agg #[.int .i64 a0_0, .slice A0_1 l0_1.length c0_1]] w fun e w' => ∃ v0_ : Value, e = .returned (.tuple #[v0_, .bool r2]) ∧ Kd.N k28 28 w' w.heap.size (fun k_ => (P0_1_ k_ ∨ w.heap.size ≤ k_)) v0_ r1 ∧ Below w.heap.size w w' := by
 have hu28 := Try.underlying28
 have qf := Aside0.mk (show Kd.V k52 52 w w.heap.size (fun k_ => (P0_1_ k_ ∨ w.heap.size ≤ k_)) (.slice A0_1 l0_1.length c0_1) l0_1 from Kd.V_mono hs0_1 (fun k_ hk => .inl hk))
 have HB := Aside0.mk (Below.refl w.heap.size w)
 have H : ((impl_IsCell.f k a0_0 l0_1).bind fun qD => (if qD = true then (if 0 ≤ (wrap64 (a0_0 + 1)) then (if (wrap64 (a0_0 + 1) : Int).toNat ≤ 8796093022208 then ((some (List.replicate (wrap64 (a0_0 + 1) : Int).toNat z28 : List (S28))).bind fun y533 => ((impl_normalOf.f k a0_0 l0_1).bind fun ql => (if 0 ≤ a0_0 then (if a0_0 < (y533.length : Int) then (impl_projectionsOf.l0 k (y533.set (a0_0 : Int).toNat (⟨ql.1, ql.2⟩ : S28)) (wrap64 (a0_0 - 1))) else (none)) else (none)))) else (none)) else (none)) else (some (([] : List (S28)), false)))) = some (r1, r2) := h
 clear h
 replace H := be_ H
 obtain ⟨qD, A20, H⟩ := H
 have A2 := Aside0.mk A20
 clear A20
 by_cases c3 : qD = true
 rotate_left
 ·
  replace c3 := Bool.eq_false_iff.mpr c3
  subst c3
  have H1 : (some (([] : List (S28)), false)) = some (r1, r2) := by rw [if_neg (show ¬ (false = true) by decide)] at H; exact H
  clear H
  have H := H1
  clear H1
  simp only [Option.some.injEq, Prod.mk.injEq] at H
  obtain ⟨rfl, rfl⟩ := H
  go_enter Try.func61, Try.ntmps61
  go_wp2_with (first | ((with_reducible refine gate_dst (N := 1) rfl ?_); refine bx_ (cs := #[.int .i64 a0_0, .slice A0_1 l0_1.length c0_1]) (t := 28) ?_; intro qb hg zQ hbox hb; replace qf := vE_ qf hg hb; have qa := Aside0.mk (hbox); have qO := hz_ HB hg; have qP := hz_ HB hg; replace HB := bS_ HB hb; clear hb hbox hg; obtain ⟨qX, qY, qZ, q0⟩ := b2_ qa) | ((with_reducible refine gate_callee (f := 53) rfl ?_); refine gL_ (some 9) Try.func53 #[.agg #[.int .i64 a0_0, .slice A0_1 l0_1.length c0_1]] ?_; (with_reducible refine (impl_IsCell.calls k a0_0 _ _ l0_1 false _ ?side1 ?side2 A2.out).mono ?_); (case side1 => repeat (first | exact (Kd.V_reads' qf.out).2.2 | (with_reducible refine Kd.C_alloc ?_ _) | (with_reducible refine Kd.C_drewN ?_ _) | (with_reducible refine Kd.C_drew ?_))); (case side2 => exact (Kd.V_reads' qf.out).2.1); rintro e zR ⟨rfl, hb⟩; refine ⟨_, rfl, ?_⟩; replace qf := vB_ qf hb; replace qa := kB_ qa hb; replace HB := bS_ HB hb; clear hb))
  go_ret2
  exact ⟨_, rt_ ⟨by first | exact Kd.R_nil _ _ _ _ _ | exact Kd.N_nil _ _ _ _ _ | exact Kd.V_nil _ _ _ _ _ | exact Kd.Q_nil _ _ _ _ _ | exact Kd.S_nil _ _ _ _ _, bb_ HB⟩⟩
 subst c3
 have H1 : (if 0 ≤ (wrap64 (a0_0 + 1)) then (if (wrap64 (a0_0 + 1) : Int).toNat ≤ 8796093022208 then ((some (List.replicate (wrap64 (a0_0 + 1) : Int).toNat z28 : List (S28))).bind fun y533 => ((impl_normalOf.f k a0_0 l0_1).bind fun ql => (if 0 ≤ a0_0 then (if a0_0 < (y533.length : Int) then (impl_projectionsOf.l0 k (y533.set (a0_0 : Int).toNat (⟨ql.1, ql.2⟩ : S28)) (wrap64 (a0_0 - 1))) else (none)) else (none)))) else (none)) else (none)) = some (r1, r2) := by rw [if_pos rfl] at H; exact H
 clear H
 have H := H1
 clear H1
 obtain ⟨ji4, hji4⟩ : ∃ j_ : Int, (wrap64 (a0_0 + 1)) = j_ := ⟨_, rfl⟩
 replace H : (if 0 ≤ (ji4) then (if (ji4 : Int).toNat ≤ 8796093022208 then ((some (List.replicate (ji4 : Int).toNat z28 : List (S28))).bind fun y533 => ((impl_normalOf.f k a0_0 l0_1).bind fun ql => (if 0 ≤ a0_0 then (if a0_0 < (y533.length : Int) then (impl_projectionsOf.l0 k (y533.set (a0_0 : Int).toNat (⟨ql.1, ql.2⟩ : S28)) (wrap64 (a0_0 - 1))) else (none)) else (none)))) else (none)) else (none)) = some (r1, r2) := by first | (rw [hji4] at H; exact H) | (simp only [hji4] at H ⊢; exact H)
 (try rw [hji4] at A2)
 have hji4w : (IntKind.i64.wrap (a0_0 + 1)) = ji4 := (i64_w _).trans hji4
 replace H := ip_ H
 obtain ⟨c5, H⟩ := H
 have zE := eq_true c5
 have zF : decide (0 ≤ (ji4)) = true := decide_eq_true c5
 clear c5
 replace H := ip_ H
 obtain ⟨c6, H⟩ := H
 have zG := eq_true c6
 have zH : decide ((ji4 : Int).toNat ≤ 8796093022208) = true := decide_eq_true c6
 clear c6
 obtain ⟨y533, hy533⟩ : ∃ y_ : List (S28), y_ = (List.replicate (ji4 : Int).toNat z28) := ⟨_, rfl⟩
 replace H : ((impl_normalOf.f k a0_0 l0_1).bind fun ql => (if 0 ≤ a0_0 then (if a0_0 < (y533.length : Int) then (impl_projectionsOf.l0 k (y533.set (a0_0 : Int).toNat (⟨ql.1, ql.2⟩ : S28)) (wrap64 (a0_0 - 1))) else (none)) else (none))) = some (r1, r2) := by first | (rw [hy533]; with_reducible exact H) | (have H2_ := (Option.bind_some _ _).symm.trans H; rw [hy533]; with_reducible exact H2_) | (have H2_ := (Option.bind_some _ _).symm.trans H; with_reducible exact H2_) | with_reducible exact H | (rw [hy533]; exact H) | exact H
 have Ny533 := Aside0.mk hy533
 clear hy533
 replace H := be_ H
 obtain ⟨⟨qz, qA⟩, A70, H⟩ := H
 replace H : (if 0 ≤ a0_0 then (if a0_0 < (y533.length : Int) then (impl_projectionsOf.l0 k (y533.set (a0_0 : Int).toNat (⟨qz, qA⟩ : S28)) (wrap64 (a0_0 - 1))) else (none)) else (none)) = some (r1, r2) := H
 have A7 := Aside0.mk A70
 clear A70
 replace H := ip_ H
 obtain ⟨c8, H⟩ := H
 have zI : decide (0 ≤ a0_0) = true := decide_eq_true c8
 clear c8
 replace H := ip_ H
 obtain ⟨c9, H⟩ := H
 have zJ : decide (a0_0 < (y533.length : Int)) = true := decide_eq_true c9
 clear c9
 obtain ⟨y540, hy540⟩ : ∃ y_ : List (S28), y_ = (y533.set (a0_0 : Int).toNat (⟨qz, qA⟩ : S28)) := ⟨_, rfl⟩
 replace H : (impl_projectionsOf.l0 k y540 (wrap64 (a0_0 - 1))) = some (r1, r2) := by first | (rw [hy540]; with_reducible exact H) | (have H2_ := (Option.bind_some _ _).symm.trans H; rw [hy540]; with_reducible exact H2_) | (have H2_ := (Option.bind_some _ _).symm.trans H; with_reducible exact H2_) | with_reducible exact H | (rw [hy540]; exact H) | exact H
 have Ny540 := Aside0.mk hy540
 clear hy540
 have H' := Aside0.mk H
 clear H
 go_enter Try.func61, Try.ntmps61
 try go_wp2_with (first | ((with_reducible refine gate_dst (N := 1) rfl ?_); refine bx_ (cs := #[.int .i64 a0_0, .slice A0_1 l0_1.length c0_1]) (t := 28) ?_; intro qb hg zS hbox hb; replace qf := vE_ qf hg hb; have qa := Aside0.mk (hbox); have qO := hz_ HB hg; have qP := hz_ HB hg; replace HB := bS_ HB hb; clear hb hbox hg; obtain ⟨q1, q2, q3, q4⟩ := b2_ qa) | ((with_reducible refine gate_callee (f := 53) rfl ?_); refine gL_ (some 9) Try.func53 #[.agg #[.int .i64 a0_0, .slice A0_1 l0_1.length c0_1]] ?_; (with_reducible refine (impl_IsCell.calls k a0_0 _ _ l0_1 true _ ?side1 ?side2 A2.out).mono ?_); (case side1 => repeat (first | exact (Kd.V_reads' qf.out).2.2 | (with_reducible refine Kd.C_alloc ?_ _) | (with_reducible refine Kd.C_drewN ?_ _) | (with_reducible refine Kd.C_drew ?_))); (case side2 => exact (Kd.V_reads' qf.out).2.1); rintro e zK ⟨rfl, hb⟩; refine ⟨_, rfl, ?_⟩; replace qf := vB_ qf hb; replace qa := kB_ qa hb; replace HB := bS_ HB hb; clear hb; obtain ⟨q5, q6, q7, q8⟩ := b2_ qa) | ((with_reducible refine gate_dst (N := 14) rfl ?_); refine Kd.N_make k28 _ 28 rfl (N' := 14) rfl 61 _ _ rfl ji4 rfl rfl Try.underlying61 (.agg #[(.int .i64 0), (.slice none 0 0)]) 32 info28 rfl (by decide) (by omega) z28 (ok := fun k_ => zK.heap.size ≤ k_) (okp := fun _ => False) (k28_mkF _ _ z28 (Nat.le_refl _) (Kd.F_nil _ _ _)) (fun _ hk => hk.elim) (Nat.le_refl _) (od_) (Nat.le_trans (Nat.mul_le_mul_right _ (od_ : ji4.toNat ≤ 8796093022208)) (by omega)) (Below.refl _ _) (Nat.le_refl _) ?_; intro zn zL ho16 hb hg_ hnew_; clear hg_ hnew_; (first | rw [← Ny533.out] at ho16 | (simp only [Int.reduceToNat] at ho16; rw [← Ny533.out] at ho16)); replace qf := Aside0.mk (Kd.V_elder' (vm_ qf) (Kd.N_base ho16) hb); have qq := Aside0.mk (Kd.N_lower (Kd.N_mono (ok' := fun k_ => (P0_1_ k_ ∨ w.heap.size ≤ k_) ∧ k_ ≠ qb) ho16 (fun k_ hk_ => ⟨(.inr (Nat.le_trans (bz_ HB) hk_)), (Kd.freshB (g := qb) (o := .cells #[.int .i64 a0_0, .slice A0_1 l0_1.length c0_1] 28 (0, 0)) (kf_ qa) k_ hk_)⟩)) (bz_ HB)); replace qa := kB_ qa hb; replace HB := bS_ HB hb; clear hb ho16))
 replace qf := Aside0.mk (Kd.V_drew qf.out); replace qq := Aside0.mk (Kd.N_drew qq.out); replace qa := Aside0.mk (blk_drew qa.out); replace HB := Aside0.mk (below_drew1 HB.out)
 refine start_ (n := 10) (S := fun w' => w'.cell? ⟨qb, 0, none⟩ = some (.int .i64 a0_0) ∧ w'.cell? ⟨qb, 1, none⟩ = some (.slice A0_1 l0_1.length c0_1)) (ds := [9]) (fl_ 10 0) (by kernel_rfl) rfl rfl ⟨bc_ qa 0, bc_ qa 1⟩ (fun hHeld => ?_); refine with_tabW impl_projectionsOf.tab4 impl_projectionsOf.bits4 (fun HT_ HW_ => ?_)
 generalize zL.drew = zT at qf qq qa HB hHeld ⊢
 refine pX_ 0 (some 15) (fl_ 10 1) HT_ ?_
 refine pX_ 1 (some 16) (fl_ 10 3) HT_ ?_
 refine pX_ 3 (some 18) (fl_ 10 11) HT_ ?_
 refine pX_ 5 (some 20) (fl_ 10 43) HT_ ?_
 refine tX_ 2 (some 17) (fl_ 10 47) rfl rfl HT_ HW_ hHeld (by rintro w' ⟨s0, s1⟩; go_simp; with_reducible rfl) ?_
 refine tX_ 4 (some 19) (fl_ 10 63) rfl rfl HT_ HW_ hHeld (by rintro w' ⟨s0, s1⟩; go_simp; with_reducible rfl) ?_
 refine tX_ 6 (some 21) (fl_ 10 127) rfl rfl HT_ HW_ hHeld (by rintro w' ⟨s0, s1⟩; go_simp; with_reducible rfl) ?_
 refine one_ (i := 7) (N := some 22) (fl_ 10 255) rfl rfl (one_of HT_.out (by kernel_rfl)) (by decide) (fun K hK => ?_)
 refine goes_ Try.func54 (by kernel_rfl) rfl #[.int .i64 a0_0, .slice A0_1 l0_1.length c0_1] (by rfl) rfl rfl (by (try simp only [List.map_toArray, List.map_cons, List.map_nil]); first | done | rfl | (simp only [List.length_drop, List.length_take]; rfl)) ?_
 with_reducible refine (impl_normalOf.calls k a0_0 _ _ l0_1 qz qA _ ?side1 ?side2 A7.out).mono ?_
 (case side1 => repeat (first | exact (Kd.V_reads' qf.out).2.2 | (with_reducible refine Kd.C_alloc ?_ _) | (with_reducible refine Kd.C_drewN ?_ _) | (with_reducible refine Kd.C_drew ?_)))
 (case side2 => exact (Kd.V_reads' qf.out).2.1)
 rintro e zv ⟨zo, rfl, ho0, hb⟩
 refine ⟨_, rfl, ?_⟩
 replace qf := Aside0.mk (Kd.V_elder' (vm_ qf) (Kd.N_base ho0) hb); have qE := Aside0.mk (Kd.N_lower (Kd.N_mono (ok' := fun k_ => (P0_1_ k_ ∨ w.heap.size ≤ k_) ∧ some k_ ≠ (zn : Value).ownBlock ∧ k_ ≠ qb) ho0 (fun k_ hk_ => ⟨(.inr (Nat.le_trans (bz_ HB) hk_)), (Kd.fresh' (Kd.N_lt (nm_ qq)) k_ hk_), (Kd.freshB (g := qb) (o := .cells #[.int .i64 a0_0, .slice A0_1 l0_1.length c0_1] 28 (0, 0)) (kf_ qa) k_ hk_)⟩)) (bz_ HB)); replace qq := Aside0.mk (Kd.N_elder' (nm_ qq) (Kd.N_base ho0) hb); replace qa := kB_ qa hb; replace HB := bS_ HB hb; (try clear hb); (try clear hb2); (try clear hk); (try clear hi); (try clear ho0)
 have p10 : 0 ≤ (a0_0 : Int) := od_
 have q10 : (a0_0 : Int) < ((y533.length : Int) : Int) := od_
 obtain ⟨go10, qp, eo10, qQ, gl10, cl10, HG10⟩ := Kd.N_form qq.out (by omega)
 (first | cases eo10 | (injection eo10 with ea_ en_ ec_; (first | subst ea_ | (injection ea_ with ea_; subst ea_)); subst ec_; clear en_))
 have qR := Aside0.mk qQ
 have zM := Aside0.mk HG10
 clear qQ gl10 HG10
 obtain ⟨ce10, hcl10, hM10, hcc10, hfr10⟩ := Kd.N_elem qq.out z28 (a0_0 : Int) p10 q10
 obtain ⟨ua10_1, uc10_1, rfl, ul10_1, ge10_1⟩ := k28_openF hM10
 have zp : World.cell? _ ⟨go10, (a0_0 : Int).toNat * 2, none⟩ = some (.int .i64 ((rd_T28 y533 a0_0).f0)) := hcc10 0 _ rfl
 have zq : World.cell? _ ⟨go10, (a0_0 : Int).toNat * 2 + 1, none⟩ = some (.slice ua10_1 ((rd_T28 y533 a0_0).f1).length uc10_1) := hcc10 1 _ rfl
 have hf10_0 : World.frozen? _ ⟨go10, (a0_0 : Int).toNat * 2, none⟩ = false := hfr10 0
 have hf10_1 : World.frozen? _ ⟨go10, (a0_0 : Int).toNat * 2 + 1, none⟩ = false := hfr10 1
 clear hcl10 hcc10 hfr10 hM10
 replace p10 := eq_true p10
 replace q10 := eq_true q10
 have qG := Aside0.mk (show Kd.N k28 28 _ w.heap.size (fun k_ => (P0_1_ k_ ∨ w.heap.size ≤ k_) ∧ some k_ ≠ (zo : Value).ownBlock ∧ k_ ≠ qb) (.slice (some ⟨go10, 0, none⟩) y533.length qp) y533 from (Kd.N_mono (qq.out) (fun k_ hk => ⟨hk.1.1, ⟨hk.2, hk.1.2⟩⟩)))
 replace qG := Aside0.mk (show Kd.N k28 28 _ w.heap.size (fun k_ => (P0_1_ k_ ∨ w.heap.size ≤ k_) ∧ k_ ≠ qb) (.slice (some ⟨go10, 0, none⟩) y533.length qp) y533 from Kd.N_mono qG.out (fun k_ hk => ⟨hk.1, hk.2.2⟩))
 obtain ⟨ce19, hcl19, hM19, hcc19, hfr19⟩ := Kd.N_elem qG.out z28 (a0_0 : Int) (od_) (by have h_ : (a0_0 : Int) < ((y533.length : Int) : Int) := od_; first | exact h_ | (have e_ := (Kd.N_reads' qq.out).1; omega) | simpa using h_)
 obtain ⟨ua19_1, uc19_1, rfl, ul19_1, ge19_1⟩ := k28_openF hM19
 obtain ⟨Av_, cv_, ev_⟩ := Kd.N_slice qE.out; subst ev_
 have qK := (Kd.N_seg qG.out (a0_0 : Int) (od_) (by have h_ : (a0_0 : Int) < ((y533.length : Int) : Int) := od_; first | exact h_ | (have e_ := (Kd.N_reads' qq.out).1; omega) | simpa using h_) (seg := [.int .i64 qz, (.slice Av_ qA.length cv_)]) (j := 0) hcl19 hcc19 (show 2 ≤ 2 from by decide) (x' := (⟨qz, qA⟩ : S28)) (k28_mkF _ _ (⟨qz, qA⟩ : S28) (Kd.N_reads' (Kd.N_mono (ok' := (fun k_ => ((fun k_ => (P0_1_ k_ ∨ w.heap.size ≤ k_) ∧ k_ ≠ qb)) k_ ∧ k_ ≠ go10)) (qE.out) (fun k_ hk => ⟨⟨hk.1, hk.2.2⟩, fun e_ => (hk.2.1) (by rw [e_]; rfl)⟩))).2.1 (Kd.N_F (Kd.N_mono (ok' := (fun k_ => ((fun k_ => (P0_1_ k_ ∨ w.heap.size ≤ k_) ∧ k_ ≠ qb)) k_ ∧ k_ ≠ go10)) (qE.out) (fun k_ hk => ⟨⟨hk.1, hk.2.2⟩, fun e_ => (hk.2.1) (by rw [e_]; rfl)⟩)))) (fun _ hk => hk)).1
 rw [← Ny540.out] at qK
 have HQ19 := Aside0.mk qK
 clear hcl19 hcc19 hfr19 hM19 qK
 refine hK.out _ _ ⟨bc_ qa 0, bc_ qa 1⟩ (fun hHeld => ?_)
 clear hK K
 refine norm_ (a' := ?_) ?_ ?_
 rotate_left
 ·
  show Act.put _ (some 22) _ = _
  simp only [Act.put, sa_, s0_, s1_, i64_w, i32_w]
  rfl
 refine pX_ 8 (some 23) (fl_ 10 511) HT_ ?_
 refine last_ (i := 9) (N := none) (fl_ 10 1023) rfl rfl (one_of HT_.out (by kernel_rfl)) (by decide) (fun K hK => ?_)
 refine skip_ (w1 := ?_) (by rfl) rfl ?_ ?_
 rotate_left
 ·
  go_simp
  rfl
 refine hK.out _ _ ?_
 clear hK K
 refine done_ (done_of HT_.out (by kernel_rfl)) ?_
 obtain ⟨qH, qI, q9, za⟩ := b2_ qa
 have hne20_ : qb ≠ go10 := fun e_ => (HQ19.out.1 go10 rfl).2 e_.symm
 have hcy20_0 : ((zv.setCell ⟨go10, (a0_0 : Int).toNat * 2, none⟩ (.int .i64 qz)).setCell ⟨go10, (a0_0 : Int).toNat * 2 + 1, none⟩ (.slice Av_ qA.length cv_)).cell? ⟨qb, 0, none⟩ = some (.int .i64 a0_0) := (cell_far (a := ⟨qb, 0, none⟩) (p := ⟨go10, (a0_0 : Int).toNat * 2 + 1, none⟩) hne20_ _).trans ((cell_far (a := ⟨qb, 0, none⟩) (p := ⟨go10, (a0_0 : Int).toNat * 2, none⟩) hne20_ _).trans qH)
 have hcy20_1 : ((zv.setCell ⟨go10, (a0_0 : Int).toNat * 2, none⟩ (.int .i64 qz)).setCell ⟨go10, (a0_0 : Int).toNat * 2 + 1, none⟩ (.slice Av_ qA.length cv_)).cell? ⟨qb, 1, none⟩ = some (.slice A0_1 l0_1.length c0_1) := (cell_far (a := ⟨qb, 1, none⟩) (p := ⟨go10, (a0_0 : Int).toNat * 2 + 1, none⟩) hne20_ _).trans ((cell_far (a := ⟨qb, 1, none⟩) (p := ⟨go10, (a0_0 : Int).toNat * 2, none⟩) hne20_ _).trans qI)
 try go_wp2
 go_loopg [5] k (fun kq v5 w' => ∃ (qd : List (S28)) (qe : Int) (qi : Int) (qr : List (S52)) (u532001 : Value), v5 = .int .i64 qe ∧ Aside0 (impl_projectionsOf.l0 kq qd qe = some (r1, r2)) ∧ Aside0 (kq ≤ k) ∧ Aside0 (Kd.N k28 28 w' w.heap.size (fun k_ => (P0_1_ k_ ∨ w.heap.size ≤ k_) ∧ k_ ≠ qb) (.slice (some ⟨go10, 0, none⟩) y533.length qp) qd) ∧ Aside0 (Kd.V k52 52 w' w.heap.size (fun k_ => (P0_1_ k_ ∨ w.heap.size ≤ k_) ∧ some k_ ≠ ((.slice (some ⟨go10, 0, none⟩) y533.length qp) : Value).ownBlock ∧ k_ ≠ qb) u532001 qr) ∧ Aside0 (w'.heap[qb]? = some (.cells #[.int .i64 qi, u532001] 28 (0, 0))) ∧ Aside0 (Below w.heap.size w w'))
 case atStart => exact ⟨(y540), (wrap64 (a0_0 - 1)), (a0_0), (l0_1), (.slice A0_1 l0_1.length c0_1), (by first | rfl | (simp; done) | (simp [*]; done)), H', ⟨Nat.le_refl _⟩, ⟨by (with_reducible repeat (first | apply Kd.N_alloc | apply Kd.N_drewN | apply Kd.N_drew)); exact HQ19.out⟩, ⟨by (with_reducible repeat (first | apply Kd.V_alloc | apply Kd.V_drewN | apply Kd.V_drew)); exact Kd.V_mono (Kd.V_far (p := ⟨go10, (a0_0 : Int).toNat * 2 + 1, none⟩) (Kd.V_far (p := ⟨go10, (a0_0 : Int).toNat * 2, none⟩) (Kd.V_mono qf.out (fun k_ hk => (⟨hk, fun e_ => hk.1.2 (by rw [e_]; rfl)⟩ : _ ∧ k_ ≠ go10))) (fun _ hk => hk.2) (.int .i64 qz)) (fun _ hk => hk.2) ((.slice Av_ qA.length cv_))) (fun _ hk => ⟨hk.1.1.1.1, ⟨hk.1.1.2, hk.1.1.1.2⟩⟩)⟩, ⟨by (with_reducible repeat (first | refine blk_drewN ?_ _ | refine blk_drew ?_ | refine blk_alloc ?_ _)); refine blk_far ?_ hne20_ _; (with_reducible repeat (first | refine blk_drewN ?_ _ | refine blk_drew ?_ | refine blk_alloc ?_ _)); refine blk_far ?_ hne20_ _; (with_reducible repeat (first | refine blk_drewN ?_ _ | refine blk_drew ?_ | refine blk_alloc ?_ _)); exact qa.out⟩, ⟨bb_ HB⟩⟩
 clear H'
 obtain ⟨qd, qe, qi, qr, u532001, rfl, HA, HK1, qg, qc, qa, HB⟩ := hrel
 have hl4_1 := (Kd.N_reads' qg.out).1
 rw [hl4_1] at qg
 (try simp only [hl4_1])
 (try simp only [hl4_1] at qa)
 (try simp only [hl4_1] at qc)
 cases gk with
 | zero => exact absurd HA.out (by simp [impl_projectionsOf.l0])
 | succ k1 =>
  have H := HA.out
  clear HA
  simp only [impl_projectionsOf.l0] at H
  by_cases c21 : qe ≥ 0
  rotate_left
  ·
   rw [if_neg c21] at H
   have qS : decide (0 ≤ qe) = false := decide_eq_false c21
   clear c21
   simp only [Option.some.injEq, Prod.mk.injEq] at H
   obtain ⟨rfl, rfl⟩ := H
   go_wp2
   go_ret2
   exact ⟨_, by first | rfl | (simp [errW_none, errW_some] <;> rfl) | (simp only [← hji4]; first | rfl | (simp [errW_none, errW_some] <;> rfl)) | (simp [*, errW_none, errW_some] <;> rfl), by (with_reducible repeat (first | apply Kd.N_alloc | apply Kd.N_drewN | apply Kd.N_drew)); exact Kd.N_mono qg.out (fun _ hk => hk.1), bb_ HB⟩
  rw [if_pos c21] at H
  have qS : decide (0 ≤ qe) = true := decide_eq_true c21
  clear c21
  obtain ⟨ji22, hji22⟩ : ∃ j_ : Int, (wrap64 (qe + 1)) = j_ := ⟨_, rfl⟩
  replace H : (if 0 ≤ (ji22) then (if (ji22) < (qd.length : Int) then ((impl_DropVariable.f k1 ((rd_T28 qd (ji22)).f0) ((rd_T28 qd (ji22)).f1) qe).bind fun qw => (if qw.2.2 = true then (if 0 ≤ qe then (if qe < (qd.length : Int) then (impl_projectionsOf.l0 k1 (qd.set (qe : Int).toNat (⟨qw.1, qw.2.1⟩ : S28)) (wrap64 (qe - 1))) else (none)) else (none)) else (some (([] : List (S28)), false)))) else (none)) else (none)) = some (r1, r2) := by first | (rw [hji22] at H; exact H) | (simp only [hji22] at H ⊢; exact H)
  have hji22w : (IntKind.i64.wrap (qe + 1)) = ji22 := (i64_w _).trans hji22
  replace H := ip_ H
  obtain ⟨c23, H⟩ := H
  have zw : decide (0 ≤ (ji22)) = true := decide_eq_true c23
  clear c23
  replace H := ip_ H
  obtain ⟨c24, H⟩ := H
  have zx : decide ((ji22) < (qd.length : Int)) = true := decide_eq_true c24
  clear c24
  replace H := be_ H
  obtain ⟨⟨qv, qn, qT⟩, A250, H⟩ := H
  replace H : (if qT = true then (if 0 ≤ qe then (if qe < (qd.length : Int) then (impl_projectionsOf.l0 k1 (qd.set (qe : Int).toNat (⟨qv, qn⟩ : S28)) (wrap64 (qe - 1))) else (none)) else (none)) else (some (([] : List (S28)), false))) = some (r1, r2) := H
  have A25 := Aside0.mk A250
  clear A250
  by_cases c26 : qT = true
  rotate_left
  ·
   replace c26 := Bool.eq_false_iff.mpr c26
   subst c26
   have H1 : (some (([] : List (S28)), false)) = some (r1, r2) := by rw [if_neg (show ¬ (false = true) by decide)] at H; exact H
   clear H
   have H := H1
   clear H1
   simp only [Option.some.injEq, Prod.mk.injEq] at H
   obtain ⟨rfl, rfl⟩ := H
   have p541 : 0 ≤ ((ji22) : Int) := od_
   have q541 : (ji22) < (qd.length : Int) := od_
   obtain ⟨qF, qB, c541_1, e541, qo, qj, hl541_1, hi541_1⟩ := at_T28 (Kd.N_reads' qg.out).2.2 (ji22) p541 q541
   obtain rfl : (⟨go10, 0, none⟩ : Addr) = qF := (by injection e541)
   obtain ⟨ce541, hce541, hMe541, hcc541⟩ := Kd.N_get qg.out z28 (ji22) p541 (by first | exact q541 | exact od_ | (have e_ := (Kd.N_reads' qg.out).1; omega))
   obtain ⟨ua541_1, uc541_1, rfl, ul541_1, ge541_1⟩ := k28_openF hMe541
   have hv541_1 := hcc541 1 _ rfl
   rw [add_field _ _ 1 (by omega)] at hv541_1
   replace hv541_1 := Option.some.inj (hv541_1.symm.trans qj)
   injection hv541_1 with hva_ hvn_ hvc_
   rw [hva_] at ge541_1
   rw [hvc_] at ul541_1
   have HL541_1 := Aside0.mk (show Kd.V k52 52 _ w.heap.size _ _ ((rd_T28 qd (ji22)).f1) from Kd.V_mk ul541_1 ge541_1)
   clear hva_ hvn_ hvc_ ge541_1 ul541_1
   clear hcc541 hce541
   (first | simp only [add_plain] at qo | simp only [add_at] at qo | simp only [Addr.add, Nat.zero_add] at qo | skip)
   (first | simp only [add_plain] at qj | simp only [add_at] at qj | simp only [Addr.add, Nat.zero_add] at qj | skip)
   have qk := Aside0.mk hi541_1
   have qJ := Aside0.mk hl541_1
   clear hi541_1 hl541_1
   replace p541 := eq_true p541
   replace q541 := eq_true q541
   go_wp2_with (first | ((with_reducible refine gate_callee (f := 29) rfl ?_); refine goesL_ (some 38) rfl rfl Try.func29 (by kernel_rfl) rfl #[.agg #[.int .i64 ((rd_T28 qd (ji22)).f0), .slice qB ((rd_T28 qd (ji22)).f1).length c541_1], .int .i64 qe] rfl (by (try simp only [List.map_toArray, List.map_cons, List.map_nil]); first | done | (simp only [hji22]; rfl) | rfl | (simp only [List.length_drop, List.length_take]; rfl)) ?_; (with_reducible refine (impl_DropVariable.calls k1 ((rd_T28 qd (ji22)).f0) (fun k_ => (((P0_1_ k_ ∨ w.heap.size ≤ k_) ∧ k_ ≠ qb) ∧ some k_ ≠ (.slice (some ⟨go10, 0, none⟩) qd.length qp : Value).ownBlock)) _ _ ((rd_T28 qd (ji22)).f1) qe qv qn false _ ?side1 A25.out).mono ?_); (case side1 => exact HL541_1.out); rintro e zU ⟨zr, rfl, ho0, hb⟩; refine ⟨_, rfl, ?_⟩; replace qc := Aside0.mk (Kd.V_elder' (vm_ qc) (Kd.N_base ho0) hb); replace HL541_1 := Aside0.mk (Kd.V_elder' (vm_ HL541_1) (Kd.N_base ho0) hb); have qm := Aside0.mk (Kd.N_lower (Kd.N_mono (ok' := fun k_ => (P0_1_ k_ ∨ w.heap.size ≤ k_) ∧ some k_ ≠ (.slice (some ⟨go10, 0, none⟩) qd.length qp : Value).ownBlock ∧ k_ ≠ qb) ho0 (fun k_ hk_ => ⟨Or.elim hk_ (fun hs_ => hs_.1.1) (fun hn_ => (.inr (Nat.le_trans (bz_ HB) hn_))), Or.elim hk_ (fun hs_ => hs_.2) (fun hn_ => (Kd.fresh' (Kd.N_lt (nm_ qg)) k_ hn_)), Or.elim hk_ (fun hs_ => hs_.1.2) (fun hn_ => (Kd.freshB (g := qb) (o := .cells #[.int .i64 qi, u532001] 28 (0, 0)) (kf_ qa) k_ hn_))⟩)) (bz_ HB)); replace qg := Aside0.mk (Kd.N_elder' (nm_ qg) (Kd.N_base ho0) hb); replace qa := kB_ qa hb; replace qk := cB_ qk hb; replace HB := bS_ HB hb; clear hb ho0) | ((with_reducible refine gate_dst (N := 6) rfl ?_); refine bx_ (cs := #[.int .i64 0, .slice none 0 0]) (t := 28) ?_; intro qh hg zV hbox hb; replace qg := nE_ qg hg hb; replace qc := vE_ qc hg hb; replace HL541_1 := vE_ HL541_1 hg hb; replace qm := nE_ qm hg hb; replace qk := cB_ qk hb; have qs := Aside0.mk (hbox); have qU := hz_ HB hg; have qV := hz_ HB hg; replace HB := bS_ HB hb; have qt := nL_ qa hg; have qu := nG_ qa hg; replace qa := kB_ qa hb; clear hb hbox hg; have zy := qu.out; have zz := qt.out; obtain ⟨zb, zc, zd, ze⟩ := b2_ qs; obtain ⟨zN, zO, eo43⟩ := Kd.N_slice qm.out; subst eo43))
   go_ret2
   exact ⟨_, by first | rfl | (simp [errW_none, errW_some] <;> rfl) | (simp only [← hji4, ← hji22]; first | rfl | (simp [errW_none, errW_some] <;> rfl)) | (simp [*, errW_none, errW_some] <;> rfl), by first | exact Kd.R_nil _ _ _ _ _ | exact Kd.N_nil _ _ _ _ _ | exact Kd.V_nil _ _ _ _ _ | exact Kd.Q_nil _ _ _ _ _ | exact Kd.S_nil _ _ _ _ _, bb_ HB⟩
  subst c26
  have H1 : (if 0 ≤ qe then (if qe < (qd.length : Int) then (impl_projectionsOf.l0 k1 (qd.set (qe : Int).toNat (⟨qv, qn⟩ : S28)) (wrap64 (qe - 1))) else (none)) else (none)) = some (r1, r2) := by rw [if_pos rfl] at H; exact H
  clear H
  have H := H1
  clear H1
  replace H := ip_ H
  obtain ⟨c27, H⟩ := H
  have zA : decide (0 ≤ qe) = true := decide_eq_true c27
  clear c27
  replace H := ip_ H
  obtain ⟨c28, H⟩ := H
  have zB : decide (qe < (qd.length : Int)) = true := decide_eq_true c28
  clear c28
  obtain ⟨y548, hy548⟩ : ∃ y_ : List (S28), y_ = (qd.set (qe : Int).toNat (⟨qv, qn⟩ : S28)) := ⟨_, rfl⟩
  replace H : (impl_projectionsOf.l0 k1 y548 (wrap64 (qe - 1))) = some (r1, r2) := by first | (rw [hy548]; with_reducible exact H) | (have H2_ := (Option.bind_some _ _).symm.trans H; rw [hy548]; with_reducible exact H2_) | (have H2_ := (Option.bind_some _ _).symm.trans H; with_reducible exact H2_) | with_reducible exact H | (rw [hy548]; exact H) | exact H
  have Ny548 := Aside0.mk hy548
  clear hy548
  have H' := Aside0.mk H
  clear H
  have p541 : 0 ≤ ((ji22) : Int) := od_
  have q541 : (ji22) < (qd.length : Int) := od_
  obtain ⟨qF, qB, c541_1, e541, qo, qj, hl541_1, hi541_1⟩ := at_T28 (Kd.N_reads' qg.out).2.2 (ji22) p541 q541
  obtain rfl : (⟨go10, 0, none⟩ : Addr) = qF := (by injection e541)
  obtain ⟨ce541, hce541, hMe541, hcc541⟩ := Kd.N_get qg.out z28 (ji22) p541 (by first | exact q541 | exact od_ | (have e_ := (Kd.N_reads' qg.out).1; omega))
  obtain ⟨ua541_1, uc541_1, rfl, ul541_1, ge541_1⟩ := k28_openF hMe541
  have hv541_1 := hcc541 1 _ rfl
  rw [add_field _ _ 1 (by omega)] at hv541_1
  replace hv541_1 := Option.some.inj (hv541_1.symm.trans qj)
  injection hv541_1 with hva_ hvn_ hvc_
  rw [hva_] at ge541_1
  rw [hvc_] at ul541_1
  have HL541_1 := Aside0.mk (show Kd.V k52 52 _ w.heap.size _ _ ((rd_T28 qd (ji22)).f1) from Kd.V_mk ul541_1 ge541_1)
  clear hva_ hvn_ hvc_ ge541_1 ul541_1
  clear hcc541 hce541
  (first | simp only [add_plain] at qo | simp only [add_at] at qo | simp only [Addr.add, Nat.zero_add] at qo | skip)
  (first | simp only [add_plain] at qj | simp only [add_at] at qj | simp only [Addr.add, Nat.zero_add] at qj | skip)
  have qk := Aside0.mk hi541_1
  have qJ := Aside0.mk hl541_1
  clear hi541_1 hl541_1
  replace p541 := eq_true p541
  replace q541 := eq_true q541
  go_wp2_with (first | ((with_reducible refine gate_callee (f := 29) rfl ?_); refine goesL_ (some 38) rfl rfl Try.func29 (by kernel_rfl) rfl #[.agg #[.int .i64 ((rd_T28 qd (ji22)).f0), .slice qB ((rd_T28 qd (ji22)).f1).length c541_1], .int .i64 qe] rfl (by (try simp only [List.map_toArray, List.map_cons, List.map_nil]); first | done | (simp only [hji22]; rfl) | rfl | (simp only [List.length_drop, List.length_take]; rfl)) ?_; (with_reducible refine (impl_DropVariable.calls k1 ((rd_T28 qd (ji22)).f0) (fun k_ => (((P0_1_ k_ ∨ w.heap.size ≤ k_) ∧ k_ ≠ qb) ∧ some k_ ≠ (.slice (some ⟨go10, 0, none⟩) qd.length qp : Value).ownBlock)) _ _ ((rd_T28 qd (ji22)).f1) qe qv qn true _ ?side1 A25.out).mono ?_); (case side1 => exact HL541_1.out); rintro e zW ⟨zr, rfl, ho0, hb⟩; refine ⟨_, rfl, ?_⟩; replace qc := Aside0.mk (Kd.V_elder' (vm_ qc) (Kd.N_base ho0) hb); replace HL541_1 := Aside0.mk (Kd.V_elder' (vm_ HL541_1) (Kd.N_base ho0) hb); have qm := Aside0.mk (Kd.N_lower (Kd.N_mono (ok' := fun k_ => (P0_1_ k_ ∨ w.heap.size ≤ k_) ∧ some k_ ≠ (.slice (some ⟨go10, 0, none⟩) qd.length qp : Value).ownBlock ∧ k_ ≠ qb) ho0 (fun k_ hk_ => ⟨Or.elim hk_ (fun hs_ => hs_.1.1) (fun hn_ => (.inr (Nat.le_trans (bz_ HB) hn_))), Or.elim hk_ (fun hs_ => hs_.2) (fun hn_ => (Kd.fresh' (Kd.N_lt (nm_ qg)) k_ hn_)), Or.elim hk_ (fun hs_ => hs_.1.2) (fun hn_ => (Kd.freshB (g := qb) (o := .cells #[.int .i64 qi, u532001] 28 (0, 0)) (kf_ qa) k_ hn_))⟩)) (bz_ HB)); replace qg := Aside0.mk (Kd.N_elder' (nm_ qg) (Kd.N_base ho0) hb); replace qa := kB_ qa hb; replace qk := cB_ qk hb; replace HB := bS_ HB hb; clear hb ho0) | ((with_reducible refine gate_dst (N := 6) rfl ?_); refine bx_ (cs := #[.int .i64 0, .slice none 0 0]) (t := 28) ?_; intro qh hg zP hbox hb; replace qg := nE_ qg hg hb; replace qc := vE_ qc hg hb; replace HL541_1 := vE_ HL541_1 hg hb; replace qm := nE_ qm hg hb; replace qk := cB_ qk hb; have qs := Aside0.mk (hbox); have qU := hz_ HB hg; have qV := hz_ HB hg; replace HB := bS_ HB hb; have qt := nL_ qa hg; have qu := nG_ qa hg; replace qa := kB_ qa hb; clear hb hbox hg; have zC := qu.out; have zD := qt.out; obtain ⟨zf, zg, zh, zi⟩ := b2_ qs; obtain ⟨qx, qy, eo34⟩ := Kd.N_slice qm.out; subst eo34) | ((with_reducible refine gate_store (t := 28) (p := 6) rfl ?_); refine store_event (t := 28) (p := 6) (v := ?vo_w35) (w1 := ((zP.setCell ⟨qh, 0, none⟩ (.int .i64 qv)).setCell ⟨qh, 1, none⟩ (.slice qx qn.length qy))) ?hg ?ho ?hn ?hr ?_; (case ho => rfl); (case hg => rfl); (case hn => rfl); (case hr => first | (go_simp; done) | (go_simp; rfl)); intro qC hw; have n0_ : Aside0 (Kd.N k28 28 qC w.heap.size (fun k_ => (P0_1_ k_ ∨ w.heap.size ≤ k_) ∧ some k_ ≠ (.slice qx qn.length qy : Value).ownBlock ∧ k_ ≠ qb ∧ k_ ≠ qh) (.slice (some ⟨go10, 0, none⟩) qd.length qp) qd) := ⟨(by rw [hw]; exact (ny_ qg qh (fun _ hk => hk.2) (fun _ hk => ⟨hk.1.1.1, ⟨hk.1.2, ⟨hk.1.1.2, hk.2⟩⟩⟩)))⟩; have n1_ : Aside0 (Kd.V k52 52 qC w.heap.size (fun k_ => (P0_1_ k_ ∨ w.heap.size ≤ k_) ∧ some k_ ≠ (.slice (some ⟨go10, 0, none⟩) qd.length qp : Value).ownBlock ∧ some k_ ≠ (.slice qx qn.length qy : Value).ownBlock ∧ k_ ≠ qb ∧ k_ ≠ qh) u532001 qr) := ⟨(by rw [hw]; exact (vy_ qc qh (fun _ hk => hk.2) (fun _ hk => ⟨hk.1.1.1, ⟨hk.1.1.2.1, ⟨hk.1.2, ⟨hk.1.1.2.2, hk.2⟩⟩⟩⟩)))⟩; have n2_ : Aside0 (Kd.V k52 52 qC w.heap.size (fun k_ => (P0_1_ k_ ∨ w.heap.size ≤ k_) ∧ some k_ ≠ (.slice (some ⟨go10, 0, none⟩) qd.length qp : Value).ownBlock ∧ some k_ ≠ (.slice qx qn.length qy : Value).ownBlock ∧ k_ ≠ qb ∧ k_ ≠ qh) (.slice qB ((rd_T28 qd (ji22)).f1).length c541_1) ((rd_T28 qd (ji22)).f1)) := ⟨(by rw [hw]; exact (vy_ HL541_1 qh (fun _ hk => hk.2) (fun _ hk => ⟨hk.1.1.1.1, ⟨hk.1.1.2, ⟨hk.1.2, ⟨hk.1.1.1.2, hk.2⟩⟩⟩⟩)))⟩; have n3_ : Aside0 (Kd.N k52 52 qC w.heap.size (fun k_ => (P0_1_ k_ ∨ w.heap.size ≤ k_) ∧ some k_ ≠ (.slice (some ⟨go10, 0, none⟩) qd.length qp : Value).ownBlock ∧ k_ ≠ qb ∧ k_ ≠ qh) (.slice qx qn.length qy) qn) := ⟨(by rw [hw]; exact (ny_ qm qh (fun _ hk => hk.2) (fun _ hk => ⟨hk.1.1, ⟨hk.1.2.1, ⟨hk.1.2.2, hk.2⟩⟩⟩)))⟩; have n4_ : Aside0 (qC.heap[qb]? = some (.cells #[.int .i64 qi, u532001] 28 (0, 0))) := ⟨(by rw [hw]; exact (kf_ qa))⟩; have n5_ : Aside0 (qC.heap[qh]? = some (.cells #[.int .i64 qv, .slice qx qn.length qy] 28 (0, 0))) := ⟨(by rw [hw]; exact (kp_ qs))⟩; have n6_ : Aside0 (Below w.heap.size w qC) := ⟨(by rw [hw]; exact (bb_ HB))⟩; clear hw; clear qg; clear qc; clear HL541_1; clear qm; clear qa; clear qs; clear HB; have qg := n0_; have qc := n1_; have HL541_1 := n2_; have qm := n3_; have qa := n4_; have qs := n5_; have HB := n6_; clear n0_ n1_ n2_ n3_ n4_ n5_ n6_; obtain ⟨zj, zk, zl, zm⟩ := b2_ qs; have p29 : 0 ≤ (qe : Int) := od_; have q29 : (qe : Int) < ((qd.length : Int) : Int) := od_; obtain ⟨ce29, hcl29, hM29, hcc29, hfr29⟩ := Kd.N_elem qg.out z28 (qe : Int) p29 q29; obtain ⟨ua29_1, uc29_1, rfl, ul29_1, ge29_1⟩ := k28_openF hM29; have zs : qC.cell? ⟨go10, (qe : Int).toNat * 2, none⟩ = some (.int .i64 ((rd_T28 qd qe).f0)) := hcc29 0 _ rfl; have zt : qC.cell? ⟨go10, (qe : Int).toNat * 2 + 1, none⟩ = some (.slice ua29_1 ((rd_T28 qd qe).f1).length uc29_1) := hcc29 1 _ rfl; have hf29_0 : qC.frozen? ⟨go10, (qe : Int).toNat * 2, none⟩ = false := hfr29 0; have hf29_1 : qC.frozen? ⟨go10, (qe : Int).toNat * 2 + 1, none⟩ = false := hfr29 1; clear hcl29 hcc29 hfr29 hM29; replace p29 := eq_true p29; replace q29 := eq_true q29; have qW := Aside0.mk (show Kd.N k28 28 qC w.heap.size (fun k_ => (P0_1_ k_ ∨ w.heap.size ≤ k_) ∧ k_ ≠ qb ∧ k_ ≠ qh) (.slice (some ⟨go10, 0, none⟩) qd.length qp) qd from (by (with_reducible repeat (first | apply Kd.N_alloc | apply Kd.N_drewN | apply Kd.N_drew)); exact Kd.N_mono qg.out (fun _ hk => ⟨hk.1, ⟨hk.2.2.1, hk.2.2.2⟩⟩))); obtain ⟨ce37, hcl37, hM37, hcc37, hfr37⟩ := Kd.N_elem qW.out z28 (qe : Int) (od_) (by have h_ : (qe : Int) < ((qd.length : Int) : Int) := od_; first | exact h_ | (have e_ := (Kd.N_reads' qg.out).1; omega) | simpa using h_); obtain ⟨ua37_1, uc37_1, rfl, ul37_1, ge37_1⟩ := k28_openF hM37; have qL := Kd.N_seg qW.out (qe : Int) (od_) (by have h_ : (qe : Int) < ((qd.length : Int) : Int) := od_; first | exact h_ | (have e_ := (Kd.N_reads' qg.out).1; omega) | simpa using h_) (seg := [.int .i64 qv, .slice qx qn.length qy]) (j := 0) hcl37 hcc37 (show 2 ≤ 2 from by decide) (x' := (⟨qv, qn⟩ : S28)) (k28_mkF _ _ (⟨qv, qn⟩ : S28) (Kd.N_reads' (Kd.N_mono (ok' := (fun k_ => ((fun k_ => (P0_1_ k_ ∨ w.heap.size ≤ k_) ∧ k_ ≠ qb ∧ k_ ≠ qh)) k_ ∧ k_ ≠ go10)) (qm.out) (fun k_ hk => ⟨⟨hk.1, ⟨hk.2.2.1, hk.2.2.2⟩⟩, fun e_ => (hk.2.1) (by rw [e_]; rfl)⟩))).2.1 (Kd.N_F (Kd.N_mono (ok' := (fun k_ => ((fun k_ => (P0_1_ k_ ∨ w.heap.size ≤ k_) ∧ k_ ≠ qb ∧ k_ ≠ qh)) k_ ∧ k_ ≠ go10)) (qm.out) (fun k_ hk => ⟨⟨hk.1, ⟨hk.2.2.1, hk.2.2.2⟩⟩, fun e_ => (hk.2.1) (by rw [e_]; rfl)⟩)))) (fun _ hk => hk); have qM := hcc37 0 _ rfl; (try simp only [show (k28).sz = 2 from rfl, Nat.mul_one, Nat.add_zero] at qM); have hf37_0 := hfr37 0; (try simp only [show (k28).sz = 2 from rfl, Nat.mul_one, Nat.add_zero] at hf37_0); have qN := hcc37 1 _ rfl; (try simp only [show (k28).sz = 2 from rfl, Nat.mul_one, Nat.add_zero] at qN); have hf37_1 := hfr37 1; (try simp only [show (k28).sz = 2 from rfl, Nat.mul_one, Nat.add_zero] at hf37_1); clear hcl37 hcc37 hfr37 hM37) | ((with_reducible refine gate_store (t := 28) (p := 46) rfl ?_); refine store_event (t := 28) (p := 46) (v := ?vo_w38) (w1 := ((qC.setCell ⟨go10, (qe : Int).toNat * 2, none⟩ (.int .i64 qv)).setCell ⟨go10, (qe : Int).toNat * 2 + 1, none⟩ (.slice qx qn.length qy))) ?hg ?ho ?hn ?hr ?_; (case ho => rfl); (case hg => rfl); (case hn => rfl); (case hr => first | (go_simp; done) | (go_simp; rfl)); intro zu hw; have hg : qC.grownBy zu (some go10) := (by rw [hw]; exact qL.2); have hp_ : Kd.N k28 28 zu w.heap.size (fun k_ => (P0_1_ k_ ∨ w.heap.size ≤ k_) ∧ k_ ≠ qb ∧ k_ ≠ qh) (.slice (some ⟨go10, 0, none⟩) qd.length qp) y548 := (by rw [hw, Ny548.out]; exact qL.1); clear qL; replace qc := Aside0.mk (Kd.V_afterv (v := (.slice (some ⟨go10, 0, none⟩) qd.length qp)) (v1 := (.slice (some ⟨go10, 0, none⟩) qd.length qp)) (ok := (fun k_ => (P0_1_ k_ ∨ w.heap.size ≤ k_) ∧ some k_ ≠ (.slice qx qn.length qy : Value).ownBlock ∧ k_ ≠ qb ∧ k_ ≠ qh)) (by (with_reducible repeat (first | apply Kd.V_alloc | apply Kd.V_drewN | apply Kd.V_drew)); exact Kd.V_mono qc.out (fun _ hk => ⟨⟨hk.1, ⟨hk.2.2.1, ⟨hk.2.2.2.1, hk.2.2.2.2⟩⟩⟩, hk.2.1⟩)) hg (.inl rfl)); replace qa := Aside0.mk (blk_grown (g := qb) (o := .cells #[.int .i64 qi, u532001] 28 (0, 0)) (kf_ qa) hg (Kd.N_away qg.out (fun _ hk => hk.2.2.1))); replace HL541_1 := Aside0.mk (Kd.V_afterv (v := (.slice (some ⟨go10, 0, none⟩) qd.length qp)) (v1 := (.slice (some ⟨go10, 0, none⟩) qd.length qp)) (ok := (fun k_ => (P0_1_ k_ ∨ w.heap.size ≤ k_) ∧ some k_ ≠ (.slice qx qn.length qy : Value).ownBlock ∧ k_ ≠ qb ∧ k_ ≠ qh)) (by (with_reducible repeat (first | apply Kd.V_alloc | apply Kd.V_drewN | apply Kd.V_drew)); exact Kd.V_mono HL541_1.out (fun _ hk => ⟨⟨hk.1, ⟨hk.2.2.1, ⟨hk.2.2.2.1, hk.2.2.2.2⟩⟩⟩, hk.2.1⟩)) hg (.inl rfl)); replace qs := Aside0.mk (blk_grown (g := qh) (o := .cells #[.int .i64 qv, .slice qx qn.length qy] 28 (0, 0)) (kf_ qs) hg (Kd.N_away qg.out (fun _ hk => hk.2.2.2))); replace qg := Aside0.mk (hp_); replace HB := Aside0.mk ((by rw [hw]; exact below_set (below_set (HB.out) qR.out) qR.out : Below w.heap.size w zu)); clear qm; clear hg hw hp_))
  (try simp only [← hl4_1])
  go_roundg k1
  case measure => have := HK1.out; omega
  case rel => exact ⟨(y548), (wrap64 (qe - 1)), (qi), (qr), (u532001), (by first | rfl | (simp; done) | (simp [*]; done)), H', ⟨by have := HK1.out; omega⟩, ⟨by (try simp only [hl4_1]); (with_reducible repeat (first | apply Kd.N_alloc | apply Kd.N_drewN | apply Kd.N_drew)); exact Kd.N_mono qg.out (fun _ hk => ⟨hk.1, hk.2.1⟩)⟩, ⟨by (try simp only [hl4_1]); (with_reducible repeat (first | apply Kd.V_alloc | apply Kd.V_drewN | apply Kd.V_drew)); exact Kd.V_mono qc.out (fun _ hk => ⟨hk.1.1, ⟨hk.2, hk.1.2.2.1⟩⟩)⟩, ⟨by (try simp only [hl4_1]); (with_reducible repeat (first | refine blk_drewN ?_ _ | refine blk_drew ?_ | refine blk_alloc ?_ _)); exact qa.out⟩, ⟨bb_ HB⟩⟩

/-! ### impl_IsEmptyCell: function 24 -/
def impl_IsEmptyCell.f (k : Nat) (a0_0 : Int) (l0_1 : List (S52)) : Option (Bool × Bool) := (impl_projectionsOf.f k a0_0 l0_1).bind fun qc => (if qc.2 = true then (if 0 < (qc.1.length : Int) then (some (decide ((((rd_T28 qc.1 0).f1).length : Int) > 0), true)) else (none)) else (some (false, false)))
theorem impl_IsEmptyCell.mono : ∀ a0 a1 k, LeO (impl_IsEmptyCell.f k a0 a1) (impl_IsEmptyCell.f (k + 1) a0 a1) := by
 intro a0 a1 k
 unfold impl_IsEmptyCell.f
 repeat' first
   | (with_reducible exact impl_projectionsOf.mono _ _ _)
   | (with_reducible exact LeO.refl _)
   | (with_reducible exact LeO.none _)
   | (with_reducible refine LeO.ite ?_ ?_)
   | (with_reducible refine LeO.bind ?_ (fun _ => ?_))
set_option maxHeartbeats 8000000 in
set_option maxRecDepth 100000 in
theorem impl_IsEmptyCell.calls (k : Nat) (a0_0 : Int) (A0_1 : Option Addr) (c0_1 : Nat) (l0_1 : List (S52)) (r1 : Bool) (r2 : Bool) (w : World) (hr0_1 : Kd.C k52 w A0_1 l0_1.length l0_1) (hc0_1 : l0_1.length ≤ c0_1) (h : impl_IsEmptyCell.f k a0_0 l0_1 = some (r1, r2)) :
  Calls Try.prog 24 #[.agg #[.int .i64 a0_0, .slice A0_1 l0_1.length c0_1]] w fun e w' => e = .returned (.tuple #[.bool r1, .bool r2]) ∧ Below w.heap.size w w' := by
 have hu28 := Try.underlying28
 have qi := Aside0.mk hr0_1
 have qj := Aside0.mk hc0_1
 clear hr0_1 hc0_1
 have HB := Aside0.mk (Below.refl w.heap.size w)
 have H : ((impl_projectionsOf.f k a0_0 l0_1).bind fun qc => (if qc.2 = true then (if 0 < (qc.1.length : Int) then (some (decide ((((rd_T28 qc.1 0).f1).length : Int) > 0), true)) else (none)) else (some (false, false)))) = some (r1, r2) := h
 clear h
 replace H := be_ H
 obtain ⟨⟨qd, qk⟩, A20, H⟩ := H
 replace H : (if qk = true then (if 0 < (qd.length : Int) then (some (decide ((((rd_T28 qd 0).f1).length : Int) > 0), true)) else (none)) else (some (false, false))) = some (r1, r2) := H
 have A2 := Aside0.mk A20
 clear A20
 by_cases c3 : qk = true
 rotate_left
 ·
  replace c3 := Bool.eq_false_iff.mpr c3
  subst c3
  have H1 : (some (false, false)) = some (r1, r2) := by rw [if_neg (show ¬ (false = true) by decide)] at H; exact H
  clear H
  have H := H1
  clear H1
  simp only [Option.some.injEq, Prod.mk.injEq] at H
  obtain ⟨rfl, rfl⟩ := H
  go_enter Try.func24, Try.ntmps24
  go_wp2_with (first | ((with_reducible refine gate_dst (N := 1) rfl ?_); refine bx_ (cs := #[.int .i64 a0_0, .slice A0_1 l0_1.length c0_1]) (t := 28) ?_; intro qf hg w9 hbox hb; have qa := Aside0.mk (hbox); have qh := hz_ HB hg; have ql := hz_ HB hg; replace HB := bS_ HB hb; clear hb hbox hg; obtain ⟨qm, qn, qo, qp⟩ := b2_ qa) | ((with_reducible refine gate_callee (f := 61) rfl ?_); refine gL_ (some 8) Try.func61 #[.agg #[.int .i64 a0_0, .slice A0_1 l0_1.length c0_1]] ?_; (with_reducible refine (impl_projectionsOf.calls k a0_0 (fun k_ => k_ < w.heap.size) _ _ l0_1 qd false _ ?side1 A2.out).mono ?_); (case side1 => exact Kd.V_mk qj.out (Kd.F_below (Kd.C_F k52_heap qi.out) (bb_ HB))); rintro e qB ⟨qs, rfl, ho0, hb⟩; refine ⟨_, rfl, ?_⟩; have qg := Aside0.mk (Kd.N_lower (Kd.N_mono (ok' := fun k_ => k_ ≠ qf) ho0 (fun k_ hk_ => Or.elim hk_ (fun hs_ => fun e_ => Nat.not_le.2 hs_ (by rw [e_]; exact qh.out)) (fun hn_ => (Kd.freshB (g := qf) (o := .cells #[.int .i64 a0_0, .slice A0_1 l0_1.length c0_1] 28 (0, 0)) (kf_ qa) k_ hn_)))) (bz_ HB)); replace qa := kB_ qa hb; replace HB := bS_ HB hb; clear hb ho0))
  go_ret2
  exact rt_ (bb_ HB)
 subst c3
 have H1 : (if 0 < (qd.length : Int) then (some (decide ((((rd_T28 qd 0).f1).length : Int) > 0), true)) else (none)) = some (r1, r2) := by rw [if_pos rfl] at H; exact H
 clear H
 have H := H1
 clear H1
 replace H := ip_ H
 obtain ⟨c4, H⟩ := H
 have qz : decide (0 < (qd.length : Int)) = true := decide_eq_true c4
 have qA : decide (0 < qd.length) = true := decide_eq_true (by omega)
 clear c4
 simp only [Option.some.injEq, Prod.mk.injEq] at H
 obtain ⟨rfl, rfl⟩ := H
 go_enter Try.func24, Try.ntmps24
 go_wp2_with (first | ((with_reducible refine gate_dst (N := 1) rfl ?_); refine bx_ (cs := #[.int .i64 a0_0, .slice A0_1 l0_1.length c0_1]) (t := 28) ?_; intro qf hg w5 hbox hb; have qa := Aside0.mk (hbox); have qh := hz_ HB hg; have ql := hz_ HB hg; replace HB := bS_ HB hb; clear hb hbox hg; obtain ⟨qt, qu, qv, qw⟩ := b2_ qa) | ((with_reducible refine gate_callee (f := 61) rfl ?_); refine gL_ (some 8) Try.func61 #[.agg #[.int .i64 a0_0, .slice A0_1 l0_1.length c0_1]] ?_; (with_reducible refine (impl_projectionsOf.calls k a0_0 (fun k_ => k_ < w.heap.size) _ _ l0_1 qd true _ ?side1 A2.out).mono ?_); (case side1 => exact Kd.V_mk qj.out (Kd.F_below (Kd.C_F k52_heap qi.out) (bb_ HB))); rintro e w7 ⟨qs, rfl, ho0, hb⟩; refine ⟨_, rfl, ?_⟩; have qg := Aside0.mk (Kd.N_lower (Kd.N_mono (ok' := fun k_ => k_ ≠ qf) ho0 (fun k_ hk_ => Or.elim hk_ (fun hs_ => fun e_ => Nat.not_le.2 hs_ (by rw [e_]; exact qh.out)) (fun hn_ => (Kd.freshB (g := qf) (o := .cells #[.int .i64 a0_0, .slice A0_1 l0_1.length c0_1] 28 (0, 0)) (kf_ qa) k_ hn_)))) (bz_ HB)); replace qa := kB_ qa hb; replace HB := bS_ HB hb; clear hb ho0; obtain ⟨qC, qD, eo8⟩ := Kd.N_slice qg.out; subst eo8; have p554 : 0 ≤ (0 : Int) := (by omega); have q554 : 0 < (qd.length : Int) := od_; obtain ⟨qy, qx, c554_1, e554, qe, qb, hl554_1, hi554_1⟩ := at_T28 (Kd.N_reads' qg.out).2.2 0 p554 q554; cases e554; obtain ⟨ce554, hce554, hMe554, hcc554⟩ := Kd.N_get qg.out z28 0 p554 (by first | exact q554 | exact od_ | (have e_ := (Kd.N_reads' qg.out).1; omega)); obtain ⟨ua554_1, uc554_1, rfl, ul554_1, ge554_1⟩ := k28_openF hMe554; have hv554_1 := hcc554 1 _ rfl; rw [add_field _ _ 1 (by omega)] at hv554_1; replace hv554_1 := Option.some.inj (hv554_1.symm.trans qb); injection hv554_1 with hva_ hvn_ hvc_; rw [hva_] at ge554_1; rw [hvc_] at ul554_1; have HL554_1 := Aside0.mk (show Kd.V k52 52 _ w.heap.size _ _ ((rd_T28 qd 0).f1) from Kd.V_mk ul554_1 ge554_1); clear hva_ hvn_ hvc_ ge554_1 ul554_1; clear hcc554 hce554; have qi554 : (0 < qd.length) = True := eq_true (by omega); (try rw [show ((0 : Int)).toNat = 0 from rfl] at qe); (try rw [show 0 * 2 = 0 from rfl] at qe); (try rw [Addr.add_zero'] at qe); (try rw [show ((0 : Int)).toNat = 0 from rfl] at qb); (try rw [show 0 * 2 = 0 from rfl] at qb); (try rw [Addr.add_zero'] at qb); have qq := Aside0.mk hi554_1; have qr := Aside0.mk hl554_1; clear hi554_1 hl554_1; replace p554 := eq_true p554; replace q554 := eq_true q554))
 go_ret2
 exact rt_ (bb_ HB)

/-! ### laws_FnExactIsEmptyCell: function 5 -/
def laws_FnExactIsEmptyCell.j0 : Nat → Bool → Int → List (S49) → Int → List (S52) → Option (Bool)
 | 0, _, _, _, _, _ => none
 | k + 1, x34, x556000, x556001, x568000, x568001 => if x34 = true then (some false) else ((laws_toCell.f k x556000 x556001).bind fun qv => ((laws_eqCell.f k x568000 x568001 qv.1 qv.2).bind fun qy => (if qy = true then (some true) else (some false))))
def laws_FnExactIsEmptyCell.f (k : Nat) (a0_0 : Int) (l0_1 : List (S49)) : Option (Bool) := (laws_szCell.f k a0_0 l0_1 1048576).bind fun qt => (if qt < 0 then (some true) else ((laws_toCell.f k a0_0 l0_1).bind fun qw => ((spec_IsEmptyCell.f k qw.1 qw.2).bind fun ql => ((laws_toCell.f k a0_0 l0_1).bind fun qd => ((impl_IsEmptyCell.f k qd.1 qd.2).bind fun qg => (if (qg.1 != ql.1) = true then (laws_FnExactIsEmptyCell.j0 k true a0_0 l0_1 qd.1 qd.2) else (laws_FnExactIsEmptyCell.j0 k (qg.2 != ql.2) a0_0 l0_1 qd.1 qd.2)))))))
theorem laws_FnExactIsEmptyCell.mono_l : ∀ k, (∀ y0 y1 y2 y3 y4, LeO (laws_FnExactIsEmptyCell.j0 k y0 y1 y2 y3 y4) (laws_FnExactIsEmptyCell.j0 (k + 1) y0 y1 y2 y3 y4))
 | 0 => fun _ _ _ _ _ r h => by simp [laws_FnExactIsEmptyCell.j0] at h
 | k + 1 => by
  have ih0 := laws_FnExactIsEmptyCell.mono_l k
  ·
   intro y0 y1 y2 y3 y4
   unfold laws_FnExactIsEmptyCell.j0
   repeat' first
   | (with_reducible exact ih0 _ _ _ _ _)
   | (with_reducible exact impl_IsEmptyCell.mono _ _ _)
   | (with_reducible exact laws_eqCell.mono _ _ _ _ _)
   | (with_reducible exact laws_szCell.mono _ _ _ _)
   | (with_reducible exact laws_toCell.mono _ _ _)
   | (with_reducible exact spec_IsEmptyCell.mono _ _ _)
   | (with_reducible exact LeO.refl _)
   | (with_reducible exact LeO.none _)
   | (with_reducible refine LeO.ite ?_ ?_)
   | (with_reducible refine LeO.bind ?_ (fun _ => ?_))
theorem laws_FnExactIsEmptyCell.mono : ∀ a0 a1 k, LeO (laws_FnExactIsEmptyCell.f k a0 a1) (laws_FnExactIsEmptyCell.f (k + 1) a0 a1) := by
 intro a0 a1 k
 have ih0 := laws_FnExactIsEmptyCell.mono_l k
 unfold laws_FnExactIsEmptyCell.f
 repeat' first
   | (with_reducible exact ih0 _ _ _ _ _)
   | (with_reducible exact impl_IsEmptyCell.mono _ _ _)
   | (with_reducible exact laws_eqCell.mono _ _ _ _ _)
   | (with_reducible exact laws_szCell.mono _ _ _ _)
   | (with_reducible exact laws_toCell.mono _ _ _)
   | (with_reducible exact spec_IsEmptyCell.mono _ _ _)
   | (with_reducible exact LeO.refl _)
   | (with_reducible exact LeO.none _)
   | (with_reducible refine LeO.ite ?_ ?_)
   | (with_reducible refine LeO.bind ?_ (fun _ => ?_))
set_option maxHeartbeats 8000000 in
set_option maxRecDepth 100000 in
theorem laws_FnExactIsEmptyCell.calls (k : Nat) (a0_0 : Int) (A0_1 : Option Addr) (c0_1 : Nat) (l0_1 : List (S49)) (r : Bool) (w : World) (hr0_1 : Kd.C k49 w A0_1 l0_1.length l0_1) (hc0_1 : l0_1.length ≤ c0_1) (h : laws_FnExactIsEmptyCell.f k a0_0 l0_1 = some r) :
  Calls Try.prog 5 #[.agg #[.int .i64 a0_0, .slice A0_1 l0_1.length c0_1]] w fun e w' => e = .returned (.bool r) ∧ Below w.heap.size w w' := by
 have hu24 := Try.underlying24
 have hu28 := Try.underlying28
 have qq := Aside0.mk hr0_1
 have qr := Aside0.mk hc0_1
 clear hr0_1 hc0_1
 have HB := Aside0.mk (Below.refl w.heap.size w)
 have H : ((laws_szCell.f k a0_0 l0_1 1048576).bind fun qt => (if qt < 0 then (some true) else ((laws_toCell.f k a0_0 l0_1).bind fun qw => ((spec_IsEmptyCell.f k qw.1 qw.2).bind fun ql => ((laws_toCell.f k a0_0 l0_1).bind fun qd => ((impl_IsEmptyCell.f k qd.1 qd.2).bind fun qg => (if (qg.1 != ql.1) = true then (laws_FnExactIsEmptyCell.j0 k true a0_0 l0_1 qd.1 qd.2) else (laws_FnExactIsEmptyCell.j0 k (qg.2 != ql.2) a0_0 l0_1 qd.1 qd.2)))))))) = some r := h
 clear h
 replace H := be_ H
 obtain ⟨qt, A20, H⟩ := H
 have A2 := Aside0.mk A20
 clear A20
 by_cases c3 : qt < 0
 ·
  rw [if_pos c3] at H
  have q3 : decide (qt < 0) = true := decide_eq_true c3
  clear c3
  obtain rfl := Option.some.inj H
  go_enter Try.func5, Try.ntmps5
  go_wp2_with (first | ((with_reducible refine gate_dst (N := 1) rfl ?_); refine bx_ (cs := #[.int .i64 a0_0, .slice A0_1 l0_1.length c0_1]) (t := 24) ?_; intro qs hg w4 hbox hb; have qa := Aside0.mk (hbox); have qH := hz_ HB hg; have qI := hz_ HB hg; replace HB := bS_ HB hb; clear hb hbox hg; obtain ⟨q4, q5, q6, q7⟩ := b2_ qa) | ((with_reducible refine gate_callee (f := 14) rfl ?_); refine gL_ (some 11) Try.func14 #[.agg #[.int .i64 a0_0, .slice A0_1 l0_1.length c0_1], .int .i64 1048576] ?_; (with_reducible refine (laws_szCell.calls k a0_0 _ _ l0_1 1048576 qt _ ?side1 ?side2 A2.out).mono ?_); (case side1 => exact cb_ qq HB); (case side2 => exact qr.out); rintro e w6 ⟨rfl, hb⟩; refine ⟨_, rfl, ?_⟩; replace qa := kB_ qa hb; replace HB := bS_ HB hb; clear hb))
  go_ret
  exact rt_ (bb_ HB)
 rw [if_neg c3] at H
 have q3 : decide (qt < 0) = false := decide_eq_false c3
 clear c3
 replace H := be_ H
 obtain ⟨⟨qF, qD⟩, A70, H⟩ := H
 replace H : ((spec_IsEmptyCell.f k qF qD).bind fun ql => ((laws_toCell.f k a0_0 l0_1).bind fun qd => ((impl_IsEmptyCell.f k qd.1 qd.2).bind fun qg => (if (qg.1 != ql.1) = true then (laws_FnExactIsEmptyCell.j0 k true a0_0 l0_1 qd.1 qd.2) else (laws_FnExactIsEmptyCell.j0 k (qg.2 != ql.2) a0_0 l0_1 qd.1 qd.2))))) = some r := H
 have A7 := Aside0.mk A70
 clear A70
 replace H := be_ H
 obtain ⟨⟨qm, qE⟩, A80, H⟩ := H
 replace H : ((laws_toCell.f k a0_0 l0_1).bind fun qd => ((impl_IsEmptyCell.f k qd.1 qd.2).bind fun qg => (if (qg.1 != qm) = true then (laws_FnExactIsEmptyCell.j0 k true a0_0 l0_1 qd.1 qd.2) else (laws_FnExactIsEmptyCell.j0 k (qg.2 != qE) a0_0 l0_1 qd.1 qd.2)))) = some r := H
 have A8 := Aside0.mk A80
 clear A80
 replace H := be_ H
 obtain ⟨⟨qf, qe⟩, A90, H⟩ := H
 replace H : ((impl_IsEmptyCell.f k qf qe).bind fun qg => (if (qg.1 != qm) = true then (laws_FnExactIsEmptyCell.j0 k true a0_0 l0_1 qf qe) else (laws_FnExactIsEmptyCell.j0 k (qg.2 != qE) a0_0 l0_1 qf qe))) = some r := H
 have A9 := Aside0.mk A90
 clear A90
 replace H := be_ H
 obtain ⟨⟨qp, qG⟩, A100, H⟩ := H
 replace H : (if (qp != qm) = true then (laws_FnExactIsEmptyCell.j0 k true a0_0 l0_1 qf qe) else (laws_FnExactIsEmptyCell.j0 k (qG != qE) a0_0 l0_1 qf qe)) = some r := H
 have A10 := Aside0.mk A100
 clear A100
 have HC11 := Aside0.mk H
 clear H
 go_enter Try.func5, Try.ntmps5
 go_upto_region 8 with (first | ((with_reducible refine gate_dst (N := 1) rfl ?_); refine bx_ (cs := #[.int .i64 a0_0, .slice A0_1 l0_1.length c0_1]) (t := 24) ?_; intro qs hg zk hbox hb; have qa := Aside0.mk (hbox); have qH := hz_ HB hg; have qI := hz_ HB hg; replace HB := bS_ HB hb; clear hb hbox hg; obtain ⟨qN, qO, qP, qQ⟩ := b2_ qa) | ((with_reducible refine gate_callee (f := 14) rfl ?_); refine gL_ (some 11) Try.func14 #[.agg #[.int .i64 a0_0, .slice A0_1 l0_1.length c0_1], .int .i64 1048576] ?_; (with_reducible refine (laws_szCell.calls k a0_0 _ _ l0_1 1048576 qt _ ?side1 ?side2 A2.out).mono ?_); (case side1 => exact cb_ qq HB); (case side2 => exact qr.out); rintro e zl ⟨rfl, hb⟩; refine ⟨_, rfl, ?_⟩; replace qa := kB_ qa hb; replace HB := bS_ HB hb; clear hb; obtain ⟨qR, qS, qT, qU⟩ := b2_ qa) | ((with_reducible refine gate_callee (f := 16) rfl ?_); refine gL_ (some 16) Try.func16 #[.agg #[.int .i64 a0_0, .slice A0_1 l0_1.length c0_1]] ?_; (with_reducible refine (laws_toCell.calls k a0_0 _ _ l0_1 qF qD _ ?side1 ?side2 A7.out).mono ?_); (case side1 => exact cb_ qq HB); (case side2 => exact qr.out); rintro e zm ⟨zi, rfl, ho0, hb⟩; refine ⟨_, rfl, ?_⟩; have qh := Aside0.mk (Kd.S_lower ho0 (bz_ HB)); replace qa := kB_ qa hb; replace HB := bS_ HB hb; clear hb ho0; obtain ⟨qJ, qK, eo17⟩ := Kd.S_slice qh.out; subst eo17) | ((with_reducible refine gate_callee (f := 23) rfl ?_); refine gL_ (some 17) Try.func23 #[.agg #[.int .i64 qF, .slice qJ qD.length qK]] ?_; (with_reducible refine (spec_IsEmptyCell.calls k qF _ _ qD qm qE _ ?side1 ?side2 A8.out).mono ?_); (case side1 => exact cs_ qh); (case side2 => exact (Kd.S_reads' qh.out).2.1); rintro e zn ⟨rfl, hb⟩; refine ⟨_, rfl, ?_⟩; replace qh := sB_ qh hb; replace qa := kB_ qa hb; replace HB := bS_ HB hb; clear hb; obtain ⟨qV, qW, qX, qY⟩ := b2_ qa) | ((with_reducible refine gate_callee (f := 16) rfl ?_); refine gL_ (some 21) Try.func16 #[.agg #[.int .i64 a0_0, .slice A0_1 l0_1.length c0_1]] ?_; (with_reducible refine (laws_toCell.calls k a0_0 _ _ l0_1 qf qe _ ?side1 ?side2 A9.out).mono ?_); (case side1 => exact cb_ qq HB); (case side2 => exact qr.out); rintro e zo ⟨zj, rfl, ho0, hb⟩; refine ⟨_, rfl, ?_⟩; have qk := Aside0.mk (Kd.S_lower (Kd.S_new' ho0 (Kd.S_lt (sm_ qh))) (bz_ HB)); replace qh := Aside0.mk (Kd.S_elder' (sm_ qh) (Kd.S_base ho0) hb); replace qa := kB_ qa hb; replace HB := bS_ HB hb; clear hb ho0) | ((with_reducible refine gate_dst (N := 6) rfl ?_); refine bx_ (cs := #[.int .i64 0, .slice none 0 0]) (t := 28) ?_; intro qi hg zp hbox hb; replace qh := sB_ qh hb; replace qk := sB_ qk hb; have qc := Aside0.mk (hbox); have zd := hz_ HB hg; have ze := hz_ HB hg; replace HB := bS_ HB hb; have qB := nL_ qa hg; have qC := nG_ qa hg; replace qa := kB_ qa hb; clear hb hbox hg; have zf := qC.out; have zg := qB.out; obtain ⟨qZ, q0, q1, q2⟩ := b2_ qc; obtain ⟨qo, qn, eo24⟩ := Kd.S_slice qk.out; subst eo24) | ((with_reducible refine gate_callee (f := 24) rfl ?_); refine gL_ (some 24) Try.func24 #[.agg #[.int .i64 qf, .slice qo qe.length qn]] ?_; (with_reducible refine (impl_IsEmptyCell.calls k qf _ _ qe qp qG _ ?side1 ?side2 A10.out).mono ?_); (case side1 => refine (Kd.S_reads' (e := 52) (base := w.heap.size) (ok := fun k_ => (True ∧ some k_ ≠ (.slice qJ qD.length qK : Value).ownBlock)) (n := qe.length) (c := qn) ?_).2.2; exact (by (with_reducible repeat (first | apply Kd.S_alloc | apply Kd.S_drewN | apply Kd.S_drew)); exact (Kd.S_mono (Kd.S_far (p := ⟨qi, 1, none⟩) (Kd.S_far (p := ⟨qi, 0, none⟩) (Kd.S_types qk.out qc.out (by decide)) (fun _ hk => hk.2) (.int .i64 qf)) (fun _ hk => hk.2) (.slice qo qe.length qn)) (fun _ h_ => h_.1)))); (case side2 => exact (Kd.S_reads' qk.out).2.1); rintro e zq ⟨rfl, hb⟩; refine ⟨_, rfl, ?_⟩; replace qh := Aside0.mk (Kd.S_below (by (with_reducible repeat (first | apply Kd.S_alloc | apply Kd.S_drewN | apply Kd.S_drew)); exact (Kd.S_mono (Kd.S_far (p := ⟨qi, 1, none⟩) (Kd.S_far (p := ⟨qi, 0, none⟩) (Kd.S_types qh.out qc.out (by decide)) (fun _ hk => hk.2) (.int .i64 qf)) (fun _ hk => hk.2) (.slice qo qe.length qn)) (fun _ h_ => h_.1))) hb); replace qk := Aside0.mk (Kd.S_below (by (with_reducible repeat (first | apply Kd.S_alloc | apply Kd.S_drewN | apply Kd.S_drew)); exact (Kd.S_mono (Kd.S_far (p := ⟨qi, 1, none⟩) (Kd.S_far (p := ⟨qi, 0, none⟩) (Kd.S_types qk.out qc.out (by decide)) (fun _ hk => hk.2) (.int .i64 qf)) (fun _ hk => hk.2) (.slice qo qe.length qn)) (fun _ h_ => h_.1))) hb); replace qa := kF_ qa hb; replace qc := kP_ (cs' := #[.int .i64 qf, .slice qo qe.length qn]) qc hb; replace HB := bS_ HB hb; clear hb))
 (try simp only [Act.put, sa_, s0_, s1_])
 go_cut [34] (fun v34 wc => ∃ (kq : Nat) (qu : Bool), v34 = .bool qu ∧ Aside0 (laws_FnExactIsEmptyCell.j0 kq qu a0_0 l0_1 qf qe = some r) ∧ Aside0 (kq ≤ k) ∧ Aside0 (Kd.S k52 52 wc w.heap.size (fun _ => True) (.slice qo qe.length qn) qe) ∧ Aside0 (wc.heap[qs]? = some (.cells #[.int .i64 a0_0, (.slice A0_1 l0_1.length c0_1)] 24 (0, 0))) ∧ Aside0 (wc.heap[qi]? = some (.cells #[.int .i64 qf, (.slice qo qe.length qn)] 28 (0, 0))) ∧ Aside0 (Below w.heap.size w wc))
 case first =>
  have H := HC11.out
  clear HC11
  by_cases c26 : (qp != qm) = true
  rotate_left
  ·
   rw [if_neg c26] at H
   have qx : (qp != qm) = false := by simpa using c26
   (try (have qL : decide (qp = qm) = true := by simpa using c26))
   (try (have qM : (qp == qm) = true := by simpa using c26))
   clear c26
   (first | rw [qx] | (simp only [i64_w, i32_w]; rw [qx]) | skip)
   have H' := Aside0.mk H
   clear H
   go_wp2
   go_meet
   case rel => exact ⟨_, ((qG != qE)), (by first | rfl | (simp; done) | (simp [*]; done)), H', ⟨by first | omega | exact Nat.le_refl _⟩, ⟨by (with_reducible repeat (first | apply Kd.S_alloc | apply Kd.S_drewN | apply Kd.S_drew)); exact Kd.S_mono qk.out (fun _ hk => trivial)⟩, ⟨kf_ qa⟩, ⟨kf_ qc⟩, ⟨bb_ HB⟩⟩
  rw [if_pos c26] at H
  have qx : (qp != qm) = true := c26
  (try (have qL : decide (qp = qm) = false := by simpa using c26))
  (try (have qM : (qp == qm) = false := by simpa using c26))
  (try (have zh : ¬ (qp = qm) := by simpa using c26))
  clear c26
  (first | rw [qx] | (simp only [i64_w, i32_w]; rw [qx]) | skip)
  have H' := Aside0.mk H
  clear H
  go_wp2
  go_meet
  case rel => exact ⟨_, (true), (by first | rfl | (simp; done) | (simp [*]; done)), H', ⟨by first | omega | exact Nat.le_refl _⟩, ⟨by (with_reducible repeat (first | apply Kd.S_alloc | apply Kd.S_drewN | apply Kd.S_drew)); exact Kd.S_mono qk.out (fun _ hk => trivial)⟩, ⟨kf_ qa⟩, ⟨kf_ qc⟩, ⟨bb_ HB⟩⟩
 clear HC11
 obtain ⟨kq, qu, rfl, HA, HJ10, qb, qa, qc, HB⟩ := hcut
 cases kq with
 | zero => exact absurd HA.out (by simp [laws_FnExactIsEmptyCell.j0])
 | succ kj10 =>
  have H := HA.out
  clear HA
  simp only [laws_FnExactIsEmptyCell.j0] at H
  by_cases c27 : qu = true
  ·
   subst c27
   have H1 : (some false) = some r := by rw [if_pos rfl] at H; exact H
   clear H
   have H := H1
   clear H1
   obtain rfl := Option.some.inj H
   go_wp2
   go_ret
   exact rt_ (bb_ HB)
  replace c27 := Bool.eq_false_iff.mpr c27
  subst c27
  have H1 : ((laws_toCell.f kj10 a0_0 l0_1).bind fun qv => ((laws_eqCell.f kj10 qf qe qv.1 qv.2).bind fun qy => (if qy = true then (some true) else (some false)))) = some r := by rw [if_neg (show ¬ (false = true) by decide)] at H; exact H
  clear H
  have H := H1
  clear H1
  replace H := be_ H
  obtain ⟨⟨qz, qA⟩, A280, H⟩ := H
  replace H : ((laws_eqCell.f kj10 qf qe qz qA).bind fun qy => (if qy = true then (some true) else (some false))) = some r := H
  have A28 := Aside0.mk A280
  clear A280
  replace H := be_ H
  obtain ⟨qy, A290, H⟩ := H
  have A29 := Aside0.mk A290
  clear A290
  by_cases c30 : qy = true
  ·
   subst c30
   have H1 : (some true) = some r := by rw [if_pos rfl] at H; exact H
   clear H
   have H := H1
   clear H1
   obtain rfl := Option.some.inj H
   try go_wp2
   replace qb := Aside0.mk (Kd.S_drew qb.out); replace qa := Aside0.mk (blk_drew qa.out); replace qc := Aside0.mk (blk_drew qc.out); replace HB := Aside0.mk (below_drew1 HB.out)
   refine start_ (n := 5) (S := fun w' => w'.cell? ⟨qi, 0, none⟩ = some (.int .i64 qf) ∧ w'.cell? ⟨qi, 1, none⟩ = some (.slice qo qe.length qn) ∧ w'.cell? ⟨qs, 0, none⟩ = some (.int .i64 a0_0) ∧ w'.cell? ⟨qs, 1, none⟩ = some (.slice A0_1 l0_1.length c0_1)) (ds := []) #[false, false, false, false, false] (by kernel_rfl) rfl rfl ⟨bc_ qc 0, bc_ qc 1, bc_ qa 0, bc_ qa 1⟩ (fun hHeld => ?_)
   generalize wc.drew = zr at qb qa qc HB hHeld ⊢
   refine take_ (i := 0) (N := some 35) (v := ?_) (a' := ?_) #[true, false, false, false, false] rfl rfl (by kernel_rfl) (fun _ _ _ h => h) (Or.inl ⟨by rfl, ?_⟩) hHeld ?_ ?_
   rotate_left
   ·
    rintro w' ⟨s0, s1, s2, s3⟩
    go_simp
    with_reducible rfl
   rotate_left
   ·
    simp only [Act.put, sa_, s0_, s1_, i64_w, i32_w]
    rfl
   refine take_ (i := 1) (N := some 36) (v := ?_) (a' := ?_) #[true, true, false, false, false] rfl rfl (by kernel_rfl) (fun _ _ _ h => h) (Or.inl ⟨by rfl, ?_⟩) hHeld ?_ ?_
   rotate_left
   ·
    rintro w' ⟨s0, s1, s2, s3⟩
    go_simp
    with_reducible rfl
   rotate_left
   ·
    simp only [Act.put, sa_, s0_, s1_, i64_w, i32_w]
    rfl
   refine one_ (i := 2) (N := some 37) #[true, true, true, false, false] rfl rfl (by kernel_rfl) (by decide) (fun K hK => ?_)
   refine goes_ Try.func16 (by kernel_rfl) rfl #[.agg #[.int .i64 a0_0, .slice A0_1 l0_1.length c0_1]] (by rfl) rfl rfl (by (try simp only [List.map_toArray, List.map_cons, List.map_nil]); first | done | rfl | (simp only [List.length_drop, List.length_take]; rfl)) ?_
   with_reducible refine (laws_toCell.calls kj10 a0_0 _ _ l0_1 qz qA _ ?side1 ?side2 A28.out).mono ?_
   (case side1 => exact cb_ qq HB)
   (case side2 => exact qr.out)
   rintro e zs ⟨q8, rfl, ho0, hb⟩
   refine ⟨_, rfl, ?_⟩
   have qj := Aside0.mk (Kd.S_lower (Kd.S_new' ho0 (Kd.S_lt (sm_ qb))) (bz_ HB)); replace qb := Aside0.mk (Kd.S_elder' (sm_ qb) (Kd.S_base ho0) hb); replace qa := kB_ qa hb; replace qc := kB_ qc hb; replace HB := bS_ HB hb; (try clear hb); (try clear hb2); (try clear hk); (try clear hi); (try clear ho0)
   obtain ⟨q9, za, eo33⟩ := Kd.S_slice qj.out
   (first | subst eo33 | (injection eo33 with f1_ f2_ f3_; have f4_ := f1_.symm; have f5_ := f3_.symm; clear f1_ f2_ f3_; subst f4_; subst f5_))
   refine hK.out _ _ ⟨bc_ qc 0, bc_ qc 1, bc_ qa 0, bc_ qa 1⟩ (fun hHeld => ?_)
   clear hK K
   refine norm_ (a' := ?_) ?_ ?_
   rotate_left
   ·
    show Act.put _ (some 37) _ = _
    simp only [Act.put, sa_, s0_, s1_, i64_w, i32_w]
    rfl
   refine one_ (i := 3) (N := some 38) #[true, true, true, true, false] rfl rfl (by kernel_rfl) (by decide) (fun K hK => ?_)
   refine goes_ Try.func18 (by kernel_rfl) rfl #[.agg #[.int .i64 qf, .slice qo qe.length qn], .agg #[.int .i64 qz, .slice q9 qA.length za]] (by rfl) rfl rfl (by (try simp only [List.map_toArray, List.map_cons, List.map_nil]); first | done | rfl | (simp only [List.length_drop, List.length_take]; rfl)) ?_
   with_reducible refine (laws_eqCell.calls kj10 qf _ _ qe qz _ _ qA true _ ?side1 ?side2 ?side3 ?side4 A29.out).mono ?_
   (case side1 => exact cs_ qb)
   (case side2 => exact (Kd.S_reads' qb.out).2.1)
   (case side3 => exact cs_ qj)
   (case side4 => exact (Kd.S_reads' qj.out).2.1)
   rintro e zt ⟨rfl, hb⟩
   refine ⟨_, rfl, ?_⟩
   replace qb := sB_ qb hb; replace qj := sB_ qj hb; replace qa := kB_ qa hb; replace qc := kB_ qc hb; replace HB := bS_ HB hb; (try clear hb); (try clear hb2); (try clear hk); (try clear hi)
   refine hK.out _ _ ⟨bc_ qc 0, bc_ qc 1, bc_ qa 0, bc_ qa 1⟩ (fun hHeld => ?_)
   clear hK K
   refine norm_ (a' := ?_) ?_ ?_
   rotate_left
   ·
    show Act.put _ (some 38) _ = _
    simp only [Act.put, sa_, s0_, s1_, i64_w, i32_w]
    rfl
   refine pure_ (i := 4) (N := some 39) (v := ?_) (a' := ?_) #[true, true, true, true, true] rfl rfl (by kernel_rfl) (fun _ _ _ h => h) (Or.inl ⟨by rfl, ?_⟩) ?_ ?_
   rotate_left
   ·
    intro w'
    go_simp
    with_reducible rfl
   rotate_left
   ·
    simp only [Act.put, sa_, s0_, s1_, i64_w, i32_w]
    rfl
   refine done_ (by kernel_rfl) ?_
   try go_wp2
   go_ret
   exact rt_ (bb_ HB)
  replace c30 := Bool.eq_false_iff.mpr c30
  subst c30
  have H1 : (some false) = some r := by rw [if_neg (show ¬ (false = true) by decide)] at H; exact H
  clear H
  have H := H1
  clear H1
  obtain rfl := Option.some.inj H
  try go_wp2
  replace qb := Aside0.mk (Kd.S_drew qb.out); replace qa := Aside0.mk (blk_drew qa.out); replace qc := Aside0.mk (blk_drew qc.out); replace HB := Aside0.mk (below_drew1 HB.out)
  refine start_ (n := 5) (S := fun w' => w'.cell? ⟨qi, 0, none⟩ = some (.int .i64 qf) ∧ w'.cell? ⟨qi, 1, none⟩ = some (.slice qo qe.length qn) ∧ w'.cell? ⟨qs, 0, none⟩ = some (.int .i64 a0_0) ∧ w'.cell? ⟨qs, 1, none⟩ = some (.slice A0_1 l0_1.length c0_1)) (ds := []) #[false, false, false, false, false] (by kernel_rfl) rfl rfl ⟨bc_ qc 0, bc_ qc 1, bc_ qa 0, bc_ qa 1⟩ (fun hHeld => ?_)
  generalize wc.drew = zu at qb qa qc HB hHeld ⊢
  refine take_ (i := 0) (N := some 35) (v := ?_) (a' := ?_) #[true, false, false, false, false] rfl rfl (by kernel_rfl) (fun _ _ _ h => h) (Or.inl ⟨by rfl, ?_⟩) hHeld ?_ ?_
  rotate_left
  ·
   rintro w' ⟨s0, s1, s2, s3⟩
   go_simp
   with_reducible rfl
  rotate_left
  ·
   simp only [Act.put, sa_, s0_, s1_, i64_w, i32_w]
   rfl
  refine take_ (i := 1) (N := some 36) (v := ?_) (a' := ?_) #[true, true, false, false, false] rfl rfl (by kernel_rfl) (fun _ _ _ h => h) (Or.inl ⟨by rfl, ?_⟩) hHeld ?_ ?_
  rotate_left
  ·
   rintro w' ⟨s0, s1, s2, s3⟩
   go_simp
   with_reducible rfl
  rotate_left
  ·
   simp only [Act.put, sa_, s0_, s1_, i64_w, i32_w]
   rfl
  refine one_ (i := 2) (N := some 37) #[true, true, true, false, false] rfl rfl (by kernel_rfl) (by decide) (fun K hK => ?_)
  refine goes_ Try.func16 (by kernel_rfl) rfl #[.agg #[.int .i64 a0_0, .slice A0_1 l0_1.length c0_1]] (by rfl) rfl rfl (by (try simp only [List.map_toArray, List.map_cons, List.map_nil]); first | done | rfl | (simp only [List.length_drop, List.length_take]; rfl)) ?_
  with_reducible refine (laws_toCell.calls kj10 a0_0 _ _ l0_1 qz qA _ ?side1 ?side2 A28.out).mono ?_
  (case side1 => exact cb_ qq HB)
  (case side2 => exact qr.out)
  rintro e zv ⟨q8, rfl, ho0, hb⟩
  refine ⟨_, rfl, ?_⟩
  have qj := Aside0.mk (Kd.S_lower (Kd.S_new' ho0 (Kd.S_lt (sm_ qb))) (bz_ HB)); replace qb := Aside0.mk (Kd.S_elder' (sm_ qb) (Kd.S_base ho0) hb); replace qa := kB_ qa hb; replace qc := kB_ qc hb; replace HB := bS_ HB hb; (try clear hb); (try clear hb2); (try clear hk); (try clear hi); (try clear ho0)
  obtain ⟨zb, zc, eo37⟩ := Kd.S_slice qj.out
  (first | subst eo37 | (injection eo37 with f1_ f2_ f3_; have f4_ := f1_.symm; have f5_ := f3_.symm; clear f1_ f2_ f3_; subst f4_; subst f5_))
  refine hK.out _ _ ⟨bc_ qc 0, bc_ qc 1, bc_ qa 0, bc_ qa 1⟩ (fun hHeld => ?_)
  clear hK K
  refine norm_ (a' := ?_) ?_ ?_
  rotate_left
  ·
   show Act.put _ (some 37) _ = _
   simp only [Act.put, sa_, s0_, s1_, i64_w, i32_w]
   rfl
  refine one_ (i := 3) (N := some 38) #[true, true, true, true, false] rfl rfl (by kernel_rfl) (by decide) (fun K hK => ?_)
  refine goes_ Try.func18 (by kernel_rfl) rfl #[.agg #[.int .i64 qf, .slice qo qe.length qn], .agg #[.int .i64 qz, .slice zb qA.length zc]] (by rfl) rfl rfl (by (try simp only [List.map_toArray, List.map_cons, List.map_nil]); first | done | rfl | (simp only [List.length_drop, List.length_take]; rfl)) ?_
  with_reducible refine (laws_eqCell.calls kj10 qf _ _ qe qz _ _ qA false _ ?side1 ?side2 ?side3 ?side4 A29.out).mono ?_
  (case side1 => exact cs_ qb)
  (case side2 => exact (Kd.S_reads' qb.out).2.1)
  (case side3 => exact cs_ qj)
  (case side4 => exact (Kd.S_reads' qj.out).2.1)
  rintro e zw ⟨rfl, hb⟩
  refine ⟨_, rfl, ?_⟩
  replace qb := sB_ qb hb; replace qj := sB_ qj hb; replace qa := kB_ qa hb; replace qc := kB_ qc hb; replace HB := bS_ HB hb; (try clear hb); (try clear hb2); (try clear hk); (try clear hi)
  refine hK.out _ _ ⟨bc_ qc 0, bc_ qc 1, bc_ qa 0, bc_ qa 1⟩ (fun hHeld => ?_)
  clear hK K
  refine norm_ (a' := ?_) ?_ ?_
  rotate_left
  ·
   show Act.put _ (some 38) _ = _
   simp only [Act.put, sa_, s0_, s1_, i64_w, i32_w]
   rfl
  refine pure_ (i := 4) (N := some 39) (v := ?_) (a' := ?_) #[true, true, true, true, true] rfl rfl (by kernel_rfl) (fun _ _ _ h => h) (Or.inl ⟨by rfl, ?_⟩) ?_ ?_
  rotate_left
  ·
   intro w'
   go_simp
   with_reducible rfl
  rotate_left
  ·
   simp only [Act.put, sa_, s0_, s1_, i64_w, i32_w]
   rfl
  refine done_ (by kernel_rfl) ?_
  try go_wp2
  go_ret
  exact rt_ (bb_ HB)

end Go.Proofs.Ytkicjflhokckgaa.PFnExactIsEmptyCell
