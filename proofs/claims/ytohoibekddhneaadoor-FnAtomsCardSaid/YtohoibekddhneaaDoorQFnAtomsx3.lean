/- The functions that the law FnAtoms reaches, each as a Lean function with the same answers, and the proof that the call comes to exactly these: turned by program out of the printed texts. No condition but those that each theorem names. -/
import Derived.Test.YtohoibekddhneaaDoorQFnAtomsx0
import Derived.Test.YtohoibekddhneaaDoorQFnAtomsx2
namespace Go.Proofs.YtohoibekddhneaaDoor.PFnAtoms
open Go.RowKit Go.Proofs.YtohoibekddhneaaDoorW.PrintWords Go.Proofs.YtohoibekddhneaaDoorW.PrintLast Go.Proofs.YtohoibekddhneaaDoorW.PrintMore
attribute [local go_sem] max2_int min2_int max_two min_two max_three min_three max_four min_four   -- for this text's walks alone
set_option linter.unusedVariables false
set_option linter.unusedSimpArgs false

/-! ### impl_AddRatios: function 33 -/
def impl_AddRatios.f (k : Nat) (a0_0 : Int) (a0_1 : Int) (a1_0 : Int) (a1_1 : Int) : Option (Int × Int) := (impl_IsRatio.f k a0_0 a0_1).bind fun qm => (if qm = true then ((impl_IsRatio.f k a1_0 a1_1).bind fun qk => (if qk = true then ((impl_reducedRatio.f k (wrap64 ((wrap64 (a0_0 * a1_1)) + (wrap64 (a1_0 * a0_1)))) (wrap64 (a0_1 * a1_1))).bind fun qd => (some (qd.1, qd.2))) else (some (0, 0)))) else (some (0, 0)))
theorem impl_AddRatios.mono : ∀ a0 a1 a2 a3 k, LeO (impl_AddRatios.f k a0 a1 a2 a3) (impl_AddRatios.f (k + 1) a0 a1 a2 a3) := by
 intro a0 a1 a2 a3 k
 unfold impl_AddRatios.f
 repeat' first
   | (with_reducible exact impl_IsRatio.mono _ _ _)
   | (with_reducible exact impl_reducedRatio.mono _ _ _)
   | (with_reducible exact LeO.refl _)
   | (with_reducible exact LeO.none _)
   | (with_reducible refine LeO.ite ?_ ?_)
   | (with_reducible refine LeO.bind ?_ (fun _ => ?_))
   | exact impl_IsRatio.mono _ _ _
   | exact impl_reducedRatio.mono _ _ _
   | exact LeO.none _
   | refine LeO.ite ?_ ?_
   | refine LeO.bind ?_ (fun _ => ?_)
set_option maxHeartbeats 8000000 in
set_option maxRecDepth 100000 in
theorem impl_AddRatios.calls (k : Nat) (a0_0 : Int) (a0_1 : Int) (a1_0 : Int) (a1_1 : Int) (r1 : Int) (r2 : Int) (w : World) (h : impl_AddRatios.f k a0_0 a0_1 a1_0 a1_1 = some (r1, r2)) :
  Calls Tryd.prog 33 #[.agg #[.int .i64 a0_0, .int .i64 a0_1], .agg #[.int .i64 a1_0, .int .i64 a1_1]] w fun e w' => e = .returned (.agg #[.int .i64 r1, .int .i64 r2]) ∧ Below w.heap.size w w' := by
 have hu46 := Tryd.underlying46
 have HB := Aside0.mk (Below.refl w.heap.size w)
 have H : ((impl_IsRatio.f k a0_0 a0_1).bind fun qm => (if qm = true then ((impl_IsRatio.f k a1_0 a1_1).bind fun qk => (if qk = true then ((impl_reducedRatio.f k (wrap64 ((wrap64 (a0_0 * a1_1)) + (wrap64 (a1_0 * a0_1)))) (wrap64 (a0_1 * a1_1))).bind fun qd => (some (qd.1, qd.2))) else (some (0, 0)))) else (some (0, 0)))) = some (r1, r2) := h
 clear h
 replace H := Option.bind_eq_some_iff.mp H
 obtain ⟨qm, A30, H⟩ := H
 replace H : (if qm = true then ((impl_IsRatio.f k a1_0 a1_1).bind fun qk => (if qk = true then ((impl_reducedRatio.f k (wrap64 ((wrap64 (a0_0 * a1_1)) + (wrap64 (a1_0 * a0_1)))) (wrap64 (a0_1 * a1_1))).bind fun qd => (some (qd.1, qd.2))) else (some (0, 0)))) else (some (0, 0))) = some (r1, r2) := H
 have A3 := Aside0.mk A30
 clear A30
 by_cases c4 : qm = true
 rotate_left
 ·
  replace c4 := Bool.eq_false_iff.mpr c4
  subst c4
  have H1 : (some (0, 0)) = some (r1, r2) := by rw [if_neg (show ¬ (false = true) by decide)] at H; exact H
  clear H
  have H := H1
  clear H1
  simp only [Option.some.injEq, Prod.mk.injEq] at H
  obtain ⟨rfl, rfl⟩ := H
  go_enter Tryd.func33, Tryd.ntmps33
  go_wp2_with (first | ((with_reducible refine gate_dst (N := 2) rfl ?_); refine bx_ (cs := #[.int .i64 a0_0, .int .i64 a0_1]) (t := 46) ?_; intro qo hg zt hbox hb; have qa := Aside0.mk (hbox); have qp := hz_ HB hg; have qq := hz_ HB hg; replace HB := bS_ HB hb; clear hb hbox hg) | ((with_reducible refine gate_dst (N := 3) rfl ?_); refine bx_ (cs := #[.int .i64 a1_0, .int .i64 a1_1]) (t := 46) ?_; intro qr hg zu hbox hb; have qb := Aside0.mk (hbox); have qs := hz_ HB hg; have qt := hz_ HB hg; replace HB := bS_ HB hb; have qe := nL_ qa hg; have qf := nG_ qa hg; replace qa := kB_ qa hb; clear hb hbox hg) | ((with_reducible refine gate_dst (N := 4) rfl ?_); refine bx_ (cs := #[.int .i64 0, .int .i64 0]) (t := 46) ?_; intro ql hg zv hbox hb; have qc := Aside0.mk (hbox); have qu := hz_ HB hg; have qv := hz_ HB hg; replace HB := bS_ HB hb; have qg := nL_ qa hg; have qh := nG_ qa hg; replace qa := kB_ qa hb; have qi := nL_ qb hg; have qj := nG_ qb hg; replace qb := kB_ qb hb; clear hb hbox hg; have zb := qe.out; have zc := qf.out; have zd := qg.out; have ze := qh.out; obtain ⟨qx, qy, qz, qA⟩ := b2_ qa) | ((with_reducible refine gate_callee (f := 72) rfl ?_); refine gL_ (some 6) Tryd.func72 #[.agg #[.int .i64 a0_0, .int .i64 a0_1]] ?_; (with_reducible refine (impl_IsRatio.calls k a0_0 a0_1 false _ A3.out).mono ?_); rintro e zw ⟨rfl, hb⟩; refine ⟨_, rfl, ?_⟩; replace qa := kB_ qa hb; replace qb := kB_ qb hb; replace qc := kB_ qc hb; replace HB := bS_ HB hb; clear hb; have zf := qj.out; have zg := qi.out; obtain ⟨qB, qC, qD, qE⟩ := b2_ qc))
  refine bodyPost_ret (results_cell_row rfl _ _ ql 46 #[.int .i64 0, .int .i64 0] (0, 0) _ rfl (by (with_reducible repeat (first | refine blk_drewN ?_ _ | refine blk_drew ?_ | refine blk_alloc ?_ _)); refine blk_put (cs := #[.int .i64 0, .int .i64 0]) ?_ 1 _ rfl; (with_reducible repeat (first | refine blk_drewN ?_ _ | refine blk_drew ?_ | refine blk_alloc ?_ _)); refine blk_put (cs := #[.int .i64 0, .int .i64 0]) ?_ 0 _ rfl; (with_reducible repeat (first | refine blk_drewN ?_ _ | refine blk_drew ?_ | refine blk_alloc ?_ _)); exact qc.out) Tryd.underlying46 rfl (by kernel_rfl)) rfl ?_
  exact ⟨by first | rfl | (simp [errW_none, errW_some] <;> rfl) | (simp [*, errW_none, errW_some] <;> rfl), bb_ HB⟩
 subst c4
 have H1 : ((impl_IsRatio.f k a1_0 a1_1).bind fun qk => (if qk = true then ((impl_reducedRatio.f k (wrap64 ((wrap64 (a0_0 * a1_1)) + (wrap64 (a1_0 * a0_1)))) (wrap64 (a0_1 * a1_1))).bind fun qd => (some (qd.1, qd.2))) else (some (0, 0)))) = some (r1, r2) := by rw [if_pos rfl] at H; exact H
 clear H
 have H := H1
 clear H1
 replace H := Option.bind_eq_some_iff.mp H
 obtain ⟨qk, A50, H⟩ := H
 replace H : (if qk = true then ((impl_reducedRatio.f k (wrap64 ((wrap64 (a0_0 * a1_1)) + (wrap64 (a1_0 * a0_1)))) (wrap64 (a0_1 * a1_1))).bind fun qd => (some (qd.1, qd.2))) else (some (0, 0))) = some (r1, r2) := H
 have A5 := Aside0.mk A50
 clear A50
 by_cases c6 : qk = true
 rotate_left
 ·
  replace c6 := Bool.eq_false_iff.mpr c6
  subst c6
  have H1 : (some (0, 0)) = some (r1, r2) := by rw [if_neg (show ¬ (false = true) by decide)] at H; exact H
  clear H
  have H := H1
  clear H1
  simp only [Option.some.injEq, Prod.mk.injEq] at H
  obtain ⟨rfl, rfl⟩ := H
  go_enter Tryd.func33, Tryd.ntmps33
  go_wp2_with (first | ((with_reducible refine gate_dst (N := 2) rfl ?_); refine bx_ (cs := #[.int .i64 a0_0, .int .i64 a0_1]) (t := 46) ?_; intro qo hg zx hbox hb; have qa := Aside0.mk (hbox); have qp := hz_ HB hg; have qq := hz_ HB hg; replace HB := bS_ HB hb; clear hb hbox hg) | ((with_reducible refine gate_dst (N := 3) rfl ?_); refine bx_ (cs := #[.int .i64 a1_0, .int .i64 a1_1]) (t := 46) ?_; intro qr hg zy hbox hb; have qb := Aside0.mk (hbox); have qs := hz_ HB hg; have qt := hz_ HB hg; replace HB := bS_ HB hb; have qe := nL_ qa hg; have qf := nG_ qa hg; replace qa := kB_ qa hb; clear hb hbox hg) | ((with_reducible refine gate_dst (N := 4) rfl ?_); refine bx_ (cs := #[.int .i64 0, .int .i64 0]) (t := 46) ?_; intro ql hg zz hbox hb; have qc := Aside0.mk (hbox); have qu := hz_ HB hg; have qv := hz_ HB hg; replace HB := bS_ HB hb; have qg := nL_ qa hg; have qh := nG_ qa hg; replace qa := kB_ qa hb; have qi := nL_ qb hg; have qj := nG_ qb hg; replace qb := kB_ qb hb; clear hb hbox hg; have zh := qe.out; have zi := qf.out; have zj := qg.out; have zk := qh.out; obtain ⟨qF, qG, qH, qI⟩ := b2_ qa) | ((with_reducible refine gate_callee (f := 72) rfl ?_); refine gL_ (some 6) Tryd.func72 #[.agg #[.int .i64 a0_0, .int .i64 a0_1]] ?_; (with_reducible refine (impl_IsRatio.calls k a0_0 a0_1 true _ A3.out).mono ?_); rintro e zA ⟨rfl, hb⟩; refine ⟨_, rfl, ?_⟩; replace qa := kB_ qa hb; replace qb := kB_ qb hb; replace qc := kB_ qc hb; replace HB := bS_ HB hb; clear hb; have zl := qi.out; have zm := qj.out; obtain ⟨qJ, qK, qL, qM⟩ := b2_ qb) | (go_at_call 72; (with_reducible refine (impl_IsRatio.calls k a1_0 a1_1 false _ A5.out).mono ?_); rintro e zB ⟨rfl, hb⟩; replace qa := kB_ qa hb; replace qb := kB_ qb hb; replace qc := kB_ qc hb; replace HB := bS_ HB hb; clear hb; obtain ⟨qN, qO, qP, qQ⟩ := b2_ qc))
  refine bodyPost_ret (results_cell_row rfl _ _ ql 46 #[.int .i64 0, .int .i64 0] (0, 0) _ rfl (by (with_reducible repeat (first | refine blk_drewN ?_ _ | refine blk_drew ?_ | refine blk_alloc ?_ _)); refine blk_put (cs := #[.int .i64 0, .int .i64 0]) ?_ 1 _ rfl; (with_reducible repeat (first | refine blk_drewN ?_ _ | refine blk_drew ?_ | refine blk_alloc ?_ _)); refine blk_put (cs := #[.int .i64 0, .int .i64 0]) ?_ 0 _ rfl; (with_reducible repeat (first | refine blk_drewN ?_ _ | refine blk_drew ?_ | refine blk_alloc ?_ _)); exact qc.out) Tryd.underlying46 rfl (by kernel_rfl)) rfl ?_
  exact ⟨by first | rfl | (simp [errW_none, errW_some] <;> rfl) | (simp [*, errW_none, errW_some] <;> rfl), bb_ HB⟩
 subst c6
 have H1 : ((impl_reducedRatio.f k (wrap64 ((wrap64 (a0_0 * a1_1)) + (wrap64 (a1_0 * a0_1)))) (wrap64 (a0_1 * a1_1))).bind fun qd => (some (qd.1, qd.2))) = some (r1, r2) := by rw [if_pos rfl] at H; exact H
 clear H
 have H := H1
 clear H1
 replace H := Option.bind_eq_some_iff.mp H
 obtain ⟨⟨qn, qw⟩, A70, H⟩ := H
 replace H : (some (qn, qw)) = some (r1, r2) := H
 have A7 := Aside0.mk A70
 clear A70
 simp only [Option.some.injEq, Prod.mk.injEq] at H
 obtain ⟨rfl, rfl⟩ := H
 go_enter Tryd.func33, Tryd.ntmps33
 go_wp2_with (first | ((with_reducible refine gate_dst (N := 2) rfl ?_); refine bx_ (cs := #[.int .i64 a0_0, .int .i64 a0_1]) (t := 46) ?_; intro qo hg w8 hbox hb; have qa := Aside0.mk (hbox); have qp := hz_ HB hg; have qq := hz_ HB hg; replace HB := bS_ HB hb; clear hb hbox hg) | ((with_reducible refine gate_dst (N := 3) rfl ?_); refine bx_ (cs := #[.int .i64 a1_0, .int .i64 a1_1]) (t := 46) ?_; intro qr hg w9 hbox hb; have qb := Aside0.mk (hbox); have qs := hz_ HB hg; have qt := hz_ HB hg; replace HB := bS_ HB hb; have qe := nL_ qa hg; have qf := nG_ qa hg; replace qa := kB_ qa hb; clear hb hbox hg) | ((with_reducible refine gate_dst (N := 4) rfl ?_); refine bx_ (cs := #[.int .i64 0, .int .i64 0]) (t := 46) ?_; intro ql hg zC hbox hb; have qc := Aside0.mk (hbox); have qu := hz_ HB hg; have qv := hz_ HB hg; replace HB := bS_ HB hb; have qg := nL_ qa hg; have qh := nG_ qa hg; replace qa := kB_ qa hb; have qi := nL_ qb hg; have qj := nG_ qb hg; replace qb := kB_ qb hb; clear hb hbox hg; have zn := qe.out; have zo := qf.out; have zp := qg.out; have zq := qh.out; obtain ⟨qR, qS, qT, qU⟩ := b2_ qa) | ((with_reducible refine gate_callee (f := 72) rfl ?_); refine gL_ (some 6) Tryd.func72 #[.agg #[.int .i64 a0_0, .int .i64 a0_1]] ?_; (with_reducible refine (impl_IsRatio.calls k a0_0 a0_1 true _ A3.out).mono ?_); rintro e zD ⟨rfl, hb⟩; refine ⟨_, rfl, ?_⟩; replace qa := kB_ qa hb; replace qb := kB_ qb hb; replace qc := kB_ qc hb; replace HB := bS_ HB hb; clear hb; have zr := qi.out; have zs := qj.out; obtain ⟨qV, qW, qX, qY⟩ := b2_ qb) | (go_at_call 72; (with_reducible refine (impl_IsRatio.calls k a1_0 a1_1 true _ A5.out).mono ?_); rintro e zE ⟨rfl, hb⟩; replace qa := kB_ qa hb; replace qb := kB_ qb hb; replace qc := kB_ qc hb; replace HB := bS_ HB hb; clear hb; obtain ⟨qZ, q0, q1, q2⟩ := b2_ qa; obtain ⟨q3, q4, q5, q6⟩ := b2_ qb) | ((with_reducible refine gate_callee (f := 79) rfl ?_); refine gL_ (some 30) Tryd.func79 #[.int .i64 (wrap64 ((wrap64 (a0_0 * a1_1)) + (wrap64 (a1_0 * a0_1)))), .int .i64 (wrap64 (a0_1 * a1_1))] ?_; (with_reducible refine (impl_reducedRatio.calls k (wrap64 ((wrap64 (a0_0 * a1_1)) + (wrap64 (a1_0 * a0_1)))) (wrap64 (a0_1 * a1_1)) qn qw _ A7.out).mono ?_); rintro e zF ⟨rfl, hb⟩; refine ⟨_, rfl, ?_⟩; replace qa := kB_ qa hb; replace qb := kB_ qb hb; replace qc := kB_ qc hb; replace HB := bS_ HB hb; clear hb; obtain ⟨q7, q8, q9, za⟩ := b2_ qc))
 refine bodyPost_ret (results_cell_row rfl _ _ ql 46 #[.int .i64 qn, .int .i64 qw] (0, 0) _ rfl (by (with_reducible repeat (first | refine blk_drewN ?_ _ | refine blk_drew ?_ | refine blk_alloc ?_ _)); refine blk_put (cs := #[.int .i64 qn, .int .i64 0]) ?_ 1 _ rfl; (with_reducible repeat (first | refine blk_drewN ?_ _ | refine blk_drew ?_ | refine blk_alloc ?_ _)); refine blk_put (cs := #[.int .i64 0, .int .i64 0]) ?_ 0 _ rfl; (with_reducible repeat (first | refine blk_drewN ?_ _ | refine blk_drew ?_ | refine blk_alloc ?_ _)); exact qc.out) Tryd.underlying46 rfl (by kernel_rfl)) rfl ?_
 exact ⟨by first | rfl | (simp [errW_none, errW_some] <;> rfl) | (simp [*, errW_none, errW_some] <;> rfl), bb_ HB⟩

/-! ### impl_MultiplyRatios: function 35 -/
def impl_MultiplyRatios.f (k : Nat) (a0_0 : Int) (a0_1 : Int) (a1_0 : Int) (a1_1 : Int) : Option (Int × Int) := (impl_IsRatio.f k a0_0 a0_1).bind fun qm => (if qm = true then ((impl_IsRatio.f k a1_0 a1_1).bind fun qk => (if qk = true then ((impl_reducedRatio.f k (wrap64 (a0_0 * a1_0)) (wrap64 (a0_1 * a1_1))).bind fun qd => (some (qd.1, qd.2))) else (some (0, 0)))) else (some (0, 0)))
theorem impl_MultiplyRatios.mono : ∀ a0 a1 a2 a3 k, LeO (impl_MultiplyRatios.f k a0 a1 a2 a3) (impl_MultiplyRatios.f (k + 1) a0 a1 a2 a3) := by
 intro a0 a1 a2 a3 k
 unfold impl_MultiplyRatios.f
 repeat' first
   | (with_reducible exact impl_IsRatio.mono _ _ _)
   | (with_reducible exact impl_reducedRatio.mono _ _ _)
   | (with_reducible exact LeO.refl _)
   | (with_reducible exact LeO.none _)
   | (with_reducible refine LeO.ite ?_ ?_)
   | (with_reducible refine LeO.bind ?_ (fun _ => ?_))
   | exact impl_IsRatio.mono _ _ _
   | exact impl_reducedRatio.mono _ _ _
   | exact LeO.none _
   | refine LeO.ite ?_ ?_
   | refine LeO.bind ?_ (fun _ => ?_)
set_option maxHeartbeats 8000000 in
set_option maxRecDepth 100000 in
theorem impl_MultiplyRatios.calls (k : Nat) (a0_0 : Int) (a0_1 : Int) (a1_0 : Int) (a1_1 : Int) (r1 : Int) (r2 : Int) (w : World) (h : impl_MultiplyRatios.f k a0_0 a0_1 a1_0 a1_1 = some (r1, r2)) :
  Calls Tryd.prog 35 #[.agg #[.int .i64 a0_0, .int .i64 a0_1], .agg #[.int .i64 a1_0, .int .i64 a1_1]] w fun e w' => e = .returned (.agg #[.int .i64 r1, .int .i64 r2]) ∧ Below w.heap.size w w' := by
 have hu46 := Tryd.underlying46
 have HB := Aside0.mk (Below.refl w.heap.size w)
 have H : ((impl_IsRatio.f k a0_0 a0_1).bind fun qm => (if qm = true then ((impl_IsRatio.f k a1_0 a1_1).bind fun qk => (if qk = true then ((impl_reducedRatio.f k (wrap64 (a0_0 * a1_0)) (wrap64 (a0_1 * a1_1))).bind fun qd => (some (qd.1, qd.2))) else (some (0, 0)))) else (some (0, 0)))) = some (r1, r2) := h
 clear h
 replace H := Option.bind_eq_some_iff.mp H
 obtain ⟨qm, A30, H⟩ := H
 replace H : (if qm = true then ((impl_IsRatio.f k a1_0 a1_1).bind fun qk => (if qk = true then ((impl_reducedRatio.f k (wrap64 (a0_0 * a1_0)) (wrap64 (a0_1 * a1_1))).bind fun qd => (some (qd.1, qd.2))) else (some (0, 0)))) else (some (0, 0))) = some (r1, r2) := H
 have A3 := Aside0.mk A30
 clear A30
 by_cases c4 : qm = true
 rotate_left
 ·
  replace c4 := Bool.eq_false_iff.mpr c4
  subst c4
  have H1 : (some (0, 0)) = some (r1, r2) := by rw [if_neg (show ¬ (false = true) by decide)] at H; exact H
  clear H
  have H := H1
  clear H1
  simp only [Option.some.injEq, Prod.mk.injEq] at H
  obtain ⟨rfl, rfl⟩ := H
  go_enter Tryd.func35, Tryd.ntmps35
  go_wp2_with (first | ((with_reducible refine gate_dst (N := 2) rfl ?_); refine bx_ (cs := #[.int .i64 a0_0, .int .i64 a0_1]) (t := 46) ?_; intro qo hg zt hbox hb; have qa := Aside0.mk (hbox); have qp := hz_ HB hg; have qq := hz_ HB hg; replace HB := bS_ HB hb; clear hb hbox hg) | ((with_reducible refine gate_dst (N := 3) rfl ?_); refine bx_ (cs := #[.int .i64 a1_0, .int .i64 a1_1]) (t := 46) ?_; intro qr hg zu hbox hb; have qb := Aside0.mk (hbox); have qs := hz_ HB hg; have qt := hz_ HB hg; replace HB := bS_ HB hb; have qe := nL_ qa hg; have qf := nG_ qa hg; replace qa := kB_ qa hb; clear hb hbox hg) | ((with_reducible refine gate_dst (N := 4) rfl ?_); refine bx_ (cs := #[.int .i64 0, .int .i64 0]) (t := 46) ?_; intro ql hg zv hbox hb; have qc := Aside0.mk (hbox); have qu := hz_ HB hg; have qv := hz_ HB hg; replace HB := bS_ HB hb; have qg := nL_ qa hg; have qh := nG_ qa hg; replace qa := kB_ qa hb; have qi := nL_ qb hg; have qj := nG_ qb hg; replace qb := kB_ qb hb; clear hb hbox hg; have zb := qe.out; have zc := qf.out; have zd := qg.out; have ze := qh.out; obtain ⟨qx, qy, qz, qA⟩ := b2_ qa) | ((with_reducible refine gate_callee (f := 72) rfl ?_); refine gL_ (some 6) Tryd.func72 #[.agg #[.int .i64 a0_0, .int .i64 a0_1]] ?_; (with_reducible refine (impl_IsRatio.calls k a0_0 a0_1 false _ A3.out).mono ?_); rintro e zw ⟨rfl, hb⟩; refine ⟨_, rfl, ?_⟩; replace qa := kB_ qa hb; replace qb := kB_ qb hb; replace qc := kB_ qc hb; replace HB := bS_ HB hb; clear hb; have zf := qj.out; have zg := qi.out; obtain ⟨qB, qC, qD, qE⟩ := b2_ qc))
  refine bodyPost_ret (results_cell_row rfl _ _ ql 46 #[.int .i64 0, .int .i64 0] (0, 0) _ rfl (by (with_reducible repeat (first | refine blk_drewN ?_ _ | refine blk_drew ?_ | refine blk_alloc ?_ _)); refine blk_put (cs := #[.int .i64 0, .int .i64 0]) ?_ 1 _ rfl; (with_reducible repeat (first | refine blk_drewN ?_ _ | refine blk_drew ?_ | refine blk_alloc ?_ _)); refine blk_put (cs := #[.int .i64 0, .int .i64 0]) ?_ 0 _ rfl; (with_reducible repeat (first | refine blk_drewN ?_ _ | refine blk_drew ?_ | refine blk_alloc ?_ _)); exact qc.out) Tryd.underlying46 rfl (by kernel_rfl)) rfl ?_
  exact ⟨by first | rfl | (simp [errW_none, errW_some] <;> rfl) | (simp [*, errW_none, errW_some] <;> rfl), bb_ HB⟩
 subst c4
 have H1 : ((impl_IsRatio.f k a1_0 a1_1).bind fun qk => (if qk = true then ((impl_reducedRatio.f k (wrap64 (a0_0 * a1_0)) (wrap64 (a0_1 * a1_1))).bind fun qd => (some (qd.1, qd.2))) else (some (0, 0)))) = some (r1, r2) := by rw [if_pos rfl] at H; exact H
 clear H
 have H := H1
 clear H1
 replace H := Option.bind_eq_some_iff.mp H
 obtain ⟨qk, A50, H⟩ := H
 replace H : (if qk = true then ((impl_reducedRatio.f k (wrap64 (a0_0 * a1_0)) (wrap64 (a0_1 * a1_1))).bind fun qd => (some (qd.1, qd.2))) else (some (0, 0))) = some (r1, r2) := H
 have A5 := Aside0.mk A50
 clear A50
 by_cases c6 : qk = true
 rotate_left
 ·
  replace c6 := Bool.eq_false_iff.mpr c6
  subst c6
  have H1 : (some (0, 0)) = some (r1, r2) := by rw [if_neg (show ¬ (false = true) by decide)] at H; exact H
  clear H
  have H := H1
  clear H1
  simp only [Option.some.injEq, Prod.mk.injEq] at H
  obtain ⟨rfl, rfl⟩ := H
  go_enter Tryd.func35, Tryd.ntmps35
  go_wp2_with (first | ((with_reducible refine gate_dst (N := 2) rfl ?_); refine bx_ (cs := #[.int .i64 a0_0, .int .i64 a0_1]) (t := 46) ?_; intro qo hg zx hbox hb; have qa := Aside0.mk (hbox); have qp := hz_ HB hg; have qq := hz_ HB hg; replace HB := bS_ HB hb; clear hb hbox hg) | ((with_reducible refine gate_dst (N := 3) rfl ?_); refine bx_ (cs := #[.int .i64 a1_0, .int .i64 a1_1]) (t := 46) ?_; intro qr hg zy hbox hb; have qb := Aside0.mk (hbox); have qs := hz_ HB hg; have qt := hz_ HB hg; replace HB := bS_ HB hb; have qe := nL_ qa hg; have qf := nG_ qa hg; replace qa := kB_ qa hb; clear hb hbox hg) | ((with_reducible refine gate_dst (N := 4) rfl ?_); refine bx_ (cs := #[.int .i64 0, .int .i64 0]) (t := 46) ?_; intro ql hg zz hbox hb; have qc := Aside0.mk (hbox); have qu := hz_ HB hg; have qv := hz_ HB hg; replace HB := bS_ HB hb; have qg := nL_ qa hg; have qh := nG_ qa hg; replace qa := kB_ qa hb; have qi := nL_ qb hg; have qj := nG_ qb hg; replace qb := kB_ qb hb; clear hb hbox hg; have zh := qe.out; have zi := qf.out; have zj := qg.out; have zk := qh.out; obtain ⟨qF, qG, qH, qI⟩ := b2_ qa) | ((with_reducible refine gate_callee (f := 72) rfl ?_); refine gL_ (some 6) Tryd.func72 #[.agg #[.int .i64 a0_0, .int .i64 a0_1]] ?_; (with_reducible refine (impl_IsRatio.calls k a0_0 a0_1 true _ A3.out).mono ?_); rintro e zA ⟨rfl, hb⟩; refine ⟨_, rfl, ?_⟩; replace qa := kB_ qa hb; replace qb := kB_ qb hb; replace qc := kB_ qc hb; replace HB := bS_ HB hb; clear hb; have zl := qi.out; have zm := qj.out; obtain ⟨qJ, qK, qL, qM⟩ := b2_ qb) | (go_at_call 72; (with_reducible refine (impl_IsRatio.calls k a1_0 a1_1 false _ A5.out).mono ?_); rintro e zB ⟨rfl, hb⟩; replace qa := kB_ qa hb; replace qb := kB_ qb hb; replace qc := kB_ qc hb; replace HB := bS_ HB hb; clear hb; obtain ⟨qN, qO, qP, qQ⟩ := b2_ qc))
  refine bodyPost_ret (results_cell_row rfl _ _ ql 46 #[.int .i64 0, .int .i64 0] (0, 0) _ rfl (by (with_reducible repeat (first | refine blk_drewN ?_ _ | refine blk_drew ?_ | refine blk_alloc ?_ _)); refine blk_put (cs := #[.int .i64 0, .int .i64 0]) ?_ 1 _ rfl; (with_reducible repeat (first | refine blk_drewN ?_ _ | refine blk_drew ?_ | refine blk_alloc ?_ _)); refine blk_put (cs := #[.int .i64 0, .int .i64 0]) ?_ 0 _ rfl; (with_reducible repeat (first | refine blk_drewN ?_ _ | refine blk_drew ?_ | refine blk_alloc ?_ _)); exact qc.out) Tryd.underlying46 rfl (by kernel_rfl)) rfl ?_
  exact ⟨by first | rfl | (simp [errW_none, errW_some] <;> rfl) | (simp [*, errW_none, errW_some] <;> rfl), bb_ HB⟩
 subst c6
 have H1 : ((impl_reducedRatio.f k (wrap64 (a0_0 * a1_0)) (wrap64 (a0_1 * a1_1))).bind fun qd => (some (qd.1, qd.2))) = some (r1, r2) := by rw [if_pos rfl] at H; exact H
 clear H
 have H := H1
 clear H1
 replace H := Option.bind_eq_some_iff.mp H
 obtain ⟨⟨qn, qw⟩, A70, H⟩ := H
 replace H : (some (qn, qw)) = some (r1, r2) := H
 have A7 := Aside0.mk A70
 clear A70
 simp only [Option.some.injEq, Prod.mk.injEq] at H
 obtain ⟨rfl, rfl⟩ := H
 go_enter Tryd.func35, Tryd.ntmps35
 go_wp2_with (first | ((with_reducible refine gate_dst (N := 2) rfl ?_); refine bx_ (cs := #[.int .i64 a0_0, .int .i64 a0_1]) (t := 46) ?_; intro qo hg w8 hbox hb; have qa := Aside0.mk (hbox); have qp := hz_ HB hg; have qq := hz_ HB hg; replace HB := bS_ HB hb; clear hb hbox hg) | ((with_reducible refine gate_dst (N := 3) rfl ?_); refine bx_ (cs := #[.int .i64 a1_0, .int .i64 a1_1]) (t := 46) ?_; intro qr hg w9 hbox hb; have qb := Aside0.mk (hbox); have qs := hz_ HB hg; have qt := hz_ HB hg; replace HB := bS_ HB hb; have qe := nL_ qa hg; have qf := nG_ qa hg; replace qa := kB_ qa hb; clear hb hbox hg) | ((with_reducible refine gate_dst (N := 4) rfl ?_); refine bx_ (cs := #[.int .i64 0, .int .i64 0]) (t := 46) ?_; intro ql hg zC hbox hb; have qc := Aside0.mk (hbox); have qu := hz_ HB hg; have qv := hz_ HB hg; replace HB := bS_ HB hb; have qg := nL_ qa hg; have qh := nG_ qa hg; replace qa := kB_ qa hb; have qi := nL_ qb hg; have qj := nG_ qb hg; replace qb := kB_ qb hb; clear hb hbox hg; have zn := qe.out; have zo := qf.out; have zp := qg.out; have zq := qh.out; obtain ⟨qR, qS, qT, qU⟩ := b2_ qa) | ((with_reducible refine gate_callee (f := 72) rfl ?_); refine gL_ (some 6) Tryd.func72 #[.agg #[.int .i64 a0_0, .int .i64 a0_1]] ?_; (with_reducible refine (impl_IsRatio.calls k a0_0 a0_1 true _ A3.out).mono ?_); rintro e zD ⟨rfl, hb⟩; refine ⟨_, rfl, ?_⟩; replace qa := kB_ qa hb; replace qb := kB_ qb hb; replace qc := kB_ qc hb; replace HB := bS_ HB hb; clear hb; have zr := qi.out; have zs := qj.out; obtain ⟨qV, qW, qX, qY⟩ := b2_ qb) | (go_at_call 72; (with_reducible refine (impl_IsRatio.calls k a1_0 a1_1 true _ A5.out).mono ?_); rintro e zE ⟨rfl, hb⟩; replace qa := kB_ qa hb; replace qb := kB_ qb hb; replace qc := kB_ qc hb; replace HB := bS_ HB hb; clear hb; obtain ⟨qZ, q0, q1, q2⟩ := b2_ qa; obtain ⟨q3, q4, q5, q6⟩ := b2_ qb) | ((with_reducible refine gate_callee (f := 79) rfl ?_); refine gL_ (some 24) Tryd.func79 #[.int .i64 (wrap64 (a0_0 * a1_0)), .int .i64 (wrap64 (a0_1 * a1_1))] ?_; (with_reducible refine (impl_reducedRatio.calls k (wrap64 (a0_0 * a1_0)) (wrap64 (a0_1 * a1_1)) qn qw _ A7.out).mono ?_); rintro e zF ⟨rfl, hb⟩; refine ⟨_, rfl, ?_⟩; replace qa := kB_ qa hb; replace qb := kB_ qb hb; replace qc := kB_ qc hb; replace HB := bS_ HB hb; clear hb; obtain ⟨q7, q8, q9, za⟩ := b2_ qc))
 refine bodyPost_ret (results_cell_row rfl _ _ ql 46 #[.int .i64 qn, .int .i64 qw] (0, 0) _ rfl (by (with_reducible repeat (first | refine blk_drewN ?_ _ | refine blk_drew ?_ | refine blk_alloc ?_ _)); refine blk_put (cs := #[.int .i64 qn, .int .i64 0]) ?_ 1 _ rfl; (with_reducible repeat (first | refine blk_drewN ?_ _ | refine blk_drew ?_ | refine blk_alloc ?_ _)); refine blk_put (cs := #[.int .i64 0, .int .i64 0]) ?_ 0 _ rfl; (with_reducible repeat (first | refine blk_drewN ?_ _ | refine blk_drew ?_ | refine blk_alloc ?_ _)); exact qc.out) Tryd.underlying46 rfl (by kernel_rfl)) rfl ?_
 exact ⟨by first | rfl | (simp [errW_none, errW_some] <;> rfl) | (simp [*, errW_none, errW_some] <;> rfl), bb_ HB⟩

/-! ### impl_IsPoint: function 109 -/
def impl_IsPoint.l0 : Nat → List (S46) → Int → Int → Option (Bool)
 | 0, _, _, _ => none
 | k + 1, x11, x12, x13 => if x13 < x12 then (if 0 ≤ x13 then (if x13 < (x11.length : Int) then ((impl_IsRatio.f k ((rd_T46 x11 x13).f0) ((rd_T46 x11 x13).f1)).bind fun qe => (if qe = true then (impl_IsPoint.l0 k x11 x12 (wrap64 (x13 + 1))) else (some false))) else (none)) else (none)) else (some true)
def impl_IsPoint.f (k : Nat) (l0 : List (S46)) (a1 : Int) : Option (Bool) := if (l0.length : Int) = a1 then (impl_IsPoint.l0 k l0 (l0.length : Int) 0) else (some false)
theorem impl_IsPoint.mono_l : ∀ k, (∀ y0 y1 y2, LeO (impl_IsPoint.l0 k y0 y1 y2) (impl_IsPoint.l0 (k + 1) y0 y1 y2))
 | 0 => fun _ _ _ r h => by simp [impl_IsPoint.l0] at h
 | k + 1 => by
  have ih0 := impl_IsPoint.mono_l k
  ·
   intro y0 y1 y2
   unfold impl_IsPoint.l0
   repeat' first
   | (with_reducible exact ih0 _ _ _)
   | (with_reducible exact impl_IsRatio.mono _ _ _)
   | (with_reducible exact LeO.refl _)
   | (with_reducible exact LeO.none _)
   | (with_reducible refine LeO.ite ?_ ?_)
   | (with_reducible refine LeO.bind ?_ (fun _ => ?_))
   | exact ih0 _ _ _
   | exact impl_IsRatio.mono _ _ _
   | exact LeO.none _
   | refine LeO.ite ?_ ?_
   | refine LeO.bind ?_ (fun _ => ?_)
theorem impl_IsPoint.mono : ∀ a0 a1 k, LeO (impl_IsPoint.f k a0 a1) (impl_IsPoint.f (k + 1) a0 a1) := by
 intro a0 a1 k
 have ih0 := impl_IsPoint.mono_l k
 unfold impl_IsPoint.f
 repeat' first
   | (with_reducible exact ih0 _ _ _)
   | (with_reducible exact impl_IsRatio.mono _ _ _)
   | (with_reducible exact LeO.refl _)
   | (with_reducible exact LeO.none _)
   | (with_reducible refine LeO.ite ?_ ?_)
   | (with_reducible refine LeO.bind ?_ (fun _ => ?_))
   | exact ih0 _ _ _
   | exact impl_IsRatio.mono _ _ _
   | exact LeO.none _
   | refine LeO.ite ?_ ?_
   | refine LeO.bind ?_ (fun _ => ?_)
set_option maxHeartbeats 8000000 in
set_option maxRecDepth 100000 in
theorem impl_IsPoint.calls (k : Nat) (A0 : Option Addr) (c0 : Nat) (l0 : List (S46)) (a1 : Int) (r : Bool) (w : World) (hr0 : Kd.C k46 w A0 l0.length l0) (hc0 : l0.length ≤ c0) (h : impl_IsPoint.f k l0 a1 = some r) :
  Calls Tryd.prog 109 #[.slice A0 l0.length c0, .int .i64 a1] w fun e w' => e = .returned (.bool r) ∧ Below w.heap.size w w' := by
 have hu46 := Tryd.underlying46
 have HR0 := Aside0.mk hr0
 have HC0 := Aside0.mk hc0
 clear hr0 hc0
 have HB := Aside0.mk (Below.refl w.heap.size w)
 have H : (if (l0.length : Int) = a1 then (impl_IsPoint.l0 k l0 (l0.length : Int) 0) else (some false)) = some r := h
 clear h
 by_cases c3 : (l0.length : Int) = a1
 rotate_left
 ·
  rw [if_neg c3] at H
  have qf : ((l0.length : Int) == a1) = false := beq_eq_false_iff_ne.mpr c3
  have qg : ((l0.length : Int) != a1) = true := bne_iff_ne.mpr c3
  obtain rfl := Option.some.inj H
  go_enter Tryd.func109, Tryd.ntmps109
  go_wp2
  go_ret
  exact ⟨by first | rfl | (simp [errW_none, errW_some] <;> rfl) | (simp [*, errW_none, errW_some] <;> rfl), bb_ HB⟩
 rw [if_pos c3] at H
 have qf : ((l0.length : Int) == a1) = true := beq_iff_eq.mpr c3
 have qg : ((l0.length : Int) != a1) = false := bne_eq_false_iff_eq.mpr c3
 clear c3
 have H' := Aside0.mk H
 clear H
 go_enter Tryd.func109, Tryd.ntmps109
 go_wp2
 go_loopg [13] k (fun kq v13 w' => ∃ (qa : Int), v13 = .int .i64 qa ∧ Aside0 (impl_IsPoint.l0 kq l0 (l0.length : Int) qa = some r) ∧ Aside0 (kq ≤ k) ∧ Aside0 (Below w.heap.size w w'))
 case atStart => exact ⟨(0), (by first | rfl | (simp; done) | (simp [*]; done)), H', ⟨Nat.le_refl _⟩, ⟨bb_ HB⟩⟩
 case round =>
  clear H'
  try clear c1
  try clear p2
  try clear c3
  try clear qf
  try clear qg
  obtain ⟨qa, rfl, HA, HK1, HB⟩ := hrel
  cases gk with
  | zero => exact absurd HA.out (by simp [impl_IsPoint.l0])
  | succ k1 =>
   have H := HA.out
   clear HA
   simp only [impl_IsPoint.l0] at H
   by_cases c4 : qa < (l0.length : Int)
   rotate_left
   ·
    rw [if_neg c4] at H
    have qt : decide (qa < (l0.length : Int)) = false := decide_eq_false c4
    clear c4
    obtain rfl := Option.some.inj H
    go_wp2
    go_ret
    exact ⟨by first | rfl | (simp [errW_none, errW_some] <;> rfl) | (simp [*, errW_none, errW_some] <;> rfl), bb_ HB⟩
   rw [if_pos c4] at H
   have qt : decide (qa < (l0.length : Int)) = true := decide_eq_true c4
   clear c4
   by_cases c5 : 0 ≤ qa
   rotate_left
   ·
    rw [if_neg c5] at H
    exact absurd H (by simp)
   rw [if_pos c5] at H
   have qu : decide (0 ≤ qa) = true := decide_eq_true c5
   clear c5
   by_cases c6 : qa < (l0.length : Int)
   rotate_left
   ·
    rw [if_neg c6] at H
    exact absurd H (by simp)
   rw [if_pos c6] at H
   have qv : decide (qa < (l0.length : Int)) = true := decide_eq_true c6
   clear c6
   replace H := Option.bind_eq_some_iff.mp H
   obtain ⟨qe, A70, H⟩ := H
   replace H : (if qe = true then (impl_IsPoint.l0 k1 l0 (l0.length : Int) (wrap64 (qa + 1))) else (some false)) = some r := H
   have A7 := Aside0.mk A70
   clear A70
   by_cases c8 : qe = true
   rotate_left
   ·
    replace c8 := Bool.eq_false_iff.mpr c8
    subst c8
    have H1 : (some false) = some r := by rw [if_neg (show ¬ (false = true) by decide)] at H; exact H
    clear H
    have H := H1
    clear H1
    obtain rfl := Option.some.inj H
    have p412 : 0 ≤ (qa : Int) := of_decide_eq_true (by first | (with_reducible assumption) | assumption)
    have q412 : qa < (l0.length : Int) := of_decide_eq_true (by first | (with_reducible assumption) | assumption)
    obtain ⟨qh, e412, qb, qc⟩ := at_T46 HR0.out qa p412 q412
    cases e412
    replace qb := (HB.out.cell (World.block_lt_of_cell? w _ qb)).trans qb
    replace qc := (HB.out.cell (World.block_lt_of_cell? w _ qc)).trans qc
    replace p412 := eq_true p412
    replace q412 := eq_true q412
    go_wp2_with (first | ((with_reducible refine gate_dst (N := 6) rfl ?_); refine bx_ (cs := #[.int .i64 0, .int .i64 0]) (t := 46) ?_; intro qi hg qw hbox hb; have qd := Aside0.mk (hbox); have qj := hz_ HB hg; have qk := hz_ HB hg; replace HB := bS_ HB hb; clear hb hbox hg; obtain ⟨ql, qm, qn, qo⟩ := b2_ qd) | ((with_reducible refine gate_callee (f := 72) rfl ?_); refine gL_ (some 18) Tryd.func72 #[.agg #[.int .i64 ((rd_T46 l0 qa).f0), .int .i64 ((rd_T46 l0 qa).f1)]] ?_; (with_reducible refine (impl_IsRatio.calls k1 ((rd_T46 l0 qa).f0) ((rd_T46 l0 qa).f1) false _ A7.out).mono ?_); rintro e qx ⟨rfl, hb⟩; refine ⟨_, rfl, ?_⟩; replace qd := kP_ (cs' := #[.int .i64 ((rd_T46 l0 qa).f0), .int .i64 ((rd_T46 l0 qa).f1)]) qd hb; replace HB := bS_ HB hb; clear hb))
    go_ret
    exact ⟨by first | rfl | (simp [errW_none, errW_some] <;> rfl) | (simp [*, errW_none, errW_some] <;> rfl), bb_ HB⟩
   subst c8
   have H1 : (impl_IsPoint.l0 k1 l0 (l0.length : Int) (wrap64 (qa + 1))) = some r := by rw [if_pos rfl] at H; exact H
   clear H
   have H := H1
   clear H1
   have H' := Aside0.mk H
   clear H
   have p412 : 0 ≤ (qa : Int) := of_decide_eq_true (by first | (with_reducible assumption) | assumption)
   have q412 : qa < (l0.length : Int) := of_decide_eq_true (by first | (with_reducible assumption) | assumption)
   obtain ⟨qh, e412, qb, qc⟩ := at_T46 HR0.out qa p412 q412
   cases e412
   replace qb := (HB.out.cell (World.block_lt_of_cell? w _ qb)).trans qb
   replace qc := (HB.out.cell (World.block_lt_of_cell? w _ qc)).trans qc
   replace p412 := eq_true p412
   replace q412 := eq_true q412
   go_wp2_with (first | ((with_reducible refine gate_dst (N := 6) rfl ?_); refine bx_ (cs := #[.int .i64 0, .int .i64 0]) (t := 46) ?_; intro qi hg w9 hbox hb; have qd := Aside0.mk (hbox); have qj := hz_ HB hg; have qk := hz_ HB hg; replace HB := bS_ HB hb; clear hb hbox hg; obtain ⟨qp, qq, qr, qs⟩ := b2_ qd) | ((with_reducible refine gate_callee (f := 72) rfl ?_); refine gL_ (some 18) Tryd.func72 #[.agg #[.int .i64 ((rd_T46 l0 qa).f0), .int .i64 ((rd_T46 l0 qa).f1)]] ?_; (with_reducible refine (impl_IsRatio.calls k1 ((rd_T46 l0 qa).f0) ((rd_T46 l0 qa).f1) true _ A7.out).mono ?_); rintro e qy ⟨rfl, hb⟩; refine ⟨_, rfl, ?_⟩; replace qd := kP_ (cs' := #[.int .i64 ((rd_T46 l0 qa).f0), .int .i64 ((rd_T46 l0 qa).f1)]) qd hb; replace HB := bS_ HB hb; clear hb))
   go_roundg k1
   case measure => have := HK1.out; omega
   case rel => exact ⟨(wrap64 (qa + 1)), (by first | rfl | (simp; done) | (simp [*]; done)), H', ⟨by have := HK1.out; omega⟩, ⟨bb_ HB⟩⟩

/-! ### impl_ValueOf: function 88 -/
mutual
def impl_ValueOf.j0 : Nat → List (S46) → Bool → List Int → Int → Bool → Option (Int × Int × Bool)
 | 0, _, _, _, _, _ => none
 | k + 1, x1, x19, x416000, x416001, x416002 => if x19 = true then (some (0, 0, false)) else (impl_ValueOf.l0 k x1 x416000 (x416000.length : Int) 0 x416001 1)
def impl_ValueOf.l0 : Nat → List (S46) → List Int → Int → Int → Int → Int → Option (Int × Int × Bool)
 | 0, _, _, _, _, _, _ => none
 | k + 1, x1, x25, x26, x27, x420000, x420001 => if x27 < x26 then (if 0 ≤ x27 then (if x27 < (x25.length : Int) then (if x27 < (x1.length : Int) then ((impl_MultiplyRatios.f k (rd x25 x27) 1 ((rd_T46 x1 x27).f0) ((rd_T46 x1 x27).f1)).bind fun zd => ((impl_AddRatios.f k x420000 x420001 zd.1 zd.2).bind fun qs => (impl_ValueOf.l0 k x1 x25 x26 (wrap64 (x27 + 1)) qs.1 qs.2))) else (none)) else (none)) else (none)) else ((impl_IsRatio.f k x420000 x420001).bind fun qP => (some (x420000, x420001, qP)))
end
def impl_ValueOf.f (k : Nat) (l0_0 : List Int) (a0_1 : Int) (a0_2 : Bool) (l1 : List (S46)) : Option (Int × Int × Bool) := (impl_IsAtom.f k l0_0 a0_1 a0_2).bind fun qM => (if qM = true then ((impl_IsPoint.f k l1 (l0_0.length : Int)).bind fun qp => (impl_ValueOf.j0 k l1 (!qp) l0_0 a0_1 a0_2)) else (impl_ValueOf.j0 k l1 true l0_0 a0_1 a0_2))
theorem impl_ValueOf.mono_l : ∀ k, (∀ y0 y1 y2 y3 y4, LeO (impl_ValueOf.j0 k y0 y1 y2 y3 y4) (impl_ValueOf.j0 (k + 1) y0 y1 y2 y3 y4)) ∧ (∀ y0 y1 y2 y3 y4 y5, LeO (impl_ValueOf.l0 k y0 y1 y2 y3 y4 y5) (impl_ValueOf.l0 (k + 1) y0 y1 y2 y3 y4 y5))
 | 0 => ⟨fun _ _ _ _ _ r h => by simp [impl_ValueOf.j0] at h, fun _ _ _ _ _ _ r h => by simp [impl_ValueOf.l0] at h⟩
 | k + 1 => by
  obtain ⟨ih0, ih1⟩ := impl_ValueOf.mono_l k
  refine ⟨?_, ?_⟩ <;> (intros; first | unfold impl_ValueOf.j0 | unfold impl_ValueOf.l0)
  all_goals
   repeat' first
   | (with_reducible exact ih0 _ _ _ _ _)
   | (with_reducible exact ih1 _ _ _ _ _ _)
   | (with_reducible exact impl_AddRatios.mono _ _ _ _ _)
   | (with_reducible exact impl_IsAtom.mono _ _ _ _)
   | (with_reducible exact impl_IsPoint.mono _ _ _)
   | (with_reducible exact impl_IsRatio.mono _ _ _)
   | (with_reducible exact impl_MultiplyRatios.mono _ _ _ _ _)
   | (with_reducible exact LeO.refl _)
   | (with_reducible exact LeO.none _)
   | (with_reducible refine LeO.ite ?_ ?_)
   | (with_reducible refine LeO.bind ?_ (fun _ => ?_))
   | exact ih0 _ _ _ _ _
   | exact ih1 _ _ _ _ _ _
   | exact impl_AddRatios.mono _ _ _ _ _
   | exact impl_IsAtom.mono _ _ _ _
   | exact impl_IsPoint.mono _ _ _
   | exact impl_IsRatio.mono _ _ _
   | exact impl_MultiplyRatios.mono _ _ _ _ _
   | exact LeO.none _
   | refine LeO.ite ?_ ?_
   | refine LeO.bind ?_ (fun _ => ?_)
theorem impl_ValueOf.mono : ∀ a0 a1 a2 a3 k, LeO (impl_ValueOf.f k a0 a1 a2 a3) (impl_ValueOf.f (k + 1) a0 a1 a2 a3) := by
 intro a0 a1 a2 a3 k
 obtain ⟨ih0, ih1⟩ := impl_ValueOf.mono_l k
 unfold impl_ValueOf.f
 repeat' first
   | (with_reducible exact ih0 _ _ _ _ _)
   | (with_reducible exact ih1 _ _ _ _ _ _)
   | (with_reducible exact impl_AddRatios.mono _ _ _ _ _)
   | (with_reducible exact impl_IsAtom.mono _ _ _ _)
   | (with_reducible exact impl_IsPoint.mono _ _ _)
   | (with_reducible exact impl_IsRatio.mono _ _ _)
   | (with_reducible exact impl_MultiplyRatios.mono _ _ _ _ _)
   | (with_reducible exact LeO.refl _)
   | (with_reducible exact LeO.none _)
   | (with_reducible refine LeO.ite ?_ ?_)
   | (with_reducible refine LeO.bind ?_ (fun _ => ?_))
   | exact ih0 _ _ _ _ _
   | exact ih1 _ _ _ _ _ _
   | exact impl_AddRatios.mono _ _ _ _ _
   | exact impl_IsAtom.mono _ _ _ _
   | exact impl_IsPoint.mono _ _ _
   | exact impl_IsRatio.mono _ _ _
   | exact impl_MultiplyRatios.mono _ _ _ _ _
   | exact LeO.none _
   | refine LeO.ite ?_ ?_
   | refine LeO.bind ?_ (fun _ => ?_)
def impl_ValueOf.T7 : Bool × List (List Nat × List Nat) := (true, [([], []), ([], []), ([1], [1]), ([], []), ([], []), ([3, 4], [3, 4]), ([5], [5]), ([2, 6], [2, 6]), ([0, 7, 7], [0, 7]), ([8, 8, 0, 1, 2, 3, 4, 5, 6, 7, 8], [8])])
def impl_ValueOf.B7 : List Nat := [0, 0, 2, 0, 0, 24, 56, 126, 255, 511]
theorem impl_ValueOf.tab7 : rtab .any (opsOf Tryd.f88 7) = impl_ValueOf.T7 := by kernel_rfl
theorem impl_ValueOf.bits7 : waitsOk impl_ValueOf.T7.2 impl_ValueOf.B7 = true := by kernel_rfl
set_option maxHeartbeats 8000000 in
set_option maxRecDepth 100000 in
theorem impl_ValueOf.calls (k : Nat) (A0_0 : Option Addr) (c0_0 : Nat) (l0_0 : List Int) (a0_1 : Int) (a0_2 : Bool) (A1 : Option Addr) (c1 : Nat) (l1 : List (S46)) (r1 : Int) (r2 : Int) (r3 : Bool) (w : World) (hr0_0 : Kd.C (Kd.int .i64) w A0_0 l0_0.length l0_0) (hc0_0 : l0_0.length ≤ c0_0) (hr1 : Kd.C k46 w A1 l1.length l1) (hc1 : l1.length ≤ c1) (h : impl_ValueOf.f k l0_0 a0_1 a0_2 l1 = some (r1, r2, r3)) :
  Calls Tryd.prog 88 #[.agg #[.slice A0_0 l0_0.length c0_0, .int .i64 a0_1, .bool a0_2], .slice A1 l1.length c1] w fun e w' => e = .returned (.tuple #[.agg #[.int .i64 r1, .int .i64 r2], .bool r3]) ∧ Below w.heap.size w w' := by
 have hu27 := Tryd.underlying27
 have hu46 := Tryd.underlying46
 have qN := Aside0.mk hr0_0
 have ze := Aside0.mk hc0_0
 clear hr0_0 hc0_0
 have HR1 := Aside0.mk hr1
 have HC1 := Aside0.mk hc1
 clear hr1 hc1
 have HB := Aside0.mk (Below.refl w.heap.size w)
 have H : ((impl_IsAtom.f k l0_0 a0_1 a0_2).bind fun qM => (if qM = true then ((impl_IsPoint.f k l1 (l0_0.length : Int)).bind fun qp => (impl_ValueOf.j0 k l1 (!qp) l0_0 a0_1 a0_2)) else (impl_ValueOf.j0 k l1 true l0_0 a0_1 a0_2))) = some (r1, r2, r3) := h
 clear h
 have HC3 := Aside0.mk H
 clear H
 go_enter Tryd.func88, Tryd.ntmps88
 go_upto_region 1 with (first | ((with_reducible refine gate_dst (N := 2) rfl ?_); (try (refine gate_guard (by rfl) ?_; dsimp only)); refine bx_ (cs := #[.slice A0_0 l0_0.length c0_0, .int .i64 a0_1, .bool a0_2]) (t := 27) ?_; intro zf hg w4 hbox hb; have qa := Aside0.mk (hbox); have zi := hz_ HB hg; have zj := hz_ HB hg; replace HB := bS_ HB hb; clear hb hbox hg) | ((with_reducible refine gate_dst (N := 4) rfl ?_); (try (refine gate_guard (by rfl) ?_; dsimp only)); refine bx_ (cs := #[.int .i64 0, .int .i64 0]) (t := 46) ?_; intro qk hg w5 hbox hb; have qd := Aside0.mk (hbox); have zk := hz_ HB hg; have zl := hz_ HB hg; replace HB := bS_ HB hb; have qh := nL_ qa hg; have qi := nG_ qa hg; replace qa := kB_ qa hb; clear hb hbox hg))
 (try simp only [Act.put, List.setIfInBounds_toArray, List.set_cons_zero, List.set_cons_succ])
 go_cut [19] (fun v19 wc => ∃ (kq : Nat) (qt : Bool), v19 = .bool qt ∧ Aside0 (impl_ValueOf.j0 kq l1 qt l0_0 a0_1 a0_2 = some (r1, r2, r3)) ∧ Aside0 (kq ≤ k) ∧ Aside0 (wc.heap[zf]? = some (.cells #[(.slice A0_0 l0_0.length c0_0), .int .i64 a0_1, .bool a0_2] 27 (0, 0))) ∧ Aside0 (wc.heap[qk]? = some (.cells #[.int .i64 0, .int .i64 0] 46 (0, 0))) ∧ Aside0 (Below w.heap.size w wc))
 case first =>
  have H := HC3.out
  clear HC3
  replace H := Option.bind_eq_some_iff.mp H
  obtain ⟨qM, A60, H⟩ := H
  replace H : (if qM = true then ((impl_IsPoint.f k l1 (l0_0.length : Int)).bind fun qp => (impl_ValueOf.j0 k l1 (!qp) l0_0 a0_1 a0_2)) else (impl_ValueOf.j0 k l1 true l0_0 a0_1 a0_2)) = some (r1, r2, r3) := H
  have A6 := Aside0.mk A60
  clear A60
  by_cases c7 : qM = true
  rotate_left
  ·
   replace c7 := Bool.eq_false_iff.mpr c7
   subst c7
   have H1 : (impl_ValueOf.j0 k l1 true l0_0 a0_1 a0_2) = some (r1, r2, r3) := by rw [if_neg (show ¬ (false = true) by decide)] at H; exact H
   clear H
   have H := H1
   clear H1
   have H' := Aside0.mk H
   clear H
   have zm := qh.out
   have zn := qi.out
   obtain ⟨qu, qv, qw, qx, qy, qz⟩ := b3_ qa
   go_wp2_with (first | ((with_reducible refine gate_callee (f := 52) rfl ?_); refine gL_ (some 10) Tryd.func52 #[.agg #[.slice A0_0 l0_0.length c0_0, .int .i64 a0_1, .bool a0_2]] ?_; (with_reducible refine (impl_IsAtom.calls k _ _ l0_0 a0_1 a0_2 false _ ?side1 ?side2 A6.out).mono ?_); (case side1 => exact cb_ qN HB); (case side2 => exact ze.out); rintro e zG ⟨rfl, hb⟩; refine ⟨_, rfl, ?_⟩; replace qa := kB_ qa hb; replace qd := kB_ qd hb; replace HB := bS_ HB hb; clear hb))
   go_meet
   case rel => exact ⟨_, (true), (by first | rfl | (simp; done) | (simp [*]; done)), H', ⟨by first | omega | exact Nat.le_refl _⟩, ⟨kf_ qa⟩, ⟨kf_ qd⟩, ⟨bb_ HB⟩⟩
  subst c7
  have H1 : ((impl_IsPoint.f k l1 (l0_0.length : Int)).bind fun qp => (impl_ValueOf.j0 k l1 (!qp) l0_0 a0_1 a0_2)) = some (r1, r2, r3) := by rw [if_pos rfl] at H; exact H
  clear H
  have H := H1
  clear H1
  replace H := Option.bind_eq_some_iff.mp H
  obtain ⟨qp, A80, H⟩ := H
  replace H : (impl_ValueOf.j0 k l1 (!qp) l0_0 a0_1 a0_2) = some (r1, r2, r3) := H
  have A8 := Aside0.mk A80
  clear A80
  have H' := Aside0.mk H
  clear H
  have zE := qh.out
  have zF := qi.out
  obtain ⟨qA, qB, qC, qD, qE, qF⟩ := b3_ qa
  go_wp2_with (first | ((with_reducible refine gate_callee (f := 52) rfl ?_); refine gL_ (some 10) Tryd.func52 #[.agg #[.slice A0_0 l0_0.length c0_0, .int .i64 a0_1, .bool a0_2]] ?_; (with_reducible refine (impl_IsAtom.calls k _ _ l0_0 a0_1 a0_2 true _ ?side1 ?side2 A6.out).mono ?_); (case side1 => exact cb_ qN HB); (case side2 => exact ze.out); rintro e zH ⟨rfl, hb⟩; refine ⟨_, rfl, ?_⟩; replace qa := kB_ qa hb; replace qd := kB_ qd hb; replace HB := bS_ HB hb; clear hb; obtain ⟨qG, qH, qI, qJ, qK, qL⟩ := b3_ qa) | (go_at_call 109; (with_reducible refine (impl_IsPoint.calls k _ _ l1 (l0_0.length : Int) qp _ ?side1 ?side2 A8.out).mono ?_); (case side1 => exact cb_ HR1 HB); (case side2 => exact HC1.out); rintro e zI ⟨rfl, hb⟩; replace qa := kB_ qa hb; replace qd := kB_ qd hb; replace HB := bS_ HB hb; clear hb))
  go_meet
  case rel => exact ⟨_, (!qp), (by first | rfl | (simp; done) | (simp [*]; done)), H', ⟨by first | omega | exact Nat.le_refl _⟩, ⟨kf_ qa⟩, ⟨kf_ qd⟩, ⟨bb_ HB⟩⟩
 case rest =>
  clear HC3
  try clear c1
  try clear p2
  try clear c5
  try clear c7
  try clear c8
  try clear c9
  try clear c14
  try clear qA
  try clear qB
  try clear qC
  try clear qG
  try clear qH
  try clear qI
  try clear qu
  try clear qv
  try clear qw
  try clear qD
  try clear qE
  try clear qF
  try clear qJ
  try clear qK
  try clear qL
  try clear qx
  try clear qy
  try clear qz
  obtain ⟨kq, qt, rfl, HA, HJ2, qa, qd, HB⟩ := hcut
  cases kq with
  | zero => exact absurd HA.out (by simp [impl_ValueOf.j0])
  | succ kj2 =>
   have H := HA.out
   clear HA
   simp only [impl_ValueOf.j0] at H
   by_cases c17 : qt = true
   ·
    subst c17
    have H1 : (some (0, 0, false)) = some (r1, r2, r3) := by rw [if_pos rfl] at H; exact H
    clear H
    have H := H1
    clear H1
    simp only [Option.some.injEq, Prod.mk.injEq] at H
    obtain ⟨rfl, rfl, rfl⟩ := H
    have zo := qi.out
    have zp := qh.out
    obtain ⟨qQ, qR, qS, qT⟩ := b2_ qd
    go_wp2
    refine bodyPost_ret (results_ct rfl _ _ qk 46 #[.int .i64 0, .int .i64 0] (0, 0) _ rfl (by (with_reducible repeat (first | refine blk_drewN ?_ _ | refine blk_drew ?_ | refine blk_alloc ?_ _)); refine blk_put (cs := #[.int .i64 0, .int .i64 0]) ?_ 1 _ rfl; (with_reducible repeat (first | refine blk_drewN ?_ _ | refine blk_drew ?_ | refine blk_alloc ?_ _)); refine blk_put (cs := #[.int .i64 0, .int .i64 0]) ?_ 0 _ rfl; (with_reducible repeat (first | refine blk_drewN ?_ _ | refine blk_drew ?_ | refine blk_alloc ?_ _)); exact qd.out) Tryd.underlying46 rfl (by kernel_rfl)) rfl ?_
    exact ⟨by first | rfl | (simp [errW_none, errW_some] <;> rfl) | (simp [*, errW_none, errW_some] <;> rfl), bb_ HB⟩
   replace c17 := Bool.eq_false_iff.mpr c17
   subst c17
   have H1 : (impl_ValueOf.l0 kj2 l1 l0_0 (l0_0.length : Int) 0 a0_1 1) = some (r1, r2, r3) := by rw [if_neg (show ¬ (false = true) by decide)] at H; exact H
   clear H
   have H := H1
   clear H1
   have H' := Aside0.mk H
   clear H
   have zq := qh.out
   have zr := qi.out
   obtain ⟨qU, qV, qW, qX, qY, qZ⟩ := b3_ qa
   go_wp2_with (first | ((with_reducible refine gate_dst (N := 6) rfl ?_); (try (refine gate_guard (by rfl) ?_; dsimp only)); refine bx_ (cs := #[.int .i64 0, .int .i64 0]) (t := 46) ?_; intro qq hg zJ hbox hb; have qf := Aside0.mk (hbox); have zs := hz_ HB hg; have zt := hz_ HB hg; replace HB := bS_ HB hb; have qn := nL_ qa hg; have qo := nG_ qa hg; replace qa := kB_ qa hb; have qj := nL_ qd hg; have qg := nG_ qd hg; replace qd := kB_ qd hb; clear hb hbox hg; have zu := qo.out; have zv := qn.out; have zw := qg.out; have zx := qj.out; obtain ⟨q0, q1, q2, q3⟩ := b2_ qf; obtain ⟨q4, q5, q6, q7, q8, q9⟩ := b3_ qa))
   go_loopg [27] kj2 (fun kq v27 w' => ∃ (qe : Int) (qb : Int) (qc : Int), v27 = .int .i64 qe ∧ Aside0 (impl_ValueOf.l0 kq l1 l0_0 (l0_0.length : Int) qe qb qc = some (r1, r2, r3)) ∧ Aside0 (kq ≤ kj2) ∧ Aside0 (w'.heap[zf]? = some (.cells #[(.slice A0_0 l0_0.length c0_0), .int .i64 a0_1, .bool a0_2] 27 (0, 0))) ∧ Aside0 (w'.heap[qk]? = some (.cells #[.int .i64 0, .int .i64 0] 46 (0, 0))) ∧ Aside0 (w'.heap[qq]? = some (.cells #[.int .i64 qb, .int .i64 qc] 46 (0, 0))) ∧ Aside0 (Below w.heap.size w w'))
   case atStart => exact ⟨(0), (a0_1), (1), (by first | rfl | (simp; done) | (simp [*]; done)), H', ⟨Nat.le_refl _⟩, ⟨kf_ qa⟩, ⟨kf_ qd⟩, ⟨by (with_reducible repeat (first | refine blk_drewN ?_ _ | refine blk_drew ?_ | refine blk_alloc ?_ _)); refine blk_put (cs := #[.int .i64 a0_1, .int .i64 0]) ?_ 1 _ rfl; (with_reducible repeat (first | refine blk_drewN ?_ _ | refine blk_drew ?_ | refine blk_alloc ?_ _)); refine blk_put (cs := #[.int .i64 0, .int .i64 0]) ?_ 0 _ rfl; (with_reducible repeat (first | refine blk_drewN ?_ _ | refine blk_drew ?_ | refine blk_alloc ?_ _)); exact qf.out⟩, ⟨bb_ HB⟩⟩
   case round =>
    clear H'
    try clear c1
    try clear c2
    try clear p2
    try clear c5
    try clear c7
    try clear c8
    try clear c9
    try clear c14
    try clear c17
    try clear c18
    try clear c20
    try clear c23
    try clear c24
    try clear qA
    try clear qB
    try clear qC
    try clear qG
    try clear qH
    try clear qI
    try clear qu
    try clear qv
    try clear qw
    try clear qQ
    try clear qR
    try clear qU
    try clear qV
    try clear qW
    try clear q0
    try clear q1
    try clear q4
    try clear q5
    try clear q6
    try clear qD
    try clear qE
    try clear qF
    try clear qJ
    try clear qK
    try clear qL
    try clear qx
    try clear qy
    try clear qz
    try clear qS
    try clear qT
    try clear qX
    try clear qY
    try clear qZ
    try clear q2
    try clear q3
    try clear q7
    try clear q8
    try clear q9
    try clear p2
    obtain ⟨qe, qb, qc, rfl, HA, HK2, qa, qd, qf, HB⟩ := hrel
    cases gk with
    | zero => exact absurd HA.out (by simp [impl_ValueOf.l0])
    | succ k2 =>
     have H := HA.out
     clear HA
     simp only [impl_ValueOf.l0] at H
     by_cases c27 : qe < (l0_0.length : Int)
     rotate_left
     ·
      rw [if_neg c27] at H
      have zh : decide (qe < (l0_0.length : Int)) = false := decide_eq_false c27
      clear c27
      replace H := Option.bind_eq_some_iff.mp H
      obtain ⟨qP, A380, H⟩ := H
      replace H : (some (qb, qc, qP)) = some (r1, r2, r3) := H
      have A38 := Aside0.mk A380
      clear A380
      simp only [Option.some.injEq, Prod.mk.injEq] at H
      obtain ⟨rfl, rfl, rfl⟩ := H
      try go_wp2
      replace qa := Aside0.mk (blk_drew qa.out); replace qd := Aside0.mk (blk_drew qd.out); replace qf := Aside0.mk (blk_drew qf.out); replace HB := Aside0.mk (below_drew1 HB.out)
      refine start_ (n := 5) (S := fun w' => w'.cell? ⟨qq, 0, none⟩ = some (.int .i64 qb) ∧ w'.cell? ⟨qq, 1, none⟩ = some (.int .i64 qc)) (ds := []) #[false, false, false, false, false] (by kernel_rfl) rfl rfl ⟨bc_ qf 0, bc_ qf 1⟩ (fun hHeld => ?_)
      generalize wr.drew = zK at qa qd qf HB hHeld ⊢
      refine take_ (i := 0) (N := some 42) (v := ?_) (a' := ?_) #[true, false, false, false, false] rfl rfl (by kernel_rfl) (fun _ _ _ h => h) (Or.inl ⟨by rfl, ?_⟩) hHeld ?_ ?_
      rotate_left
      ·
       rintro w' ⟨s0, s1⟩
       go_simp
       with_reducible rfl
      rotate_left
      ·
       simp only [Act.put, List.setIfInBounds_toArray, List.set_cons_zero, List.set_cons_succ, i64_w, i32_w]
       rfl
      refine take_ (i := 1) (N := some 43) (v := ?_) (a' := ?_) #[true, true, false, false, false] rfl rfl (by kernel_rfl) (fun _ _ _ h => h) (Or.inl ⟨by rfl, ?_⟩) hHeld ?_ ?_
      rotate_left
      ·
       rintro w' ⟨s0, s1⟩
       go_simp
       with_reducible rfl
      rotate_left
      ·
       simp only [Act.put, List.setIfInBounds_toArray, List.set_cons_zero, List.set_cons_succ, i64_w, i32_w]
       rfl
      refine one_ (i := 2) (N := some 44) #[true, true, true, false, false] rfl rfl (by kernel_rfl) (by decide) (fun K hK => ?_)
      refine goes_ Tryd.func72 (by kernel_rfl) rfl #[.agg #[.int .i64 qb, .int .i64 qc]] (by rfl) rfl rfl (by (try simp only [List.map_toArray, List.map_cons, List.map_nil]); first | done | rfl | (simp only [List.length_drop, List.length_take]; rfl)) ?_
      with_reducible refine (impl_IsRatio.calls k2 qb qc qP _ A38.out).mono ?_
      rintro e zy ⟨rfl, hb⟩
      refine ⟨_, rfl, ?_⟩
      replace qa := kB_ qa hb; replace qd := kB_ qd hb; replace qf := kB_ qf hb; replace HB := bS_ HB hb; (try clear hb); (try clear hb2); (try clear hk); (try clear hi)
      refine hK.out _ _ ⟨bc_ qf 0, bc_ qf 1⟩ (fun hHeld => ?_)
      clear hK K
      refine norm_ (a' := ?_) ?_ ?_
      rotate_left
      ·
       show Act.put _ (some 44) _ = _
       simp only [Act.put, List.setIfInBounds_toArray, List.set_cons_zero, List.set_cons_succ, i64_w, i32_w]
       rfl
      refine one_ (i := 3) (N := none) #[true, true, true, true, false] rfl rfl (by kernel_rfl) (by decide) (fun K hK => ?_)
      have hs41 : zy.cell? ⟨qk, 0, none⟩ = some (.int .i64 0) := bc_ qd 0
      have hfs41 := blk_frozen qd.out 0
      have hns41_0 := qh.out
      have hns41_2 := qg.out
      have hms41_0 := qi.out
      have hms41_2 := qj.out
      have hs42 : zy.cell? ⟨qk, 1, none⟩ = some (.int .i64 0) := bc_ qd 1
      have hfs42 := blk_frozen qd.out 1
      have hns42_0 := qh.out
      have hns42_2 := qg.out
      have hms42_0 := qi.out
      have hms42_2 := qj.out
      refine skip_ (w1 := ?_) (by rfl) rfl ?_ ?_
      rotate_left
      ·
       go_simp
       rfl
      refine hK.out _ _ ⟨((cell_far (p := ⟨qk, _, none⟩) qg.out _).trans (((cell_far (p := ⟨qk, _, none⟩) qg.out _).trans (hHeld.1)))), ((cell_far (p := ⟨qk, _, none⟩) qg.out _).trans (((cell_far (p := ⟨qk, _, none⟩) qg.out _).trans (hHeld.2))))⟩ (fun hHeld => ?_)
      clear hK K
      refine pure_ (i := 4) (N := some 5) (v := ?_) (a' := ?_) #[true, true, true, true, true] rfl rfl (by kernel_rfl) (fun _ _ _ h => h) (Or.inl ⟨by rfl, ?_⟩) ?_ ?_
      rotate_left
      ·
       intro w'
       go_simp
       with_reducible rfl
      rotate_left
      ·
       simp only [Act.put, List.setIfInBounds_toArray, List.set_cons_zero, List.set_cons_succ, i64_w, i32_w]
       rfl
      refine done_ (by kernel_rfl) ?_
      try go_wp2
      refine bodyPost_ret (results_ct rfl _ _ qk 46 #[.int .i64 qb, .int .i64 qc] (0, 0) _ rfl (by (with_reducible repeat (first | refine blk_drewN ?_ _ | refine blk_drew ?_ | refine blk_alloc ?_ _)); refine blk_put (cs := #[.int .i64 qb, .int .i64 0]) ?_ 1 _ rfl; (with_reducible repeat (first | refine blk_drewN ?_ _ | refine blk_drew ?_ | refine blk_alloc ?_ _)); refine blk_put (cs := #[.int .i64 0, .int .i64 0]) ?_ 0 _ rfl; (with_reducible repeat (first | refine blk_drewN ?_ _ | refine blk_drew ?_ | refine blk_alloc ?_ _)); exact qd.out) Tryd.underlying46 rfl (by kernel_rfl)) rfl ?_
      exact ⟨by first | rfl | (simp [errW_none, errW_some] <;> rfl) | (simp [*, errW_none, errW_some] <;> rfl), bb_ HB⟩
     rw [if_pos c27] at H
     have zh : decide (qe < (l0_0.length : Int)) = true := decide_eq_true c27
     clear c27
     by_cases c28 : 0 ≤ qe
     rotate_left
     ·
      rw [if_neg c28] at H
      exact absurd H (by simp)
     rw [if_pos c28] at H
     have zz : decide (0 ≤ qe) = true := decide_eq_true c28
     clear c28
     by_cases c29 : qe < (l0_0.length : Int)
     rotate_left
     ·
      rw [if_neg c29] at H
      exact absurd H (by simp)
     rw [if_pos c29] at H
     have zA : decide (qe < (l0_0.length : Int)) = true := decide_eq_true c29
     clear c29
     by_cases c30 : qe < (l1.length : Int)
     rotate_left
     ·
      rw [if_neg c30] at H
      exact absurd H (by simp)
     rw [if_pos c30] at H
     have zB : decide (qe < (l1.length : Int)) = true := decide_eq_true c30
     clear c30
     replace H := Option.bind_eq_some_iff.mp H
     obtain ⟨⟨za, zb⟩, A310, H⟩ := H
     replace H : ((impl_AddRatios.f k2 qb qc za zb).bind fun qs => (impl_ValueOf.l0 k2 l1 l0_0 (l0_0.length : Int) (wrap64 (qe + 1)) qs.1 qs.2)) = some (r1, r2, r3) := H
     have A31 := Aside0.mk A310
     clear A310
     replace H := Option.bind_eq_some_iff.mp H
     obtain ⟨⟨zc, zg⟩, A320, H⟩ := H
     replace H : (impl_ValueOf.l0 k2 l1 l0_0 (l0_0.length : Int) (wrap64 (qe + 1)) zc zg) = some (r1, r2, r3) := H
     have A32 := Aside0.mk A320
     clear A320
     have H' := Aside0.mk H
     clear H
     have p420 : 0 ≤ (qe : Int) := of_decide_eq_true (by first | (with_reducible assumption) | assumption)
     have q420 : qe < (l0_0.length : Int) := of_decide_eq_true (by first | (with_reducible assumption) | assumption)
     obtain ⟨zC, e420, qr⟩ := Kd.at_int qN.out qe p420 q420
     cases e420
     replace qr := (HB.out.cell (World.block_lt_of_cell? w _ qr)).trans qr
     replace p420 := eq_true p420
     replace q420 := eq_true q420
     try go_wp2
     replace qa := Aside0.mk (blk_drew qa.out); replace qd := Aside0.mk (blk_drew qd.out); replace qf := Aside0.mk (blk_drew qf.out); replace HB := Aside0.mk (below_drew1 HB.out)
     have p421 : 0 ≤ (qe : Int) := of_decide_eq_true (by first | (with_reducible assumption) | assumption)
     have q421 : qe < (l1.length : Int) := of_decide_eq_true (by first | (with_reducible assumption) | assumption)
     obtain ⟨qO, e421, ql, qm⟩ := at_T46 HR1.out qe p421 q421
     have hw421_1 := qm
     have hw421_0 := ql
     cases e421
     replace ql := (HB.out.cell (World.block_lt_of_cell? w _ ql)).trans ql
     replace qm := (HB.out.cell (World.block_lt_of_cell? w _ qm)).trans qm
     replace p421 := eq_true p421
     replace q421 := eq_true q421
     refine start_ (n := 10) (S := fun w' => w'.cell? ⟨qq, 0, none⟩ = some (.int .i64 qb) ∧ w'.cell? ⟨qq, 1, none⟩ = some (.int .i64 qc) ∧ w'.cell? (qO.add ((qe).toNat * 2)) = some (.int .i64 ((rd_T46 l1 qe).f0)) ∧ w'.cell? ⟨(qO.add ((qe).toNat * 2)).block, (qO.add ((qe).toNat * 2)).off + 1, none⟩ = some (.int .i64 ((rd_T46 l1 qe).f1))) (ds := [9]) #[false, false, false, false, false, false, false, false, false, false] (by kernel_rfl) rfl rfl ⟨bc_ qf 0, bc_ qf 1, ((HB.out.cell (World.block_lt_of_cell? w _ hw421_0)).trans hw421_0), ((HB.out.cell (World.block_lt_of_cell? w _ hw421_1)).trans hw421_1)⟩ (fun hHeld => ?_); refine with_tabW impl_ValueOf.tab7 impl_ValueOf.bits7 (fun HT_ HW_ => ?_)
     generalize wr.drew = zL at qa qd qf HB ql qm hHeld ⊢
     refine pX_ 1 (some 33) #[false, true, false, false, false, false, false, false, false, false] HT_ ?_
     refine pX_ 2 (some 34) #[false, true, true, false, false, false, false, false, false, false] HT_ ?_
     refine pX_ 3 (some 35) #[false, true, true, true, false, false, false, false, false, false] HT_ ?_
     refine pX_ 4 (some 36) #[false, true, true, true, true, false, false, false, false, false] HT_ ?_
     refine pX_ 5 (some 37) #[false, true, true, true, true, true, false, false, false, false] HT_ ?_
     refine take_ (i := 0) (N := some 32) (v := ?_) (a' := ?_) #[true, true, true, true, true, true, false, false, false, false] rfl rfl (take_ofW HT_.out HW_.out (by kernel_rfl)) (fun _ _ _ h => h) (Or.inl ⟨by rfl, ?_⟩) hHeld ?_ ?_
     rotate_left
     ·
      rintro w' ⟨s0, s1, s2, s3⟩
      go_simp
      with_reducible rfl
     rotate_left
     ·
      simp only [Act.put, List.setIfInBounds_toArray, List.set_cons_zero, List.set_cons_succ, i64_w, i32_w]
      rfl
     refine take_ (i := 6) (N := some 38) (v := ?_) (a' := ?_) #[true, true, true, true, true, true, true, false, false, false] rfl rfl (take_ofW HT_.out HW_.out (by kernel_rfl)) (fun _ _ _ h => h) (Or.inl ⟨by rfl, ?_⟩) hHeld ?_ ?_
     rotate_left
     ·
      rintro w' ⟨s0, s1, s2, s3⟩
      go_simp
      with_reducible rfl
     rotate_left
     ·
      simp only [Act.put, List.setIfInBounds_toArray, List.set_cons_zero, List.set_cons_succ, i64_w, i32_w]
      rfl
     refine one_ (i := 7) (N := some 39) #[true, true, true, true, true, true, true, true, false, false] rfl rfl (one_of HT_.out (by kernel_rfl)) (by decide) (fun K hK => ?_)
     refine goes_ Tryd.func35 (by kernel_rfl) rfl #[.agg #[.int .i64 (rd l0_0 qe), .int .i64 1], .agg #[.int .i64 ((rd_T46 l1 qe).f0), .int .i64 ((rd_T46 l1 qe).f1)]] (by rfl) rfl rfl (by (try simp only [List.map_toArray, List.map_cons, List.map_nil]); first | done | rfl | (simp only [List.length_drop, List.length_take]; rfl)) ?_
     with_reducible refine (impl_MultiplyRatios.calls k2 (rd l0_0 qe) 1 ((rd_T46 l1 qe).f0) ((rd_T46 l1 qe).f1) za zb _ A31.out).mono ?_
     rintro e zM ⟨rfl, hb⟩
     refine ⟨_, rfl, ?_⟩
     replace qa := kB_ qa hb; replace qd := kB_ qd hb; replace qf := kB_ qf hb; replace HB := bS_ HB hb; (try clear hb); (try clear hb2); (try clear hk); (try clear hi)
     refine hK.out _ _ ⟨bc_ qf 0, bc_ qf 1, ((HB.out.cell (World.block_lt_of_cell? w _ hw421_0)).trans hw421_0), ((HB.out.cell (World.block_lt_of_cell? w _ hw421_1)).trans hw421_1)⟩ (fun hHeld => ?_)
     clear hK K
     refine norm_ (a' := ?_) ?_ ?_
     rotate_left
     ·
      show Act.put _ (some 39) _ = _
      simp only [Act.put, List.setIfInBounds_toArray, List.set_cons_zero, List.set_cons_succ, i64_w, i32_w]
      rfl
     refine one_ (i := 8) (N := some 40) #[true, true, true, true, true, true, true, true, true, false] rfl rfl (one_of HT_.out (by kernel_rfl)) (by decide) (fun K hK => ?_)
     refine goes_ Tryd.func33 (by kernel_rfl) rfl #[.agg #[.int .i64 qb, .int .i64 qc], .agg #[.int .i64 za, .int .i64 zb]] (by rfl) rfl rfl (by (try simp only [List.map_toArray, List.map_cons, List.map_nil]); first | done | rfl | (simp only [List.length_drop, List.length_take]; rfl)) ?_
     with_reducible refine (impl_AddRatios.calls k2 qb qc za zb zc zg _ A32.out).mono ?_
     rintro e zD ⟨rfl, hb⟩
     refine ⟨_, rfl, ?_⟩
     replace qa := kB_ qa hb; replace qd := kB_ qd hb; replace qf := kB_ qf hb; replace HB := bS_ HB hb; (try clear hb); (try clear hb2); (try clear hk); (try clear hi)
     refine hK.out _ _ ⟨bc_ qf 0, bc_ qf 1, ((HB.out.cell (World.block_lt_of_cell? w _ hw421_0)).trans hw421_0), ((HB.out.cell (World.block_lt_of_cell? w _ hw421_1)).trans hw421_1)⟩ (fun hHeld => ?_)
     clear hK K
     refine norm_ (a' := ?_) ?_ ?_
     rotate_left
     ·
      show Act.put _ (some 40) _ = _
      simp only [Act.put, List.setIfInBounds_toArray, List.set_cons_zero, List.set_cons_succ, i64_w, i32_w]
      rfl
     refine last_ (i := 9) (N := none) #[true, true, true, true, true, true, true, true, true, true] rfl rfl (one_of HT_.out (by kernel_rfl)) (by decide) (fun K hK => ?_)
     have hs36 : zD.cell? ⟨qq, 0, none⟩ = some (.int .i64 qb) := bc_ qf 0
     have hfs36 := blk_frozen qf.out 0
     have hns36_0 := qn.out
     have hns36_1 := qj.out
     have hms36_0 := qo.out
     have hms36_1 := qg.out
     have hs37 : zD.cell? ⟨qq, 1, none⟩ = some (.int .i64 qc) := bc_ qf 1
     have hfs37 := blk_frozen qf.out 1
     have hns37_0 := qn.out
     have hns37_1 := qj.out
     have hms37_0 := qo.out
     have hms37_1 := qg.out
     refine skip_ (w1 := ?_) (by rfl) rfl ?_ ?_
     rotate_left
     ·
      go_simp
      rfl
     refine hK.out _ _ ?_
     clear hK K
     refine done_ (done_of HT_.out (by kernel_rfl)) ?_
     try go_wp2
     go_roundg k2
     case measure => have := HJ2.out; have := HK2.out; omega
     case rel => exact ⟨(wrap64 (qe + 1)), (zc), (zg), (by first | rfl | (simp; done) | (simp [*]; done)), H', ⟨by have := HJ2.out; have := HK2.out; omega⟩, ⟨kf_ qa⟩, ⟨kf_ qd⟩, ⟨by (with_reducible repeat (first | refine blk_drewN ?_ _ | refine blk_drew ?_ | refine blk_alloc ?_ _)); refine blk_put (cs := #[.int .i64 zc, .int .i64 qc]) ?_ 1 _ rfl; (with_reducible repeat (first | refine blk_drewN ?_ _ | refine blk_drew ?_ | refine blk_alloc ?_ _)); refine blk_put (cs := #[.int .i64 qb, .int .i64 qc]) ?_ 0 _ rfl; (with_reducible repeat (first | refine blk_drewN ?_ _ | refine blk_drew ?_ | refine blk_alloc ?_ _)); exact qf.out⟩, ⟨bb_ HB⟩⟩

/-! ### impl_HoldsAt: function 47 -/
def impl_HoldsAt.f (k : Nat) (l0_0 : List Int) (a0_1 : Int) (a0_2 : Bool) (l1 : List (S46)) : Option (Bool × Bool) := (impl_ValueOf.f k l0_0 a0_1 a0_2 l1).bind fun qe => (if qe.2.2 = true then (if qe.1 < 0 then (some (true, true)) else (if qe.1 = 0 then (some (!a0_2, true)) else (some (false, true)))) else (some (false, false)))
theorem impl_HoldsAt.mono : ∀ a0 a1 a2 a3 k, LeO (impl_HoldsAt.f k a0 a1 a2 a3) (impl_HoldsAt.f (k + 1) a0 a1 a2 a3) := by
 intro a0 a1 a2 a3 k
 unfold impl_HoldsAt.f
 repeat' first
   | (with_reducible exact impl_ValueOf.mono _ _ _ _ _)
   | (with_reducible exact LeO.refl _)
   | (with_reducible exact LeO.none _)
   | (with_reducible refine LeO.ite ?_ ?_)
   | (with_reducible refine LeO.bind ?_ (fun _ => ?_))
   | exact impl_ValueOf.mono _ _ _ _ _
   | exact LeO.none _
   | refine LeO.ite ?_ ?_
   | refine LeO.bind ?_ (fun _ => ?_)
set_option maxHeartbeats 8000000 in
set_option maxRecDepth 100000 in
theorem impl_HoldsAt.calls (k : Nat) (A0_0 : Option Addr) (c0_0 : Nat) (l0_0 : List Int) (a0_1 : Int) (a0_2 : Bool) (A1 : Option Addr) (c1 : Nat) (l1 : List (S46)) (r1 : Bool) (r2 : Bool) (w : World) (hr0_0 : Kd.C (Kd.int .i64) w A0_0 l0_0.length l0_0) (hc0_0 : l0_0.length ≤ c0_0) (hr1 : Kd.C k46 w A1 l1.length l1) (hc1 : l1.length ≤ c1) (h : impl_HoldsAt.f k l0_0 a0_1 a0_2 l1 = some (r1, r2)) :
  Calls Tryd.prog 47 #[.agg #[.slice A0_0 l0_0.length c0_0, .int .i64 a0_1, .bool a0_2], .slice A1 l1.length c1] w fun e w' => e = .returned (.tuple #[.bool r1, .bool r2]) ∧ Below w.heap.size w w' := by
 have hu27 := Tryd.underlying27
 have hu46 := Tryd.underlying46
 have qg := Aside0.mk hr0_0
 have qh := Aside0.mk hc0_0
 clear hr0_0 hc0_0
 have HR1 := Aside0.mk hr1
 have HC1 := Aside0.mk hc1
 clear hr1 hc1
 have HB := Aside0.mk (Below.refl w.heap.size w)
 have H : ((impl_ValueOf.f k l0_0 a0_1 a0_2 l1).bind fun qe => (if qe.2.2 = true then (if qe.1 < 0 then (some (true, true)) else (if qe.1 = 0 then (some (!a0_2, true)) else (some (false, true)))) else (some (false, false)))) = some (r1, r2) := h
 clear h
 replace H := Option.bind_eq_some_iff.mp H
 obtain ⟨⟨qd, qo, qp⟩, A30, H⟩ := H
 replace H : (if qp = true then (if qd < 0 then (some (true, true)) else (if qd = 0 then (some (!a0_2, true)) else (some (false, true)))) else (some (false, false))) = some (r1, r2) := H
 have A3 := Aside0.mk A30
 clear A30
 by_cases c4 : qp = true
 rotate_left
 ·
  replace c4 := Bool.eq_false_iff.mpr c4
  subst c4
  have H1 : (some (false, false)) = some (r1, r2) := by rw [if_neg (show ¬ (false = true) by decide)] at H; exact H
  clear H
  have H := H1
  clear H1
  simp only [Option.some.injEq, Prod.mk.injEq] at H
  obtain ⟨rfl, rfl⟩ := H
  go_enter Tryd.func47, Tryd.ntmps47
  go_wp2_with (first | ((with_reducible refine gate_dst (N := 2) rfl ?_); refine bx_ (cs := #[.slice A0_0 l0_0.length c0_0, .int .i64 a0_1, .bool a0_2]) (t := 27) ?_; intro qi hg zl hbox hb; have qa := Aside0.mk (hbox); have qj := hz_ HB hg; have qk := hz_ HB hg; replace HB := bS_ HB hb; clear hb hbox hg; obtain ⟨qs, qt, qu, qv, qw, qx⟩ := b3_ qa) | ((with_reducible refine gate_callee (f := 88) rfl ?_); refine gL_ (some 11) Tryd.func88 #[.agg #[.slice A0_0 l0_0.length c0_0, .int .i64 a0_1, .bool a0_2], .slice A1 l1.length c1] ?_; (with_reducible refine (impl_ValueOf.calls k _ _ l0_0 a0_1 a0_2 _ _ l1 qd qo false _ ?side1 ?side2 ?side3 ?side4 A3.out).mono ?_); (case side1 => exact cb_ qg HB); (case side2 => exact qh.out); (case side3 => exact cb_ HR1 HB); (case side4 => exact HC1.out); rintro e zm ⟨rfl, hb⟩; refine ⟨_, rfl, ?_⟩; replace qa := kB_ qa hb; replace HB := bS_ HB hb; clear hb) | ((with_reducible refine gate_dst (N := 6) rfl ?_); refine bx_ (cs := #[.int .i64 0, .int .i64 0]) (t := 46) ?_; intro ql hg zn hbox hb; have qf := Aside0.mk (hbox); have qm := hz_ HB hg; have qn := hz_ HB hg; replace HB := bS_ HB hb; have qb := nL_ qa hg; have qc := nG_ qa hg; replace qa := kB_ qa hb; clear hb hbox hg; have zd := qc.out; have ze := qb.out; obtain ⟨qy, qz, qA, qB⟩ := b2_ qf))
  go_ret2
  exact ⟨by first | rfl | (simp [errW_none, errW_some] <;> rfl) | (simp [*, errW_none, errW_some] <;> rfl), bb_ HB⟩
 subst c4
 have H1 : (if qd < 0 then (some (true, true)) else (if qd = 0 then (some (!a0_2, true)) else (some (false, true)))) = some (r1, r2) := by rw [if_pos rfl] at H; exact H
 clear H
 have H := H1
 clear H1
 by_cases c5 : qd < 0
 ·
  rw [if_pos c5] at H
  have q6 : decide (qd < 0) = true := decide_eq_true c5
  clear c5
  simp only [Option.some.injEq, Prod.mk.injEq] at H
  obtain ⟨rfl, rfl⟩ := H
  go_enter Tryd.func47, Tryd.ntmps47
  go_wp2_with (first | ((with_reducible refine gate_dst (N := 2) rfl ?_); refine bx_ (cs := #[.slice A0_0 l0_0.length c0_0, .int .i64 a0_1, .bool a0_2]) (t := 27) ?_; intro qi hg w6 hbox hb; have qa := Aside0.mk (hbox); have qj := hz_ HB hg; have qk := hz_ HB hg; replace HB := bS_ HB hb; clear hb hbox hg; obtain ⟨q7, q8, q9, za, zb, zc⟩ := b3_ qa) | ((with_reducible refine gate_callee (f := 88) rfl ?_); refine gL_ (some 11) Tryd.func88 #[.agg #[.slice A0_0 l0_0.length c0_0, .int .i64 a0_1, .bool a0_2], .slice A1 l1.length c1] ?_; (with_reducible refine (impl_ValueOf.calls k _ _ l0_0 a0_1 a0_2 _ _ l1 qd qo true _ ?side1 ?side2 ?side3 ?side4 A3.out).mono ?_); (case side1 => exact cb_ qg HB); (case side2 => exact qh.out); (case side3 => exact cb_ HR1 HB); (case side4 => exact HC1.out); rintro e w8 ⟨rfl, hb⟩; refine ⟨_, rfl, ?_⟩; replace qa := kB_ qa hb; replace HB := bS_ HB hb; clear hb) | ((with_reducible refine gate_dst (N := 6) rfl ?_); refine bx_ (cs := #[.int .i64 0, .int .i64 0]) (t := 46) ?_; intro ql hg w9 hbox hb; have qf := Aside0.mk (hbox); have qm := hz_ HB hg; have qn := hz_ HB hg; replace HB := bS_ HB hb; have qb := nL_ qa hg; have qc := nG_ qa hg; replace qa := kB_ qa hb; clear hb hbox hg; have zf := qc.out; have zg := qb.out; obtain ⟨qC, qD, qE, qF⟩ := b2_ qf))
  go_ret2
  exact ⟨by first | rfl | (simp [errW_none, errW_some] <;> rfl) | (simp [*, errW_none, errW_some] <;> rfl), bb_ HB⟩
 rw [if_neg c5] at H
 have q6 : decide (qd < 0) = false := decide_eq_false c5
 clear c5
 by_cases c12 : qd = 0
 rotate_left
 ·
  rw [if_neg c12] at H
  have qq : (qd == 0) = false := beq_eq_false_iff_ne.mpr c12
  have qr : (qd != 0) = true := bne_iff_ne.mpr c12
  simp only [Option.some.injEq, Prod.mk.injEq] at H
  obtain ⟨rfl, rfl⟩ := H
  go_enter Tryd.func47, Tryd.ntmps47
  go_wp2_with (first | ((with_reducible refine gate_dst (N := 2) rfl ?_); refine bx_ (cs := #[.slice A0_0 l0_0.length c0_0, .int .i64 a0_1, .bool a0_2]) (t := 27) ?_; intro qi hg zo hbox hb; have qa := Aside0.mk (hbox); have qj := hz_ HB hg; have qk := hz_ HB hg; replace HB := bS_ HB hb; clear hb hbox hg; obtain ⟨qG, qH, qI, qJ, qK, qL⟩ := b3_ qa) | ((with_reducible refine gate_callee (f := 88) rfl ?_); refine gL_ (some 11) Tryd.func88 #[.agg #[.slice A0_0 l0_0.length c0_0, .int .i64 a0_1, .bool a0_2], .slice A1 l1.length c1] ?_; (with_reducible refine (impl_ValueOf.calls k _ _ l0_0 a0_1 a0_2 _ _ l1 qd qo true _ ?side1 ?side2 ?side3 ?side4 A3.out).mono ?_); (case side1 => exact cb_ qg HB); (case side2 => exact qh.out); (case side3 => exact cb_ HR1 HB); (case side4 => exact HC1.out); rintro e zp ⟨rfl, hb⟩; refine ⟨_, rfl, ?_⟩; replace qa := kB_ qa hb; replace HB := bS_ HB hb; clear hb) | ((with_reducible refine gate_dst (N := 6) rfl ?_); refine bx_ (cs := #[.int .i64 0, .int .i64 0]) (t := 46) ?_; intro ql hg zq hbox hb; have qf := Aside0.mk (hbox); have qm := hz_ HB hg; have qn := hz_ HB hg; replace HB := bS_ HB hb; have qb := nL_ qa hg; have qc := nG_ qa hg; replace qa := kB_ qa hb; clear hb hbox hg; have zh := qc.out; have zi := qb.out; obtain ⟨qM, qN, qO, qP⟩ := b2_ qf))
  go_ret2
  exact ⟨by first | rfl | (simp [errW_none, errW_some] <;> rfl) | (simp [*, errW_none, errW_some] <;> rfl), bb_ HB⟩
 rw [if_pos c12] at H
 have qq : (qd == 0) = true := beq_iff_eq.mpr c12
 have qr : (qd != 0) = false := bne_eq_false_iff_eq.mpr c12
 clear c12
 simp only [Option.some.injEq, Prod.mk.injEq] at H
 obtain ⟨rfl, rfl⟩ := H
 go_enter Tryd.func47, Tryd.ntmps47
 go_wp2_with (first | ((with_reducible refine gate_dst (N := 2) rfl ?_); refine bx_ (cs := #[.slice A0_0 l0_0.length c0_0, .int .i64 a0_1, .bool a0_2]) (t := 27) ?_; intro qi hg zr hbox hb; have qa := Aside0.mk (hbox); have qj := hz_ HB hg; have qk := hz_ HB hg; replace HB := bS_ HB hb; clear hb hbox hg; obtain ⟨qQ, qR, qS, qT, qU, qV⟩ := b3_ qa) | ((with_reducible refine gate_callee (f := 88) rfl ?_); refine gL_ (some 11) Tryd.func88 #[.agg #[.slice A0_0 l0_0.length c0_0, .int .i64 a0_1, .bool a0_2], .slice A1 l1.length c1] ?_; (with_reducible refine (impl_ValueOf.calls k _ _ l0_0 a0_1 a0_2 _ _ l1 qd qo true _ ?side1 ?side2 ?side3 ?side4 A3.out).mono ?_); (case side1 => exact cb_ qg HB); (case side2 => exact qh.out); (case side3 => exact cb_ HR1 HB); (case side4 => exact HC1.out); rintro e zs ⟨rfl, hb⟩; refine ⟨_, rfl, ?_⟩; replace qa := kB_ qa hb; replace HB := bS_ HB hb; clear hb) | ((with_reducible refine gate_dst (N := 6) rfl ?_); refine bx_ (cs := #[.int .i64 0, .int .i64 0]) (t := 46) ?_; intro ql hg zt hbox hb; have qf := Aside0.mk (hbox); have qm := hz_ HB hg; have qn := hz_ HB hg; replace HB := bS_ HB hb; have qb := nL_ qa hg; have qc := nG_ qa hg; replace qa := kB_ qa hb; clear hb hbox hg; have zj := qc.out; have zk := qb.out; obtain ⟨qW, qX, qY, qZ⟩ := b2_ qf; obtain ⟨q0, q1, q2, q3, q4, q5⟩ := b3_ qa))
 go_ret2
 exact ⟨by first | rfl | (simp [errW_none, errW_some] <;> rfl) | (simp [*, errW_none, errW_some] <;> rfl), bb_ HB⟩

/-! ### impl_sign: function 90 -/
def impl_sign.f (a0 : Int) (a1 : Int) : Option (Int) := if a0 < a1 then (some (-1)) else (if a0 > a1 then (some 1) else (some 0))
set_option maxHeartbeats 8000000 in
set_option maxRecDepth 100000 in
theorem impl_sign.calls (a0 : Int) (a1 : Int) (r : Int) (w : World) (h : impl_sign.f a0 a1 = some r) :
  Calls Tryd.prog 90 #[.int .i64 a0, .int .i64 a1] w fun e w' => e = .returned (.int .i64 r) ∧ Drawn0 w w' := by
 have H : (if a0 < a1 then (some (-1)) else (if a0 > a1 then (some 1) else (some 0))) = some r := h
 clear h
 by_cases c3 : a0 < a1
 ·
  rw [if_pos c3] at H
  have qa : decide (a0 < a1) = true := decide_eq_true c3
  clear c3
  obtain rfl := Option.some.inj H
  go_enter Tryd.func90, Tryd.ntmps90
  go_wp2
  go_ret
  exact ⟨by first | rfl | (simp; done) | (simp [*]; done), by repeat (first | exact Drawn0.refl _ | apply Drawn0.step)⟩
 rw [if_neg c3] at H
 have qa : decide (a0 < a1) = false := decide_eq_false c3
 clear c3
 by_cases c4 : a0 > a1
 ·
  rw [if_pos c4] at H
  have qb : decide (a1 < a0) = true := decide_eq_true c4
  clear c4
  obtain rfl := Option.some.inj H
  go_enter Tryd.func90, Tryd.ntmps90
  go_wp2
  go_ret
  exact ⟨by first | rfl | (simp; done) | (simp [*]; done), by repeat (first | exact Drawn0.refl _ | apply Drawn0.step)⟩
 rw [if_neg c4] at H
 have qb : decide (a1 < a0) = false := decide_eq_false c4
 clear c4
 obtain rfl := Option.some.inj H
 go_enter Tryd.func90, Tryd.ntmps90
 go_wp2
 go_ret
 exact ⟨by first | rfl | (simp; done) | (simp [*]; done), by repeat (first | exact Drawn0.refl _ | apply Drawn0.step)⟩

/-! ### impl_directionDivisor: function 91 -/
def impl_directionDivisor.f (k : Nat) (l0_0 : List Int) (a0_1 : Int) (a0_2 : Bool) : Option (Int) := (impl_divisorOf.f k l0_0).bind fun qa => (if qa = 0 then (some 1) else (some qa))
theorem impl_directionDivisor.mono : ∀ a0 a1 a2 k, LeO (impl_directionDivisor.f k a0 a1 a2) (impl_directionDivisor.f (k + 1) a0 a1 a2) := by
 intro a0 a1 a2 k
 unfold impl_directionDivisor.f
 repeat' first
   | (with_reducible exact impl_divisorOf.mono _ _)
   | (with_reducible exact LeO.refl _)
   | (with_reducible exact LeO.none _)
   | (with_reducible refine LeO.ite ?_ ?_)
   | (with_reducible refine LeO.bind ?_ (fun _ => ?_))
   | exact impl_divisorOf.mono _ _
   | exact LeO.none _
   | refine LeO.ite ?_ ?_
   | refine LeO.bind ?_ (fun _ => ?_)
set_option maxHeartbeats 8000000 in
set_option maxRecDepth 100000 in
theorem impl_directionDivisor.calls (k : Nat) (A0_0 : Option Addr) (c0_0 : Nat) (l0_0 : List Int) (a0_1 : Int) (a0_2 : Bool) (r : Int) (w : World) (hr0_0 : Kd.C (Kd.int .i64) w A0_0 l0_0.length l0_0) (hc0_0 : l0_0.length ≤ c0_0) (h : impl_directionDivisor.f k l0_0 a0_1 a0_2 = some r) :
  Calls Tryd.prog 91 #[.agg #[.slice A0_0 l0_0.length c0_0, .int .i64 a0_1, .bool a0_2]] w fun e w' => e = .returned (.int .i64 r) ∧ Below w.heap.size w w' := by
 have hu27 := Tryd.underlying27
 have qc := Aside0.mk hr0_0
 have qd := Aside0.mk hc0_0
 clear hr0_0 hc0_0
 have HB := Aside0.mk (Below.refl w.heap.size w)
 have H : ((impl_divisorOf.f k l0_0).bind fun qa => (if qa = 0 then (some 1) else (some qa))) = some r := h
 clear h
 replace H := Option.bind_eq_some_iff.mp H
 obtain ⟨qa, A20, H⟩ := H
 replace H : (if qa = 0 then (some 1) else (some qa)) = some r := H
 have A2 := Aside0.mk A20
 clear A20
 by_cases c3 : qa = 0
 rotate_left
 ·
  rw [if_neg c3] at H
  have qh : (qa == 0) = false := beq_eq_false_iff_ne.mpr c3
  have qi : (qa != 0) = true := bne_iff_ne.mpr c3
  obtain rfl := Option.some.inj H
  go_enter Tryd.func91, Tryd.ntmps91
  go_wp2_with (first | ((with_reducible refine gate_dst (N := 1) rfl ?_); refine bx_ (cs := #[.slice A0_0 l0_0.length c0_0, .int .i64 a0_1, .bool a0_2]) (t := 27) ?_; intro qe hg w6 hbox hb; have qb := Aside0.mk (hbox); have qf := hz_ HB hg; have qg := hz_ HB hg; replace HB := bS_ HB hb; clear hb hbox hg; obtain ⟨qj, qk, ql, qm, qn, qo⟩ := b3_ qb) | ((with_reducible refine gate_callee (f := 93) rfl ?_); refine gL_ (some 6) Tryd.func93 #[.slice A0_0 l0_0.length c0_0] ?_; (with_reducible refine (impl_divisorOf.calls k _ _ l0_0 qa _ ?side1 ?side2 A2.out).mono ?_); (case side1 => exact cb_ qc HB); (case side2 => exact qd.out); rintro e w' ⟨rfl, ⟨nd, rfl⟩⟩; refine ⟨_, rfl, ?_⟩))
  go_ret
  exact ⟨by first | rfl | (simp [errW_none, errW_some] <;> rfl) | (simp [*, errW_none, errW_some] <;> rfl), bb_ HB⟩
 rw [if_pos c3] at H
 have qh : (qa == 0) = true := beq_iff_eq.mpr c3
 have qi : (qa != 0) = false := bne_eq_false_iff_eq.mpr c3
 clear c3
 obtain rfl := Option.some.inj H
 go_enter Tryd.func91, Tryd.ntmps91
 go_wp2_with (first | ((with_reducible refine gate_dst (N := 1) rfl ?_); refine bx_ (cs := #[.slice A0_0 l0_0.length c0_0, .int .i64 a0_1, .bool a0_2]) (t := 27) ?_; intro qe hg w4 hbox hb; have qb := Aside0.mk (hbox); have qf := hz_ HB hg; have qg := hz_ HB hg; replace HB := bS_ HB hb; clear hb hbox hg; obtain ⟨qp, qq, qr, qs, qt, qu⟩ := b3_ qb) | ((with_reducible refine gate_callee (f := 93) rfl ?_); refine gL_ (some 6) Tryd.func93 #[.slice A0_0 l0_0.length c0_0] ?_; (with_reducible refine (impl_divisorOf.calls k _ _ l0_0 qa _ ?side1 ?side2 A2.out).mono ?_); (case side1 => exact cb_ qc HB); (case side2 => exact qd.out); rintro e w' ⟨rfl, ⟨nd, rfl⟩⟩; refine ⟨_, rfl, ?_⟩))
 go_ret
 exact ⟨by first | rfl | (simp [errW_none, errW_some] <;> rfl) | (simp [*, errW_none, errW_some] <;> rfl), bb_ HB⟩

/-! ### impl_compareDirections: function 89 -/
def impl_compareDirections.l0 : Nat → Int → Int → Int → Int → List Int → Int → Bool → List Int → Int → Bool → Option (Int)
 | 0, _, _, _, _, _, _, _, _, _, _ => none
 | k + 1, x5, x6, x15, x16, x435000, x435001, x435002, x436000, x436001, x436002 => if x16 < x15 then (if 0 ≤ x16 then (if x16 < (x435000.length : Int) then (if x5 = 0 then (none) else (if x16 < (x436000.length : Int) then (if x6 = 0 then (none) else ((impl_sign.f (wrap64 (Int.tdiv (rd x435000 x16) x5)) (wrap64 (Int.tdiv (rd x436000 x16) x6))).bind fun qj => (if qj = 0 then (impl_compareDirections.l0 k x5 x6 x15 (wrap64 (x16 + 1)) x435000 x435001 x435002 x436000 x436001 x436002) else (some qj)))) else (none))) else (none)) else (none)) else (some 0)
def impl_compareDirections.f (k : Nat) (l0_0 : List Int) (a0_1 : Int) (a0_2 : Bool) (l1_0 : List Int) (a1_1 : Int) (a1_2 : Bool) : Option (Int) := (impl_directionDivisor.f k l0_0 a0_1 a0_2).bind fun qg => ((impl_directionDivisor.f k l1_0 a1_1 a1_2).bind fun qf => (impl_compareDirections.l0 k qg qf (l0_0.length : Int) 0 l0_0 a0_1 a0_2 l1_0 a1_1 a1_2))
theorem impl_compareDirections.mono_l : ∀ k, (∀ y0 y1 y2 y3 y4 y5 y6 y7 y8 y9, LeO (impl_compareDirections.l0 k y0 y1 y2 y3 y4 y5 y6 y7 y8 y9) (impl_compareDirections.l0 (k + 1) y0 y1 y2 y3 y4 y5 y6 y7 y8 y9))
 | 0 => fun _ _ _ _ _ _ _ _ _ _ r h => by simp [impl_compareDirections.l0] at h
 | k + 1 => by
  have ih0 := impl_compareDirections.mono_l k
  ·
   intro y0 y1 y2 y3 y4 y5 y6 y7 y8 y9
   unfold impl_compareDirections.l0
   repeat' first
   | (with_reducible exact ih0 _ _ _ _ _ _ _ _ _ _)
   | (with_reducible exact impl_directionDivisor.mono _ _ _ _)
   | (with_reducible exact LeO.refl _)
   | (with_reducible exact LeO.none _)
   | (with_reducible refine LeO.ite ?_ ?_)
   | (with_reducible refine LeO.bind ?_ (fun _ => ?_))
   | exact ih0 _ _ _ _ _ _ _ _ _ _
   | exact impl_directionDivisor.mono _ _ _ _
   | exact LeO.none _
   | refine LeO.ite ?_ ?_
   | refine LeO.bind ?_ (fun _ => ?_)
theorem impl_compareDirections.mono : ∀ a0 a1 a2 a3 a4 a5 k, LeO (impl_compareDirections.f k a0 a1 a2 a3 a4 a5) (impl_compareDirections.f (k + 1) a0 a1 a2 a3 a4 a5) := by
 intro a0 a1 a2 a3 a4 a5 k
 have ih0 := impl_compareDirections.mono_l k
 unfold impl_compareDirections.f
 repeat' first
   | (with_reducible exact ih0 _ _ _ _ _ _ _ _ _ _)
   | (with_reducible exact impl_directionDivisor.mono _ _ _ _)
   | (with_reducible exact LeO.refl _)
   | (with_reducible exact LeO.none _)
   | (with_reducible refine LeO.ite ?_ ?_)
   | (with_reducible refine LeO.bind ?_ (fun _ => ?_))
   | exact ih0 _ _ _ _ _ _ _ _ _ _
   | exact impl_directionDivisor.mono _ _ _ _
   | exact LeO.none _
   | refine LeO.ite ?_ ?_
   | refine LeO.bind ?_ (fun _ => ?_)
def impl_compareDirections.T5 : Bool × List (List Nat × List Nat) := (true, [([], []), ([0], [0]), ([], []), ([1, 2], [1, 2]), ([3], [3]), ([], []), ([4, 5], [4, 5]), ([], []), ([7], [7]), ([], []), ([8, 9], [8, 9]), ([10], [10]), ([], []), ([11, 12], [11, 12]), ([6, 13], [6, 13]), ([14, 14, 0, 1, 2, 3, 4, 5, 6, 7, 8, 9, 10, 11, 12, 13, 14], [14])])
def impl_compareDirections.B5 : List Nat := [0, 1, 0, 7, 15, 0, 63, 0, 128, 0, 896, 1920, 0, 8064, 16383, 32767]
theorem impl_compareDirections.tab5 : rtab .any (opsOf Tryd.f89 5) = impl_compareDirections.T5 := by kernel_rfl
theorem impl_compareDirections.bits5 : waitsOk impl_compareDirections.T5.2 impl_compareDirections.B5 = true := by kernel_rfl
set_option maxHeartbeats 8000000 in
set_option maxRecDepth 100000 in
theorem impl_compareDirections.calls (k : Nat) (A0_0 : Option Addr) (c0_0 : Nat) (l0_0 : List Int) (a0_1 : Int) (a0_2 : Bool) (A1_0 : Option Addr) (c1_0 : Nat) (l1_0 : List Int) (a1_1 : Int) (a1_2 : Bool) (r : Int) (w : World) (hr0_0 : Kd.C (Kd.int .i64) w A0_0 l0_0.length l0_0) (hc0_0 : l0_0.length ≤ c0_0) (hr1_0 : Kd.C (Kd.int .i64) w A1_0 l1_0.length l1_0) (hc1_0 : l1_0.length ≤ c1_0) (h : impl_compareDirections.f k l0_0 a0_1 a0_2 l1_0 a1_1 a1_2 = some r) :
  Calls Tryd.prog 89 #[.agg #[.slice A0_0 l0_0.length c0_0, .int .i64 a0_1, .bool a0_2], .agg #[.slice A1_0 l1_0.length c1_0, .int .i64 a1_1, .bool a1_2]] w fun e w' => e = .returned (.int .i64 r) ∧ Below w.heap.size w w' := by
 have hu27 := Tryd.underlying27
 have qo := Aside0.mk hr0_0
 have qw := Aside0.mk hc0_0
 clear hr0_0 hc0_0
 have qp := Aside0.mk hr1_0
 have qx := Aside0.mk hc1_0
 clear hr1_0 hc1_0
 have HB := Aside0.mk (Below.refl w.heap.size w)
 have H : ((impl_directionDivisor.f k l0_0 a0_1 a0_2).bind fun qg => ((impl_directionDivisor.f k l1_0 a1_1 a1_2).bind fun qf => (impl_compareDirections.l0 k qg qf (l0_0.length : Int) 0 l0_0 a0_1 a0_2 l1_0 a1_1 a1_2))) = some r := h
 clear h
 replace H := Option.bind_eq_some_iff.mp H
 obtain ⟨qg, A30, H⟩ := H
 replace H : ((impl_directionDivisor.f k l1_0 a1_1 a1_2).bind fun qf => (impl_compareDirections.l0 k qg qf (l0_0.length : Int) 0 l0_0 a0_1 a0_2 l1_0 a1_1 a1_2)) = some r := H
 have A3 := Aside0.mk A30
 clear A30
 replace H := Option.bind_eq_some_iff.mp H
 obtain ⟨qf, A40, H⟩ := H
 replace H : (impl_compareDirections.l0 k qg qf (l0_0.length : Int) 0 l0_0 a0_1 a0_2 l1_0 a1_1 a1_2) = some r := H
 have A4 := Aside0.mk A40
 clear A40
 have H' := Aside0.mk H
 clear H
 go_enter Tryd.func89, Tryd.ntmps89
 try go_wp2_with (first | ((with_reducible refine gate_dst (N := 2) rfl ?_); refine bx_ (cs := #[.slice A0_0 l0_0.length c0_0, .int .i64 a0_1, .bool a0_2]) (t := 27) ?_; intro qh hg w5 hbox hb; have qa := Aside0.mk (hbox); have qB := hz_ HB hg; have qC := hz_ HB hg; replace HB := bS_ HB hb; clear hb hbox hg) | ((with_reducible refine gate_dst (N := 3) rfl ?_); refine bx_ (cs := #[.slice A1_0 l1_0.length c1_0, .int .i64 a1_1, .bool a1_2]) (t := 27) ?_; intro qi hg w6 hbox hb; have qc := Aside0.mk (hbox); have qD := hz_ HB hg; have qE := hz_ HB hg; replace HB := bS_ HB hb; have qm := nL_ qa hg; have qn := nG_ qa hg; replace qa := kB_ qa hb; clear hb hbox hg))
 replace qa := Aside0.mk (blk_drew qa.out); replace qc := Aside0.mk (blk_drew qc.out); replace HB := Aside0.mk (below_drew1 HB.out)
 refine start_ (n := 6) (S := fun w' => w'.cell? ⟨qh, 0, none⟩ = some (.slice A0_0 l0_0.length c0_0) ∧ w'.cell? ⟨qh, 1, none⟩ = some (.int .i64 a0_1) ∧ w'.cell? ⟨qh, 2, none⟩ = some (.bool a0_2) ∧ w'.cell? ⟨qi, 0, none⟩ = some (.slice A1_0 l1_0.length c1_0) ∧ w'.cell? ⟨qi, 1, none⟩ = some (.int .i64 a1_1) ∧ w'.cell? ⟨qi, 2, none⟩ = some (.bool a1_2)) (ds := []) #[false, false, false, false, false, false] (by kernel_rfl) rfl rfl ⟨bc_ qa 0, bc_ qa 1, bc_ qa 2, bc_ qc 0, bc_ qc 1, bc_ qc 2⟩ (fun hHeld => ?_)
 generalize w6.drew = w7 at qa qc HB hHeld ⊢
 refine take_ (i := 0) (N := some 9) (v := ?_) (a' := ?_) #[true, false, false, false, false, false] rfl rfl (by kernel_rfl) (fun _ _ _ h => h) (Or.inl ⟨by rfl, ?_⟩) hHeld ?_ ?_
 rotate_left
 ·
  rintro w' ⟨s0, s1, s2, s3, s4, s5⟩
  go_simp
  with_reducible rfl
 rotate_left
 ·
  simp only [Act.put, List.setIfInBounds_toArray, List.set_cons_zero, List.set_cons_succ, i64_w, i32_w]
  rfl
 refine take_ (i := 2) (N := some 11) (v := ?_) (a' := ?_) #[true, false, true, false, false, false] rfl rfl (by kernel_rfl) (fun _ _ _ h => h) (Or.inl ⟨by rfl, ?_⟩) hHeld ?_ ?_
 rotate_left
 ·
  rintro w' ⟨s0, s1, s2, s3, s4, s5⟩
  go_simp
  with_reducible rfl
 rotate_left
 ·
  simp only [Act.put, List.setIfInBounds_toArray, List.set_cons_zero, List.set_cons_succ, i64_w, i32_w]
  rfl
 refine one_ (i := 1) (N := some 10) #[true, true, true, false, false, false] rfl rfl (by kernel_rfl) (by decide) (fun K hK => ?_)
 refine goes_ Tryd.func91 (by kernel_rfl) rfl #[.agg #[.slice A0_0 l0_0.length c0_0, .int .i64 a0_1, .bool a0_2]] (by rfl) rfl rfl (by (try simp only [List.map_toArray, List.map_cons, List.map_nil]); first | done | rfl | (simp only [List.length_drop, List.length_take]; rfl)) ?_
 with_reducible refine (impl_directionDivisor.calls k _ _ l0_0 a0_1 a0_2 qg _ ?side1 ?side2 A3.out).mono ?_
 (case side1 => exact cb_ qo HB)
 (case side2 => exact qw.out)
 rintro e w8 ⟨rfl, hb⟩
 refine ⟨_, rfl, ?_⟩
 replace qa := kB_ qa hb; replace qc := kB_ qc hb; replace HB := bS_ HB hb; (try clear hb); (try clear hb2); (try clear hk); (try clear hi)
 refine hK.out _ _ ⟨bc_ qa 0, bc_ qa 1, bc_ qa 2, bc_ qc 0, bc_ qc 1, bc_ qc 2⟩ (fun hHeld => ?_)
 clear hK K
 refine norm_ (a' := ?_) ?_ ?_
 rotate_left
 ·
  show Act.put _ (some 10) _ = _
  simp only [Act.put, List.setIfInBounds_toArray, List.set_cons_zero, List.set_cons_succ, i64_w, i32_w]
  rfl
 refine one_ (i := 3) (N := some 12) #[true, true, true, true, false, false] rfl rfl (by kernel_rfl) (by decide) (fun K hK => ?_)
 refine goes_ Tryd.func91 (by kernel_rfl) rfl #[.agg #[.slice A1_0 l1_0.length c1_0, .int .i64 a1_1, .bool a1_2]] (by rfl) rfl rfl (by (try simp only [List.map_toArray, List.map_cons, List.map_nil]); first | done | rfl | (simp only [List.length_drop, List.length_take]; rfl)) ?_
 with_reducible refine (impl_directionDivisor.calls k _ _ l1_0 a1_1 a1_2 qf _ ?side1 ?side2 A4.out).mono ?_
 (case side1 => exact cb_ qp HB)
 (case side2 => exact qx.out)
 rintro e w9 ⟨rfl, hb⟩
 refine ⟨_, rfl, ?_⟩
 replace qa := kB_ qa hb; replace qc := kB_ qc hb; replace HB := bS_ HB hb; (try clear hb); (try clear hb2); (try clear hk); (try clear hi)
 refine hK.out _ _ ⟨bc_ qa 0, bc_ qa 1, bc_ qa 2, bc_ qc 0, bc_ qc 1, bc_ qc 2⟩ (fun hHeld => ?_)
 clear hK K
 refine norm_ (a' := ?_) ?_ ?_
 rotate_left
 ·
  show Act.put _ (some 12) _ = _
  simp only [Act.put, List.setIfInBounds_toArray, List.set_cons_zero, List.set_cons_succ, i64_w, i32_w]
  rfl
 refine pure_ (i := 4) (N := some 5) (v := ?_) (a' := ?_) #[true, true, true, true, true, false] rfl rfl (by kernel_rfl) (fun _ _ _ h => h) (Or.inl ⟨by rfl, ?_⟩) ?_ ?_
 rotate_left
 ·
  intro w'
  go_simp
  with_reducible rfl
 rotate_left
 ·
  simp only [Act.put, List.setIfInBounds_toArray, List.set_cons_zero, List.set_cons_succ, i64_w, i32_w]
  rfl
 refine pure_ (i := 5) (N := some 6) (v := ?_) (a' := ?_) #[true, true, true, true, true, true] rfl rfl (by kernel_rfl) (fun _ _ _ h => h) (Or.inl ⟨by rfl, ?_⟩) ?_ ?_
 rotate_left
 ·
  intro w'
  go_simp
  with_reducible rfl
 rotate_left
 ·
  simp only [Act.put, List.setIfInBounds_toArray, List.set_cons_zero, List.set_cons_succ, i64_w, i32_w]
  rfl
 refine done_ (by kernel_rfl) ?_
 have qF := qm.out
 have qG := qn.out
 obtain ⟨qq, qr, qs, qt, qu, qv⟩ := b3_ qa
 try go_wp2
 go_loopg [16] k (fun kq v16 w' => ∃ (qb : Int), v16 = .int .i64 qb ∧ Aside0 (impl_compareDirections.l0 kq qg qf (l0_0.length : Int) qb l0_0 a0_1 a0_2 l1_0 a1_1 a1_2 = some r) ∧ Aside0 (kq ≤ k) ∧ Aside0 (w'.heap[qh]? = some (.cells #[(.slice A0_0 l0_0.length c0_0), .int .i64 a0_1, .bool a0_2] 27 (0, 0))) ∧ Aside0 (w'.heap[qi]? = some (.cells #[(.slice A1_0 l1_0.length c1_0), .int .i64 a1_1, .bool a1_2] 27 (0, 0))) ∧ Aside0 (Below w.heap.size w w'))
 case atStart => exact ⟨(0), (by first | rfl | (simp; done) | (simp [*]; done)), H', ⟨Nat.le_refl _⟩, ⟨kf_ qa⟩, ⟨kf_ qc⟩, ⟨bb_ HB⟩⟩
 case round =>
  clear H'
  try clear c1
  try clear p2
  try clear c8
  try clear c9
  try clear c10
  try clear qq
  try clear qr
  try clear qs
  try clear qt
  try clear qu
  try clear qv
  obtain ⟨qb, rfl, HA, HK1, qa, qc, HB⟩ := hrel
  cases gk with
  | zero => exact absurd HA.out (by simp [impl_compareDirections.l0])
  | succ k1 =>
   have H := HA.out
   clear HA
   simp only [impl_compareDirections.l0] at H
   by_cases c12 : qb < (l0_0.length : Int)
   rotate_left
   ·
    rw [if_neg c12] at H
    have qy : decide (qb < (l0_0.length : Int)) = false := decide_eq_false c12
    clear c12
    obtain rfl := Option.some.inj H
    go_wp2
    go_ret
    exact ⟨by first | rfl | (simp [errW_none, errW_some] <;> rfl) | (simp [*, errW_none, errW_some] <;> rfl), bb_ HB⟩
   rw [if_pos c12] at H
   have qy : decide (qb < (l0_0.length : Int)) = true := decide_eq_true c12
   clear c12
   by_cases c13 : 0 ≤ qb
   rotate_left
   ·
    rw [if_neg c13] at H
    exact absurd H (by simp)
   rw [if_pos c13] at H
   have qH : decide (0 ≤ qb) = true := decide_eq_true c13
   clear c13
   by_cases c14 : qb < (l0_0.length : Int)
   rotate_left
   ·
    rw [if_neg c14] at H
    exact absurd H (by simp)
   rw [if_pos c14] at H
   have qI : decide (qb < (l0_0.length : Int)) = true := decide_eq_true c14
   clear c14
   by_cases c15 : qg = 0
   ·
    rw [if_pos c15] at H
    exact absurd H (by simp)
   rw [if_neg c15] at H
   have qJ : (qg == 0) = false := beq_eq_false_iff_ne.mpr c15
   have qK : (qg != 0) = true := bne_iff_ne.mpr c15
   by_cases c16 : qb < (l1_0.length : Int)
   rotate_left
   ·
    rw [if_neg c16] at H
    exact absurd H (by simp)
   rw [if_pos c16] at H
   have qL : decide (qb < (l1_0.length : Int)) = true := decide_eq_true c16
   clear c16
   by_cases c17 : qf = 0
   ·
    rw [if_pos c17] at H
    exact absurd H (by simp)
   rw [if_neg c17] at H
   have qM : (qf == 0) = false := beq_eq_false_iff_ne.mpr c17
   have qN : (qf != 0) = true := bne_iff_ne.mpr c17
   replace H := Option.bind_eq_some_iff.mp H
   obtain ⟨qj, A180, H⟩ := H
   replace H : (if qj = 0 then (impl_compareDirections.l0 k1 qg qf (l0_0.length : Int) (wrap64 (qb + 1)) l0_0 a0_1 a0_2 l1_0 a1_1 a1_2) else (some qj)) = some r := H
   have A18 := Aside0.mk A180
   clear A180
   by_cases c19 : qj = 0
   rotate_left
   ·
    rw [if_neg c19] at H
    have qz : (qj == 0) = false := beq_eq_false_iff_ne.mpr c19
    have qA : (qj != 0) = true := bne_iff_ne.mpr c19
    obtain rfl := Option.some.inj H
    try go_wp2
    replace qa := Aside0.mk (blk_drew qa.out); replace qc := Aside0.mk (blk_drew qc.out); replace HB := Aside0.mk (below_drew1 HB.out)
    have p438 : 0 ≤ (qb : Int) := of_decide_eq_true (by first | (with_reducible assumption) | assumption)
    have q438 : qb < (l0_0.length : Int) := of_decide_eq_true (by first | (with_reducible assumption) | assumption)
    obtain ⟨qk, e438, qd⟩ := Kd.at_int qo.out qb p438 q438
    have hw438_0 := qd
    cases e438
    replace qd := (HB.out.cell (World.block_lt_of_cell? w _ qd)).trans qd
    replace p438 := eq_true p438
    replace q438 := eq_true q438
    have p439 : 0 ≤ (qb : Int) := of_decide_eq_true (by first | (with_reducible assumption) | assumption)
    have q439 : qb < (l1_0.length : Int) := of_decide_eq_true (by first | (with_reducible assumption) | assumption)
    obtain ⟨ql, e439, qe⟩ := Kd.at_int qp.out qb p439 q439
    have hw439_0 := qe
    cases e439
    replace qe := (HB.out.cell (World.block_lt_of_cell? w _ qe)).trans qe
    replace p439 := eq_true p439
    replace q439 := eq_true q439
    refine start_ (n := 16) (S := fun w' => w'.cell? ⟨qh, 0, none⟩ = some (.slice (some qk) l0_0.length c0_0) ∧ w'.cell? ⟨qh, 1, none⟩ = some (.int .i64 a0_1) ∧ w'.cell? ⟨qh, 2, none⟩ = some (.bool a0_2) ∧ w'.cell? ⟨qi, 0, none⟩ = some (.slice (some ql) l1_0.length c1_0) ∧ w'.cell? ⟨qi, 1, none⟩ = some (.int .i64 a1_1) ∧ w'.cell? ⟨qi, 2, none⟩ = some (.bool a1_2) ∧ w'.cell? (qk.add (qb).toNat) = some (.int .i64 (rd l0_0 qb)) ∧ w'.cell? (ql.add (qb).toNat) = some (.int .i64 (rd l1_0 qb))) (ds := []) #[false, false, false, false, false, false, false, false, false, false, false, false, false, false, false, false] (by kernel_rfl) rfl rfl ⟨bc_ qa 0, bc_ qa 1, bc_ qa 2, bc_ qc 0, bc_ qc 1, bc_ qc 2, ((HB.out.cell (World.block_lt_of_cell? w _ hw438_0)).trans hw438_0), ((HB.out.cell (World.block_lt_of_cell? w _ hw439_0)).trans hw439_0)⟩ (fun hHeld => ?_); refine with_tabW impl_compareDirections.tab5 impl_compareDirections.bits5 (fun HT_ HW_ => ?_)
    generalize wr.drew = qO at qa qc HB qd qe hHeld ⊢
    refine pX_ 0 (some 19) #[true, false, false, false, false, false, false, false, false, false, false, false, false, false, false, false] HT_ ?_
    refine pX_ 2 (some 21) #[true, false, true, false, false, false, false, false, false, false, false, false, false, false, false, false] HT_ ?_
    refine pX_ 5 (some 24) #[true, false, true, false, false, true, false, false, false, false, false, false, false, false, false, false] HT_ ?_
    refine pX_ 7 (some 26) #[true, false, true, false, false, true, false, true, false, false, false, false, false, false, false, false] HT_ ?_
    refine pX_ 9 (some 28) #[true, false, true, false, false, true, false, true, false, true, false, false, false, false, false, false] HT_ ?_
    refine pX_ 12 (some 31) #[true, false, true, false, false, true, false, true, false, true, false, false, true, false, false, false] HT_ ?_
    refine take_ (i := 1) (N := some 20) (v := ?_) (a' := ?_) #[true, true, true, false, false, true, false, true, false, true, false, false, true, false, false, false] rfl rfl (take_ofW HT_.out HW_.out (by kernel_rfl)) (fun _ _ _ h => h) (Or.inl ⟨by rfl, ?_⟩) hHeld ?_ ?_
    rotate_left
    ·
     rintro w' ⟨s0, s1, s2, s3, s4, s5, s6, s7⟩
     go_simp
     with_reducible rfl
    rotate_left
    ·
     simp only [Act.put, List.setIfInBounds_toArray, List.set_cons_zero, List.set_cons_succ, i64_w, i32_w]
     rfl
    refine pX_ 3 (some 22) #[true, true, true, true, false, true, false, true, false, true, false, false, true, false, false, false] HT_ ?_
    refine take_ (i := 4) (N := some 23) (v := ?_) (a' := ?_) #[true, true, true, true, true, true, false, true, false, true, false, false, true, false, false, false] rfl rfl (take_ofW HT_.out HW_.out (by kernel_rfl)) (fun _ _ _ h => h) (Or.inl ⟨by rfl, ?_⟩) hHeld ?_ ?_
    rotate_left
    ·
     rintro w' ⟨s0, s1, s2, s3, s4, s5, s6, s7⟩
     go_simp
     with_reducible rfl
    rotate_left
    ·
     simp only [Act.put, List.setIfInBounds_toArray, List.set_cons_zero, List.set_cons_succ, i64_w, i32_w]
     rfl
    refine pX_ 6 (some 25) #[true, true, true, true, true, true, true, true, false, true, false, false, true, false, false, false] HT_ ?_
    refine take_ (i := 8) (N := some 27) (v := ?_) (a' := ?_) #[true, true, true, true, true, true, true, true, true, true, false, false, true, false, false, false] rfl rfl (take_ofW HT_.out HW_.out (by kernel_rfl)) (fun _ _ _ h => h) (Or.inl ⟨by rfl, ?_⟩) hHeld ?_ ?_
    rotate_left
    ·
     rintro w' ⟨s0, s1, s2, s3, s4, s5, s6, s7⟩
     go_simp
     with_reducible rfl
    rotate_left
    ·
     simp only [Act.put, List.setIfInBounds_toArray, List.set_cons_zero, List.set_cons_succ, i64_w, i32_w]
     rfl
    refine pX_ 10 (some 29) #[true, true, true, true, true, true, true, true, true, true, true, false, true, false, false, false] HT_ ?_
    refine take_ (i := 11) (N := some 30) (v := ?_) (a' := ?_) #[true, true, true, true, true, true, true, true, true, true, true, true, true, false, false, false] rfl rfl (take_ofW HT_.out HW_.out (by kernel_rfl)) (fun _ _ _ h => h) (Or.inl ⟨by rfl, ?_⟩) hHeld ?_ ?_
    rotate_left
    ·
     rintro w' ⟨s0, s1, s2, s3, s4, s5, s6, s7⟩
     go_simp
     with_reducible rfl
    rotate_left
    ·
     simp only [Act.put, List.setIfInBounds_toArray, List.set_cons_zero, List.set_cons_succ, i64_w, i32_w]
     rfl
    refine pX_ 13 (some 32) #[true, true, true, true, true, true, true, true, true, true, true, true, true, true, false, false] HT_ ?_
    refine one_ (i := 14) (N := some 33) #[true, true, true, true, true, true, true, true, true, true, true, true, true, true, true, false] rfl rfl (one_of HT_.out (by kernel_rfl)) (by decide) (fun K hK => ?_)
    refine goes_ Tryd.func90 (by kernel_rfl) rfl #[.int .i64 (wrap64 (Int.tdiv (rd l0_0 qb) qg)), .int .i64 (wrap64 (Int.tdiv (rd l1_0 qb) qf))] (by rfl) rfl rfl (by (try simp only [List.map_toArray, List.map_cons, List.map_nil]); first | done | rfl | (simp only [List.length_drop, List.length_take]; rfl)) ?_
    with_reducible refine (impl_sign.calls (wrap64 (Int.tdiv (rd l0_0 qb) qg)) (wrap64 (Int.tdiv (rd l1_0 qb) qf)) qj _ A18.out).mono ?_
    rintro e w' ⟨rfl, ⟨nd, rfl⟩⟩
    refine ⟨_, rfl, ?_⟩
    refine hK.out _ _ ⟨bc_ qa 0, bc_ qa 1, bc_ qa 2, bc_ qc 0, bc_ qc 1, bc_ qc 2, ((HB.out.cell (World.block_lt_of_cell? w _ hw438_0)).trans hw438_0), ((HB.out.cell (World.block_lt_of_cell? w _ hw439_0)).trans hw439_0)⟩ (fun hHeld => ?_)
    clear hK K
    refine norm_ (a' := ?_) ?_ ?_
    rotate_left
    ·
     show Act.put _ (some 33) _ = _
     simp only [Act.put, List.setIfInBounds_toArray, List.set_cons_zero, List.set_cons_succ, i64_w, i32_w]
     rfl
    refine pX_ 15 (some 8) #[true, true, true, true, true, true, true, true, true, true, true, true, true, true, true, true] HT_ ?_
    refine done_ (done_of HT_.out (by kernel_rfl)) ?_
    try go_wp2
    go_ret
    exact ⟨by first | rfl | (simp [errW_none, errW_some] <;> rfl) | (simp [*, errW_none, errW_some] <;> rfl), bb_ HB⟩
   rw [if_pos c19] at H
   have qz : (qj == 0) = true := beq_iff_eq.mpr c19
   have qA : (qj != 0) = false := bne_eq_false_iff_eq.mpr c19
   clear c19
   have H' := Aside0.mk H
   clear H
   try go_wp2
   replace qa := Aside0.mk (blk_drew qa.out); replace qc := Aside0.mk (blk_drew qc.out); replace HB := Aside0.mk (below_drew1 HB.out)
   have p438 : 0 ≤ (qb : Int) := of_decide_eq_true (by first | (with_reducible assumption) | assumption)
   have q438 : qb < (l0_0.length : Int) := of_decide_eq_true (by first | (with_reducible assumption) | assumption)
   obtain ⟨qk, e438, qd⟩ := Kd.at_int qo.out qb p438 q438
   have hw438_0 := qd
   cases e438
   replace qd := (HB.out.cell (World.block_lt_of_cell? w _ qd)).trans qd
   replace p438 := eq_true p438
   replace q438 := eq_true q438
   have p439 : 0 ≤ (qb : Int) := of_decide_eq_true (by first | (with_reducible assumption) | assumption)
   have q439 : qb < (l1_0.length : Int) := of_decide_eq_true (by first | (with_reducible assumption) | assumption)
   obtain ⟨ql, e439, qe⟩ := Kd.at_int qp.out qb p439 q439
   have hw439_0 := qe
   cases e439
   replace qe := (HB.out.cell (World.block_lt_of_cell? w _ qe)).trans qe
   replace p439 := eq_true p439
   replace q439 := eq_true q439
   refine start_ (n := 16) (S := fun w' => w'.cell? ⟨qh, 0, none⟩ = some (.slice (some qk) l0_0.length c0_0) ∧ w'.cell? ⟨qh, 1, none⟩ = some (.int .i64 a0_1) ∧ w'.cell? ⟨qh, 2, none⟩ = some (.bool a0_2) ∧ w'.cell? ⟨qi, 0, none⟩ = some (.slice (some ql) l1_0.length c1_0) ∧ w'.cell? ⟨qi, 1, none⟩ = some (.int .i64 a1_1) ∧ w'.cell? ⟨qi, 2, none⟩ = some (.bool a1_2) ∧ w'.cell? (qk.add (qb).toNat) = some (.int .i64 (rd l0_0 qb)) ∧ w'.cell? (ql.add (qb).toNat) = some (.int .i64 (rd l1_0 qb))) (ds := []) #[false, false, false, false, false, false, false, false, false, false, false, false, false, false, false, false] (by kernel_rfl) rfl rfl ⟨bc_ qa 0, bc_ qa 1, bc_ qa 2, bc_ qc 0, bc_ qc 1, bc_ qc 2, ((HB.out.cell (World.block_lt_of_cell? w _ hw438_0)).trans hw438_0), ((HB.out.cell (World.block_lt_of_cell? w _ hw439_0)).trans hw439_0)⟩ (fun hHeld => ?_); refine with_tabW impl_compareDirections.tab5 impl_compareDirections.bits5 (fun HT_ HW_ => ?_)
   generalize wr.drew = qP at qa qc HB qd qe hHeld ⊢
   refine pX_ 0 (some 19) #[true, false, false, false, false, false, false, false, false, false, false, false, false, false, false, false] HT_ ?_
   refine pX_ 2 (some 21) #[true, false, true, false, false, false, false, false, false, false, false, false, false, false, false, false] HT_ ?_
   refine pX_ 5 (some 24) #[true, false, true, false, false, true, false, false, false, false, false, false, false, false, false, false] HT_ ?_
   refine pX_ 7 (some 26) #[true, false, true, false, false, true, false, true, false, false, false, false, false, false, false, false] HT_ ?_
   refine pX_ 9 (some 28) #[true, false, true, false, false, true, false, true, false, true, false, false, false, false, false, false] HT_ ?_
   refine pX_ 12 (some 31) #[true, false, true, false, false, true, false, true, false, true, false, false, true, false, false, false] HT_ ?_
   refine take_ (i := 1) (N := some 20) (v := ?_) (a' := ?_) #[true, true, true, false, false, true, false, true, false, true, false, false, true, false, false, false] rfl rfl (take_ofW HT_.out HW_.out (by kernel_rfl)) (fun _ _ _ h => h) (Or.inl ⟨by rfl, ?_⟩) hHeld ?_ ?_
   rotate_left
   ·
    rintro w' ⟨s0, s1, s2, s3, s4, s5, s6, s7⟩
    go_simp
    with_reducible rfl
   rotate_left
   ·
    simp only [Act.put, List.setIfInBounds_toArray, List.set_cons_zero, List.set_cons_succ, i64_w, i32_w]
    rfl
   refine pX_ 3 (some 22) #[true, true, true, true, false, true, false, true, false, true, false, false, true, false, false, false] HT_ ?_
   refine take_ (i := 4) (N := some 23) (v := ?_) (a' := ?_) #[true, true, true, true, true, true, false, true, false, true, false, false, true, false, false, false] rfl rfl (take_ofW HT_.out HW_.out (by kernel_rfl)) (fun _ _ _ h => h) (Or.inl ⟨by rfl, ?_⟩) hHeld ?_ ?_
   rotate_left
   ·
    rintro w' ⟨s0, s1, s2, s3, s4, s5, s6, s7⟩
    go_simp
    with_reducible rfl
   rotate_left
   ·
    simp only [Act.put, List.setIfInBounds_toArray, List.set_cons_zero, List.set_cons_succ, i64_w, i32_w]
    rfl
   refine pX_ 6 (some 25) #[true, true, true, true, true, true, true, true, false, true, false, false, true, false, false, false] HT_ ?_
   refine take_ (i := 8) (N := some 27) (v := ?_) (a' := ?_) #[true, true, true, true, true, true, true, true, true, true, false, false, true, false, false, false] rfl rfl (take_ofW HT_.out HW_.out (by kernel_rfl)) (fun _ _ _ h => h) (Or.inl ⟨by rfl, ?_⟩) hHeld ?_ ?_
   rotate_left
   ·
    rintro w' ⟨s0, s1, s2, s3, s4, s5, s6, s7⟩
    go_simp
    with_reducible rfl
   rotate_left
   ·
    simp only [Act.put, List.setIfInBounds_toArray, List.set_cons_zero, List.set_cons_succ, i64_w, i32_w]
    rfl
   refine pX_ 10 (some 29) #[true, true, true, true, true, true, true, true, true, true, true, false, true, false, false, false] HT_ ?_
   refine take_ (i := 11) (N := some 30) (v := ?_) (a' := ?_) #[true, true, true, true, true, true, true, true, true, true, true, true, true, false, false, false] rfl rfl (take_ofW HT_.out HW_.out (by kernel_rfl)) (fun _ _ _ h => h) (Or.inl ⟨by rfl, ?_⟩) hHeld ?_ ?_
   rotate_left
   ·
    rintro w' ⟨s0, s1, s2, s3, s4, s5, s6, s7⟩
    go_simp
    with_reducible rfl
   rotate_left
   ·
    simp only [Act.put, List.setIfInBounds_toArray, List.set_cons_zero, List.set_cons_succ, i64_w, i32_w]
    rfl
   refine pX_ 13 (some 32) #[true, true, true, true, true, true, true, true, true, true, true, true, true, true, false, false] HT_ ?_
   refine one_ (i := 14) (N := some 33) #[true, true, true, true, true, true, true, true, true, true, true, true, true, true, true, false] rfl rfl (one_of HT_.out (by kernel_rfl)) (by decide) (fun K hK => ?_)
   refine goes_ Tryd.func90 (by kernel_rfl) rfl #[.int .i64 (wrap64 (Int.tdiv (rd l0_0 qb) qg)), .int .i64 (wrap64 (Int.tdiv (rd l1_0 qb) qf))] (by rfl) rfl rfl (by (try simp only [List.map_toArray, List.map_cons, List.map_nil]); first | done | rfl | (simp only [List.length_drop, List.length_take]; rfl)) ?_
   with_reducible refine (impl_sign.calls (wrap64 (Int.tdiv (rd l0_0 qb) qg)) (wrap64 (Int.tdiv (rd l1_0 qb) qf)) qj _ A18.out).mono ?_
   rintro e w' ⟨rfl, ⟨nd, rfl⟩⟩
   refine ⟨_, rfl, ?_⟩
   refine hK.out _ _ ⟨bc_ qa 0, bc_ qa 1, bc_ qa 2, bc_ qc 0, bc_ qc 1, bc_ qc 2, ((HB.out.cell (World.block_lt_of_cell? w _ hw438_0)).trans hw438_0), ((HB.out.cell (World.block_lt_of_cell? w _ hw439_0)).trans hw439_0)⟩ (fun hHeld => ?_)
   clear hK K
   refine norm_ (a' := ?_) ?_ ?_
   rotate_left
   ·
    show Act.put _ (some 33) _ = _
    simp only [Act.put, List.setIfInBounds_toArray, List.set_cons_zero, List.set_cons_succ, i64_w, i32_w]
    rfl
   refine pX_ 15 (some 8) #[true, true, true, true, true, true, true, true, true, true, true, true, true, true, true, true] HT_ ?_
   refine done_ (done_of HT_.out (by kernel_rfl)) ?_
   try go_wp2
   go_roundg k1
   case measure => have := HK1.out; omega
   case rel => exact ⟨(wrap64 (qb + 1)), (by first | rfl | (simp; done) | (simp [*]; done)), H', ⟨by have := HK1.out; omega⟩, ⟨kf_ qa⟩, ⟨kf_ qc⟩, ⟨bb_ HB⟩⟩

/-! ### impl_CompareAtoms: function 48 -/
def impl_CompareAtoms.j0 : Nat → Bool → List Int → Int → Bool → List Int → Int → Bool → Option (Int)
 | 0, _, _, _, _, _, _, _ => none
 | k + 1, x23, x442000, x442001, x442002, x443000, x443001, x443002 => if x23 = true then (some 2) else ((impl_compareDirections.f k x442000 x442001 x442002 x443000 x443001 x443002).bind fun ql => (if ql = 0 then ((impl_directionDivisor.f k x443000 x443001 x443002).bind fun qg => ((impl_directionDivisor.f k x442000 x442001 x442002).bind fun qf => ((impl_sign.f (wrap64 (x442001 * qg)) (wrap64 (x443001 * qf))).bind fun qe => (if qe = 0 then (if (x442002 == x443002) = true then (some 0) else (if x442002 = true then (some 1) else (some (-1)))) else (some qe))))) else (some ql)))
def impl_CompareAtoms.f (k : Nat) (l0_0 : List Int) (a0_1 : Int) (a0_2 : Bool) (l1_0 : List Int) (a1_1 : Int) (a1_2 : Bool) : Option (Int) := (impl_IsAtom.f k l0_0 a0_1 a0_2).bind fun qq => (if qq = true then ((impl_IsAtom.f k l1_0 a1_1 a1_2).bind fun qo => (if qo = true then (impl_CompareAtoms.j0 k ((l0_0.length : Int) != (l1_0.length : Int)) l0_0 a0_1 a0_2 l1_0 a1_1 a1_2) else (impl_CompareAtoms.j0 k true l0_0 a0_1 a0_2 l1_0 a1_1 a1_2))) else (impl_CompareAtoms.j0 k true l0_0 a0_1 a0_2 l1_0 a1_1 a1_2))
theorem impl_CompareAtoms.mono_l : ∀ k, (∀ y0 y1 y2 y3 y4 y5 y6, LeO (impl_CompareAtoms.j0 k y0 y1 y2 y3 y4 y5 y6) (impl_CompareAtoms.j0 (k + 1) y0 y1 y2 y3 y4 y5 y6))
 | 0 => fun _ _ _ _ _ _ _ r h => by simp [impl_CompareAtoms.j0] at h
 | k + 1 => by
  have ih0 := impl_CompareAtoms.mono_l k
  ·
   intro y0 y1 y2 y3 y4 y5 y6
   unfold impl_CompareAtoms.j0
   repeat' first
   | (with_reducible exact ih0 _ _ _ _ _ _ _)
   | (with_reducible exact impl_IsAtom.mono _ _ _ _)
   | (with_reducible exact impl_compareDirections.mono _ _ _ _ _ _ _)
   | (with_reducible exact impl_directionDivisor.mono _ _ _ _)
   | (with_reducible exact LeO.refl _)
   | (with_reducible exact LeO.none _)
   | (with_reducible refine LeO.ite ?_ ?_)
   | (with_reducible refine LeO.bind ?_ (fun _ => ?_))
   | exact ih0 _ _ _ _ _ _ _
   | exact impl_IsAtom.mono _ _ _ _
   | exact impl_compareDirections.mono _ _ _ _ _ _ _
   | exact impl_directionDivisor.mono _ _ _ _
   | exact LeO.none _
   | refine LeO.ite ?_ ?_
   | refine LeO.bind ?_ (fun _ => ?_)
theorem impl_CompareAtoms.mono : ∀ a0 a1 a2 a3 a4 a5 k, LeO (impl_CompareAtoms.f k a0 a1 a2 a3 a4 a5) (impl_CompareAtoms.f (k + 1) a0 a1 a2 a3 a4 a5) := by
 intro a0 a1 a2 a3 a4 a5 k
 have ih0 := impl_CompareAtoms.mono_l k
 unfold impl_CompareAtoms.f
 repeat' first
   | (with_reducible exact ih0 _ _ _ _ _ _ _)
   | (with_reducible exact impl_IsAtom.mono _ _ _ _)
   | (with_reducible exact impl_compareDirections.mono _ _ _ _ _ _ _)
   | (with_reducible exact impl_directionDivisor.mono _ _ _ _)
   | (with_reducible exact LeO.refl _)
   | (with_reducible exact LeO.none _)
   | (with_reducible refine LeO.ite ?_ ?_)
   | (with_reducible refine LeO.bind ?_ (fun _ => ?_))
   | exact ih0 _ _ _ _ _ _ _
   | exact impl_IsAtom.mono _ _ _ _
   | exact impl_compareDirections.mono _ _ _ _ _ _ _
   | exact impl_directionDivisor.mono _ _ _ _
   | exact LeO.none _
   | refine LeO.ite ?_ ?_
   | refine LeO.bind ?_ (fun _ => ?_)
def impl_CompareAtoms.T6 : Bool × List (List Nat × List Nat) := (true, [([], []), ([0], [0]), ([], []), ([2], [2]), ([1, 3], [1, 3]), ([], []), ([5], [5]), ([], []), ([7, 3], [7]), ([6, 8], [6, 8]), ([4, 9, 8], [4, 9]), ([10, 10, 0, 1, 2, 3, 4, 5, 6, 7, 8, 9, 10], [10])])
def impl_CompareAtoms.B6 : List Nat := [0, 1, 0, 4, 15, 0, 32, 0, 140, 492, 1023, 2047]
theorem impl_CompareAtoms.tab6 : rtab .any (opsOf Tryd.f48 6) = impl_CompareAtoms.T6 := by kernel_rfl
theorem impl_CompareAtoms.bits6 : waitsOk impl_CompareAtoms.T6.2 impl_CompareAtoms.B6 = true := by kernel_rfl
set_option maxHeartbeats 8000000 in
set_option maxRecDepth 100000 in
theorem impl_CompareAtoms.calls (k : Nat) (A0_0 : Option Addr) (c0_0 : Nat) (l0_0 : List Int) (a0_1 : Int) (a0_2 : Bool) (A1_0 : Option Addr) (c1_0 : Nat) (l1_0 : List Int) (a1_1 : Int) (a1_2 : Bool) (r : Int) (w : World) (hr0_0 : Kd.C (Kd.int .i64) w A0_0 l0_0.length l0_0) (hc0_0 : l0_0.length ≤ c0_0) (hr1_0 : Kd.C (Kd.int .i64) w A1_0 l1_0.length l1_0) (hc1_0 : l1_0.length ≤ c1_0) (h : impl_CompareAtoms.f k l0_0 a0_1 a0_2 l1_0 a1_1 a1_2 = some r) :
  Calls Tryd.prog 48 #[.agg #[.slice A0_0 l0_0.length c0_0, .int .i64 a0_1, .bool a0_2], .agg #[.slice A1_0 l1_0.length c1_0, .int .i64 a1_1, .bool a1_2]] w fun e w' => e = .returned (.int .i64 r) ∧ Below w.heap.size w w' := by
 have hu27 := Tryd.underlying27
 have qj := Aside0.mk hr0_0
 have qk := Aside0.mk hc0_0
 clear hr0_0 hc0_0
 have qm := Aside0.mk hr1_0
 have qn := Aside0.mk hc1_0
 clear hr1_0 hc1_0
 have HB := Aside0.mk (Below.refl w.heap.size w)
 have H : ((impl_IsAtom.f k l0_0 a0_1 a0_2).bind fun qq => (if qq = true then ((impl_IsAtom.f k l1_0 a1_1 a1_2).bind fun qo => (if qo = true then (impl_CompareAtoms.j0 k ((l0_0.length : Int) != (l1_0.length : Int)) l0_0 a0_1 a0_2 l1_0 a1_1 a1_2) else (impl_CompareAtoms.j0 k true l0_0 a0_1 a0_2 l1_0 a1_1 a1_2))) else (impl_CompareAtoms.j0 k true l0_0 a0_1 a0_2 l1_0 a1_1 a1_2))) = some r := h
 clear h
 have HC3 := Aside0.mk H
 clear H
 go_enter Tryd.func48, Tryd.ntmps48
 go_upto_region 1 with (first | ((with_reducible refine gate_dst (N := 2) rfl ?_); (try (refine gate_guard (by rfl) ?_; dsimp only)); refine bx_ (cs := #[.slice A0_0 l0_0.length c0_0, .int .i64 a0_1, .bool a0_2]) (t := 27) ?_; intro qh hg w4 hbox hb; have qa := Aside0.mk (hbox); have jM := hz_ HB hg; have jN := hz_ HB hg; replace HB := bS_ HB hb; clear hb hbox hg) | ((with_reducible refine gate_dst (N := 3) rfl ?_); (try (refine gate_guard (by rfl) ?_; dsimp only)); refine bx_ (cs := #[.slice A1_0 l1_0.length c1_0, .int .i64 a1_1, .bool a1_2]) (t := 27) ?_; intro qi hg w5 hbox hb; have qb := Aside0.mk (hbox); have jO := hz_ HB hg; have jP := hz_ HB hg; replace HB := bS_ HB hb; have qc := nL_ qa hg; have qd := nG_ qa hg; replace qa := kB_ qa hb; clear hb hbox hg))
 (try simp only [Act.put, List.setIfInBounds_toArray, List.set_cons_zero, List.set_cons_succ])
 go_cut [23] (fun v23 wc => ∃ (kq : Nat) (qp : Bool), v23 = .bool qp ∧ Aside0 (impl_CompareAtoms.j0 kq qp l0_0 a0_1 a0_2 l1_0 a1_1 a1_2 = some r) ∧ Aside0 (kq ≤ k) ∧ Aside0 (wc.heap[qh]? = some (.cells #[(.slice A0_0 l0_0.length c0_0), .int .i64 a0_1, .bool a0_2] 27 (0, 0))) ∧ Aside0 (wc.heap[qi]? = some (.cells #[(.slice A1_0 l1_0.length c1_0), .int .i64 a1_1, .bool a1_2] 27 (0, 0))) ∧ Aside0 (Below w.heap.size w wc))
 case first =>
  have H := HC3.out
  clear HC3
  replace H := Option.bind_eq_some_iff.mp H
  obtain ⟨qq, A60, H⟩ := H
  replace H : (if qq = true then ((impl_IsAtom.f k l1_0 a1_1 a1_2).bind fun qo => (if qo = true then (impl_CompareAtoms.j0 k ((l0_0.length : Int) != (l1_0.length : Int)) l0_0 a0_1 a0_2 l1_0 a1_1 a1_2) else (impl_CompareAtoms.j0 k true l0_0 a0_1 a0_2 l1_0 a1_1 a1_2))) else (impl_CompareAtoms.j0 k true l0_0 a0_1 a0_2 l1_0 a1_1 a1_2)) = some r := H
  have A6 := Aside0.mk A60
  clear A60
  by_cases c7 : qq = true
  rotate_left
  ·
   replace c7 := Bool.eq_false_iff.mpr c7
   subst c7
   have H1 : (impl_CompareAtoms.j0 k true l0_0 a0_1 a0_2 l1_0 a1_1 a1_2) = some r := by rw [if_neg (show ¬ (false = true) by decide)] at H; exact H
   clear H
   have H := H1
   clear H1
   have H' := Aside0.mk H
   clear H
   have jQ := qc.out
   have jR := qd.out
   obtain ⟨qr, qs, qt, qu, qv, qw⟩ := b3_ qa
   go_wp2_with (first | ((with_reducible refine gate_callee (f := 52) rfl ?_); refine gL_ (some 8) Tryd.func52 #[.agg #[.slice A0_0 l0_0.length c0_0, .int .i64 a0_1, .bool a0_2]] ?_; (with_reducible refine (impl_IsAtom.calls k _ _ l0_0 a0_1 a0_2 false _ ?side1 ?side2 A6.out).mono ?_); (case side1 => exact cb_ qj HB); (case side2 => exact qk.out); rintro e Qc ⟨rfl, hb⟩; refine ⟨_, rfl, ?_⟩; replace qa := kB_ qa hb; replace qb := kB_ qb hb; replace HB := bS_ HB hb; clear hb))
   go_meet
   case rel => exact ⟨_, (true), (by first | rfl | (simp; done) | (simp [*]; done)), H', ⟨by first | omega | exact Nat.le_refl _⟩, ⟨kf_ qa⟩, ⟨kf_ qb⟩, ⟨bb_ HB⟩⟩
  subst c7
  have H1 : ((impl_IsAtom.f k l1_0 a1_1 a1_2).bind fun qo => (if qo = true then (impl_CompareAtoms.j0 k ((l0_0.length : Int) != (l1_0.length : Int)) l0_0 a0_1 a0_2 l1_0 a1_1 a1_2) else (impl_CompareAtoms.j0 k true l0_0 a0_1 a0_2 l1_0 a1_1 a1_2))) = some r := by rw [if_pos rfl] at H; exact H
  clear H
  have H := H1
  clear H1
  replace H := Option.bind_eq_some_iff.mp H
  obtain ⟨qo, A80, H⟩ := H
  replace H : (if qo = true then (impl_CompareAtoms.j0 k ((l0_0.length : Int) != (l1_0.length : Int)) l0_0 a0_1 a0_2 l1_0 a1_1 a1_2) else (impl_CompareAtoms.j0 k true l0_0 a0_1 a0_2 l1_0 a1_1 a1_2)) = some r := H
  have A8 := Aside0.mk A80
  clear A80
  by_cases c9 : qo = true
  rotate_left
  ·
   replace c9 := Bool.eq_false_iff.mpr c9
   subst c9
   have H1 : (impl_CompareAtoms.j0 k true l0_0 a0_1 a0_2 l1_0 a1_1 a1_2) = some r := by rw [if_neg (show ¬ (false = true) by decide)] at H; exact H
   clear H
   have H := H1
   clear H1
   have H' := Aside0.mk H
   clear H
   have jS := qc.out
   have jT := qd.out
   obtain ⟨qx, qy, qz, qA, qB, qC⟩ := b3_ qa
   go_wp2_with (first | ((with_reducible refine gate_callee (f := 52) rfl ?_); refine gL_ (some 8) Tryd.func52 #[.agg #[.slice A0_0 l0_0.length c0_0, .int .i64 a0_1, .bool a0_2]] ?_; (with_reducible refine (impl_IsAtom.calls k _ _ l0_0 a0_1 a0_2 true _ ?side1 ?side2 A6.out).mono ?_); (case side1 => exact cb_ qj HB); (case side2 => exact qk.out); rintro e Qd ⟨rfl, hb⟩; refine ⟨_, rfl, ?_⟩; replace qa := kB_ qa hb; replace qb := kB_ qb hb; replace HB := bS_ HB hb; clear hb; obtain ⟨qD, qE, qF, qG, qH, qI⟩ := b3_ qb) | (go_at_call 52; (with_reducible refine (impl_IsAtom.calls k _ _ l1_0 a1_1 a1_2 false _ ?side1 ?side2 A8.out).mono ?_); (case side1 => exact cb_ qm HB); (case side2 => exact qn.out); rintro e Qe ⟨rfl, hb⟩; replace qa := kB_ qa hb; replace qb := kB_ qb hb; replace HB := bS_ HB hb; clear hb))
   go_meet
   case rel => exact ⟨_, (true), (by first | rfl | (simp; done) | (simp [*]; done)), H', ⟨by first | omega | exact Nat.le_refl _⟩, ⟨kf_ qa⟩, ⟨kf_ qb⟩, ⟨bb_ HB⟩⟩
  subst c9
  have H1 : (impl_CompareAtoms.j0 k ((l0_0.length : Int) != (l1_0.length : Int)) l0_0 a0_1 a0_2 l1_0 a1_1 a1_2) = some r := by rw [if_pos rfl] at H; exact H
  clear H
  have H := H1
  clear H1
  have H' := Aside0.mk H
  clear H
  have jU := qc.out
  have jV := qd.out
  obtain ⟨qJ, qK, qL, qM, qN, qO⟩ := b3_ qa
  go_wp2_with (first | ((with_reducible refine gate_callee (f := 52) rfl ?_); refine gL_ (some 8) Tryd.func52 #[.agg #[.slice A0_0 l0_0.length c0_0, .int .i64 a0_1, .bool a0_2]] ?_; (with_reducible refine (impl_IsAtom.calls k _ _ l0_0 a0_1 a0_2 true _ ?side1 ?side2 A6.out).mono ?_); (case side1 => exact cb_ qj HB); (case side2 => exact qk.out); rintro e Qf ⟨rfl, hb⟩; refine ⟨_, rfl, ?_⟩; replace qa := kB_ qa hb; replace qb := kB_ qb hb; replace HB := bS_ HB hb; clear hb; obtain ⟨qP, qQ, qR, qS, qT, qU⟩ := b3_ qb) | (go_at_call 52; (with_reducible refine (impl_IsAtom.calls k _ _ l1_0 a1_1 a1_2 true _ ?side1 ?side2 A8.out).mono ?_); (case side1 => exact cb_ qm HB); (case side2 => exact qn.out); rintro e Qg ⟨rfl, hb⟩; replace qa := kB_ qa hb; replace qb := kB_ qb hb; replace HB := bS_ HB hb; clear hb; obtain ⟨qV, qW, qX, qY, qZ, q0⟩ := b3_ qa; obtain ⟨q1, q2, q3, q4, q5, q6⟩ := b3_ qb))
  go_meet
  case rel => exact ⟨_, (((l0_0.length : Int) != (l1_0.length : Int))), (by first | rfl | (simp; done) | (simp [*]; done)), H', ⟨by first | omega | exact Nat.le_refl _⟩, ⟨kf_ qa⟩, ⟨kf_ qb⟩, ⟨bb_ HB⟩⟩
 case rest =>
  clear HC3
  try clear c1
  try clear c2
  try clear p2
  try clear c4
  try clear c5
  try clear c7
  try clear c9
  try clear c10
  try clear c17
  try clear c22
  try clear qJ
  try clear qK
  try clear qL
  try clear qP
  try clear qQ
  try clear qR
  try clear qV
  try clear qW
  try clear qX
  try clear q1
  try clear q2
  try clear q3
  try clear qx
  try clear qy
  try clear qz
  try clear qD
  try clear qE
  try clear qF
  try clear qr
  try clear qs
  try clear qt
  try clear qM
  try clear qN
  try clear qO
  try clear qS
  try clear qT
  try clear qU
  try clear qY
  try clear qZ
  try clear q0
  try clear q4
  try clear q5
  try clear q6
  try clear qA
  try clear qB
  try clear qC
  try clear qG
  try clear qH
  try clear qI
  try clear qu
  try clear qv
  try clear qw
  obtain ⟨kq, qp, rfl, HA, HJ2, qa, qb, HB⟩ := hcut
  cases kq with
  | zero => exact absurd HA.out (by simp [impl_CompareAtoms.j0])
  | succ kj2 =>
   have H := HA.out
   clear HA
   simp only [impl_CompareAtoms.j0] at H
   by_cases c25 : qp = true
   ·
    subst c25
    have H1 : (some 2) = some r := by rw [if_pos rfl] at H; exact H
    clear H
    have H := H1
    clear H1
    obtain rfl := Option.some.inj H
    go_wp2
    go_ret
    exact ⟨by first | rfl | (simp [errW_none, errW_some] <;> rfl) | (simp [*, errW_none, errW_some] <;> rfl), bb_ HB⟩
   replace c25 := Bool.eq_false_iff.mpr c25
   subst c25
   have H1 : ((impl_compareDirections.f kj2 l0_0 a0_1 a0_2 l1_0 a1_1 a1_2).bind fun ql => (if ql = 0 then ((impl_directionDivisor.f kj2 l1_0 a1_1 a1_2).bind fun qg => ((impl_directionDivisor.f kj2 l0_0 a0_1 a0_2).bind fun qf => ((impl_sign.f (wrap64 (a0_1 * qg)) (wrap64 (a1_1 * qf))).bind fun qe => (if qe = 0 then (if (a0_2 == a1_2) = true then (some 0) else (if a0_2 = true then (some 1) else (some (-1)))) else (some qe))))) else (some ql))) = some r := by rw [if_neg (show ¬ (false = true) by decide)] at H; exact H
   clear H
   have H := H1
   clear H1
   replace H := Option.bind_eq_some_iff.mp H
   obtain ⟨ql, A260, H⟩ := H
   replace H : (if ql = 0 then ((impl_directionDivisor.f kj2 l1_0 a1_1 a1_2).bind fun qg => ((impl_directionDivisor.f kj2 l0_0 a0_1 a0_2).bind fun qf => ((impl_sign.f (wrap64 (a0_1 * qg)) (wrap64 (a1_1 * qf))).bind fun qe => (if qe = 0 then (if (a0_2 == a1_2) = true then (some 0) else (if a0_2 = true then (some 1) else (some (-1)))) else (some qe))))) else (some ql)) = some r := H
   have A26 := Aside0.mk A260
   clear A260
   by_cases c27 : ql = 0
   rotate_left
   ·
    rw [if_neg c27] at H
    have q7 : (ql == 0) = false := beq_eq_false_iff_ne.mpr c27
    have q8 : (ql != 0) = true := bne_iff_ne.mpr c27
    obtain rfl := Option.some.inj H
    have jW := qc.out
    have jX := qd.out
    obtain ⟨ze, zf, zg, zh, zi, zj⟩ := b3_ qa
    obtain ⟨zk, zl, zm, zn, zo, zp⟩ := b3_ qb
    go_wp2_with (first | ((with_reducible refine gate_callee (f := 89) rfl ?_); refine gL_ (some 26) Tryd.func89 #[.agg #[.slice A0_0 l0_0.length c0_0, .int .i64 a0_1, .bool a0_2], .agg #[.slice A1_0 l1_0.length c1_0, .int .i64 a1_1, .bool a1_2]] ?_; (with_reducible refine (impl_compareDirections.calls kj2 _ _ l0_0 a0_1 a0_2 _ _ l1_0 a1_1 a1_2 ql _ ?side1 ?side2 ?side3 ?side4 A26.out).mono ?_); (case side1 => exact cb_ qj HB); (case side2 => exact qk.out); (case side3 => exact cb_ qm HB); (case side4 => exact qn.out); rintro e Qh ⟨rfl, hb⟩; refine ⟨_, rfl, ?_⟩; replace qa := kB_ qa hb; replace qb := kB_ qb hb; replace HB := bS_ HB hb; clear hb))
    go_ret
    exact ⟨by first | rfl | (simp [errW_none, errW_some] <;> rfl) | (simp [*, errW_none, errW_some] <;> rfl), bb_ HB⟩
   rw [if_pos c27] at H
   have q7 : (ql == 0) = true := beq_iff_eq.mpr c27
   have q8 : (ql != 0) = false := bne_eq_false_iff_eq.mpr c27
   clear c27
   replace H := Option.bind_eq_some_iff.mp H
   obtain ⟨qg, A280, H⟩ := H
   replace H : ((impl_directionDivisor.f kj2 l0_0 a0_1 a0_2).bind fun qf => ((impl_sign.f (wrap64 (a0_1 * qg)) (wrap64 (a1_1 * qf))).bind fun qe => (if qe = 0 then (if (a0_2 == a1_2) = true then (some 0) else (if a0_2 = true then (some 1) else (some (-1)))) else (some qe)))) = some r := H
   have A28 := Aside0.mk A280
   clear A280
   replace H := Option.bind_eq_some_iff.mp H
   obtain ⟨qf, A290, H⟩ := H
   replace H : ((impl_sign.f (wrap64 (a0_1 * qg)) (wrap64 (a1_1 * qf))).bind fun qe => (if qe = 0 then (if (a0_2 == a1_2) = true then (some 0) else (if a0_2 = true then (some 1) else (some (-1)))) else (some qe))) = some r := H
   have A29 := Aside0.mk A290
   clear A290
   replace H := Option.bind_eq_some_iff.mp H
   obtain ⟨qe, A300, H⟩ := H
   replace H : (if qe = 0 then (if (a0_2 == a1_2) = true then (some 0) else (if a0_2 = true then (some 1) else (some (-1)))) else (some qe)) = some r := H
   have A30 := Aside0.mk A300
   clear A300
   by_cases c31 : qe = 0
   rotate_left
   ·
    rw [if_neg c31] at H
    have q9 : (qe == 0) = false := beq_eq_false_iff_ne.mpr c31
    have za : (qe != 0) = true := bne_iff_ne.mpr c31
    obtain rfl := Option.some.inj H
    have jY := qc.out
    have jZ := qd.out
    obtain ⟨zq, zr, zs, zt, zu, zv⟩ := b3_ qa
    obtain ⟨zw, zx, zy, zz, zA, zB⟩ := b3_ qb
    try go_wp2_with (first | ((with_reducible refine gate_callee (f := 89) rfl ?_); refine gL_ (some 26) Tryd.func89 #[.agg #[.slice A0_0 l0_0.length c0_0, .int .i64 a0_1, .bool a0_2], .agg #[.slice A1_0 l1_0.length c1_0, .int .i64 a1_1, .bool a1_2]] ?_; (with_reducible refine (impl_compareDirections.calls kj2 _ _ l0_0 a0_1 a0_2 _ _ l1_0 a1_1 a1_2 ql _ ?side1 ?side2 ?side3 ?side4 A26.out).mono ?_); (case side1 => exact cb_ qj HB); (case side2 => exact qk.out); (case side3 => exact cb_ qm HB); (case side4 => exact qn.out); rintro e j8 ⟨rfl, hb⟩; refine ⟨_, rfl, ?_⟩; replace qa := kB_ qa hb; replace qb := kB_ qb hb; replace HB := bS_ HB hb; clear hb))
    replace qa := Aside0.mk (blk_drew qa.out); replace qb := Aside0.mk (blk_drew qb.out); replace HB := Aside0.mk (below_drew1 HB.out)
    refine start_ (n := 12) (S := fun w' => w'.cell? ⟨qh, 0, none⟩ = some (.slice A0_0 l0_0.length c0_0) ∧ w'.cell? ⟨qh, 1, none⟩ = some (.int .i64 a0_1) ∧ w'.cell? ⟨qh, 2, none⟩ = some (.bool a0_2) ∧ w'.cell? ⟨qi, 0, none⟩ = some (.slice A1_0 l1_0.length c1_0) ∧ w'.cell? ⟨qi, 1, none⟩ = some (.int .i64 a1_1) ∧ w'.cell? ⟨qi, 2, none⟩ = some (.bool a1_2)) (ds := []) #[false, false, false, false, false, false, false, false, false, false, false, false] (by kernel_rfl) rfl rfl ⟨bc_ qa 0, bc_ qa 1, bc_ qa 2, bc_ qb 0, bc_ qb 1, bc_ qb 2⟩ (fun hHeld => ?_); refine with_tabW impl_CompareAtoms.tab6 impl_CompareAtoms.bits6 (fun HT_ HW_ => ?_)
    generalize j8.drew = Qi at qa qb HB hHeld ⊢
    refine pX_ 0 (some 30) #[true, false, false, false, false, false, false, false, false, false, false, false] HT_ ?_
    refine pX_ 5 (some 35) #[true, false, false, false, false, true, false, false, false, false, false, false] HT_ ?_
    refine take_ (i := 1) (N := some 31) (v := ?_) (a' := ?_) #[true, true, false, false, false, true, false, false, false, false, false, false] rfl rfl (take_ofW HT_.out HW_.out (by kernel_rfl)) (fun _ _ _ h => h) (Or.inl ⟨by rfl, ?_⟩) hHeld ?_ ?_
    rotate_left
    ·
     rintro w' ⟨s0, s1, s2, s3, s4, s5⟩
     go_simp
     with_reducible rfl
    rotate_left
    ·
     simp only [Act.put, List.setIfInBounds_toArray, List.set_cons_zero, List.set_cons_succ, i64_w, i32_w]
     rfl
    refine take_ (i := 2) (N := some 32) (v := ?_) (a' := ?_) #[true, true, true, false, false, true, false, false, false, false, false, false] rfl rfl (take_ofW HT_.out HW_.out (by kernel_rfl)) (fun _ _ _ h => h) (Or.inl ⟨by rfl, ?_⟩) hHeld ?_ ?_
    rotate_left
    ·
     rintro w' ⟨s0, s1, s2, s3, s4, s5⟩
     go_simp
     with_reducible rfl
    rotate_left
    ·
     simp only [Act.put, List.setIfInBounds_toArray, List.set_cons_zero, List.set_cons_succ, i64_w, i32_w]
     rfl
    refine take_ (i := 6) (N := some 36) (v := ?_) (a' := ?_) #[true, true, true, false, false, true, true, false, false, false, false, false] rfl rfl (take_ofW HT_.out HW_.out (by kernel_rfl)) (fun _ _ _ h => h) (Or.inl ⟨by rfl, ?_⟩) hHeld ?_ ?_
    rotate_left
    ·
     rintro w' ⟨s0, s1, s2, s3, s4, s5⟩
     go_simp
     with_reducible rfl
    rotate_left
    ·
     simp only [Act.put, List.setIfInBounds_toArray, List.set_cons_zero, List.set_cons_succ, i64_w, i32_w]
     rfl
    refine take_ (i := 7) (N := some 37) (v := ?_) (a' := ?_) #[true, true, true, false, false, true, true, true, false, false, false, false] rfl rfl (take_ofW HT_.out HW_.out (by kernel_rfl)) (fun _ _ _ h => h) (Or.inl ⟨by rfl, ?_⟩) hHeld ?_ ?_
    rotate_left
    ·
     rintro w' ⟨s0, s1, s2, s3, s4, s5⟩
     go_simp
     with_reducible rfl
    rotate_left
    ·
     simp only [Act.put, List.setIfInBounds_toArray, List.set_cons_zero, List.set_cons_succ, i64_w, i32_w]
     rfl
    refine one_ (i := 3) (N := some 33) #[true, true, true, true, false, true, true, true, false, false, false, false] rfl rfl (one_of HT_.out (by kernel_rfl)) (by decide) (fun K hK => ?_)
    refine goes_ Tryd.func91 (by kernel_rfl) rfl #[.agg #[.slice A1_0 l1_0.length c1_0, .int .i64 a1_1, .bool a1_2]] (by rfl) rfl rfl (by (try simp only [List.map_toArray, List.map_cons, List.map_nil]); first | done | rfl | (simp only [List.length_drop, List.length_take]; rfl)) ?_
    with_reducible refine (impl_directionDivisor.calls kj2 _ _ l1_0 a1_1 a1_2 qg _ ?side1 ?side2 A28.out).mono ?_
    (case side1 => exact cb_ qm HB)
    (case side2 => exact qn.out)
    rintro e Qj ⟨rfl, hb⟩
    refine ⟨_, rfl, ?_⟩
    replace qa := kB_ qa hb; replace qb := kB_ qb hb; replace HB := bS_ HB hb; (try clear hb); (try clear hb2); (try clear hk); (try clear hi)
    refine hK.out _ _ ⟨bc_ qa 0, bc_ qa 1, bc_ qa 2, bc_ qb 0, bc_ qb 1, bc_ qb 2⟩ (fun hHeld => ?_)
    clear hK K
    refine norm_ (a' := ?_) ?_ ?_
    rotate_left
    ·
     show Act.put _ (some 33) _ = _
     simp only [Act.put, List.setIfInBounds_toArray, List.set_cons_zero, List.set_cons_succ, i64_w, i32_w]
     rfl
    refine pX_ 4 (some 34) #[true, true, true, true, true, true, true, true, false, false, false, false] HT_ ?_
    refine one_ (i := 8) (N := some 38) #[true, true, true, true, true, true, true, true, true, false, false, false] rfl rfl (one_of HT_.out (by kernel_rfl)) (by decide) (fun K hK => ?_)
    refine goes_ Tryd.func91 (by kernel_rfl) rfl #[.agg #[.slice A0_0 l0_0.length c0_0, .int .i64 a0_1, .bool a0_2]] (by rfl) rfl rfl (by (try simp only [List.map_toArray, List.map_cons, List.map_nil]); first | done | rfl | (simp only [List.length_drop, List.length_take]; rfl)) ?_
    with_reducible refine (impl_directionDivisor.calls kj2 _ _ l0_0 a0_1 a0_2 qf _ ?side1 ?side2 A29.out).mono ?_
    (case side1 => exact cb_ qj HB)
    (case side2 => exact qk.out)
    rintro e Qk ⟨rfl, hb⟩
    refine ⟨_, rfl, ?_⟩
    replace qa := kB_ qa hb; replace qb := kB_ qb hb; replace HB := bS_ HB hb; (try clear hb); (try clear hb2); (try clear hk); (try clear hi)
    refine hK.out _ _ ⟨bc_ qa 0, bc_ qa 1, bc_ qa 2, bc_ qb 0, bc_ qb 1, bc_ qb 2⟩ (fun hHeld => ?_)
    clear hK K
    refine norm_ (a' := ?_) ?_ ?_
    rotate_left
    ·
     show Act.put _ (some 38) _ = _
     simp only [Act.put, List.setIfInBounds_toArray, List.set_cons_zero, List.set_cons_succ, i64_w, i32_w]
     rfl
    refine pX_ 9 (some 39) #[true, true, true, true, true, true, true, true, true, true, false, false] HT_ ?_
    refine one_ (i := 10) (N := some 40) #[true, true, true, true, true, true, true, true, true, true, true, false] rfl rfl (one_of HT_.out (by kernel_rfl)) (by decide) (fun K hK => ?_)
    refine goes_ Tryd.func90 (by kernel_rfl) rfl #[.int .i64 (wrap64 (a0_1 * qg)), .int .i64 (wrap64 (a1_1 * qf))] (by rfl) rfl rfl (by (try simp only [List.map_toArray, List.map_cons, List.map_nil]); first | done | rfl | (simp only [List.length_drop, List.length_take]; rfl)) ?_
    with_reducible refine (impl_sign.calls (wrap64 (a0_1 * qg)) (wrap64 (a1_1 * qf)) qe _ A30.out).mono ?_
    rintro e w' ⟨rfl, ⟨nd, rfl⟩⟩
    refine ⟨_, rfl, ?_⟩
    refine hK.out _ _ ⟨bc_ qa 0, bc_ qa 1, bc_ qa 2, bc_ qb 0, bc_ qb 1, bc_ qb 2⟩ (fun hHeld => ?_)
    clear hK K
    refine norm_ (a' := ?_) ?_ ?_
    rotate_left
    ·
     show Act.put _ (some 40) _ = _
     simp only [Act.put, List.setIfInBounds_toArray, List.set_cons_zero, List.set_cons_succ, i64_w, i32_w]
     rfl
    refine pX_ 11 (some 6) #[true, true, true, true, true, true, true, true, true, true, true, true] HT_ ?_
    refine done_ (done_of HT_.out (by kernel_rfl)) ?_
    try go_wp2
    go_ret
    exact ⟨by first | rfl | (simp [errW_none, errW_some] <;> rfl) | (simp [*, errW_none, errW_some] <;> rfl), bb_ HB⟩
   rw [if_pos c31] at H
   have q9 : (qe == 0) = true := beq_iff_eq.mpr c31
   have za : (qe != 0) = false := bne_eq_false_iff_eq.mpr c31
   clear c31
   by_cases c32 : (a0_2 == a1_2) = true
   ·
    rw [if_pos c32] at H
    have zb : (a0_2 == a1_2) = true := c32
    (try (have zc : decide (a0_2 = a1_2) = true := by simpa using c32))
    (try (have zd : (a0_2 == a1_2) = true := by simpa using c32))
    clear c32
    obtain rfl := Option.some.inj H
    have j1 := qc.out
    have j2 := qd.out
    obtain ⟨zC, zD, zE, zF, zG, zH⟩ := b3_ qa
    obtain ⟨zI, zJ, zK, zL, zM, zN⟩ := b3_ qb
    try go_wp2_with (first | ((with_reducible refine gate_callee (f := 89) rfl ?_); refine gL_ (some 26) Tryd.func89 #[.agg #[.slice A0_0 l0_0.length c0_0, .int .i64 a0_1, .bool a0_2], .agg #[.slice A1_0 l1_0.length c1_0, .int .i64 a1_1, .bool a1_2]] ?_; (with_reducible refine (impl_compareDirections.calls kj2 _ _ l0_0 a0_1 a0_2 _ _ l1_0 a1_1 a1_2 ql _ ?side1 ?side2 ?side3 ?side4 A26.out).mono ?_); (case side1 => exact cb_ qj HB); (case side2 => exact qk.out); (case side3 => exact cb_ qm HB); (case side4 => exact qn.out); rintro e j9 ⟨rfl, hb⟩; refine ⟨_, rfl, ?_⟩; replace qa := kB_ qa hb; replace qb := kB_ qb hb; replace HB := bS_ HB hb; clear hb))
    replace qa := Aside0.mk (blk_drew qa.out); replace qb := Aside0.mk (blk_drew qb.out); replace HB := Aside0.mk (below_drew1 HB.out)
    refine start_ (n := 12) (S := fun w' => w'.cell? ⟨qh, 0, none⟩ = some (.slice A0_0 l0_0.length c0_0) ∧ w'.cell? ⟨qh, 1, none⟩ = some (.int .i64 a0_1) ∧ w'.cell? ⟨qh, 2, none⟩ = some (.bool a0_2) ∧ w'.cell? ⟨qi, 0, none⟩ = some (.slice A1_0 l1_0.length c1_0) ∧ w'.cell? ⟨qi, 1, none⟩ = some (.int .i64 a1_1) ∧ w'.cell? ⟨qi, 2, none⟩ = some (.bool a1_2)) (ds := []) #[false, false, false, false, false, false, false, false, false, false, false, false] (by kernel_rfl) rfl rfl ⟨bc_ qa 0, bc_ qa 1, bc_ qa 2, bc_ qb 0, bc_ qb 1, bc_ qb 2⟩ (fun hHeld => ?_); refine with_tabW impl_CompareAtoms.tab6 impl_CompareAtoms.bits6 (fun HT_ HW_ => ?_)
    generalize j9.drew = Ql at qa qb HB hHeld ⊢
    refine pX_ 0 (some 30) #[true, false, false, false, false, false, false, false, false, false, false, false] HT_ ?_
    refine pX_ 5 (some 35) #[true, false, false, false, false, true, false, false, false, false, false, false] HT_ ?_
    refine take_ (i := 1) (N := some 31) (v := ?_) (a' := ?_) #[true, true, false, false, false, true, false, false, false, false, false, false] rfl rfl (take_ofW HT_.out HW_.out (by kernel_rfl)) (fun _ _ _ h => h) (Or.inl ⟨by rfl, ?_⟩) hHeld ?_ ?_
    rotate_left
    ·
     rintro w' ⟨s0, s1, s2, s3, s4, s5⟩
     go_simp
     with_reducible rfl
    rotate_left
    ·
     simp only [Act.put, List.setIfInBounds_toArray, List.set_cons_zero, List.set_cons_succ, i64_w, i32_w]
     rfl
    refine take_ (i := 2) (N := some 32) (v := ?_) (a' := ?_) #[true, true, true, false, false, true, false, false, false, false, false, false] rfl rfl (take_ofW HT_.out HW_.out (by kernel_rfl)) (fun _ _ _ h => h) (Or.inl ⟨by rfl, ?_⟩) hHeld ?_ ?_
    rotate_left
    ·
     rintro w' ⟨s0, s1, s2, s3, s4, s5⟩
     go_simp
     with_reducible rfl
    rotate_left
    ·
     simp only [Act.put, List.setIfInBounds_toArray, List.set_cons_zero, List.set_cons_succ, i64_w, i32_w]
     rfl
    refine take_ (i := 6) (N := some 36) (v := ?_) (a' := ?_) #[true, true, true, false, false, true, true, false, false, false, false, false] rfl rfl (take_ofW HT_.out HW_.out (by kernel_rfl)) (fun _ _ _ h => h) (Or.inl ⟨by rfl, ?_⟩) hHeld ?_ ?_
    rotate_left
    ·
     rintro w' ⟨s0, s1, s2, s3, s4, s5⟩
     go_simp
     with_reducible rfl
    rotate_left
    ·
     simp only [Act.put, List.setIfInBounds_toArray, List.set_cons_zero, List.set_cons_succ, i64_w, i32_w]
     rfl
    refine take_ (i := 7) (N := some 37) (v := ?_) (a' := ?_) #[true, true, true, false, false, true, true, true, false, false, false, false] rfl rfl (take_ofW HT_.out HW_.out (by kernel_rfl)) (fun _ _ _ h => h) (Or.inl ⟨by rfl, ?_⟩) hHeld ?_ ?_
    rotate_left
    ·
     rintro w' ⟨s0, s1, s2, s3, s4, s5⟩
     go_simp
     with_reducible rfl
    rotate_left
    ·
     simp only [Act.put, List.setIfInBounds_toArray, List.set_cons_zero, List.set_cons_succ, i64_w, i32_w]
     rfl
    refine one_ (i := 3) (N := some 33) #[true, true, true, true, false, true, true, true, false, false, false, false] rfl rfl (one_of HT_.out (by kernel_rfl)) (by decide) (fun K hK => ?_)
    refine goes_ Tryd.func91 (by kernel_rfl) rfl #[.agg #[.slice A1_0 l1_0.length c1_0, .int .i64 a1_1, .bool a1_2]] (by rfl) rfl rfl (by (try simp only [List.map_toArray, List.map_cons, List.map_nil]); first | done | rfl | (simp only [List.length_drop, List.length_take]; rfl)) ?_
    with_reducible refine (impl_directionDivisor.calls kj2 _ _ l1_0 a1_1 a1_2 qg _ ?side1 ?side2 A28.out).mono ?_
    (case side1 => exact cb_ qm HB)
    (case side2 => exact qn.out)
    rintro e Qm ⟨rfl, hb⟩
    refine ⟨_, rfl, ?_⟩
    replace qa := kB_ qa hb; replace qb := kB_ qb hb; replace HB := bS_ HB hb; (try clear hb); (try clear hb2); (try clear hk); (try clear hi)
    refine hK.out _ _ ⟨bc_ qa 0, bc_ qa 1, bc_ qa 2, bc_ qb 0, bc_ qb 1, bc_ qb 2⟩ (fun hHeld => ?_)
    clear hK K
    refine norm_ (a' := ?_) ?_ ?_
    rotate_left
    ·
     show Act.put _ (some 33) _ = _
     simp only [Act.put, List.setIfInBounds_toArray, List.set_cons_zero, List.set_cons_succ, i64_w, i32_w]
     rfl
    refine pX_ 4 (some 34) #[true, true, true, true, true, true, true, true, false, false, false, false] HT_ ?_
    refine one_ (i := 8) (N := some 38) #[true, true, true, true, true, true, true, true, true, false, false, false] rfl rfl (one_of HT_.out (by kernel_rfl)) (by decide) (fun K hK => ?_)
    refine goes_ Tryd.func91 (by kernel_rfl) rfl #[.agg #[.slice A0_0 l0_0.length c0_0, .int .i64 a0_1, .bool a0_2]] (by rfl) rfl rfl (by (try simp only [List.map_toArray, List.map_cons, List.map_nil]); first | done | rfl | (simp only [List.length_drop, List.length_take]; rfl)) ?_
    with_reducible refine (impl_directionDivisor.calls kj2 _ _ l0_0 a0_1 a0_2 qf _ ?side1 ?side2 A29.out).mono ?_
    (case side1 => exact cb_ qj HB)
    (case side2 => exact qk.out)
    rintro e Qn ⟨rfl, hb⟩
    refine ⟨_, rfl, ?_⟩
    replace qa := kB_ qa hb; replace qb := kB_ qb hb; replace HB := bS_ HB hb; (try clear hb); (try clear hb2); (try clear hk); (try clear hi)
    refine hK.out _ _ ⟨bc_ qa 0, bc_ qa 1, bc_ qa 2, bc_ qb 0, bc_ qb 1, bc_ qb 2⟩ (fun hHeld => ?_)
    clear hK K
    refine norm_ (a' := ?_) ?_ ?_
    rotate_left
    ·
     show Act.put _ (some 38) _ = _
     simp only [Act.put, List.setIfInBounds_toArray, List.set_cons_zero, List.set_cons_succ, i64_w, i32_w]
     rfl
    refine pX_ 9 (some 39) #[true, true, true, true, true, true, true, true, true, true, false, false] HT_ ?_
    refine one_ (i := 10) (N := some 40) #[true, true, true, true, true, true, true, true, true, true, true, false] rfl rfl (one_of HT_.out (by kernel_rfl)) (by decide) (fun K hK => ?_)
    refine goes_ Tryd.func90 (by kernel_rfl) rfl #[.int .i64 (wrap64 (a0_1 * qg)), .int .i64 (wrap64 (a1_1 * qf))] (by rfl) rfl rfl (by (try simp only [List.map_toArray, List.map_cons, List.map_nil]); first | done | rfl | (simp only [List.length_drop, List.length_take]; rfl)) ?_
    with_reducible refine (impl_sign.calls (wrap64 (a0_1 * qg)) (wrap64 (a1_1 * qf)) qe _ A30.out).mono ?_
    rintro e w' ⟨rfl, ⟨nd, rfl⟩⟩
    refine ⟨_, rfl, ?_⟩
    refine hK.out _ _ ⟨bc_ qa 0, bc_ qa 1, bc_ qa 2, bc_ qb 0, bc_ qb 1, bc_ qb 2⟩ (fun hHeld => ?_)
    clear hK K
    refine norm_ (a' := ?_) ?_ ?_
    rotate_left
    ·
     show Act.put _ (some 40) _ = _
     simp only [Act.put, List.setIfInBounds_toArray, List.set_cons_zero, List.set_cons_succ, i64_w, i32_w]
     rfl
    refine pX_ 11 (some 6) #[true, true, true, true, true, true, true, true, true, true, true, true] HT_ ?_
    refine done_ (done_of HT_.out (by kernel_rfl)) ?_
    obtain ⟨zO, zP, zQ, zR, zS, zT⟩ := b3_ qa
    obtain ⟨zU, zV, zW, zX, zY, zZ⟩ := b3_ qb
    try go_wp2
    go_ret
    exact ⟨by first | rfl | (simp [errW_none, errW_some] <;> rfl) | (simp [*, errW_none, errW_some] <;> rfl), bb_ HB⟩
   rw [if_neg c32] at H
   have zb : (a0_2 == a1_2) = false := by simpa using c32
   (try (have zc : decide (a0_2 = a1_2) = false := by simpa using c32))
   (try (have zd : (a0_2 == a1_2) = false := by simpa using c32))
   (try (have j3 : ¬ (a0_2 = a1_2) := by simpa using c32))
   clear c32
   by_cases c42 : a0_2 = true
   ·
    subst c42
    have H1 : (some 1) = some r := by rw [if_pos rfl] at H; exact H
    clear H
    have H := H1
    clear H1
    obtain rfl := Option.some.inj H
    have j4 := qc.out
    have j5 := qd.out
    obtain ⟨z0, z1, z2, z3, z4, z5⟩ := b3_ qa
    obtain ⟨z6, z7, z8, z9, ja, jb⟩ := b3_ qb
    try go_wp2_with (first | ((with_reducible refine gate_callee (f := 89) rfl ?_); refine gL_ (some 26) Tryd.func89 #[.agg #[.slice A0_0 l0_0.length c0_0, .int .i64 a0_1, .bool true], .agg #[.slice A1_0 l1_0.length c1_0, .int .i64 a1_1, .bool a1_2]] ?_; (with_reducible refine (impl_compareDirections.calls kj2 _ _ l0_0 a0_1 true _ _ l1_0 a1_1 a1_2 ql _ ?side1 ?side2 ?side3 ?side4 A26.out).mono ?_); (case side1 => exact cb_ qj HB); (case side2 => exact qk.out); (case side3 => exact cb_ qm HB); (case side4 => exact qn.out); rintro e Qa ⟨rfl, hb⟩; refine ⟨_, rfl, ?_⟩; replace qa := kB_ qa hb; replace qb := kB_ qb hb; replace HB := bS_ HB hb; clear hb))
    replace qa := Aside0.mk (blk_drew qa.out); replace qb := Aside0.mk (blk_drew qb.out); replace HB := Aside0.mk (below_drew1 HB.out)
    refine start_ (n := 12) (S := fun w' => w'.cell? ⟨qh, 0, none⟩ = some (.slice A0_0 l0_0.length c0_0) ∧ w'.cell? ⟨qh, 1, none⟩ = some (.int .i64 a0_1) ∧ w'.cell? ⟨qh, 2, none⟩ = some (.bool true) ∧ w'.cell? ⟨qi, 0, none⟩ = some (.slice A1_0 l1_0.length c1_0) ∧ w'.cell? ⟨qi, 1, none⟩ = some (.int .i64 a1_1) ∧ w'.cell? ⟨qi, 2, none⟩ = some (.bool a1_2)) (ds := []) #[false, false, false, false, false, false, false, false, false, false, false, false] (by kernel_rfl) rfl rfl ⟨bc_ qa 0, bc_ qa 1, bc_ qa 2, bc_ qb 0, bc_ qb 1, bc_ qb 2⟩ (fun hHeld => ?_); refine with_tabW impl_CompareAtoms.tab6 impl_CompareAtoms.bits6 (fun HT_ HW_ => ?_)
    generalize Qa.drew = Qo at qa qb HB hHeld ⊢
    refine pX_ 0 (some 30) #[true, false, false, false, false, false, false, false, false, false, false, false] HT_ ?_
    refine pX_ 5 (some 35) #[true, false, false, false, false, true, false, false, false, false, false, false] HT_ ?_
    refine take_ (i := 1) (N := some 31) (v := ?_) (a' := ?_) #[true, true, false, false, false, true, false, false, false, false, false, false] rfl rfl (take_ofW HT_.out HW_.out (by kernel_rfl)) (fun _ _ _ h => h) (Or.inl ⟨by rfl, ?_⟩) hHeld ?_ ?_
    rotate_left
    ·
     rintro w' ⟨s0, s1, s2, s3, s4, s5⟩
     go_simp
     with_reducible rfl
    rotate_left
    ·
     simp only [Act.put, List.setIfInBounds_toArray, List.set_cons_zero, List.set_cons_succ, i64_w, i32_w]
     rfl
    refine take_ (i := 2) (N := some 32) (v := ?_) (a' := ?_) #[true, true, true, false, false, true, false, false, false, false, false, false] rfl rfl (take_ofW HT_.out HW_.out (by kernel_rfl)) (fun _ _ _ h => h) (Or.inl ⟨by rfl, ?_⟩) hHeld ?_ ?_
    rotate_left
    ·
     rintro w' ⟨s0, s1, s2, s3, s4, s5⟩
     go_simp
     with_reducible rfl
    rotate_left
    ·
     simp only [Act.put, List.setIfInBounds_toArray, List.set_cons_zero, List.set_cons_succ, i64_w, i32_w]
     rfl
    refine take_ (i := 6) (N := some 36) (v := ?_) (a' := ?_) #[true, true, true, false, false, true, true, false, false, false, false, false] rfl rfl (take_ofW HT_.out HW_.out (by kernel_rfl)) (fun _ _ _ h => h) (Or.inl ⟨by rfl, ?_⟩) hHeld ?_ ?_
    rotate_left
    ·
     rintro w' ⟨s0, s1, s2, s3, s4, s5⟩
     go_simp
     with_reducible rfl
    rotate_left
    ·
     simp only [Act.put, List.setIfInBounds_toArray, List.set_cons_zero, List.set_cons_succ, i64_w, i32_w]
     rfl
    refine take_ (i := 7) (N := some 37) (v := ?_) (a' := ?_) #[true, true, true, false, false, true, true, true, false, false, false, false] rfl rfl (take_ofW HT_.out HW_.out (by kernel_rfl)) (fun _ _ _ h => h) (Or.inl ⟨by rfl, ?_⟩) hHeld ?_ ?_
    rotate_left
    ·
     rintro w' ⟨s0, s1, s2, s3, s4, s5⟩
     go_simp
     with_reducible rfl
    rotate_left
    ·
     simp only [Act.put, List.setIfInBounds_toArray, List.set_cons_zero, List.set_cons_succ, i64_w, i32_w]
     rfl
    refine one_ (i := 3) (N := some 33) #[true, true, true, true, false, true, true, true, false, false, false, false] rfl rfl (one_of HT_.out (by kernel_rfl)) (by decide) (fun K hK => ?_)
    refine goes_ Tryd.func91 (by kernel_rfl) rfl #[.agg #[.slice A1_0 l1_0.length c1_0, .int .i64 a1_1, .bool a1_2]] (by rfl) rfl rfl (by (try simp only [List.map_toArray, List.map_cons, List.map_nil]); first | done | rfl | (simp only [List.length_drop, List.length_take]; rfl)) ?_
    with_reducible refine (impl_directionDivisor.calls kj2 _ _ l1_0 a1_1 a1_2 qg _ ?side1 ?side2 A28.out).mono ?_
    (case side1 => exact cb_ qm HB)
    (case side2 => exact qn.out)
    rintro e Qp ⟨rfl, hb⟩
    refine ⟨_, rfl, ?_⟩
    replace qa := kB_ qa hb; replace qb := kB_ qb hb; replace HB := bS_ HB hb; (try clear hb); (try clear hb2); (try clear hk); (try clear hi)
    refine hK.out _ _ ⟨bc_ qa 0, bc_ qa 1, bc_ qa 2, bc_ qb 0, bc_ qb 1, bc_ qb 2⟩ (fun hHeld => ?_)
    clear hK K
    refine norm_ (a' := ?_) ?_ ?_
    rotate_left
    ·
     show Act.put _ (some 33) _ = _
     simp only [Act.put, List.setIfInBounds_toArray, List.set_cons_zero, List.set_cons_succ, i64_w, i32_w]
     rfl
    refine pX_ 4 (some 34) #[true, true, true, true, true, true, true, true, false, false, false, false] HT_ ?_
    refine one_ (i := 8) (N := some 38) #[true, true, true, true, true, true, true, true, true, false, false, false] rfl rfl (one_of HT_.out (by kernel_rfl)) (by decide) (fun K hK => ?_)
    refine goes_ Tryd.func91 (by kernel_rfl) rfl #[.agg #[.slice A0_0 l0_0.length c0_0, .int .i64 a0_1, .bool true]] (by rfl) rfl rfl (by (try simp only [List.map_toArray, List.map_cons, List.map_nil]); first | done | rfl | (simp only [List.length_drop, List.length_take]; rfl)) ?_
    with_reducible refine (impl_directionDivisor.calls kj2 _ _ l0_0 a0_1 true qf _ ?side1 ?side2 A29.out).mono ?_
    (case side1 => exact cb_ qj HB)
    (case side2 => exact qk.out)
    rintro e Qq ⟨rfl, hb⟩
    refine ⟨_, rfl, ?_⟩
    replace qa := kB_ qa hb; replace qb := kB_ qb hb; replace HB := bS_ HB hb; (try clear hb); (try clear hb2); (try clear hk); (try clear hi)
    refine hK.out _ _ ⟨bc_ qa 0, bc_ qa 1, bc_ qa 2, bc_ qb 0, bc_ qb 1, bc_ qb 2⟩ (fun hHeld => ?_)
    clear hK K
    refine norm_ (a' := ?_) ?_ ?_
    rotate_left
    ·
     show Act.put _ (some 38) _ = _
     simp only [Act.put, List.setIfInBounds_toArray, List.set_cons_zero, List.set_cons_succ, i64_w, i32_w]
     rfl
    refine pX_ 9 (some 39) #[true, true, true, true, true, true, true, true, true, true, false, false] HT_ ?_
    refine one_ (i := 10) (N := some 40) #[true, true, true, true, true, true, true, true, true, true, true, false] rfl rfl (one_of HT_.out (by kernel_rfl)) (by decide) (fun K hK => ?_)
    refine goes_ Tryd.func90 (by kernel_rfl) rfl #[.int .i64 (wrap64 (a0_1 * qg)), .int .i64 (wrap64 (a1_1 * qf))] (by rfl) rfl rfl (by (try simp only [List.map_toArray, List.map_cons, List.map_nil]); first | done | rfl | (simp only [List.length_drop, List.length_take]; rfl)) ?_
    with_reducible refine (impl_sign.calls (wrap64 (a0_1 * qg)) (wrap64 (a1_1 * qf)) qe _ A30.out).mono ?_
    rintro e w' ⟨rfl, ⟨nd, rfl⟩⟩
    refine ⟨_, rfl, ?_⟩
    refine hK.out _ _ ⟨bc_ qa 0, bc_ qa 1, bc_ qa 2, bc_ qb 0, bc_ qb 1, bc_ qb 2⟩ (fun hHeld => ?_)
    clear hK K
    refine norm_ (a' := ?_) ?_ ?_
    rotate_left
    ·
     show Act.put _ (some 40) _ = _
     simp only [Act.put, List.setIfInBounds_toArray, List.set_cons_zero, List.set_cons_succ, i64_w, i32_w]
     rfl
    refine pX_ 11 (some 6) #[true, true, true, true, true, true, true, true, true, true, true, true] HT_ ?_
    refine done_ (done_of HT_.out (by kernel_rfl)) ?_
    obtain ⟨jc, jd, je, jf, jg, jh⟩ := b3_ qa
    obtain ⟨ji, jj, jk, jl, jm, jn⟩ := b3_ qb
    try go_wp2
    go_ret
    exact ⟨by first | rfl | (simp [errW_none, errW_some] <;> rfl) | (simp [*, errW_none, errW_some] <;> rfl), bb_ HB⟩
   replace c42 := Bool.eq_false_iff.mpr c42
   subst c42
   have H1 : (some (-1)) = some r := by rw [if_neg (show ¬ (false = true) by decide)] at H; exact H
   clear H
   have H := H1
   clear H1
   obtain rfl := Option.some.inj H
   have j6 := qc.out
   have j7 := qd.out
   obtain ⟨jo, jp, jq, jr, js, jt⟩ := b3_ qa
   obtain ⟨ju, jv, jw, jx, jy, jz⟩ := b3_ qb
   try go_wp2_with (first | ((with_reducible refine gate_callee (f := 89) rfl ?_); refine gL_ (some 26) Tryd.func89 #[.agg #[.slice A0_0 l0_0.length c0_0, .int .i64 a0_1, .bool false], .agg #[.slice A1_0 l1_0.length c1_0, .int .i64 a1_1, .bool a1_2]] ?_; (with_reducible refine (impl_compareDirections.calls kj2 _ _ l0_0 a0_1 false _ _ l1_0 a1_1 a1_2 ql _ ?side1 ?side2 ?side3 ?side4 A26.out).mono ?_); (case side1 => exact cb_ qj HB); (case side2 => exact qk.out); (case side3 => exact cb_ qm HB); (case side4 => exact qn.out); rintro e Qb ⟨rfl, hb⟩; refine ⟨_, rfl, ?_⟩; replace qa := kB_ qa hb; replace qb := kB_ qb hb; replace HB := bS_ HB hb; clear hb))
   replace qa := Aside0.mk (blk_drew qa.out); replace qb := Aside0.mk (blk_drew qb.out); replace HB := Aside0.mk (below_drew1 HB.out)
   refine start_ (n := 12) (S := fun w' => w'.cell? ⟨qh, 0, none⟩ = some (.slice A0_0 l0_0.length c0_0) ∧ w'.cell? ⟨qh, 1, none⟩ = some (.int .i64 a0_1) ∧ w'.cell? ⟨qh, 2, none⟩ = some (.bool false) ∧ w'.cell? ⟨qi, 0, none⟩ = some (.slice A1_0 l1_0.length c1_0) ∧ w'.cell? ⟨qi, 1, none⟩ = some (.int .i64 a1_1) ∧ w'.cell? ⟨qi, 2, none⟩ = some (.bool a1_2)) (ds := []) #[false, false, false, false, false, false, false, false, false, false, false, false] (by kernel_rfl) rfl rfl ⟨bc_ qa 0, bc_ qa 1, bc_ qa 2, bc_ qb 0, bc_ qb 1, bc_ qb 2⟩ (fun hHeld => ?_); refine with_tabW impl_CompareAtoms.tab6 impl_CompareAtoms.bits6 (fun HT_ HW_ => ?_)
   generalize Qb.drew = Qr at qa qb HB hHeld ⊢
   refine pX_ 0 (some 30) #[true, false, false, false, false, false, false, false, false, false, false, false] HT_ ?_
   refine pX_ 5 (some 35) #[true, false, false, false, false, true, false, false, false, false, false, false] HT_ ?_
   refine take_ (i := 1) (N := some 31) (v := ?_) (a' := ?_) #[true, true, false, false, false, true, false, false, false, false, false, false] rfl rfl (take_ofW HT_.out HW_.out (by kernel_rfl)) (fun _ _ _ h => h) (Or.inl ⟨by rfl, ?_⟩) hHeld ?_ ?_
   rotate_left
   ·
    rintro w' ⟨s0, s1, s2, s3, s4, s5⟩
    go_simp
    with_reducible rfl
   rotate_left
   ·
    simp only [Act.put, List.setIfInBounds_toArray, List.set_cons_zero, List.set_cons_succ, i64_w, i32_w]
    rfl
   refine take_ (i := 2) (N := some 32) (v := ?_) (a' := ?_) #[true, true, true, false, false, true, false, false, false, false, false, false] rfl rfl (take_ofW HT_.out HW_.out (by kernel_rfl)) (fun _ _ _ h => h) (Or.inl ⟨by rfl, ?_⟩) hHeld ?_ ?_
   rotate_left
   ·
    rintro w' ⟨s0, s1, s2, s3, s4, s5⟩
    go_simp
    with_reducible rfl
   rotate_left
   ·
    simp only [Act.put, List.setIfInBounds_toArray, List.set_cons_zero, List.set_cons_succ, i64_w, i32_w]
    rfl
   refine take_ (i := 6) (N := some 36) (v := ?_) (a' := ?_) #[true, true, true, false, false, true, true, false, false, false, false, false] rfl rfl (take_ofW HT_.out HW_.out (by kernel_rfl)) (fun _ _ _ h => h) (Or.inl ⟨by rfl, ?_⟩) hHeld ?_ ?_
   rotate_left
   ·
    rintro w' ⟨s0, s1, s2, s3, s4, s5⟩
    go_simp
    with_reducible rfl
   rotate_left
   ·
    simp only [Act.put, List.setIfInBounds_toArray, List.set_cons_zero, List.set_cons_succ, i64_w, i32_w]
    rfl
   refine take_ (i := 7) (N := some 37) (v := ?_) (a' := ?_) #[true, true, true, false, false, true, true, true, false, false, false, false] rfl rfl (take_ofW HT_.out HW_.out (by kernel_rfl)) (fun _ _ _ h => h) (Or.inl ⟨by rfl, ?_⟩) hHeld ?_ ?_
   rotate_left
   ·
    rintro w' ⟨s0, s1, s2, s3, s4, s5⟩
    go_simp
    with_reducible rfl
   rotate_left
   ·
    simp only [Act.put, List.setIfInBounds_toArray, List.set_cons_zero, List.set_cons_succ, i64_w, i32_w]
    rfl
   refine one_ (i := 3) (N := some 33) #[true, true, true, true, false, true, true, true, false, false, false, false] rfl rfl (one_of HT_.out (by kernel_rfl)) (by decide) (fun K hK => ?_)
   refine goes_ Tryd.func91 (by kernel_rfl) rfl #[.agg #[.slice A1_0 l1_0.length c1_0, .int .i64 a1_1, .bool a1_2]] (by rfl) rfl rfl (by (try simp only [List.map_toArray, List.map_cons, List.map_nil]); first | done | rfl | (simp only [List.length_drop, List.length_take]; rfl)) ?_
   with_reducible refine (impl_directionDivisor.calls kj2 _ _ l1_0 a1_1 a1_2 qg _ ?side1 ?side2 A28.out).mono ?_
   (case side1 => exact cb_ qm HB)
   (case side2 => exact qn.out)
   rintro e Qs ⟨rfl, hb⟩
   refine ⟨_, rfl, ?_⟩
   replace qa := kB_ qa hb; replace qb := kB_ qb hb; replace HB := bS_ HB hb; (try clear hb); (try clear hb2); (try clear hk); (try clear hi)
   refine hK.out _ _ ⟨bc_ qa 0, bc_ qa 1, bc_ qa 2, bc_ qb 0, bc_ qb 1, bc_ qb 2⟩ (fun hHeld => ?_)
   clear hK K
   refine norm_ (a' := ?_) ?_ ?_
   rotate_left
   ·
    show Act.put _ (some 33) _ = _
    simp only [Act.put, List.setIfInBounds_toArray, List.set_cons_zero, List.set_cons_succ, i64_w, i32_w]
    rfl
   refine pX_ 4 (some 34) #[true, true, true, true, true, true, true, true, false, false, false, false] HT_ ?_
   refine one_ (i := 8) (N := some 38) #[true, true, true, true, true, true, true, true, true, false, false, false] rfl rfl (one_of HT_.out (by kernel_rfl)) (by decide) (fun K hK => ?_)
   refine goes_ Tryd.func91 (by kernel_rfl) rfl #[.agg #[.slice A0_0 l0_0.length c0_0, .int .i64 a0_1, .bool false]] (by rfl) rfl rfl (by (try simp only [List.map_toArray, List.map_cons, List.map_nil]); first | done | rfl | (simp only [List.length_drop, List.length_take]; rfl)) ?_
   with_reducible refine (impl_directionDivisor.calls kj2 _ _ l0_0 a0_1 false qf _ ?side1 ?side2 A29.out).mono ?_
   (case side1 => exact cb_ qj HB)
   (case side2 => exact qk.out)
   rintro e Qt ⟨rfl, hb⟩
   refine ⟨_, rfl, ?_⟩
   replace qa := kB_ qa hb; replace qb := kB_ qb hb; replace HB := bS_ HB hb; (try clear hb); (try clear hb2); (try clear hk); (try clear hi)
   refine hK.out _ _ ⟨bc_ qa 0, bc_ qa 1, bc_ qa 2, bc_ qb 0, bc_ qb 1, bc_ qb 2⟩ (fun hHeld => ?_)
   clear hK K
   refine norm_ (a' := ?_) ?_ ?_
   rotate_left
   ·
    show Act.put _ (some 38) _ = _
    simp only [Act.put, List.setIfInBounds_toArray, List.set_cons_zero, List.set_cons_succ, i64_w, i32_w]
    rfl
   refine pX_ 9 (some 39) #[true, true, true, true, true, true, true, true, true, true, false, false] HT_ ?_
   refine one_ (i := 10) (N := some 40) #[true, true, true, true, true, true, true, true, true, true, true, false] rfl rfl (one_of HT_.out (by kernel_rfl)) (by decide) (fun K hK => ?_)
   refine goes_ Tryd.func90 (by kernel_rfl) rfl #[.int .i64 (wrap64 (a0_1 * qg)), .int .i64 (wrap64 (a1_1 * qf))] (by rfl) rfl rfl (by (try simp only [List.map_toArray, List.map_cons, List.map_nil]); first | done | rfl | (simp only [List.length_drop, List.length_take]; rfl)) ?_
   with_reducible refine (impl_sign.calls (wrap64 (a0_1 * qg)) (wrap64 (a1_1 * qf)) qe _ A30.out).mono ?_
   rintro e w' ⟨rfl, ⟨nd, rfl⟩⟩
   refine ⟨_, rfl, ?_⟩
   refine hK.out _ _ ⟨bc_ qa 0, bc_ qa 1, bc_ qa 2, bc_ qb 0, bc_ qb 1, bc_ qb 2⟩ (fun hHeld => ?_)
   clear hK K
   refine norm_ (a' := ?_) ?_ ?_
   rotate_left
   ·
    show Act.put _ (some 40) _ = _
    simp only [Act.put, List.setIfInBounds_toArray, List.set_cons_zero, List.set_cons_succ, i64_w, i32_w]
    rfl
   refine pX_ 11 (some 6) #[true, true, true, true, true, true, true, true, true, true, true, true] HT_ ?_
   refine done_ (done_of HT_.out (by kernel_rfl)) ?_
   obtain ⟨jA, jB, jC, jD, jE, jF⟩ := b3_ qa
   obtain ⟨jG, jH, jI, jJ, jK, jL⟩ := b3_ qb
   try go_wp2
   go_ret
   exact ⟨by first | rfl | (simp [errW_none, errW_some] <;> rfl) | (simp [*, errW_none, errW_some] <;> rfl), bb_ HB⟩

end Go.Proofs.YtohoibekddhneaaDoor.PFnAtoms
