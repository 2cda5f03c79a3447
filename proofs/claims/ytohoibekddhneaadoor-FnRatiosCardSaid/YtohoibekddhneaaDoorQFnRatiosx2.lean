/- The functions that the law FnRatios reaches, each as a Lean function with the same answers, and the proof that the call comes to exactly these: turned by program out of the printed texts. No condition but those that each theorem names. -/
import Derived.Test.YtohoibekddhneaaDoorQFnRatiosx0
import Derived.Test.YtohoibekddhneaaDoorQFnRatiosx1
namespace Go.Proofs.YtohoibekddhneaaDoor.PFnRatios
open Go.RowKit Go.Proofs.YtohoibekddhneaaDoorW.PrintWords Go.Proofs.YtohoibekddhneaaDoorW.PrintLast Go.Proofs.YtohoibekddhneaaDoorW.PrintMore
attribute [local go_sem] max2_int min2_int max_two min_two max_three min_three max_four min_four   -- for this text's walks alone
set_option linter.unusedVariables false
set_option linter.unusedSimpArgs false
attribute [local go_sem high] eqA46

/-! ### impl_DivideRatios: function 34 -/
def impl_DivideRatios.f (k : Nat) (a0_0 : Int) (a0_1 : Int) (a1_0 : Int) (a1_1 : Int) : Option (Int × Int) := (impl_IsRatio.f k a0_0 a0_1).bind fun qo => (if qo = true then ((impl_IsRatio.f k a1_0 a1_1).bind fun qn => (if qn = true then (if a1_0 = 0 then (some (0, 0)) else ((impl_reducedRatio.f k (wrap64 (a0_0 * a1_1)) (wrap64 (a0_1 * a1_0))).bind fun qm => (some (qm.1, qm.2)))) else (some (0, 0)))) else (some (0, 0)))
theorem impl_DivideRatios.mono : ∀ a0 a1 a2 a3 k, LeO (impl_DivideRatios.f k a0 a1 a2 a3) (impl_DivideRatios.f (k + 1) a0 a1 a2 a3) := by
 intro a0 a1 a2 a3 k
 unfold impl_DivideRatios.f
 repeat' first
   | (with_reducible exact impl_IsRatio.mono _ _ _)
   | (with_reducible exact impl_reducedRatio.mono _ _ _)
   | (with_reducible exact LeO.refl _)
   | (with_reducible exact LeO.none _)
   | (with_reducible refine LeO.ite ?_ ?_)
   | (with_reducible refine LeO.bind ?_ (fun _ => ?_))
   | exact impl_IsRatio.mono _ _ _
   | exact impl_reducedRatio.mono _ _ _
   | exact LeO.none _
   | refine LeO.ite ?_ ?_
   | refine LeO.bind ?_ (fun _ => ?_)
set_option maxHeartbeats 8000000 in
set_option maxRecDepth 100000 in
theorem impl_DivideRatios.calls (k : Nat) (a0_0 : Int) (a0_1 : Int) (a1_0 : Int) (a1_1 : Int) (r1 : Int) (r2 : Int) (w : World) (h : impl_DivideRatios.f k a0_0 a0_1 a1_0 a1_1 = some (r1, r2)) :
  Calls Tryd.prog 34 #[.agg #[.int .i64 a0_0, .int .i64 a0_1], .agg #[.int .i64 a1_0, .int .i64 a1_1]] w fun e w' => e = .returned (.agg #[.int .i64 r1, .int .i64 r2]) ∧ Below w.heap.size w w' := by
 have hu46 := Tryd.underlying46
 have HB := Aside0.mk (Below.refl w.heap.size w)
 have H : ((impl_IsRatio.f k a0_0 a0_1).bind fun qo => (if qo = true then ((impl_IsRatio.f k a1_0 a1_1).bind fun qn => (if qn = true then (if a1_0 = 0 then (some (0, 0)) else ((impl_reducedRatio.f k (wrap64 (a0_0 * a1_1)) (wrap64 (a0_1 * a1_0))).bind fun qm => (some (qm.1, qm.2)))) else (some (0, 0)))) else (some (0, 0)))) = some (r1, r2) := h
 clear h
 replace H := Option.bind_eq_some_iff.mp H
 obtain ⟨qo, A30, H⟩ := H
 replace H : (if qo = true then ((impl_IsRatio.f k a1_0 a1_1).bind fun qn => (if qn = true then (if a1_0 = 0 then (some (0, 0)) else ((impl_reducedRatio.f k (wrap64 (a0_0 * a1_1)) (wrap64 (a0_1 * a1_0))).bind fun qm => (some (qm.1, qm.2)))) else (some (0, 0)))) else (some (0, 0))) = some (r1, r2) := H
 have A3 := Aside0.mk A30
 clear A30
 by_cases c4 : qo = true
 ·
  subst c4
  have H1 : ((impl_IsRatio.f k a1_0 a1_1).bind fun qn => (if qn = true then (if a1_0 = 0 then (some (0, 0)) else ((impl_reducedRatio.f k (wrap64 (a0_0 * a1_1)) (wrap64 (a0_1 * a1_0))).bind fun qm => (some (qm.1, qm.2)))) else (some (0, 0)))) = some (r1, r2) := by rw [if_pos rfl] at H; exact H
  clear H
  have H := H1
  clear H1
  replace H := Option.bind_eq_some_iff.mp H
  obtain ⟨qn, A50, H⟩ := H
  replace H : (if qn = true then (if a1_0 = 0 then (some (0, 0)) else ((impl_reducedRatio.f k (wrap64 (a0_0 * a1_1)) (wrap64 (a0_1 * a1_0))).bind fun qm => (some (qm.1, qm.2)))) else (some (0, 0))) = some (r1, r2) := H
  have A5 := Aside0.mk A50
  clear A50
  by_cases c6 : qn = true
  ·
   subst c6
   have H1 : (if a1_0 = 0 then (some (0, 0)) else ((impl_reducedRatio.f k (wrap64 (a0_0 * a1_1)) (wrap64 (a0_1 * a1_0))).bind fun qm => (some (qm.1, qm.2)))) = some (r1, r2) := by rw [if_pos rfl] at H; exact H
   clear H
   have H := H1
   clear H1
   by_cases c7 : a1_0 = 0
   ·
    rw [if_pos c7] at H
    have zt : (a1_0 == 0) = true := beq_iff_eq.mpr c7
    have zu : (a1_0 != 0) = false := bne_eq_false_iff_eq.mpr c7
    clear c7
    simp only [Option.some.injEq, Prod.mk.injEq] at H
    obtain ⟨rfl, rfl⟩ := H
    go_enter Tryd.func34, Tryd.ntmps34
    go_wp2_with (first | ((with_reducible refine gate_dst (N := 2) rfl ?_); refine box_event ?hg (N := 2) ?hd (cs := #[.int .i64 a0_0, .int .i64 a0_1]) (t := 46) ?hr ?_; (case hd => rfl); (case hg => rfl); (case hr => first | (go_simp; done) | (go_simp; rfl)); intro qe hg w8 hbox hb; have qa := Aside0.mk (hbox); have qp := Aside0.mk ((by rw [hg]; exact (bz_ HB) : w.heap.size ≤ qe)); have qq := Aside0.mk ((by rw [hg]; exact (bz_ HB) : w.heap.size ≤ qe)); replace HB := bS_ HB hb; clear hb hbox hg) | ((with_reducible refine gate_dst (N := 3) rfl ?_); refine box_event ?hg (N := 3) ?hd (cs := #[.int .i64 a1_0, .int .i64 a1_1]) (t := 46) ?hr ?_; (case hd => rfl); (case hg => rfl); (case hr => first | (go_simp; done) | (go_simp; rfl)); intro qf hg w9 hbox hb; have qb := Aside0.mk (hbox); have qr := Aside0.mk ((by rw [hg]; exact (bz_ HB) : w.heap.size ≤ qf)); have qs := Aside0.mk ((by rw [hg]; exact (bz_ HB) : w.heap.size ≤ qf)); replace HB := bS_ HB hb; have qg := Aside0.mk ((nl_ qa hg : qe ≠ qf)); have qh := Aside0.mk ((ng_ qa hg : qf ≠ qe)); replace qa := kB_ qa hb; clear hb hbox hg) | ((with_reducible refine gate_dst (N := 4) rfl ?_); refine box_event ?hg (N := 4) ?hd (cs := #[.int .i64 0, .int .i64 0]) (t := 46) ?hr ?_; (case hd => rfl); (case hg => rfl); (case hr => first | (go_simp; done) | (go_simp; rfl)); intro qc hg zv hbox hb; have qd := Aside0.mk (hbox); have qt := Aside0.mk ((by rw [hg]; exact (bz_ HB) : w.heap.size ≤ qc)); have qu := Aside0.mk ((by rw [hg]; exact (bz_ HB) : w.heap.size ≤ qc)); replace HB := bS_ HB hb; have qi := Aside0.mk ((nl_ qa hg : qe ≠ qc)); have qj := Aside0.mk ((ng_ qa hg : qc ≠ qe)); replace qa := kB_ qa hb; have qk := Aside0.mk ((nl_ qb hg : qf ≠ qc)); have ql := Aside0.mk ((ng_ qb hg : qc ≠ qf)); replace qb := kB_ qb hb; clear hb hbox hg; have zw := qg.out; have zx := qh.out; have zy := qi.out; have zz := qj.out; have qx : zv.cell? ⟨qe, 0, none⟩ = some (.int .i64 a0_0) := bc_ qa 0; have qy : zv.cell? ⟨qe, 1, none⟩ = some (.int .i64 a0_1) := bc_ qa 1; have qz := blk_frozen qa.out 0; have qA := blk_frozen qa.out 1) | ((with_reducible refine gate_callee (f := 72) rfl ?_); refine goesL_ (some 6) rfl rfl Tryd.func72 (by kernel_rfl) rfl #[.agg #[.int .i64 a0_0, .int .i64 a0_1]] rfl (by (try simp only [List.map_toArray, List.map_cons, List.map_nil]); first | done | rfl | (simp only [List.length_drop, List.length_take]; rfl)) ?_; (with_reducible refine (impl_IsRatio.calls k a0_0 a0_1 true _ A3.out).mono ?_); rintro e zA ⟨rfl, hb⟩; refine ⟨_, rfl, ?_⟩; replace qa := kB_ qa hb; replace qb := kB_ qb hb; replace qd := kB_ qd hb; replace HB := bS_ HB hb; (try clear hb); (try clear hb2); (try clear hk); (try clear hi); have zB := qk.out; have zC := ql.out; have qB : zA.cell? ⟨qf, 0, none⟩ = some (.int .i64 a1_0) := bc_ qb 0; have qC : zA.cell? ⟨qf, 1, none⟩ = some (.int .i64 a1_1) := bc_ qb 1; have qD := blk_frozen qb.out 0; have qE := blk_frozen qb.out 1) | (go_at_call 72; (with_reducible refine (impl_IsRatio.calls k a1_0 a1_1 true _ A5.out).mono ?_); rintro e qF ⟨rfl, hb⟩; replace qa := kB_ qa hb; replace qb := kB_ qb hb; replace qd := kB_ qd hb; replace HB := bS_ HB hb; (try clear hb); (try clear hb2); (try clear hk); (try clear hi); have qG : qF.cell? ⟨qf, 0, none⟩ = some (.int .i64 a1_0) := bc_ qb 0; have qH : qF.cell? ⟨qf, 1, none⟩ = some (.int .i64 a1_1) := bc_ qb 1; have qI := blk_frozen qb.out 0; have qJ := blk_frozen qb.out 1; have qK : qF.cell? ⟨qc, 0, none⟩ = some (.int .i64 0) := bc_ qd 0; have qL : qF.cell? ⟨qc, 1, none⟩ = some (.int .i64 0) := bc_ qd 1; have qM := blk_frozen qd.out 0; have qN := blk_frozen qd.out 1))
    refine bodyPost_ret (results_cell_row rfl _ _ qc 46 #[.int .i64 0, .int .i64 0] (0, 0) _ rfl (by (with_reducible repeat (first | refine blk_drewN ?_ _ | refine blk_drew ?_ | refine blk_alloc ?_ _)); refine blk_put (cs := #[.int .i64 0, .int .i64 0]) ?_ 1 _ rfl; (with_reducible repeat (first | refine blk_drewN ?_ _ | refine blk_drew ?_ | refine blk_alloc ?_ _)); refine blk_put (cs := #[.int .i64 0, .int .i64 0]) ?_ 0 _ rfl; (with_reducible repeat (first | refine blk_drewN ?_ _ | refine blk_drew ?_ | refine blk_alloc ?_ _)); exact qd.out) Tryd.underlying46 rfl (by kernel_rfl)) rfl ?_
    exact ⟨by first | rfl | (simp [errW_none, errW_some] <;> rfl) | (simp [*, errW_none, errW_some] <;> rfl), bb_ HB⟩
   ·
    rw [if_neg c7] at H
    have zt : (a1_0 == 0) = false := beq_eq_false_iff_ne.mpr c7
    have zu : (a1_0 != 0) = true := bne_iff_ne.mpr c7
    replace H := Option.bind_eq_some_iff.mp H
    obtain ⟨⟨qv, qw⟩, A200, H⟩ := H
    replace H : (some (qv, qw)) = some (r1, r2) := H
    have A20 := Aside0.mk A200
    clear A200
    simp only [Option.some.injEq, Prod.mk.injEq] at H
    obtain ⟨rfl, rfl⟩ := H
    go_enter Tryd.func34, Tryd.ntmps34
    go_wp2_with (first | ((with_reducible refine gate_dst (N := 2) rfl ?_); refine box_event ?hg (N := 2) ?hd (cs := #[.int .i64 a0_0, .int .i64 a0_1]) (t := 46) ?hr ?_; (case hd => rfl); (case hg => rfl); (case hr => first | (go_simp; done) | (go_simp; rfl)); intro qe hg z3 hbox hb; have qa := Aside0.mk (hbox); have qp := Aside0.mk ((by rw [hg]; exact (bz_ HB) : w.heap.size ≤ qe)); have qq := Aside0.mk ((by rw [hg]; exact (bz_ HB) : w.heap.size ≤ qe)); replace HB := bS_ HB hb; clear hb hbox hg) | ((with_reducible refine gate_dst (N := 3) rfl ?_); refine box_event ?hg (N := 3) ?hd (cs := #[.int .i64 a1_0, .int .i64 a1_1]) (t := 46) ?hr ?_; (case hd => rfl); (case hg => rfl); (case hr => first | (go_simp; done) | (go_simp; rfl)); intro qf hg z4 hbox hb; have qb := Aside0.mk (hbox); have qr := Aside0.mk ((by rw [hg]; exact (bz_ HB) : w.heap.size ≤ qf)); have qs := Aside0.mk ((by rw [hg]; exact (bz_ HB) : w.heap.size ≤ qf)); replace HB := bS_ HB hb; have qg := Aside0.mk ((nl_ qa hg : qe ≠ qf)); have qh := Aside0.mk ((ng_ qa hg : qf ≠ qe)); replace qa := kB_ qa hb; clear hb hbox hg) | ((with_reducible refine gate_dst (N := 4) rfl ?_); refine box_event ?hg (N := 4) ?hd (cs := #[.int .i64 0, .int .i64 0]) (t := 46) ?hr ?_; (case hd => rfl); (case hg => rfl); (case hr => first | (go_simp; done) | (go_simp; rfl)); intro qc hg zD hbox hb; have qd := Aside0.mk (hbox); have qt := Aside0.mk ((by rw [hg]; exact (bz_ HB) : w.heap.size ≤ qc)); have qu := Aside0.mk ((by rw [hg]; exact (bz_ HB) : w.heap.size ≤ qc)); replace HB := bS_ HB hb; have qi := Aside0.mk ((nl_ qa hg : qe ≠ qc)); have qj := Aside0.mk ((ng_ qa hg : qc ≠ qe)); replace qa := kB_ qa hb; have qk := Aside0.mk ((nl_ qb hg : qf ≠ qc)); have ql := Aside0.mk ((ng_ qb hg : qc ≠ qf)); replace qb := kB_ qb hb; clear hb hbox hg; have zE := qg.out; have zF := qh.out; have zG := qi.out; have zH := qj.out; have qO : zD.cell? ⟨qe, 0, none⟩ = some (.int .i64 a0_0) := bc_ qa 0; have qP : zD.cell? ⟨qe, 1, none⟩ = some (.int .i64 a0_1) := bc_ qa 1; have qQ := blk_frozen qa.out 0; have qR := blk_frozen qa.out 1) | ((with_reducible refine gate_callee (f := 72) rfl ?_); refine goesL_ (some 6) rfl rfl Tryd.func72 (by kernel_rfl) rfl #[.agg #[.int .i64 a0_0, .int .i64 a0_1]] rfl (by (try simp only [List.map_toArray, List.map_cons, List.map_nil]); first | done | rfl | (simp only [List.length_drop, List.length_take]; rfl)) ?_; (with_reducible refine (impl_IsRatio.calls k a0_0 a0_1 true _ A3.out).mono ?_); rintro e zI ⟨rfl, hb⟩; refine ⟨_, rfl, ?_⟩; replace qa := kB_ qa hb; replace qb := kB_ qb hb; replace qd := kB_ qd hb; replace HB := bS_ HB hb; (try clear hb); (try clear hb2); (try clear hk); (try clear hi); have zJ := qk.out; have zK := ql.out; have qS : zI.cell? ⟨qf, 0, none⟩ = some (.int .i64 a1_0) := bc_ qb 0; have qT : zI.cell? ⟨qf, 1, none⟩ = some (.int .i64 a1_1) := bc_ qb 1; have qU := blk_frozen qb.out 0; have qV := blk_frozen qb.out 1) | (go_at_call 72; (with_reducible refine (impl_IsRatio.calls k a1_0 a1_1 true _ A5.out).mono ?_); rintro e qW ⟨rfl, hb⟩; replace qa := kB_ qa hb; replace qb := kB_ qb hb; replace qd := kB_ qd hb; replace HB := bS_ HB hb; (try clear hb); (try clear hb2); (try clear hk); (try clear hi); have qX : qW.cell? ⟨qf, 0, none⟩ = some (.int .i64 a1_0) := bc_ qb 0; have qY : qW.cell? ⟨qf, 1, none⟩ = some (.int .i64 a1_1) := bc_ qb 1; have qZ := blk_frozen qb.out 0; have q0 := blk_frozen qb.out 1; have q1 : qW.cell? ⟨qe, 0, none⟩ = some (.int .i64 a0_0) := bc_ qa 0; have q2 : qW.cell? ⟨qe, 1, none⟩ = some (.int .i64 a0_1) := bc_ qa 1; have q3 := blk_frozen qa.out 0; have q4 := blk_frozen qa.out 1) | ((with_reducible refine gate_callee (f := 79) rfl ?_); refine goesL_ (some 29) rfl rfl Tryd.func79 (by kernel_rfl) rfl #[.int .i64 (wrap64 (a0_0 * a1_1)), .int .i64 (wrap64 (a0_1 * a1_0))] rfl (by (try simp only [List.map_toArray, List.map_cons, List.map_nil]); first | done | rfl | (simp only [List.length_drop, List.length_take]; rfl)) ?_; (with_reducible refine (impl_reducedRatio.calls k (wrap64 (a0_0 * a1_1)) (wrap64 (a0_1 * a1_0)) qv qw _ A20.out).mono ?_); rintro e zL ⟨rfl, hb⟩; refine ⟨_, rfl, ?_⟩; replace qa := kB_ qa hb; replace qb := kB_ qb hb; replace qd := kB_ qd hb; replace HB := bS_ HB hb; (try clear hb); (try clear hb2); (try clear hk); (try clear hi); have q5 : zL.cell? ⟨qc, 0, none⟩ = some (.int .i64 0) := bc_ qd 0; have q6 : zL.cell? ⟨qc, 1, none⟩ = some (.int .i64 0) := bc_ qd 1; have q7 := blk_frozen qd.out 0; have q8 := blk_frozen qd.out 1))
    refine bodyPost_ret (results_cell_row rfl _ _ qc 46 #[.int .i64 qv, .int .i64 qw] (0, 0) _ rfl (by (with_reducible repeat (first | refine blk_drewN ?_ _ | refine blk_drew ?_ | refine blk_alloc ?_ _)); refine blk_put (cs := #[.int .i64 qv, .int .i64 0]) ?_ 1 _ rfl; (with_reducible repeat (first | refine blk_drewN ?_ _ | refine blk_drew ?_ | refine blk_alloc ?_ _)); refine blk_put (cs := #[.int .i64 0, .int .i64 0]) ?_ 0 _ rfl; (with_reducible repeat (first | refine blk_drewN ?_ _ | refine blk_drew ?_ | refine blk_alloc ?_ _)); exact qd.out) Tryd.underlying46 rfl (by kernel_rfl)) rfl ?_
    exact ⟨by first | rfl | (simp [errW_none, errW_some] <;> rfl) | (simp [*, errW_none, errW_some] <;> rfl), bb_ HB⟩
  ·
   replace c6 := Bool.eq_false_iff.mpr c6
   subst c6
   have H1 : (some (0, 0)) = some (r1, r2) := by rw [if_neg (show ¬ (false = true) by decide)] at H; exact H
   clear H
   have H := H1
   clear H1
   simp only [Option.some.injEq, Prod.mk.injEq] at H
   obtain ⟨rfl, rfl⟩ := H
   go_enter Tryd.func34, Tryd.ntmps34
   go_wp2_with (first | ((with_reducible refine gate_dst (N := 2) rfl ?_); refine box_event ?hg (N := 2) ?hd (cs := #[.int .i64 a0_0, .int .i64 a0_1]) (t := 46) ?hr ?_; (case hd => rfl); (case hg => rfl); (case hr => first | (go_simp; done) | (go_simp; rfl)); intro qe hg z5 hbox hb; have qa := Aside0.mk (hbox); have qp := Aside0.mk ((by rw [hg]; exact (bz_ HB) : w.heap.size ≤ qe)); have qq := Aside0.mk ((by rw [hg]; exact (bz_ HB) : w.heap.size ≤ qe)); replace HB := bS_ HB hb; clear hb hbox hg) | ((with_reducible refine gate_dst (N := 3) rfl ?_); refine box_event ?hg (N := 3) ?hd (cs := #[.int .i64 a1_0, .int .i64 a1_1]) (t := 46) ?hr ?_; (case hd => rfl); (case hg => rfl); (case hr => first | (go_simp; done) | (go_simp; rfl)); intro qf hg z6 hbox hb; have qb := Aside0.mk (hbox); have qr := Aside0.mk ((by rw [hg]; exact (bz_ HB) : w.heap.size ≤ qf)); have qs := Aside0.mk ((by rw [hg]; exact (bz_ HB) : w.heap.size ≤ qf)); replace HB := bS_ HB hb; have qg := Aside0.mk ((nl_ qa hg : qe ≠ qf)); have qh := Aside0.mk ((ng_ qa hg : qf ≠ qe)); replace qa := kB_ qa hb; clear hb hbox hg) | ((with_reducible refine gate_dst (N := 4) rfl ?_); refine box_event ?hg (N := 4) ?hd (cs := #[.int .i64 0, .int .i64 0]) (t := 46) ?hr ?_; (case hd => rfl); (case hg => rfl); (case hr => first | (go_simp; done) | (go_simp; rfl)); intro qc hg zM hbox hb; have qd := Aside0.mk (hbox); have qt := Aside0.mk ((by rw [hg]; exact (bz_ HB) : w.heap.size ≤ qc)); have qu := Aside0.mk ((by rw [hg]; exact (bz_ HB) : w.heap.size ≤ qc)); replace HB := bS_ HB hb; have qi := Aside0.mk ((nl_ qa hg : qe ≠ qc)); have qj := Aside0.mk ((ng_ qa hg : qc ≠ qe)); replace qa := kB_ qa hb; have qk := Aside0.mk ((nl_ qb hg : qf ≠ qc)); have ql := Aside0.mk ((ng_ qb hg : qc ≠ qf)); replace qb := kB_ qb hb; clear hb hbox hg; have zN := qg.out; have zO := qh.out; have zP := qi.out; have zQ := qj.out; have q9 : zM.cell? ⟨qe, 0, none⟩ = some (.int .i64 a0_0) := bc_ qa 0; have za : zM.cell? ⟨qe, 1, none⟩ = some (.int .i64 a0_1) := bc_ qa 1; have zb := blk_frozen qa.out 0; have zc := blk_frozen qa.out 1) | ((with_reducible refine gate_callee (f := 72) rfl ?_); refine goesL_ (some 6) rfl rfl Tryd.func72 (by kernel_rfl) rfl #[.agg #[.int .i64 a0_0, .int .i64 a0_1]] rfl (by (try simp only [List.map_toArray, List.map_cons, List.map_nil]); first | done | rfl | (simp only [List.length_drop, List.length_take]; rfl)) ?_; (with_reducible refine (impl_IsRatio.calls k a0_0 a0_1 true _ A3.out).mono ?_); rintro e zR ⟨rfl, hb⟩; refine ⟨_, rfl, ?_⟩; replace qa := kB_ qa hb; replace qb := kB_ qb hb; replace qd := kB_ qd hb; replace HB := bS_ HB hb; (try clear hb); (try clear hb2); (try clear hk); (try clear hi); have zS := qk.out; have zT := ql.out; have zd : zR.cell? ⟨qf, 0, none⟩ = some (.int .i64 a1_0) := bc_ qb 0; have ze : zR.cell? ⟨qf, 1, none⟩ = some (.int .i64 a1_1) := bc_ qb 1; have zf := blk_frozen qb.out 0; have zg := blk_frozen qb.out 1) | (go_at_call 72; (with_reducible refine (impl_IsRatio.calls k a1_0 a1_1 false _ A5.out).mono ?_); rintro e zU ⟨rfl, hb⟩; replace qa := kB_ qa hb; replace qb := kB_ qb hb; replace qd := kB_ qd hb; replace HB := bS_ HB hb; (try clear hb); (try clear hb2); (try clear hk); (try clear hi); have zh : zU.cell? ⟨qc, 0, none⟩ = some (.int .i64 0) := bc_ qd 0; have zi : zU.cell? ⟨qc, 1, none⟩ = some (.int .i64 0) := bc_ qd 1; have zj := blk_frozen qd.out 0; have zk := blk_frozen qd.out 1))
   refine bodyPost_ret (results_cell_row rfl _ _ qc 46 #[.int .i64 0, .int .i64 0] (0, 0) _ rfl (by (with_reducible repeat (first | refine blk_drewN ?_ _ | refine blk_drew ?_ | refine blk_alloc ?_ _)); refine blk_put (cs := #[.int .i64 0, .int .i64 0]) ?_ 1 _ rfl; (with_reducible repeat (first | refine blk_drewN ?_ _ | refine blk_drew ?_ | refine blk_alloc ?_ _)); refine blk_put (cs := #[.int .i64 0, .int .i64 0]) ?_ 0 _ rfl; (with_reducible repeat (first | refine blk_drewN ?_ _ | refine blk_drew ?_ | refine blk_alloc ?_ _)); exact qd.out) Tryd.underlying46 rfl (by kernel_rfl)) rfl ?_
   exact ⟨by first | rfl | (simp [errW_none, errW_some] <;> rfl) | (simp [*, errW_none, errW_some] <;> rfl), bb_ HB⟩
 ·
  replace c4 := Bool.eq_false_iff.mpr c4
  subst c4
  have H1 : (some (0, 0)) = some (r1, r2) := by rw [if_neg (show ¬ (false = true) by decide)] at H; exact H
  clear H
  have H := H1
  clear H1
  simp only [Option.some.injEq, Prod.mk.injEq] at H
  obtain ⟨rfl, rfl⟩ := H
  go_enter Tryd.func34, Tryd.ntmps34
  go_wp2_with (first | ((with_reducible refine gate_dst (N := 2) rfl ?_); refine box_event ?hg (N := 2) ?hd (cs := #[.int .i64 a0_0, .int .i64 a0_1]) (t := 46) ?hr ?_; (case hd => rfl); (case hg => rfl); (case hr => first | (go_simp; done) | (go_simp; rfl)); intro qe hg z7 hbox hb; have qa := Aside0.mk (hbox); have qp := Aside0.mk ((by rw [hg]; exact (bz_ HB) : w.heap.size ≤ qe)); have qq := Aside0.mk ((by rw [hg]; exact (bz_ HB) : w.heap.size ≤ qe)); replace HB := bS_ HB hb; clear hb hbox hg) | ((with_reducible refine gate_dst (N := 3) rfl ?_); refine box_event ?hg (N := 3) ?hd (cs := #[.int .i64 a1_0, .int .i64 a1_1]) (t := 46) ?hr ?_; (case hd => rfl); (case hg => rfl); (case hr => first | (go_simp; done) | (go_simp; rfl)); intro qf hg z8 hbox hb; have qb := Aside0.mk (hbox); have qr := Aside0.mk ((by rw [hg]; exact (bz_ HB) : w.heap.size ≤ qf)); have qs := Aside0.mk ((by rw [hg]; exact (bz_ HB) : w.heap.size ≤ qf)); replace HB := bS_ HB hb; have qg := Aside0.mk ((nl_ qa hg : qe ≠ qf)); have qh := Aside0.mk ((ng_ qa hg : qf ≠ qe)); replace qa := kB_ qa hb; clear hb hbox hg) | ((with_reducible refine gate_dst (N := 4) rfl ?_); refine box_event ?hg (N := 4) ?hd (cs := #[.int .i64 0, .int .i64 0]) (t := 46) ?hr ?_; (case hd => rfl); (case hg => rfl); (case hr => first | (go_simp; done) | (go_simp; rfl)); intro qc hg zV hbox hb; have qd := Aside0.mk (hbox); have qt := Aside0.mk ((by rw [hg]; exact (bz_ HB) : w.heap.size ≤ qc)); have qu := Aside0.mk ((by rw [hg]; exact (bz_ HB) : w.heap.size ≤ qc)); replace HB := bS_ HB hb; have qi := Aside0.mk ((nl_ qa hg : qe ≠ qc)); have qj := Aside0.mk ((ng_ qa hg : qc ≠ qe)); replace qa := kB_ qa hb; have qk := Aside0.mk ((nl_ qb hg : qf ≠ qc)); have ql := Aside0.mk ((ng_ qb hg : qc ≠ qf)); replace qb := kB_ qb hb; clear hb hbox hg; have zW := qg.out; have zX := qh.out; have zY := qi.out; have zZ := qj.out; have zl : zV.cell? ⟨qe, 0, none⟩ = some (.int .i64 a0_0) := bc_ qa 0; have zm : zV.cell? ⟨qe, 1, none⟩ = some (.int .i64 a0_1) := bc_ qa 1; have zn := blk_frozen qa.out 0; have zo := blk_frozen qa.out 1) | ((with_reducible refine gate_callee (f := 72) rfl ?_); refine goesL_ (some 6) rfl rfl Tryd.func72 (by kernel_rfl) rfl #[.agg #[.int .i64 a0_0, .int .i64 a0_1]] rfl (by (try simp only [List.map_toArray, List.map_cons, List.map_nil]); first | done | rfl | (simp only [List.length_drop, List.length_take]; rfl)) ?_; (with_reducible refine (impl_IsRatio.calls k a0_0 a0_1 false _ A3.out).mono ?_); rintro e z0 ⟨rfl, hb⟩; refine ⟨_, rfl, ?_⟩; replace qa := kB_ qa hb; replace qb := kB_ qb hb; replace qd := kB_ qd hb; replace HB := bS_ HB hb; (try clear hb); (try clear hb2); (try clear hk); (try clear hi); have z1 := ql.out; have z2 := qk.out; have zp : z0.cell? ⟨qc, 0, none⟩ = some (.int .i64 0) := bc_ qd 0; have zq : z0.cell? ⟨qc, 1, none⟩ = some (.int .i64 0) := bc_ qd 1; have zr := blk_frozen qd.out 0; have zs := blk_frozen qd.out 1))
  refine bodyPost_ret (results_cell_row rfl _ _ qc 46 #[.int .i64 0, .int .i64 0] (0, 0) _ rfl (by (with_reducible repeat (first | refine blk_drewN ?_ _ | refine blk_drew ?_ | refine blk_alloc ?_ _)); refine blk_put (cs := #[.int .i64 0, .int .i64 0]) ?_ 1 _ rfl; (with_reducible repeat (first | refine blk_drewN ?_ _ | refine blk_drew ?_ | refine blk_alloc ?_ _)); refine blk_put (cs := #[.int .i64 0, .int .i64 0]) ?_ 0 _ rfl; (with_reducible repeat (first | refine blk_drewN ?_ _ | refine blk_drew ?_ | refine blk_alloc ?_ _)); exact qd.out) Tryd.underlying46 rfl (by kernel_rfl)) rfl ?_
  exact ⟨by first | rfl | (simp [errW_none, errW_some] <;> rfl) | (simp [*, errW_none, errW_some] <;> rfl), bb_ HB⟩

/-! ### impl_MultiplyRatios: function 35 -/
def impl_MultiplyRatios.f (k : Nat) (a0_0 : Int) (a0_1 : Int) (a1_0 : Int) (a1_1 : Int) : Option (Int × Int) := (impl_IsRatio.f k a0_0 a0_1).bind fun qo => (if qo = true then ((impl_IsRatio.f k a1_0 a1_1).bind fun qn => (if qn = true then ((impl_reducedRatio.f k (wrap64 (a0_0 * a1_0)) (wrap64 (a0_1 * a1_1))).bind fun qg => (some (qg.1, qg.2))) else (some (0, 0)))) else (some (0, 0)))
theorem impl_MultiplyRatios.mono : ∀ a0 a1 a2 a3 k, LeO (impl_MultiplyRatios.f k a0 a1 a2 a3) (impl_MultiplyRatios.f (k + 1) a0 a1 a2 a3) := by
 intro a0 a1 a2 a3 k
 unfold impl_MultiplyRatios.f
 repeat' first
   | (with_reducible exact impl_IsRatio.mono _ _ _)
   | (with_reducible exact impl_reducedRatio.mono _ _ _)
   | (with_reducible exact LeO.refl _)
   | (with_reducible exact LeO.none _)
   | (with_reducible refine LeO.ite ?_ ?_)
   | (with_reducible refine LeO.bind ?_ (fun _ => ?_))
   | exact impl_IsRatio.mono _ _ _
   | exact impl_reducedRatio.mono _ _ _
   | exact LeO.none _
   | refine LeO.ite ?_ ?_
   | refine LeO.bind ?_ (fun _ => ?_)
set_option maxHeartbeats 8000000 in
set_option maxRecDepth 100000 in
theorem impl_MultiplyRatios.calls (k : Nat) (a0_0 : Int) (a0_1 : Int) (a1_0 : Int) (a1_1 : Int) (r1 : Int) (r2 : Int) (w : World) (h : impl_MultiplyRatios.f k a0_0 a0_1 a1_0 a1_1 = some (r1, r2)) :
  Calls Tryd.prog 35 #[.agg #[.int .i64 a0_0, .int .i64 a0_1], .agg #[.int .i64 a1_0, .int .i64 a1_1]] w fun e w' => e = .returned (.agg #[.int .i64 r1, .int .i64 r2]) ∧ Below w.heap.size w w' := by
 have hu46 := Tryd.underlying46
 have HB := Aside0.mk (Below.refl w.heap.size w)
 have H : ((impl_IsRatio.f k a0_0 a0_1).bind fun qo => (if qo = true then ((impl_IsRatio.f k a1_0 a1_1).bind fun qn => (if qn = true then ((impl_reducedRatio.f k (wrap64 (a0_0 * a1_0)) (wrap64 (a0_1 * a1_1))).bind fun qg => (some (qg.1, qg.2))) else (some (0, 0)))) else (some (0, 0)))) = some (r1, r2) := h
 clear h
 replace H := Option.bind_eq_some_iff.mp H
 obtain ⟨qo, A30, H⟩ := H
 replace H : (if qo = true then ((impl_IsRatio.f k a1_0 a1_1).bind fun qn => (if qn = true then ((impl_reducedRatio.f k (wrap64 (a0_0 * a1_0)) (wrap64 (a0_1 * a1_1))).bind fun qg => (some (qg.1, qg.2))) else (some (0, 0)))) else (some (0, 0))) = some (r1, r2) := H
 have A3 := Aside0.mk A30
 clear A30
 by_cases c4 : qo = true
 ·
  subst c4
  have H1 : ((impl_IsRatio.f k a1_0 a1_1).bind fun qn => (if qn = true then ((impl_reducedRatio.f k (wrap64 (a0_0 * a1_0)) (wrap64 (a0_1 * a1_1))).bind fun qg => (some (qg.1, qg.2))) else (some (0, 0)))) = some (r1, r2) := by rw [if_pos rfl] at H; exact H
  clear H
  have H := H1
  clear H1
  replace H := Option.bind_eq_some_iff.mp H
  obtain ⟨qn, A50, H⟩ := H
  replace H : (if qn = true then ((impl_reducedRatio.f k (wrap64 (a0_0 * a1_0)) (wrap64 (a0_1 * a1_1))).bind fun qg => (some (qg.1, qg.2))) else (some (0, 0))) = some (r1, r2) := H
  have A5 := Aside0.mk A50
  clear A50
  by_cases c6 : qn = true
  ·
   subst c6
   have H1 : ((impl_reducedRatio.f k (wrap64 (a0_0 * a1_0)) (wrap64 (a0_1 * a1_1))).bind fun qg => (some (qg.1, qg.2))) = some (r1, r2) := by rw [if_pos rfl] at H; exact H
   clear H
   have H := H1
   clear H1
   replace H := Option.bind_eq_some_iff.mp H
   obtain ⟨⟨qp, qw⟩, A70, H⟩ := H
   replace H : (some (qp, qw)) = some (r1, r2) := H
   have A7 := Aside0.mk A70
   clear A70
   simp only [Option.some.injEq, Prod.mk.injEq] at H
   obtain ⟨rfl, rfl⟩ := H
   go_enter Tryd.func35, Tryd.ntmps35
   go_wp2_with (first | ((with_reducible refine gate_dst (N := 2) rfl ?_); refine box_event ?hg (N := 2) ?hd (cs := #[.int .i64 a0_0, .int .i64 a0_1]) (t := 46) ?hr ?_; (case hd => rfl); (case hg => rfl); (case hr => first | (go_simp; done) | (go_simp; rfl)); intro qe hg w8 hbox hb; have qa := Aside0.mk (hbox); have qq := Aside0.mk ((by rw [hg]; exact (bz_ HB) : w.heap.size ≤ qe)); have qr := Aside0.mk ((by rw [hg]; exact (bz_ HB) : w.heap.size ≤ qe)); replace HB := bS_ HB hb; clear hb hbox hg) | ((with_reducible refine gate_dst (N := 3) rfl ?_); refine box_event ?hg (N := 3) ?hd (cs := #[.int .i64 a1_0, .int .i64 a1_1]) (t := 46) ?hr ?_; (case hd => rfl); (case hg => rfl); (case hr => first | (go_simp; done) | (go_simp; rfl)); intro qf hg w9 hbox hb; have qb := Aside0.mk (hbox); have qs := Aside0.mk ((by rw [hg]; exact (bz_ HB) : w.heap.size ≤ qf)); have qt := Aside0.mk ((by rw [hg]; exact (bz_ HB) : w.heap.size ≤ qf)); replace HB := bS_ HB hb; have qh := Aside0.mk ((nl_ qa hg : qe ≠ qf)); have qi := Aside0.mk ((ng_ qa hg : qf ≠ qe)); replace qa := kB_ qa hb; clear hb hbox hg) | ((with_reducible refine gate_dst (N := 4) rfl ?_); refine box_event ?hg (N := 4) ?hd (cs := #[.int .i64 0, .int .i64 0]) (t := 46) ?hr ?_; (case hd => rfl); (case hg => rfl); (case hr => first | (go_simp; done) | (go_simp; rfl)); intro qc hg zc hbox hb; have qd := Aside0.mk (hbox); have qu := Aside0.mk ((by rw [hg]; exact (bz_ HB) : w.heap.size ≤ qc)); have qv := Aside0.mk ((by rw [hg]; exact (bz_ HB) : w.heap.size ≤ qc)); replace HB := bS_ HB hb; have qj := Aside0.mk ((nl_ qa hg : qe ≠ qc)); have qk := Aside0.mk ((ng_ qa hg : qc ≠ qe)); replace qa := kB_ qa hb; have ql := Aside0.mk ((nl_ qb hg : qf ≠ qc)); have qm := Aside0.mk ((ng_ qb hg : qc ≠ qf)); replace qb := kB_ qb hb; clear hb hbox hg; have zd := qh.out; have ze := qi.out; have zf := qj.out; have zg := qk.out; have qx : zc.cell? ⟨qe, 0, none⟩ = some (.int .i64 a0_0) := bc_ qa 0; have qy : zc.cell? ⟨qe, 1, none⟩ = some (.int .i64 a0_1) := bc_ qa 1; have qz := blk_frozen qa.out 0; have qA := blk_frozen qa.out 1) | ((with_reducible refine gate_callee (f := 72) rfl ?_); refine goesL_ (some 6) rfl rfl Tryd.func72 (by kernel_rfl) rfl #[.agg #[.int .i64 a0_0, .int .i64 a0_1]] rfl (by (try simp only [List.map_toArray, List.map_cons, List.map_nil]); first | done | rfl | (simp only [List.length_drop, List.length_take]; rfl)) ?_; (with_reducible refine (impl_IsRatio.calls k a0_0 a0_1 true _ A3.out).mono ?_); rintro e zh ⟨rfl, hb⟩; refine ⟨_, rfl, ?_⟩; replace qa := kB_ qa hb; replace qb := kB_ qb hb; replace qd := kB_ qd hb; replace HB := bS_ HB hb; (try clear hb); (try clear hb2); (try clear hk); (try clear hi); have zi := ql.out; have zj := qm.out; have qB : zh.cell? ⟨qf, 0, none⟩ = some (.int .i64 a1_0) := bc_ qb 0; have qC : zh.cell? ⟨qf, 1, none⟩ = some (.int .i64 a1_1) := bc_ qb 1; have qD := blk_frozen qb.out 0; have qE := blk_frozen qb.out 1) | (go_at_call 72; (with_reducible refine (impl_IsRatio.calls k a1_0 a1_1 true _ A5.out).mono ?_); rintro e qF ⟨rfl, hb⟩; replace qa := kB_ qa hb; replace qb := kB_ qb hb; replace qd := kB_ qd hb; replace HB := bS_ HB hb; (try clear hb); (try clear hb2); (try clear hk); (try clear hi); have qG : qF.cell? ⟨qe, 0, none⟩ = some (.int .i64 a0_0) := bc_ qa 0; have qH : qF.cell? ⟨qe, 1, none⟩ = some (.int .i64 a0_1) := bc_ qa 1; have qI := blk_frozen qa.out 0; have qJ := blk_frozen qa.out 1; have qK : qF.cell? ⟨qf, 0, none⟩ = some (.int .i64 a1_0) := bc_ qb 0; have qL : qF.cell? ⟨qf, 1, none⟩ = some (.int .i64 a1_1) := bc_ qb 1; have qM := blk_frozen qb.out 0; have qN := blk_frozen qb.out 1) | ((with_reducible refine gate_callee (f := 79) rfl ?_); refine goesL_ (some 24) rfl rfl Tryd.func79 (by kernel_rfl) rfl #[.int .i64 (wrap64 (a0_0 * a1_0)), .int .i64 (wrap64 (a0_1 * a1_1))] rfl (by (try simp only [List.map_toArray, List.map_cons, List.map_nil]); first | done | rfl | (simp only [List.length_drop, List.length_take]; rfl)) ?_; (with_reducible refine (impl_reducedRatio.calls k (wrap64 (a0_0 * a1_0)) (wrap64 (a0_1 * a1_1)) qp qw _ A7.out).mono ?_); rintro e zk ⟨rfl, hb⟩; refine ⟨_, rfl, ?_⟩; replace qa := kB_ qa hb; replace qb := kB_ qb hb; replace qd := kB_ qd hb; replace HB := bS_ HB hb; (try clear hb); (try clear hb2); (try clear hk); (try clear hi); have qO : zk.cell? ⟨qc, 0, none⟩ = some (.int .i64 0) := bc_ qd 0; have qP : zk.cell? ⟨qc, 1, none⟩ = some (.int .i64 0) := bc_ qd 1; have qQ := blk_frozen qd.out 0; have qR := blk_frozen qd.out 1))
   refine bodyPost_ret (results_cell_row rfl _ _ qc 46 #[.int .i64 qp, .int .i64 qw] (0, 0) _ rfl (by (with_reducible repeat (first | refine blk_drewN ?_ _ | refine blk_drew ?_ | refine blk_alloc ?_ _)); refine blk_put (cs := #[.int .i64 qp, .int .i64 0]) ?_ 1 _ rfl; (with_reducible repeat (first | refine blk_drewN ?_ _ | refine blk_drew ?_ | refine blk_alloc ?_ _)); refine blk_put (cs := #[.int .i64 0, .int .i64 0]) ?_ 0 _ rfl; (with_reducible repeat (first | refine blk_drewN ?_ _ | refine blk_drew ?_ | refine blk_alloc ?_ _)); exact qd.out) Tryd.underlying46 rfl (by kernel_rfl)) rfl ?_
   exact ⟨by first | rfl | (simp [errW_none, errW_some] <;> rfl) | (simp [*, errW_none, errW_some] <;> rfl), bb_ HB⟩
  ·
   replace c6 := Bool.eq_false_iff.mpr c6
   subst c6
   have H1 : (some (0, 0)) = some (r1, r2) := by rw [if_neg (show ¬ (false = true) by decide)] at H; exact H
   clear H
   have H := H1
   clear H1
   simp only [Option.some.injEq, Prod.mk.injEq] at H
   obtain ⟨rfl, rfl⟩ := H
   go_enter Tryd.func35, Tryd.ntmps35
   go_wp2_with (first | ((with_reducible refine gate_dst (N := 2) rfl ?_); refine box_event ?hg (N := 2) ?hd (cs := #[.int .i64 a0_0, .int .i64 a0_1]) (t := 46) ?hr ?_; (case hd => rfl); (case hg => rfl); (case hr => first | (go_simp; done) | (go_simp; rfl)); intro qe hg zC hbox hb; have qa := Aside0.mk (hbox); have qq := Aside0.mk ((by rw [hg]; exact (bz_ HB) : w.heap.size ≤ qe)); have qr := Aside0.mk ((by rw [hg]; exact (bz_ HB) : w.heap.size ≤ qe)); replace HB := bS_ HB hb; clear hb hbox hg) | ((with_reducible refine gate_dst (N := 3) rfl ?_); refine box_event ?hg (N := 3) ?hd (cs := #[.int .i64 a1_0, .int .i64 a1_1]) (t := 46) ?hr ?_; (case hd => rfl); (case hg => rfl); (case hr => first | (go_simp; done) | (go_simp; rfl)); intro qf hg zD hbox hb; have qb := Aside0.mk (hbox); have qs := Aside0.mk ((by rw [hg]; exact (bz_ HB) : w.heap.size ≤ qf)); have qt := Aside0.mk ((by rw [hg]; exact (bz_ HB) : w.heap.size ≤ qf)); replace HB := bS_ HB hb; have qh := Aside0.mk ((nl_ qa hg : qe ≠ qf)); have qi := Aside0.mk ((ng_ qa hg : qf ≠ qe)); replace qa := kB_ qa hb; clear hb hbox hg) | ((with_reducible refine gate_dst (N := 4) rfl ?_); refine box_event ?hg (N := 4) ?hd (cs := #[.int .i64 0, .int .i64 0]) (t := 46) ?hr ?_; (case hd => rfl); (case hg => rfl); (case hr => first | (go_simp; done) | (go_simp; rfl)); intro qc hg zl hbox hb; have qd := Aside0.mk (hbox); have qu := Aside0.mk ((by rw [hg]; exact (bz_ HB) : w.heap.size ≤ qc)); have qv := Aside0.mk ((by rw [hg]; exact (bz_ HB) : w.heap.size ≤ qc)); replace HB := bS_ HB hb; have qj := Aside0.mk ((nl_ qa hg : qe ≠ qc)); have qk := Aside0.mk ((ng_ qa hg : qc ≠ qe)); replace qa := kB_ qa hb; have ql := Aside0.mk ((nl_ qb hg : qf ≠ qc)); have qm := Aside0.mk ((ng_ qb hg : qc ≠ qf)); replace qb := kB_ qb hb; clear hb hbox hg; have zm := qh.out; have zn := qi.out; have zo := qj.out; have zp := qk.out; have qS : zl.cell? ⟨qe, 0, none⟩ = some (.int .i64 a0_0) := bc_ qa 0; have qT : zl.cell? ⟨qe, 1, none⟩ = some (.int .i64 a0_1) := bc_ qa 1; have qU := blk_frozen qa.out 0; have qV := blk_frozen qa.out 1) | ((with_reducible refine gate_callee (f := 72) rfl ?_); refine goesL_ (some 6) rfl rfl Tryd.func72 (by kernel_rfl) rfl #[.agg #[.int .i64 a0_0, .int .i64 a0_1]] rfl (by (try simp only [List.map_toArray, List.map_cons, List.map_nil]); first | done | rfl | (simp only [List.length_drop, List.length_take]; rfl)) ?_; (with_reducible refine (impl_IsRatio.calls k a0_0 a0_1 true _ A3.out).mono ?_); rintro e zq ⟨rfl, hb⟩; refine ⟨_, rfl, ?_⟩; replace qa := kB_ qa hb; replace qb := kB_ qb hb; replace qd := kB_ qd hb; replace HB := bS_ HB hb; (try clear hb); (try clear hb2); (try clear hk); (try clear hi); have zr := ql.out; have zs := qm.out; have qW : zq.cell? ⟨qf, 0, none⟩ = some (.int .i64 a1_0) := bc_ qb 0; have qX : zq.cell? ⟨qf, 1, none⟩ = some (.int .i64 a1_1) := bc_ qb 1; have qY := blk_frozen qb.out 0; have qZ := blk_frozen qb.out 1) | (go_at_call 72; (with_reducible refine (impl_IsRatio.calls k a1_0 a1_1 false _ A5.out).mono ?_); rintro e zt ⟨rfl, hb⟩; replace qa := kB_ qa hb; replace qb := kB_ qb hb; replace qd := kB_ qd hb; replace HB := bS_ HB hb; (try clear hb); (try clear hb2); (try clear hk); (try clear hi); have q0 : zt.cell? ⟨qc, 0, none⟩ = some (.int .i64 0) := bc_ qd 0; have q1 : zt.cell? ⟨qc, 1, none⟩ = some (.int .i64 0) := bc_ qd 1; have q2 := blk_frozen qd.out 0; have q3 := blk_frozen qd.out 1))
   refine bodyPost_ret (results_cell_row rfl _ _ qc 46 #[.int .i64 0, .int .i64 0] (0, 0) _ rfl (by (with_reducible repeat (first | refine blk_drewN ?_ _ | refine blk_drew ?_ | refine blk_alloc ?_ _)); refine blk_put (cs := #[.int .i64 0, .int .i64 0]) ?_ 1 _ rfl; (with_reducible repeat (first | refine blk_drewN ?_ _ | refine blk_drew ?_ | refine blk_alloc ?_ _)); refine blk_put (cs := #[.int .i64 0, .int .i64 0]) ?_ 0 _ rfl; (with_reducible repeat (first | refine blk_drewN ?_ _ | refine blk_drew ?_ | refine blk_alloc ?_ _)); exact qd.out) Tryd.underlying46 rfl (by kernel_rfl)) rfl ?_
   exact ⟨by first | rfl | (simp [errW_none, errW_some] <;> rfl) | (simp [*, errW_none, errW_some] <;> rfl), bb_ HB⟩
 ·
  replace c4 := Bool.eq_false_iff.mpr c4
  subst c4
  have H1 : (some (0, 0)) = some (r1, r2) := by rw [if_neg (show ¬ (false = true) by decide)] at H; exact H
  clear H
  have H := H1
  clear H1
  simp only [Option.some.injEq, Prod.mk.injEq] at H
  obtain ⟨rfl, rfl⟩ := H
  go_enter Tryd.func35, Tryd.ntmps35
  go_wp2_with (first | ((with_reducible refine gate_dst (N := 2) rfl ?_); refine box_event ?hg (N := 2) ?hd (cs := #[.int .i64 a0_0, .int .i64 a0_1]) (t := 46) ?hr ?_; (case hd => rfl); (case hg => rfl); (case hr => first | (go_simp; done) | (go_simp; rfl)); intro qe hg zE hbox hb; have qa := Aside0.mk (hbox); have qq := Aside0.mk ((by rw [hg]; exact (bz_ HB) : w.heap.size ≤ qe)); have qr := Aside0.mk ((by rw [hg]; exact (bz_ HB) : w.heap.size ≤ qe)); replace HB := bS_ HB hb; clear hb hbox hg) | ((with_reducible refine gate_dst (N := 3) rfl ?_); refine box_event ?hg (N := 3) ?hd (cs := #[.int .i64 a1_0, .int .i64 a1_1]) (t := 46) ?hr ?_; (case hd => rfl); (case hg => rfl); (case hr => first | (go_simp; done) | (go_simp; rfl)); intro qf hg zF hbox hb; have qb := Aside0.mk (hbox); have qs := Aside0.mk ((by rw [hg]; exact (bz_ HB) : w.heap.size ≤ qf)); have qt := Aside0.mk ((by rw [hg]; exact (bz_ HB) : w.heap.size ≤ qf)); replace HB := bS_ HB hb; have qh := Aside0.mk ((nl_ qa hg : qe ≠ qf)); have qi := Aside0.mk ((ng_ qa hg : qf ≠ qe)); replace qa := kB_ qa hb; clear hb hbox hg) | ((with_reducible refine gate_dst (N := 4) rfl ?_); refine box_event ?hg (N := 4) ?hd (cs := #[.int .i64 0, .int .i64 0]) (t := 46) ?hr ?_; (case hd => rfl); (case hg => rfl); (case hr => first | (go_simp; done) | (go_simp; rfl)); intro qc hg zu hbox hb; have qd := Aside0.mk (hbox); have qu := Aside0.mk ((by rw [hg]; exact (bz_ HB) : w.heap.size ≤ qc)); have qv := Aside0.mk ((by rw [hg]; exact (bz_ HB) : w.heap.size ≤ qc)); replace HB := bS_ HB hb; have qj := Aside0.mk ((nl_ qa hg : qe ≠ qc)); have qk := Aside0.mk ((ng_ qa hg : qc ≠ qe)); replace qa := kB_ qa hb; have ql := Aside0.mk ((nl_ qb hg : qf ≠ qc)); have qm := Aside0.mk ((ng_ qb hg : qc ≠ qf)); replace qb := kB_ qb hb; clear hb hbox hg; have zv := qh.out; have zw := qi.out; have zx := qj.out; have zy := qk.out; have q4 : zu.cell? ⟨qe, 0, none⟩ = some (.int .i64 a0_0) := bc_ qa 0; have q5 : zu.cell? ⟨qe, 1, none⟩ = some (.int .i64 a0_1) := bc_ qa 1; have q6 := blk_frozen qa.out 0; have q7 := blk_frozen qa.out 1) | ((with_reducible refine gate_callee (f := 72) rfl ?_); refine goesL_ (some 6) rfl rfl Tryd.func72 (by kernel_rfl) rfl #[.agg #[.int .i64 a0_0, .int .i64 a0_1]] rfl (by (try simp only [List.map_toArray, List.map_cons, List.map_nil]); first | done | rfl | (simp only [List.length_drop, List.length_take]; rfl)) ?_; (with_reducible refine (impl_IsRatio.calls k a0_0 a0_1 false _ A3.out).mono ?_); rintro e zz ⟨rfl, hb⟩; refine ⟨_, rfl, ?_⟩; replace qa := kB_ qa hb; replace qb := kB_ qb hb; replace qd := kB_ qd hb; replace HB := bS_ HB hb; (try clear hb); (try clear hb2); (try clear hk); (try clear hi); have zA := qm.out; have zB := ql.out; have q8 : zz.cell? ⟨qc, 0, none⟩ = some (.int .i64 0) := bc_ qd 0; have q9 : zz.cell? ⟨qc, 1, none⟩ = some (.int .i64 0) := bc_ qd 1; have za := blk_frozen qd.out 0; have zb := blk_frozen qd.out 1))
  refine bodyPost_ret (results_cell_row rfl _ _ qc 46 #[.int .i64 0, .int .i64 0] (0, 0) _ rfl (by (with_reducible repeat (first | refine blk_drewN ?_ _ | refine blk_drew ?_ | refine blk_alloc ?_ _)); refine blk_put (cs := #[.int .i64 0, .int .i64 0]) ?_ 1 _ rfl; (with_reducible repeat (first | refine blk_drewN ?_ _ | refine blk_drew ?_ | refine blk_alloc ?_ _)); refine blk_put (cs := #[.int .i64 0, .int .i64 0]) ?_ 0 _ rfl; (with_reducible repeat (first | refine blk_drewN ?_ _ | refine blk_drew ?_ | refine blk_alloc ?_ _)); exact qd.out) Tryd.underlying46 rfl (by kernel_rfl)) rfl ?_
  exact ⟨by first | rfl | (simp [errW_none, errW_some] <;> rfl) | (simp [*, errW_none, errW_some] <;> rfl), bb_ HB⟩

/-! ### impl_NegateRatio: function 37 -/
def impl_NegateRatio.f (k : Nat) (a0_0 : Int) (a0_1 : Int) : Option (Int × Int) := (impl_IsRatio.f k a0_0 a0_1).bind fun qg => (if qg = true then (some (wrap64 (-a0_0), a0_1)) else (some (0, 0)))
theorem impl_NegateRatio.mono : ∀ a0 a1 k, LeO (impl_NegateRatio.f k a0 a1) (impl_NegateRatio.f (k + 1) a0 a1) := by
 intro a0 a1 k
 unfold impl_NegateRatio.f
 repeat' first
   | (with_reducible exact impl_IsRatio.mono _ _ _)
   | (with_reducible exact LeO.refl _)
   | (with_reducible exact LeO.none _)
   | (with_reducible refine LeO.ite ?_ ?_)
   | (with_reducible refine LeO.bind ?_ (fun _ => ?_))
   | exact impl_IsRatio.mono _ _ _
   | exact LeO.none _
   | refine LeO.ite ?_ ?_
   | refine LeO.bind ?_ (fun _ => ?_)
set_option maxHeartbeats 8000000 in
set_option maxRecDepth 100000 in
theorem impl_NegateRatio.calls (k : Nat) (a0_0 : Int) (a0_1 : Int) (r1 : Int) (r2 : Int) (w : World) (h : impl_NegateRatio.f k a0_0 a0_1 = some (r1, r2)) :
  Calls Tryd.prog 37 #[.agg #[.int .i64 a0_0, .int .i64 a0_1]] w fun e w' => e = .returned (.agg #[.int .i64 r1, .int .i64 r2]) ∧ Below w.heap.size w w' := by
 have hu46 := Tryd.underlying46
 have HB := Aside0.mk (Below.refl w.heap.size w)
 have H : ((impl_IsRatio.f k a0_0 a0_1).bind fun qg => (if qg = true then (some (wrap64 (-a0_0), a0_1)) else (some (0, 0)))) = some (r1, r2) := h
 clear h
 replace H := Option.bind_eq_some_iff.mp H
 obtain ⟨qg, A20, H⟩ := H
 replace H : (if qg = true then (some (wrap64 (-a0_0), a0_1)) else (some (0, 0))) = some (r1, r2) := H
 have A2 := Aside0.mk A20
 clear A20
 by_cases c3 : qg = true
 ·
  subst c3
  have H1 : (some (wrap64 (-a0_0), a0_1)) = some (r1, r2) := by rw [if_pos rfl] at H; exact H
  clear H
  have H := H1
  clear H1
  simp only [Option.some.injEq, Prod.mk.injEq] at H
  obtain ⟨rfl, rfl⟩ := H
  go_enter Tryd.func37, Tryd.ntmps37
  go_wp2_with (first | ((with_reducible refine gate_dst (N := 1) rfl ?_); refine box_event ?hg (N := 1) ?hd (cs := #[.int .i64 a0_0, .int .i64 a0_1]) (t := 46) ?hr ?_; (case hd => rfl); (case hg => rfl); (case hr => first | (go_simp; done) | (go_simp; rfl)); intro qb hg w4 hbox hb; have qa := Aside0.mk (hbox); have qh := Aside0.mk ((by rw [hg]; exact (bz_ HB) : w.heap.size ≤ qb)); have qi := Aside0.mk ((by rw [hg]; exact (bz_ HB) : w.heap.size ≤ qb)); replace HB := bS_ HB hb; clear hb hbox hg) | ((with_reducible refine gate_dst (N := 2) rfl ?_); refine box_event ?hg (N := 2) ?hd (cs := #[.int .i64 0, .int .i64 0]) (t := 46) ?hr ?_; (case hd => rfl); (case hg => rfl); (case hr => first | (go_simp; done) | (go_simp; rfl)); intro qc hg w5 hbox hb; have qd := Aside0.mk (hbox); have qj := Aside0.mk ((by rw [hg]; exact (bz_ HB) : w.heap.size ≤ qc)); have qk := Aside0.mk ((by rw [hg]; exact (bz_ HB) : w.heap.size ≤ qc)); replace HB := bS_ HB hb; have qe := Aside0.mk ((nl_ qa hg : qb ≠ qc)); have qf := Aside0.mk ((ng_ qa hg : qc ≠ qb)); replace qa := kB_ qa hb; clear hb hbox hg; have qJ := qe.out; have qK := qf.out; have qx : w5.cell? ⟨qb, 0, none⟩ = some (.int .i64 a0_0) := bc_ qa 0; have qy : w5.cell? ⟨qb, 1, none⟩ = some (.int .i64 a0_1) := bc_ qa 1; have qz := blk_frozen qa.out 0; have qA := blk_frozen qa.out 1) | ((with_reducible refine gate_callee (f := 72) rfl ?_); refine goesL_ (some 4) rfl rfl Tryd.func72 (by kernel_rfl) rfl #[.agg #[.int .i64 a0_0, .int .i64 a0_1]] rfl (by (try simp only [List.map_toArray, List.map_cons, List.map_nil]); first | done | rfl | (simp only [List.length_drop, List.length_take]; rfl)) ?_; (with_reducible refine (impl_IsRatio.calls k a0_0 a0_1 true _ A2.out).mono ?_); rintro e w8 ⟨rfl, hb⟩; refine ⟨_, rfl, ?_⟩; replace qa := kB_ qa hb; replace qd := kB_ qd hb; replace HB := bS_ HB hb; (try clear hb); (try clear hb2); (try clear hk); (try clear hi); have qB : w8.cell? ⟨qb, 0, none⟩ = some (.int .i64 a0_0) := bc_ qa 0; have qC : w8.cell? ⟨qb, 1, none⟩ = some (.int .i64 a0_1) := bc_ qa 1; have qD := blk_frozen qa.out 0; have qE := blk_frozen qa.out 1; have ql : w8.cell? ⟨qc, 0, none⟩ = some (.int .i64 0) := bc_ qd 0; have qm : w8.cell? ⟨qc, 1, none⟩ = some (.int .i64 0) := bc_ qd 1; have qn := blk_frozen qd.out 0; have qo := blk_frozen qd.out 1))
  refine bodyPost_ret (results_cell_row rfl _ _ qc 46 #[.int .i64 (wrap64 (-a0_0)), .int .i64 a0_1] (0, 0) _ rfl (by (with_reducible repeat (first | refine blk_drewN ?_ _ | refine blk_drew ?_ | refine blk_alloc ?_ _)); refine blk_put (cs := #[.int .i64 (wrap64 (-a0_0)), .int .i64 0]) ?_ 1 _ rfl; (with_reducible repeat (first | refine blk_drewN ?_ _ | refine blk_drew ?_ | refine blk_alloc ?_ _)); refine blk_put (cs := #[.int .i64 0, .int .i64 0]) ?_ 0 _ rfl; (with_reducible repeat (first | refine blk_drewN ?_ _ | refine blk_drew ?_ | refine blk_alloc ?_ _)); exact qd.out) Tryd.underlying46 rfl (by kernel_rfl)) rfl ?_
  exact ⟨by first | rfl | (simp [errW_none, errW_some] <;> rfl) | (simp [*, errW_none, errW_some] <;> rfl), bb_ HB⟩
 ·
  replace c3 := Bool.eq_false_iff.mpr c3
  subst c3
  have H1 : (some (0, 0)) = some (r1, r2) := by rw [if_neg (show ¬ (false = true) by decide)] at H; exact H
  clear H
  have H := H1
  clear H1
  simp only [Option.some.injEq, Prod.mk.injEq] at H
  obtain ⟨rfl, rfl⟩ := H
  go_enter Tryd.func37, Tryd.ntmps37
  go_wp2_with (first | ((with_reducible refine gate_dst (N := 1) rfl ?_); refine box_event ?hg (N := 1) ?hd (cs := #[.int .i64 a0_0, .int .i64 a0_1]) (t := 46) ?hr ?_; (case hd => rfl); (case hg => rfl); (case hr => first | (go_simp; done) | (go_simp; rfl)); intro qb hg qL hbox hb; have qa := Aside0.mk (hbox); have qh := Aside0.mk ((by rw [hg]; exact (bz_ HB) : w.heap.size ≤ qb)); have qi := Aside0.mk ((by rw [hg]; exact (bz_ HB) : w.heap.size ≤ qb)); replace HB := bS_ HB hb; clear hb hbox hg) | ((with_reducible refine gate_dst (N := 2) rfl ?_); refine box_event ?hg (N := 2) ?hd (cs := #[.int .i64 0, .int .i64 0]) (t := 46) ?hr ?_; (case hd => rfl); (case hg => rfl); (case hr => first | (go_simp; done) | (go_simp; rfl)); intro qc hg qF hbox hb; have qd := Aside0.mk (hbox); have qj := Aside0.mk ((by rw [hg]; exact (bz_ HB) : w.heap.size ≤ qc)); have qk := Aside0.mk ((by rw [hg]; exact (bz_ HB) : w.heap.size ≤ qc)); replace HB := bS_ HB hb; have qe := Aside0.mk ((nl_ qa hg : qb ≠ qc)); have qf := Aside0.mk ((ng_ qa hg : qc ≠ qb)); replace qa := kB_ qa hb; clear hb hbox hg; have qG := qe.out; have qH := qf.out; have qp : qF.cell? ⟨qb, 0, none⟩ = some (.int .i64 a0_0) := bc_ qa 0; have qq : qF.cell? ⟨qb, 1, none⟩ = some (.int .i64 a0_1) := bc_ qa 1; have qr := blk_frozen qa.out 0; have qs := blk_frozen qa.out 1) | ((with_reducible refine gate_callee (f := 72) rfl ?_); refine goesL_ (some 4) rfl rfl Tryd.func72 (by kernel_rfl) rfl #[.agg #[.int .i64 a0_0, .int .i64 a0_1]] rfl (by (try simp only [List.map_toArray, List.map_cons, List.map_nil]); first | done | rfl | (simp only [List.length_drop, List.length_take]; rfl)) ?_; (with_reducible refine (impl_IsRatio.calls k a0_0 a0_1 false _ A2.out).mono ?_); rintro e qI ⟨rfl, hb⟩; refine ⟨_, rfl, ?_⟩; replace qa := kB_ qa hb; replace qd := kB_ qd hb; replace HB := bS_ HB hb; (try clear hb); (try clear hb2); (try clear hk); (try clear hi); have qt : qI.cell? ⟨qc, 0, none⟩ = some (.int .i64 0) := bc_ qd 0; have qu : qI.cell? ⟨qc, 1, none⟩ = some (.int .i64 0) := bc_ qd 1; have qv := blk_frozen qd.out 0; have qw := blk_frozen qd.out 1))
  refine bodyPost_ret (results_cell_row rfl _ _ qc 46 #[.int .i64 0, .int .i64 0] (0, 0) _ rfl (by (with_reducible repeat (first | refine blk_drewN ?_ _ | refine blk_drew ?_ | refine blk_alloc ?_ _)); refine blk_put (cs := #[.int .i64 0, .int .i64 0]) ?_ 1 _ rfl; (with_reducible repeat (first | refine blk_drewN ?_ _ | refine blk_drew ?_ | refine blk_alloc ?_ _)); refine blk_put (cs := #[.int .i64 0, .int .i64 0]) ?_ 0 _ rfl; (with_reducible repeat (first | refine blk_drewN ?_ _ | refine blk_drew ?_ | refine blk_alloc ?_ _)); exact qd.out) Tryd.underlying46 rfl (by kernel_rfl)) rfl ?_
  exact ⟨by first | rfl | (simp [errW_none, errW_some] <;> rfl) | (simp [*, errW_none, errW_some] <;> rfl), bb_ HB⟩

/-! ### impl_FormatRatio: function 38 -/
def impl_FormatRatio.f (k : Nat) (a0_0 : Int) (a0_1 : Int) : Option (ByteArray) := (impl_IsRatio.f k a0_0 a0_1).bind fun qf => (if qf = true then (if a0_1 = 1 then ((impl_FormatInt.f a0_0).bind fun qe => (some qe)) else ((impl_FormatInt.f a0_0).bind fun qc => (if qc.size + 1 ≤ 9223372036854775807 then ((impl_FormatInt.f a0_1).bind fun qd => (if (qc ++ (⟨#[47]⟩ : ByteArray)).size + qd.size ≤ 9223372036854775807 then (some ((qc ++ (⟨#[47]⟩ : ByteArray)) ++ qd)) else (none))) else (none)))) else (some (⟨#[110, 111, 110, 101]⟩ : ByteArray)))
theorem impl_FormatRatio.mono : ∀ a0 a1 k, LeO (impl_FormatRatio.f k a0 a1) (impl_FormatRatio.f (k + 1) a0 a1) := by
 intro a0 a1 k
 unfold impl_FormatRatio.f
 repeat' first
   | (with_reducible exact impl_IsRatio.mono _ _ _)
   | (with_reducible exact LeO.refl _)
   | (with_reducible exact LeO.none _)
   | (with_reducible refine LeO.ite ?_ ?_)
   | (with_reducible refine LeO.bind ?_ (fun _ => ?_))
   | exact impl_IsRatio.mono _ _ _
   | exact LeO.none _
   | refine LeO.ite ?_ ?_
   | refine LeO.bind ?_ (fun _ => ?_)
def impl_FormatRatio.T5 : Bool × List (List Nat × List Nat) := (true, [([], []), ([0], [0]), ([1], [1]), ([2], [2]), ([], []), ([4], [4]), ([5, 2], [5]), ([3, 6], [3, 6]), ([7, 6, 0, 1, 2, 3, 4, 5, 6, 7], [7])])
def impl_FormatRatio.B5 : List Nat := [0, 1, 3, 7, 0, 16, 55, 127, 255]
theorem impl_FormatRatio.tab5 : rtab .any (opsOf Tryd.f38 5) = impl_FormatRatio.T5 := by kernel_rfl
theorem impl_FormatRatio.bits5 : waitsOk impl_FormatRatio.T5.2 impl_FormatRatio.B5 = true := by kernel_rfl
set_option maxHeartbeats 8000000 in
set_option maxRecDepth 100000 in
theorem impl_FormatRatio.calls (k : Nat) (a0_0 : Int) (a0_1 : Int) (r : ByteArray) (w : World) (hL : LaidW w) (h : impl_FormatRatio.f k a0_0 a0_1 = some r) :
  Calls Tryd.prog 38 #[.agg #[.int .i64 a0_0, .int .i64 a0_1]] w fun e w' => e = .returned (.string r) ∧ Below w.heap.size w w' := by
 have HL_ := Aside0.mk hL
 clear hL
 have hu46 := Tryd.underlying46
 have HB := Aside0.mk (Below.refl w.heap.size w)
 have H : ((impl_IsRatio.f k a0_0 a0_1).bind fun qf => (if qf = true then (if a0_1 = 1 then ((impl_FormatInt.f a0_0).bind fun qe => (some qe)) else ((impl_FormatInt.f a0_0).bind fun qc => (if qc.size + 1 ≤ 9223372036854775807 then ((impl_FormatInt.f a0_1).bind fun qd => (if (qc ++ (⟨#[47]⟩ : ByteArray)).size + qd.size ≤ 9223372036854775807 then (some ((qc ++ (⟨#[47]⟩ : ByteArray)) ++ qd)) else (none))) else (none)))) else (some (⟨#[110, 111, 110, 101]⟩ : ByteArray)))) = some r := h
 clear h
 replace H := Option.bind_eq_some_iff.mp H
 obtain ⟨qf, A20, H⟩ := H
 replace H : (if qf = true then (if a0_1 = 1 then ((impl_FormatInt.f a0_0).bind fun qe => (some qe)) else ((impl_FormatInt.f a0_0).bind fun qc => (if qc.size + 1 ≤ 9223372036854775807 then ((impl_FormatInt.f a0_1).bind fun qd => (if (qc ++ (⟨#[47]⟩ : ByteArray)).size + qd.size ≤ 9223372036854775807 then (some ((qc ++ (⟨#[47]⟩ : ByteArray)) ++ qd)) else (none))) else (none)))) else (some (⟨#[110, 111, 110, 101]⟩ : ByteArray))) = some r := H
 have A2 := Aside0.mk A20
 clear A20
 by_cases c3 : qf = true
 ·
  subst c3
  have H1 : (if a0_1 = 1 then ((impl_FormatInt.f a0_0).bind fun qe => (some qe)) else ((impl_FormatInt.f a0_0).bind fun qc => (if qc.size + 1 ≤ 9223372036854775807 then ((impl_FormatInt.f a0_1).bind fun qd => (if (qc ++ (⟨#[47]⟩ : ByteArray)).size + qd.size ≤ 9223372036854775807 then (some ((qc ++ (⟨#[47]⟩ : ByteArray)) ++ qd)) else (none))) else (none)))) = some r := by rw [if_pos rfl] at H; exact H
  clear H
  have H := H1
  clear H1
  by_cases c4 : a0_1 = 1
  ·
   rw [if_pos c4] at H
   have qw : (a0_1 == 1) = true := beq_iff_eq.mpr c4
   have qx : (a0_1 != 1) = false := bne_eq_false_iff_eq.mpr c4
   clear c4
   replace H := Option.bind_eq_some_iff.mp H
   obtain ⟨qe, A50, H⟩ := H
   replace H : (some qe) = some r := H
   have A5 := Aside0.mk A50
   clear A50
   obtain rfl := Option.some.inj H
   go_enter Tryd.func38, Tryd.ntmps38
   go_wp2_with (first | ((with_reducible refine gate_dst (N := 1) rfl ?_); refine box_event ?hg (N := 1) ?hd (cs := #[.int .i64 a0_0, .int .i64 a0_1]) (t := 46) ?hr ?_; (case hd => rfl); (case hg => rfl); (case hr => first | (go_simp; done) | (go_simp; rfl)); intro qb hg w6 hbox hb; have qa := Aside0.mk (hbox); have qg := Aside0.mk ((by rw [hg]; exact (bz_ HB) : w.heap.size ≤ qb)); have qh := Aside0.mk ((by rw [hg]; exact (bz_ HB) : w.heap.size ≤ qb)); replace HB := bS_ HB hb; clear hb hbox hg; have qy : w6.cell? ⟨qb, 0, none⟩ = some (.int .i64 a0_0) := bc_ qa 0; have qz : w6.cell? ⟨qb, 1, none⟩ = some (.int .i64 a0_1) := bc_ qa 1; have qA := blk_frozen qa.out 0; have qB := blk_frozen qa.out 1) | ((with_reducible refine gate_callee (f := 72) rfl ?_); refine goesL_ (some 4) rfl rfl Tryd.func72 (by kernel_rfl) rfl #[.agg #[.int .i64 a0_0, .int .i64 a0_1]] rfl (by (try simp only [List.map_toArray, List.map_cons, List.map_nil]); first | done | rfl | (simp only [List.length_drop, List.length_take]; rfl)) ?_; (with_reducible refine (impl_IsRatio.calls k a0_0 a0_1 true _ A2.out).mono ?_); rintro e w8 ⟨rfl, hb⟩; refine ⟨_, rfl, ?_⟩; replace qa := kB_ qa hb; replace HB := bS_ HB hb; (try clear hb); (try clear hb2); (try clear hk); (try clear hi); have qC : w8.cell? ⟨qb, 0, none⟩ = some (.int .i64 a0_0) := bc_ qa 0; have qD : w8.cell? ⟨qb, 1, none⟩ = some (.int .i64 a0_1) := bc_ qa 1; have qE := blk_frozen qa.out 0; have qF := blk_frozen qa.out 1) | ((with_reducible refine gate_callee (f := 56) rfl ?_); refine goesL_ (some 11) rfl rfl Tryd.func56 (by kernel_rfl) rfl #[.int .i64 a0_0] rfl (by (try simp only [List.map_toArray, List.map_cons, List.map_nil]); first | done | rfl | (simp only [List.length_drop, List.length_take]; rfl)) ?_; (with_reducible refine (impl_FormatInt.calls (hL := laid_ HL_ HB) a0_0 qe _ A5.out).mono ?_); rintro e qO ⟨rfl, hb⟩; refine ⟨_, rfl, ?_⟩; replace qa := kB_ qa hb; replace HB := bS_ HB hb; (try clear hb); (try clear hb2); (try clear hk); (try clear hi)))
   go_ret
   exact ⟨by first | rfl | (simp [errW_none, errW_some] <;> rfl) | (simp [*, errW_none, errW_some] <;> rfl), bb_ HB⟩
  ·
   rw [if_neg c4] at H
   have qw : (a0_1 == 1) = false := beq_eq_false_iff_ne.mpr c4
   have qx : (a0_1 != 1) = true := bne_iff_ne.mpr c4
   replace H := Option.bind_eq_some_iff.mp H
   obtain ⟨qc, A110, H⟩ := H
   replace H : (if qc.size + 1 ≤ 9223372036854775807 then ((impl_FormatInt.f a0_1).bind fun qd => (if (qc ++ (⟨#[47]⟩ : ByteArray)).size + qd.size ≤ 9223372036854775807 then (some ((qc ++ (⟨#[47]⟩ : ByteArray)) ++ qd)) else (none))) else (none)) = some r := H
   have A11 := Aside0.mk A110
   clear A110
   by_cases c12 : qc.size + 1 ≤ 9223372036854775807
   ·
    rw [if_pos c12] at H
    have qH := eq_true c12
    have qI : decide (qc.size + 1 ≤ 9223372036854775807) = true := decide_eq_true c12
    try have qJ : (9223372036854775807 < qc.size + 1) = False := eq_false (Nat.not_lt.2 c12)
    replace H := Option.bind_eq_some_iff.mp H
    obtain ⟨qd, A130, H⟩ := H
    replace H : (if (qc ++ (⟨#[47]⟩ : ByteArray)).size + qd.size ≤ 9223372036854775807 then (some ((qc ++ (⟨#[47]⟩ : ByteArray)) ++ qd)) else (none)) = some r := H
    have A13 := Aside0.mk A130
    clear A130
    by_cases c14 : (qc ++ (⟨#[47]⟩ : ByteArray)).size + qd.size ≤ 9223372036854775807
    ·
     rw [if_pos c14] at H
     have qK := eq_true c14
     have qL : decide ((qc ++ (⟨#[47]⟩ : ByteArray)).size + qd.size ≤ 9223372036854775807) = true := decide_eq_true c14
     try have qi : (9223372036854775807 < (qc ++ (⟨#[47]⟩ : ByteArray)).size + qd.size) = False := eq_false (Nat.not_lt.2 c14)
     try (have qj := qi; simp only [ByteArray.size_append, show ∀ c, (ByteArray.mk #[c]).size = 1 from fun _ => rfl, show ∀ c d, (ByteArray.mk #[c, d]).size = 2 from fun _ _ => rfl, show ∀ c d e, (ByteArray.mk #[c, d, e]).size = 3 from fun _ _ _ => rfl] at qj)
     obtain rfl := Option.some.inj H
     go_enter Tryd.func38, Tryd.ntmps38
     try go_wp2_with (first | ((with_reducible refine gate_dst (N := 1) rfl ?_); refine box_event ?hg (N := 1) ?hd (cs := #[.int .i64 a0_0, .int .i64 a0_1]) (t := 46) ?hr ?_; (case hd => rfl); (case hg => rfl); (case hr => first | (go_simp; done) | (go_simp; rfl)); intro qb hg qM hbox hb; have qa := Aside0.mk (hbox); have qg := Aside0.mk ((by rw [hg]; exact (bz_ HB) : w.heap.size ≤ qb)); have qh := Aside0.mk ((by rw [hg]; exact (bz_ HB) : w.heap.size ≤ qb)); replace HB := bS_ HB hb; clear hb hbox hg; have qk : qM.cell? ⟨qb, 0, none⟩ = some (.int .i64 a0_0) := bc_ qa 0; have ql : qM.cell? ⟨qb, 1, none⟩ = some (.int .i64 a0_1) := bc_ qa 1; have qm := blk_frozen qa.out 0; have qn := blk_frozen qa.out 1) | ((with_reducible refine gate_callee (f := 72) rfl ?_); refine goesL_ (some 4) rfl rfl Tryd.func72 (by kernel_rfl) rfl #[.agg #[.int .i64 a0_0, .int .i64 a0_1]] rfl (by (try simp only [List.map_toArray, List.map_cons, List.map_nil]); first | done | rfl | (simp only [List.length_drop, List.length_take]; rfl)) ?_; (with_reducible refine (impl_IsRatio.calls k a0_0 a0_1 true _ A2.out).mono ?_); rintro e qG ⟨rfl, hb⟩; refine ⟨_, rfl, ?_⟩; replace qa := kB_ qa hb; replace HB := bS_ HB hb; (try clear hb); (try clear hb2); (try clear hk); (try clear hi); have qo : qG.cell? ⟨qb, 0, none⟩ = some (.int .i64 a0_0) := bc_ qa 0; have qp : qG.cell? ⟨qb, 1, none⟩ = some (.int .i64 a0_1) := bc_ qa 1; have qq := blk_frozen qa.out 0; have qr := blk_frozen qa.out 1))
     replace qa := Aside0.mk (blk_drew qa.out); replace HB := Aside0.mk (below_drew1 HB.out)
     refine start_ (n := 9) (S := fun w' => w'.cell? ⟨qb, 0, none⟩ = some (.int .i64 a0_0) ∧ w'.cell? ⟨qb, 1, none⟩ = some (.int .i64 a0_1)) (ds := []) #[false, false, false, false, false, false, false, false, false] (by kernel_rfl) rfl rfl ⟨bc_ qa 0, bc_ qa 1⟩ (fun hHeld => ?_); refine with_tabW impl_FormatRatio.tab5 impl_FormatRatio.bits5 (fun HT_ HW_ => ?_)
     generalize qG.drew = qP at qa HB hHeld ⊢
     refine pure_ (i := 0) (N := some 12) (v := ?_) (a' := ?_) #[true, false, false, false, false, false, false, false, false] rfl rfl (any_of HT_.out (by kernel_rfl)) (fun _ _ _ h => h) (Or.inl ⟨by rfl, ?_⟩) ?_ ?_
     rotate_left
     ·
      intro w'
      go_simp
      with_reducible rfl
     rotate_left
     ·
      simp only [Act.put, List.setIfInBounds_toArray, List.set_cons_zero, List.set_cons_succ, i64_w, i32_w]
      rfl
     refine pure_ (i := 4) (N := some 16) (v := ?_) (a' := ?_) #[true, false, false, false, true, false, false, false, false] rfl rfl (any_of HT_.out (by kernel_rfl)) (fun _ _ _ h => h) (Or.inl ⟨by rfl, ?_⟩) ?_ ?_
     rotate_left
     ·
      intro w'
      go_simp
      with_reducible rfl
     rotate_left
     ·
      simp only [Act.put, List.setIfInBounds_toArray, List.set_cons_zero, List.set_cons_succ, i64_w, i32_w]
      rfl
     refine take_ (i := 1) (N := some 13) (v := ?_) (a' := ?_) #[true, true, false, false, true, false, false, false, false] rfl rfl (take_ofW HT_.out HW_.out (by kernel_rfl)) (fun _ _ _ h => h) (Or.inl ⟨by rfl, ?_⟩) hHeld ?_ ?_
     rotate_left
     ·
      rintro w' ⟨s0, s1⟩
      go_simp
      with_reducible rfl
     rotate_left
     ·
      simp only [Act.put, List.setIfInBounds_toArray, List.set_cons_zero, List.set_cons_succ, i64_w, i32_w]
      rfl
     refine take_ (i := 5) (N := some 17) (v := ?_) (a' := ?_) #[true, true, false, false, true, true, false, false, false] rfl rfl (take_ofW HT_.out HW_.out (by kernel_rfl)) (fun _ _ _ h => h) (Or.inl ⟨by rfl, ?_⟩) hHeld ?_ ?_
     rotate_left
     ·
      rintro w' ⟨s0, s1⟩
      go_simp
      with_reducible rfl
     rotate_left
     ·
      simp only [Act.put, List.setIfInBounds_toArray, List.set_cons_zero, List.set_cons_succ, i64_w, i32_w]
      rfl
     refine one_ (i := 2) (N := some 14) #[true, true, true, false, true, true, false, false, false] rfl rfl (one_of HT_.out (by kernel_rfl)) (by decide) (fun K hK => ?_)
     refine goes_ Tryd.func56 (by kernel_rfl) rfl #[.int .i64 a0_0] (by rfl) rfl rfl (by (try simp only [List.map_toArray, List.map_cons, List.map_nil]); first | done | rfl | (simp only [List.length_drop, List.length_take]; rfl)) ?_
     with_reducible refine (impl_FormatInt.calls (hL := laid_ HL_ HB) a0_0 qc _ A11.out).mono ?_
     rintro e qQ ⟨rfl, hb⟩
     refine ⟨_, rfl, ?_⟩
     replace qa := kB_ qa hb; replace HB := bS_ HB hb; (try clear hb); (try clear hb2); (try clear hk); (try clear hi)
     refine hK.out _ _ ⟨bc_ qa 0, bc_ qa 1⟩ (fun hHeld => ?_)
     clear hK K
     refine norm_ (a' := ?_) ?_ ?_
     rotate_left
     ·
      show Act.put _ (some 14) _ = _
      simp only [Act.put, List.setIfInBounds_toArray, List.set_cons_zero, List.set_cons_succ, i64_w, i32_w]
      rfl
     refine pure_ (i := 3) (N := some 15) (v := ?_) (a' := ?_) #[true, true, true, true, true, true, false, false, false] rfl rfl (any_of HT_.out (by kernel_rfl)) (fun _ _ _ h => h) (Or.inl ⟨by rfl, ?_⟩) ?_ ?_
     rotate_left
     ·
      intro w'
      go_simp
      with_reducible rfl
     rotate_left
     ·
      simp only [Act.put, List.setIfInBounds_toArray, List.set_cons_zero, List.set_cons_succ, i64_w, i32_w]
      rfl
     refine one_ (i := 6) (N := some 18) #[true, true, true, true, true, true, true, false, false] rfl rfl (one_of HT_.out (by kernel_rfl)) (by decide) (fun K hK => ?_)
     refine goes_ Tryd.func56 (by kernel_rfl) rfl #[.int .i64 a0_1] (by rfl) rfl rfl (by (try simp only [List.map_toArray, List.map_cons, List.map_nil]); first | done | rfl | (simp only [List.length_drop, List.length_take]; rfl)) ?_
     with_reducible refine (impl_FormatInt.calls (hL := laid_ HL_ HB) a0_1 qd _ A13.out).mono ?_
     rintro e qR ⟨rfl, hb⟩
     refine ⟨_, rfl, ?_⟩
     replace qa := kB_ qa hb; replace HB := bS_ HB hb; (try clear hb); (try clear hb2); (try clear hk); (try clear hi)
     refine hK.out _ _ ⟨bc_ qa 0, bc_ qa 1⟩ (fun hHeld => ?_)
     clear hK K
     refine norm_ (a' := ?_) ?_ ?_
     rotate_left
     ·
      show Act.put _ (some 18) _ = _
      simp only [Act.put, List.setIfInBounds_toArray, List.set_cons_zero, List.set_cons_succ, i64_w, i32_w]
      rfl
     refine pure_ (i := 7) (N := some 19) (v := ?_) (a' := ?_) #[true, true, true, true, true, true, true, true, false] rfl rfl (any_of HT_.out (by kernel_rfl)) (fun _ _ _ h => h) (Or.inl ⟨by rfl, ?_⟩) ?_ ?_
     rotate_left
     ·
      intro w'
      go_simp
      with_reducible rfl
     rotate_left
     ·
      simp only [Act.put, List.setIfInBounds_toArray, List.set_cons_zero, List.set_cons_succ, i64_w, i32_w]
      rfl
     refine pure_ (i := 8) (N := some 2) (v := ?_) (a' := ?_) #[true, true, true, true, true, true, true, true, true] rfl rfl (any_of HT_.out (by kernel_rfl)) (fun _ _ _ h => h) (Or.inl ⟨by rfl, ?_⟩) ?_ ?_
     rotate_left
     ·
      intro w'
      go_simp
      with_reducible rfl
     rotate_left
     ·
      simp only [Act.put, List.setIfInBounds_toArray, List.set_cons_zero, List.set_cons_succ, i64_w, i32_w]
      rfl
     refine done_ (done_of HT_.out (by kernel_rfl)) ?_
     try go_wp2
     go_ret
     exact ⟨by first | rfl | (simp [errW_none, errW_some] <;> rfl) | (simp [*, errW_none, errW_some] <;> rfl), bb_ HB⟩
    ·
     rw [if_neg c14] at H
     exact absurd H (by simp)
   ·
    rw [if_neg c12] at H
    exact absurd H (by simp)
 ·
  replace c3 := Bool.eq_false_iff.mpr c3
  subst c3
  have H1 : (some (⟨#[110, 111, 110, 101]⟩ : ByteArray)) = some r := by rw [if_neg (show ¬ (false = true) by decide)] at H; exact H
  clear H
  have H := H1
  clear H1
  obtain rfl := Option.some.inj H
  go_enter Tryd.func38, Tryd.ntmps38
  go_wp2_with (first | ((with_reducible refine gate_dst (N := 1) rfl ?_); refine box_event ?hg (N := 1) ?hd (cs := #[.int .i64 a0_0, .int .i64 a0_1]) (t := 46) ?hr ?_; (case hd => rfl); (case hg => rfl); (case hr => first | (go_simp; done) | (go_simp; rfl)); intro qb hg qN hbox hb; have qa := Aside0.mk (hbox); have qg := Aside0.mk ((by rw [hg]; exact (bz_ HB) : w.heap.size ≤ qb)); have qh := Aside0.mk ((by rw [hg]; exact (bz_ HB) : w.heap.size ≤ qb)); replace HB := bS_ HB hb; clear hb hbox hg; have qs : qN.cell? ⟨qb, 0, none⟩ = some (.int .i64 a0_0) := bc_ qa 0; have qt : qN.cell? ⟨qb, 1, none⟩ = some (.int .i64 a0_1) := bc_ qa 1; have qu := blk_frozen qa.out 0; have qv := blk_frozen qa.out 1) | ((with_reducible refine gate_callee (f := 72) rfl ?_); refine goesL_ (some 4) rfl rfl Tryd.func72 (by kernel_rfl) rfl #[.agg #[.int .i64 a0_0, .int .i64 a0_1]] rfl (by (try simp only [List.map_toArray, List.map_cons, List.map_nil]); first | done | rfl | (simp only [List.length_drop, List.length_take]; rfl)) ?_; (with_reducible refine (impl_IsRatio.calls k a0_0 a0_1 false _ A2.out).mono ?_); rintro e qS ⟨rfl, hb⟩; refine ⟨_, rfl, ?_⟩; replace qa := kB_ qa hb; replace HB := bS_ HB hb; (try clear hb); (try clear hb2); (try clear hk); (try clear hi)))
  go_ret
  exact ⟨by first | rfl | (simp [errW_none, errW_some] <;> rfl) | (simp [*, errW_none, errW_some] <;> rfl), bb_ HB⟩

/-! ### impl_CompareRatios: function 39 -/
def impl_CompareRatios.j0 : Nat → Bool → Int → Int → Int → Int → Option (Int)
 | 0, _, _, _, _, _ => none
 | k + 1, x14, x280000, x280001, x281000, x281001 => if x14 = true then (some 2) else (if (wrap64 (x280000 * x281001)) < (wrap64 (x281000 * x280001)) then (some (-1)) else (if (wrap64 (x280000 * x281001)) > (wrap64 (x281000 * x280001)) then (some 1) else (some 0)))
def impl_CompareRatios.f (k : Nat) (a0_0 : Int) (a0_1 : Int) (a1_0 : Int) (a1_1 : Int) : Option (Int) := (impl_IsRatio.f k a0_0 a0_1).bind fun qm => (if qm = true then ((impl_IsRatio.f k a1_0 a1_1).bind fun qg => (impl_CompareRatios.j0 k (!qg) a0_0 a0_1 a1_0 a1_1)) else (impl_CompareRatios.j0 k true a0_0 a0_1 a1_0 a1_1))
theorem impl_CompareRatios.mono_l : ∀ k, (∀ y0 y1 y2 y3 y4, LeO (impl_CompareRatios.j0 k y0 y1 y2 y3 y4) (impl_CompareRatios.j0 (k + 1) y0 y1 y2 y3 y4))
 | 0 => fun _ _ _ _ _ r h => by simp [impl_CompareRatios.j0] at h
 | k + 1 => by
  have ih0 := impl_CompareRatios.mono_l k
  ·
   intro y0 y1 y2 y3 y4
   unfold impl_CompareRatios.j0
   repeat' first
   | (with_reducible exact ih0 _ _ _ _ _)
   | (with_reducible exact impl_IsRatio.mono _ _ _)
   | (with_reducible exact LeO.refl _)
   | (with_reducible exact LeO.none _)
   | (with_reducible refine LeO.ite ?_ ?_)
   | (with_reducible refine LeO.bind ?_ (fun _ => ?_))
   | exact ih0 _ _ _ _ _
   | exact impl_IsRatio.mono _ _ _
   | exact LeO.none _
   | refine LeO.ite ?_ ?_
   | refine LeO.bind ?_ (fun _ => ?_)
theorem impl_CompareRatios.mono : ∀ a0 a1 a2 a3 k, LeO (impl_CompareRatios.f k a0 a1 a2 a3) (impl_CompareRatios.f (k + 1) a0 a1 a2 a3) := by
 intro a0 a1 a2 a3 k
 have ih0 := impl_CompareRatios.mono_l k
 unfold impl_CompareRatios.f
 repeat' first
   | (with_reducible exact ih0 _ _ _ _ _)
   | (with_reducible exact impl_IsRatio.mono _ _ _)
   | (with_reducible exact LeO.refl _)
   | (with_reducible exact LeO.none _)
   | (with_reducible refine LeO.ite ?_ ?_)
   | (with_reducible refine LeO.bind ?_ (fun _ => ?_))
   | exact ih0 _ _ _ _ _
   | exact impl_IsRatio.mono _ _ _
   | exact LeO.none _
   | refine LeO.ite ?_ ?_
   | refine LeO.bind ?_ (fun _ => ?_)
set_option maxHeartbeats 8000000 in
set_option maxRecDepth 100000 in
theorem impl_CompareRatios.calls (k : Nat) (a0_0 : Int) (a0_1 : Int) (a1_0 : Int) (a1_1 : Int) (r : Int) (w : World) (h : impl_CompareRatios.f k a0_0 a0_1 a1_0 a1_1 = some r) :
  Calls Tryd.prog 39 #[.agg #[.int .i64 a0_0, .int .i64 a0_1], .agg #[.int .i64 a1_0, .int .i64 a1_1]] w fun e w' => e = .returned (.int .i64 r) ∧ Below w.heap.size w w' := by
 have hu46 := Tryd.underlying46
 have HB := Aside0.mk (Below.refl w.heap.size w)
 have H : ((impl_IsRatio.f k a0_0 a0_1).bind fun qm => (if qm = true then ((impl_IsRatio.f k a1_0 a1_1).bind fun qg => (impl_CompareRatios.j0 k (!qg) a0_0 a0_1 a1_0 a1_1)) else (impl_CompareRatios.j0 k true a0_0 a0_1 a1_0 a1_1))) = some r := h
 clear h
 have HC3 := Aside0.mk H
 clear H
 go_enter Tryd.func39, Tryd.ntmps39
 go_upto_region 1 with (first | ((with_reducible refine gate_dst (N := 2) rfl ?_); refine box_event ?hg (N := 2) ?hd (cs := #[.int .i64 a0_0, .int .i64 a0_1]) (t := 46) ?hr ?_; (case hd => rfl); (case hg => rfl); (case hr => first | (go_simp; done) | (go_simp; rfl)); intro qd hg w4 hbox hb; have qa := Aside0.mk (hbox); have qv := Aside0.mk ((by rw [hg]; exact (bz_ HB) : w.heap.size ≤ qd)); have qw := Aside0.mk ((by rw [hg]; exact (bz_ HB) : w.heap.size ≤ qd)); replace HB := bS_ HB hb; clear hb hbox hg) | ((with_reducible refine gate_dst (N := 3) rfl ?_); refine box_event ?hg (N := 3) ?hd (cs := #[.int .i64 a1_0, .int .i64 a1_1]) (t := 46) ?hr ?_; (case hd => rfl); (case hg => rfl); (case hr => first | (go_simp; done) | (go_simp; rfl)); intro qc hg w5 hbox hb; have qb := Aside0.mk (hbox); have qx := Aside0.mk ((by rw [hg]; exact (bz_ HB) : w.heap.size ≤ qc)); have qy := Aside0.mk ((by rw [hg]; exact (bz_ HB) : w.heap.size ≤ qc)); replace HB := bS_ HB hb; have qe := Aside0.mk ((nl_ qa hg : qd ≠ qc)); have qf := Aside0.mk ((ng_ qa hg : qc ≠ qd)); replace qa := kB_ qa hb; clear hb hbox hg))
 repeat (go_quiet (first | ((with_reducible refine gate_dst (N := 2) rfl ?_); refine box_event ?hg (N := 2) ?hd (cs := #[.int .i64 a0_0, .int .i64 a0_1]) (t := 46) ?hr ?_; (case hd => rfl); (case hg => rfl); (case hr => first | (go_simp; done) | (go_simp; rfl)); intro qd hg w4 hbox hb; have qa := Aside0.mk (hbox); have qv := Aside0.mk ((by rw [hg]; exact (bz_ HB) : w.heap.size ≤ qd)); have qw := Aside0.mk ((by rw [hg]; exact (bz_ HB) : w.heap.size ≤ qd)); replace HB := bS_ HB hb; clear hb hbox hg) | ((with_reducible refine gate_dst (N := 3) rfl ?_); refine box_event ?hg (N := 3) ?hd (cs := #[.int .i64 a1_0, .int .i64 a1_1]) (t := 46) ?hr ?_; (case hd => rfl); (case hg => rfl); (case hr => first | (go_simp; done) | (go_simp; rfl)); intro qc hg w5 hbox hb; have qb := Aside0.mk (hbox); have qx := Aside0.mk ((by rw [hg]; exact (bz_ HB) : w.heap.size ≤ qc)); have qy := Aside0.mk ((by rw [hg]; exact (bz_ HB) : w.heap.size ≤ qc)); replace HB := bS_ HB hb; have qe := Aside0.mk ((nl_ qa hg : qd ≠ qc)); have qf := Aside0.mk ((ng_ qa hg : qc ≠ qd)); replace qa := kB_ qa hb; clear hb hbox hg)); go_upto_region 1 with (first | ((with_reducible refine gate_dst (N := 2) rfl ?_); refine box_event ?hg (N := 2) ?hd (cs := #[.int .i64 a0_0, .int .i64 a0_1]) (t := 46) ?hr ?_; (case hd => rfl); (case hg => rfl); (case hr => first | (go_simp; done) | (go_simp; rfl)); intro qd hg w4 hbox hb; have qa := Aside0.mk (hbox); have qv := Aside0.mk ((by rw [hg]; exact (bz_ HB) : w.heap.size ≤ qd)); have qw := Aside0.mk ((by rw [hg]; exact (bz_ HB) : w.heap.size ≤ qd)); replace HB := bS_ HB hb; clear hb hbox hg) | ((with_reducible refine gate_dst (N := 3) rfl ?_); refine box_event ?hg (N := 3) ?hd (cs := #[.int .i64 a1_0, .int .i64 a1_1]) (t := 46) ?hr ?_; (case hd => rfl); (case hg => rfl); (case hr => first | (go_simp; done) | (go_simp; rfl)); intro qc hg w5 hbox hb; have qb := Aside0.mk (hbox); have qx := Aside0.mk ((by rw [hg]; exact (bz_ HB) : w.heap.size ≤ qc)); have qy := Aside0.mk ((by rw [hg]; exact (bz_ HB) : w.heap.size ≤ qc)); replace HB := bS_ HB hb; have qe := Aside0.mk ((nl_ qa hg : qd ≠ qc)); have qf := Aside0.mk ((ng_ qa hg : qc ≠ qd)); replace qa := kB_ qa hb; clear hb hbox hg)))
 (try simp only [Act.put, List.setIfInBounds_toArray, List.set_cons_zero, List.set_cons_succ])
 go_cut [14] (fun v14 wc => ∃ (kq : Nat) (ql : Bool), v14 = .bool ql ∧ Aside0 (impl_CompareRatios.j0 kq ql a0_0 a0_1 a1_0 a1_1 = some r) ∧ Aside0 (kq ≤ k) ∧ Aside0 (wc.heap[qd]? = some (.cells #[.int .i64 a0_0, .int .i64 a0_1] 46 (0, 0))) ∧ Aside0 (wc.heap[qc]? = some (.cells #[.int .i64 a1_0, .int .i64 a1_1] 46 (0, 0))) ∧ Aside0 (Below w.heap.size w wc))
 case first =>
  have H := HC3.out
  clear HC3
  replace H := Option.bind_eq_some_iff.mp H
  obtain ⟨qm, A60, H⟩ := H
  replace H : (if qm = true then ((impl_IsRatio.f k a1_0 a1_1).bind fun qg => (impl_CompareRatios.j0 k (!qg) a0_0 a0_1 a1_0 a1_1)) else (impl_CompareRatios.j0 k true a0_0 a0_1 a1_0 a1_1)) = some r := H
  have A6 := Aside0.mk A60
  clear A60
  by_cases c7 : qm = true
  ·
   subst c7
   have H1 : ((impl_IsRatio.f k a1_0 a1_1).bind fun qg => (impl_CompareRatios.j0 k (!qg) a0_0 a0_1 a1_0 a1_1)) = some r := by rw [if_pos rfl] at H; exact H
   clear H
   have H := H1
   clear H1
   replace H := Option.bind_eq_some_iff.mp H
   obtain ⟨qg, A80, H⟩ := H
   replace H : (impl_CompareRatios.j0 k (!qg) a0_0 a0_1 a1_0 a1_1) = some r := H
   have A8 := Aside0.mk A80
   clear A80
   have H' := Aside0.mk H
   clear H
   have za := qe.out
   have zb := qf.out
   have qn : w5.cell? ⟨qd, 0, none⟩ = some (.int .i64 a0_0) := bc_ qa 0
   have qo : w5.cell? ⟨qd, 1, none⟩ = some (.int .i64 a0_1) := bc_ qa 1
   have qp := blk_frozen qa.out 0
   have qq := blk_frozen qa.out 1
   go_wp2_with (first | (go_at_call 72; (with_reducible refine (impl_IsRatio.calls k a0_0 a0_1 true _ A6.out).mono ?_); rintro e qz ⟨rfl, hb⟩; replace qa := kB_ qa hb; replace qb := kB_ qb hb; replace HB := bS_ HB hb; (try clear hb); (try clear hb2); (try clear hk); (try clear hi); have qh : qz.cell? ⟨qc, 0, none⟩ = some (.int .i64 a1_0) := bc_ qb 0; have qi : qz.cell? ⟨qc, 1, none⟩ = some (.int .i64 a1_1) := bc_ qb 1; have qj := blk_frozen qb.out 0; have qk := blk_frozen qb.out 1) | (go_at_call 72; (with_reducible refine (impl_IsRatio.calls k a1_0 a1_1 qg _ A8.out).mono ?_); rintro e q0 ⟨rfl, hb⟩; replace qa := kB_ qa hb; replace qb := kB_ qb hb; replace HB := bS_ HB hb; (try clear hb); (try clear hb2); (try clear hk); (try clear hi)))
   repeat (go_quiet (first | (go_at_call 72; (with_reducible refine (impl_IsRatio.calls k a0_0 a0_1 true _ A6.out).mono ?_); rintro e qz ⟨rfl, hb⟩; replace qa := kB_ qa hb; replace qb := kB_ qb hb; replace HB := bS_ HB hb; (try clear hb); (try clear hb2); (try clear hk); (try clear hi); have qh : qz.cell? ⟨qc, 0, none⟩ = some (.int .i64 a1_0) := bc_ qb 0; have qi : qz.cell? ⟨qc, 1, none⟩ = some (.int .i64 a1_1) := bc_ qb 1; have qj := blk_frozen qb.out 0; have qk := blk_frozen qb.out 1) | (go_at_call 72; (with_reducible refine (impl_IsRatio.calls k a1_0 a1_1 qg _ A8.out).mono ?_); rintro e q0 ⟨rfl, hb⟩; replace qa := kB_ qa hb; replace qb := kB_ qb hb; replace HB := bS_ HB hb; (try clear hb); (try clear hb2); (try clear hk); (try clear hi))); try go_wp2_with (first | (go_at_call 72; (with_reducible refine (impl_IsRatio.calls k a0_0 a0_1 true _ A6.out).mono ?_); rintro e qz ⟨rfl, hb⟩; replace qa := kB_ qa hb; replace qb := kB_ qb hb; replace HB := bS_ HB hb; (try clear hb); (try clear hb2); (try clear hk); (try clear hi); have qh : qz.cell? ⟨qc, 0, none⟩ = some (.int .i64 a1_0) := bc_ qb 0; have qi : qz.cell? ⟨qc, 1, none⟩ = some (.int .i64 a1_1) := bc_ qb 1; have qj := blk_frozen qb.out 0; have qk := blk_frozen qb.out 1) | (go_at_call 72; (with_reducible refine (impl_IsRatio.calls k a1_0 a1_1 qg _ A8.out).mono ?_); rintro e q0 ⟨rfl, hb⟩; replace qa := kB_ qa hb; replace qb := kB_ qb hb; replace HB := bS_ HB hb; (try clear hb); (try clear hb2); (try clear hk); (try clear hi))))
   go_meet
   case rel => exact ⟨_, (!qg), (by first | rfl | (simp; done) | (simp [*]; done)), H', ⟨by first | omega | exact Nat.le_refl _⟩, ⟨kf_ qa⟩, ⟨kf_ qb⟩, ⟨bb_ HB⟩⟩
  ·
   replace c7 := Bool.eq_false_iff.mpr c7
   subst c7
   have H1 : (impl_CompareRatios.j0 k true a0_0 a0_1 a1_0 a1_1) = some r := by rw [if_neg (show ¬ (false = true) by decide)] at H; exact H
   clear H
   have H := H1
   clear H1
   have H' := Aside0.mk H
   clear H
   have q1 := qe.out
   have q2 := qf.out
   have qr : w5.cell? ⟨qd, 0, none⟩ = some (.int .i64 a0_0) := bc_ qa 0
   have qs : w5.cell? ⟨qd, 1, none⟩ = some (.int .i64 a0_1) := bc_ qa 1
   have qt := blk_frozen qa.out 0
   have qu := blk_frozen qa.out 1
   go_wp2_with (first | (go_at_call 72; (with_reducible refine (impl_IsRatio.calls k a0_0 a0_1 false _ A6.out).mono ?_); rintro e q3 ⟨rfl, hb⟩; replace qa := kB_ qa hb; replace qb := kB_ qb hb; replace HB := bS_ HB hb; (try clear hb); (try clear hb2); (try clear hk); (try clear hi)))
   repeat (go_quiet (first | (go_at_call 72; (with_reducible refine (impl_IsRatio.calls k a0_0 a0_1 false _ A6.out).mono ?_); rintro e q3 ⟨rfl, hb⟩; replace qa := kB_ qa hb; replace qb := kB_ qb hb; replace HB := bS_ HB hb; (try clear hb); (try clear hb2); (try clear hk); (try clear hi))); try go_wp2_with (first | (go_at_call 72; (with_reducible refine (impl_IsRatio.calls k a0_0 a0_1 false _ A6.out).mono ?_); rintro e q3 ⟨rfl, hb⟩; replace qa := kB_ qa hb; replace qb := kB_ qb hb; replace HB := bS_ HB hb; (try clear hb); (try clear hb2); (try clear hk); (try clear hi))))
   go_meet
   case rel => exact ⟨_, (true), (by first | rfl | (simp; done) | (simp [*]; done)), H', ⟨by first | omega | exact Nat.le_refl _⟩, ⟨kf_ qa⟩, ⟨kf_ qb⟩, ⟨bb_ HB⟩⟩
 case rest =>
  clear HC3
  try clear c1
  try clear p2
  try clear c3
  try clear c7
  try clear c9
  try clear c14
  try clear qn
  try clear qo
  try clear qh
  try clear qi
  try clear qr
  try clear qs
  try clear qp
  try clear qq
  try clear qj
  try clear qk
  try clear qt
  try clear qu
  obtain ⟨kq, ql, rfl, HA, HJ2, qa, qb, HB⟩ := hcut
  cases kq with
  | zero => exact absurd HA.out (by simp [impl_CompareRatios.j0])
  | succ kj2 =>
   have H := HA.out
   clear HA
   simp only [impl_CompareRatios.j0] at H
   by_cases c17 : ql = true
   ·
    subst c17
    have H1 : (some 2) = some r := by rw [if_pos rfl] at H; exact H
    clear H
    have H := H1
    clear H1
    obtain rfl := Option.some.inj H
    go_wp2
    repeat (go_quiet (fail); try go_wp2)
    go_ret
    exact ⟨by first | rfl | (simp [errW_none, errW_some] <;> rfl) | (simp [*, errW_none, errW_some] <;> rfl), bb_ HB⟩
   ·
    replace c17 := Bool.eq_false_iff.mpr c17
    subst c17
    have H1 : (if (wrap64 (a0_0 * a1_1)) < (wrap64 (a1_0 * a0_1)) then (some (-1)) else (if (wrap64 (a0_0 * a1_1)) > (wrap64 (a1_0 * a0_1)) then (some 1) else (some 0))) = some r := by rw [if_neg (show ¬ (false = true) by decide)] at H; exact H
    clear H
    have H := H1
    clear H1
    by_cases c18 : (wrap64 (a0_0 * a1_1)) < (wrap64 (a1_0 * a0_1))
    ·
     rw [if_pos c18] at H
     have qA : decide ((wrap64 (a0_0 * a1_1)) < (wrap64 (a1_0 * a0_1))) = true := decide_eq_true c18
     clear c18
     obtain rfl := Option.some.inj H
     have q4 := qe.out
     have q5 := qf.out
     have qC : wc.cell? ⟨qd, 0, none⟩ = some (.int .i64 a0_0) := bc_ qa 0
     have qD : wc.cell? ⟨qd, 1, none⟩ = some (.int .i64 a0_1) := bc_ qa 1
     have qE := blk_frozen qa.out 0
     have qF := blk_frozen qa.out 1
     have qG : wc.cell? ⟨qc, 0, none⟩ = some (.int .i64 a1_0) := bc_ qb 0
     have qH : wc.cell? ⟨qc, 1, none⟩ = some (.int .i64 a1_1) := bc_ qb 1
     have qI := blk_frozen qb.out 0
     have qJ := blk_frozen qb.out 1
     go_wp2
     repeat (go_quiet (fail); try go_wp2)
     go_ret
     exact ⟨by first | rfl | (simp [errW_none, errW_some] <;> rfl) | (simp [*, errW_none, errW_some] <;> rfl), bb_ HB⟩
    ·
     rw [if_neg c18] at H
     have qA : decide ((wrap64 (a0_0 * a1_1)) < (wrap64 (a1_0 * a0_1))) = false := decide_eq_false c18
     clear c18
     by_cases c22 : (wrap64 (a0_0 * a1_1)) > (wrap64 (a1_0 * a0_1))
     ·
      rw [if_pos c22] at H
      have qB : decide ((wrap64 (a1_0 * a0_1)) < (wrap64 (a0_0 * a1_1))) = true := decide_eq_true c22
      clear c22
      obtain rfl := Option.some.inj H
      have q6 := qe.out
      have q7 := qf.out
      have qK : wc.cell? ⟨qd, 0, none⟩ = some (.int .i64 a0_0) := bc_ qa 0
      have qL : wc.cell? ⟨qd, 1, none⟩ = some (.int .i64 a0_1) := bc_ qa 1
      have qM := blk_frozen qa.out 0
      have qN := blk_frozen qa.out 1
      have qO : wc.cell? ⟨qc, 0, none⟩ = some (.int .i64 a1_0) := bc_ qb 0
      have qP : wc.cell? ⟨qc, 1, none⟩ = some (.int .i64 a1_1) := bc_ qb 1
      have qQ := blk_frozen qb.out 0
      have qR := blk_frozen qb.out 1
      go_wp2
      repeat (go_quiet (fail); try go_wp2)
      go_ret
      exact ⟨by first | rfl | (simp [errW_none, errW_some] <;> rfl) | (simp [*, errW_none, errW_some] <;> rfl), bb_ HB⟩
     ·
      rw [if_neg c22] at H
      have qB : decide ((wrap64 (a1_0 * a0_1)) < (wrap64 (a0_0 * a1_1))) = false := decide_eq_false c22
      clear c22
      obtain rfl := Option.some.inj H
      have q8 := qe.out
      have q9 := qf.out
      have qS : wc.cell? ⟨qd, 0, none⟩ = some (.int .i64 a0_0) := bc_ qa 0
      have qT : wc.cell? ⟨qd, 1, none⟩ = some (.int .i64 a0_1) := bc_ qa 1
      have qU := blk_frozen qa.out 0
      have qV := blk_frozen qa.out 1
      have qW : wc.cell? ⟨qc, 0, none⟩ = some (.int .i64 a1_0) := bc_ qb 0
      have qX : wc.cell? ⟨qc, 1, none⟩ = some (.int .i64 a1_1) := bc_ qb 1
      have qY := blk_frozen qb.out 0
      have qZ := blk_frozen qb.out 1
      go_wp2
      repeat (go_quiet (fail); try go_wp2)
      go_ret
      exact ⟨by first | rfl | (simp [errW_none, errW_some] <;> rfl) | (simp [*, errW_none, errW_some] <;> rfl), bb_ HB⟩

/-! ### laws_FnRatios: function 8 -/
mutual
def laws_FnRatios.j0 : Nat → Bool → Int → Int → Int → Int → Int → Int → Int → Int → Option (Bool)
 | 0, _, _, _, _, _, _, _, _, _ => none
 | k + 1, x36, x289000, x289001, x290000, x290001, x293000, x293001, x296000, x296001 => if x36 = true then (some false) else ((spec_IsRatio.f k x293000 x293001).bind fun zh => (if zh = true then ((impl_NegateRatio.f k x290000 x290001).bind fun qS => ((impl_AddRatios.f k x293000 x293001 qS.1 qS.2).bind fun qQ => (if (!(qQ.1 == x289000) || (!(qQ.2 == x289001))) = true then (laws_FnRatios.j1 k true x289000 x289001 x290000 x290001) else ((spec_IsRatio.f k x296000 x296001).bind fun qU => (if qU = true then ((impl_MultiplyRatios.f k x296000 x296001 x290000 x290001).bind fun qC => (laws_FnRatios.j1 k (!(qC.1 == x289000) || (!(qC.2 == x289001))) x289000 x289001 x290000 x290001)) else (laws_FnRatios.j1 k false x289000 x289001 x290000 x290001)))))) else ((spec_IsRatio.f k x296000 x296001).bind fun qY => (if qY = true then ((impl_MultiplyRatios.f k x296000 x296001 x290000 x290001).bind fun qN => (laws_FnRatios.j1 k (!(qN.1 == x289000) || (!(qN.2 == x289001))) x289000 x289001 x290000 x290001)) else (laws_FnRatios.j1 k false x289000 x289001 x290000 x290001)))))
def laws_FnRatios.j1 : Nat → Bool → Int → Int → Int → Int → Option (Bool)
 | 0, _, _, _, _, _ => none
 | k + 1, x57, x289000, x289001, x290000, x290001 => if x57 = true then (some false) else ((impl_FormatRatio.f k x289000 x289001).bind fun zb => ((impl_ParseRatio.f k zb).bind fun qR => ((impl_CompareRatios.f k x289000 x289001 x290000 x290001).bind fun qo => ((spec_IsRatio.f k x289000 x289001).bind fun qP => (if (qR.2.2 != qP) = true then (laws_FnRatios.j2 k qo true x289000 x289001 x290000 x290001) else (if qR.2.2 = true then (laws_FnRatios.j2 k qo (!(qR.1 == x289000) || (!(qR.2.1 == x289001))) x289000 x289001 x290000 x290001) else (laws_FnRatios.j2 k qo false x289000 x289001 x290000 x290001)))))))
def laws_FnRatios.j2 : Nat → Int → Bool → Int → Int → Int → Int → Option (Bool)
 | 0, _, _, _, _, _, _ => none
 | k + 1, x9, x78, x289000, x289001, x290000, x290001 => if x78 = true then (some false) else (if x9 = 2 then ((impl_CompareRatios.f k x290000 x290001 x289000 x289001).bind fun qW => (if qW = 2 then (some true) else ((impl_CompareRatios.f k x290000 x290001 x289000 x289001).bind fun qV => (if x9 = (wrap64 (-qV)) then (some ((x9 == 0) == (x289000 == x290000 && (x289001 == x290001)))) else (some false))))) else ((impl_CompareRatios.f k x290000 x290001 x289000 x289001).bind fun qX => (if x9 = (wrap64 (-qX)) then (some ((x9 == 0) == (x289000 == x290000 && (x289001 == x290001)))) else (some false))))
end
def laws_FnRatios.f (k : Nat) (l0 : List Int) : Option (Bool) := (laws_big.f l0).bind fun zi => (if zi = true then (some true) else ((spec_DrawAddRatios.f k l0).bind fun qg => ((impl_AddRatios.f k qg.1 qg.2.1 qg.2.2.1 qg.2.2.2).bind fun qq => ((impl_DivideRatios.f k qg.1 qg.2.1 qg.2.2.1 qg.2.2.2).bind fun qw => ((impl_AddRatios.f k qg.2.2.1 qg.2.2.2 qg.1 qg.2.1).bind fun qG => (if (!(qq.1 == qG.1) || (!(qq.2 == qG.2))) = true then (laws_FnRatios.j0 k true qg.1 qg.2.1 qg.2.2.1 qg.2.2.2 qq.1 qq.2 qw.1 qw.2) else ((impl_MultiplyRatios.f k qg.1 qg.2.1 qg.2.2.1 qg.2.2.2).bind fun qD => ((impl_MultiplyRatios.f k qg.2.2.1 qg.2.2.2 qg.1 qg.2.1).bind fun qx => (laws_FnRatios.j0 k (!(qD.1 == qx.1) || (!(qD.2 == qx.2))) qg.1 qg.2.1 qg.2.2.1 qg.2.2.2 qq.1 qq.2 qw.1 qw.2)))))))))
theorem laws_FnRatios.mono_l : ∀ k, (∀ y0 y1 y2 y3 y4 y5 y6 y7 y8, LeO (laws_FnRatios.j0 k y0 y1 y2 y3 y4 y5 y6 y7 y8) (laws_FnRatios.j0 (k + 1) y0 y1 y2 y3 y4 y5 y6 y7 y8)) ∧ (∀ y0 y1 y2 y3 y4, LeO (laws_FnRatios.j1 k y0 y1 y2 y3 y4) (laws_FnRatios.j1 (k + 1) y0 y1 y2 y3 y4)) ∧ (∀ y0 y1 y2 y3 y4 y5, LeO (laws_FnRatios.j2 k y0 y1 y2 y3 y4 y5) (laws_FnRatios.j2 (k + 1) y0 y1 y2 y3 y4 y5))
 | 0 => ⟨fun _ _ _ _ _ _ _ _ _ r h => by simp [laws_FnRatios.j0] at h, fun _ _ _ _ _ r h => by simp [laws_FnRatios.j1] at h, fun _ _ _ _ _ _ r h => by simp [laws_FnRatios.j2] at h⟩
 | k + 1 => by
  obtain ⟨ih0, ih1, ih2⟩ := laws_FnRatios.mono_l k
  refine ⟨?_, ?_, ?_⟩
  ·
   intro y0 y1 y2 y3 y4 y5 y6 y7 y8
   unfold laws_FnRatios.j0
   repeat' first
   | (with_reducible exact ih0 _ _ _ _ _ _ _ _ _)
   | (with_reducible exact ih1 _ _ _ _ _)
   | (with_reducible exact ih2 _ _ _ _ _ _)
   | (with_reducible exact impl_AddRatios.mono _ _ _ _ _)
   | (with_reducible exact impl_CompareRatios.mono _ _ _ _ _)
   | (with_reducible exact impl_DivideRatios.mono _ _ _ _ _)
   | (with_reducible exact impl_FormatRatio.mono _ _ _)
   | (with_reducible exact impl_MultiplyRatios.mono _ _ _ _ _)
   | (with_reducible exact impl_NegateRatio.mono _ _ _)
   | (with_reducible exact impl_ParseRatio.mono _ _)
   | (with_reducible exact spec_DrawAddRatios.mono _ _)
   | (with_reducible exact spec_IsRatio.mono _ _ _)
   | (with_reducible exact LeO.refl _)
   | (with_reducible exact LeO.none _)
   | (with_reducible refine LeO.ite ?_ ?_)
   | (with_reducible refine LeO.bind ?_ (fun _ => ?_))
   | exact ih0 _ _ _ _ _ _ _ _ _
   | exact ih1 _ _ _ _ _
   | exact ih2 _ _ _ _ _ _
   | exact impl_AddRatios.mono _ _ _ _ _
   | exact impl_CompareRatios.mono _ _ _ _ _
   | exact impl_DivideRatios.mono _ _ _ _ _
   | exact impl_FormatRatio.mono _ _ _
   | exact impl_MultiplyRatios.mono _ _ _ _ _
   | exact impl_NegateRatio.mono _ _ _
   | exact impl_ParseRatio.mono _ _
   | exact spec_DrawAddRatios.mono _ _
   | exact spec_IsRatio.mono _ _ _
   | exact LeO.none _
   | refine LeO.ite ?_ ?_
   | refine LeO.bind ?_ (fun _ => ?_)
  ·
   intro y0 y1 y2 y3 y4
   unfold laws_FnRatios.j1
   repeat' first
   | (with_reducible exact ih0 _ _ _ _ _ _ _ _ _)
   | (with_reducible exact ih1 _ _ _ _ _)
   | (with_reducible exact ih2 _ _ _ _ _ _)
   | (with_reducible exact impl_AddRatios.mono _ _ _ _ _)
   | (with_reducible exact impl_CompareRatios.mono _ _ _ _ _)
   | (with_reducible exact impl_DivideRatios.mono _ _ _ _ _)
   | (with_reducible exact impl_FormatRatio.mono _ _ _)
   | (with_reducible exact impl_MultiplyRatios.mono _ _ _ _ _)
   | (with_reducible exact impl_NegateRatio.mono _ _ _)
   | (with_reducible exact impl_ParseRatio.mono _ _)
   | (with_reducible exact spec_DrawAddRatios.mono _ _)
   | (with_reducible exact spec_IsRatio.mono _ _ _)
   | (with_reducible exact LeO.refl _)
   | (with_reducible exact LeO.none _)
   | (with_reducible refine LeO.ite ?_ ?_)
   | (with_reducible refine LeO.bind ?_ (fun _ => ?_))
   | exact ih0 _ _ _ _ _ _ _ _ _
   | exact ih1 _ _ _ _ _
   | exact ih2 _ _ _ _ _ _
   | exact impl_AddRatios.mono _ _ _ _ _
   | exact impl_CompareRatios.mono _ _ _ _ _
   | exact impl_DivideRatios.mono _ _ _ _ _
   | exact impl_FormatRatio.mono _ _ _
   | exact impl_MultiplyRatios.mono _ _ _ _ _
   | exact impl_NegateRatio.mono _ _ _
   | exact impl_ParseRatio.mono _ _
   | exact spec_DrawAddRatios.mono _ _
   | exact spec_IsRatio.mono _ _ _
   | exact LeO.none _
   | refine LeO.ite ?_ ?_
   | refine LeO.bind ?_ (fun _ => ?_)
  ·
   intro y0 y1 y2 y3 y4 y5
   unfold laws_FnRatios.j2
   repeat' first
   | (with_reducible exact ih0 _ _ _ _ _ _ _ _ _)
   | (with_reducible exact ih1 _ _ _ _ _)
   | (with_reducible exact ih2 _ _ _ _ _ _)
   | (with_reducible exact impl_AddRatios.mono _ _ _ _ _)
   | (with_reducible exact impl_CompareRatios.mono _ _ _ _ _)
   | (with_reducible exact impl_DivideRatios.mono _ _ _ _ _)
   | (with_reducible exact impl_FormatRatio.mono _ _ _)
   | (with_reducible exact impl_MultiplyRatios.mono _ _ _ _ _)
   | (with_reducible exact impl_NegateRatio.mono _ _ _)
   | (with_reducible exact impl_ParseRatio.mono _ _)
   | (with_reducible exact spec_DrawAddRatios.mono _ _)
   | (with_reducible exact spec_IsRatio.mono _ _ _)
   | (with_reducible exact LeO.refl _)
   | (with_reducible exact LeO.none _)
   | (with_reducible refine LeO.ite ?_ ?_)
   | (with_reducible refine LeO.bind ?_ (fun _ => ?_))
   | exact ih0 _ _ _ _ _ _ _ _ _
   | exact ih1 _ _ _ _ _
   | exact ih2 _ _ _ _ _ _
   | exact impl_AddRatios.mono _ _ _ _ _
   | exact impl_CompareRatios.mono _ _ _ _ _
   | exact impl_DivideRatios.mono _ _ _ _ _
   | exact impl_FormatRatio.mono _ _ _
   | exact impl_MultiplyRatios.mono _ _ _ _ _
   | exact impl_NegateRatio.mono _ _ _
   | exact impl_ParseRatio.mono _ _
   | exact spec_DrawAddRatios.mono _ _
   | exact spec_IsRatio.mono _ _ _
   | exact LeO.none _
   | refine LeO.ite ?_ ?_
   | refine LeO.bind ?_ (fun _ => ?_)
theorem laws_FnRatios.mono : ∀ a0 k, LeO (laws_FnRatios.f k a0) (laws_FnRatios.f (k + 1) a0) := by
 intro a0 k
 obtain ⟨ih0, ih1, ih2⟩ := laws_FnRatios.mono_l k
 unfold laws_FnRatios.f
 repeat' first
   | (with_reducible exact ih0 _ _ _ _ _ _ _ _ _)
   | (with_reducible exact ih1 _ _ _ _ _)
   | (with_reducible exact ih2 _ _ _ _ _ _)
   | (with_reducible exact impl_AddRatios.mono _ _ _ _ _)
   | (with_reducible exact impl_CompareRatios.mono _ _ _ _ _)
   | (with_reducible exact impl_DivideRatios.mono _ _ _ _ _)
   | (with_reducible exact impl_FormatRatio.mono _ _ _)
   | (with_reducible exact impl_MultiplyRatios.mono _ _ _ _ _)
   | (with_reducible exact impl_NegateRatio.mono _ _ _)
   | (with_reducible exact impl_ParseRatio.mono _ _)
   | (with_reducible exact spec_DrawAddRatios.mono _ _)
   | (with_reducible exact spec_IsRatio.mono _ _ _)
   | (with_reducible exact LeO.refl _)
   | (with_reducible exact LeO.none _)
   | (with_reducible refine LeO.ite ?_ ?_)
   | (with_reducible refine LeO.bind ?_ (fun _ => ?_))
   | exact ih0 _ _ _ _ _ _ _ _ _
   | exact ih1 _ _ _ _ _
   | exact ih2 _ _ _ _ _ _
   | exact impl_AddRatios.mono _ _ _ _ _
   | exact impl_CompareRatios.mono _ _ _ _ _
   | exact impl_DivideRatios.mono _ _ _ _ _
   | exact impl_FormatRatio.mono _ _ _
   | exact impl_MultiplyRatios.mono _ _ _ _ _
   | exact impl_NegateRatio.mono _ _ _
   | exact impl_ParseRatio.mono _ _
   | exact spec_DrawAddRatios.mono _ _
   | exact spec_IsRatio.mono _ _ _
   | exact LeO.none _
   | refine LeO.ite ?_ ?_
   | refine LeO.bind ?_ (fun _ => ?_)
def laws_FnRatios.T6 : Bool × List (List Nat × List Nat) := (true, [([], []), ([], []), ([], []), ([1, 2], [1, 2]), ([0, 3], [0, 3]), ([4, 3], [4]), ([5], [5]), ([5], [5]), ([6, 7, 5, 5], [5, 6, 7]), ([5], [5]), ([5], [5]), ([9, 10, 8, 5], [5, 9, 10]), ([8, 11, 5], [5, 8, 11]), ([5, 12], [5, 12])])
def laws_FnRatios.B6 : List Nat := [0, 0, 0, 6, 15, 31, 63, 63, 255, 63, 63, 2047, 4095, 8191]
theorem laws_FnRatios.tab6 : rtab .any (opsOf Tryd.f8 6) = laws_FnRatios.T6 := by kernel_rfl
theorem laws_FnRatios.bits6 : waitsOk laws_FnRatios.T6.2 laws_FnRatios.B6 = true := by kernel_rfl
def laws_FnRatios.T8 : Bool × List (List Nat × List Nat) := (true, [([], []), ([0], [0]), ([1, 1], [1]), ([2], [2]), ([2], [2]), ([4, 2, 2], [2, 4]), ([3, 5, 5, 2], [2, 3, 5]), ([2], [2]), ([6, 7, 2], [2, 6, 7]), ([2, 8], [2, 8]), ([9, 6], [9]), ([10], [10]), ([11, 10, 10], [10, 11]), ([12, 12, 10], [10, 12]), ([13], [13]), ([13], [13]), ([14, 15, 13, 13], [13, 14, 15]), ([13], [13]), ([16, 17, 13], [13, 16, 17]), ([13, 18, 10], [10, 13, 18]), ([10, 19], [10, 19])])
def laws_FnRatios.B8 : List Nat := [0, 1, 3, 7, 7, 23, 63, 7, 255, 511, 1023, 2047, 4095, 8191, 16383, 16383, 65535, 16383, 262143, 524287, 1048575]
theorem laws_FnRatios.tab8 : rtab .any (opsOf Tryd.f8 8) = laws_FnRatios.T8 := by kernel_rfl
theorem laws_FnRatios.bits8 : waitsOk laws_FnRatios.T8.2 laws_FnRatios.B8 = true := by kernel_rfl
set_option maxHeartbeats 8000000 in
set_option maxRecDepth 100000 in
theorem laws_FnRatios.calls (k : Nat) (A0 : Option Addr) (c0 : Nat) (l0 : List Int) (r : Bool) (w : World) (hL : LaidW w) (hr0 : Kd.C (Kd.int .u8) w A0 l0.length l0) (hc0 : l0.length ≤ c0) (h : laws_FnRatios.f k l0 = some r) :
  Calls Tryd.prog 8 #[.slice A0 l0.length c0] w fun e w' => e = .returned (.bool r) ∧ Below w.heap.size w w' := by
 have HL_ := Aside0.mk hL
 clear hL
 have hu46 := Tryd.underlying46
 have HR0 := Aside0.mk hr0
 have HC0 := Aside0.mk hc0
 clear hr0 hc0
 have HB := Aside0.mk (Below.refl w.heap.size w)
 have H : ((laws_big.f l0).bind fun zi => (if zi = true then (some true) else ((spec_DrawAddRatios.f k l0).bind fun qg => ((impl_AddRatios.f k qg.1 qg.2.1 qg.2.2.1 qg.2.2.2).bind fun qq => ((impl_DivideRatios.f k qg.1 qg.2.1 qg.2.2.1 qg.2.2.2).bind fun qw => ((impl_AddRatios.f k qg.2.2.1 qg.2.2.2 qg.1 qg.2.1).bind fun qG => (if (!(qq.1 == qG.1) || (!(qq.2 == qG.2))) = true then (laws_FnRatios.j0 k true qg.1 qg.2.1 qg.2.2.1 qg.2.2.2 qq.1 qq.2 qw.1 qw.2) else ((impl_MultiplyRatios.f k qg.1 qg.2.1 qg.2.2.1 qg.2.2.2).bind fun qD => ((impl_MultiplyRatios.f k qg.2.2.1 qg.2.2.2 qg.1 qg.2.1).bind fun qx => (laws_FnRatios.j0 k (!(qD.1 == qx.1) || (!(qD.2 == qx.2))) qg.1 qg.2.1 qg.2.2.1 qg.2.2.2 qq.1 qq.2 qw.1 qw.2)))))))))) = some r := h
 clear h
 replace H := Option.bind_eq_some_iff.mp H
 obtain ⟨zi, A20, H⟩ := H
 replace H : (if zi = true then (some true) else ((spec_DrawAddRatios.f k l0).bind fun qg => ((impl_AddRatios.f k qg.1 qg.2.1 qg.2.2.1 qg.2.2.2).bind fun qq => ((impl_DivideRatios.f k qg.1 qg.2.1 qg.2.2.1 qg.2.2.2).bind fun qw => ((impl_AddRatios.f k qg.2.2.1 qg.2.2.2 qg.1 qg.2.1).bind fun qG => (if (!(qq.1 == qG.1) || (!(qq.2 == qG.2))) = true then (laws_FnRatios.j0 k true qg.1 qg.2.1 qg.2.2.1 qg.2.2.2 qq.1 qq.2 qw.1 qw.2) else ((impl_MultiplyRatios.f k qg.1 qg.2.1 qg.2.2.1 qg.2.2.2).bind fun qD => ((impl_MultiplyRatios.f k qg.2.2.1 qg.2.2.2 qg.1 qg.2.1).bind fun qx => (laws_FnRatios.j0 k (!(qD.1 == qx.1) || (!(qD.2 == qx.2))) qg.1 qg.2.1 qg.2.2.1 qg.2.2.2 qq.1 qq.2 qw.1 qw.2))))))))) = some r := H
 have A2 := Aside0.mk A20
 clear A20
 by_cases c3 : zi = true
 ·
  subst c3
  have H1 : (some true) = some r := by rw [if_pos rfl] at H; exact H
  clear H
  have H := H1
  clear H1
  obtain rfl := Option.some.inj H
  go_enter Tryd.func8, Tryd.ntmps8
  go_wp2_with (first | ((with_reducible refine gate_callee (f := 31) rfl ?_); refine goesL_ (some 11) rfl rfl Tryd.func31 (by kernel_rfl) rfl #[.slice A0 l0.length c0] rfl (by (try simp only [List.map_toArray, List.map_cons, List.map_nil]); first | done | rfl | (simp only [List.length_drop, List.length_take]; rfl)) ?_; (with_reducible refine (laws_big.calls _ _ l0 true _ ?side1 ?side2 A2.out).mono ?_); (case side1 => repeat (first | exact HR0.out | (with_reducible refine Kd.C_alloc ?_ _) | (with_reducible refine Kd.C_drewN ?_ _) | (with_reducible refine Kd.C_drew ?_))); (case side2 => exact HC0.out); rintro e w' ⟨rfl, ⟨nd, rfl⟩⟩; refine ⟨_, rfl, ?_⟩))
  go_ret
  exact ⟨by first | rfl | (simp [errW_none, errW_some] <;> rfl) | (simp [*, errW_none, errW_some] <;> rfl), bb_ HB⟩
 ·
  replace c3 := Bool.eq_false_iff.mpr c3
  subst c3
  have H1 : ((spec_DrawAddRatios.f k l0).bind fun qg => ((impl_AddRatios.f k qg.1 qg.2.1 qg.2.2.1 qg.2.2.2).bind fun qq => ((impl_DivideRatios.f k qg.1 qg.2.1 qg.2.2.1 qg.2.2.2).bind fun qw => ((impl_AddRatios.f k qg.2.2.1 qg.2.2.2 qg.1 qg.2.1).bind fun qG => (if (!(qq.1 == qG.1) || (!(qq.2 == qG.2))) = true then (laws_FnRatios.j0 k true qg.1 qg.2.1 qg.2.2.1 qg.2.2.2 qq.1 qq.2 qw.1 qw.2) else ((impl_MultiplyRatios.f k qg.1 qg.2.1 qg.2.2.1 qg.2.2.2).bind fun qD => ((impl_MultiplyRatios.f k qg.2.2.1 qg.2.2.2 qg.1 qg.2.1).bind fun qx => (laws_FnRatios.j0 k (!(qD.1 == qx.1) || (!(qD.2 == qx.2))) qg.1 qg.2.1 qg.2.2.1 qg.2.2.2 qq.1 qq.2 qw.1 qw.2)))))))) = some r := by rw [if_neg (show ¬ (false = true) by decide)] at H; exact H
  clear H
  have H := H1
  clear H1
  replace H := Option.bind_eq_some_iff.mp H
  obtain ⟨⟨qe, qf, qh, qi⟩, A40, H⟩ := H
  replace H : ((impl_AddRatios.f k qe qf qh qi).bind fun qq => ((impl_DivideRatios.f k qe qf qh qi).bind fun qw => ((impl_AddRatios.f k qh qi qe qf).bind fun qG => (if (!(qq.1 == qG.1) || (!(qq.2 == qG.2))) = true then (laws_FnRatios.j0 k true qe qf qh qi qq.1 qq.2 qw.1 qw.2) else ((impl_MultiplyRatios.f k qe qf qh qi).bind fun qD => ((impl_MultiplyRatios.f k qh qi qe qf).bind fun qx => (laws_FnRatios.j0 k (!(qD.1 == qx.1) || (!(qD.2 == qx.2))) qe qf qh qi qq.1 qq.2 qw.1 qw.2))))))) = some r := H
  have A4 := Aside0.mk A40
  clear A40
  replace H := Option.bind_eq_some_iff.mp H
  obtain ⟨⟨qp, qs⟩, A50, H⟩ := H
  replace H : ((impl_DivideRatios.f k qe qf qh qi).bind fun qw => ((impl_AddRatios.f k qh qi qe qf).bind fun qG => (if (!(qp == qG.1) || (!(qs == qG.2))) = true then (laws_FnRatios.j0 k true qe qf qh qi qp qs qw.1 qw.2) else ((impl_MultiplyRatios.f k qe qf qh qi).bind fun qD => ((impl_MultiplyRatios.f k qh qi qe qf).bind fun qx => (laws_FnRatios.j0 k (!(qD.1 == qx.1) || (!(qD.2 == qx.2))) qe qf qh qi qp qs qw.1 qw.2)))))) = some r := H
  have A5 := Aside0.mk A50
  clear A50
  replace H := Option.bind_eq_some_iff.mp H
  obtain ⟨⟨qm, qn⟩, A60, H⟩ := H
  replace H : ((impl_AddRatios.f k qh qi qe qf).bind fun qG => (if (!(qp == qG.1) || (!(qs == qG.2))) = true then (laws_FnRatios.j0 k true qe qf qh qi qp qs qm qn) else ((impl_MultiplyRatios.f k qe qf qh qi).bind fun qD => ((impl_MultiplyRatios.f k qh qi qe qf).bind fun qx => (laws_FnRatios.j0 k (!(qD.1 == qx.1) || (!(qD.2 == qx.2))) qe qf qh qi qp qs qm qn))))) = some r := H
  have A6 := Aside0.mk A60
  clear A60
  have HC7 := Aside0.mk H
  clear H
  go_enter Tryd.func8, Tryd.ntmps8
  go_upto_region 6 with (first | ((with_reducible refine gate_callee (f := 31) rfl ?_); refine goesL_ (some 11) rfl rfl Tryd.func31 (by kernel_rfl) rfl #[.slice A0 l0.length c0] rfl (by (try simp only [List.map_toArray, List.map_cons, List.map_nil]); first | done | rfl | (simp only [List.length_drop, List.length_take]; rfl)) ?_; (with_reducible refine (laws_big.calls _ _ l0 false _ ?side1 ?side2 A2.out).mono ?_); (case side1 => repeat (first | exact HR0.out | (with_reducible refine Kd.C_alloc ?_ _) | (with_reducible refine Kd.C_drewN ?_ _) | (with_reducible refine Kd.C_drew ?_))); (case side2 => exact HC0.out); rintro e w' ⟨rfl, ⟨nd, rfl⟩⟩; refine ⟨_, rfl, ?_⟩) | ((with_reducible refine gate_callee (f := 32) rfl ?_); refine goesL_ (some 14) rfl rfl Tryd.func32 (by kernel_rfl) rfl #[.slice A0 l0.length c0] rfl (by (try simp only [List.map_toArray, List.map_cons, List.map_nil]); first | done | rfl | (simp only [List.length_drop, List.length_take]; rfl)) ?_; (with_reducible refine (spec_DrawAddRatios.calls k _ _ l0 qe qf qh qi _ ?side1 ?side2 A4.out).mono ?_); (case side1 => repeat (first | exact HR0.out | (with_reducible refine Kd.C_alloc ?_ _) | (with_reducible refine Kd.C_drewN ?_ _) | (with_reducible refine Kd.C_drew ?_))); (case side2 => exact HC0.out); rintro e w8 ⟨rfl, hb⟩; refine ⟨_, rfl, ?_⟩; replace HB := bS_ HB hb; (try clear hb); (try clear hb2); (try clear hk); (try clear hi)) | ((with_reducible refine gate_dst (N := 3) rfl ?_); refine box_event ?hg (N := 3) ?hd (cs := #[.int .i64 0, .int .i64 0]) (t := 46) ?hr ?_; (case hd => rfl); (case hg => rfl); (case hr => first | (go_simp; done) | (go_simp; rfl)); intro qj hg w9 hbox hb; have qa := Aside0.mk (hbox); have Jx := Aside0.mk ((by rw [hg]; exact (bz_ HB) : w.heap.size ≤ qj)); have Jy := Aside0.mk ((by rw [hg]; exact (bz_ HB) : w.heap.size ≤ qj)); replace HB := bS_ HB hb; clear hb hbox hg) | ((with_reducible refine gate_dst (N := 4) rfl ?_); refine box_event ?hg (N := 4) ?hd (cs := #[.int .i64 0, .int .i64 0]) (t := 46) ?hr ?_; (case hd => rfl); (case hg => rfl); (case hr => first | (go_simp; done) | (go_simp; rfl)); intro qk hg QY hbox hb; have qb := Aside0.mk (hbox); have Jz := Aside0.mk ((by rw [hg]; exact (bz_ HB) : w.heap.size ≤ qk)); have JA := Aside0.mk ((by rw [hg]; exact (bz_ HB) : w.heap.size ≤ qk)); replace HB := bS_ HB hb; have qu := Aside0.mk ((nl_ qa hg : qj ≠ qk)); have qv := Aside0.mk ((ng_ qa hg : qk ≠ qj)); replace qa := kB_ qa hb; clear hb hbox hg; have JB := qu.out; have JC := qv.out; have zH : QY.cell? ⟨qj, 0, none⟩ = some (.int .i64 0) := bc_ qa 0; have zI : QY.cell? ⟨qj, 1, none⟩ = some (.int .i64 0) := bc_ qa 1; have zJ := blk_frozen qa.out 0; have zK := blk_frozen qa.out 1; have zL : QY.cell? ⟨qk, 0, none⟩ = some (.int .i64 0) := bc_ qb 0; have zM : QY.cell? ⟨qk, 1, none⟩ = some (.int .i64 0) := bc_ qb 1; have zN := blk_frozen qb.out 0; have zO := blk_frozen qb.out 1) | ((with_reducible refine gate_callee (f := 33) rfl ?_); refine goesL_ (some 19) rfl rfl Tryd.func33 (by kernel_rfl) rfl #[.agg #[.int .i64 qe, .int .i64 qf], .agg #[.int .i64 qh, .int .i64 qi]] rfl (by (try simp only [List.map_toArray, List.map_cons, List.map_nil]); first | done | rfl | (simp only [List.length_drop, List.length_take]; rfl)) ?_; (with_reducible refine (impl_AddRatios.calls k qe qf qh qi qp qs _ A5.out).mono ?_); rintro e Xn ⟨rfl, hb⟩; refine ⟨_, rfl, ?_⟩; replace qa := Aside0.mk (blk_below (g := qj) (o := .cells #[.int .i64 qe, .int .i64 qf] 46 (0, 0)) (by (with_reducible repeat (first | refine blk_drewN ?_ _ | refine blk_drew ?_ | refine blk_alloc ?_ _)); refine blk_far ?_ qu.out _; (with_reducible repeat (first | refine blk_drewN ?_ _ | refine blk_drew ?_ | refine blk_alloc ?_ _)); refine blk_far ?_ qu.out _; (with_reducible repeat (first | refine blk_drewN ?_ _ | refine blk_drew ?_ | refine blk_alloc ?_ _)); refine blk_put (cs := #[.int .i64 qe, .int .i64 0]) ?_ 1 _ rfl; (with_reducible repeat (first | refine blk_drewN ?_ _ | refine blk_drew ?_ | refine blk_alloc ?_ _)); refine blk_put (cs := #[.int .i64 0, .int .i64 0]) ?_ 0 _ rfl; (with_reducible repeat (first | refine blk_drewN ?_ _ | refine blk_drew ?_ | refine blk_alloc ?_ _)); exact qa.out) hb); replace qb := Aside0.mk (blk_below (g := qk) (o := .cells #[.int .i64 qh, .int .i64 qi] 46 (0, 0)) (by (with_reducible repeat (first | refine blk_drewN ?_ _ | refine blk_drew ?_ | refine blk_alloc ?_ _)); refine blk_put (cs := #[.int .i64 qh, .int .i64 0]) ?_ 1 _ rfl; (with_reducible repeat (first | refine blk_drewN ?_ _ | refine blk_drew ?_ | refine blk_alloc ?_ _)); refine blk_put (cs := #[.int .i64 0, .int .i64 0]) ?_ 0 _ rfl; (with_reducible repeat (first | refine blk_drewN ?_ _ | refine blk_drew ?_ | refine blk_alloc ?_ _)); refine blk_far ?_ qv.out _; (with_reducible repeat (first | refine blk_drewN ?_ _ | refine blk_drew ?_ | refine blk_alloc ?_ _)); refine blk_far ?_ qv.out _; (with_reducible repeat (first | refine blk_drewN ?_ _ | refine blk_drew ?_ | refine blk_alloc ?_ _)); exact qb.out) hb); replace HB := bS_ HB hb; (try clear hb); (try clear hb2); (try clear hk); (try clear hi)) | ((with_reducible refine gate_dst (N := 5) rfl ?_); refine box_event ?hg (N := 5) ?hd (cs := #[.int .i64 0, .int .i64 0]) (t := 46) ?hr ?_; (case hd => rfl); (case hg => rfl); (case hr => first | (go_simp; done) | (go_simp; rfl)); intro qt hg jI hbox hb; have qc := Aside0.mk (hbox); have JD := Aside0.mk ((by rw [hg]; exact (bz_ HB) : w.heap.size ≤ qt)); have JE := Aside0.mk ((by rw [hg]; exact (bz_ HB) : w.heap.size ≤ qt)); replace HB := bS_ HB hb; have qy := Aside0.mk ((nl_ qa hg : qj ≠ qt)); have qz := Aside0.mk ((ng_ qa hg : qt ≠ qj)); replace qa := kB_ qa hb; have qH := Aside0.mk ((nl_ qb hg : qk ≠ qt)); have qI := Aside0.mk ((ng_ qb hg : qt ≠ qk)); replace qb := kB_ qb hb; clear hb hbox hg; have JF := qz.out; have JG := qy.out; have JH := qI.out; have JI := qH.out; have zP : jI.cell? ⟨qt, 0, none⟩ = some (.int .i64 0) := bc_ qc 0; have zQ : jI.cell? ⟨qt, 1, none⟩ = some (.int .i64 0) := bc_ qc 1; have zR := blk_frozen qc.out 0; have zS := blk_frozen qc.out 1; have zT : jI.cell? ⟨qj, 0, none⟩ = some (.int .i64 qe) := bc_ qa 0; have zU : jI.cell? ⟨qj, 1, none⟩ = some (.int .i64 qf) := bc_ qa 1; have zV := blk_frozen qa.out 0; have zW := blk_frozen qa.out 1; have zX : jI.cell? ⟨qk, 0, none⟩ = some (.int .i64 qh) := bc_ qb 0; have zY : jI.cell? ⟨qk, 1, none⟩ = some (.int .i64 qi) := bc_ qb 1; have zZ := blk_frozen qb.out 0; have z0 := blk_frozen qb.out 1) | ((with_reducible refine gate_callee (f := 34) rfl ?_); refine goesL_ (some 22) rfl rfl Tryd.func34 (by kernel_rfl) rfl #[.agg #[.int .i64 qe, .int .i64 qf], .agg #[.int .i64 qh, .int .i64 qi]] rfl (by (try simp only [List.map_toArray, List.map_cons, List.map_nil]); first | done | rfl | (simp only [List.length_drop, List.length_take]; rfl)) ?_; (with_reducible refine (impl_DivideRatios.calls k qe qf qh qi qm qn _ A6.out).mono ?_); rintro e Xo ⟨rfl, hb⟩; refine ⟨_, rfl, ?_⟩; replace qa := Aside0.mk (blk_below (g := qj) (o := .cells #[.int .i64 qe, .int .i64 qf] 46 (0, 0)) (kf_ qa) hb); replace qb := Aside0.mk (blk_below (g := qk) (o := .cells #[.int .i64 qh, .int .i64 qi] 46 (0, 0)) (kf_ qb) hb); replace qc := Aside0.mk (blk_below (g := qt) (o := .cells #[.int .i64 qp, .int .i64 qs] 46 (0, 0)) (by (with_reducible repeat (first | refine blk_drewN ?_ _ | refine blk_drew ?_ | refine blk_alloc ?_ _)); refine blk_put (cs := #[.int .i64 qp, .int .i64 0]) ?_ 1 _ rfl; (with_reducible repeat (first | refine blk_drewN ?_ _ | refine blk_drew ?_ | refine blk_alloc ?_ _)); refine blk_put (cs := #[.int .i64 0, .int .i64 0]) ?_ 0 _ rfl; (with_reducible repeat (first | refine blk_drewN ?_ _ | refine blk_drew ?_ | refine blk_alloc ?_ _)); exact qc.out) hb); replace HB := bS_ HB hb; (try clear hb); (try clear hb2); (try clear hk); (try clear hi)) | ((with_reducible refine gate_dst (N := 6) rfl ?_); refine box_event ?hg (N := 6) ?hd (cs := #[.int .i64 0, .int .i64 0]) (t := 46) ?hr ?_; (case hd => rfl); (case hg => rfl); (case hr => first | (go_simp; done) | (go_simp; rfl)); intro ql hg zf hbox hb; have qd := Aside0.mk (hbox); have JJ := Aside0.mk ((by rw [hg]; exact (bz_ HB) : w.heap.size ≤ ql)); have JK := Aside0.mk ((by rw [hg]; exact (bz_ HB) : w.heap.size ≤ ql)); replace HB := bS_ HB hb; have qA := Aside0.mk ((nl_ qa hg : qj ≠ ql)); have qB := Aside0.mk ((ng_ qa hg : ql ≠ qj)); replace qa := kB_ qa hb; have qJ := Aside0.mk ((nl_ qb hg : qk ≠ ql)); have qK := Aside0.mk ((ng_ qb hg : ql ≠ qk)); replace qb := kB_ qb hb; have zj := Aside0.mk ((nl_ qc hg : qt ≠ ql)); have zk := Aside0.mk ((ng_ qc hg : ql ≠ qt)); replace qc := kB_ qc hb; clear hb hbox hg; have JL := qB.out; have JM := qA.out; have JN := qK.out; have JO := qJ.out; have JP := zk.out; have JQ := zj.out; have z1 : zf.cell? ⟨ql, 0, none⟩ = some (.int .i64 0) := bc_ qd 0; have z2 : zf.cell? ⟨ql, 1, none⟩ = some (.int .i64 0) := bc_ qd 1; have z3 := blk_frozen qd.out 0; have z4 := blk_frozen qd.out 1))
  (try simp only [Act.put, List.setIfInBounds_toArray, List.set_cons_zero, List.set_cons_succ])
  go_cut [36] (fun v36 wc => ∃ (kq : Nat) (zg : Bool), v36 = .bool zg ∧ Aside0 (laws_FnRatios.j0 kq zg qe qf qh qi qp qs qm qn = some r) ∧ Aside0 (kq ≤ k) ∧ Aside0 (wc.heap[qj]? = some (.cells #[.int .i64 qe, .int .i64 qf] 46 (0, 0))) ∧ Aside0 (wc.heap[qk]? = some (.cells #[.int .i64 qh, .int .i64 qi] 46 (0, 0))) ∧ Aside0 (wc.heap[qt]? = some (.cells #[.int .i64 qp, .int .i64 qs] 46 (0, 0))) ∧ Aside0 (wc.heap[ql]? = some (.cells #[.int .i64 qm, .int .i64 qn] 46 (0, 0))) ∧ Aside0 (Below w.heap.size w wc))
  case first =>
   have H := HC7.out
   clear HC7
   replace H := Option.bind_eq_some_iff.mp H
   obtain ⟨⟨zl, zm⟩, A270, H⟩ := H
   replace H : (if (!(qp == zl) || (!(qs == zm))) = true then (laws_FnRatios.j0 k true qe qf qh qi qp qs qm qn) else ((impl_MultiplyRatios.f k qe qf qh qi).bind fun qD => ((impl_MultiplyRatios.f k qh qi qe qf).bind fun qx => (laws_FnRatios.j0 k (!(qD.1 == qx.1) || (!(qD.2 == qx.2))) qe qf qh qi qp qs qm qn)))) = some r := H
   have A27 := Aside0.mk A270
   clear A270
   by_cases c28 : (!(qp == zl) || (!(qs == zm))) = true
   ·
    rw [if_pos c28] at H
    have q2 : (!(qp == zl) || (!(qs == zm))) = true := c28
    clear c28
    (first | rw [q2] | (simp only [i64_w, i32_w]; rw [q2]) | skip)
    have H' := Aside0.mk H
    clear H
    try go_wp2
    have n0_ : Aside0 (((zf.setCell ⟨ql, 0, none⟩ (.int .i64 qm)).setCell ⟨ql, 1, none⟩ (.int .i64 qn)).heap[qj]? = some (.cells #[.int .i64 qe, .int .i64 qf] 46 (0, 0))) := ⟨kf_ qa⟩
    have n1_ : Aside0 (((zf.setCell ⟨ql, 0, none⟩ (.int .i64 qm)).setCell ⟨ql, 1, none⟩ (.int .i64 qn)).heap[qk]? = some (.cells #[.int .i64 qh, .int .i64 qi] 46 (0, 0))) := ⟨kf_ qb⟩
    have n2_ : Aside0 (((zf.setCell ⟨ql, 0, none⟩ (.int .i64 qm)).setCell ⟨ql, 1, none⟩ (.int .i64 qn)).heap[qt]? = some (.cells #[.int .i64 qp, .int .i64 qs] 46 (0, 0))) := ⟨kf_ qc⟩
    have n3_ : Aside0 (((zf.setCell ⟨ql, 0, none⟩ (.int .i64 qm)).setCell ⟨ql, 1, none⟩ (.int .i64 qn)).heap[ql]? = some (.cells #[.int .i64 qm, .int .i64 qn] 46 (0, 0))) := ⟨by (with_reducible repeat (first | refine blk_drewN ?_ _ | refine blk_drew ?_ | refine blk_alloc ?_ _)); refine blk_put (cs := #[.int .i64 qm, .int .i64 0]) ?_ 1 _ rfl; (with_reducible repeat (first | refine blk_drewN ?_ _ | refine blk_drew ?_ | refine blk_alloc ?_ _)); refine blk_put (cs := #[.int .i64 0, .int .i64 0]) ?_ 0 _ rfl; (with_reducible repeat (first | refine blk_drewN ?_ _ | refine blk_drew ?_ | refine blk_alloc ?_ _)); exact qd.out⟩
    have n4_ : Aside0 (Below w.heap.size w ((zf.setCell ⟨ql, 0, none⟩ (.int .i64 qm)).setCell ⟨ql, 1, none⟩ (.int .i64 qn))) := ⟨bb_ HB⟩
    (try clear qa)
    (try clear qb)
    (try clear qc)
    (try clear qd)
    (try clear HB)
    generalize ((zf.setCell ⟨ql, 0, none⟩ (.int .i64 qm)).setCell ⟨ql, 1, none⟩ (.int .i64 qn)) = Xg at n0_ n1_ n2_ n3_ n4_ ⊢
    have qa := n0_
    have qb := n1_
    have qc := n2_
    have qd := n3_
    have HB := n4_
    clear n0_ n1_ n2_ n3_ n4_
    replace qa := Aside0.mk (blk_drew qa.out); replace qb := Aside0.mk (blk_drew qb.out); replace qc := Aside0.mk (blk_drew qc.out); replace qd := Aside0.mk (blk_drew qd.out); replace HB := Aside0.mk (below_drew1 HB.out)
    refine start_ (n := 14) (S := fun w' => w'.cell? ⟨qt, 0, none⟩ = some (.int .i64 qp) ∧ w'.cell? ⟨qt, 1, none⟩ = some (.int .i64 qs) ∧ w'.cell? ⟨qk, 0, none⟩ = some (.int .i64 qh) ∧ w'.cell? ⟨qk, 1, none⟩ = some (.int .i64 qi) ∧ w'.cell? ⟨qj, 0, none⟩ = some (.int .i64 qe) ∧ w'.cell? ⟨qj, 1, none⟩ = some (.int .i64 qf)) (ds := []) #[false, false, false, false, false, false, false, false, false, false, false, false, false, false] (by kernel_rfl) rfl rfl ⟨bc_ qc 0, bc_ qc 1, bc_ qb 0, bc_ qb 1, bc_ qa 0, bc_ qa 1⟩ (fun hHeld => ?_); refine with_tabW laws_FnRatios.tab6 laws_FnRatios.bits6 (fun HT_ HW_ => ?_)
    generalize Xg.drew = Xp at qa qb qc qd HB hHeld ⊢
    refine take_ (i := 0) (N := some 23) (v := ?_) (a' := ?_) #[true, false, false, false, false, false, false, false, false, false, false, false, false, false] rfl rfl (take_ofW HT_.out HW_.out (by kernel_rfl)) (fun _ _ _ h => h) (Or.inl ⟨by rfl, ?_⟩) hHeld ?_ ?_
    rotate_left
    ·
     rintro w' ⟨s0, s1, s2, s3, s4, s5⟩
     go_simp
     with_reducible rfl
    rotate_left
    ·
     simp only [Act.put, List.setIfInBounds_toArray, List.set_cons_zero, List.set_cons_succ, i64_w, i32_w]
     rfl
    refine take_ (i := 1) (N := some 24) (v := ?_) (a' := ?_) #[true, true, false, false, false, false, false, false, false, false, false, false, false, false] rfl rfl (take_ofW HT_.out HW_.out (by kernel_rfl)) (fun _ _ _ h => h) (Or.inl ⟨by rfl, ?_⟩) hHeld ?_ ?_
    rotate_left
    ·
     rintro w' ⟨s0, s1, s2, s3, s4, s5⟩
     go_simp
     with_reducible rfl
    rotate_left
    ·
     simp only [Act.put, List.setIfInBounds_toArray, List.set_cons_zero, List.set_cons_succ, i64_w, i32_w]
     rfl
    refine take_ (i := 2) (N := some 25) (v := ?_) (a' := ?_) #[true, true, true, false, false, false, false, false, false, false, false, false, false, false] rfl rfl (take_ofW HT_.out HW_.out (by kernel_rfl)) (fun _ _ _ h => h) (Or.inl ⟨by rfl, ?_⟩) hHeld ?_ ?_
    rotate_left
    ·
     rintro w' ⟨s0, s1, s2, s3, s4, s5⟩
     go_simp
     with_reducible rfl
    rotate_left
    ·
     simp only [Act.put, List.setIfInBounds_toArray, List.set_cons_zero, List.set_cons_succ, i64_w, i32_w]
     rfl
    refine one_ (i := 3) (N := some 26) #[true, true, true, true, false, false, false, false, false, false, false, false, false, false] rfl rfl (one_of HT_.out (by kernel_rfl)) (by decide) (fun K hK => ?_)
    refine goes_ Tryd.func33 (by kernel_rfl) rfl #[.agg #[.int .i64 qh, .int .i64 qi], .agg #[.int .i64 qe, .int .i64 qf]] (by rfl) rfl rfl (by (try simp only [List.map_toArray, List.map_cons, List.map_nil]); first | done | rfl | (simp only [List.length_drop, List.length_take]; rfl)) ?_
    with_reducible refine (impl_AddRatios.calls k qh qi qe qf zl zm _ A27.out).mono ?_
    rintro e Xq ⟨rfl, hb⟩
    refine ⟨_, rfl, ?_⟩
    replace qa := kB_ qa hb; replace qb := kB_ qb hb; replace qc := kB_ qc hb; replace qd := kB_ qd hb; replace HB := bS_ HB hb; (try clear hb); (try clear hb2); (try clear hk); (try clear hi)
    refine hK.out _ _ ⟨bc_ qc 0, bc_ qc 1, bc_ qb 0, bc_ qb 1, bc_ qa 0, bc_ qa 1⟩ (fun hHeld => ?_)
    clear hK K
    refine norm_ (a' := ?_) ?_ ?_
    rotate_left
    ·
     show Act.put _ (some 26) _ = _
     simp only [Act.put, List.setIfInBounds_toArray, List.set_cons_zero, List.set_cons_succ, i64_w, i32_w]
     rfl
    refine pure_ (i := 4) (N := some 27) (v := ?_) (a' := ?_) #[true, true, true, true, true, false, false, false, false, false, false, false, false, false] rfl rfl (any_of HT_.out (by kernel_rfl)) (fun _ _ _ h => h) (Or.inl ⟨by rfl, ?_⟩) ?_ ?_
    rotate_left
    ·
     intro w'
     go_simp
     with_reducible rfl
    rotate_left
    ·
     simp only [Act.put, List.setIfInBounds_toArray, List.set_cons_zero, List.set_cons_succ, i64_w, i32_w]
     rfl
    refine pure_ (i := 5) (N := some 28) (v := ?_) (a' := ?_) #[true, true, true, true, true, true, false, false, false, false, false, false, false, false] rfl rfl (any_of HT_.out (by kernel_rfl)) (fun _ _ _ h => h) (Or.inl ⟨by rfl, ?_⟩) ?_ ?_
    rotate_left
    ·
     intro w'
     go_simp
     with_reducible rfl
    rotate_left
    ·
     simp only [Act.put, List.setIfInBounds_toArray, List.set_cons_zero, List.set_cons_succ, i64_w, i32_w]
     rfl
    refine pure_ (i := 6) (N := some 29) (v := undef) (a' := ?_) #[true, true, true, true, true, true, true, false, false, false, false, false, false, false] rfl rfl (any_of HT_.out (by kernel_rfl)) (fun _ _ _ h => h) (Or.inr ⟨by rfl, rfl⟩) ?_ ?_
    rotate_left
    ·
     simp only [Act.put, List.setIfInBounds_toArray, List.set_cons_zero, List.set_cons_succ, i64_w, i32_w]
     rfl
    refine pure_ (i := 7) (N := some 30) (v := undef) (a' := ?_) #[true, true, true, true, true, true, true, true, false, false, false, false, false, false] rfl rfl (any_of HT_.out (by kernel_rfl)) (fun _ _ _ h => h) (Or.inr ⟨by rfl, rfl⟩) ?_ ?_
    rotate_left
    ·
     simp only [Act.put, List.setIfInBounds_toArray, List.set_cons_zero, List.set_cons_succ, i64_w, i32_w]
     rfl
    refine pure_ (i := 8) (N := some 31) (v := undef) (a' := ?_) #[true, true, true, true, true, true, true, true, true, false, false, false, false, false] rfl rfl (any_of HT_.out (by kernel_rfl)) (fun _ _ _ h => h) (Or.inr ⟨by rfl, rfl⟩) ?_ ?_
    rotate_left
    ·
     simp only [Act.put, List.setIfInBounds_toArray, List.set_cons_zero, List.set_cons_succ, i64_w, i32_w]
     rfl
    refine pure_ (i := 9) (N := some 32) (v := undef) (a' := ?_) #[true, true, true, true, true, true, true, true, true, true, false, false, false, false] rfl rfl (any_of HT_.out (by kernel_rfl)) (fun _ _ _ h => h) (Or.inr ⟨by rfl, rfl⟩) ?_ ?_
    rotate_left
    ·
     simp only [Act.put, List.setIfInBounds_toArray, List.set_cons_zero, List.set_cons_succ, i64_w, i32_w]
     rfl
    refine pure_ (i := 10) (N := some 33) (v := undef) (a' := ?_) #[true, true, true, true, true, true, true, true, true, true, true, false, false, false] rfl rfl (any_of HT_.out (by kernel_rfl)) (fun _ _ _ h => h) (Or.inr ⟨by rfl, rfl⟩) ?_ ?_
    rotate_left
    ·
     simp only [Act.put, List.setIfInBounds_toArray, List.set_cons_zero, List.set_cons_succ, i64_w, i32_w]
     rfl
    refine pure_ (i := 11) (N := some 34) (v := undef) (a' := ?_) #[true, true, true, true, true, true, true, true, true, true, true, true, false, false] rfl rfl (any_of HT_.out (by kernel_rfl)) (fun _ _ _ h => h) (Or.inr ⟨by rfl, rfl⟩) ?_ ?_
    rotate_left
    ·
     simp only [Act.put, List.setIfInBounds_toArray, List.set_cons_zero, List.set_cons_succ, i64_w, i32_w]
     rfl
    refine pure_ (i := 12) (N := some 35) (v := undef) (a' := ?_) #[true, true, true, true, true, true, true, true, true, true, true, true, true, false] rfl rfl (any_of HT_.out (by kernel_rfl)) (fun _ _ _ h => h) (Or.inr ⟨by rfl, rfl⟩) ?_ ?_
    rotate_left
    ·
     simp only [Act.put, List.setIfInBounds_toArray, List.set_cons_zero, List.set_cons_succ, i64_w, i32_w]
     rfl
    refine pure_ (i := 13) (N := some 36) (v := ?_) (a' := ?_) #[true, true, true, true, true, true, true, true, true, true, true, true, true, true] rfl rfl (any_of HT_.out (by kernel_rfl)) (fun _ _ _ h => h) (Or.inl ⟨by rfl, ?_⟩) ?_ ?_
    rotate_left
    ·
     intro w'
     go_simp
     with_reducible rfl
    rotate_left
    ·
     simp only [Act.put, List.setIfInBounds_toArray, List.set_cons_zero, List.set_cons_succ, i64_w, i32_w]
     rfl
    refine done_ (done_of HT_.out (by kernel_rfl)) ?_
    try go_wp2
    go_meet
    case rel => exact ⟨_, (true), (by first | rfl | (simp; done) | (simp [*]; done)), H', ⟨by first | omega | exact Nat.le_refl _⟩, ⟨kf_ qa⟩, ⟨kf_ qb⟩, ⟨kf_ qc⟩, ⟨kf_ qd⟩, ⟨bb_ HB⟩⟩
   ·
    rw [if_neg c28] at H
    have q2 : (!(qp == zl) || (!(qs == zm))) = false := by simpa using c28
    clear c28
    (first | rw [q2] | (simp only [i64_w, i32_w]; rw [q2]) | skip)
    replace H := Option.bind_eq_some_iff.mp H
    obtain ⟨⟨z5, z6⟩, A320, H⟩ := H
    replace H : ((impl_MultiplyRatios.f k qh qi qe qf).bind fun qx => (laws_FnRatios.j0 k (!(z5 == qx.1) || (!(z6 == qx.2))) qe qf qh qi qp qs qm qn)) = some r := H
    have A32 := Aside0.mk A320
    clear A320
    replace H := Option.bind_eq_some_iff.mp H
    obtain ⟨⟨ju, jv⟩, A330, H⟩ := H
    replace H : (laws_FnRatios.j0 k (!(z5 == ju) || (!(z6 == jv))) qe qf qh qi qp qs qm qn) = some r := H
    have A33 := Aside0.mk A330
    clear A330
    have H' := Aside0.mk H
    clear H
    try go_wp2
    have n0_ : Aside0 (((zf.setCell ⟨ql, 0, none⟩ (.int .i64 qm)).setCell ⟨ql, 1, none⟩ (.int .i64 qn)).heap[qj]? = some (.cells #[.int .i64 qe, .int .i64 qf] 46 (0, 0))) := ⟨kf_ qa⟩
    have n1_ : Aside0 (((zf.setCell ⟨ql, 0, none⟩ (.int .i64 qm)).setCell ⟨ql, 1, none⟩ (.int .i64 qn)).heap[qk]? = some (.cells #[.int .i64 qh, .int .i64 qi] 46 (0, 0))) := ⟨kf_ qb⟩
    have n2_ : Aside0 (((zf.setCell ⟨ql, 0, none⟩ (.int .i64 qm)).setCell ⟨ql, 1, none⟩ (.int .i64 qn)).heap[qt]? = some (.cells #[.int .i64 qp, .int .i64 qs] 46 (0, 0))) := ⟨kf_ qc⟩
    have n3_ : Aside0 (((zf.setCell ⟨ql, 0, none⟩ (.int .i64 qm)).setCell ⟨ql, 1, none⟩ (.int .i64 qn)).heap[ql]? = some (.cells #[.int .i64 qm, .int .i64 qn] 46 (0, 0))) := ⟨by (with_reducible repeat (first | refine blk_drewN ?_ _ | refine blk_drew ?_ | refine blk_alloc ?_ _)); refine blk_put (cs := #[.int .i64 qm, .int .i64 0]) ?_ 1 _ rfl; (with_reducible repeat (first | refine blk_drewN ?_ _ | refine blk_drew ?_ | refine blk_alloc ?_ _)); refine blk_put (cs := #[.int .i64 0, .int .i64 0]) ?_ 0 _ rfl; (with_reducible repeat (first | refine blk_drewN ?_ _ | refine blk_drew ?_ | refine blk_alloc ?_ _)); exact qd.out⟩
    have n4_ : Aside0 (Below w.heap.size w ((zf.setCell ⟨ql, 0, none⟩ (.int .i64 qm)).setCell ⟨ql, 1, none⟩ (.int .i64 qn))) := ⟨bb_ HB⟩
    (try clear qa)
    (try clear qb)
    (try clear qc)
    (try clear qd)
    (try clear HB)
    generalize ((zf.setCell ⟨ql, 0, none⟩ (.int .i64 qm)).setCell ⟨ql, 1, none⟩ (.int .i64 qn)) = Xh at n0_ n1_ n2_ n3_ n4_ ⊢
    have qa := n0_
    have qb := n1_
    have qc := n2_
    have qd := n3_
    have HB := n4_
    clear n0_ n1_ n2_ n3_ n4_
    replace qa := Aside0.mk (blk_drew qa.out); replace qb := Aside0.mk (blk_drew qb.out); replace qc := Aside0.mk (blk_drew qc.out); replace qd := Aside0.mk (blk_drew qd.out); replace HB := Aside0.mk (below_drew1 HB.out)
    refine start_ (n := 14) (S := fun w' => w'.cell? ⟨qt, 0, none⟩ = some (.int .i64 qp) ∧ w'.cell? ⟨qt, 1, none⟩ = some (.int .i64 qs) ∧ w'.cell? ⟨qk, 0, none⟩ = some (.int .i64 qh) ∧ w'.cell? ⟨qk, 1, none⟩ = some (.int .i64 qi) ∧ w'.cell? ⟨qj, 0, none⟩ = some (.int .i64 qe) ∧ w'.cell? ⟨qj, 1, none⟩ = some (.int .i64 qf)) (ds := []) #[false, false, false, false, false, false, false, false, false, false, false, false, false, false] (by kernel_rfl) rfl rfl ⟨bc_ qc 0, bc_ qc 1, bc_ qb 0, bc_ qb 1, bc_ qa 0, bc_ qa 1⟩ (fun hHeld => ?_); refine with_tabW laws_FnRatios.tab6 laws_FnRatios.bits6 (fun HT_ HW_ => ?_)
    generalize Xh.drew = Xr at qa qb qc qd HB hHeld ⊢
    refine take_ (i := 0) (N := some 23) (v := ?_) (a' := ?_) #[true, false, false, false, false, false, false, false, false, false, false, false, false, false] rfl rfl (take_ofW HT_.out HW_.out (by kernel_rfl)) (fun _ _ _ h => h) (Or.inl ⟨by rfl, ?_⟩) hHeld ?_ ?_
    rotate_left
    ·
     rintro w' ⟨s0, s1, s2, s3, s4, s5⟩
     go_simp
     with_reducible rfl
    rotate_left
    ·
     simp only [Act.put, List.setIfInBounds_toArray, List.set_cons_zero, List.set_cons_succ, i64_w, i32_w]
     rfl
    refine take_ (i := 1) (N := some 24) (v := ?_) (a' := ?_) #[true, true, false, false, false, false, false, false, false, false, false, false, false, false] rfl rfl (take_ofW HT_.out HW_.out (by kernel_rfl)) (fun _ _ _ h => h) (Or.inl ⟨by rfl, ?_⟩) hHeld ?_ ?_
    rotate_left
    ·
     rintro w' ⟨s0, s1, s2, s3, s4, s5⟩
     go_simp
     with_reducible rfl
    rotate_left
    ·
     simp only [Act.put, List.setIfInBounds_toArray, List.set_cons_zero, List.set_cons_succ, i64_w, i32_w]
     rfl
    refine take_ (i := 2) (N := some 25) (v := ?_) (a' := ?_) #[true, true, true, false, false, false, false, false, false, false, false, false, false, false] rfl rfl (take_ofW HT_.out HW_.out (by kernel_rfl)) (fun _ _ _ h => h) (Or.inl ⟨by rfl, ?_⟩) hHeld ?_ ?_
    rotate_left
    ·
     rintro w' ⟨s0, s1, s2, s3, s4, s5⟩
     go_simp
     with_reducible rfl
    rotate_left
    ·
     simp only [Act.put, List.setIfInBounds_toArray, List.set_cons_zero, List.set_cons_succ, i64_w, i32_w]
     rfl
    refine one_ (i := 3) (N := some 26) #[true, true, true, true, false, false, false, false, false, false, false, false, false, false] rfl rfl (one_of HT_.out (by kernel_rfl)) (by decide) (fun K hK => ?_)
    refine goes_ Tryd.func33 (by kernel_rfl) rfl #[.agg #[.int .i64 qh, .int .i64 qi], .agg #[.int .i64 qe, .int .i64 qf]] (by rfl) rfl rfl (by (try simp only [List.map_toArray, List.map_cons, List.map_nil]); first | done | rfl | (simp only [List.length_drop, List.length_take]; rfl)) ?_
    with_reducible refine (impl_AddRatios.calls k qh qi qe qf zl zm _ A27.out).mono ?_
    rintro e Xs ⟨rfl, hb⟩
    refine ⟨_, rfl, ?_⟩
    replace qa := kB_ qa hb; replace qb := kB_ qb hb; replace qc := kB_ qc hb; replace qd := kB_ qd hb; replace HB := bS_ HB hb; (try clear hb); (try clear hb2); (try clear hk); (try clear hi)
    refine hK.out _ _ ⟨bc_ qc 0, bc_ qc 1, bc_ qb 0, bc_ qb 1, bc_ qa 0, bc_ qa 1⟩ (fun hHeld => ?_)
    clear hK K
    refine norm_ (a' := ?_) ?_ ?_
    rotate_left
    ·
     show Act.put _ (some 26) _ = _
     simp only [Act.put, List.setIfInBounds_toArray, List.set_cons_zero, List.set_cons_succ, i64_w, i32_w]
     rfl
    refine pure_ (i := 4) (N := some 27) (v := ?_) (a' := ?_) #[true, true, true, true, true, false, false, false, false, false, false, false, false, false] rfl rfl (any_of HT_.out (by kernel_rfl)) (fun _ _ _ h => h) (Or.inl ⟨by rfl, ?_⟩) ?_ ?_
    rotate_left
    ·
     intro w'
     go_simp
     with_reducible rfl
    rotate_left
    ·
     simp only [Act.put, List.setIfInBounds_toArray, List.set_cons_zero, List.set_cons_succ, i64_w, i32_w]
     rfl
    refine pure_ (i := 5) (N := some 28) (v := ?_) (a' := ?_) #[true, true, true, true, true, true, false, false, false, false, false, false, false, false] rfl rfl (any_of HT_.out (by kernel_rfl)) (fun _ _ _ h => h) (Or.inl ⟨by rfl, ?_⟩) ?_ ?_
    rotate_left
    ·
     intro w'
     go_simp
     with_reducible rfl
    rotate_left
    ·
     simp only [Act.put, List.setIfInBounds_toArray, List.set_cons_zero, List.set_cons_succ, i64_w, i32_w]
     rfl
    refine take_ (i := 6) (N := some 29) (v := ?_) (a' := ?_) #[true, true, true, true, true, true, true, false, false, false, false, false, false, false] rfl rfl (take_ofW HT_.out HW_.out (by kernel_rfl)) (fun _ _ _ h => h) (Or.inl ⟨by rfl, ?_⟩) hHeld ?_ ?_
    rotate_left
    ·
     rintro w' ⟨s0, s1, s2, s3, s4, s5⟩
     go_simp
     with_reducible rfl
    rotate_left
    ·
     simp only [Act.put, List.setIfInBounds_toArray, List.set_cons_zero, List.set_cons_succ, i64_w, i32_w]
     rfl
    refine take_ (i := 7) (N := some 30) (v := ?_) (a' := ?_) #[true, true, true, true, true, true, true, true, false, false, false, false, false, false] rfl rfl (take_ofW HT_.out HW_.out (by kernel_rfl)) (fun _ _ _ h => h) (Or.inl ⟨by rfl, ?_⟩) hHeld ?_ ?_
    rotate_left
    ·
     rintro w' ⟨s0, s1, s2, s3, s4, s5⟩
     go_simp
     with_reducible rfl
    rotate_left
    ·
     simp only [Act.put, List.setIfInBounds_toArray, List.set_cons_zero, List.set_cons_succ, i64_w, i32_w]
     rfl
    refine take_ (i := 9) (N := some 32) (v := ?_) (a' := ?_) #[true, true, true, true, true, true, true, true, false, true, false, false, false, false] rfl rfl (take_ofW HT_.out HW_.out (by kernel_rfl)) (fun _ _ _ h => h) (Or.inl ⟨by rfl, ?_⟩) hHeld ?_ ?_
    rotate_left
    ·
     rintro w' ⟨s0, s1, s2, s3, s4, s5⟩
     go_simp
     with_reducible rfl
    rotate_left
    ·
     simp only [Act.put, List.setIfInBounds_toArray, List.set_cons_zero, List.set_cons_succ, i64_w, i32_w]
     rfl
    refine take_ (i := 10) (N := some 33) (v := ?_) (a' := ?_) #[true, true, true, true, true, true, true, true, false, true, true, false, false, false] rfl rfl (take_ofW HT_.out HW_.out (by kernel_rfl)) (fun _ _ _ h => h) (Or.inl ⟨by rfl, ?_⟩) hHeld ?_ ?_
    rotate_left
    ·
     rintro w' ⟨s0, s1, s2, s3, s4, s5⟩
     go_simp
     with_reducible rfl
    rotate_left
    ·
     simp only [Act.put, List.setIfInBounds_toArray, List.set_cons_zero, List.set_cons_succ, i64_w, i32_w]
     rfl
    refine one_ (i := 8) (N := some 31) #[true, true, true, true, true, true, true, true, true, true, true, false, false, false] rfl rfl (one_of HT_.out (by kernel_rfl)) (by decide) (fun K hK => ?_)
    refine goes_ Tryd.func35 (by kernel_rfl) rfl #[.agg #[.int .i64 qe, .int .i64 qf], .agg #[.int .i64 qh, .int .i64 qi]] (by rfl) rfl rfl (by (try simp only [List.map_toArray, List.map_cons, List.map_nil]); first | done | rfl | (simp only [List.length_drop, List.length_take]; rfl)) ?_
    with_reducible refine (impl_MultiplyRatios.calls k qe qf qh qi z5 z6 _ A32.out).mono ?_
    rintro e Xt ⟨rfl, hb⟩
    refine ⟨_, rfl, ?_⟩
    replace qa := kB_ qa hb; replace qb := kB_ qb hb; replace qc := kB_ qc hb; replace qd := kB_ qd hb; replace HB := bS_ HB hb; (try clear hb); (try clear hb2); (try clear hk); (try clear hi)
    refine hK.out _ _ ⟨bc_ qc 0, bc_ qc 1, bc_ qb 0, bc_ qb 1, bc_ qa 0, bc_ qa 1⟩ (fun hHeld => ?_)
    clear hK K
    refine norm_ (a' := ?_) ?_ ?_
    rotate_left
    ·
     show Act.put _ (some 31) _ = _
     simp only [Act.put, List.setIfInBounds_toArray, List.set_cons_zero, List.set_cons_succ, i64_w, i32_w]
     rfl
    refine one_ (i := 11) (N := some 34) #[true, true, true, true, true, true, true, true, true, true, true, true, false, false] rfl rfl (one_of HT_.out (by kernel_rfl)) (by decide) (fun K hK => ?_)
    refine goes_ Tryd.func35 (by kernel_rfl) rfl #[.agg #[.int .i64 qh, .int .i64 qi], .agg #[.int .i64 qe, .int .i64 qf]] (by rfl) rfl rfl (by (try simp only [List.map_toArray, List.map_cons, List.map_nil]); first | done | rfl | (simp only [List.length_drop, List.length_take]; rfl)) ?_
    with_reducible refine (impl_MultiplyRatios.calls k qh qi qe qf ju jv _ A33.out).mono ?_
    rintro e Xu ⟨rfl, hb⟩
    refine ⟨_, rfl, ?_⟩
    replace qa := kB_ qa hb; replace qb := kB_ qb hb; replace qc := kB_ qc hb; replace qd := kB_ qd hb; replace HB := bS_ HB hb; (try clear hb); (try clear hb2); (try clear hk); (try clear hi)
    refine hK.out _ _ ⟨bc_ qc 0, bc_ qc 1, bc_ qb 0, bc_ qb 1, bc_ qa 0, bc_ qa 1⟩ (fun hHeld => ?_)
    clear hK K
    refine norm_ (a' := ?_) ?_ ?_
    rotate_left
    ·
     show Act.put _ (some 34) _ = _
     simp only [Act.put, List.setIfInBounds_toArray, List.set_cons_zero, List.set_cons_succ, i64_w, i32_w]
     rfl
    refine pure_ (i := 12) (N := some 35) (v := ?_) (a' := ?_) #[true, true, true, true, true, true, true, true, true, true, true, true, true, false] rfl rfl (any_of HT_.out (by kernel_rfl)) (fun _ _ _ h => h) (Or.inl ⟨by rfl, ?_⟩) ?_ ?_
    rotate_left
    ·
     intro w'
     go_simp
     with_reducible rfl
    rotate_left
    ·
     simp only [Act.put, List.setIfInBounds_toArray, List.set_cons_zero, List.set_cons_succ, i64_w, i32_w]
     rfl
    refine pure_ (i := 13) (N := some 36) (v := ?_) (a' := ?_) #[true, true, true, true, true, true, true, true, true, true, true, true, true, true] rfl rfl (any_of HT_.out (by kernel_rfl)) (fun _ _ _ h => h) (Or.inl ⟨by rfl, ?_⟩) ?_ ?_
    rotate_left
    ·
     intro w'
     go_simp
     with_reducible rfl
    rotate_left
    ·
     simp only [Act.put, List.setIfInBounds_toArray, List.set_cons_zero, List.set_cons_succ, i64_w, i32_w]
     rfl
    refine done_ (done_of HT_.out (by kernel_rfl)) ?_
    try go_wp2
    go_meet
    case rel => exact ⟨_, ((!(z5 == ju) || (!(z6 == jv)))), (by first | rfl | (simp; done) | (simp [*]; done)), H', ⟨by first | omega | exact Nat.le_refl _⟩, ⟨kf_ qa⟩, ⟨kf_ qb⟩, ⟨kf_ qc⟩, ⟨kf_ qd⟩, ⟨bb_ HB⟩⟩
  case rest =>
   clear HC7
   try clear c1
   try clear c2
   try clear p2
   try clear c3
   try clear c8
   try clear c11
   try clear c16
   try clear c17
   try clear c23
   try clear c24
   try clear c25
   try clear c28
   try clear q2
   try clear c31
   try clear c32
   try clear c33
   try clear c34
   try clear c35
   try clear zH
   try clear zI
   try clear zL
   try clear zM
   try clear zP
   try clear zQ
   try clear zT
   try clear zU
   try clear zX
   try clear zY
   try clear z1
   try clear z2
   try clear zJ
   try clear zK
   try clear zN
   try clear zO
   try clear zR
   try clear zS
   try clear zV
   try clear zW
   try clear zZ
   try clear z0
   try clear z3
   try clear z4
   obtain ⟨kq, zg, rfl, HA, HJ6, qa, qb, qc, qd, HB⟩ := hcut
   cases kq with
   | zero => exact absurd HA.out (by simp [laws_FnRatios.j0])
   | succ kj6 =>
    have H := HA.out
    clear HA
    simp only [laws_FnRatios.j0] at H
    by_cases c39 : zg = true
    ·
     subst c39
     have H1 : (some false) = some r := by rw [if_pos rfl] at H; exact H
     clear H
     have H := H1
     clear H1
     obtain rfl := Option.some.inj H
     go_wp2
     go_ret
     exact ⟨by first | rfl | (simp [errW_none, errW_some] <;> rfl) | (simp [*, errW_none, errW_some] <;> rfl), bb_ HB⟩
    ·
     replace c39 := Bool.eq_false_iff.mpr c39
     subst c39
     have H1 : ((spec_IsRatio.f kj6 qp qs).bind fun zh => (if zh = true then ((impl_NegateRatio.f kj6 qh qi).bind fun qS => ((impl_AddRatios.f kj6 qp qs qS.1 qS.2).bind fun qQ => (if (!(qQ.1 == qe) || (!(qQ.2 == qf))) = true then (laws_FnRatios.j1 kj6 true qe qf qh qi) else ((spec_IsRatio.f kj6 qm qn).bind fun qU => (if qU = true then ((impl_MultiplyRatios.f kj6 qm qn qh qi).bind fun qC => (laws_FnRatios.j1 kj6 (!(qC.1 == qe) || (!(qC.2 == qf))) qe qf qh qi)) else (laws_FnRatios.j1 kj6 false qe qf qh qi)))))) else ((spec_IsRatio.f kj6 qm qn).bind fun qY => (if qY = true then ((impl_MultiplyRatios.f kj6 qm qn qh qi).bind fun qN => (laws_FnRatios.j1 kj6 (!(qN.1 == qe) || (!(qN.2 == qf))) qe qf qh qi)) else (laws_FnRatios.j1 kj6 false qe qf qh qi))))) = some r := by rw [if_neg (show ¬ (false = true) by decide)] at H; exact H
     clear H
     have H := H1
     clear H1
     have HC40 := Aside0.mk H
     clear H
     go_upto_region 8 with (fail)
     go_cut [57] (fun v57 wc => ∃ (kq : Nat) (q8 : Bool), v57 = .bool q8 ∧ Aside0 (laws_FnRatios.j1 kq q8 qe qf qh qi = some r) ∧ Aside0 (kq ≤ kj6) ∧ Aside0 (wc.heap[qj]? = some (.cells #[.int .i64 qe, .int .i64 qf] 46 (0, 0))) ∧ Aside0 (wc.heap[qk]? = some (.cells #[.int .i64 qh, .int .i64 qi] 46 (0, 0))) ∧ Aside0 (wc.heap[qt]? = some (.cells #[.int .i64 qp, .int .i64 qs] 46 (0, 0))) ∧ Aside0 (wc.heap[ql]? = some (.cells #[.int .i64 qm, .int .i64 qn] 46 (0, 0))) ∧ Aside0 (Below w.heap.size w wc))
     case first =>
      have H := HC40.out
      clear HC40
      replace H := Option.bind_eq_some_iff.mp H
      obtain ⟨zh, A410, H⟩ := H
      replace H : (if zh = true then ((impl_NegateRatio.f kj6 qh qi).bind fun qS => ((impl_AddRatios.f kj6 qp qs qS.1 qS.2).bind fun qQ => (if (!(qQ.1 == qe) || (!(qQ.2 == qf))) = true then (laws_FnRatios.j1 kj6 true qe qf qh qi) else ((spec_IsRatio.f kj6 qm qn).bind fun qU => (if qU = true then ((impl_MultiplyRatios.f kj6 qm qn qh qi).bind fun qC => (laws_FnRatios.j1 kj6 (!(qC.1 == qe) || (!(qC.2 == qf))) qe qf qh qi)) else (laws_FnRatios.j1 kj6 false qe qf qh qi)))))) else ((spec_IsRatio.f kj6 qm qn).bind fun qY => (if qY = true then ((impl_MultiplyRatios.f kj6 qm qn qh qi).bind fun qN => (laws_FnRatios.j1 kj6 (!(qN.1 == qe) || (!(qN.2 == qf))) qe qf qh qi)) else (laws_FnRatios.j1 kj6 false qe qf qh qi)))) = some r := H
      have A41 := Aside0.mk A410
      clear A410
      by_cases c42 : zh = true
      ·
       subst c42
       have H1 : ((impl_NegateRatio.f kj6 qh qi).bind fun qS => ((impl_AddRatios.f kj6 qp qs qS.1 qS.2).bind fun qQ => (if (!(qQ.1 == qe) || (!(qQ.2 == qf))) = true then (laws_FnRatios.j1 kj6 true qe qf qh qi) else ((spec_IsRatio.f kj6 qm qn).bind fun qU => (if qU = true then ((impl_MultiplyRatios.f kj6 qm qn qh qi).bind fun qC => (laws_FnRatios.j1 kj6 (!(qC.1 == qe) || (!(qC.2 == qf))) qe qf qh qi)) else (laws_FnRatios.j1 kj6 false qe qf qh qi)))))) = some r := by rw [if_pos rfl] at H; exact H
       clear H
       have H := H1
       clear H1
       replace H := Option.bind_eq_some_iff.mp H
       obtain ⟨⟨qZ, q0⟩, A430, H⟩ := H
       replace H : ((impl_AddRatios.f kj6 qp qs qZ q0).bind fun qQ => (if (!(qQ.1 == qe) || (!(qQ.2 == qf))) = true then (laws_FnRatios.j1 kj6 true qe qf qh qi) else ((spec_IsRatio.f kj6 qm qn).bind fun qU => (if qU = true then ((impl_MultiplyRatios.f kj6 qm qn qh qi).bind fun qC => (laws_FnRatios.j1 kj6 (!(qC.1 == qe) || (!(qC.2 == qf))) qe qf qh qi)) else (laws_FnRatios.j1 kj6 false qe qf qh qi))))) = some r := H
       have A43 := Aside0.mk A430
       clear A430
       replace H := Option.bind_eq_some_iff.mp H
       obtain ⟨⟨zd, ze⟩, A440, H⟩ := H
       replace H : (if (!(zd == qe) || (!(ze == qf))) = true then (laws_FnRatios.j1 kj6 true qe qf qh qi) else ((spec_IsRatio.f kj6 qm qn).bind fun qU => (if qU = true then ((impl_MultiplyRatios.f kj6 qm qn qh qi).bind fun qC => (laws_FnRatios.j1 kj6 (!(qC.1 == qe) || (!(qC.2 == qf))) qe qf qh qi)) else (laws_FnRatios.j1 kj6 false qe qf qh qi)))) = some r := H
       have A44 := Aside0.mk A440
       clear A440
       by_cases c45 : (!(zd == qe) || (!(ze == qf))) = true
       ·
        rw [if_pos c45] at H
        have zc : (!(zd == qe) || (!(ze == qf))) = true := c45
        clear c45
        (first | rw [zc] | (simp only [i64_w, i32_w]; rw [zc]) | skip)
        have H' := Aside0.mk H
        clear H
        try go_wp2
        replace qa := Aside0.mk (blk_drew qa.out); replace qb := Aside0.mk (blk_drew qb.out); replace qc := Aside0.mk (blk_drew qc.out); replace qd := Aside0.mk (blk_drew qd.out); replace HB := Aside0.mk (below_drew1 HB.out)
        refine start_ (n := 21) (S := fun w' => w'.cell? ⟨qt, 0, none⟩ = some (.int .i64 qp) ∧ w'.cell? ⟨qt, 1, none⟩ = some (.int .i64 qs) ∧ w'.cell? ⟨qk, 0, none⟩ = some (.int .i64 qh) ∧ w'.cell? ⟨qk, 1, none⟩ = some (.int .i64 qi) ∧ w'.cell? ⟨qj, 0, none⟩ = some (.int .i64 qe) ∧ w'.cell? ⟨qj, 1, none⟩ = some (.int .i64 qf)) (ds := []) #[false, false, false, false, false, false, false, false, false, false, false, false, false, false, false, false, false, false, false, false, false] (by kernel_rfl) rfl rfl ⟨bc_ qc 0, bc_ qc 1, bc_ qb 0, bc_ qb 1, bc_ qa 0, bc_ qa 1⟩ (fun hHeld => ?_); refine with_tabW laws_FnRatios.tab8 laws_FnRatios.bits8 (fun HT_ HW_ => ?_)
        generalize wc.drew = Xv at qa qb qc qd HB hHeld ⊢
        refine take_ (i := 0) (N := some 37) (v := ?_) (a' := ?_) #[true, false, false, false, false, false, false, false, false, false, false, false, false, false, false, false, false, false, false, false, false] rfl rfl (take_ofW HT_.out HW_.out (by kernel_rfl)) (fun _ _ _ h => h) (Or.inl ⟨by rfl, ?_⟩) hHeld ?_ ?_
        rotate_left
        ·
         rintro w' ⟨s0, s1, s2, s3, s4, s5⟩
         go_simp
         with_reducible rfl
        rotate_left
        ·
         simp only [Act.put, List.setIfInBounds_toArray, List.set_cons_zero, List.set_cons_succ, i64_w, i32_w]
         rfl
        refine one_ (i := 1) (N := some 38) #[true, true, false, false, false, false, false, false, false, false, false, false, false, false, false, false, false, false, false, false, false] rfl rfl (one_of HT_.out (by kernel_rfl)) (by decide) (fun K hK => ?_)
        refine goes_ Tryd.func36 (by kernel_rfl) rfl #[.agg #[.int .i64 qp, .int .i64 qs]] (by rfl) rfl rfl (by (try simp only [List.map_toArray, List.map_cons, List.map_nil]); first | done | rfl | (simp only [List.length_drop, List.length_take]; rfl)) ?_
        with_reducible refine (spec_IsRatio.calls kj6 qp qs true _ A41.out).mono ?_
        rintro e Xw ⟨rfl, hb⟩
        refine ⟨_, rfl, ?_⟩
        replace qa := kB_ qa hb; replace qb := kB_ qb hb; replace qc := kB_ qc hb; replace qd := kB_ qd hb; replace HB := bS_ HB hb; (try clear hb); (try clear hb2); (try clear hk); (try clear hi)
        refine hK.out _ _ ⟨bc_ qc 0, bc_ qc 1, bc_ qb 0, bc_ qb 1, bc_ qa 0, bc_ qa 1⟩ (fun hHeld => ?_)
        clear hK K
        refine norm_ (a' := ?_) ?_ ?_
        rotate_left
        ·
         show Act.put _ (some 38) _ = _
         simp only [Act.put, List.setIfInBounds_toArray, List.set_cons_zero, List.set_cons_succ, i64_w, i32_w]
         rfl
        refine pure_ (i := 2) (N := some 39) (v := ?_) (a' := ?_) #[true, true, true, false, false, false, false, false, false, false, false, false, false, false, false, false, false, false, false, false, false] rfl rfl (any_of HT_.out (by kernel_rfl)) (fun _ _ _ h => h) (Or.inl ⟨by rfl, ?_⟩) ?_ ?_
        rotate_left
        ·
         intro w'
         go_simp
         with_reducible rfl
        rotate_left
        ·
         simp only [Act.put, List.setIfInBounds_toArray, List.set_cons_zero, List.set_cons_succ, i64_w, i32_w]
         rfl
        refine take_ (i := 3) (N := some 40) (v := ?_) (a' := ?_) #[true, true, true, true, false, false, false, false, false, false, false, false, false, false, false, false, false, false, false, false, false] rfl rfl (take_ofW HT_.out HW_.out (by kernel_rfl)) (fun _ _ _ h => h) (Or.inl ⟨by rfl, ?_⟩) hHeld ?_ ?_
        rotate_left
        ·
         rintro w' ⟨s0, s1, s2, s3, s4, s5⟩
         go_simp
         with_reducible rfl
        rotate_left
        ·
         simp only [Act.put, List.setIfInBounds_toArray, List.set_cons_zero, List.set_cons_succ, i64_w, i32_w]
         rfl
        refine take_ (i := 4) (N := some 41) (v := ?_) (a' := ?_) #[true, true, true, true, true, false, false, false, false, false, false, false, false, false, false, false, false, false, false, false, false] rfl rfl (take_ofW HT_.out HW_.out (by kernel_rfl)) (fun _ _ _ h => h) (Or.inl ⟨by rfl, ?_⟩) hHeld ?_ ?_
        rotate_left
        ·
         rintro w' ⟨s0, s1, s2, s3, s4, s5⟩
         go_simp
         with_reducible rfl
        rotate_left
        ·
         simp only [Act.put, List.setIfInBounds_toArray, List.set_cons_zero, List.set_cons_succ, i64_w, i32_w]
         rfl
        refine take_ (i := 7) (N := some 44) (v := ?_) (a' := ?_) #[true, true, true, true, true, false, false, true, false, false, false, false, false, false, false, false, false, false, false, false, false] rfl rfl (take_ofW HT_.out HW_.out (by kernel_rfl)) (fun _ _ _ h => h) (Or.inl ⟨by rfl, ?_⟩) hHeld ?_ ?_
        rotate_left
        ·
         rintro w' ⟨s0, s1, s2, s3, s4, s5⟩
         go_simp
         with_reducible rfl
        rotate_left
        ·
         simp only [Act.put, List.setIfInBounds_toArray, List.set_cons_zero, List.set_cons_succ, i64_w, i32_w]
         rfl
        refine one_ (i := 5) (N := some 42) #[true, true, true, true, true, true, false, true, false, false, false, false, false, false, false, false, false, false, false, false, false] rfl rfl (one_of HT_.out (by kernel_rfl)) (by decide) (fun K hK => ?_)
        refine goes_ Tryd.func37 (by kernel_rfl) rfl #[.agg #[.int .i64 qh, .int .i64 qi]] (by rfl) rfl rfl (by (try simp only [List.map_toArray, List.map_cons, List.map_nil]); first | done | rfl | (simp only [List.length_drop, List.length_take]; rfl)) ?_
        with_reducible refine (impl_NegateRatio.calls kj6 qh qi qZ q0 _ A43.out).mono ?_
        rintro e Xx ⟨rfl, hb⟩
        refine ⟨_, rfl, ?_⟩
        replace qa := kB_ qa hb; replace qb := kB_ qb hb; replace qc := kB_ qc hb; replace qd := kB_ qd hb; replace HB := bS_ HB hb; (try clear hb); (try clear hb2); (try clear hk); (try clear hi)
        refine hK.out _ _ ⟨bc_ qc 0, bc_ qc 1, bc_ qb 0, bc_ qb 1, bc_ qa 0, bc_ qa 1⟩ (fun hHeld => ?_)
        clear hK K
        refine norm_ (a' := ?_) ?_ ?_
        rotate_left
        ·
         show Act.put _ (some 42) _ = _
         simp only [Act.put, List.setIfInBounds_toArray, List.set_cons_zero, List.set_cons_succ, i64_w, i32_w]
         rfl
        refine one_ (i := 6) (N := some 43) #[true, true, true, true, true, true, true, true, false, false, false, false, false, false, false, false, false, false, false, false, false] rfl rfl (one_of HT_.out (by kernel_rfl)) (by decide) (fun K hK => ?_)
        refine goes_ Tryd.func33 (by kernel_rfl) rfl #[.agg #[.int .i64 qp, .int .i64 qs], .agg #[.int .i64 qZ, .int .i64 q0]] (by rfl) rfl rfl (by (try simp only [List.map_toArray, List.map_cons, List.map_nil]); first | done | rfl | (simp only [List.length_drop, List.length_take]; rfl)) ?_
        with_reducible refine (impl_AddRatios.calls kj6 qp qs qZ q0 zd ze _ A44.out).mono ?_
        rintro e Xy ⟨rfl, hb⟩
        refine ⟨_, rfl, ?_⟩
        replace qa := kB_ qa hb; replace qb := kB_ qb hb; replace qc := kB_ qc hb; replace qd := kB_ qd hb; replace HB := bS_ HB hb; (try clear hb); (try clear hb2); (try clear hk); (try clear hi)
        refine hK.out _ _ ⟨bc_ qc 0, bc_ qc 1, bc_ qb 0, bc_ qb 1, bc_ qa 0, bc_ qa 1⟩ (fun hHeld => ?_)
        clear hK K
        refine norm_ (a' := ?_) ?_ ?_
        rotate_left
        ·
         show Act.put _ (some 43) _ = _
         simp only [Act.put, List.setIfInBounds_toArray, List.set_cons_zero, List.set_cons_succ, i64_w, i32_w]
         rfl
        refine pure_ (i := 8) (N := some 45) (v := ?_) (a' := ?_) #[true, true, true, true, true, true, true, true, true, false, false, false, false, false, false, false, false, false, false, false, false] rfl rfl (any_of HT_.out (by kernel_rfl)) (fun _ _ _ h => h) (Or.inl ⟨by rfl, ?_⟩) ?_ ?_
        rotate_left
        ·
         intro w'
         go_simp
         with_reducible rfl
        rotate_left
        ·
         simp only [Act.put, List.setIfInBounds_toArray, List.set_cons_zero, List.set_cons_succ, i64_w, i32_w]
         rfl
        refine pure_ (i := 9) (N := some 46) (v := ?_) (a' := ?_) #[true, true, true, true, true, true, true, true, true, true, false, false, false, false, false, false, false, false, false, false, false] rfl rfl (any_of HT_.out (by kernel_rfl)) (fun _ _ _ h => h) (Or.inl ⟨by rfl, ?_⟩) ?_ ?_
        rotate_left
        ·
         intro w'
         go_simp
         with_reducible rfl
        rotate_left
        ·
         simp only [Act.put, List.setIfInBounds_toArray, List.set_cons_zero, List.set_cons_succ, i64_w, i32_w]
         rfl
        refine pure_ (i := 10) (N := some 47) (v := ?_) (a' := ?_) #[true, true, true, true, true, true, true, true, true, true, true, false, false, false, false, false, false, false, false, false, false] rfl rfl (any_of HT_.out (by kernel_rfl)) (fun _ _ _ h => h) (Or.inl ⟨by rfl, ?_⟩) ?_ ?_
        rotate_left
        ·
         intro w'
         go_simp
         with_reducible rfl
        rotate_left
        ·
         simp only [Act.put, List.setIfInBounds_toArray, List.set_cons_zero, List.set_cons_succ, i64_w, i32_w]
         rfl
        refine pure_ (i := 11) (N := some 48) (v := undef) (a' := ?_) #[true, true, true, true, true, true, true, true, true, true, true, true, false, false, false, false, false, false, false, false, false] rfl rfl (any_of HT_.out (by kernel_rfl)) (fun _ _ _ h => h) (Or.inr ⟨by rfl, rfl⟩) ?_ ?_
        rotate_left
        ·
         simp only [Act.put, List.setIfInBounds_toArray, List.set_cons_zero, List.set_cons_succ, i64_w, i32_w]
         rfl
        refine pure_ (i := 12) (N := some 49) (v := undef) (a' := ?_) #[true, true, true, true, true, true, true, true, true, true, true, true, true, false, false, false, false, false, false, false, false] rfl rfl (any_of HT_.out (by kernel_rfl)) (fun _ _ _ h => h) (Or.inr ⟨by rfl, rfl⟩) ?_ ?_
        rotate_left
        ·
         simp only [Act.put, List.setIfInBounds_toArray, List.set_cons_zero, List.set_cons_succ, i64_w, i32_w]
         rfl
        refine pure_ (i := 13) (N := some 50) (v := undef) (a' := ?_) #[true, true, true, true, true, true, true, true, true, true, true, true, true, true, false, false, false, false, false, false, false] rfl rfl (any_of HT_.out (by kernel_rfl)) (fun _ _ _ h => h) (Or.inr ⟨by rfl, rfl⟩) ?_ ?_
        rotate_left
        ·
         simp only [Act.put, List.setIfInBounds_toArray, List.set_cons_zero, List.set_cons_succ, i64_w, i32_w]
         rfl
        refine pure_ (i := 14) (N := some 51) (v := undef) (a' := ?_) #[true, true, true, true, true, true, true, true, true, true, true, true, true, true, true, false, false, false, false, false, false] rfl rfl (any_of HT_.out (by kernel_rfl)) (fun _ _ _ h => h) (Or.inr ⟨by rfl, rfl⟩) ?_ ?_
        rotate_left
        ·
         simp only [Act.put, List.setIfInBounds_toArray, List.set_cons_zero, List.set_cons_succ, i64_w, i32_w]
         rfl
        refine pure_ (i := 15) (N := some 52) (v := undef) (a' := ?_) #[true, true, true, true, true, true, true, true, true, true, true, true, true, true, true, true, false, false, false, false, false] rfl rfl (any_of HT_.out (by kernel_rfl)) (fun _ _ _ h => h) (Or.inr ⟨by rfl, rfl⟩) ?_ ?_
        rotate_left
        ·
         simp only [Act.put, List.setIfInBounds_toArray, List.set_cons_zero, List.set_cons_succ, i64_w, i32_w]
         rfl
        refine pure_ (i := 16) (N := some 53) (v := undef) (a' := ?_) #[true, true, true, true, true, true, true, true, true, true, true, true, true, true, true, true, true, false, false, false, false] rfl rfl (any_of HT_.out (by kernel_rfl)) (fun _ _ _ h => h) (Or.inr ⟨by rfl, rfl⟩) ?_ ?_
        rotate_left
        ·
         simp only [Act.put, List.setIfInBounds_toArray, List.set_cons_zero, List.set_cons_succ, i64_w, i32_w]
         rfl
        refine pure_ (i := 17) (N := some 54) (v := undef) (a' := ?_) #[true, true, true, true, true, true, true, true, true, true, true, true, true, true, true, true, true, true, false, false, false] rfl rfl (any_of HT_.out (by kernel_rfl)) (fun _ _ _ h => h) (Or.inr ⟨by rfl, rfl⟩) ?_ ?_
        rotate_left
        ·
         simp only [Act.put, List.setIfInBounds_toArray, List.set_cons_zero, List.set_cons_succ, i64_w, i32_w]
         rfl
        refine pure_ (i := 18) (N := some 55) (v := undef) (a' := ?_) #[true, true, true, true, true, true, true, true, true, true, true, true, true, true, true, true, true, true, true, false, false] rfl rfl (any_of HT_.out (by kernel_rfl)) (fun _ _ _ h => h) (Or.inr ⟨by rfl, rfl⟩) ?_ ?_
        rotate_left
        ·
         simp only [Act.put, List.setIfInBounds_toArray, List.set_cons_zero, List.set_cons_succ, i64_w, i32_w]
         rfl
        refine pure_ (i := 19) (N := some 56) (v := undef) (a' := ?_) #[true, true, true, true, true, true, true, true, true, true, true, true, true, true, true, true, true, true, true, true, false] rfl rfl (any_of HT_.out (by kernel_rfl)) (fun _ _ _ h => h) (Or.inr ⟨by rfl, rfl⟩) ?_ ?_
        rotate_left
        ·
         simp only [Act.put, List.setIfInBounds_toArray, List.set_cons_zero, List.set_cons_succ, i64_w, i32_w]
         rfl
        refine pure_ (i := 20) (N := some 57) (v := ?_) (a' := ?_) #[true, true, true, true, true, true, true, true, true, true, true, true, true, true, true, true, true, true, true, true, true] rfl rfl (any_of HT_.out (by kernel_rfl)) (fun _ _ _ h => h) (Or.inl ⟨by rfl, ?_⟩) ?_ ?_
        rotate_left
        ·
         intro w'
         go_simp
         with_reducible rfl
        rotate_left
        ·
         simp only [Act.put, List.setIfInBounds_toArray, List.set_cons_zero, List.set_cons_succ, i64_w, i32_w]
         rfl
        refine done_ (done_of HT_.out (by kernel_rfl)) ?_
        try go_wp2
        go_meet
        case rel => exact ⟨_, (true), (by first | rfl | (simp; done) | (simp [*]; done)), H', ⟨by have := HJ6.out; first | omega | exact Nat.le_refl _⟩, ⟨kf_ qa⟩, ⟨kf_ qb⟩, ⟨kf_ qc⟩, ⟨kf_ qd⟩, ⟨bb_ HB⟩⟩
       ·
        rw [if_neg c45] at H
        have zc : (!(zd == qe) || (!(ze == qf))) = false := by simpa using c45
        clear c45
        (first | rw [zc] | (simp only [i64_w, i32_w]; rw [zc]) | skip)
        replace H := Option.bind_eq_some_iff.mp H
        obtain ⟨qU, A500, H⟩ := H
        replace H : (if qU = true then ((impl_MultiplyRatios.f kj6 qm qn qh qi).bind fun qC => (laws_FnRatios.j1 kj6 (!(qC.1 == qe) || (!(qC.2 == qf))) qe qf qh qi)) else (laws_FnRatios.j1 kj6 false qe qf qh qi)) = some r := H
        have A50 := Aside0.mk A500
        clear A500
        by_cases c51 : qU = true
        ·
         subst c51
         have H1 : ((impl_MultiplyRatios.f kj6 qm qn qh qi).bind fun qC => (laws_FnRatios.j1 kj6 (!(qC.1 == qe) || (!(qC.2 == qf))) qe qf qh qi)) = some r := by rw [if_pos rfl] at H; exact H
         clear H
         have H := H1
         clear H1
         replace H := Option.bind_eq_some_iff.mp H
         obtain ⟨⟨jw, jx⟩, A520, H⟩ := H
         replace H : (laws_FnRatios.j1 kj6 (!(jw == qe) || (!(jx == qf))) qe qf qh qi) = some r := H
         have A52 := Aside0.mk A520
         clear A520
         have H' := Aside0.mk H
         clear H
         try go_wp2
         replace qa := Aside0.mk (blk_drew qa.out); replace qb := Aside0.mk (blk_drew qb.out); replace qc := Aside0.mk (blk_drew qc.out); replace qd := Aside0.mk (blk_drew qd.out); replace HB := Aside0.mk (below_drew1 HB.out)
         refine start_ (n := 21) (S := fun w' => w'.cell? ⟨qt, 0, none⟩ = some (.int .i64 qp) ∧ w'.cell? ⟨qt, 1, none⟩ = some (.int .i64 qs) ∧ w'.cell? ⟨qk, 0, none⟩ = some (.int .i64 qh) ∧ w'.cell? ⟨qk, 1, none⟩ = some (.int .i64 qi) ∧ w'.cell? ⟨qj, 0, none⟩ = some (.int .i64 qe) ∧ w'.cell? ⟨qj, 1, none⟩ = some (.int .i64 qf) ∧ w'.cell? ⟨ql, 0, none⟩ = some (.int .i64 qm) ∧ w'.cell? ⟨ql, 1, none⟩ = some (.int .i64 qn)) (ds := []) #[false, false, false, false, false, false, false, false, false, false, false, false, false, false, false, false, false, false, false, false, false] (by kernel_rfl) rfl rfl ⟨bc_ qc 0, bc_ qc 1, bc_ qb 0, bc_ qb 1, bc_ qa 0, bc_ qa 1, bc_ qd 0, bc_ qd 1⟩ (fun hHeld => ?_); refine with_tabW laws_FnRatios.tab8 laws_FnRatios.bits8 (fun HT_ HW_ => ?_)
         generalize wc.drew = Xz at qa qb qc qd HB hHeld ⊢
         refine take_ (i := 0) (N := some 37) (v := ?_) (a' := ?_) #[true, false, false, false, false, false, false, false, false, false, false, false, false, false, false, false, false, false, false, false, false] rfl rfl (take_ofW HT_.out HW_.out (by kernel_rfl)) (fun _ _ _ h => h) (Or.inl ⟨by rfl, ?_⟩) hHeld ?_ ?_
         rotate_left
         ·
          rintro w' ⟨s0, s1, s2, s3, s4, s5, s6, s7⟩
          go_simp
          with_reducible rfl
         rotate_left
         ·
          simp only [Act.put, List.setIfInBounds_toArray, List.set_cons_zero, List.set_cons_succ, i64_w, i32_w]
          rfl
         refine one_ (i := 1) (N := some 38) #[true, true, false, false, false, false, false, false, false, false, false, false, false, false, false, false, false, false, false, false, false] rfl rfl (one_of HT_.out (by kernel_rfl)) (by decide) (fun K hK => ?_)
         refine goes_ Tryd.func36 (by kernel_rfl) rfl #[.agg #[.int .i64 qp, .int .i64 qs]] (by rfl) rfl rfl (by (try simp only [List.map_toArray, List.map_cons, List.map_nil]); first | done | rfl | (simp only [List.length_drop, List.length_take]; rfl)) ?_
         with_reducible refine (spec_IsRatio.calls kj6 qp qs true _ A41.out).mono ?_
         rintro e XA ⟨rfl, hb⟩
         refine ⟨_, rfl, ?_⟩
         replace qa := kB_ qa hb; replace qb := kB_ qb hb; replace qc := kB_ qc hb; replace qd := kB_ qd hb; replace HB := bS_ HB hb; (try clear hb); (try clear hb2); (try clear hk); (try clear hi)
         refine hK.out _ _ ⟨bc_ qc 0, bc_ qc 1, bc_ qb 0, bc_ qb 1, bc_ qa 0, bc_ qa 1, bc_ qd 0, bc_ qd 1⟩ (fun hHeld => ?_)
         clear hK K
         refine norm_ (a' := ?_) ?_ ?_
         rotate_left
         ·
          show Act.put _ (some 38) _ = _
          simp only [Act.put, List.setIfInBounds_toArray, List.set_cons_zero, List.set_cons_succ, i64_w, i32_w]
          rfl
         refine pure_ (i := 2) (N := some 39) (v := ?_) (a' := ?_) #[true, true, true, false, false, false, false, false, false, false, false, false, false, false, false, false, false, false, false, false, false] rfl rfl (any_of HT_.out (by kernel_rfl)) (fun _ _ _ h => h) (Or.inl ⟨by rfl, ?_⟩) ?_ ?_
         rotate_left
         ·
          intro w'
          go_simp
          with_reducible rfl
         rotate_left
         ·
          simp only [Act.put, List.setIfInBounds_toArray, List.set_cons_zero, List.set_cons_succ, i64_w, i32_w]
          rfl
         refine take_ (i := 3) (N := some 40) (v := ?_) (a' := ?_) #[true, true, true, true, false, false, false, false, false, false, false, false, false, false, false, false, false, false, false, false, false] rfl rfl (take_ofW HT_.out HW_.out (by kernel_rfl)) (fun _ _ _ h => h) (Or.inl ⟨by rfl, ?_⟩) hHeld ?_ ?_
         rotate_left
         ·
          rintro w' ⟨s0, s1, s2, s3, s4, s5, s6, s7⟩
          go_simp
          with_reducible rfl
         rotate_left
         ·
          simp only [Act.put, List.setIfInBounds_toArray, List.set_cons_zero, List.set_cons_succ, i64_w, i32_w]
          rfl
         refine take_ (i := 4) (N := some 41) (v := ?_) (a' := ?_) #[true, true, true, true, true, false, false, false, false, false, false, false, false, false, false, false, false, false, false, false, false] rfl rfl (take_ofW HT_.out HW_.out (by kernel_rfl)) (fun _ _ _ h => h) (Or.inl ⟨by rfl, ?_⟩) hHeld ?_ ?_
         rotate_left
         ·
          rintro w' ⟨s0, s1, s2, s3, s4, s5, s6, s7⟩
          go_simp
          with_reducible rfl
         rotate_left
         ·
          simp only [Act.put, List.setIfInBounds_toArray, List.set_cons_zero, List.set_cons_succ, i64_w, i32_w]
          rfl
         refine take_ (i := 7) (N := some 44) (v := ?_) (a' := ?_) #[true, true, true, true, true, false, false, true, false, false, false, false, false, false, false, false, false, false, false, false, false] rfl rfl (take_ofW HT_.out HW_.out (by kernel_rfl)) (fun _ _ _ h => h) (Or.inl ⟨by rfl, ?_⟩) hHeld ?_ ?_
         rotate_left
         ·
          rintro w' ⟨s0, s1, s2, s3, s4, s5, s6, s7⟩
          go_simp
          with_reducible rfl
         rotate_left
         ·
          simp only [Act.put, List.setIfInBounds_toArray, List.set_cons_zero, List.set_cons_succ, i64_w, i32_w]
          rfl
         refine one_ (i := 5) (N := some 42) #[true, true, true, true, true, true, false, true, false, false, false, false, false, false, false, false, false, false, false, false, false] rfl rfl (one_of HT_.out (by kernel_rfl)) (by decide) (fun K hK => ?_)
         refine goes_ Tryd.func37 (by kernel_rfl) rfl #[.agg #[.int .i64 qh, .int .i64 qi]] (by rfl) rfl rfl (by (try simp only [List.map_toArray, List.map_cons, List.map_nil]); first | done | rfl | (simp only [List.length_drop, List.length_take]; rfl)) ?_
         with_reducible refine (impl_NegateRatio.calls kj6 qh qi qZ q0 _ A43.out).mono ?_
         rintro e XB ⟨rfl, hb⟩
         refine ⟨_, rfl, ?_⟩
         replace qa := kB_ qa hb; replace qb := kB_ qb hb; replace qc := kB_ qc hb; replace qd := kB_ qd hb; replace HB := bS_ HB hb; (try clear hb); (try clear hb2); (try clear hk); (try clear hi)
         refine hK.out _ _ ⟨bc_ qc 0, bc_ qc 1, bc_ qb 0, bc_ qb 1, bc_ qa 0, bc_ qa 1, bc_ qd 0, bc_ qd 1⟩ (fun hHeld => ?_)
         clear hK K
         refine norm_ (a' := ?_) ?_ ?_
         rotate_left
         ·
          show Act.put _ (some 42) _ = _
          simp only [Act.put, List.setIfInBounds_toArray, List.set_cons_zero, List.set_cons_succ, i64_w, i32_w]
          rfl
         refine one_ (i := 6) (N := some 43) #[true, true, true, true, true, true, true, true, false, false, false, false, false, false, false, false, false, false, false, false, false] rfl rfl (one_of HT_.out (by kernel_rfl)) (by decide) (fun K hK => ?_)
         refine goes_ Tryd.func33 (by kernel_rfl) rfl #[.agg #[.int .i64 qp, .int .i64 qs], .agg #[.int .i64 qZ, .int .i64 q0]] (by rfl) rfl rfl (by (try simp only [List.map_toArray, List.map_cons, List.map_nil]); first | done | rfl | (simp only [List.length_drop, List.length_take]; rfl)) ?_
         with_reducible refine (impl_AddRatios.calls kj6 qp qs qZ q0 zd ze _ A44.out).mono ?_
         rintro e XC ⟨rfl, hb⟩
         refine ⟨_, rfl, ?_⟩
         replace qa := kB_ qa hb; replace qb := kB_ qb hb; replace qc := kB_ qc hb; replace qd := kB_ qd hb; replace HB := bS_ HB hb; (try clear hb); (try clear hb2); (try clear hk); (try clear hi)
         refine hK.out _ _ ⟨bc_ qc 0, bc_ qc 1, bc_ qb 0, bc_ qb 1, bc_ qa 0, bc_ qa 1, bc_ qd 0, bc_ qd 1⟩ (fun hHeld => ?_)
         clear hK K
         refine norm_ (a' := ?_) ?_ ?_
         rotate_left
         ·
          show Act.put _ (some 43) _ = _
          simp only [Act.put, List.setIfInBounds_toArray, List.set_cons_zero, List.set_cons_succ, i64_w, i32_w]
          rfl
         refine pure_ (i := 8) (N := some 45) (v := ?_) (a' := ?_) #[true, true, true, true, true, true, true, true, true, false, false, false, false, false, false, false, false, false, false, false, false] rfl rfl (any_of HT_.out (by kernel_rfl)) (fun _ _ _ h => h) (Or.inl ⟨by rfl, ?_⟩) ?_ ?_
         rotate_left
         ·
          intro w'
          go_simp
          with_reducible rfl
         rotate_left
         ·
          simp only [Act.put, List.setIfInBounds_toArray, List.set_cons_zero, List.set_cons_succ, i64_w, i32_w]
          rfl
         refine pure_ (i := 9) (N := some 46) (v := ?_) (a' := ?_) #[true, true, true, true, true, true, true, true, true, true, false, false, false, false, false, false, false, false, false, false, false] rfl rfl (any_of HT_.out (by kernel_rfl)) (fun _ _ _ h => h) (Or.inl ⟨by rfl, ?_⟩) ?_ ?_
         rotate_left
         ·
          intro w'
          go_simp
          with_reducible rfl
         rotate_left
         ·
          simp only [Act.put, List.setIfInBounds_toArray, List.set_cons_zero, List.set_cons_succ, i64_w, i32_w]
          rfl
         refine pure_ (i := 10) (N := some 47) (v := ?_) (a' := ?_) #[true, true, true, true, true, true, true, true, true, true, true, false, false, false, false, false, false, false, false, false, false] rfl rfl (any_of HT_.out (by kernel_rfl)) (fun _ _ _ h => h) (Or.inl ⟨by rfl, ?_⟩) ?_ ?_
         rotate_left
         ·
          intro w'
          go_simp
          with_reducible rfl
         rotate_left
         ·
          simp only [Act.put, List.setIfInBounds_toArray, List.set_cons_zero, List.set_cons_succ, i64_w, i32_w]
          rfl
         refine take_ (i := 11) (N := some 48) (v := ?_) (a' := ?_) #[true, true, true, true, true, true, true, true, true, true, true, true, false, false, false, false, false, false, false, false, false] rfl rfl (take_ofW HT_.out HW_.out (by kernel_rfl)) (fun _ _ _ h => h) (Or.inl ⟨by rfl, ?_⟩) hHeld ?_ ?_
         rotate_left
         ·
          rintro w' ⟨s0, s1, s2, s3, s4, s5, s6, s7⟩
          go_simp
          with_reducible rfl
         rotate_left
         ·
          simp only [Act.put, List.setIfInBounds_toArray, List.set_cons_zero, List.set_cons_succ, i64_w, i32_w]
          rfl
         refine one_ (i := 12) (N := some 49) #[true, true, true, true, true, true, true, true, true, true, true, true, true, false, false, false, false, false, false, false, false] rfl rfl (one_of HT_.out (by kernel_rfl)) (by decide) (fun K hK => ?_)
         refine goes_ Tryd.func36 (by kernel_rfl) rfl #[.agg #[.int .i64 qm, .int .i64 qn]] (by rfl) rfl rfl (by (try simp only [List.map_toArray, List.map_cons, List.map_nil]); first | done | rfl | (simp only [List.length_drop, List.length_take]; rfl)) ?_
         with_reducible refine (spec_IsRatio.calls kj6 qm qn true _ A50.out).mono ?_
         rintro e XD ⟨rfl, hb⟩
         refine ⟨_, rfl, ?_⟩
         replace qa := kB_ qa hb; replace qb := kB_ qb hb; replace qc := kB_ qc hb; replace qd := kB_ qd hb; replace HB := bS_ HB hb; (try clear hb); (try clear hb2); (try clear hk); (try clear hi)
         refine hK.out _ _ ⟨bc_ qc 0, bc_ qc 1, bc_ qb 0, bc_ qb 1, bc_ qa 0, bc_ qa 1, bc_ qd 0, bc_ qd 1⟩ (fun hHeld => ?_)
         clear hK K
         refine norm_ (a' := ?_) ?_ ?_
         rotate_left
         ·
          show Act.put _ (some 49) _ = _
          simp only [Act.put, List.setIfInBounds_toArray, List.set_cons_zero, List.set_cons_succ, i64_w, i32_w]
          rfl
         refine pure_ (i := 13) (N := some 50) (v := ?_) (a' := ?_) #[true, true, true, true, true, true, true, true, true, true, true, true, true, true, false, false, false, false, false, false, false] rfl rfl (any_of HT_.out (by kernel_rfl)) (fun _ _ _ h => h) (Or.inl ⟨by rfl, ?_⟩) ?_ ?_
         rotate_left
         ·
          intro w'
          go_simp
          with_reducible rfl
         rotate_left
         ·
          simp only [Act.put, List.setIfInBounds_toArray, List.set_cons_zero, List.set_cons_succ, i64_w, i32_w]
          rfl
         refine take_ (i := 14) (N := some 51) (v := ?_) (a' := ?_) #[true, true, true, true, true, true, true, true, true, true, true, true, true, true, true, false, false, false, false, false, false] rfl rfl (take_ofW HT_.out HW_.out (by kernel_rfl)) (fun _ _ _ h => h) (Or.inl ⟨by rfl, ?_⟩) hHeld ?_ ?_
         rotate_left
         ·
          rintro w' ⟨s0, s1, s2, s3, s4, s5, s6, s7⟩
          go_simp
          with_reducible rfl
         rotate_left
         ·
          simp only [Act.put, List.setIfInBounds_toArray, List.set_cons_zero, List.set_cons_succ, i64_w, i32_w]
          rfl
         refine take_ (i := 15) (N := some 52) (v := ?_) (a' := ?_) #[true, true, true, true, true, true, true, true, true, true, true, true, true, true, true, true, false, false, false, false, false] rfl rfl (take_ofW HT_.out HW_.out (by kernel_rfl)) (fun _ _ _ h => h) (Or.inl ⟨by rfl, ?_⟩) hHeld ?_ ?_
         rotate_left
         ·
          rintro w' ⟨s0, s1, s2, s3, s4, s5, s6, s7⟩
          go_simp
          with_reducible rfl
         rotate_left
         ·
          simp only [Act.put, List.setIfInBounds_toArray, List.set_cons_zero, List.set_cons_succ, i64_w, i32_w]
          rfl
         refine take_ (i := 17) (N := some 54) (v := ?_) (a' := ?_) #[true, true, true, true, true, true, true, true, true, true, true, true, true, true, true, true, false, true, false, false, false] rfl rfl (take_ofW HT_.out HW_.out (by kernel_rfl)) (fun _ _ _ h => h) (Or.inl ⟨by rfl, ?_⟩) hHeld ?_ ?_
         rotate_left
         ·
          rintro w' ⟨s0, s1, s2, s3, s4, s5, s6, s7⟩
          go_simp
          with_reducible rfl
         rotate_left
         ·
          simp only [Act.put, List.setIfInBounds_toArray, List.set_cons_zero, List.set_cons_succ, i64_w, i32_w]
          rfl
         refine one_ (i := 16) (N := some 53) #[true, true, true, true, true, true, true, true, true, true, true, true, true, true, true, true, true, true, false, false, false] rfl rfl (one_of HT_.out (by kernel_rfl)) (by decide) (fun K hK => ?_)
         refine goes_ Tryd.func35 (by kernel_rfl) rfl #[.agg #[.int .i64 qm, .int .i64 qn], .agg #[.int .i64 qh, .int .i64 qi]] (by rfl) rfl rfl (by (try simp only [List.map_toArray, List.map_cons, List.map_nil]); first | done | rfl | (simp only [List.length_drop, List.length_take]; rfl)) ?_
         with_reducible refine (impl_MultiplyRatios.calls kj6 qm qn qh qi jw jx _ A52.out).mono ?_
         rintro e XE ⟨rfl, hb⟩
         refine ⟨_, rfl, ?_⟩
         replace qa := kB_ qa hb; replace qb := kB_ qb hb; replace qc := kB_ qc hb; replace qd := kB_ qd hb; replace HB := bS_ HB hb; (try clear hb); (try clear hb2); (try clear hk); (try clear hi)
         refine hK.out _ _ ⟨bc_ qc 0, bc_ qc 1, bc_ qb 0, bc_ qb 1, bc_ qa 0, bc_ qa 1, bc_ qd 0, bc_ qd 1⟩ (fun hHeld => ?_)
         clear hK K
         refine norm_ (a' := ?_) ?_ ?_
         rotate_left
         ·
          show Act.put _ (some 53) _ = _
          simp only [Act.put, List.setIfInBounds_toArray, List.set_cons_zero, List.set_cons_succ, i64_w, i32_w]
          rfl
         refine pure_ (i := 18) (N := some 55) (v := ?_) (a' := ?_) #[true, true, true, true, true, true, true, true, true, true, true, true, true, true, true, true, true, true, true, false, false] rfl rfl (any_of HT_.out (by kernel_rfl)) (fun _ _ _ h => h) (Or.inl ⟨by rfl, ?_⟩) ?_ ?_
         rotate_left
         ·
          intro w'
          go_simp
          with_reducible rfl
         rotate_left
         ·
          simp only [Act.put, List.setIfInBounds_toArray, List.set_cons_zero, List.set_cons_succ, i64_w, i32_w]
          rfl
         refine pure_ (i := 19) (N := some 56) (v := ?_) (a' := ?_) #[true, true, true, true, true, true, true, true, true, true, true, true, true, true, true, true, true, true, true, true, false] rfl rfl (any_of HT_.out (by kernel_rfl)) (fun _ _ _ h => h) (Or.inl ⟨by rfl, ?_⟩) ?_ ?_
         rotate_left
         ·
          intro w'
          go_simp
          with_reducible rfl
         rotate_left
         ·
          simp only [Act.put, List.setIfInBounds_toArray, List.set_cons_zero, List.set_cons_succ, i64_w, i32_w]
          rfl
         refine pure_ (i := 20) (N := some 57) (v := ?_) (a' := ?_) #[true, true, true, true, true, true, true, true, true, true, true, true, true, true, true, true, true, true, true, true, true] rfl rfl (any_of HT_.out (by kernel_rfl)) (fun _ _ _ h => h) (Or.inl ⟨by rfl, ?_⟩) ?_ ?_
         rotate_left
         ·
          intro w'
          go_simp
          with_reducible rfl
         rotate_left
         ·
          simp only [Act.put, List.setIfInBounds_toArray, List.set_cons_zero, List.set_cons_succ, i64_w, i32_w]
          rfl
         refine done_ (done_of HT_.out (by kernel_rfl)) ?_
         try go_wp2
         go_meet
         case rel => exact ⟨_, ((!(jw == qe) || (!(jx == qf)))), (by first | rfl | (simp; done) | (simp [*]; done)), H', ⟨by have := HJ6.out; first | omega | exact Nat.le_refl _⟩, ⟨kf_ qa⟩, ⟨kf_ qb⟩, ⟨kf_ qc⟩, ⟨kf_ qd⟩, ⟨bb_ HB⟩⟩
        ·
         replace c51 := Bool.eq_false_iff.mpr c51
         subst c51
         have H1 : (laws_FnRatios.j1 kj6 false qe qf qh qi) = some r := by rw [if_neg (show ¬ (false = true) by decide)] at H; exact H
         clear H
         have H := H1
         clear H1
         have H' := Aside0.mk H
         clear H
         try go_wp2
         replace qa := Aside0.mk (blk_drew qa.out); replace qb := Aside0.mk (blk_drew qb.out); replace qc := Aside0.mk (blk_drew qc.out); replace qd := Aside0.mk (blk_drew qd.out); replace HB := Aside0.mk (below_drew1 HB.out)
         refine start_ (n := 21) (S := fun w' => w'.cell? ⟨qt, 0, none⟩ = some (.int .i64 qp) ∧ w'.cell? ⟨qt, 1, none⟩ = some (.int .i64 qs) ∧ w'.cell? ⟨qk, 0, none⟩ = some (.int .i64 qh) ∧ w'.cell? ⟨qk, 1, none⟩ = some (.int .i64 qi) ∧ w'.cell? ⟨qj, 0, none⟩ = some (.int .i64 qe) ∧ w'.cell? ⟨qj, 1, none⟩ = some (.int .i64 qf) ∧ w'.cell? ⟨ql, 0, none⟩ = some (.int .i64 qm) ∧ w'.cell? ⟨ql, 1, none⟩ = some (.int .i64 qn)) (ds := []) #[false, false, false, false, false, false, false, false, false, false, false, false, false, false, false, false, false, false, false, false, false] (by kernel_rfl) rfl rfl ⟨bc_ qc 0, bc_ qc 1, bc_ qb 0, bc_ qb 1, bc_ qa 0, bc_ qa 1, bc_ qd 0, bc_ qd 1⟩ (fun hHeld => ?_); refine with_tabW laws_FnRatios.tab8 laws_FnRatios.bits8 (fun HT_ HW_ => ?_)
         generalize wc.drew = XF at qa qb qc qd HB hHeld ⊢
         refine take_ (i := 0) (N := some 37) (v := ?_) (a' := ?_) #[true, false, false, false, false, false, false, false, false, false, false, false, false, false, false, false, false, false, false, false, false] rfl rfl (take_ofW HT_.out HW_.out (by kernel_rfl)) (fun _ _ _ h => h) (Or.inl ⟨by rfl, ?_⟩) hHeld ?_ ?_
         rotate_left
         ·
          rintro w' ⟨s0, s1, s2, s3, s4, s5, s6, s7⟩
          go_simp
          with_reducible rfl
         rotate_left
         ·
          simp only [Act.put, List.setIfInBounds_toArray, List.set_cons_zero, List.set_cons_succ, i64_w, i32_w]
          rfl
         refine one_ (i := 1) (N := some 38) #[true, true, false, false, false, false, false, false, false, false, false, false, false, false, false, false, false, false, false, false, false] rfl rfl (one_of HT_.out (by kernel_rfl)) (by decide) (fun K hK => ?_)
         refine goes_ Tryd.func36 (by kernel_rfl) rfl #[.agg #[.int .i64 qp, .int .i64 qs]] (by rfl) rfl rfl (by (try simp only [List.map_toArray, List.map_cons, List.map_nil]); first | done | rfl | (simp only [List.length_drop, List.length_take]; rfl)) ?_
         with_reducible refine (spec_IsRatio.calls kj6 qp qs true _ A41.out).mono ?_
         rintro e XG ⟨rfl, hb⟩
         refine ⟨_, rfl, ?_⟩
         replace qa := kB_ qa hb; replace qb := kB_ qb hb; replace qc := kB_ qc hb; replace qd := kB_ qd hb; replace HB := bS_ HB hb; (try clear hb); (try clear hb2); (try clear hk); (try clear hi)
         refine hK.out _ _ ⟨bc_ qc 0, bc_ qc 1, bc_ qb 0, bc_ qb 1, bc_ qa 0, bc_ qa 1, bc_ qd 0, bc_ qd 1⟩ (fun hHeld => ?_)
         clear hK K
         refine norm_ (a' := ?_) ?_ ?_
         rotate_left
         ·
          show Act.put _ (some 38) _ = _
          simp only [Act.put, List.setIfInBounds_toArray, List.set_cons_zero, List.set_cons_succ, i64_w, i32_w]
          rfl
         refine pure_ (i := 2) (N := some 39) (v := ?_) (a' := ?_) #[true, true, true, false, false, false, false, false, false, false, false, false, false, false, false, false, false, false, false, false, false] rfl rfl (any_of HT_.out (by kernel_rfl)) (fun _ _ _ h => h) (Or.inl ⟨by rfl, ?_⟩) ?_ ?_
         rotate_left
         ·
          intro w'
          go_simp
          with_reducible rfl
         rotate_left
         ·
          simp only [Act.put, List.setIfInBounds_toArray, List.set_cons_zero, List.set_cons_succ, i64_w, i32_w]
          rfl
         refine take_ (i := 3) (N := some 40) (v := ?_) (a' := ?_) #[true, true, true, true, false, false, false, false, false, false, false, false, false, false, false, false, false, false, false, false, false] rfl rfl (take_ofW HT_.out HW_.out (by kernel_rfl)) (fun _ _ _ h => h) (Or.inl ⟨by rfl, ?_⟩) hHeld ?_ ?_
         rotate_left
         ·
          rintro w' ⟨s0, s1, s2, s3, s4, s5, s6, s7⟩
          go_simp
          with_reducible rfl
         rotate_left
         ·
          simp only [Act.put, List.setIfInBounds_toArray, List.set_cons_zero, List.set_cons_succ, i64_w, i32_w]
          rfl
         refine take_ (i := 4) (N := some 41) (v := ?_) (a' := ?_) #[true, true, true, true, true, false, false, false, false, false, false, false, false, false, false, false, false, false, false, false, false] rfl rfl (take_ofW HT_.out HW_.out (by kernel_rfl)) (fun _ _ _ h => h) (Or.inl ⟨by rfl, ?_⟩) hHeld ?_ ?_
         rotate_left
         ·
          rintro w' ⟨s0, s1, s2, s3, s4, s5, s6, s7⟩
          go_simp
          with_reducible rfl
         rotate_left
         ·
          simp only [Act.put, List.setIfInBounds_toArray, List.set_cons_zero, List.set_cons_succ, i64_w, i32_w]
          rfl
         refine take_ (i := 7) (N := some 44) (v := ?_) (a' := ?_) #[true, true, true, true, true, false, false, true, false, false, false, false, false, false, false, false, false, false, false, false, false] rfl rfl (take_ofW HT_.out HW_.out (by kernel_rfl)) (fun _ _ _ h => h) (Or.inl ⟨by rfl, ?_⟩) hHeld ?_ ?_
         rotate_left
         ·
          rintro w' ⟨s0, s1, s2, s3, s4, s5, s6, s7⟩
          go_simp
          with_reducible rfl
         rotate_left
         ·
          simp only [Act.put, List.setIfInBounds_toArray, List.set_cons_zero, List.set_cons_succ, i64_w, i32_w]
          rfl
         refine one_ (i := 5) (N := some 42) #[true, true, true, true, true, true, false, true, false, false, false, false, false, false, false, false, false, false, false, false, false] rfl rfl (one_of HT_.out (by kernel_rfl)) (by decide) (fun K hK => ?_)
         refine goes_ Tryd.func37 (by kernel_rfl) rfl #[.agg #[.int .i64 qh, .int .i64 qi]] (by rfl) rfl rfl (by (try simp only [List.map_toArray, List.map_cons, List.map_nil]); first | done | rfl | (simp only [List.length_drop, List.length_take]; rfl)) ?_
         with_reducible refine (impl_NegateRatio.calls kj6 qh qi qZ q0 _ A43.out).mono ?_
         rintro e XH ⟨rfl, hb⟩
         refine ⟨_, rfl, ?_⟩
         replace qa := kB_ qa hb; replace qb := kB_ qb hb; replace qc := kB_ qc hb; replace qd := kB_ qd hb; replace HB := bS_ HB hb; (try clear hb); (try clear hb2); (try clear hk); (try clear hi)
         refine hK.out _ _ ⟨bc_ qc 0, bc_ qc 1, bc_ qb 0, bc_ qb 1, bc_ qa 0, bc_ qa 1, bc_ qd 0, bc_ qd 1⟩ (fun hHeld => ?_)
         clear hK K
         refine norm_ (a' := ?_) ?_ ?_
         rotate_left
         ·
          show Act.put _ (some 42) _ = _
          simp only [Act.put, List.setIfInBounds_toArray, List.set_cons_zero, List.set_cons_succ, i64_w, i32_w]
          rfl
         refine one_ (i := 6) (N := some 43) #[true, true, true, true, true, true, true, true, false, false, false, false, false, false, false, false, false, false, false, false, false] rfl rfl (one_of HT_.out (by kernel_rfl)) (by decide) (fun K hK => ?_)
         refine goes_ Tryd.func33 (by kernel_rfl) rfl #[.agg #[.int .i64 qp, .int .i64 qs], .agg #[.int .i64 qZ, .int .i64 q0]] (by rfl) rfl rfl (by (try simp only [List.map_toArray, List.map_cons, List.map_nil]); first | done | rfl | (simp only [List.length_drop, List.length_take]; rfl)) ?_
         with_reducible refine (impl_AddRatios.calls kj6 qp qs qZ q0 zd ze _ A44.out).mono ?_
         rintro e XI ⟨rfl, hb⟩
         refine ⟨_, rfl, ?_⟩
         replace qa := kB_ qa hb; replace qb := kB_ qb hb; replace qc := kB_ qc hb; replace qd := kB_ qd hb; replace HB := bS_ HB hb; (try clear hb); (try clear hb2); (try clear hk); (try clear hi)
         refine hK.out _ _ ⟨bc_ qc 0, bc_ qc 1, bc_ qb 0, bc_ qb 1, bc_ qa 0, bc_ qa 1, bc_ qd 0, bc_ qd 1⟩ (fun hHeld => ?_)
         clear hK K
         refine norm_ (a' := ?_) ?_ ?_
         rotate_left
         ·
          show Act.put _ (some 43) _ = _
          simp only [Act.put, List.setIfInBounds_toArray, List.set_cons_zero, List.set_cons_succ, i64_w, i32_w]
          rfl
         refine pure_ (i := 8) (N := some 45) (v := ?_) (a' := ?_) #[true, true, true, true, true, true, true, true, true, false, false, false, false, false, false, false, false, false, false, false, false] rfl rfl (any_of HT_.out (by kernel_rfl)) (fun _ _ _ h => h) (Or.inl ⟨by rfl, ?_⟩) ?_ ?_
         rotate_left
         ·
          intro w'
          go_simp
          with_reducible rfl
         rotate_left
         ·
          simp only [Act.put, List.setIfInBounds_toArray, List.set_cons_zero, List.set_cons_succ, i64_w, i32_w]
          rfl
         refine pure_ (i := 9) (N := some 46) (v := ?_) (a' := ?_) #[true, true, true, true, true, true, true, true, true, true, false, false, false, false, false, false, false, false, false, false, false] rfl rfl (any_of HT_.out (by kernel_rfl)) (fun _ _ _ h => h) (Or.inl ⟨by rfl, ?_⟩) ?_ ?_
         rotate_left
         ·
          intro w'
          go_simp
          with_reducible rfl
         rotate_left
         ·
          simp only [Act.put, List.setIfInBounds_toArray, List.set_cons_zero, List.set_cons_succ, i64_w, i32_w]
          rfl
         refine pure_ (i := 10) (N := some 47) (v := ?_) (a' := ?_) #[true, true, true, true, true, true, true, true, true, true, true, false, false, false, false, false, false, false, false, false, false] rfl rfl (any_of HT_.out (by kernel_rfl)) (fun _ _ _ h => h) (Or.inl ⟨by rfl, ?_⟩) ?_ ?_
         rotate_left
         ·
          intro w'
          go_simp
          with_reducible rfl
         rotate_left
         ·
          simp only [Act.put, List.setIfInBounds_toArray, List.set_cons_zero, List.set_cons_succ, i64_w, i32_w]
          rfl
         refine take_ (i := 11) (N := some 48) (v := ?_) (a' := ?_) #[true, true, true, true, true, true, true, true, true, true, true, true, false, false, false, false, false, false, false, false, false] rfl rfl (take_ofW HT_.out HW_.out (by kernel_rfl)) (fun _ _ _ h => h) (Or.inl ⟨by rfl, ?_⟩) hHeld ?_ ?_
         rotate_left
         ·
          rintro w' ⟨s0, s1, s2, s3, s4, s5, s6, s7⟩
          go_simp
          with_reducible rfl
         rotate_left
         ·
          simp only [Act.put, List.setIfInBounds_toArray, List.set_cons_zero, List.set_cons_succ, i64_w, i32_w]
          rfl
         refine one_ (i := 12) (N := some 49) #[true, true, true, true, true, true, true, true, true, true, true, true, true, false, false, false, false, false, false, false, false] rfl rfl (one_of HT_.out (by kernel_rfl)) (by decide) (fun K hK => ?_)
         refine goes_ Tryd.func36 (by kernel_rfl) rfl #[.agg #[.int .i64 qm, .int .i64 qn]] (by rfl) rfl rfl (by (try simp only [List.map_toArray, List.map_cons, List.map_nil]); first | done | rfl | (simp only [List.length_drop, List.length_take]; rfl)) ?_
         with_reducible refine (spec_IsRatio.calls kj6 qm qn false _ A50.out).mono ?_
         rintro e XJ ⟨rfl, hb⟩
         refine ⟨_, rfl, ?_⟩
         replace qa := kB_ qa hb; replace qb := kB_ qb hb; replace qc := kB_ qc hb; replace qd := kB_ qd hb; replace HB := bS_ HB hb; (try clear hb); (try clear hb2); (try clear hk); (try clear hi)
         refine hK.out _ _ ⟨bc_ qc 0, bc_ qc 1, bc_ qb 0, bc_ qb 1, bc_ qa 0, bc_ qa 1, bc_ qd 0, bc_ qd 1⟩ (fun hHeld => ?_)
         clear hK K
         refine norm_ (a' := ?_) ?_ ?_
         rotate_left
         ·
          show Act.put _ (some 49) _ = _
          simp only [Act.put, List.setIfInBounds_toArray, List.set_cons_zero, List.set_cons_succ, i64_w, i32_w]
          rfl
         refine pure_ (i := 13) (N := some 50) (v := ?_) (a' := ?_) #[true, true, true, true, true, true, true, true, true, true, true, true, true, true, false, false, false, false, false, false, false] rfl rfl (any_of HT_.out (by kernel_rfl)) (fun _ _ _ h => h) (Or.inl ⟨by rfl, ?_⟩) ?_ ?_
         rotate_left
         ·
          intro w'
          go_simp
          with_reducible rfl
         rotate_left
         ·
          simp only [Act.put, List.setIfInBounds_toArray, List.set_cons_zero, List.set_cons_succ, i64_w, i32_w]
          rfl
         refine pure_ (i := 14) (N := some 51) (v := undef) (a' := ?_) #[true, true, true, true, true, true, true, true, true, true, true, true, true, true, true, false, false, false, false, false, false] rfl rfl (any_of HT_.out (by kernel_rfl)) (fun _ _ _ h => h) (Or.inr ⟨by rfl, rfl⟩) ?_ ?_
         rotate_left
         ·
          simp only [Act.put, List.setIfInBounds_toArray, List.set_cons_zero, List.set_cons_succ, i64_w, i32_w]
          rfl
         refine pure_ (i := 15) (N := some 52) (v := undef) (a' := ?_) #[true, true, true, true, true, true, true, true, true, true, true, true, true, true, true, true, false, false, false, false, false] rfl rfl (any_of HT_.out (by kernel_rfl)) (fun _ _ _ h => h) (Or.inr ⟨by rfl, rfl⟩) ?_ ?_
         rotate_left
         ·
          simp only [Act.put, List.setIfInBounds_toArray, List.set_cons_zero, List.set_cons_succ, i64_w, i32_w]
          rfl
         refine pure_ (i := 16) (N := some 53) (v := undef) (a' := ?_) #[true, true, true, true, true, true, true, true, true, true, true, true, true, true, true, true, true, false, false, false, false] rfl rfl (any_of HT_.out (by kernel_rfl)) (fun _ _ _ h => h) (Or.inr ⟨by rfl, rfl⟩) ?_ ?_
         rotate_left
         ·
          simp only [Act.put, List.setIfInBounds_toArray, List.set_cons_zero, List.set_cons_succ, i64_w, i32_w]
          rfl
         refine pure_ (i := 17) (N := some 54) (v := undef) (a' := ?_) #[true, true, true, true, true, true, true, true, true, true, true, true, true, true, true, true, true, true, false, false, false] rfl rfl (any_of HT_.out (by kernel_rfl)) (fun _ _ _ h => h) (Or.inr ⟨by rfl, rfl⟩) ?_ ?_
         rotate_left
         ·
          simp only [Act.put, List.setIfInBounds_toArray, List.set_cons_zero, List.set_cons_succ, i64_w, i32_w]
          rfl
         refine pure_ (i := 18) (N := some 55) (v := undef) (a' := ?_) #[true, true, true, true, true, true, true, true, true, true, true, true, true, true, true, true, true, true, true, false, false] rfl rfl (any_of HT_.out (by kernel_rfl)) (fun _ _ _ h => h) (Or.inr ⟨by rfl, rfl⟩) ?_ ?_
         rotate_left
         ·
          simp only [Act.put, List.setIfInBounds_toArray, List.set_cons_zero, List.set_cons_succ, i64_w, i32_w]
          rfl
         refine pure_ (i := 19) (N := some 56) (v := ?_) (a' := ?_) #[true, true, true, true, true, true, true, true, true, true, true, true, true, true, true, true, true, true, true, true, false] rfl rfl (any_of HT_.out (by kernel_rfl)) (fun _ _ _ h => h) (Or.inl ⟨by rfl, ?_⟩) ?_ ?_
         rotate_left
         ·
          intro w'
          go_simp
          with_reducible rfl
         rotate_left
         ·
          simp only [Act.put, List.setIfInBounds_toArray, List.set_cons_zero, List.set_cons_succ, i64_w, i32_w]
          rfl
         refine pure_ (i := 20) (N := some 57) (v := ?_) (a' := ?_) #[true, true, true, true, true, true, true, true, true, true, true, true, true, true, true, true, true, true, true, true, true] rfl rfl (any_of HT_.out (by kernel_rfl)) (fun _ _ _ h => h) (Or.inl ⟨by rfl, ?_⟩) ?_ ?_
         rotate_left
         ·
          intro w'
          go_simp
          with_reducible rfl
         rotate_left
         ·
          simp only [Act.put, List.setIfInBounds_toArray, List.set_cons_zero, List.set_cons_succ, i64_w, i32_w]
          rfl
         refine done_ (done_of HT_.out (by kernel_rfl)) ?_
         try go_wp2
         go_meet
         case rel => exact ⟨_, (false), (by first | rfl | (simp; done) | (simp [*]; done)), H', ⟨by have := HJ6.out; first | omega | exact Nat.le_refl _⟩, ⟨kf_ qa⟩, ⟨kf_ qb⟩, ⟨kf_ qc⟩, ⟨kf_ qd⟩, ⟨bb_ HB⟩⟩
      ·
       replace c42 := Bool.eq_false_iff.mpr c42
       subst c42
       have H1 : ((spec_IsRatio.f kj6 qm qn).bind fun qY => (if qY = true then ((impl_MultiplyRatios.f kj6 qm qn qh qi).bind fun qN => (laws_FnRatios.j1 kj6 (!(qN.1 == qe) || (!(qN.2 == qf))) qe qf qh qi)) else (laws_FnRatios.j1 kj6 false qe qf qh qi))) = some r := by rw [if_neg (show ¬ (false = true) by decide)] at H; exact H
       clear H
       have H := H1
       clear H1
       replace H := Option.bind_eq_some_iff.mp H
       obtain ⟨qY, A640, H⟩ := H
       replace H : (if qY = true then ((impl_MultiplyRatios.f kj6 qm qn qh qi).bind fun qN => (laws_FnRatios.j1 kj6 (!(qN.1 == qe) || (!(qN.2 == qf))) qe qf qh qi)) else (laws_FnRatios.j1 kj6 false qe qf qh qi)) = some r := H
       have A64 := Aside0.mk A640
       clear A640
       by_cases c65 : qY = true
       ·
        subst c65
        have H1 : ((impl_MultiplyRatios.f kj6 qm qn qh qi).bind fun qN => (laws_FnRatios.j1 kj6 (!(qN.1 == qe) || (!(qN.2 == qf))) qe qf qh qi)) = some r := by rw [if_pos rfl] at H; exact H
        clear H
        have H := H1
        clear H1
        replace H := Option.bind_eq_some_iff.mp H
        obtain ⟨⟨jy, jz⟩, A660, H⟩ := H
        replace H : (laws_FnRatios.j1 kj6 (!(jy == qe) || (!(jz == qf))) qe qf qh qi) = some r := H
        have A66 := Aside0.mk A660
        clear A660
        have H' := Aside0.mk H
        clear H
        try go_wp2
        replace qa := Aside0.mk (blk_drew qa.out); replace qb := Aside0.mk (blk_drew qb.out); replace qc := Aside0.mk (blk_drew qc.out); replace qd := Aside0.mk (blk_drew qd.out); replace HB := Aside0.mk (below_drew1 HB.out)
        refine start_ (n := 21) (S := fun w' => w'.cell? ⟨qt, 0, none⟩ = some (.int .i64 qp) ∧ w'.cell? ⟨qt, 1, none⟩ = some (.int .i64 qs) ∧ w'.cell? ⟨ql, 0, none⟩ = some (.int .i64 qm) ∧ w'.cell? ⟨ql, 1, none⟩ = some (.int .i64 qn) ∧ w'.cell? ⟨qk, 0, none⟩ = some (.int .i64 qh) ∧ w'.cell? ⟨qk, 1, none⟩ = some (.int .i64 qi) ∧ w'.cell? ⟨qj, 0, none⟩ = some (.int .i64 qe) ∧ w'.cell? ⟨qj, 1, none⟩ = some (.int .i64 qf)) (ds := []) #[false, false, false, false, false, false, false, false, false, false, false, false, false, false, false, false, false, false, false, false, false] (by kernel_rfl) rfl rfl ⟨bc_ qc 0, bc_ qc 1, bc_ qd 0, bc_ qd 1, bc_ qb 0, bc_ qb 1, bc_ qa 0, bc_ qa 1⟩ (fun hHeld => ?_); refine with_tabW laws_FnRatios.tab8 laws_FnRatios.bits8 (fun HT_ HW_ => ?_)
        generalize wc.drew = XK at qa qb qc qd HB hHeld ⊢
        refine take_ (i := 0) (N := some 37) (v := ?_) (a' := ?_) #[true, false, false, false, false, false, false, false, false, false, false, false, false, false, false, false, false, false, false, false, false] rfl rfl (take_ofW HT_.out HW_.out (by kernel_rfl)) (fun _ _ _ h => h) (Or.inl ⟨by rfl, ?_⟩) hHeld ?_ ?_
        rotate_left
        ·
         rintro w' ⟨s0, s1, s2, s3, s4, s5, s6, s7⟩
         go_simp
         with_reducible rfl
        rotate_left
        ·
         simp only [Act.put, List.setIfInBounds_toArray, List.set_cons_zero, List.set_cons_succ, i64_w, i32_w]
         rfl
        refine one_ (i := 1) (N := some 38) #[true, true, false, false, false, false, false, false, false, false, false, false, false, false, false, false, false, false, false, false, false] rfl rfl (one_of HT_.out (by kernel_rfl)) (by decide) (fun K hK => ?_)
        refine goes_ Tryd.func36 (by kernel_rfl) rfl #[.agg #[.int .i64 qp, .int .i64 qs]] (by rfl) rfl rfl (by (try simp only [List.map_toArray, List.map_cons, List.map_nil]); first | done | rfl | (simp only [List.length_drop, List.length_take]; rfl)) ?_
        with_reducible refine (spec_IsRatio.calls kj6 qp qs false _ A41.out).mono ?_
        rintro e XL ⟨rfl, hb⟩
        refine ⟨_, rfl, ?_⟩
        replace qa := kB_ qa hb; replace qb := kB_ qb hb; replace qc := kB_ qc hb; replace qd := kB_ qd hb; replace HB := bS_ HB hb; (try clear hb); (try clear hb2); (try clear hk); (try clear hi)
        refine hK.out _ _ ⟨bc_ qc 0, bc_ qc 1, bc_ qd 0, bc_ qd 1, bc_ qb 0, bc_ qb 1, bc_ qa 0, bc_ qa 1⟩ (fun hHeld => ?_)
        clear hK K
        refine norm_ (a' := ?_) ?_ ?_
        rotate_left
        ·
         show Act.put _ (some 38) _ = _
         simp only [Act.put, List.setIfInBounds_toArray, List.set_cons_zero, List.set_cons_succ, i64_w, i32_w]
         rfl
        refine pure_ (i := 2) (N := some 39) (v := ?_) (a' := ?_) #[true, true, true, false, false, false, false, false, false, false, false, false, false, false, false, false, false, false, false, false, false] rfl rfl (any_of HT_.out (by kernel_rfl)) (fun _ _ _ h => h) (Or.inl ⟨by rfl, ?_⟩) ?_ ?_
        rotate_left
        ·
         intro w'
         go_simp
         with_reducible rfl
        rotate_left
        ·
         simp only [Act.put, List.setIfInBounds_toArray, List.set_cons_zero, List.set_cons_succ, i64_w, i32_w]
         rfl
        refine pure_ (i := 3) (N := some 40) (v := undef) (a' := ?_) #[true, true, true, true, false, false, false, false, false, false, false, false, false, false, false, false, false, false, false, false, false] rfl rfl (any_of HT_.out (by kernel_rfl)) (fun _ _ _ h => h) (Or.inr ⟨by rfl, rfl⟩) ?_ ?_
        rotate_left
        ·
         simp only [Act.put, List.setIfInBounds_toArray, List.set_cons_zero, List.set_cons_succ, i64_w, i32_w]
         rfl
        refine pure_ (i := 4) (N := some 41) (v := undef) (a' := ?_) #[true, true, true, true, true, false, false, false, false, false, false, false, false, false, false, false, false, false, false, false, false] rfl rfl (any_of HT_.out (by kernel_rfl)) (fun _ _ _ h => h) (Or.inr ⟨by rfl, rfl⟩) ?_ ?_
        rotate_left
        ·
         simp only [Act.put, List.setIfInBounds_toArray, List.set_cons_zero, List.set_cons_succ, i64_w, i32_w]
         rfl
        refine pure_ (i := 5) (N := some 42) (v := undef) (a' := ?_) #[true, true, true, true, true, true, false, false, false, false, false, false, false, false, false, false, false, false, false, false, false] rfl rfl (any_of HT_.out (by kernel_rfl)) (fun _ _ _ h => h) (Or.inr ⟨by rfl, rfl⟩) ?_ ?_
        rotate_left
        ·
         simp only [Act.put, List.setIfInBounds_toArray, List.set_cons_zero, List.set_cons_succ, i64_w, i32_w]
         rfl
        refine pure_ (i := 6) (N := some 43) (v := undef) (a' := ?_) #[true, true, true, true, true, true, true, false, false, false, false, false, false, false, false, false, false, false, false, false, false] rfl rfl (any_of HT_.out (by kernel_rfl)) (fun _ _ _ h => h) (Or.inr ⟨by rfl, rfl⟩) ?_ ?_
        rotate_left
        ·
         simp only [Act.put, List.setIfInBounds_toArray, List.set_cons_zero, List.set_cons_succ, i64_w, i32_w]
         rfl
        refine pure_ (i := 7) (N := some 44) (v := undef) (a' := ?_) #[true, true, true, true, true, true, true, true, false, false, false, false, false, false, false, false, false, false, false, false, false] rfl rfl (any_of HT_.out (by kernel_rfl)) (fun _ _ _ h => h) (Or.inr ⟨by rfl, rfl⟩) ?_ ?_
        rotate_left
        ·
         simp only [Act.put, List.setIfInBounds_toArray, List.set_cons_zero, List.set_cons_succ, i64_w, i32_w]
         rfl
        refine pure_ (i := 8) (N := some 45) (v := undef) (a' := ?_) #[true, true, true, true, true, true, true, true, true, false, false, false, false, false, false, false, false, false, false, false, false] rfl rfl (any_of HT_.out (by kernel_rfl)) (fun _ _ _ h => h) (Or.inr ⟨by rfl, rfl⟩) ?_ ?_
        rotate_left
        ·
         simp only [Act.put, List.setIfInBounds_toArray, List.set_cons_zero, List.set_cons_succ, i64_w, i32_w]
         rfl
        refine pure_ (i := 9) (N := some 46) (v := ?_) (a' := ?_) #[true, true, true, true, true, true, true, true, true, true, false, false, false, false, false, false, false, false, false, false, false] rfl rfl (any_of HT_.out (by kernel_rfl)) (fun _ _ _ h => h) (Or.inl ⟨by rfl, ?_⟩) ?_ ?_
        rotate_left
        ·
         intro w'
         go_simp
         with_reducible rfl
        rotate_left
        ·
         simp only [Act.put, List.setIfInBounds_toArray, List.set_cons_zero, List.set_cons_succ, i64_w, i32_w]
         rfl
        refine pure_ (i := 10) (N := some 47) (v := ?_) (a' := ?_) #[true, true, true, true, true, true, true, true, true, true, true, false, false, false, false, false, false, false, false, false, false] rfl rfl (any_of HT_.out (by kernel_rfl)) (fun _ _ _ h => h) (Or.inl ⟨by rfl, ?_⟩) ?_ ?_
        rotate_left
        ·
         intro w'
         go_simp
         with_reducible rfl
        rotate_left
        ·
         simp only [Act.put, List.setIfInBounds_toArray, List.set_cons_zero, List.set_cons_succ, i64_w, i32_w]
         rfl
        refine take_ (i := 11) (N := some 48) (v := ?_) (a' := ?_) #[true, true, true, true, true, true, true, true, true, true, true, true, false, false, false, false, false, false, false, false, false] rfl rfl (take_ofW HT_.out HW_.out (by kernel_rfl)) (fun _ _ _ h => h) (Or.inl ⟨by rfl, ?_⟩) hHeld ?_ ?_
        rotate_left
        ·
         rintro w' ⟨s0, s1, s2, s3, s4, s5, s6, s7⟩
         go_simp
         with_reducible rfl
        rotate_left
        ·
         simp only [Act.put, List.setIfInBounds_toArray, List.set_cons_zero, List.set_cons_succ, i64_w, i32_w]
         rfl
        refine one_ (i := 12) (N := some 49) #[true, true, true, true, true, true, true, true, true, true, true, true, true, false, false, false, false, false, false, false, false] rfl rfl (one_of HT_.out (by kernel_rfl)) (by decide) (fun K hK => ?_)
        refine goes_ Tryd.func36 (by kernel_rfl) rfl #[.agg #[.int .i64 qm, .int .i64 qn]] (by rfl) rfl rfl (by (try simp only [List.map_toArray, List.map_cons, List.map_nil]); first | done | rfl | (simp only [List.length_drop, List.length_take]; rfl)) ?_
        with_reducible refine (spec_IsRatio.calls kj6 qm qn true _ A64.out).mono ?_
        rintro e XM ⟨rfl, hb⟩
        refine ⟨_, rfl, ?_⟩
        replace qa := kB_ qa hb; replace qb := kB_ qb hb; replace qc := kB_ qc hb; replace qd := kB_ qd hb; replace HB := bS_ HB hb; (try clear hb); (try clear hb2); (try clear hk); (try clear hi)
        refine hK.out _ _ ⟨bc_ qc 0, bc_ qc 1, bc_ qd 0, bc_ qd 1, bc_ qb 0, bc_ qb 1, bc_ qa 0, bc_ qa 1⟩ (fun hHeld => ?_)
        clear hK K
        refine norm_ (a' := ?_) ?_ ?_
        rotate_left
        ·
         show Act.put _ (some 49) _ = _
         simp only [Act.put, List.setIfInBounds_toArray, List.set_cons_zero, List.set_cons_succ, i64_w, i32_w]
         rfl
        refine pure_ (i := 13) (N := some 50) (v := ?_) (a' := ?_) #[true, true, true, true, true, true, true, true, true, true, true, true, true, true, false, false, false, false, false, false, false] rfl rfl (any_of HT_.out (by kernel_rfl)) (fun _ _ _ h => h) (Or.inl ⟨by rfl, ?_⟩) ?_ ?_
        rotate_left
        ·
         intro w'
         go_simp
         with_reducible rfl
        rotate_left
        ·
         simp only [Act.put, List.setIfInBounds_toArray, List.set_cons_zero, List.set_cons_succ, i64_w, i32_w]
         rfl
        refine take_ (i := 14) (N := some 51) (v := ?_) (a' := ?_) #[true, true, true, true, true, true, true, true, true, true, true, true, true, true, true, false, false, false, false, false, false] rfl rfl (take_ofW HT_.out HW_.out (by kernel_rfl)) (fun _ _ _ h => h) (Or.inl ⟨by rfl, ?_⟩) hHeld ?_ ?_
        rotate_left
        ·
         rintro w' ⟨s0, s1, s2, s3, s4, s5, s6, s7⟩
         go_simp
         with_reducible rfl
        rotate_left
        ·
         simp only [Act.put, List.setIfInBounds_toArray, List.set_cons_zero, List.set_cons_succ, i64_w, i32_w]
         rfl
        refine take_ (i := 15) (N := some 52) (v := ?_) (a' := ?_) #[true, true, true, true, true, true, true, true, true, true, true, true, true, true, true, true, false, false, false, false, false] rfl rfl (take_ofW HT_.out HW_.out (by kernel_rfl)) (fun _ _ _ h => h) (Or.inl ⟨by rfl, ?_⟩) hHeld ?_ ?_
        rotate_left
        ·
         rintro w' ⟨s0, s1, s2, s3, s4, s5, s6, s7⟩
         go_simp
         with_reducible rfl
        rotate_left
        ·
         simp only [Act.put, List.setIfInBounds_toArray, List.set_cons_zero, List.set_cons_succ, i64_w, i32_w]
         rfl
        refine take_ (i := 17) (N := some 54) (v := ?_) (a' := ?_) #[true, true, true, true, true, true, true, true, true, true, true, true, true, true, true, true, false, true, false, false, false] rfl rfl (take_ofW HT_.out HW_.out (by kernel_rfl)) (fun _ _ _ h => h) (Or.inl ⟨by rfl, ?_⟩) hHeld ?_ ?_
        rotate_left
        ·
         rintro w' ⟨s0, s1, s2, s3, s4, s5, s6, s7⟩
         go_simp
         with_reducible rfl
        rotate_left
        ·
         simp only [Act.put, List.setIfInBounds_toArray, List.set_cons_zero, List.set_cons_succ, i64_w, i32_w]
         rfl
        refine one_ (i := 16) (N := some 53) #[true, true, true, true, true, true, true, true, true, true, true, true, true, true, true, true, true, true, false, false, false] rfl rfl (one_of HT_.out (by kernel_rfl)) (by decide) (fun K hK => ?_)
        refine goes_ Tryd.func35 (by kernel_rfl) rfl #[.agg #[.int .i64 qm, .int .i64 qn], .agg #[.int .i64 qh, .int .i64 qi]] (by rfl) rfl rfl (by (try simp only [List.map_toArray, List.map_cons, List.map_nil]); first | done | rfl | (simp only [List.length_drop, List.length_take]; rfl)) ?_
        with_reducible refine (impl_MultiplyRatios.calls kj6 qm qn qh qi jy jz _ A66.out).mono ?_
        rintro e XN ⟨rfl, hb⟩
        refine ⟨_, rfl, ?_⟩
        replace qa := kB_ qa hb; replace qb := kB_ qb hb; replace qc := kB_ qc hb; replace qd := kB_ qd hb; replace HB := bS_ HB hb; (try clear hb); (try clear hb2); (try clear hk); (try clear hi)
        refine hK.out _ _ ⟨bc_ qc 0, bc_ qc 1, bc_ qd 0, bc_ qd 1, bc_ qb 0, bc_ qb 1, bc_ qa 0, bc_ qa 1⟩ (fun hHeld => ?_)
        clear hK K
        refine norm_ (a' := ?_) ?_ ?_
        rotate_left
        ·
         show Act.put _ (some 53) _ = _
         simp only [Act.put, List.setIfInBounds_toArray, List.set_cons_zero, List.set_cons_succ, i64_w, i32_w]
         rfl
        refine pure_ (i := 18) (N := some 55) (v := ?_) (a' := ?_) #[true, true, true, true, true, true, true, true, true, true, true, true, true, true, true, true, true, true, true, false, false] rfl rfl (any_of HT_.out (by kernel_rfl)) (fun _ _ _ h => h) (Or.inl ⟨by rfl, ?_⟩) ?_ ?_
        rotate_left
        ·
         intro w'
         go_simp
         with_reducible rfl
        rotate_left
        ·
         simp only [Act.put, List.setIfInBounds_toArray, List.set_cons_zero, List.set_cons_succ, i64_w, i32_w]
         rfl
        refine pure_ (i := 19) (N := some 56) (v := ?_) (a' := ?_) #[true, true, true, true, true, true, true, true, true, true, true, true, true, true, true, true, true, true, true, true, false] rfl rfl (any_of HT_.out (by kernel_rfl)) (fun _ _ _ h => h) (Or.inl ⟨by rfl, ?_⟩) ?_ ?_
        rotate_left
        ·
         intro w'
         go_simp
         with_reducible rfl
        rotate_left
        ·
         simp only [Act.put, List.setIfInBounds_toArray, List.set_cons_zero, List.set_cons_succ, i64_w, i32_w]
         rfl
        refine pure_ (i := 20) (N := some 57) (v := ?_) (a' := ?_) #[true, true, true, true, true, true, true, true, true, true, true, true, true, true, true, true, true, true, true, true, true] rfl rfl (any_of HT_.out (by kernel_rfl)) (fun _ _ _ h => h) (Or.inl ⟨by rfl, ?_⟩) ?_ ?_
        rotate_left
        ·
         intro w'
         go_simp
         with_reducible rfl
        rotate_left
        ·
         simp only [Act.put, List.setIfInBounds_toArray, List.set_cons_zero, List.set_cons_succ, i64_w, i32_w]
         rfl
        refine done_ (done_of HT_.out (by kernel_rfl)) ?_
        try go_wp2
        go_meet
        case rel => exact ⟨_, ((!(jy == qe) || (!(jz == qf)))), (by first | rfl | (simp; done) | (simp [*]; done)), H', ⟨by have := HJ6.out; first | omega | exact Nat.le_refl _⟩, ⟨kf_ qa⟩, ⟨kf_ qb⟩, ⟨kf_ qc⟩, ⟨kf_ qd⟩, ⟨bb_ HB⟩⟩
       ·
        replace c65 := Bool.eq_false_iff.mpr c65
        subst c65
        have H1 : (laws_FnRatios.j1 kj6 false qe qf qh qi) = some r := by rw [if_neg (show ¬ (false = true) by decide)] at H; exact H
        clear H
        have H := H1
        clear H1
        have H' := Aside0.mk H
        clear H
        try go_wp2
        replace qa := Aside0.mk (blk_drew qa.out); replace qb := Aside0.mk (blk_drew qb.out); replace qc := Aside0.mk (blk_drew qc.out); replace qd := Aside0.mk (blk_drew qd.out); replace HB := Aside0.mk (below_drew1 HB.out)
        refine start_ (n := 21) (S := fun w' => w'.cell? ⟨qt, 0, none⟩ = some (.int .i64 qp) ∧ w'.cell? ⟨qt, 1, none⟩ = some (.int .i64 qs) ∧ w'.cell? ⟨ql, 0, none⟩ = some (.int .i64 qm) ∧ w'.cell? ⟨ql, 1, none⟩ = some (.int .i64 qn)) (ds := []) #[false, false, false, false, false, false, false, false, false, false, false, false, false, false, false, false, false, false, false, false, false] (by kernel_rfl) rfl rfl ⟨bc_ qc 0, bc_ qc 1, bc_ qd 0, bc_ qd 1⟩ (fun hHeld => ?_); refine with_tabW laws_FnRatios.tab8 laws_FnRatios.bits8 (fun HT_ HW_ => ?_)
        generalize wc.drew = XO at qa qb qc qd HB hHeld ⊢
        refine take_ (i := 0) (N := some 37) (v := ?_) (a' := ?_) #[true, false, false, false, false, false, false, false, false, false, false, false, false, false, false, false, false, false, false, false, false] rfl rfl (take_ofW HT_.out HW_.out (by kernel_rfl)) (fun _ _ _ h => h) (Or.inl ⟨by rfl, ?_⟩) hHeld ?_ ?_
        rotate_left
        ·
         rintro w' ⟨s0, s1, s2, s3⟩
         go_simp
         with_reducible rfl
        rotate_left
        ·
         simp only [Act.put, List.setIfInBounds_toArray, List.set_cons_zero, List.set_cons_succ, i64_w, i32_w]
         rfl
        refine one_ (i := 1) (N := some 38) #[true, true, false, false, false, false, false, false, false, false, false, false, false, false, false, false, false, false, false, false, false] rfl rfl (one_of HT_.out (by kernel_rfl)) (by decide) (fun K hK => ?_)
        refine goes_ Tryd.func36 (by kernel_rfl) rfl #[.agg #[.int .i64 qp, .int .i64 qs]] (by rfl) rfl rfl (by (try simp only [List.map_toArray, List.map_cons, List.map_nil]); first | done | rfl | (simp only [List.length_drop, List.length_take]; rfl)) ?_
        with_reducible refine (spec_IsRatio.calls kj6 qp qs false _ A41.out).mono ?_
        rintro e XP ⟨rfl, hb⟩
        refine ⟨_, rfl, ?_⟩
        replace qa := kB_ qa hb; replace qb := kB_ qb hb; replace qc := kB_ qc hb; replace qd := kB_ qd hb; replace HB := bS_ HB hb; (try clear hb); (try clear hb2); (try clear hk); (try clear hi)
        refine hK.out _ _ ⟨bc_ qc 0, bc_ qc 1, bc_ qd 0, bc_ qd 1⟩ (fun hHeld => ?_)
        clear hK K
        refine norm_ (a' := ?_) ?_ ?_
        rotate_left
        ·
         show Act.put _ (some 38) _ = _
         simp only [Act.put, List.setIfInBounds_toArray, List.set_cons_zero, List.set_cons_succ, i64_w, i32_w]
         rfl
        refine pure_ (i := 2) (N := some 39) (v := ?_) (a' := ?_) #[true, true, true, false, false, false, false, false, false, false, false, false, false, false, false, false, false, false, false, false, false] rfl rfl (any_of HT_.out (by kernel_rfl)) (fun _ _ _ h => h) (Or.inl ⟨by rfl, ?_⟩) ?_ ?_
        rotate_left
        ·
         intro w'
         go_simp
         with_reducible rfl
        rotate_left
        ·
         simp only [Act.put, List.setIfInBounds_toArray, List.set_cons_zero, List.set_cons_succ, i64_w, i32_w]
         rfl
        refine pure_ (i := 3) (N := some 40) (v := undef) (a' := ?_) #[true, true, true, true, false, false, false, false, false, false, false, false, false, false, false, false, false, false, false, false, false] rfl rfl (any_of HT_.out (by kernel_rfl)) (fun _ _ _ h => h) (Or.inr ⟨by rfl, rfl⟩) ?_ ?_
        rotate_left
        ·
         simp only [Act.put, List.setIfInBounds_toArray, List.set_cons_zero, List.set_cons_succ, i64_w, i32_w]
         rfl
        refine pure_ (i := 4) (N := some 41) (v := undef) (a' := ?_) #[true, true, true, true, true, false, false, false, false, false, false, false, false, false, false, false, false, false, false, false, false] rfl rfl (any_of HT_.out (by kernel_rfl)) (fun _ _ _ h => h) (Or.inr ⟨by rfl, rfl⟩) ?_ ?_
        rotate_left
        ·
         simp only [Act.put, List.setIfInBounds_toArray, List.set_cons_zero, List.set_cons_succ, i64_w, i32_w]
         rfl
        refine pure_ (i := 5) (N := some 42) (v := undef) (a' := ?_) #[true, true, true, true, true, true, false, false, false, false, false, false, false, false, false, false, false, false, false, false, false] rfl rfl (any_of HT_.out (by kernel_rfl)) (fun _ _ _ h => h) (Or.inr ⟨by rfl, rfl⟩) ?_ ?_
        rotate_left
        ·
         simp only [Act.put, List.setIfInBounds_toArray, List.set_cons_zero, List.set_cons_succ, i64_w, i32_w]
         rfl
        refine pure_ (i := 6) (N := some 43) (v := undef) (a' := ?_) #[true, true, true, true, true, true, true, false, false, false, false, false, false, false, false, false, false, false, false, false, false] rfl rfl (any_of HT_.out (by kernel_rfl)) (fun _ _ _ h => h) (Or.inr ⟨by rfl, rfl⟩) ?_ ?_
        rotate_left
        ·
         simp only [Act.put, List.setIfInBounds_toArray, List.set_cons_zero, List.set_cons_succ, i64_w, i32_w]
         rfl
        refine pure_ (i := 7) (N := some 44) (v := undef) (a' := ?_) #[true, true, true, true, true, true, true, true, false, false, false, false, false, false, false, false, false, false, false, false, false] rfl rfl (any_of HT_.out (by kernel_rfl)) (fun _ _ _ h => h) (Or.inr ⟨by rfl, rfl⟩) ?_ ?_
        rotate_left
        ·
         simp only [Act.put, List.setIfInBounds_toArray, List.set_cons_zero, List.set_cons_succ, i64_w, i32_w]
         rfl
        refine pure_ (i := 8) (N := some 45) (v := undef) (a' := ?_) #[true, true, true, true, true, true, true, true, true, false, false, false, false, false, false, false, false, false, false, false, false] rfl rfl (any_of HT_.out (by kernel_rfl)) (fun _ _ _ h => h) (Or.inr ⟨by rfl, rfl⟩) ?_ ?_
        rotate_left
        ·
         simp only [Act.put, List.setIfInBounds_toArray, List.set_cons_zero, List.set_cons_succ, i64_w, i32_w]
         rfl
        refine pure_ (i := 9) (N := some 46) (v := ?_) (a' := ?_) #[true, true, true, true, true, true, true, true, true, true, false, false, false, false, false, false, false, false, false, false, false] rfl rfl (any_of HT_.out (by kernel_rfl)) (fun _ _ _ h => h) (Or.inl ⟨by rfl, ?_⟩) ?_ ?_
        rotate_left
        ·
         intro w'
         go_simp
         with_reducible rfl
        rotate_left
        ·
         simp only [Act.put, List.setIfInBounds_toArray, List.set_cons_zero, List.set_cons_succ, i64_w, i32_w]
         rfl
        refine pure_ (i := 10) (N := some 47) (v := ?_) (a' := ?_) #[true, true, true, true, true, true, true, true, true, true, true, false, false, false, false, false, false, false, false, false, false] rfl rfl (any_of HT_.out (by kernel_rfl)) (fun _ _ _ h => h) (Or.inl ⟨by rfl, ?_⟩) ?_ ?_
        rotate_left
        ·
         intro w'
         go_simp
         with_reducible rfl
        rotate_left
        ·
         simp only [Act.put, List.setIfInBounds_toArray, List.set_cons_zero, List.set_cons_succ, i64_w, i32_w]
         rfl
        refine take_ (i := 11) (N := some 48) (v := ?_) (a' := ?_) #[true, true, true, true, true, true, true, true, true, true, true, true, false, false, false, false, false, false, false, false, false] rfl rfl (take_ofW HT_.out HW_.out (by kernel_rfl)) (fun _ _ _ h => h) (Or.inl ⟨by rfl, ?_⟩) hHeld ?_ ?_
        rotate_left
        ·
         rintro w' ⟨s0, s1, s2, s3⟩
         go_simp
         with_reducible rfl
        rotate_left
        ·
         simp only [Act.put, List.setIfInBounds_toArray, List.set_cons_zero, List.set_cons_succ, i64_w, i32_w]
         rfl
        refine one_ (i := 12) (N := some 49) #[true, true, true, true, true, true, true, true, true, true, true, true, true, false, false, false, false, false, false, false, false] rfl rfl (one_of HT_.out (by kernel_rfl)) (by decide) (fun K hK => ?_)
        refine goes_ Tryd.func36 (by kernel_rfl) rfl #[.agg #[.int .i64 qm, .int .i64 qn]] (by rfl) rfl rfl (by (try simp only [List.map_toArray, List.map_cons, List.map_nil]); first | done | rfl | (simp only [List.length_drop, List.length_take]; rfl)) ?_
        with_reducible refine (spec_IsRatio.calls kj6 qm qn false _ A64.out).mono ?_
        rintro e XQ ⟨rfl, hb⟩
        refine ⟨_, rfl, ?_⟩
        replace qa := kB_ qa hb; replace qb := kB_ qb hb; replace qc := kB_ qc hb; replace qd := kB_ qd hb; replace HB := bS_ HB hb; (try clear hb); (try clear hb2); (try clear hk); (try clear hi)
        refine hK.out _ _ ⟨bc_ qc 0, bc_ qc 1, bc_ qd 0, bc_ qd 1⟩ (fun hHeld => ?_)
        clear hK K
        refine norm_ (a' := ?_) ?_ ?_
        rotate_left
        ·
         show Act.put _ (some 49) _ = _
         simp only [Act.put, List.setIfInBounds_toArray, List.set_cons_zero, List.set_cons_succ, i64_w, i32_w]
         rfl
        refine pure_ (i := 13) (N := some 50) (v := ?_) (a' := ?_) #[true, true, true, true, true, true, true, true, true, true, true, true, true, true, false, false, false, false, false, false, false] rfl rfl (any_of HT_.out (by kernel_rfl)) (fun _ _ _ h => h) (Or.inl ⟨by rfl, ?_⟩) ?_ ?_
        rotate_left
        ·
         intro w'
         go_simp
         with_reducible rfl
        rotate_left
        ·
         simp only [Act.put, List.setIfInBounds_toArray, List.set_cons_zero, List.set_cons_succ, i64_w, i32_w]
         rfl
        refine pure_ (i := 14) (N := some 51) (v := undef) (a' := ?_) #[true, true, true, true, true, true, true, true, true, true, true, true, true, true, true, false, false, false, false, false, false] rfl rfl (any_of HT_.out (by kernel_rfl)) (fun _ _ _ h => h) (Or.inr ⟨by rfl, rfl⟩) ?_ ?_
        rotate_left
        ·
         simp only [Act.put, List.setIfInBounds_toArray, List.set_cons_zero, List.set_cons_succ, i64_w, i32_w]
         rfl
        refine pure_ (i := 15) (N := some 52) (v := undef) (a' := ?_) #[true, true, true, true, true, true, true, true, true, true, true, true, true, true, true, true, false, false, false, false, false] rfl rfl (any_of HT_.out (by kernel_rfl)) (fun _ _ _ h => h) (Or.inr ⟨by rfl, rfl⟩) ?_ ?_
        rotate_left
        ·
         simp only [Act.put, List.setIfInBounds_toArray, List.set_cons_zero, List.set_cons_succ, i64_w, i32_w]
         rfl
        refine pure_ (i := 16) (N := some 53) (v := undef) (a' := ?_) #[true, true, true, true, true, true, true, true, true, true, true, true, true, true, true, true, true, false, false, false, false] rfl rfl (any_of HT_.out (by kernel_rfl)) (fun _ _ _ h => h) (Or.inr ⟨by rfl, rfl⟩) ?_ ?_
        rotate_left
        ·
         simp only [Act.put, List.setIfInBounds_toArray, List.set_cons_zero, List.set_cons_succ, i64_w, i32_w]
         rfl
        refine pure_ (i := 17) (N := some 54) (v := undef) (a' := ?_) #[true, true, true, true, true, true, true, true, true, true, true, true, true, true, true, true, true, true, false, false, false] rfl rfl (any_of HT_.out (by kernel_rfl)) (fun _ _ _ h => h) (Or.inr ⟨by rfl, rfl⟩) ?_ ?_
        rotate_left
        ·
         simp only [Act.put, List.setIfInBounds_toArray, List.set_cons_zero, List.set_cons_succ, i64_w, i32_w]
         rfl
        refine pure_ (i := 18) (N := some 55) (v := undef) (a' := ?_) #[true, true, true, true, true, true, true, true, true, true, true, true, true, true, true, true, true, true, true, false, false] rfl rfl (any_of HT_.out (by kernel_rfl)) (fun _ _ _ h => h) (Or.inr ⟨by rfl, rfl⟩) ?_ ?_
        rotate_left
        ·
         simp only [Act.put, List.setIfInBounds_toArray, List.set_cons_zero, List.set_cons_succ, i64_w, i32_w]
         rfl
        refine pure_ (i := 19) (N := some 56) (v := ?_) (a' := ?_) #[true, true, true, true, true, true, true, true, true, true, true, true, true, true, true, true, true, true, true, true, false] rfl rfl (any_of HT_.out (by kernel_rfl)) (fun _ _ _ h => h) (Or.inl ⟨by rfl, ?_⟩) ?_ ?_
        rotate_left
        ·
         intro w'
         go_simp
         with_reducible rfl
        rotate_left
        ·
         simp only [Act.put, List.setIfInBounds_toArray, List.set_cons_zero, List.set_cons_succ, i64_w, i32_w]
         rfl
        refine pure_ (i := 20) (N := some 57) (v := ?_) (a' := ?_) #[true, true, true, true, true, true, true, true, true, true, true, true, true, true, true, true, true, true, true, true, true] rfl rfl (any_of HT_.out (by kernel_rfl)) (fun _ _ _ h => h) (Or.inl ⟨by rfl, ?_⟩) ?_ ?_
        rotate_left
        ·
         intro w'
         go_simp
         with_reducible rfl
        rotate_left
        ·
         simp only [Act.put, List.setIfInBounds_toArray, List.set_cons_zero, List.set_cons_succ, i64_w, i32_w]
         rfl
        refine done_ (done_of HT_.out (by kernel_rfl)) ?_
        try go_wp2
        go_meet
        case rel => exact ⟨_, (false), (by first | rfl | (simp; done) | (simp [*]; done)), H', ⟨by have := HJ6.out; first | omega | exact Nat.le_refl _⟩, ⟨kf_ qa⟩, ⟨kf_ qb⟩, ⟨kf_ qc⟩, ⟨kf_ qd⟩, ⟨bb_ HB⟩⟩
     case rest =>
      clear HC40
      try clear p2
      try clear c3
      try clear c4
      try clear c6
      try clear c35
      try clear c36
      try clear c42
      try clear c65
      obtain ⟨kq, q8, rfl, HA, HJ39, qa, qb, qc, qd, HB⟩ := hcut
      cases kq with
      | zero => exact absurd HA.out (by simp [laws_FnRatios.j1])
      | succ kj39 =>
       have H := HA.out
       clear HA
       simp only [laws_FnRatios.j1] at H
       by_cases c74 : q8 = true
       ·
        subst c74
        have H1 : (some false) = some r := by rw [if_pos rfl] at H; exact H
        clear H
        have H := H1
        clear H1
        obtain rfl := Option.some.inj H
        go_wp2
        go_ret
        exact ⟨by first | rfl | (simp [errW_none, errW_some] <;> rfl) | (simp [*, errW_none, errW_some] <;> rfl), bb_ HB⟩
       ·
        replace c74 := Bool.eq_false_iff.mpr c74
        subst c74
        have H1 : ((impl_FormatRatio.f kj39 qe qf).bind fun zb => ((impl_ParseRatio.f kj39 zb).bind fun qR => ((impl_CompareRatios.f kj39 qe qf qh qi).bind fun qo => ((spec_IsRatio.f kj39 qe qf).bind fun qP => (if (qR.2.2 != qP) = true then (laws_FnRatios.j2 kj39 qo true qe qf qh qi) else (if qR.2.2 = true then (laws_FnRatios.j2 kj39 qo (!(qR.1 == qe) || (!(qR.2.1 == qf))) qe qf qh qi) else (laws_FnRatios.j2 kj39 qo false qe qf qh qi))))))) = some r := by rw [if_neg (show ¬ (false = true) by decide)] at H; exact H
        clear H
        have H := H1
        clear H1
        replace H := Option.bind_eq_some_iff.mp H
        obtain ⟨zb, A750, H⟩ := H
        replace H : ((impl_ParseRatio.f kj39 zb).bind fun qR => ((impl_CompareRatios.f kj39 qe qf qh qi).bind fun qo => ((spec_IsRatio.f kj39 qe qf).bind fun qP => (if (qR.2.2 != qP) = true then (laws_FnRatios.j2 kj39 qo true qe qf qh qi) else (if qR.2.2 = true then (laws_FnRatios.j2 kj39 qo (!(qR.1 == qe) || (!(qR.2.1 == qf))) qe qf qh qi) else (laws_FnRatios.j2 kj39 qo false qe qf qh qi)))))) = some r := H
        have A75 := Aside0.mk A750
        clear A750
        replace H := Option.bind_eq_some_iff.mp H
        obtain ⟨⟨q1, q9, qT⟩, A760, H⟩ := H
        replace H : ((impl_CompareRatios.f kj39 qe qf qh qi).bind fun qo => ((spec_IsRatio.f kj39 qe qf).bind fun qP => (if (qT != qP) = true then (laws_FnRatios.j2 kj39 qo true qe qf qh qi) else (if qT = true then (laws_FnRatios.j2 kj39 qo (!(q1 == qe) || (!(q9 == qf))) qe qf qh qi) else (laws_FnRatios.j2 kj39 qo false qe qf qh qi))))) = some r := H
        have A76 := Aside0.mk A760
        clear A760
        replace H := Option.bind_eq_some_iff.mp H
        obtain ⟨qo, A770, H⟩ := H
        replace H : ((spec_IsRatio.f kj39 qe qf).bind fun qP => (if (qT != qP) = true then (laws_FnRatios.j2 kj39 qo true qe qf qh qi) else (if qT = true then (laws_FnRatios.j2 kj39 qo (!(q1 == qe) || (!(q9 == qf))) qe qf qh qi) else (laws_FnRatios.j2 kj39 qo false qe qf qh qi)))) = some r := H
        have A77 := Aside0.mk A770
        clear A770
        have HC78 := Aside0.mk H
        clear H
        have JR := qu.out
        have JS := qv.out
        have JT := qy.out
        have JU := qz.out
        have JV := qA.out
        have JW := qB.out
        have z7 : wc.cell? ⟨qj, 0, none⟩ = some (.int .i64 qe) := bc_ qa 0
        have z8 : wc.cell? ⟨qj, 1, none⟩ = some (.int .i64 qf) := bc_ qa 1
        have z9 := blk_frozen qa.out 0
        have ja := blk_frozen qa.out 1
        go_upto_region 12 with (first | ((with_reducible refine gate_callee (f := 38) rfl ?_); refine goesL_ (some 60) rfl rfl Tryd.func38 (by kernel_rfl) rfl #[.agg #[.int .i64 qe, .int .i64 qf]] rfl (by (try simp only [List.map_toArray, List.map_cons, List.map_nil]); first | done | rfl | (simp only [List.length_drop, List.length_take]; rfl)) ?_; (with_reducible refine (impl_FormatRatio.calls (hL := laid_ HL_ HB) kj39 qe qf zb _ A75.out).mono ?_); rintro e XR ⟨rfl, hb⟩; refine ⟨_, rfl, ?_⟩; replace qa := kB_ qa hb; replace qb := kB_ qb hb; replace qc := kB_ qc hb; replace qd := kB_ qd hb; replace HB := bS_ HB hb; (try clear hb); (try clear hb2); (try clear hk); (try clear hi)) | ((with_reducible refine gate_callee (f := 24) rfl ?_); refine goesL_ (some 61) rfl rfl Tryd.func24 (by kernel_rfl) rfl #[.string zb] rfl (by (try simp only [List.map_toArray, List.map_cons, List.map_nil]); first | done | rfl | (simp only [List.length_drop, List.length_take]; rfl)) ?_; (with_reducible refine (impl_ParseRatio.calls (hL := laid_ HL_ HB) kj39 zb q1 q9 qT _ A76.out).mono ?_); rintro e XS ⟨rfl, hb⟩; refine ⟨_, rfl, ?_⟩; replace qa := kB_ qa hb; replace qb := kB_ qb hb; replace qc := kB_ qc hb; replace qd := kB_ qd hb; replace HB := bS_ HB hb; (try clear hb); (try clear hb2); (try clear hk); (try clear hi)) | ((with_reducible refine gate_dst (N := 7) rfl ?_); refine box_event ?hg (N := 7) ?hd (cs := #[.int .i64 0, .int .i64 0]) (t := 46) ?hr ?_; (case hd => rfl); (case hg => rfl); (case hr => first | (go_simp; done) | (go_simp; rfl)); intro qO hg jJ hbox hb; have qr := Aside0.mk (hbox); have JX := Aside0.mk ((by rw [hg]; exact (bz_ HB) : w.heap.size ≤ qO)); have JY := Aside0.mk ((by rw [hg]; exact (bz_ HB) : w.heap.size ≤ qO)); replace HB := bS_ HB hb; have qE := Aside0.mk ((nl_ qa hg : qj ≠ qO)); have qF := Aside0.mk ((ng_ qa hg : qO ≠ qj)); replace qa := kB_ qa hb; have qL := Aside0.mk ((nl_ qb hg : qk ≠ qO)); have qM := Aside0.mk ((ng_ qb hg : qO ≠ qk)); replace qb := kB_ qb hb; have q3 := Aside0.mk ((nl_ qc hg : qt ≠ qO)); have q4 := Aside0.mk ((ng_ qc hg : qO ≠ qt)); replace qc := kB_ qc hb; have q5 := Aside0.mk ((nl_ qd hg : ql ≠ qO)); have q6 := Aside0.mk ((ng_ qd hg : qO ≠ ql)); replace qd := kB_ qd hb; clear hb hbox hg; have JZ := qF.out; have J0 := qE.out; have J1 := qM.out; have J2 := qL.out; have J3 := q4.out; have J4 := q3.out; have J5 := q6.out; have J6 := q5.out; have jb : jJ.cell? ⟨qO, 0, none⟩ = some (.int .i64 0) := bc_ qr 0; have jc : jJ.cell? ⟨qO, 1, none⟩ = some (.int .i64 0) := bc_ qr 1; have jd := blk_frozen qr.out 0; have je := blk_frozen qr.out 1; have jf : jJ.cell? ⟨qj, 0, none⟩ = some (.int .i64 qe) := bc_ qa 0; have jg : jJ.cell? ⟨qj, 1, none⟩ = some (.int .i64 qf) := bc_ qa 1; have jh := blk_frozen qa.out 0; have ji := blk_frozen qa.out 1; have J7 := qH.out; have J8 := qI.out; have J9 := qJ.out; have Xa := qK.out; have jj : jJ.cell? ⟨qk, 0, none⟩ = some (.int .i64 qh) := bc_ qb 0; have jk : jJ.cell? ⟨qk, 1, none⟩ = some (.int .i64 qi) := bc_ qb 1; have jl := blk_frozen qb.out 0; have jm := blk_frozen qb.out 1) | ((with_reducible refine gate_callee (f := 39) rfl ?_); refine goesL_ (some 66) rfl rfl Tryd.func39 (by kernel_rfl) rfl #[.agg #[.int .i64 qe, .int .i64 qf], .agg #[.int .i64 qh, .int .i64 qi]] rfl (by (try simp only [List.map_toArray, List.map_cons, List.map_nil]); first | done | rfl | (simp only [List.length_drop, List.length_take]; rfl)) ?_; (with_reducible refine (impl_CompareRatios.calls kj39 qe qf qh qi qo _ A77.out).mono ?_); rintro e jK ⟨rfl, hb⟩; clear A77; refine ⟨_, rfl, ?_⟩; replace qa := Aside0.mk (blk_below (g := qj) (o := .cells #[.int .i64 qe, .int .i64 qf] 46 (0, 0)) (kf_ qa) hb); replace qb := Aside0.mk (blk_below (g := qk) (o := .cells #[.int .i64 qh, .int .i64 qi] 46 (0, 0)) (kf_ qb) hb); replace qc := Aside0.mk (blk_below (g := qt) (o := .cells #[.int .i64 qp, .int .i64 qs] 46 (0, 0)) (kf_ qc) hb); replace qd := Aside0.mk (blk_below (g := ql) (o := .cells #[.int .i64 qm, .int .i64 qn] 46 (0, 0)) (kf_ qd) hb); replace qr := Aside0.mk (blk_below (g := qO) (o := .cells #[.int .i64 q1, .int .i64 q9] 46 (0, 0)) (by (with_reducible repeat (first | refine blk_drewN ?_ _ | refine blk_drew ?_ | refine blk_alloc ?_ _)); refine blk_put (cs := #[.int .i64 q1, .int .i64 0]) ?_ 1 _ rfl; (with_reducible repeat (first | refine blk_drewN ?_ _ | refine blk_drew ?_ | refine blk_alloc ?_ _)); refine blk_put (cs := #[.int .i64 0, .int .i64 0]) ?_ 0 _ rfl; (with_reducible repeat (first | refine blk_drewN ?_ _ | refine blk_drew ?_ | refine blk_alloc ?_ _)); exact qr.out) hb); replace HB := bS_ HB hb; (try clear hb); (try clear hb2); (try clear hk); (try clear hi)))
        (try simp only [Act.put, List.setIfInBounds_toArray, List.set_cons_zero, List.set_cons_succ])
        go_cut [78] (fun v78 wc => ∃ (kq : Nat) (za : Bool), v78 = .bool za ∧ Aside0 (laws_FnRatios.j2 kq qo za qe qf qh qi = some r) ∧ Aside0 (kq ≤ kj39) ∧ Aside0 (wc.heap[qj]? = some (.cells #[.int .i64 qe, .int .i64 qf] 46 (0, 0))) ∧ Aside0 (wc.heap[qk]? = some (.cells #[.int .i64 qh, .int .i64 qi] 46 (0, 0))) ∧ Aside0 (wc.heap[qt]? = some (.cells #[.int .i64 qp, .int .i64 qs] 46 (0, 0))) ∧ Aside0 (wc.heap[ql]? = some (.cells #[.int .i64 qm, .int .i64 qn] 46 (0, 0))) ∧ Aside0 (wc.heap[qO]? = some (.cells #[.int .i64 q1, .int .i64 q9] 46 (0, 0))) ∧ Aside0 (Below w.heap.size w wc))
        case first =>
         have H := HC78.out
         clear HC78
         replace H := Option.bind_eq_some_iff.mp H
         obtain ⟨qP, A960, H⟩ := H
         replace H : (if (qT != qP) = true then (laws_FnRatios.j2 kj39 qo true qe qf qh qi) else (if qT = true then (laws_FnRatios.j2 kj39 qo (!(q1 == qe) || (!(q9 == qf))) qe qf qh qi) else (laws_FnRatios.j2 kj39 qo false qe qf qh qi))) = some r := H
         have A96 := Aside0.mk A960
         clear A960
         by_cases c97 : (qT != qP) = true
         ·
          rw [if_pos c97] at H
          have q7 : (qT != qP) = true := c97
          (try (have js : decide (qT = qP) = false := by simpa using c97))
          (try (have jt : (qT == qP) = false := by simpa using c97))
          (try (have Xb : ¬ (qT = qP) := by simpa using c97))
          clear c97
          (first | rw [q7] | (simp only [i64_w, i32_w]; rw [q7]) | skip)
          have H' := Aside0.mk H
          clear H
          have Xc := qu.out
          have Xd := qv.out
          have Xe := qy.out
          have Xf := qz.out
          have QZ := qA.out
          have Q0 := qB.out
          have Q1 := qE.out
          have Q2 := qF.out
          have zn : jK.cell? ⟨qj, 0, none⟩ = some (.int .i64 qe) := bc_ qa 0
          have zo : jK.cell? ⟨qj, 1, none⟩ = some (.int .i64 qf) := bc_ qa 1
          have zp := blk_frozen qa.out 0
          have zq := blk_frozen qa.out 1
          go_wp2_with (first | ((with_reducible refine gate_callee (f := 36) rfl ?_); refine goesL_ (some 69) rfl rfl Tryd.func36 (by kernel_rfl) rfl #[.agg #[.int .i64 qe, .int .i64 qf]] rfl (by (try simp only [List.map_toArray, List.map_cons, List.map_nil]); first | done | rfl | (simp only [List.length_drop, List.length_take]; rfl)) ?_; (with_reducible refine (spec_IsRatio.calls kj39 qe qf qP _ A96.out).mono ?_); rintro e Xi ⟨rfl, hb⟩; refine ⟨_, rfl, ?_⟩; replace qa := kB_ qa hb; replace qb := kB_ qb hb; replace qc := kB_ qc hb; replace qd := kB_ qd hb; replace qr := kB_ qr hb; replace HB := bS_ HB hb; (try clear hb); (try clear hb2); (try clear hk); (try clear hi)))
          go_meet
          case rel => exact ⟨_, (true), (by first | rfl | (simp; done) | (simp [*]; done)), H', ⟨by have := HJ6.out; have := HJ39.out; first | omega | exact Nat.le_refl _⟩, ⟨kf_ qa⟩, ⟨kf_ qb⟩, ⟨kf_ qc⟩, ⟨kf_ qd⟩, ⟨kf_ qr⟩, ⟨bb_ HB⟩⟩
         ·
          rw [if_neg c97] at H
          have q7 : (qT != qP) = false := by simpa using c97
          (try (have js : decide (qT = qP) = true := by simpa using c97))
          (try (have jt : (qT == qP) = true := by simpa using c97))
          clear c97
          (first | rw [q7] | (simp only [i64_w, i32_w]; rw [q7]) | skip)
          by_cases c104 : qT = true
          ·
           subst c104
           have H1 : (laws_FnRatios.j2 kj39 qo (!(q1 == qe) || (!(q9 == qf))) qe qf qh qi) = some r := by rw [if_pos rfl] at H; exact H
           clear H
           have H := H1
           clear H1
           have H' := Aside0.mk H
           clear H
           have Q3 := qu.out
           have Q4 := qv.out
           have Q5 := qy.out
           have Q6 := qz.out
           have Q7 := qA.out
           have Q8 := qB.out
           have Q9 := qE.out
           have Za := qF.out
           have zr : jK.cell? ⟨qj, 0, none⟩ = some (.int .i64 qe) := bc_ qa 0
           have zs : jK.cell? ⟨qj, 1, none⟩ = some (.int .i64 qf) := bc_ qa 1
           have zt := blk_frozen qa.out 0
           have zu := blk_frozen qa.out 1
           go_wp2_with (first | ((with_reducible refine gate_callee (f := 36) rfl ?_); refine goesL_ (some 69) rfl rfl Tryd.func36 (by kernel_rfl) rfl #[.agg #[.int .i64 qe, .int .i64 qf]] rfl (by (try simp only [List.map_toArray, List.map_cons, List.map_nil]); first | done | rfl | (simp only [List.length_drop, List.length_take]; rfl)) ?_; (with_reducible refine (spec_IsRatio.calls kj39 qe qf qP _ A96.out).mono ?_); rintro e jn ⟨rfl, hb⟩; refine ⟨_, rfl, ?_⟩; replace qa := kB_ qa hb; replace qb := kB_ qb hb; replace qc := kB_ qc hb; replace qd := kB_ qd hb; replace qr := kB_ qr hb; replace HB := bS_ HB hb; (try clear hb); (try clear hb2); (try clear hk); (try clear hi); have Zb := qM.out; have Zc := qL.out; have Zd := q4.out; have Ze := q3.out; have Zf := q6.out; have Zg := q5.out; have zv : jn.cell? ⟨qO, 0, none⟩ = some (.int .i64 q1) := bc_ qr 0; have zw : jn.cell? ⟨qO, 1, none⟩ = some (.int .i64 q9) := bc_ qr 1; have zx := blk_frozen qr.out 0; have zy := blk_frozen qr.out 1; have zz : jn.cell? ⟨qj, 0, none⟩ = some (.int .i64 qe) := bc_ qa 0; have zA : jn.cell? ⟨qj, 1, none⟩ = some (.int .i64 qf) := bc_ qa 1; have zB := blk_frozen qa.out 0; have zC := blk_frozen qa.out 1))
           go_meet
           case rel => exact ⟨_, ((!(q1 == qe) || (!(q9 == qf)))), (by first | rfl | (simp; done) | (simp [*]; done)), H', ⟨by have := HJ6.out; have := HJ39.out; first | omega | exact Nat.le_refl _⟩, ⟨kf_ qa⟩, ⟨kf_ qb⟩, ⟨kf_ qc⟩, ⟨kf_ qd⟩, ⟨kf_ qr⟩, ⟨bb_ HB⟩⟩
          ·
           replace c104 := Bool.eq_false_iff.mpr c104
           subst c104
           have H1 : (laws_FnRatios.j2 kj39 qo false qe qf qh qi) = some r := by rw [if_neg (show ¬ (false = true) by decide)] at H; exact H
           clear H
           have H := H1
           clear H1
           have H' := Aside0.mk H
           clear H
           have Zh := qu.out
           have Zi := qv.out
           have Zj := qy.out
           have Zk := qz.out
           have Zl := qA.out
           have Zm := qB.out
           have Zn := qE.out
           have Zo := qF.out
           have zD : jK.cell? ⟨qj, 0, none⟩ = some (.int .i64 qe) := bc_ qa 0
           have zE : jK.cell? ⟨qj, 1, none⟩ = some (.int .i64 qf) := bc_ qa 1
           have zF := blk_frozen qa.out 0
           have zG := blk_frozen qa.out 1
           go_wp2_with (first | ((with_reducible refine gate_callee (f := 36) rfl ?_); refine goesL_ (some 69) rfl rfl Tryd.func36 (by kernel_rfl) rfl #[.agg #[.int .i64 qe, .int .i64 qf]] rfl (by (try simp only [List.map_toArray, List.map_cons, List.map_nil]); first | done | rfl | (simp only [List.length_drop, List.length_take]; rfl)) ?_; (with_reducible refine (spec_IsRatio.calls kj39 qe qf qP _ A96.out).mono ?_); rintro e Xj ⟨rfl, hb⟩; refine ⟨_, rfl, ?_⟩; replace qa := kB_ qa hb; replace qb := kB_ qb hb; replace qc := kB_ qc hb; replace qd := kB_ qd hb; replace qr := kB_ qr hb; replace HB := bS_ HB hb; (try clear hb); (try clear hb2); (try clear hk); (try clear hi)))
           go_meet
           case rel => exact ⟨_, (false), (by first | rfl | (simp; done) | (simp [*]; done)), H', ⟨by have := HJ6.out; have := HJ39.out; first | omega | exact Nat.le_refl _⟩, ⟨kf_ qa⟩, ⟨kf_ qb⟩, ⟨kf_ qc⟩, ⟨kf_ qd⟩, ⟨kf_ qr⟩, ⟨bb_ HB⟩⟩
        case rest =>
         clear HC78
         try clear c1
         try clear c2
         try clear p2
         try clear c3
         try clear c4
         try clear c6
         try clear c7
         try clear c8
         try clear c9
         try clear c10
         try clear c11
         try clear c24
         try clear c35
         try clear c36
         try clear c38
         try clear c39
         try clear c42
         try clear c65
         try clear c74
         try clear c79
         try clear c80
         try clear c81
         try clear c86
         try clear c87
         try clear c88
         try clear c89
         try clear c92
         try clear c93
         try clear c97
         try clear q7
         try clear js
         try clear jt
         try clear c98
         try clear c99
         try clear c100
         try clear c101
         try clear c104
         try clear c105
         try clear c106
         try clear c107
         try clear c108
         try clear c111
         try clear c112
         try clear c113
         try clear c116
         try clear c117
         try clear c118
         try clear c119
         try clear zn
         try clear zo
         try clear zr
         try clear zs
         try clear zv
         try clear zw
         try clear zz
         try clear zA
         try clear zD
         try clear zE
         try clear z7
         try clear z8
         try clear jb
         try clear jc
         try clear jf
         try clear jg
         try clear jj
         try clear jk
         try clear zp
         try clear zq
         try clear zt
         try clear zu
         try clear zx
         try clear zy
         try clear zB
         try clear zC
         try clear zF
         try clear zG
         try clear z9
         try clear ja
         try clear jd
         try clear je
         try clear jh
         try clear ji
         try clear jl
         try clear jm
         try clear p2
         obtain ⟨kq, za, rfl, HA, HJ77, qa, qb, qc, qd, qr, HB⟩ := hcut
         cases kq with
         | zero => exact absurd HA.out (by simp [laws_FnRatios.j2])
         | succ kj77 =>
          have H := HA.out
          clear HA
          simp only [laws_FnRatios.j2] at H
          by_cases c122 : za = true
          ·
           subst c122
           have H1 : (some false) = some r := by rw [if_pos rfl] at H; exact H
           clear H
           have H := H1
           clear H1
           obtain rfl := Option.some.inj H
           go_wp2
           go_ret
           exact ⟨by first | rfl | (simp [errW_none, errW_some] <;> rfl) | (simp [*, errW_none, errW_some] <;> rfl), bb_ HB⟩
          ·
           replace c122 := Bool.eq_false_iff.mpr c122
           subst c122
           have H1 : (if qo = 2 then ((impl_CompareRatios.f kj77 qh qi qe qf).bind fun qW => (if qW = 2 then (some true) else ((impl_CompareRatios.f kj77 qh qi qe qf).bind fun qV => (if qo = (wrap64 (-qV)) then (some ((qo == 0) == (qe == qh && (qf == qi)))) else (some false))))) else ((impl_CompareRatios.f kj77 qh qi qe qf).bind fun qX => (if qo = (wrap64 (-qX)) then (some ((qo == 0) == (qe == qh && (qf == qi)))) else (some false)))) = some r := by rw [if_neg (show ¬ (false = true) by decide)] at H; exact H
           clear H
           have H := H1
           clear H1
           by_cases c123 : qo = 2
           ·
            rw [if_pos c123] at H
            have jA : (qo == 2) = true := beq_iff_eq.mpr c123
            have jB : (qo != 2) = false := bne_eq_false_iff_eq.mpr c123
            clear c123
            replace H := Option.bind_eq_some_iff.mp H
            obtain ⟨qW, A1240, H⟩ := H
            replace H : (if qW = 2 then (some true) else ((impl_CompareRatios.f kj77 qh qi qe qf).bind fun qV => (if qo = (wrap64 (-qV)) then (some ((qo == 0) == (qe == qh && (qf == qi)))) else (some false)))) = some r := H
            have A124 := Aside0.mk A1240
            clear A1240
            by_cases c125 : qW = 2
            ·
             rw [if_pos c125] at H
             have jC : (qW == 2) = true := beq_iff_eq.mpr c125
             have jD : (qW != 2) = false := bne_eq_false_iff_eq.mpr c125
             clear c125
             obtain rfl := Option.some.inj H
             have Zp := qv.out
             have Zq := qu.out
             have Zr := qH.out
             have Zs := qI.out
             have Zt := qJ.out
             have Zu := qK.out
             have Zv := qL.out
             have Zw := qM.out
             have jL : wc.cell? ⟨qk, 0, none⟩ = some (.int .i64 qh) := bc_ qb 0
             have jM : wc.cell? ⟨qk, 1, none⟩ = some (.int .i64 qi) := bc_ qb 1
             have jN := blk_frozen qb.out 0
             have jO := blk_frozen qb.out 1
             have Zx := qy.out
             have Zy := qz.out
             have Zz := qA.out
             have ZA := qB.out
             have ZB := qE.out
             have ZC := qF.out
             have jP : wc.cell? ⟨qj, 0, none⟩ = some (.int .i64 qe) := bc_ qa 0
             have jQ : wc.cell? ⟨qj, 1, none⟩ = some (.int .i64 qf) := bc_ qa 1
             have jR := blk_frozen qa.out 0
             have jS := blk_frozen qa.out 1
             go_wp2_with (first | (go_at_call 39; (with_reducible refine (impl_CompareRatios.calls kj77 qh qi qe qf qW _ A124.out).mono ?_); rintro e Xk ⟨rfl, hb⟩; clear A124; replace qa := kB_ qa hb; replace qb := kB_ qb hb; replace qc := kB_ qc hb; replace qd := kB_ qd hb; replace qr := kB_ qr hb; replace HB := bS_ HB hb; (try clear hb); (try clear hb2); (try clear hk); (try clear hi)))
             go_ret
             exact ⟨by first | rfl | (simp [errW_none, errW_some] <;> rfl) | (simp [*, errW_none, errW_some] <;> rfl), bb_ HB⟩
            ·
             rw [if_neg c125] at H
             have jC : (qW == 2) = false := beq_eq_false_iff_ne.mpr c125
             have jD : (qW != 2) = true := bne_iff_ne.mpr c125
             replace H := Option.bind_eq_some_iff.mp H
             obtain ⟨qV, A1360, H⟩ := H
             replace H : (if qo = (wrap64 (-qV)) then (some ((qo == 0) == (qe == qh && (qf == qi)))) else (some false)) = some r := H
             have A136 := Aside0.mk A1360
             clear A1360
             by_cases c137 : qo = (wrap64 (-qV))
             ·
              rw [if_pos c137] at H
              have jE : (qo == (wrap64 (-qV))) = true := beq_iff_eq.mpr c137
              have jF : (qo != (wrap64 (-qV))) = false := bne_eq_false_iff_eq.mpr c137
              clear c137
              obtain rfl := Option.some.inj H
              have ZD := qv.out
              have ZE := qu.out
              have ZF := qH.out
              have ZG := qI.out
              have ZH := qJ.out
              have ZI := qK.out
              have ZJ := qL.out
              have ZK := qM.out
              have jT : wc.cell? ⟨qk, 0, none⟩ = some (.int .i64 qh) := bc_ qb 0
              have jU : wc.cell? ⟨qk, 1, none⟩ = some (.int .i64 qi) := bc_ qb 1
              have jV := blk_frozen qb.out 0
              have jW := blk_frozen qb.out 1
              have ZL := qy.out
              have ZM := qz.out
              have ZN := qA.out
              have ZO := qB.out
              have ZP := qE.out
              have ZQ := qF.out
              have jX : wc.cell? ⟨qj, 0, none⟩ = some (.int .i64 qe) := bc_ qa 0
              have jY : wc.cell? ⟨qj, 1, none⟩ = some (.int .i64 qf) := bc_ qa 1
              have jZ := blk_frozen qa.out 0
              have j3 := blk_frozen qa.out 1
              go_wp2_with (first | (go_at_call 39; (with_reducible refine (impl_CompareRatios.calls kj77 qh qi qe qf qW _ A124.out).mono ?_); rintro e jo ⟨rfl, hb⟩; clear A124; replace qa := kB_ qa hb; replace qb := kB_ qb hb; replace qc := kB_ qc hb; replace qd := kB_ qd hb; replace qr := kB_ qr hb; replace HB := bS_ HB hb; (try clear hb); (try clear hb2); (try clear hk); (try clear hi); have j4 : jo.cell? ⟨qk, 0, none⟩ = some (.int .i64 qh) := bc_ qb 0; have j5 : jo.cell? ⟨qk, 1, none⟩ = some (.int .i64 qi) := bc_ qb 1; have j6 := blk_frozen qb.out 0; have j7 := blk_frozen qb.out 1; have j8 : jo.cell? ⟨qj, 0, none⟩ = some (.int .i64 qe) := bc_ qa 0; have j9 : jo.cell? ⟨qj, 1, none⟩ = some (.int .i64 qf) := bc_ qa 1; have Qa := blk_frozen qa.out 0; have Qb := blk_frozen qa.out 1) | (go_at_call 39; (with_reducible refine (impl_CompareRatios.calls kj77 qh qi qe qf qV _ A136.out).mono ?_); rintro e jp ⟨rfl, hb⟩; clear A136; replace qa := kB_ qa hb; replace qb := kB_ qb hb; replace qc := kB_ qc hb; replace qd := kB_ qd hb; replace qr := kB_ qr hb; replace HB := bS_ HB hb; (try clear hb); (try clear hb2); (try clear hk); (try clear hi); have Qc : jp.cell? ⟨qj, 0, none⟩ = some (.int .i64 qe) := bc_ qa 0; have Qd : jp.cell? ⟨qj, 1, none⟩ = some (.int .i64 qf) := bc_ qa 1; have Qe := blk_frozen qa.out 0; have Qf := blk_frozen qa.out 1; have Qg : jp.cell? ⟨qk, 0, none⟩ = some (.int .i64 qh) := bc_ qb 0; have Qh : jp.cell? ⟨qk, 1, none⟩ = some (.int .i64 qi) := bc_ qb 1; have Qi := blk_frozen qb.out 0; have Qj := blk_frozen qb.out 1))
              go_ret
              exact ⟨by first | rfl | (simp [errW_none, errW_some] <;> rfl) | (simp [*, errW_none, errW_some] <;> rfl), bb_ HB⟩
             ·
              rw [if_neg c137] at H
              have jE : (qo == (wrap64 (-qV))) = false := beq_eq_false_iff_ne.mpr c137
              have jF : (qo != (wrap64 (-qV))) = true := bne_iff_ne.mpr c137
              obtain rfl := Option.some.inj H
              have ZR := qv.out
              have ZS := qu.out
              have ZT := qH.out
              have ZU := qI.out
              have ZV := qJ.out
              have ZW := qK.out
              have ZX := qL.out
              have ZY := qM.out
              have Qk : wc.cell? ⟨qk, 0, none⟩ = some (.int .i64 qh) := bc_ qb 0
              have Ql : wc.cell? ⟨qk, 1, none⟩ = some (.int .i64 qi) := bc_ qb 1
              have Qm := blk_frozen qb.out 0
              have Qn := blk_frozen qb.out 1
              have ZZ := qy.out
              have Z0 := qz.out
              have Z1 := qA.out
              have Z2 := qB.out
              have Z3 := qE.out
              have Z4 := qF.out
              have Qo : wc.cell? ⟨qj, 0, none⟩ = some (.int .i64 qe) := bc_ qa 0
              have Qp : wc.cell? ⟨qj, 1, none⟩ = some (.int .i64 qf) := bc_ qa 1
              have Qq := blk_frozen qa.out 0
              have Qr := blk_frozen qa.out 1
              go_wp2_with (first | (go_at_call 39; (with_reducible refine (impl_CompareRatios.calls kj77 qh qi qe qf qW _ A124.out).mono ?_); rintro e jq ⟨rfl, hb⟩; clear A124; replace qa := kB_ qa hb; replace qb := kB_ qb hb; replace qc := kB_ qc hb; replace qd := kB_ qd hb; replace qr := kB_ qr hb; replace HB := bS_ HB hb; (try clear hb); (try clear hb2); (try clear hk); (try clear hi); have Qs : jq.cell? ⟨qk, 0, none⟩ = some (.int .i64 qh) := bc_ qb 0; have Qt : jq.cell? ⟨qk, 1, none⟩ = some (.int .i64 qi) := bc_ qb 1; have Qu := blk_frozen qb.out 0; have Qv := blk_frozen qb.out 1; have Qw : jq.cell? ⟨qj, 0, none⟩ = some (.int .i64 qe) := bc_ qa 0; have Qx : jq.cell? ⟨qj, 1, none⟩ = some (.int .i64 qf) := bc_ qa 1; have Qy := blk_frozen qa.out 0; have Qz := blk_frozen qa.out 1) | (go_at_call 39; (with_reducible refine (impl_CompareRatios.calls kj77 qh qi qe qf qV _ A136.out).mono ?_); rintro e Xl ⟨rfl, hb⟩; clear A136; replace qa := kB_ qa hb; replace qb := kB_ qb hb; replace qc := kB_ qc hb; replace qd := kB_ qd hb; replace qr := kB_ qr hb; replace HB := bS_ HB hb; (try clear hb); (try clear hb2); (try clear hk); (try clear hi)))
              go_ret
              exact ⟨by first | rfl | (simp [errW_none, errW_some] <;> rfl) | (simp [*, errW_none, errW_some] <;> rfl), bb_ HB⟩
           ·
            rw [if_neg c123] at H
            have jA : (qo == 2) = false := beq_eq_false_iff_ne.mpr c123
            have jB : (qo != 2) = true := bne_iff_ne.mpr c123
            replace H := Option.bind_eq_some_iff.mp H
            obtain ⟨qX, A1660, H⟩ := H
            replace H : (if qo = (wrap64 (-qX)) then (some ((qo == 0) == (qe == qh && (qf == qi)))) else (some false)) = some r := H
            have A166 := Aside0.mk A1660
            clear A1660
            by_cases c167 : qo = (wrap64 (-qX))
            ·
             rw [if_pos c167] at H
             have jG : (qo == (wrap64 (-qX))) = true := beq_iff_eq.mpr c167
             have jH : (qo != (wrap64 (-qX))) = false := bne_eq_false_iff_eq.mpr c167
             clear c167
             obtain rfl := Option.some.inj H
             have Z5 := qv.out
             have Z6 := qu.out
             have Z7 := qH.out
             have Z8 := qI.out
             have Z9 := qJ.out
             have Ja := qK.out
             have Jb := qL.out
             have Jc := qM.out
             have QA : wc.cell? ⟨qk, 0, none⟩ = some (.int .i64 qh) := bc_ qb 0
             have QB : wc.cell? ⟨qk, 1, none⟩ = some (.int .i64 qi) := bc_ qb 1
             have QC := blk_frozen qb.out 0
             have QD := blk_frozen qb.out 1
             have Jd := qy.out
             have Je := qz.out
             have Jf := qA.out
             have Jg := qB.out
             have Jh := qE.out
             have Ji := qF.out
             have QE : wc.cell? ⟨qj, 0, none⟩ = some (.int .i64 qe) := bc_ qa 0
             have QF : wc.cell? ⟨qj, 1, none⟩ = some (.int .i64 qf) := bc_ qa 1
             have QG := blk_frozen qa.out 0
             have QH := blk_frozen qa.out 1
             go_wp2_with (first | (go_at_call 39; (with_reducible refine (impl_CompareRatios.calls kj77 qh qi qe qf qX _ A166.out).mono ?_); rintro e jr ⟨rfl, hb⟩; clear A166; replace qa := kB_ qa hb; replace qb := kB_ qb hb; replace qc := kB_ qc hb; replace qd := kB_ qd hb; replace qr := kB_ qr hb; replace HB := bS_ HB hb; (try clear hb); (try clear hb2); (try clear hk); (try clear hi); have QI : jr.cell? ⟨qj, 0, none⟩ = some (.int .i64 qe) := bc_ qa 0; have QJ : jr.cell? ⟨qj, 1, none⟩ = some (.int .i64 qf) := bc_ qa 1; have QK := blk_frozen qa.out 0; have QL := blk_frozen qa.out 1; have QM : jr.cell? ⟨qk, 0, none⟩ = some (.int .i64 qh) := bc_ qb 0; have QN : jr.cell? ⟨qk, 1, none⟩ = some (.int .i64 qi) := bc_ qb 1; have QO := blk_frozen qb.out 0; have QP := blk_frozen qb.out 1))
             go_ret
             exact ⟨by first | rfl | (simp [errW_none, errW_some] <;> rfl) | (simp [*, errW_none, errW_some] <;> rfl), bb_ HB⟩
            ·
             rw [if_neg c167] at H
             have jG : (qo == (wrap64 (-qX))) = false := beq_eq_false_iff_ne.mpr c167
             have jH : (qo != (wrap64 (-qX))) = true := bne_iff_ne.mpr c167
             obtain rfl := Option.some.inj H
             have Jj := qv.out
             have Jk := qu.out
             have Jl := qH.out
             have Jm := qI.out
             have Jn := qJ.out
             have Jo := qK.out
             have Jp := qL.out
             have Jq := qM.out
             have QQ : wc.cell? ⟨qk, 0, none⟩ = some (.int .i64 qh) := bc_ qb 0
             have QR : wc.cell? ⟨qk, 1, none⟩ = some (.int .i64 qi) := bc_ qb 1
             have QS := blk_frozen qb.out 0
             have QT := blk_frozen qb.out 1
             have Jr := qy.out
             have Js := qz.out
             have Jt := qA.out
             have Ju := qB.out
             have Jv := qE.out
             have Jw := qF.out
             have QU : wc.cell? ⟨qj, 0, none⟩ = some (.int .i64 qe) := bc_ qa 0
             have QV : wc.cell? ⟨qj, 1, none⟩ = some (.int .i64 qf) := bc_ qa 1
             have QW := blk_frozen qa.out 0
             have QX := blk_frozen qa.out 1
             go_wp2_with (first | (go_at_call 39; (with_reducible refine (impl_CompareRatios.calls kj77 qh qi qe qf qX _ A166.out).mono ?_); rintro e Xm ⟨rfl, hb⟩; clear A166; replace qa := kB_ qa hb; replace qb := kB_ qb hb; replace qc := kB_ qc hb; replace qd := kB_ qd hb; replace qr := kB_ qr hb; replace HB := bS_ HB hb; (try clear hb); (try clear hb2); (try clear hk); (try clear hi)))
             go_ret
             exact ⟨by first | rfl | (simp [errW_none, errW_some] <;> rfl) | (simp [*, errW_none, errW_some] <;> rfl), bb_ HB⟩

end Go.Proofs.YtohoibekddhneaaDoor.PFnRatios
