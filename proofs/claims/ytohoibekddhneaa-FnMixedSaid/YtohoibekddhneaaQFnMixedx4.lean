/- The functions that the law FnMixed reaches, each as a Lean function with the same answers, and the proof that the call comes to exactly these: turned by program out of the printed texts. No condition but those that each theorem names. -/
import Derived.Test.YtohoibekddhneaaQFnMixedx0
import Derived.Test.YtohoibekddhneaaQFnMixedx3
namespace Go.Proofs.Ytohoibekddhneaa.PFnMixed
open Go.RowKit Go.Proofs.YtohoibekddhneaaW.PrintWords Go.Proofs.YtohoibekddhneaaW.PrintLast Go.Proofs.YtohoibekddhneaaW.PrintMore
attribute [local go_sem] max2_int min2_int max_two min_two max_three min_three max_four min_four   -- for this text's walks alone
set_option linter.unusedVariables false
set_option linter.unusedSimpArgs false

set_option maxHeartbeats 8000000 in
set_option maxRecDepth 100000 in
theorem laws_FnMixed.calls (k : Nat) (A0 : Option Addr) (c0 : Nat) (l0 : List Int) (r : Bool) (w : World) (hr0 : Kd.C (Kd.int .u8) w A0 l0.length l0) (hc0 : l0.length ≤ c0) (h : laws_FnMixed.f k l0 = some r) :
  Calls Try.prog 3 #[.slice A0 l0.length c0] w fun e w' => e = .returned (.bool r) ∧ Below w.heap.size w w' := by
 have hu26 := Try.underlying26
 have hu37 := Try.underlying37
 have HR0 := Aside0.mk hr0
 have HC0 := Aside0.mk hc0
 clear hr0 hc0
 have HB := Aside0.mk (Below.refl w.heap.size w)
 have H : ((laws_big.f l0).bind fun QF => (if QF = true then (some true) else ((spec_DrawMixAtoms.f k l0).bind fun qp => ((impl_MixAtoms.f k qp.1 qp.2.1 qp.2.2.1 qp.2.2.2.1 qp.2.2.2.2.1 qp.2.2.2.2.2.1 qp.2.2.2.2.2.2.1 qp.2.2.2.2.2.2.2).bind fun q2 => ((spec_MixAtoms.f k qp.1 qp.2.1 qp.2.2.1 qp.2.2.2.1 qp.2.2.2.2.1 qp.2.2.2.2.2.1 qp.2.2.2.2.2.2.1 qp.2.2.2.2.2.2.2).bind fun zM => (if (q2.2.2.2 != zM.2.2.2) = true then (some false) else (if q2.2.2.2 = true then ((laws_point.f k l0 (qp.1.length : Int)).bind fun qn => ((impl_HoldsAt.f k qp.1 qp.2.1 qp.2.2.1 qn).bind fun qs => ((impl_HoldsAt.f k qp.2.2.2.2.1 qp.2.2.2.2.2.1 qp.2.2.2.2.2.2.1 qn).bind fun q8 => ((impl_HoldsAt.f k q2.1 q2.2.1 q2.2.2.1 qn).bind fun q6 => (if qs.2 = true then (if q8.2 = true then (if q6.2 = true then (if qs.1 = true then (if q8.1 = true then (laws_FnMixed.j0 k qn qs.1 qs.2 (!q6.1) qp.1 qp.2.1 qp.2.2.1) else (laws_FnMixed.j0 k qn qs.1 qs.2 false qp.1 qp.2.1 qp.2.2.1)) else (laws_FnMixed.j0 k qn qs.1 qs.2 false qp.1 qp.2.1 qp.2.2.1)) else (laws_FnMixed.j0 k qn qs.1 qs.2 false qp.1 qp.2.1 qp.2.2.1)) else (laws_FnMixed.j0 k qn qs.1 qs.2 false qp.1 qp.2.1 qp.2.2.1)) else (laws_FnMixed.j0 k qn qs.1 qs.2 false qp.1 qp.2.1 qp.2.2.1)))))) else (some ((q2.1.length : Int) == 0))))))))) = some r := h
 clear h
 replace H := Option.bind_eq_some_iff.mp H
 obtain ⟨QF, A20, H⟩ := H
 replace H : (if QF = true then (some true) else ((spec_DrawMixAtoms.f k l0).bind fun qp => ((impl_MixAtoms.f k qp.1 qp.2.1 qp.2.2.1 qp.2.2.2.1 qp.2.2.2.2.1 qp.2.2.2.2.2.1 qp.2.2.2.2.2.2.1 qp.2.2.2.2.2.2.2).bind fun q2 => ((spec_MixAtoms.f k qp.1 qp.2.1 qp.2.2.1 qp.2.2.2.1 qp.2.2.2.2.1 qp.2.2.2.2.2.1 qp.2.2.2.2.2.2.1 qp.2.2.2.2.2.2.2).bind fun zM => (if (q2.2.2.2 != zM.2.2.2) = true then (some false) else (if q2.2.2.2 = true then ((laws_point.f k l0 (qp.1.length : Int)).bind fun qn => ((impl_HoldsAt.f k qp.1 qp.2.1 qp.2.2.1 qn).bind fun qs => ((impl_HoldsAt.f k qp.2.2.2.2.1 qp.2.2.2.2.2.1 qp.2.2.2.2.2.2.1 qn).bind fun q8 => ((impl_HoldsAt.f k q2.1 q2.2.1 q2.2.2.1 qn).bind fun q6 => (if qs.2 = true then (if q8.2 = true then (if q6.2 = true then (if qs.1 = true then (if q8.1 = true then (laws_FnMixed.j0 k qn qs.1 qs.2 (!q6.1) qp.1 qp.2.1 qp.2.2.1) else (laws_FnMixed.j0 k qn qs.1 qs.2 false qp.1 qp.2.1 qp.2.2.1)) else (laws_FnMixed.j0 k qn qs.1 qs.2 false qp.1 qp.2.1 qp.2.2.1)) else (laws_FnMixed.j0 k qn qs.1 qs.2 false qp.1 qp.2.1 qp.2.2.1)) else (laws_FnMixed.j0 k qn qs.1 qs.2 false qp.1 qp.2.1 qp.2.2.1)) else (laws_FnMixed.j0 k qn qs.1 qs.2 false qp.1 qp.2.1 qp.2.2.1)))))) else (some ((q2.1.length : Int) == 0)))))))) = some r := H
 have A2 := Aside0.mk A20
 clear A20
 by_cases c3 : QF = true
 ·
  subst c3
  have H1 : (some true) = some r := by rw [if_pos rfl] at H; exact H
  clear H
  have H := H1
  clear H1
  obtain rfl := Option.some.inj H
  go_enter Try.func3, Try.ntmps3
  go_wp2_with (first | ((with_reducible refine gate_callee (f := 7) rfl ?_); refine goesL_ (some 24) rfl rfl Try.func7 (by kernel_rfl) rfl #[.slice A0 l0.length c0] rfl (by (try simp only [List.map_toArray, List.map_cons, List.map_nil]); first | done | rfl | (simp only [List.length_drop, List.length_take]; rfl)) ?_; (with_reducible refine (laws_big.calls _ _ l0 true _ ?side1 ?side2 A2.out).mono ?_); (case side1 => repeat (first | exact HR0.out | (with_reducible refine Kd.C_alloc ?_ _) | (with_reducible refine Kd.C_drewN ?_ _) | (with_reducible refine Kd.C_drew ?_))); (case side2 => exact HC0.out); rintro e w' ⟨rfl, ⟨nd, rfl⟩⟩; refine ⟨_, rfl, ?_⟩))
  go_ret
  exact ⟨by first | rfl | (simp [errW_none, errW_some] <;> rfl) | (simp [*, errW_none, errW_some] <;> rfl), bb_ HB⟩
 ·
  replace c3 := Bool.eq_false_iff.mpr c3
  subst c3
  have H1 : ((spec_DrawMixAtoms.f k l0).bind fun qp => ((impl_MixAtoms.f k qp.1 qp.2.1 qp.2.2.1 qp.2.2.2.1 qp.2.2.2.2.1 qp.2.2.2.2.2.1 qp.2.2.2.2.2.2.1 qp.2.2.2.2.2.2.2).bind fun q2 => ((spec_MixAtoms.f k qp.1 qp.2.1 qp.2.2.1 qp.2.2.2.1 qp.2.2.2.2.1 qp.2.2.2.2.2.1 qp.2.2.2.2.2.2.1 qp.2.2.2.2.2.2.2).bind fun zM => (if (q2.2.2.2 != zM.2.2.2) = true then (some false) else (if q2.2.2.2 = true then ((laws_point.f k l0 (qp.1.length : Int)).bind fun qn => ((impl_HoldsAt.f k qp.1 qp.2.1 qp.2.2.1 qn).bind fun qs => ((impl_HoldsAt.f k qp.2.2.2.2.1 qp.2.2.2.2.2.1 qp.2.2.2.2.2.2.1 qn).bind fun q8 => ((impl_HoldsAt.f k q2.1 q2.2.1 q2.2.2.1 qn).bind fun q6 => (if qs.2 = true then (if q8.2 = true then (if q6.2 = true then (if qs.1 = true then (if q8.1 = true then (laws_FnMixed.j0 k qn qs.1 qs.2 (!q6.1) qp.1 qp.2.1 qp.2.2.1) else (laws_FnMixed.j0 k qn qs.1 qs.2 false qp.1 qp.2.1 qp.2.2.1)) else (laws_FnMixed.j0 k qn qs.1 qs.2 false qp.1 qp.2.1 qp.2.2.1)) else (laws_FnMixed.j0 k qn qs.1 qs.2 false qp.1 qp.2.1 qp.2.2.1)) else (laws_FnMixed.j0 k qn qs.1 qs.2 false qp.1 qp.2.1 qp.2.2.1)) else (laws_FnMixed.j0 k qn qs.1 qs.2 false qp.1 qp.2.1 qp.2.2.1)))))) else (some ((q2.1.length : Int) == 0))))))) = some r := by rw [if_neg (show ¬ (false = true) by decide)] at H; exact H
  clear H
  have H := H1
  clear H1
  replace H := Option.bind_eq_some_iff.mp H
  obtain ⟨⟨qm, qt, qu, zK, qv, qW, qY, zL⟩, A40, H⟩ := H
  replace H : ((impl_MixAtoms.f k qm qt qu zK qv qW qY zL).bind fun q2 => ((spec_MixAtoms.f k qm qt qu zK qv qW qY zL).bind fun zM => (if (q2.2.2.2 != zM.2.2.2) = true then (some false) else (if q2.2.2.2 = true then ((laws_point.f k l0 (qm.length : Int)).bind fun qn => ((impl_HoldsAt.f k qm qt qu qn).bind fun qs => ((impl_HoldsAt.f k qv qW qY qn).bind fun q8 => ((impl_HoldsAt.f k q2.1 q2.2.1 q2.2.2.1 qn).bind fun q6 => (if qs.2 = true then (if q8.2 = true then (if q6.2 = true then (if qs.1 = true then (if q8.1 = true then (laws_FnMixed.j0 k qn qs.1 qs.2 (!q6.1) qm qt qu) else (laws_FnMixed.j0 k qn qs.1 qs.2 false qm qt qu)) else (laws_FnMixed.j0 k qn qs.1 qs.2 false qm qt qu)) else (laws_FnMixed.j0 k qn qs.1 qs.2 false qm qt qu)) else (laws_FnMixed.j0 k qn qs.1 qs.2 false qm qt qu)) else (laws_FnMixed.j0 k qn qs.1 qs.2 false qm qt qu)))))) else (some ((q2.1.length : Int) == 0)))))) = some r := H
  have A4 := Aside0.mk A40
  clear A40
  replace H := Option.bind_eq_some_iff.mp H
  obtain ⟨⟨qE, q0, q1, zS⟩, A50, H⟩ := H
  replace H : ((spec_MixAtoms.f k qm qt qu zK qv qW qY zL).bind fun zM => (if (zS != zM.2.2.2) = true then (some false) else (if zS = true then ((laws_point.f k l0 (qm.length : Int)).bind fun qn => ((impl_HoldsAt.f k qm qt qu qn).bind fun qs => ((impl_HoldsAt.f k qv qW qY qn).bind fun q8 => ((impl_HoldsAt.f k qE q0 q1 qn).bind fun q6 => (if qs.2 = true then (if q8.2 = true then (if q6.2 = true then (if qs.1 = true then (if q8.1 = true then (laws_FnMixed.j0 k qn qs.1 qs.2 (!q6.1) qm qt qu) else (laws_FnMixed.j0 k qn qs.1 qs.2 false qm qt qu)) else (laws_FnMixed.j0 k qn qs.1 qs.2 false qm qt qu)) else (laws_FnMixed.j0 k qn qs.1 qs.2 false qm qt qu)) else (laws_FnMixed.j0 k qn qs.1 qs.2 false qm qt qu)) else (laws_FnMixed.j0 k qn qs.1 qs.2 false qm qt qu)))))) else (some ((qE.length : Int) == 0))))) = some r := H
  have A5 := Aside0.mk A50
  clear A50
  replace H := Option.bind_eq_some_iff.mp H
  obtain ⟨⟨qK, zf, zi, zW⟩, A60, H⟩ := H
  replace H : (if (zS != zW) = true then (some false) else (if zS = true then ((laws_point.f k l0 (qm.length : Int)).bind fun qn => ((impl_HoldsAt.f k qm qt qu qn).bind fun qs => ((impl_HoldsAt.f k qv qW qY qn).bind fun q8 => ((impl_HoldsAt.f k qE q0 q1 qn).bind fun q6 => (if qs.2 = true then (if q8.2 = true then (if q6.2 = true then (if qs.1 = true then (if q8.1 = true then (laws_FnMixed.j0 k qn qs.1 qs.2 (!q6.1) qm qt qu) else (laws_FnMixed.j0 k qn qs.1 qs.2 false qm qt qu)) else (laws_FnMixed.j0 k qn qs.1 qs.2 false qm qt qu)) else (laws_FnMixed.j0 k qn qs.1 qs.2 false qm qt qu)) else (laws_FnMixed.j0 k qn qs.1 qs.2 false qm qt qu)) else (laws_FnMixed.j0 k qn qs.1 qs.2 false qm qt qu)))))) else (some ((qE.length : Int) == 0)))) = some r := H
  have A6 := Aside0.mk A60
  clear A60
  by_cases c7 : (zS != zW) = true
  ·
   rw [if_pos c7] at H
   have QW : (zS != zW) = true := c7
   (try (have QX : decide (zS = zW) = false := by simpa using c7))
   (try (have QY : (zS == zW) = false := by simpa using c7))
   (try (have XN : ¬ (zS = zW) := by simpa using c7))
   clear c7
   obtain rfl := Option.some.inj H
   go_enter Try.func3, Try.ntmps3
   go_wp2_with (first | ((with_reducible refine gate_callee (f := 7) rfl ?_); refine goesL_ (some 24) rfl rfl Try.func7 (by kernel_rfl) rfl #[.slice A0 l0.length c0] rfl (by (try simp only [List.map_toArray, List.map_cons, List.map_nil]); first | done | rfl | (simp only [List.length_drop, List.length_take]; rfl)) ?_; (with_reducible refine (laws_big.calls _ _ l0 false _ ?side1 ?side2 A2.out).mono ?_); (case side1 => repeat (first | exact HR0.out | (with_reducible refine Kd.C_alloc ?_ _) | (with_reducible refine Kd.C_drewN ?_ _) | (with_reducible refine Kd.C_drew ?_))); (case side2 => exact HC0.out); rintro e w' ⟨rfl, ⟨nd, rfl⟩⟩; refine ⟨_, rfl, ?_⟩) | ((with_reducible refine gate_callee (f := 8) rfl ?_); refine goesL_ (some 27) rfl rfl Try.func8 (by kernel_rfl) rfl #[.slice A0 l0.length c0] rfl (by (try simp only [List.map_toArray, List.map_cons, List.map_nil]); first | done | rfl | (simp only [List.length_drop, List.length_take]; rfl)) ?_; (with_reducible refine (spec_DrawMixAtoms.calls k _ _ l0 qm qt qu zK qv qW qY zL _ ?side1 ?side2 A4.out).mono ?_); (case side1 => repeat (first | exact HR0.out | (with_reducible refine Kd.C_alloc ?_ _) | (with_reducible refine Kd.C_drewN ?_ _) | (with_reducible refine Kd.C_drew ?_))); (case side2 => exact HC0.out); rintro e w8 ⟨Q3, Q4, rfl, ho0, ho1, hb⟩; refine ⟨_, rfl, ?_⟩; have qI := Aside0.mk (Kd.R_lower ho0 (bz_ HB)); have qJ := Aside0.mk (Kd.R_lower ho1 (bz_ HB)); replace HB := bS_ HB hb; (try clear hb); (try clear hb2); (try clear hk); (try clear hi); (try clear ho0); (try clear ho1)) | ((with_reducible refine gate_dst (N := 3) rfl ?_); refine box_event ?hg (N := 3) ?hd (cs := #[.slice none 0 0, .int .i64 0, .bool false]) (t := 26) ?hr ?_; (case hd => rfl); (case hg => rfl); (case hr => first | (go_simp; done) | (go_simp; rfl)); intro qj hg w9 hbox hb; replace qI := rB_ qI hb; replace qJ := rB_ qJ hb; have qa := Aside0.mk (hbox); have QO := Aside0.mk ((by rw [hg]; exact (bz_ HB) : w.heap.size ≤ qj)); have QP := Aside0.mk ((by rw [hg]; exact (bz_ HB) : w.heap.size ≤ qj)); replace HB := bS_ HB hb; clear hb hbox hg) | ((with_reducible refine gate_dst (N := 5) rfl ?_); refine box_event ?hg (N := 5) ?hd (cs := #[.slice none 0 0, .int .i64 0, .bool false]) (t := 26) ?hr ?_; (case hd => rfl); (case hg => rfl); (case hr => first | (go_simp; done) | (go_simp; rfl)); intro qq hg Q0 hbox hb; replace qI := rB_ qI hb; replace qJ := rB_ qJ hb; have qi := Aside0.mk (hbox); have QQ := Aside0.mk ((by rw [hg]; exact (bz_ HB) : w.heap.size ≤ qq)); have QR := Aside0.mk ((by rw [hg]; exact (bz_ HB) : w.heap.size ≤ qq)); replace HB := bS_ HB hb; have q3 := Aside0.mk ((nl_ qa hg : qj ≠ qq)); have q4 := Aside0.mk ((ng_ qa hg : qq ≠ qj)); replace qa := kB_ qa hb; clear hb hbox hg; obtain ⟨zQ, zN, eo11⟩ := Kd.R_slice qI.out; subst eo11; have Xd := q3.out; have Xe := q4.out; have z6 : Q0.cell? ⟨qj, 0, none⟩ = some (.slice none 0 0) := bc_ qa 0; have z7 : Q0.cell? ⟨qj, 1, none⟩ = some (.int .i64 0) := bc_ qa 1; have z8 : Q0.cell? ⟨qj, 2, none⟩ = some (.bool false) := bc_ qa 2; have z9 := blk_frozen qa.out 0; have ja := blk_frozen qa.out 1; have jb := blk_frozen qa.out 2; obtain ⟨zR, zO, eo14⟩ := Kd.R_slice qJ.out; subst eo14; have jc : Q0.cell? ⟨qq, 0, none⟩ = some (.slice none 0 0) := bc_ qi 0; have jd : Q0.cell? ⟨qq, 1, none⟩ = some (.int .i64 0) := bc_ qi 1; have je : Q0.cell? ⟨qq, 2, none⟩ = some (.bool false) := bc_ qi 2; have jf := blk_frozen qi.out 0; have jg := blk_frozen qi.out 1; have jh := blk_frozen qi.out 2) | ((with_reducible refine gate_callee (f := 9) rfl ?_); refine goesL_ (some 37) rfl rfl Try.func9 (by kernel_rfl) rfl #[.agg #[.slice zQ qm.length zN, .int .i64 qt, .bool qu], .int .i64 zK, .agg #[.slice zR qv.length zO, .int .i64 qW, .bool qY], .int .i64 zL] rfl (by (try simp only [List.map_toArray, List.map_cons, List.map_nil]); first | done | rfl | (simp only [List.length_drop, List.length_take]; rfl)) ?_; (with_reducible refine (impl_MixAtoms.calls k _ _ qm qt qu zK _ _ qv qW qY zL qE q0 q1 zS _ ?side1 ?side2 ?side3 ?side4 A5.out).mono ?_); (case side1 => refine (Kd.R_reads' (e := 3) (base := w.heap.size) (ok := fun k_ => some k_ ≠ (.slice zR qv.length zO : Value).ownBlock) (n := qm.length) (c := zN) ?_).2.2; exact (by (with_reducible repeat (first | apply Kd.R_alloc | apply Kd.R_drewN | apply Kd.R_drew)); exact (Kd.R_mono (Kd.R_mono (Kd.R_far (p := ⟨qq, 2, none⟩) (Kd.R_far (p := ⟨qq, 1, none⟩) (Kd.R_far (p := ⟨qq, 0, none⟩) (Kd.R_far (p := ⟨qj, 2, none⟩) (Kd.R_far (p := ⟨qj, 1, none⟩) (Kd.R_far (p := ⟨qj, 0, none⟩) (Kd.R_types (Kd.R_types qI.out qa.out (by decide)) qi.out (by decide)) (fun _ hk => hk.1.2) (.slice zQ qm.length zN)) (fun _ hk => hk.1.2) (.int .i64 qt)) (fun _ hk => hk.1.2) (.bool qu)) (fun _ hk => hk.2) (.slice zR qv.length zO)) (fun _ hk => hk.2) (.int .i64 qW)) (fun _ hk => hk.2) (.bool qY)) (fun _ h_ => h_.1)) (fun _ h_ => h_.1)))); (case side2 => exact (Kd.R_reads' qI.out).2.1); (case side3 => refine (Kd.R_reads' (e := 3) (base := w.heap.size) (ok := fun k_ => some k_ ≠ (.slice zQ qm.length zN : Value).ownBlock) (n := qv.length) (c := zO) ?_).2.2; exact (by (with_reducible repeat (first | apply Kd.R_alloc | apply Kd.R_drewN | apply Kd.R_drew)); exact (Kd.R_mono (Kd.R_mono (Kd.R_far (p := ⟨qq, 2, none⟩) (Kd.R_far (p := ⟨qq, 1, none⟩) (Kd.R_far (p := ⟨qq, 0, none⟩) (Kd.R_far (p := ⟨qj, 2, none⟩) (Kd.R_far (p := ⟨qj, 1, none⟩) (Kd.R_far (p := ⟨qj, 0, none⟩) (Kd.R_types (Kd.R_types qJ.out qa.out (by decide)) qi.out (by decide)) (fun _ hk => hk.1.2) (.slice zQ qm.length zN)) (fun _ hk => hk.1.2) (.int .i64 qt)) (fun _ hk => hk.1.2) (.bool qu)) (fun _ hk => hk.2) (.slice zR qv.length zO)) (fun _ hk => hk.2) (.int .i64 qW)) (fun _ hk => hk.2) (.bool qY)) (fun _ h_ => h_.1)) (fun _ h_ => h_.1)))); (case side4 => exact (Kd.R_reads' qJ.out).2.1); rintro e X6 ⟨Q5, rfl, ho0, hb⟩; refine ⟨_, rfl, ?_⟩; have qZ := Aside0.mk (Kd.R_lower (Kd.R_new' (Kd.R_new' ho0 (Kd.R_lt (by (with_reducible repeat (first | apply Kd.R_alloc | apply Kd.R_drewN | apply Kd.R_drew)); exact (Kd.R_mono (Kd.R_mono (Kd.R_far (p := ⟨qq, 2, none⟩) (Kd.R_far (p := ⟨qq, 1, none⟩) (Kd.R_far (p := ⟨qq, 0, none⟩) (Kd.R_far (p := ⟨qj, 2, none⟩) (Kd.R_far (p := ⟨qj, 1, none⟩) (Kd.R_far (p := ⟨qj, 0, none⟩) (Kd.R_types (Kd.R_types qI.out qa.out (by decide)) qi.out (by decide)) (fun _ hk => hk.1.2) (.slice zQ qm.length zN)) (fun _ hk => hk.1.2) (.int .i64 qt)) (fun _ hk => hk.1.2) (.bool qu)) (fun _ hk => hk.2) (.slice zR qv.length zO)) (fun _ hk => hk.2) (.int .i64 qW)) (fun _ hk => hk.2) (.bool qY)) (fun _ h_ => h_.1)) (fun _ h_ => h_.1))))) (Kd.R_lt (by (with_reducible repeat (first | apply Kd.R_alloc | apply Kd.R_drewN | apply Kd.R_drew)); exact (Kd.R_mono (Kd.R_mono (Kd.R_far (p := ⟨qq, 2, none⟩) (Kd.R_far (p := ⟨qq, 1, none⟩) (Kd.R_far (p := ⟨qq, 0, none⟩) (Kd.R_far (p := ⟨qj, 2, none⟩) (Kd.R_far (p := ⟨qj, 1, none⟩) (Kd.R_far (p := ⟨qj, 0, none⟩) (Kd.R_types (Kd.R_types qJ.out qa.out (by decide)) qi.out (by decide)) (fun _ hk => hk.1.2) (.slice zQ qm.length zN)) (fun _ hk => hk.1.2) (.int .i64 qt)) (fun _ hk => hk.1.2) (.bool qu)) (fun _ hk => hk.2) (.slice zR qv.length zO)) (fun _ hk => hk.2) (.int .i64 qW)) (fun _ hk => hk.2) (.bool qY)) (fun _ h_ => h_.1)) (fun _ h_ => h_.1))))) (bz_ HB)); replace qI := Aside0.mk (Kd.R_elder' (by (with_reducible repeat (first | apply Kd.R_alloc | apply Kd.R_drewN | apply Kd.R_drew)); exact (Kd.R_mono (Kd.R_mono (Kd.R_far (p := ⟨qq, 2, none⟩) (Kd.R_far (p := ⟨qq, 1, none⟩) (Kd.R_far (p := ⟨qq, 0, none⟩) (Kd.R_far (p := ⟨qj, 2, none⟩) (Kd.R_far (p := ⟨qj, 1, none⟩) (Kd.R_far (p := ⟨qj, 0, none⟩) (Kd.R_types (Kd.R_types qI.out qa.out (by decide)) qi.out (by decide)) (fun _ hk => hk.1.2) (.slice zQ qm.length zN)) (fun _ hk => hk.1.2) (.int .i64 qt)) (fun _ hk => hk.1.2) (.bool qu)) (fun _ hk => hk.2) (.slice zR qv.length zO)) (fun _ hk => hk.2) (.int .i64 qW)) (fun _ hk => hk.2) (.bool qY)) (fun _ h_ => h_.1)) (fun _ h_ => h_.1))) (Kd.R_base ho0) hb); replace qJ := Aside0.mk (Kd.R_elder' (by (with_reducible repeat (first | apply Kd.R_alloc | apply Kd.R_drewN | apply Kd.R_drew)); exact (Kd.R_mono (Kd.R_mono (Kd.R_far (p := ⟨qq, 2, none⟩) (Kd.R_far (p := ⟨qq, 1, none⟩) (Kd.R_far (p := ⟨qq, 0, none⟩) (Kd.R_far (p := ⟨qj, 2, none⟩) (Kd.R_far (p := ⟨qj, 1, none⟩) (Kd.R_far (p := ⟨qj, 0, none⟩) (Kd.R_types (Kd.R_types qJ.out qa.out (by decide)) qi.out (by decide)) (fun _ hk => hk.1.2) (.slice zQ qm.length zN)) (fun _ hk => hk.1.2) (.int .i64 qt)) (fun _ hk => hk.1.2) (.bool qu)) (fun _ hk => hk.2) (.slice zR qv.length zO)) (fun _ hk => hk.2) (.int .i64 qW)) (fun _ hk => hk.2) (.bool qY)) (fun _ h_ => h_.1)) (fun _ h_ => h_.1))) (Kd.R_base ho0) hb); replace qa := Aside0.mk (blk_below (g := qj) (o := .cells #[.slice zQ qm.length zN, .int .i64 qt, .bool qu] 26 (0, 0)) (by (with_reducible repeat (first | refine blk_drewN ?_ _ | refine blk_drew ?_ | refine blk_alloc ?_ _)); refine blk_far ?_ q3.out _; (with_reducible repeat (first | refine blk_drewN ?_ _ | refine blk_drew ?_ | refine blk_alloc ?_ _)); refine blk_far ?_ q3.out _; (with_reducible repeat (first | refine blk_drewN ?_ _ | refine blk_drew ?_ | refine blk_alloc ?_ _)); refine blk_far ?_ q3.out _; (with_reducible repeat (first | refine blk_drewN ?_ _ | refine blk_drew ?_ | refine blk_alloc ?_ _)); refine blk_put (cs := #[.slice zQ qm.length zN, .int .i64 qt, .bool false]) ?_ 2 _ rfl; (with_reducible repeat (first | refine blk_drewN ?_ _ | refine blk_drew ?_ | refine blk_alloc ?_ _)); refine blk_put (cs := #[.slice zQ qm.length zN, .int .i64 0, .bool false]) ?_ 1 _ rfl; (with_reducible repeat (first | refine blk_drewN ?_ _ | refine blk_drew ?_ | refine blk_alloc ?_ _)); refine blk_put (cs := #[.slice none 0 0, .int .i64 0, .bool false]) ?_ 0 _ rfl; (with_reducible repeat (first | refine blk_drewN ?_ _ | refine blk_drew ?_ | refine blk_alloc ?_ _)); exact qa.out) hb); replace qi := Aside0.mk (blk_below (g := qq) (o := .cells #[.slice zR qv.length zO, .int .i64 qW, .bool qY] 26 (0, 0)) (by (with_reducible repeat (first | refine blk_drewN ?_ _ | refine blk_drew ?_ | refine blk_alloc ?_ _)); refine blk_put (cs := #[.slice zR qv.length zO, .int .i64 qW, .bool false]) ?_ 2 _ rfl; (with_reducible repeat (first | refine blk_drewN ?_ _ | refine blk_drew ?_ | refine blk_alloc ?_ _)); refine blk_put (cs := #[.slice zR qv.length zO, .int .i64 0, .bool false]) ?_ 1 _ rfl; (with_reducible repeat (first | refine blk_drewN ?_ _ | refine blk_drew ?_ | refine blk_alloc ?_ _)); refine blk_put (cs := #[.slice none 0 0, .int .i64 0, .bool false]) ?_ 0 _ rfl; (with_reducible repeat (first | refine blk_drewN ?_ _ | refine blk_drew ?_ | refine blk_alloc ?_ _)); refine blk_far ?_ q4.out _; (with_reducible repeat (first | refine blk_drewN ?_ _ | refine blk_drew ?_ | refine blk_alloc ?_ _)); refine blk_far ?_ q4.out _; (with_reducible repeat (first | refine blk_drewN ?_ _ | refine blk_drew ?_ | refine blk_alloc ?_ _)); refine blk_far ?_ q4.out _; (with_reducible repeat (first | refine blk_drewN ?_ _ | refine blk_drew ?_ | refine blk_alloc ?_ _)); exact qi.out) hb); replace HB := bS_ HB hb; (try clear hb); (try clear hb2); (try clear hk); (try clear hi); (try clear ho0)) | ((with_reducible refine gate_dst (N := 7) rfl ?_); refine box_event ?hg (N := 7) ?hd (cs := #[.slice none 0 0, .int .i64 0, .bool false]) (t := 26) ?hr ?_; (case hd => rfl); (case hg => rfl); (case hr => first | (go_simp; done) | (go_simp; rfl)); intro qD hg QL hbox hb; replace qI := rB_ qI hb; replace qJ := rB_ qJ hb; replace qZ := rB_ qZ hb; have ql := Aside0.mk (hbox); have QS := Aside0.mk ((by rw [hg]; exact (bz_ HB) : w.heap.size ≤ qD)); have QT := Aside0.mk ((by rw [hg]; exact (bz_ HB) : w.heap.size ≤ qD)); replace HB := bS_ HB hb; have zs := Aside0.mk ((nl_ qa hg : qj ≠ qD)); have zt := Aside0.mk ((ng_ qa hg : qD ≠ qj)); replace qa := kB_ qa hb; have zu := Aside0.mk ((nl_ qi hg : qq ≠ qD)); have zv := Aside0.mk ((ng_ qi hg : qD ≠ qq)); replace qi := kB_ qi hb; clear hb hbox hg; obtain ⟨zT, zU, eo18⟩ := Kd.R_slice qZ.out; subst eo18; have Xf := zt.out; have Xg := zs.out; have Xh := zv.out; have Xi := zu.out; have ji : QL.cell? ⟨qD, 0, none⟩ = some (.slice none 0 0) := bc_ ql 0; have jj : QL.cell? ⟨qD, 1, none⟩ = some (.int .i64 0) := bc_ ql 1; have jk : QL.cell? ⟨qD, 2, none⟩ = some (.bool false) := bc_ ql 2; have jl := blk_frozen ql.out 0; have jm := blk_frozen ql.out 1; have jn := blk_frozen ql.out 2; have jo : QL.cell? ⟨qj, 0, none⟩ = some (.slice zQ qm.length zN) := bc_ qa 0; have jp : QL.cell? ⟨qj, 1, none⟩ = some (.int .i64 qt) := bc_ qa 1; have jq : QL.cell? ⟨qj, 2, none⟩ = some (.bool qu) := bc_ qa 2; have jr := blk_frozen qa.out 0; have js := blk_frozen qa.out 1; have jt := blk_frozen qa.out 2; have ju : QL.cell? ⟨qq, 0, none⟩ = some (.slice zR qv.length zO) := bc_ qi 0; have jv : QL.cell? ⟨qq, 1, none⟩ = some (.int .i64 qW) := bc_ qi 1; have jw : QL.cell? ⟨qq, 2, none⟩ = some (.bool qY) := bc_ qi 2; have jx := blk_frozen qi.out 0; have jy := blk_frozen qi.out 1; have jz := blk_frozen qi.out 2) | ((with_reducible refine gate_callee (f := 10) rfl ?_); refine goesL_ (some 45) rfl rfl Try.func10 (by kernel_rfl) rfl #[.agg #[.slice zQ qm.length zN, .int .i64 qt, .bool qu], .int .i64 zK, .agg #[.slice zR qv.length zO, .int .i64 qW, .bool qY], .int .i64 zL] rfl (by (try simp only [List.map_toArray, List.map_cons, List.map_nil]); first | done | rfl | (simp only [List.length_drop, List.length_take]; rfl)) ?_; (with_reducible refine (spec_MixAtoms.calls k _ _ qm qt qu zK _ _ qv qW qY zL qK zf zi zW _ ?side1 ?side2 ?side3 ?side4 A6.out).mono ?_); (case side1 => refine (Kd.R_reads' (e := 3) (base := w.heap.size) (ok := fun k_ => (some k_ ≠ (.slice zR qv.length zO : Value).ownBlock ∧ some k_ ≠ (.slice zT qE.length zU : Value).ownBlock)) (n := qm.length) (c := zN) ?_).2.2; exact (by (with_reducible repeat (first | apply Kd.R_alloc | apply Kd.R_drewN | apply Kd.R_drew)); exact (rt3_ qI ql (by decide) 0 1 2 (.slice zT qE.length zU) (.int .i64 q0) (.bool q1)))); (case side2 => exact (Kd.R_reads' qI.out).2.1); (case side3 => refine (Kd.R_reads' (e := 3) (base := w.heap.size) (ok := fun k_ => (some k_ ≠ (.slice zQ qm.length zN : Value).ownBlock ∧ some k_ ≠ (.slice zT qE.length zU : Value).ownBlock)) (n := qv.length) (c := zO) ?_).2.2; exact (by (with_reducible repeat (first | apply Kd.R_alloc | apply Kd.R_drewN | apply Kd.R_drew)); exact (rt3_ qJ ql (by decide) 0 1 2 (.slice zT qE.length zU) (.int .i64 q0) (.bool q1)))); (case side4 => exact (Kd.R_reads' qJ.out).2.1); rintro e X7 ⟨Q6, rfl, ho0, hb⟩; refine ⟨_, rfl, ?_⟩; have q9 := Aside0.mk (Kd.R_lower (Kd.R_new' (Kd.R_new' (Kd.R_new' ho0 (Kd.R_lt (by (with_reducible repeat (first | apply Kd.R_alloc | apply Kd.R_drewN | apply Kd.R_drew)); exact (rt3_ qI ql (by decide) 0 1 2 (.slice zT qE.length zU) (.int .i64 q0) (.bool q1))))) (Kd.R_lt (by (with_reducible repeat (first | apply Kd.R_alloc | apply Kd.R_drewN | apply Kd.R_drew)); exact (rt3_ qJ ql (by decide) 0 1 2 (.slice zT qE.length zU) (.int .i64 q0) (.bool q1))))) (Kd.R_lt (by (with_reducible repeat (first | apply Kd.R_alloc | apply Kd.R_drewN | apply Kd.R_drew)); exact (rt3_ qZ ql (by decide) 0 1 2 (.slice zT qE.length zU) (.int .i64 q0) (.bool q1))))) (bz_ HB)); replace qI := Aside0.mk (Kd.R_elder' (by (with_reducible repeat (first | apply Kd.R_alloc | apply Kd.R_drewN | apply Kd.R_drew)); exact (rt3_ qI ql (by decide) 0 1 2 (.slice zT qE.length zU) (.int .i64 q0) (.bool q1))) (Kd.R_base ho0) hb); replace qJ := Aside0.mk (Kd.R_elder' (by (with_reducible repeat (first | apply Kd.R_alloc | apply Kd.R_drewN | apply Kd.R_drew)); exact (rt3_ qJ ql (by decide) 0 1 2 (.slice zT qE.length zU) (.int .i64 q0) (.bool q1))) (Kd.R_base ho0) hb); replace qZ := Aside0.mk (Kd.R_elder' (by (with_reducible repeat (first | apply Kd.R_alloc | apply Kd.R_drewN | apply Kd.R_drew)); exact (rt3_ qZ ql (by decide) 0 1 2 (.slice zT qE.length zU) (.int .i64 q0) (.bool q1))) (Kd.R_base ho0) hb); replace qa := Aside0.mk (blk_below (g := qj) (o := .cells #[.slice zQ qm.length zN, .int .i64 qt, .bool qu] 26 (0, 0)) (kf_ qa) hb); replace qi := Aside0.mk (blk_below (g := qq) (o := .cells #[.slice zR qv.length zO, .int .i64 qW, .bool qY] 26 (0, 0)) (kf_ qi) hb); replace ql := Aside0.mk (blk_below (g := qD) (o := .cells #[.slice zT qE.length zU, .int .i64 q0, .bool q1] 26 (0, 0)) (by (with_reducible repeat (first | refine blk_drewN ?_ _ | refine blk_drew ?_ | refine blk_alloc ?_ _)); refine blk_put (cs := #[.slice zT qE.length zU, .int .i64 q0, .bool false]) ?_ 2 _ rfl; (with_reducible repeat (first | refine blk_drewN ?_ _ | refine blk_drew ?_ | refine blk_alloc ?_ _)); refine blk_put (cs := #[.slice zT qE.length zU, .int .i64 0, .bool false]) ?_ 1 _ rfl; (with_reducible repeat (first | refine blk_drewN ?_ _ | refine blk_drew ?_ | refine blk_alloc ?_ _)); refine blk_put (cs := #[.slice none 0 0, .int .i64 0, .bool false]) ?_ 0 _ rfl; (with_reducible repeat (first | refine blk_drewN ?_ _ | refine blk_drew ?_ | refine blk_alloc ?_ _)); exact ql.out) hb); replace HB := bS_ HB hb; (try clear hb); (try clear hb2); (try clear hk); (try clear hi); (try clear ho0)) | ((with_reducible refine gate_dst (N := 9) rfl ?_); refine box_event ?hg (N := 9) ?hd (cs := #[.slice none 0 0, .int .i64 0, .bool false]) (t := 26) ?hr ?_; (case hd => rfl); (case hg => rfl); (case hr => first | (go_simp; done) | (go_simp; rfl)); intro qF hg Jl hbox hb; replace qI := rB_ qI hb; replace qJ := rB_ qJ hb; replace qZ := rB_ qZ hb; replace q9 := rB_ q9 hb; have qr := Aside0.mk (hbox); have QU := Aside0.mk ((by rw [hg]; exact (bz_ HB) : w.heap.size ≤ qF)); have QV := Aside0.mk ((by rw [hg]; exact (bz_ HB) : w.heap.size ≤ qF)); replace HB := bS_ HB hb; have zw := Aside0.mk ((nl_ qa hg : qj ≠ qF)); have zx := Aside0.mk ((ng_ qa hg : qF ≠ qj)); replace qa := kB_ qa hb; have zy := Aside0.mk ((nl_ qi hg : qq ≠ qF)); have zz := Aside0.mk ((ng_ qi hg : qF ≠ qq)); replace qi := kB_ qi hb; have zA := Aside0.mk ((nl_ ql hg : qD ≠ qF)); have zB := Aside0.mk ((ng_ ql hg : qF ≠ qD)); replace ql := kB_ ql hb; clear hb hbox hg; obtain ⟨XO, XP, eo26⟩ := Kd.R_slice q9.out; subst eo26; have Xj := zx.out; have Xk := zw.out; have Xl := zz.out; have Xm := zy.out; have Xn := zB.out; have Xo := zA.out; have jA : Jl.cell? ⟨qF, 0, none⟩ = some (.slice none 0 0) := bc_ qr 0; have jB : Jl.cell? ⟨qF, 1, none⟩ = some (.int .i64 0) := bc_ qr 1; have jC : Jl.cell? ⟨qF, 2, none⟩ = some (.bool false) := bc_ qr 2; have jD := blk_frozen qr.out 0; have jE := blk_frozen qr.out 1; have jF := blk_frozen qr.out 2))
   go_ret
   exact ⟨by first | rfl | (simp [errW_none, errW_some] <;> rfl) | (simp [*, errW_none, errW_some] <;> rfl), bb_ HB⟩
  ·
   rw [if_neg c7] at H
   have QW : (zS != zW) = false := by simpa using c7
   (try (have QX : decide (zS = zW) = true := by simpa using c7))
   (try (have QY : (zS == zW) = true := by simpa using c7))
   clear c7
   by_cases c31 : zS = true
   ·
    subst c31
    have H1 : ((laws_point.f k l0 (qm.length : Int)).bind fun qn => ((impl_HoldsAt.f k qm qt qu qn).bind fun qs => ((impl_HoldsAt.f k qv qW qY qn).bind fun q8 => ((impl_HoldsAt.f k qE q0 q1 qn).bind fun q6 => (if qs.2 = true then (if q8.2 = true then (if q6.2 = true then (if qs.1 = true then (if q8.1 = true then (laws_FnMixed.j0 k qn qs.1 qs.2 (!q6.1) qm qt qu) else (laws_FnMixed.j0 k qn qs.1 qs.2 false qm qt qu)) else (laws_FnMixed.j0 k qn qs.1 qs.2 false qm qt qu)) else (laws_FnMixed.j0 k qn qs.1 qs.2 false qm qt qu)) else (laws_FnMixed.j0 k qn qs.1 qs.2 false qm qt qu)) else (laws_FnMixed.j0 k qn qs.1 qs.2 false qm qt qu)))))) = some r := by rw [if_pos rfl] at H; exact H
    clear H
    have H := H1
    clear H1
    replace H := Option.bind_eq_some_iff.mp H
    obtain ⟨qn, A320, H⟩ := H
    replace H : ((impl_HoldsAt.f k qm qt qu qn).bind fun qs => ((impl_HoldsAt.f k qv qW qY qn).bind fun q8 => ((impl_HoldsAt.f k qE q0 q1 qn).bind fun q6 => (if qs.2 = true then (if q8.2 = true then (if q6.2 = true then (if qs.1 = true then (if q8.1 = true then (laws_FnMixed.j0 k qn qs.1 qs.2 (!q6.1) qm qt qu) else (laws_FnMixed.j0 k qn qs.1 qs.2 false qm qt qu)) else (laws_FnMixed.j0 k qn qs.1 qs.2 false qm qt qu)) else (laws_FnMixed.j0 k qn qs.1 qs.2 false qm qt qu)) else (laws_FnMixed.j0 k qn qs.1 qs.2 false qm qt qu)) else (laws_FnMixed.j0 k qn qs.1 qs.2 false qm qt qu))))) = some r := H
    have A32 := Aside0.mk A320
    clear A320
    replace H := Option.bind_eq_some_iff.mp H
    obtain ⟨⟨qX, q7⟩, A330, H⟩ := H
    replace H : ((impl_HoldsAt.f k qv qW qY qn).bind fun q8 => ((impl_HoldsAt.f k qE q0 q1 qn).bind fun q6 => (if q7 = true then (if q8.2 = true then (if q6.2 = true then (if qX = true then (if q8.1 = true then (laws_FnMixed.j0 k qn qX q7 (!q6.1) qm qt qu) else (laws_FnMixed.j0 k qn qX q7 false qm qt qu)) else (laws_FnMixed.j0 k qn qX q7 false qm qt qu)) else (laws_FnMixed.j0 k qn qX q7 false qm qt qu)) else (laws_FnMixed.j0 k qn qX q7 false qm qt qu)) else (laws_FnMixed.j0 k qn qX q7 false qm qt qu)))) = some r := H
    have A33 := Aside0.mk A330
    clear A330
    replace H := Option.bind_eq_some_iff.mp H
    obtain ⟨⟨z3, QI⟩, A340, H⟩ := H
    replace H : ((impl_HoldsAt.f k qE q0 q1 qn).bind fun q6 => (if q7 = true then (if QI = true then (if q6.2 = true then (if qX = true then (if z3 = true then (laws_FnMixed.j0 k qn qX q7 (!q6.1) qm qt qu) else (laws_FnMixed.j0 k qn qX q7 false qm qt qu)) else (laws_FnMixed.j0 k qn qX q7 false qm qt qu)) else (laws_FnMixed.j0 k qn qX q7 false qm qt qu)) else (laws_FnMixed.j0 k qn qX q7 false qm qt qu)) else (laws_FnMixed.j0 k qn qX q7 false qm qt qu))) = some r := H
    have A34 := Aside0.mk A340
    clear A340
    replace H := Option.bind_eq_some_iff.mp H
    obtain ⟨⟨z4, QJ⟩, A350, H⟩ := H
    replace H : (if q7 = true then (if QI = true then (if QJ = true then (if qX = true then (if z3 = true then (laws_FnMixed.j0 k qn qX q7 (!z4) qm qt qu) else (laws_FnMixed.j0 k qn qX q7 false qm qt qu)) else (laws_FnMixed.j0 k qn qX q7 false qm qt qu)) else (laws_FnMixed.j0 k qn qX q7 false qm qt qu)) else (laws_FnMixed.j0 k qn qX q7 false qm qt qu)) else (laws_FnMixed.j0 k qn qX q7 false qm qt qu)) = some r := H
    have A35 := Aside0.mk A350
    clear A350
    have HC36 := Aside0.mk H
    clear H
    go_enter Try.func3, Try.ntmps3
    go_upto_region 14 with (first | ((with_reducible refine gate_callee (f := 7) rfl ?_); refine goesL_ (some 24) rfl rfl Try.func7 (by kernel_rfl) rfl #[.slice A0 l0.length c0] rfl (by (try simp only [List.map_toArray, List.map_cons, List.map_nil]); first | done | rfl | (simp only [List.length_drop, List.length_take]; rfl)) ?_; (with_reducible refine (laws_big.calls _ _ l0 false _ ?side1 ?side2 A2.out).mono ?_); (case side1 => repeat (first | exact HR0.out | (with_reducible refine Kd.C_alloc ?_ _) | (with_reducible refine Kd.C_drewN ?_ _) | (with_reducible refine Kd.C_drew ?_))); (case side2 => exact HC0.out); rintro e w' ⟨rfl, ⟨nd, rfl⟩⟩; refine ⟨_, rfl, ?_⟩) | ((with_reducible refine gate_callee (f := 8) rfl ?_); refine goesL_ (some 27) rfl rfl Try.func8 (by kernel_rfl) rfl #[.slice A0 l0.length c0] rfl (by (try simp only [List.map_toArray, List.map_cons, List.map_nil]); first | done | rfl | (simp only [List.length_drop, List.length_take]; rfl)) ?_; (with_reducible refine (spec_DrawMixAtoms.calls k _ _ l0 qm qt qu zK qv qW qY zL _ ?side1 ?side2 A4.out).mono ?_); (case side1 => repeat (first | exact HR0.out | (with_reducible refine Kd.C_alloc ?_ _) | (with_reducible refine Kd.C_drewN ?_ _) | (with_reducible refine Kd.C_drew ?_))); (case side2 => exact HC0.out); rintro e X8 ⟨Q3, Q4, rfl, ho0, ho1, hb⟩; refine ⟨_, rfl, ?_⟩; have qI := Aside0.mk (Kd.R_lower ho0 (bz_ HB)); have qJ := Aside0.mk (Kd.R_lower ho1 (bz_ HB)); replace HB := bS_ HB hb; (try clear hb); (try clear hb2); (try clear hk); (try clear hi); (try clear ho0); (try clear ho1)) | ((with_reducible refine gate_dst (N := 3) rfl ?_); refine box_event ?hg (N := 3) ?hd (cs := #[.slice none 0 0, .int .i64 0, .bool false]) (t := 26) ?hr ?_; (case hd => rfl); (case hg => rfl); (case hr => first | (go_simp; done) | (go_simp; rfl)); intro qj hg X9 hbox hb; replace qI := rB_ qI hb; replace qJ := rB_ qJ hb; have qa := Aside0.mk (hbox); have QO := Aside0.mk ((by rw [hg]; exact (bz_ HB) : w.heap.size ≤ qj)); have QP := Aside0.mk ((by rw [hg]; exact (bz_ HB) : w.heap.size ≤ qj)); replace HB := bS_ HB hb; clear hb hbox hg) | ((with_reducible refine gate_dst (N := 5) rfl ?_); refine box_event ?hg (N := 5) ?hd (cs := #[.slice none 0 0, .int .i64 0, .bool false]) (t := 26) ?hr ?_; (case hd => rfl); (case hg => rfl); (case hr => first | (go_simp; done) | (go_simp; rfl)); intro qq hg Q1 hbox hb; replace qI := rB_ qI hb; replace qJ := rB_ qJ hb; have qi := Aside0.mk (hbox); have QQ := Aside0.mk ((by rw [hg]; exact (bz_ HB) : w.heap.size ≤ qq)); have QR := Aside0.mk ((by rw [hg]; exact (bz_ HB) : w.heap.size ≤ qq)); replace HB := bS_ HB hb; have q3 := Aside0.mk ((nl_ qa hg : qj ≠ qq)); have q4 := Aside0.mk ((ng_ qa hg : qq ≠ qj)); replace qa := kB_ qa hb; clear hb hbox hg; obtain ⟨qH, qG, eo40⟩ := Kd.R_slice qI.out; subst eo40; have Xp := q3.out; have Xq := q4.out; have jG : Q1.cell? ⟨qj, 0, none⟩ = some (.slice none 0 0) := bc_ qa 0; have jH : Q1.cell? ⟨qj, 1, none⟩ = some (.int .i64 0) := bc_ qa 1; have jI : Q1.cell? ⟨qj, 2, none⟩ = some (.bool false) := bc_ qa 2; have jJ := blk_frozen qa.out 0; have jK := blk_frozen qa.out 1; have jL := blk_frozen qa.out 2; obtain ⟨qM, qL, eo43⟩ := Kd.R_slice qJ.out; subst eo43; have jM : Q1.cell? ⟨qq, 0, none⟩ = some (.slice none 0 0) := bc_ qi 0; have jN : Q1.cell? ⟨qq, 1, none⟩ = some (.int .i64 0) := bc_ qi 1; have jO : Q1.cell? ⟨qq, 2, none⟩ = some (.bool false) := bc_ qi 2; have jP := blk_frozen qi.out 0; have jQ := blk_frozen qi.out 1; have jR := blk_frozen qi.out 2) | ((with_reducible refine gate_callee (f := 9) rfl ?_); refine goesL_ (some 37) rfl rfl Try.func9 (by kernel_rfl) rfl #[.agg #[.slice qH qm.length qG, .int .i64 qt, .bool qu], .int .i64 zK, .agg #[.slice qM qv.length qL, .int .i64 qW, .bool qY], .int .i64 zL] rfl (by (try simp only [List.map_toArray, List.map_cons, List.map_nil]); first | done | rfl | (simp only [List.length_drop, List.length_take]; rfl)) ?_; (with_reducible refine (impl_MixAtoms.calls k _ _ qm qt qu zK _ _ qv qW qY zL qE q0 q1 true _ ?side1 ?side2 ?side3 ?side4 A5.out).mono ?_); (case side1 => refine (Kd.R_reads' (e := 3) (base := w.heap.size) (ok := fun k_ => some k_ ≠ (.slice qM qv.length qL : Value).ownBlock) (n := qm.length) (c := qG) ?_).2.2; exact (by (with_reducible repeat (first | apply Kd.R_alloc | apply Kd.R_drewN | apply Kd.R_drew)); exact (Kd.R_mono (Kd.R_mono (Kd.R_far (p := ⟨qq, 2, none⟩) (Kd.R_far (p := ⟨qq, 1, none⟩) (Kd.R_far (p := ⟨qq, 0, none⟩) (Kd.R_far (p := ⟨qj, 2, none⟩) (Kd.R_far (p := ⟨qj, 1, none⟩) (Kd.R_far (p := ⟨qj, 0, none⟩) (Kd.R_types (Kd.R_types qI.out qa.out (by decide)) qi.out (by decide)) (fun _ hk => hk.1.2) (.slice qH qm.length qG)) (fun _ hk => hk.1.2) (.int .i64 qt)) (fun _ hk => hk.1.2) (.bool qu)) (fun _ hk => hk.2) (.slice qM qv.length qL)) (fun _ hk => hk.2) (.int .i64 qW)) (fun _ hk => hk.2) (.bool qY)) (fun _ h_ => h_.1)) (fun _ h_ => h_.1)))); (case side2 => exact (Kd.R_reads' qI.out).2.1); (case side3 => refine (Kd.R_reads' (e := 3) (base := w.heap.size) (ok := fun k_ => some k_ ≠ (.slice qH qm.length qG : Value).ownBlock) (n := qv.length) (c := qL) ?_).2.2; exact (by (with_reducible repeat (first | apply Kd.R_alloc | apply Kd.R_drewN | apply Kd.R_drew)); exact (Kd.R_mono (Kd.R_mono (Kd.R_far (p := ⟨qq, 2, none⟩) (Kd.R_far (p := ⟨qq, 1, none⟩) (Kd.R_far (p := ⟨qq, 0, none⟩) (Kd.R_far (p := ⟨qj, 2, none⟩) (Kd.R_far (p := ⟨qj, 1, none⟩) (Kd.R_far (p := ⟨qj, 0, none⟩) (Kd.R_types (Kd.R_types qJ.out qa.out (by decide)) qi.out (by decide)) (fun _ hk => hk.1.2) (.slice qH qm.length qG)) (fun _ hk => hk.1.2) (.int .i64 qt)) (fun _ hk => hk.1.2) (.bool qu)) (fun _ hk => hk.2) (.slice qM qv.length qL)) (fun _ hk => hk.2) (.int .i64 qW)) (fun _ hk => hk.2) (.bool qY)) (fun _ h_ => h_.1)) (fun _ h_ => h_.1)))); (case side4 => exact (Kd.R_reads' qJ.out).2.1); rintro e Ya ⟨Q5, rfl, ho0, hb⟩; refine ⟨_, rfl, ?_⟩; have qZ := Aside0.mk (Kd.R_lower (Kd.R_new' (Kd.R_new' ho0 (Kd.R_lt (by (with_reducible repeat (first | apply Kd.R_alloc | apply Kd.R_drewN | apply Kd.R_drew)); exact (Kd.R_mono (Kd.R_mono (Kd.R_far (p := ⟨qq, 2, none⟩) (Kd.R_far (p := ⟨qq, 1, none⟩) (Kd.R_far (p := ⟨qq, 0, none⟩) (Kd.R_far (p := ⟨qj, 2, none⟩) (Kd.R_far (p := ⟨qj, 1, none⟩) (Kd.R_far (p := ⟨qj, 0, none⟩) (Kd.R_types (Kd.R_types qI.out qa.out (by decide)) qi.out (by decide)) (fun _ hk => hk.1.2) (.slice qH qm.length qG)) (fun _ hk => hk.1.2) (.int .i64 qt)) (fun _ hk => hk.1.2) (.bool qu)) (fun _ hk => hk.2) (.slice qM qv.length qL)) (fun _ hk => hk.2) (.int .i64 qW)) (fun _ hk => hk.2) (.bool qY)) (fun _ h_ => h_.1)) (fun _ h_ => h_.1))))) (Kd.R_lt (by (with_reducible repeat (first | apply Kd.R_alloc | apply Kd.R_drewN | apply Kd.R_drew)); exact (Kd.R_mono (Kd.R_mono (Kd.R_far (p := ⟨qq, 2, none⟩) (Kd.R_far (p := ⟨qq, 1, none⟩) (Kd.R_far (p := ⟨qq, 0, none⟩) (Kd.R_far (p := ⟨qj, 2, none⟩) (Kd.R_far (p := ⟨qj, 1, none⟩) (Kd.R_far (p := ⟨qj, 0, none⟩) (Kd.R_types (Kd.R_types qJ.out qa.out (by decide)) qi.out (by decide)) (fun _ hk => hk.1.2) (.slice qH qm.length qG)) (fun _ hk => hk.1.2) (.int .i64 qt)) (fun _ hk => hk.1.2) (.bool qu)) (fun _ hk => hk.2) (.slice qM qv.length qL)) (fun _ hk => hk.2) (.int .i64 qW)) (fun _ hk => hk.2) (.bool qY)) (fun _ h_ => h_.1)) (fun _ h_ => h_.1))))) (bz_ HB)); replace qI := Aside0.mk (Kd.R_elder' (by (with_reducible repeat (first | apply Kd.R_alloc | apply Kd.R_drewN | apply Kd.R_drew)); exact (Kd.R_mono (Kd.R_mono (Kd.R_far (p := ⟨qq, 2, none⟩) (Kd.R_far (p := ⟨qq, 1, none⟩) (Kd.R_far (p := ⟨qq, 0, none⟩) (Kd.R_far (p := ⟨qj, 2, none⟩) (Kd.R_far (p := ⟨qj, 1, none⟩) (Kd.R_far (p := ⟨qj, 0, none⟩) (Kd.R_types (Kd.R_types qI.out qa.out (by decide)) qi.out (by decide)) (fun _ hk => hk.1.2) (.slice qH qm.length qG)) (fun _ hk => hk.1.2) (.int .i64 qt)) (fun _ hk => hk.1.2) (.bool qu)) (fun _ hk => hk.2) (.slice qM qv.length qL)) (fun _ hk => hk.2) (.int .i64 qW)) (fun _ hk => hk.2) (.bool qY)) (fun _ h_ => h_.1)) (fun _ h_ => h_.1))) (Kd.R_base ho0) hb); replace qJ := Aside0.mk (Kd.R_elder' (by (with_reducible repeat (first | apply Kd.R_alloc | apply Kd.R_drewN | apply Kd.R_drew)); exact (Kd.R_mono (Kd.R_mono (Kd.R_far (p := ⟨qq, 2, none⟩) (Kd.R_far (p := ⟨qq, 1, none⟩) (Kd.R_far (p := ⟨qq, 0, none⟩) (Kd.R_far (p := ⟨qj, 2, none⟩) (Kd.R_far (p := ⟨qj, 1, none⟩) (Kd.R_far (p := ⟨qj, 0, none⟩) (Kd.R_types (Kd.R_types qJ.out qa.out (by decide)) qi.out (by decide)) (fun _ hk => hk.1.2) (.slice qH qm.length qG)) (fun _ hk => hk.1.2) (.int .i64 qt)) (fun _ hk => hk.1.2) (.bool qu)) (fun _ hk => hk.2) (.slice qM qv.length qL)) (fun _ hk => hk.2) (.int .i64 qW)) (fun _ hk => hk.2) (.bool qY)) (fun _ h_ => h_.1)) (fun _ h_ => h_.1))) (Kd.R_base ho0) hb); replace qa := Aside0.mk (blk_below (g := qj) (o := .cells #[.slice qH qm.length qG, .int .i64 qt, .bool qu] 26 (0, 0)) (by (with_reducible repeat (first | refine blk_drewN ?_ _ | refine blk_drew ?_ | refine blk_alloc ?_ _)); refine blk_far ?_ q3.out _; (with_reducible repeat (first | refine blk_drewN ?_ _ | refine blk_drew ?_ | refine blk_alloc ?_ _)); refine blk_far ?_ q3.out _; (with_reducible repeat (first | refine blk_drewN ?_ _ | refine blk_drew ?_ | refine blk_alloc ?_ _)); refine blk_far ?_ q3.out _; (with_reducible repeat (first | refine blk_drewN ?_ _ | refine blk_drew ?_ | refine blk_alloc ?_ _)); refine blk_put (cs := #[.slice qH qm.length qG, .int .i64 qt, .bool false]) ?_ 2 _ rfl; (with_reducible repeat (first | refine blk_drewN ?_ _ | refine blk_drew ?_ | refine blk_alloc ?_ _)); refine blk_put (cs := #[.slice qH qm.length qG, .int .i64 0, .bool false]) ?_ 1 _ rfl; (with_reducible repeat (first | refine blk_drewN ?_ _ | refine blk_drew ?_ | refine blk_alloc ?_ _)); refine blk_put (cs := #[.slice none 0 0, .int .i64 0, .bool false]) ?_ 0 _ rfl; (with_reducible repeat (first | refine blk_drewN ?_ _ | refine blk_drew ?_ | refine blk_alloc ?_ _)); exact qa.out) hb); replace qi := Aside0.mk (blk_below (g := qq) (o := .cells #[.slice qM qv.length qL, .int .i64 qW, .bool qY] 26 (0, 0)) (by (with_reducible repeat (first | refine blk_drewN ?_ _ | refine blk_drew ?_ | refine blk_alloc ?_ _)); refine blk_put (cs := #[.slice qM qv.length qL, .int .i64 qW, .bool false]) ?_ 2 _ rfl; (with_reducible repeat (first | refine blk_drewN ?_ _ | refine blk_drew ?_ | refine blk_alloc ?_ _)); refine blk_put (cs := #[.slice qM qv.length qL, .int .i64 0, .bool false]) ?_ 1 _ rfl; (with_reducible repeat (first | refine blk_drewN ?_ _ | refine blk_drew ?_ | refine blk_alloc ?_ _)); refine blk_put (cs := #[.slice none 0 0, .int .i64 0, .bool false]) ?_ 0 _ rfl; (with_reducible repeat (first | refine blk_drewN ?_ _ | refine blk_drew ?_ | refine blk_alloc ?_ _)); refine blk_far ?_ q4.out _; (with_reducible repeat (first | refine blk_drewN ?_ _ | refine blk_drew ?_ | refine blk_alloc ?_ _)); refine blk_far ?_ q4.out _; (with_reducible repeat (first | refine blk_drewN ?_ _ | refine blk_drew ?_ | refine blk_alloc ?_ _)); refine blk_far ?_ q4.out _; (with_reducible repeat (first | refine blk_drewN ?_ _ | refine blk_drew ?_ | refine blk_alloc ?_ _)); exact qi.out) hb); replace HB := bS_ HB hb; (try clear hb); (try clear hb2); (try clear hk); (try clear hi); (try clear ho0)) | ((with_reducible refine gate_dst (N := 7) rfl ?_); refine box_event ?hg (N := 7) ?hd (cs := #[.slice none 0 0, .int .i64 0, .bool false]) (t := 26) ?hr ?_; (case hd => rfl); (case hg => rfl); (case hr => first | (go_simp; done) | (go_simp; rfl)); intro qD hg QM hbox hb; replace qI := rB_ qI hb; replace qJ := rB_ qJ hb; replace qZ := rB_ qZ hb; have ql := Aside0.mk (hbox); have QS := Aside0.mk ((by rw [hg]; exact (bz_ HB) : w.heap.size ≤ qD)); have QT := Aside0.mk ((by rw [hg]; exact (bz_ HB) : w.heap.size ≤ qD)); replace HB := bS_ HB hb; have zs := Aside0.mk ((nl_ qa hg : qj ≠ qD)); have zt := Aside0.mk ((ng_ qa hg : qD ≠ qj)); replace qa := kB_ qa hb; have zu := Aside0.mk ((nl_ qi hg : qq ≠ qD)); have zv := Aside0.mk ((ng_ qi hg : qD ≠ qq)); replace qi := kB_ qi hb; clear hb hbox hg; obtain ⟨qO, qP, eo47⟩ := Kd.R_slice qZ.out; subst eo47; have Xr := zt.out; have Xs := zs.out; have Xt := zv.out; have Xu := zu.out; have jS : QM.cell? ⟨qD, 0, none⟩ = some (.slice none 0 0) := bc_ ql 0; have jT : QM.cell? ⟨qD, 1, none⟩ = some (.int .i64 0) := bc_ ql 1; have jU : QM.cell? ⟨qD, 2, none⟩ = some (.bool false) := bc_ ql 2; have jV := blk_frozen ql.out 0; have jW := blk_frozen ql.out 1; have jX := blk_frozen ql.out 2; have jY : QM.cell? ⟨qj, 0, none⟩ = some (.slice qH qm.length qG) := bc_ qa 0; have jZ : QM.cell? ⟨qj, 1, none⟩ = some (.int .i64 qt) := bc_ qa 1; have j1 : QM.cell? ⟨qj, 2, none⟩ = some (.bool qu) := bc_ qa 2; have j2 := blk_frozen qa.out 0; have j3 := blk_frozen qa.out 1; have j4 := blk_frozen qa.out 2; have j5 : QM.cell? ⟨qq, 0, none⟩ = some (.slice qM qv.length qL) := bc_ qi 0; have j6 : QM.cell? ⟨qq, 1, none⟩ = some (.int .i64 qW) := bc_ qi 1; have j7 : QM.cell? ⟨qq, 2, none⟩ = some (.bool qY) := bc_ qi 2; have j8 := blk_frozen qi.out 0; have j9 := blk_frozen qi.out 1; have Qa := blk_frozen qi.out 2) | ((with_reducible refine gate_callee (f := 10) rfl ?_); refine goesL_ (some 45) rfl rfl Try.func10 (by kernel_rfl) rfl #[.agg #[.slice qH qm.length qG, .int .i64 qt, .bool qu], .int .i64 zK, .agg #[.slice qM qv.length qL, .int .i64 qW, .bool qY], .int .i64 zL] rfl (by (try simp only [List.map_toArray, List.map_cons, List.map_nil]); first | done | rfl | (simp only [List.length_drop, List.length_take]; rfl)) ?_; (with_reducible refine (spec_MixAtoms.calls k _ _ qm qt qu zK _ _ qv qW qY zL qK zf zi zW _ ?side1 ?side2 ?side3 ?side4 A6.out).mono ?_); (case side1 => refine (Kd.R_reads' (e := 3) (base := w.heap.size) (ok := fun k_ => (some k_ ≠ (.slice qM qv.length qL : Value).ownBlock ∧ some k_ ≠ (.slice qO qE.length qP : Value).ownBlock)) (n := qm.length) (c := qG) ?_).2.2; exact (by (with_reducible repeat (first | apply Kd.R_alloc | apply Kd.R_drewN | apply Kd.R_drew)); exact (rt3_ qI ql (by decide) 0 1 2 (.slice qO qE.length qP) (.int .i64 q0) (.bool q1)))); (case side2 => exact (Kd.R_reads' qI.out).2.1); (case side3 => refine (Kd.R_reads' (e := 3) (base := w.heap.size) (ok := fun k_ => (some k_ ≠ (.slice qH qm.length qG : Value).ownBlock ∧ some k_ ≠ (.slice qO qE.length qP : Value).ownBlock)) (n := qv.length) (c := qL) ?_).2.2; exact (by (with_reducible repeat (first | apply Kd.R_alloc | apply Kd.R_drewN | apply Kd.R_drew)); exact (rt3_ qJ ql (by decide) 0 1 2 (.slice qO qE.length qP) (.int .i64 q0) (.bool q1)))); (case side4 => exact (Kd.R_reads' qJ.out).2.1); rintro e Yb ⟨Q6, rfl, ho0, hb⟩; refine ⟨_, rfl, ?_⟩; have q9 := Aside0.mk (Kd.R_lower (Kd.R_new' (Kd.R_new' (Kd.R_new' ho0 (Kd.R_lt (by (with_reducible repeat (first | apply Kd.R_alloc | apply Kd.R_drewN | apply Kd.R_drew)); exact (rt3_ qI ql (by decide) 0 1 2 (.slice qO qE.length qP) (.int .i64 q0) (.bool q1))))) (Kd.R_lt (by (with_reducible repeat (first | apply Kd.R_alloc | apply Kd.R_drewN | apply Kd.R_drew)); exact (rt3_ qJ ql (by decide) 0 1 2 (.slice qO qE.length qP) (.int .i64 q0) (.bool q1))))) (Kd.R_lt (by (with_reducible repeat (first | apply Kd.R_alloc | apply Kd.R_drewN | apply Kd.R_drew)); exact (rt3_ qZ ql (by decide) 0 1 2 (.slice qO qE.length qP) (.int .i64 q0) (.bool q1))))) (bz_ HB)); replace qI := Aside0.mk (Kd.R_elder' (by (with_reducible repeat (first | apply Kd.R_alloc | apply Kd.R_drewN | apply Kd.R_drew)); exact (rt3_ qI ql (by decide) 0 1 2 (.slice qO qE.length qP) (.int .i64 q0) (.bool q1))) (Kd.R_base ho0) hb); replace qJ := Aside0.mk (Kd.R_elder' (by (with_reducible repeat (first | apply Kd.R_alloc | apply Kd.R_drewN | apply Kd.R_drew)); exact (rt3_ qJ ql (by decide) 0 1 2 (.slice qO qE.length qP) (.int .i64 q0) (.bool q1))) (Kd.R_base ho0) hb); replace qZ := Aside0.mk (Kd.R_elder' (by (with_reducible repeat (first | apply Kd.R_alloc | apply Kd.R_drewN | apply Kd.R_drew)); exact (rt3_ qZ ql (by decide) 0 1 2 (.slice qO qE.length qP) (.int .i64 q0) (.bool q1))) (Kd.R_base ho0) hb); replace qa := Aside0.mk (blk_below (g := qj) (o := .cells #[.slice qH qm.length qG, .int .i64 qt, .bool qu] 26 (0, 0)) (kf_ qa) hb); replace qi := Aside0.mk (blk_below (g := qq) (o := .cells #[.slice qM qv.length qL, .int .i64 qW, .bool qY] 26 (0, 0)) (kf_ qi) hb); replace ql := Aside0.mk (blk_below (g := qD) (o := .cells #[.slice qO qE.length qP, .int .i64 q0, .bool q1] 26 (0, 0)) (by (with_reducible repeat (first | refine blk_drewN ?_ _ | refine blk_drew ?_ | refine blk_alloc ?_ _)); refine blk_put (cs := #[.slice qO qE.length qP, .int .i64 q0, .bool false]) ?_ 2 _ rfl; (with_reducible repeat (first | refine blk_drewN ?_ _ | refine blk_drew ?_ | refine blk_alloc ?_ _)); refine blk_put (cs := #[.slice qO qE.length qP, .int .i64 0, .bool false]) ?_ 1 _ rfl; (with_reducible repeat (first | refine blk_drewN ?_ _ | refine blk_drew ?_ | refine blk_alloc ?_ _)); refine blk_put (cs := #[.slice none 0 0, .int .i64 0, .bool false]) ?_ 0 _ rfl; (with_reducible repeat (first | refine blk_drewN ?_ _ | refine blk_drew ?_ | refine blk_alloc ?_ _)); exact ql.out) hb); replace HB := bS_ HB hb; (try clear hb); (try clear hb2); (try clear hk); (try clear hi); (try clear ho0)) | ((with_reducible refine gate_dst (N := 9) rfl ?_); refine box_event ?hg (N := 9) ?hd (cs := #[.slice none 0 0, .int .i64 0, .bool false]) (t := 26) ?hr ?_; (case hd => rfl); (case hg => rfl); (case hr => first | (go_simp; done) | (go_simp; rfl)); intro qF hg Q2 hbox hb; replace qI := rB_ qI hb; replace qJ := rB_ qJ hb; replace qZ := rB_ qZ hb; replace q9 := rB_ q9 hb; have qr := Aside0.mk (hbox); have QU := Aside0.mk ((by rw [hg]; exact (bz_ HB) : w.heap.size ≤ qF)); have QV := Aside0.mk ((by rw [hg]; exact (bz_ HB) : w.heap.size ≤ qF)); replace HB := bS_ HB hb; have zw := Aside0.mk ((nl_ qa hg : qj ≠ qF)); have zx := Aside0.mk ((ng_ qa hg : qF ≠ qj)); replace qa := kB_ qa hb; have zy := Aside0.mk ((nl_ qi hg : qq ≠ qF)); have zz := Aside0.mk ((ng_ qi hg : qF ≠ qq)); replace qi := kB_ qi hb; have zA := Aside0.mk ((nl_ ql hg : qD ≠ qF)); have zB := Aside0.mk ((ng_ ql hg : qF ≠ qD)); replace ql := kB_ ql hb; clear hb hbox hg; obtain ⟨qS, qT, eo55⟩ := Kd.R_slice q9.out; subst eo55; have Xv := zx.out; have Xw := zw.out; have Xx := zz.out; have Xy := zy.out; have Xz := zB.out; have XA := zA.out; have Qb : Q2.cell? ⟨qF, 0, none⟩ = some (.slice none 0 0) := bc_ qr 0; have Qc : Q2.cell? ⟨qF, 1, none⟩ = some (.int .i64 0) := bc_ qr 1; have Qd : Q2.cell? ⟨qF, 2, none⟩ = some (.bool false) := bc_ qr 2; have Qe := blk_frozen qr.out 0; have Qf := blk_frozen qr.out 1; have Qg := blk_frozen qr.out 2; have Qh : Q2.cell? ⟨qj, 0, none⟩ = some (.slice qH qm.length qG) := bc_ qa 0; have Qi : Q2.cell? ⟨qj, 1, none⟩ = some (.int .i64 qt) := bc_ qa 1; have Qj : Q2.cell? ⟨qj, 2, none⟩ = some (.bool qu) := bc_ qa 2; have Qk := blk_frozen qa.out 0; have Ql := blk_frozen qa.out 1; have Qm := blk_frozen qa.out 2) | ((with_reducible refine gate_callee (f := 11) rfl ?_); refine goesL_ (some 61) rfl rfl Try.func11 (by kernel_rfl) rfl #[.slice A0 l0.length c0, .int .i64 (qm.length : Int)] rfl (by (try simp only [List.map_toArray, List.map_cons, List.map_nil]); first | done | rfl | (simp only [List.length_drop, List.length_take]; rfl)) ?_; (with_reducible refine (laws_point.calls k _ _ l0 (qm.length : Int) qn _ ?side1 ?side2 A32.out).mono ?_); (case side1 => exact Kd.C_below HR0.out (bb_ HB)); (case side2 => exact HC0.out); rintro e Jm ⟨XQ, rfl, ho0, hb⟩; refine ⟨_, rfl, ?_⟩; replace qI := Aside0.mk (Kd.R_below (by (with_reducible repeat (first | apply Kd.R_alloc | apply Kd.R_drewN | apply Kd.R_drew)); exact (rt3_ qI qr (by decide) 0 1 2 (.slice qS qK.length qT) (.int .i64 zf) (.bool zi))) hb); replace qJ := Aside0.mk (Kd.R_below (by (with_reducible repeat (first | apply Kd.R_alloc | apply Kd.R_drewN | apply Kd.R_drew)); exact (rt3_ qJ qr (by decide) 0 1 2 (.slice qS qK.length qT) (.int .i64 zf) (.bool zi))) hb); replace qZ := Aside0.mk (Kd.R_below (by (with_reducible repeat (first | apply Kd.R_alloc | apply Kd.R_drewN | apply Kd.R_drew)); exact (rt3_ qZ qr (by decide) 0 1 2 (.slice qS qK.length qT) (.int .i64 zf) (.bool zi))) hb); replace q9 := Aside0.mk (Kd.R_below (by (with_reducible repeat (first | apply Kd.R_alloc | apply Kd.R_drewN | apply Kd.R_drew)); exact (rt3_ q9 qr (by decide) 0 1 2 (.slice qS qK.length qT) (.int .i64 zf) (.bool zi))) hb); have ze := Aside0.mk (Kd.R_lower ho0 (bz_ HB)); replace qa := Aside0.mk (blk_below (g := qj) (o := .cells #[.slice qH qm.length qG, .int .i64 qt, .bool qu] 26 (0, 0)) (kf_ qa) hb); replace qi := Aside0.mk (blk_below (g := qq) (o := .cells #[.slice qM qv.length qL, .int .i64 qW, .bool qY] 26 (0, 0)) (kf_ qi) hb); replace ql := Aside0.mk (blk_below (g := qD) (o := .cells #[.slice qO qE.length qP, .int .i64 q0, .bool q1] 26 (0, 0)) (kf_ ql) hb); replace qr := Aside0.mk (blk_below (g := qF) (o := .cells #[.slice qS qK.length qT, .int .i64 zf, .bool zi] 26 (0, 0)) (by (with_reducible repeat (first | refine blk_drewN ?_ _ | refine blk_drew ?_ | refine blk_alloc ?_ _)); refine blk_put (cs := #[.slice qS qK.length qT, .int .i64 zf, .bool false]) ?_ 2 _ rfl; (with_reducible repeat (first | refine blk_drewN ?_ _ | refine blk_drew ?_ | refine blk_alloc ?_ _)); refine blk_put (cs := #[.slice qS qK.length qT, .int .i64 0, .bool false]) ?_ 1 _ rfl; (with_reducible repeat (first | refine blk_drewN ?_ _ | refine blk_drew ?_ | refine blk_alloc ?_ _)); refine blk_put (cs := #[.slice none 0 0, .int .i64 0, .bool false]) ?_ 0 _ rfl; (with_reducible repeat (first | refine blk_drewN ?_ _ | refine blk_drew ?_ | refine blk_alloc ?_ _)); exact qr.out) hb); replace HB := bS_ HB hb; (try clear hb); (try clear hb2); (try clear hk); (try clear hi); (try clear ho0); have Qn : Jm.cell? ⟨qj, 0, none⟩ = some (.slice qH qm.length qG) := bc_ qa 0; have Qo : Jm.cell? ⟨qj, 1, none⟩ = some (.int .i64 qt) := bc_ qa 1; have Qp : Jm.cell? ⟨qj, 2, none⟩ = some (.bool qu) := bc_ qa 2; have Qq := blk_frozen qa.out 0; have Qr := blk_frozen qa.out 1; have Qs := blk_frozen qa.out 2; obtain ⟨QK, zj, eo63⟩ := Kd.R_slice ze.out; subst eo63) | ((with_reducible refine gate_callee (f := 12) rfl ?_); refine goesL_ (some 65) rfl rfl Try.func12 (by kernel_rfl) rfl #[.agg #[.slice qH qm.length qG, .int .i64 qt, .bool qu], .slice QK qn.length zj] rfl (by (try simp only [List.map_toArray, List.map_cons, List.map_nil]); first | done | rfl | (simp only [List.length_drop, List.length_take]; rfl)) ?_; (with_reducible refine (impl_HoldsAt.calls k _ _ qm qt qu _ _ qn qX q7 _ ?side1 ?side2 ?side3 ?side4 A33.out).mono ?_); (case side1 => exact cr_ qI); (case side2 => exact (Kd.R_reads' qI.out).2.1); (case side3 => exact cr_ ze); (case side4 => exact (Kd.R_reads' ze.out).2.1); rintro e Jn ⟨rfl, hb⟩; refine ⟨_, rfl, ?_⟩; replace qI := rB_ qI hb; replace qJ := rB_ qJ hb; replace qZ := rB_ qZ hb; replace q9 := rB_ q9 hb; replace ze := rB_ ze hb; replace qa := kB_ qa hb; replace qi := kB_ qi hb; replace ql := kB_ ql hb; replace qr := kB_ qr hb; replace HB := bS_ HB hb; (try clear hb); (try clear hb2); (try clear hk); (try clear hi); have Qt : Jn.cell? ⟨qq, 0, none⟩ = some (.slice qM qv.length qL) := bc_ qi 0; have Qu : Jn.cell? ⟨qq, 1, none⟩ = some (.int .i64 qW) := bc_ qi 1; have Qv : Jn.cell? ⟨qq, 2, none⟩ = some (.bool qY) := bc_ qi 2; have Qw := blk_frozen qi.out 0; have Qx := blk_frozen qi.out 1; have Qy := blk_frozen qi.out 2) | ((with_reducible refine gate_callee (f := 12) rfl ?_); refine goesL_ (some 71) rfl rfl Try.func12 (by kernel_rfl) rfl #[.agg #[.slice qM qv.length qL, .int .i64 qW, .bool qY], .slice QK qn.length zj] rfl (by (try simp only [List.map_toArray, List.map_cons, List.map_nil]); first | done | rfl | (simp only [List.length_drop, List.length_take]; rfl)) ?_; (with_reducible refine (impl_HoldsAt.calls k _ _ qv qW qY _ _ qn z3 QI _ ?side1 ?side2 ?side3 ?side4 A34.out).mono ?_); (case side1 => exact cr_ qJ); (case side2 => exact (Kd.R_reads' qJ.out).2.1); (case side3 => exact cr_ ze); (case side4 => exact (Kd.R_reads' ze.out).2.1); rintro e Jo ⟨rfl, hb⟩; refine ⟨_, rfl, ?_⟩; replace qI := rB_ qI hb; replace qJ := rB_ qJ hb; replace qZ := rB_ qZ hb; replace q9 := rB_ q9 hb; replace ze := rB_ ze hb; replace qa := kB_ qa hb; replace qi := kB_ qi hb; replace ql := kB_ ql hb; replace qr := kB_ qr hb; replace HB := bS_ HB hb; (try clear hb); (try clear hb2); (try clear hk); (try clear hi); have Qz : Jo.cell? ⟨qD, 0, none⟩ = some (.slice qO qE.length qP) := bc_ ql 0; have QA : Jo.cell? ⟨qD, 1, none⟩ = some (.int .i64 q0) := bc_ ql 1; have QB : Jo.cell? ⟨qD, 2, none⟩ = some (.bool q1) := bc_ ql 2; have QC := blk_frozen ql.out 0; have QD := blk_frozen ql.out 1; have QE := blk_frozen ql.out 2) | ((with_reducible refine gate_callee (f := 12) rfl ?_); refine goesL_ (some 77) rfl rfl Try.func12 (by kernel_rfl) rfl #[.agg #[.slice qO qE.length qP, .int .i64 q0, .bool q1], .slice QK qn.length zj] rfl (by (try simp only [List.map_toArray, List.map_cons, List.map_nil]); first | done | rfl | (simp only [List.length_drop, List.length_take]; rfl)) ?_; (with_reducible refine (impl_HoldsAt.calls k _ _ qE q0 q1 _ _ qn z4 QJ _ ?side1 ?side2 ?side3 ?side4 A35.out).mono ?_); (case side1 => exact cr_ qZ); (case side2 => exact (Kd.R_reads' qZ.out).2.1); (case side3 => exact cr_ ze); (case side4 => exact (Kd.R_reads' ze.out).2.1); rintro e Yc ⟨rfl, hb⟩; refine ⟨_, rfl, ?_⟩; replace qI := rB_ qI hb; replace qJ := rB_ qJ hb; replace qZ := rB_ qZ hb; replace q9 := rB_ q9 hb; replace ze := rB_ ze hb; replace qa := kB_ qa hb; replace qi := kB_ qi hb; replace ql := kB_ ql hb; replace qr := kB_ qr hb; replace HB := bS_ HB hb; (try clear hb); (try clear hb2); (try clear hk); (try clear hi)))
    (try simp only [Act.put, List.setIfInBounds_toArray, List.set_cons_zero, List.set_cons_succ])
    go_cut [96] (fun v96 wc => ∃ (kq : Nat) (zZ : Bool), v96 = .bool zZ ∧ Aside0 (laws_FnMixed.j0 kq qn qX q7 zZ qm qt qu = some r) ∧ Aside0 (kq ≤ k) ∧ Aside0 (Kd.R k37 37 wc w.heap.size (fun _ => True) (.slice QK qn.length zj) qn) ∧ Aside0 (Kd.R (Kd.int .i64) 3 wc w.heap.size (fun k_ => some k_ ≠ ((.slice qM qv.length qL) : Value).ownBlock ∧ some k_ ≠ ((.slice qO qE.length qP) : Value).ownBlock ∧ some k_ ≠ ((.slice qS qK.length qT) : Value).ownBlock) (.slice qH qm.length qG) qm) ∧ Aside0 (Kd.R (Kd.int .i64) 3 wc w.heap.size (fun k_ => some k_ ≠ ((.slice qH qm.length qG) : Value).ownBlock ∧ some k_ ≠ ((.slice qO qE.length qP) : Value).ownBlock ∧ some k_ ≠ ((.slice qS qK.length qT) : Value).ownBlock) (.slice qM qv.length qL) qv) ∧ Aside0 (Kd.R (Kd.int .i64) 3 wc w.heap.size (fun k_ => some k_ ≠ ((.slice qH qm.length qG) : Value).ownBlock ∧ some k_ ≠ ((.slice qM qv.length qL) : Value).ownBlock ∧ some k_ ≠ ((.slice qS qK.length qT) : Value).ownBlock) (.slice qO qE.length qP) qE) ∧ Aside0 (Kd.R (Kd.int .i64) 3 wc w.heap.size (fun k_ => some k_ ≠ ((.slice qH qm.length qG) : Value).ownBlock ∧ some k_ ≠ ((.slice qM qv.length qL) : Value).ownBlock ∧ some k_ ≠ ((.slice qO qE.length qP) : Value).ownBlock) (.slice qS qK.length qT) qK) ∧ Aside0 (wc.heap[qj]? = some (.cells #[(.slice qH qm.length qG), .int .i64 qt, .bool qu] 26 (0, 0))) ∧ Aside0 (wc.heap[qq]? = some (.cells #[(.slice qM qv.length qL), .int .i64 qW, .bool qY] 26 (0, 0))) ∧ Aside0 (wc.heap[qD]? = some (.cells #[(.slice qO qE.length qP), .int .i64 q0, .bool q1] 26 (0, 0))) ∧ Aside0 (wc.heap[qF]? = some (.cells #[(.slice qS qK.length qT), .int .i64 zf, .bool zi] 26 (0, 0))) ∧ Aside0 (Below w.heap.size w wc))
    case first =>
     have H := HC36.out
     clear HC36
     by_cases c69 : q7 = true
     ·
      subst c69
      have H1 : (if QI = true then (if QJ = true then (if qX = true then (if z3 = true then (laws_FnMixed.j0 k qn qX true (!z4) qm qt qu) else (laws_FnMixed.j0 k qn qX true false qm qt qu)) else (laws_FnMixed.j0 k qn qX true false qm qt qu)) else (laws_FnMixed.j0 k qn qX true false qm qt qu)) else (laws_FnMixed.j0 k qn qX true false qm qt qu)) = some r := by rw [if_pos rfl] at H; exact H
      clear H
      have H := H1
      clear H1
      by_cases c70 : QI = true
      ·
       subst c70
       have H1 : (if QJ = true then (if qX = true then (if z3 = true then (laws_FnMixed.j0 k qn qX true (!z4) qm qt qu) else (laws_FnMixed.j0 k qn qX true false qm qt qu)) else (laws_FnMixed.j0 k qn qX true false qm qt qu)) else (laws_FnMixed.j0 k qn qX true false qm qt qu)) = some r := by rw [if_pos rfl] at H; exact H
       clear H
       have H := H1
       clear H1
       by_cases c71 : QJ = true
       ·
        subst c71
        have H1 : (if qX = true then (if z3 = true then (laws_FnMixed.j0 k qn qX true (!z4) qm qt qu) else (laws_FnMixed.j0 k qn qX true false qm qt qu)) else (laws_FnMixed.j0 k qn qX true false qm qt qu)) = some r := by rw [if_pos rfl] at H; exact H
        clear H
        have H := H1
        clear H1
        by_cases c72 : qX = true
        ·
         subst c72
         have H1 : (if z3 = true then (laws_FnMixed.j0 k qn true true (!z4) qm qt qu) else (laws_FnMixed.j0 k qn true true false qm qt qu)) = some r := by rw [if_pos rfl] at H; exact H
         clear H
         have H := H1
         clear H1
         by_cases c73 : z3 = true
         ·
          subst c73
          have H1 : (laws_FnMixed.j0 k qn true true (!z4) qm qt qu) = some r := by rw [if_pos rfl] at H; exact H
          clear H
          have H := H1
          clear H1
          have H' := Aside0.mk H
          clear H
          go_wp2
          go_meet
          case rel => exact ⟨_, (!z4), (by first | rfl | (simp; done) | (simp [*]; done)), H', ⟨by first | omega | exact Nat.le_refl _⟩, ⟨by (with_reducible repeat (first | apply Kd.R_alloc | apply Kd.R_drewN | apply Kd.R_drew)); exact ze.out⟩, ⟨by (with_reducible repeat (first | apply Kd.R_alloc | apply Kd.R_drewN | apply Kd.R_drew)); exact Kd.R_mono qI.out (fun _ hk => ⟨hk.1.1, ⟨hk.1.2, hk.2⟩⟩)⟩, ⟨by (with_reducible repeat (first | apply Kd.R_alloc | apply Kd.R_drewN | apply Kd.R_drew)); exact Kd.R_mono qJ.out (fun _ hk => ⟨hk.1.1, ⟨hk.1.2, hk.2⟩⟩)⟩, ⟨by (with_reducible repeat (first | apply Kd.R_alloc | apply Kd.R_drewN | apply Kd.R_drew)); exact Kd.R_mono qZ.out (fun _ hk => ⟨hk.1.1.2, ⟨hk.1.2, hk.2⟩⟩)⟩, ⟨by (with_reducible repeat (first | apply Kd.R_alloc | apply Kd.R_drewN | apply Kd.R_drew)); exact Kd.R_mono q9.out (fun _ hk => ⟨hk.1.1.2, ⟨hk.1.2, hk.2⟩⟩)⟩, ⟨kf_ qa⟩, ⟨kf_ qi⟩, ⟨kf_ ql⟩, ⟨kf_ qr⟩, ⟨bb_ HB⟩⟩
         ·
          replace c73 := Bool.eq_false_iff.mpr c73
          subst c73
          have H1 : (laws_FnMixed.j0 k qn true true false qm qt qu) = some r := by rw [if_neg (show ¬ (false = true) by decide)] at H; exact H
          clear H
          have H := H1
          clear H1
          have H' := Aside0.mk H
          clear H
          go_wp2
          go_meet
          case rel => exact ⟨_, (false), (by first | rfl | (simp; done) | (simp [*]; done)), H', ⟨by first | omega | exact Nat.le_refl _⟩, ⟨by (with_reducible repeat (first | apply Kd.R_alloc | apply Kd.R_drewN | apply Kd.R_drew)); exact ze.out⟩, ⟨by (with_reducible repeat (first | apply Kd.R_alloc | apply Kd.R_drewN | apply Kd.R_drew)); exact Kd.R_mono qI.out (fun _ hk => ⟨hk.1.1, ⟨hk.1.2, hk.2⟩⟩)⟩, ⟨by (with_reducible repeat (first | apply Kd.R_alloc | apply Kd.R_drewN | apply Kd.R_drew)); exact Kd.R_mono qJ.out (fun _ hk => ⟨hk.1.1, ⟨hk.1.2, hk.2⟩⟩)⟩, ⟨by (with_reducible repeat (first | apply Kd.R_alloc | apply Kd.R_drewN | apply Kd.R_drew)); exact Kd.R_mono qZ.out (fun _ hk => ⟨hk.1.1.2, ⟨hk.1.2, hk.2⟩⟩)⟩, ⟨by (with_reducible repeat (first | apply Kd.R_alloc | apply Kd.R_drewN | apply Kd.R_drew)); exact Kd.R_mono q9.out (fun _ hk => ⟨hk.1.1.2, ⟨hk.1.2, hk.2⟩⟩)⟩, ⟨kf_ qa⟩, ⟨kf_ qi⟩, ⟨kf_ ql⟩, ⟨kf_ qr⟩, ⟨bb_ HB⟩⟩
        ·
         replace c72 := Bool.eq_false_iff.mpr c72
         subst c72
         have H1 : (laws_FnMixed.j0 k qn false true false qm qt qu) = some r := by rw [if_neg (show ¬ (false = true) by decide)] at H; exact H
         clear H
         have H := H1
         clear H1
         have H' := Aside0.mk H
         clear H
         go_wp2
         go_meet
         case rel => exact ⟨_, (false), (by first | rfl | (simp; done) | (simp [*]; done)), H', ⟨by first | omega | exact Nat.le_refl _⟩, ⟨by (with_reducible repeat (first | apply Kd.R_alloc | apply Kd.R_drewN | apply Kd.R_drew)); exact ze.out⟩, ⟨by (with_reducible repeat (first | apply Kd.R_alloc | apply Kd.R_drewN | apply Kd.R_drew)); exact Kd.R_mono qI.out (fun _ hk => ⟨hk.1.1, ⟨hk.1.2, hk.2⟩⟩)⟩, ⟨by (with_reducible repeat (first | apply Kd.R_alloc | apply Kd.R_drewN | apply Kd.R_drew)); exact Kd.R_mono qJ.out (fun _ hk => ⟨hk.1.1, ⟨hk.1.2, hk.2⟩⟩)⟩, ⟨by (with_reducible repeat (first | apply Kd.R_alloc | apply Kd.R_drewN | apply Kd.R_drew)); exact Kd.R_mono qZ.out (fun _ hk => ⟨hk.1.1.2, ⟨hk.1.2, hk.2⟩⟩)⟩, ⟨by (with_reducible repeat (first | apply Kd.R_alloc | apply Kd.R_drewN | apply Kd.R_drew)); exact Kd.R_mono q9.out (fun _ hk => ⟨hk.1.1.2, ⟨hk.1.2, hk.2⟩⟩)⟩, ⟨kf_ qa⟩, ⟨kf_ qi⟩, ⟨kf_ ql⟩, ⟨kf_ qr⟩, ⟨bb_ HB⟩⟩
       ·
        replace c71 := Bool.eq_false_iff.mpr c71
        subst c71
        have H1 : (laws_FnMixed.j0 k qn qX true false qm qt qu) = some r := by rw [if_neg (show ¬ (false = true) by decide)] at H; exact H
        clear H
        have H := H1
        clear H1
        have H' := Aside0.mk H
        clear H
        go_wp2
        go_meet
        case rel => exact ⟨_, (false), (by first | rfl | (simp; done) | (simp [*]; done)), H', ⟨by first | omega | exact Nat.le_refl _⟩, ⟨by (with_reducible repeat (first | apply Kd.R_alloc | apply Kd.R_drewN | apply Kd.R_drew)); exact ze.out⟩, ⟨by (with_reducible repeat (first | apply Kd.R_alloc | apply Kd.R_drewN | apply Kd.R_drew)); exact Kd.R_mono qI.out (fun _ hk => ⟨hk.1.1, ⟨hk.1.2, hk.2⟩⟩)⟩, ⟨by (with_reducible repeat (first | apply Kd.R_alloc | apply Kd.R_drewN | apply Kd.R_drew)); exact Kd.R_mono qJ.out (fun _ hk => ⟨hk.1.1, ⟨hk.1.2, hk.2⟩⟩)⟩, ⟨by (with_reducible repeat (first | apply Kd.R_alloc | apply Kd.R_drewN | apply Kd.R_drew)); exact Kd.R_mono qZ.out (fun _ hk => ⟨hk.1.1.2, ⟨hk.1.2, hk.2⟩⟩)⟩, ⟨by (with_reducible repeat (first | apply Kd.R_alloc | apply Kd.R_drewN | apply Kd.R_drew)); exact Kd.R_mono q9.out (fun _ hk => ⟨hk.1.1.2, ⟨hk.1.2, hk.2⟩⟩)⟩, ⟨kf_ qa⟩, ⟨kf_ qi⟩, ⟨kf_ ql⟩, ⟨kf_ qr⟩, ⟨bb_ HB⟩⟩
      ·
       replace c70 := Bool.eq_false_iff.mpr c70
       subst c70
       have H1 : (laws_FnMixed.j0 k qn qX true false qm qt qu) = some r := by rw [if_neg (show ¬ (false = true) by decide)] at H; exact H
       clear H
       have H := H1
       clear H1
       have H' := Aside0.mk H
       clear H
       go_wp2
       go_meet
       case rel => exact ⟨_, (false), (by first | rfl | (simp; done) | (simp [*]; done)), H', ⟨by first | omega | exact Nat.le_refl _⟩, ⟨by (with_reducible repeat (first | apply Kd.R_alloc | apply Kd.R_drewN | apply Kd.R_drew)); exact ze.out⟩, ⟨by (with_reducible repeat (first | apply Kd.R_alloc | apply Kd.R_drewN | apply Kd.R_drew)); exact Kd.R_mono qI.out (fun _ hk => ⟨hk.1.1, ⟨hk.1.2, hk.2⟩⟩)⟩, ⟨by (with_reducible repeat (first | apply Kd.R_alloc | apply Kd.R_drewN | apply Kd.R_drew)); exact Kd.R_mono qJ.out (fun _ hk => ⟨hk.1.1, ⟨hk.1.2, hk.2⟩⟩)⟩, ⟨by (with_reducible repeat (first | apply Kd.R_alloc | apply Kd.R_drewN | apply Kd.R_drew)); exact Kd.R_mono qZ.out (fun _ hk => ⟨hk.1.1.2, ⟨hk.1.2, hk.2⟩⟩)⟩, ⟨by (with_reducible repeat (first | apply Kd.R_alloc | apply Kd.R_drewN | apply Kd.R_drew)); exact Kd.R_mono q9.out (fun _ hk => ⟨hk.1.1.2, ⟨hk.1.2, hk.2⟩⟩)⟩, ⟨kf_ qa⟩, ⟨kf_ qi⟩, ⟨kf_ ql⟩, ⟨kf_ qr⟩, ⟨bb_ HB⟩⟩
     ·
      replace c69 := Bool.eq_false_iff.mpr c69
      subst c69
      have H1 : (laws_FnMixed.j0 k qn qX false false qm qt qu) = some r := by rw [if_neg (show ¬ (false = true) by decide)] at H; exact H
      clear H
      have H := H1
      clear H1
      have H' := Aside0.mk H
      clear H
      go_wp2
      go_meet
      case rel => exact ⟨_, (false), (by first | rfl | (simp; done) | (simp [*]; done)), H', ⟨by first | omega | exact Nat.le_refl _⟩, ⟨by (with_reducible repeat (first | apply Kd.R_alloc | apply Kd.R_drewN | apply Kd.R_drew)); exact ze.out⟩, ⟨by (with_reducible repeat (first | apply Kd.R_alloc | apply Kd.R_drewN | apply Kd.R_drew)); exact Kd.R_mono qI.out (fun _ hk => ⟨hk.1.1, ⟨hk.1.2, hk.2⟩⟩)⟩, ⟨by (with_reducible repeat (first | apply Kd.R_alloc | apply Kd.R_drewN | apply Kd.R_drew)); exact Kd.R_mono qJ.out (fun _ hk => ⟨hk.1.1, ⟨hk.1.2, hk.2⟩⟩)⟩, ⟨by (with_reducible repeat (first | apply Kd.R_alloc | apply Kd.R_drewN | apply Kd.R_drew)); exact Kd.R_mono qZ.out (fun _ hk => ⟨hk.1.1.2, ⟨hk.1.2, hk.2⟩⟩)⟩, ⟨by (with_reducible repeat (first | apply Kd.R_alloc | apply Kd.R_drewN | apply Kd.R_drew)); exact Kd.R_mono q9.out (fun _ hk => ⟨hk.1.1.2, ⟨hk.1.2, hk.2⟩⟩)⟩, ⟨kf_ qa⟩, ⟨kf_ qi⟩, ⟨kf_ ql⟩, ⟨kf_ qr⟩, ⟨bb_ HB⟩⟩
    case rest =>
     clear HC36
     try clear c1
     try clear c2
     try clear p2
     try clear c3
     try clear c4
     try clear c5
     try clear c6
     try clear c7
     try clear QW
     try clear QX
     try clear QY
     try clear c8
     try clear c9
     try clear c10
     try clear c11
     try clear c12
     try clear c19
     try clear c20
     try clear c27
     try clear c28
     try clear c29
     try clear c31
     try clear c41
     try clear c48
     try clear c49
     try clear c56
     try clear c57
     try clear c58
     try clear c69
     try clear c70
     try clear c71
     try clear c72
     try clear c73
     try clear z6
     try clear z7
     try clear z8
     try clear jc
     try clear jd
     try clear je
     try clear ji
     try clear jj
     try clear jk
     try clear jo
     try clear jp
     try clear jq
     try clear ju
     try clear jv
     try clear jw
     try clear jA
     try clear jB
     try clear jC
     try clear jG
     try clear jH
     try clear jI
     try clear jM
     try clear jN
     try clear jO
     try clear jS
     try clear jT
     try clear jU
     try clear jY
     try clear jZ
     try clear j1
     try clear j5
     try clear j6
     try clear j7
     try clear Qb
     try clear Qc
     try clear Qd
     try clear Qh
     try clear Qi
     try clear Qj
     try clear Qn
     try clear Qo
     try clear Qp
     try clear Qt
     try clear Qu
     try clear Qv
     try clear Qz
     try clear QA
     try clear QB
     try clear z9
     try clear ja
     try clear jb
     try clear jf
     try clear jg
     try clear jh
     try clear jl
     try clear jm
     try clear jn
     try clear jr
     try clear js
     try clear jt
     try clear jx
     try clear jy
     try clear jz
     try clear jD
     try clear jE
     try clear jF
     try clear jJ
     try clear jK
     try clear jL
     try clear jP
     try clear jQ
     try clear jR
     try clear jV
     try clear jW
     try clear jX
     try clear j2
     try clear j3
     try clear j4
     try clear j8
     try clear j9
     try clear Qa
     try clear Qe
     try clear Qf
     try clear Qg
     try clear Qk
     try clear Ql
     try clear Qm
     try clear Qq
     try clear Qr
     try clear Qs
     try clear Qw
     try clear Qx
     try clear Qy
     try clear QC
     try clear QD
     try clear QE
     obtain ⟨kq, zZ, rfl, HA, HJ35, qh, qc, qe, qf, qg, qa, qi, ql, qr, HB⟩ := hcut
     cases kq with
     | zero => exact absurd HA.out (by simp [laws_FnMixed.j0])
     | succ kj35 =>
      have H := HA.out
      clear HA
      simp only [laws_FnMixed.j0] at H
      by_cases c74 : zZ = true
      ·
       subst c74
       have H1 : (some false) = some r := by rw [if_pos rfl] at H; exact H
       clear H
       have H := H1
       clear H1
       obtain rfl := Option.some.inj H
       go_wp2
       go_ret
       exact ⟨by first | rfl | (simp [errW_none, errW_some] <;> rfl) | (simp [*, errW_none, errW_some] <;> rfl), bb_ HB⟩
      ·
       replace c74 := Bool.eq_false_iff.mpr c74
       subst c74
       have H1 : (laws_FnMixed.l0 kj35 qn qX q7 0 qm qt qu) = some r := by rw [if_neg (show ¬ (false = true) by decide)] at H; exact H
       clear H
       have H := H1
       clear H1
       have H' := Aside0.mk H
       clear H
       go_wp2
       go_loopg [18] kj35 (fun kq v18 w' => ∃ (qo : Int), v18 = .int .i64 qo ∧ Aside0 (laws_FnMixed.l0 kq qn qX q7 qo qm qt qu = some r) ∧ Aside0 (kq ≤ kj35) ∧ Aside0 (Kd.R k37 37 w' w.heap.size (fun _ => True) (.slice QK qn.length zj) qn) ∧ Aside0 (Kd.R (Kd.int .i64) 3 w' w.heap.size (fun k_ => some k_ ≠ ((.slice qM qv.length qL) : Value).ownBlock ∧ some k_ ≠ ((.slice qO qE.length qP) : Value).ownBlock ∧ some k_ ≠ ((.slice qS qK.length qT) : Value).ownBlock) (.slice qH qm.length qG) qm) ∧ Aside0 (Kd.R (Kd.int .i64) 3 w' w.heap.size (fun k_ => some k_ ≠ ((.slice qH qm.length qG) : Value).ownBlock ∧ some k_ ≠ ((.slice qO qE.length qP) : Value).ownBlock ∧ some k_ ≠ ((.slice qS qK.length qT) : Value).ownBlock) (.slice qM qv.length qL) qv) ∧ Aside0 (Kd.R (Kd.int .i64) 3 w' w.heap.size (fun k_ => some k_ ≠ ((.slice qH qm.length qG) : Value).ownBlock ∧ some k_ ≠ ((.slice qM qv.length qL) : Value).ownBlock ∧ some k_ ≠ ((.slice qS qK.length qT) : Value).ownBlock) (.slice qO qE.length qP) qE) ∧ Aside0 (Kd.R (Kd.int .i64) 3 w' w.heap.size (fun k_ => some k_ ≠ ((.slice qH qm.length qG) : Value).ownBlock ∧ some k_ ≠ ((.slice qM qv.length qL) : Value).ownBlock ∧ some k_ ≠ ((.slice qO qE.length qP) : Value).ownBlock) (.slice qS qK.length qT) qK) ∧ Aside0 (w'.heap[qj]? = some (.cells #[(.slice qH qm.length qG), .int .i64 qt, .bool qu] 26 (0, 0))) ∧ Aside0 (w'.heap[qq]? = some (.cells #[(.slice qM qv.length qL), .int .i64 qW, .bool qY] 26 (0, 0))) ∧ Aside0 (w'.heap[qD]? = some (.cells #[(.slice qO qE.length qP), .int .i64 q0, .bool q1] 26 (0, 0))) ∧ Aside0 (w'.heap[qF]? = some (.cells #[(.slice qS qK.length qT), .int .i64 zf, .bool zi] 26 (0, 0))) ∧ Aside0 (Below w.heap.size w w'))
       case atStart => exact ⟨(0), (by first | rfl | (simp; done) | (simp [*]; done)), H', ⟨Nat.le_refl _⟩, ⟨by (with_reducible repeat (first | apply Kd.R_alloc | apply Kd.R_drewN | apply Kd.R_drew)); exact qh.out⟩, ⟨by (with_reducible repeat (first | apply Kd.R_alloc | apply Kd.R_drewN | apply Kd.R_drew)); exact qc.out⟩, ⟨by (with_reducible repeat (first | apply Kd.R_alloc | apply Kd.R_drewN | apply Kd.R_drew)); exact qe.out⟩, ⟨by (with_reducible repeat (first | apply Kd.R_alloc | apply Kd.R_drewN | apply Kd.R_drew)); exact qf.out⟩, ⟨by (with_reducible repeat (first | apply Kd.R_alloc | apply Kd.R_drewN | apply Kd.R_drew)); exact qg.out⟩, ⟨kf_ qa⟩, ⟨kf_ qi⟩, ⟨kf_ ql⟩, ⟨kf_ qr⟩, ⟨bb_ HB⟩⟩
       case round =>
        clear H'
        try clear c1
        try clear c2
        try clear p2
        try clear c3
        try clear c4
        try clear c5
        try clear c6
        try clear c7
        try clear QW
        try clear QX
        try clear QY
        try clear c8
        try clear c9
        try clear c10
        try clear c11
        try clear c12
        try clear c19
        try clear c20
        try clear c27
        try clear c28
        try clear c29
        try clear c31
        try clear c41
        try clear c48
        try clear c49
        try clear c56
        try clear c57
        try clear c58
        try clear c69
        try clear c70
        try clear c71
        try clear c72
        try clear c73
        try clear c74
        try clear z6
        try clear z7
        try clear z8
        try clear jc
        try clear jd
        try clear je
        try clear ji
        try clear jj
        try clear jk
        try clear jo
        try clear jp
        try clear jq
        try clear ju
        try clear jv
        try clear jw
        try clear jA
        try clear jB
        try clear jC
        try clear jG
        try clear jH
        try clear jI
        try clear jM
        try clear jN
        try clear jO
        try clear jS
        try clear jT
        try clear jU
        try clear jY
        try clear jZ
        try clear j1
        try clear j5
        try clear j6
        try clear j7
        try clear Qb
        try clear Qc
        try clear Qd
        try clear Qh
        try clear Qi
        try clear Qj
        try clear Qn
        try clear Qo
        try clear Qp
        try clear Qt
        try clear Qu
        try clear Qv
        try clear Qz
        try clear QA
        try clear QB
        try clear z9
        try clear ja
        try clear jb
        try clear jf
        try clear jg
        try clear jh
        try clear jl
        try clear jm
        try clear jn
        try clear jr
        try clear js
        try clear jt
        try clear jx
        try clear jy
        try clear jz
        try clear jD
        try clear jE
        try clear jF
        try clear jJ
        try clear jK
        try clear jL
        try clear jP
        try clear jQ
        try clear jR
        try clear jV
        try clear jW
        try clear jX
        try clear j2
        try clear j3
        try clear j4
        try clear j8
        try clear j9
        try clear Qa
        try clear Qe
        try clear Qf
        try clear Qg
        try clear Qk
        try clear Ql
        try clear Qm
        try clear Qq
        try clear Qr
        try clear Qs
        try clear Qw
        try clear Qx
        try clear Qy
        try clear QC
        try clear QD
        try clear QE
        try clear p2
        obtain ⟨qo, rfl, HA, HK2, qh, qc, qe, qf, qg, qa, qi, ql, qr, HB⟩ := hrel
        cases gk with
        | zero => exact absurd HA.out (by simp [laws_FnMixed.l0])
        | succ k2 =>
         have H := HA.out
         clear HA
         simp only [laws_FnMixed.l0] at H
         by_cases c75 : qo < (qn.length : Int)
         ·
          rw [if_pos c75] at H
          have Q7 : decide (qo < (qn.length : Int)) = true := decide_eq_true c75
          clear c75
          by_cases c76 : 0 ≤ qo
          ·
           rw [if_pos c76] at H
           have XB : decide (0 ≤ qo) = true := decide_eq_true c76
           clear c76
           replace H := Option.bind_eq_some_iff.mp H
           obtain ⟨⟨qQ, qU, qV, QZ⟩, A770, H⟩ := H
           replace H : ((impl_HoldsAt.f k2 qQ qU qV qn).bind fun z2 => (if QZ = true then (if z2.2 = true then (if q7 = true then (if (z2.1 != qX) = true then (some false) else (laws_FnMixed.l0 k2 qn qX q7 (wrap64 (qo + 1)) qm qt qu)) else (laws_FnMixed.l0 k2 qn qX q7 (wrap64 (qo + 1)) qm qt qu)) else (laws_FnMixed.l0 k2 qn qX q7 (wrap64 (qo + 1)) qm qt qu)) else (laws_FnMixed.l0 k2 qn qX q7 (wrap64 (qo + 1)) qm qt qu))) = some r := H
           have A77 := Aside0.mk A770
           clear A770
           replace H := Option.bind_eq_some_iff.mp H
           obtain ⟨⟨zP, QN⟩, A780, H⟩ := H
           replace H : (if QZ = true then (if QN = true then (if q7 = true then (if (zP != qX) = true then (some false) else (laws_FnMixed.l0 k2 qn qX q7 (wrap64 (qo + 1)) qm qt qu)) else (laws_FnMixed.l0 k2 qn qX q7 (wrap64 (qo + 1)) qm qt qu)) else (laws_FnMixed.l0 k2 qn qX q7 (wrap64 (qo + 1)) qm qt qu)) else (laws_FnMixed.l0 k2 qn qX q7 (wrap64 (qo + 1)) qm qt qu)) = some r := H
           have A78 := Aside0.mk A780
           clear A780
           by_cases c79 : QZ = true
           ·
            subst c79
            have H1 : (if QN = true then (if q7 = true then (if (zP != qX) = true then (some false) else (laws_FnMixed.l0 k2 qn qX q7 (wrap64 (qo + 1)) qm qt qu)) else (laws_FnMixed.l0 k2 qn qX q7 (wrap64 (qo + 1)) qm qt qu)) else (laws_FnMixed.l0 k2 qn qX q7 (wrap64 (qo + 1)) qm qt qu)) = some r := by rw [if_pos rfl] at H; exact H
            clear H
            have H := H1
            clear H1
            by_cases c80 : QN = true
            ·
             subst c80
             have H1 : (if q7 = true then (if (zP != qX) = true then (some false) else (laws_FnMixed.l0 k2 qn qX q7 (wrap64 (qo + 1)) qm qt qu)) else (laws_FnMixed.l0 k2 qn qX q7 (wrap64 (qo + 1)) qm qt qu)) = some r := by rw [if_pos rfl] at H; exact H
             clear H
             have H := H1
             clear H1
             by_cases c81 : q7 = true
             ·
              subst c81
              have H1 : (if (zP != qX) = true then (some false) else (laws_FnMixed.l0 k2 qn qX true (wrap64 (qo + 1)) qm qt qu)) = some r := by rw [if_pos rfl] at H; exact H
              clear H
              have H := H1
              clear H1
              by_cases c82 : (zP != qX) = true
              ·
               rw [if_pos c82] at H
               have Q8 : (zP != qX) = true := c82
               (try (have Q9 : decide (zP = qX) = false := by simpa using c82))
               (try (have Za : (zP == qX) = false := by simpa using c82))
               (try (have XC : ¬ (zP = qX) := by simpa using c82))
               clear c82
               obtain rfl := Option.some.inj H
               try go_wp2
               replace qh := Aside0.mk (Kd.R_drew qh.out); replace qc := Aside0.mk (Kd.R_drew qc.out); replace qe := Aside0.mk (Kd.R_drew qe.out); replace qf := Aside0.mk (Kd.R_drew qf.out); replace qg := Aside0.mk (Kd.R_drew qg.out); replace qa := Aside0.mk (blk_drew qa.out); replace qi := Aside0.mk (blk_drew qi.out); replace ql := Aside0.mk (blk_drew ql.out); replace qr := Aside0.mk (blk_drew qr.out); replace HB := Aside0.mk (below_drew1 HB.out)
               have p481 : 0 ≤ (qo : Int) := of_decide_eq_true (by first | (with_reducible assumption) | assumption)
               have q481 : qo < (qn.length : Int) := of_decide_eq_true (by first | (with_reducible assumption) | assumption)
               obtain ⟨qN, e481, za, zb⟩ := at_T37 (Kd.R_reads' qh.out).2.2 qo p481 q481
               cases e481
               replace p481 := eq_true p481
               replace q481 := eq_true q481
               refine start_ (n := 13) (S := fun w' => w'.cell? ⟨qj, 0, none⟩ = some (.slice qH qm.length qG) ∧ w'.cell? ⟨qj, 1, none⟩ = some (.int .i64 qt) ∧ w'.cell? ⟨qj, 2, none⟩ = some (.bool qu) ∧ w'.cell? (qN.add ((qo).toNat * 2)) = some (.int .i64 ((rd_T37 qn qo).f0)) ∧ w'.cell? ⟨(qN.add ((qo).toNat * 2)).block, (qN.add ((qo).toNat * 2)).off + 1, none⟩ = some (.int .i64 ((rd_T37 qn qo).f1))) (ds := []) #[false, false, false, false, false, false, false, false, false, false, false, false, false] (by kernel_rfl) rfl rfl ⟨bc_ qa 0, bc_ qa 1, bc_ qa 2, za, zb⟩ (fun hHeld => ?_); refine with_tabW laws_FnMixed.tab19 laws_FnMixed.bits19 (fun HT_ HW_ => ?_)
               generalize wr.drew = Yd at qh qc qe qf qg qa qi ql qr HB za zb hHeld ⊢
               refine pure_ (i := 1) (N := some 105) (v := ?_) (a' := ?_) #[false, true, false, false, false, false, false, false, false, false, false, false, false] rfl rfl (any_of HT_.out (by kernel_rfl)) (fun _ _ _ h => h) (Or.inl ⟨by rfl, ?_⟩) ?_ ?_
               rotate_left
               ·
                intro w'
                go_simp
                with_reducible rfl
               rotate_left
               ·
                simp only [Act.put, List.setIfInBounds_toArray, List.set_cons_zero, List.set_cons_succ, i64_w, i32_w]
                rfl
               refine pure_ (i := 2) (N := some 106) (v := ?_) (a' := ?_) #[false, true, true, false, false, false, false, false, false, false, false, false, false] rfl rfl (any_of HT_.out (by kernel_rfl)) (fun _ _ _ h => h) (Or.inl ⟨by rfl, ?_⟩) ?_ ?_
               rotate_left
               ·
                intro w'
                go_simp
                with_reducible rfl
               rotate_left
               ·
                simp only [Act.put, List.setIfInBounds_toArray, List.set_cons_zero, List.set_cons_succ, i64_w, i32_w]
                rfl
               refine pure_ (i := 3) (N := some 107) (v := ?_) (a' := ?_) #[false, true, true, true, false, false, false, false, false, false, false, false, false] rfl rfl (any_of HT_.out (by kernel_rfl)) (fun _ _ _ h => h) (Or.inl ⟨by rfl, ?_⟩) ?_ ?_
               rotate_left
               ·
                intro w'
                go_simp
                with_reducible rfl
               rotate_left
               ·
                simp only [Act.put, List.setIfInBounds_toArray, List.set_cons_zero, List.set_cons_succ, i64_w, i32_w]
                rfl
               refine pure_ (i := 4) (N := some 108) (v := ?_) (a' := ?_) #[false, true, true, true, true, false, false, false, false, false, false, false, false] rfl rfl (any_of HT_.out (by kernel_rfl)) (fun _ _ _ h => h) (Or.inl ⟨by rfl, ?_⟩) ?_ ?_
               rotate_left
               ·
                intro w'
                go_simp
                with_reducible rfl
               rotate_left
               ·
                simp only [Act.put, List.setIfInBounds_toArray, List.set_cons_zero, List.set_cons_succ, i64_w, i32_w]
                rfl
               refine take_ (i := 0) (N := some 104) (v := ?_) (a' := ?_) #[true, true, true, true, true, false, false, false, false, false, false, false, false] rfl rfl (take_ofW HT_.out HW_.out (by kernel_rfl)) (fun _ _ _ h => h) (Or.inl ⟨by rfl, ?_⟩) hHeld ?_ ?_
               rotate_left
               ·
                rintro w' ⟨s0, s1, s2, s3, s4⟩
                go_simp
                with_reducible rfl
               rotate_left
               ·
                simp only [Act.put, List.setIfInBounds_toArray, List.set_cons_zero, List.set_cons_succ, i64_w, i32_w]
                rfl
               refine take_ (i := 5) (N := some 109) (v := ?_) (a' := ?_) #[true, true, true, true, true, true, false, false, false, false, false, false, false] rfl rfl (take_ofW HT_.out HW_.out (by kernel_rfl)) (fun _ _ _ h => h) (Or.inl ⟨by rfl, ?_⟩) hHeld ?_ ?_
               rotate_left
               ·
                rintro w' ⟨s0, s1, s2, s3, s4⟩
                go_simp
                with_reducible rfl
               rotate_left
               ·
                simp only [Act.put, List.setIfInBounds_toArray, List.set_cons_zero, List.set_cons_succ, i64_w, i32_w]
                rfl
               refine join_ (σ := Value × Nat) 2 #[true, true, true, true, true, true, true, true, true, true, true, false, false] (fun s_ => [(110, .tuple #[.agg #[s_.1, .int .i64 qU, .bool qV], .bool true]), (19, .pointer (some ⟨s_.2, 0, none⟩)), (103, .tuple #[.agg #[s_.1, .int .i64 qU, .bool qV], .bool true]), (111, .agg #[s_.1, .int .i64 qU, .bool qV]), (112, .bool true)]) (fun s_ w' => (w'.cell? ⟨qj, 0, none⟩ = some (.slice qH qm.length qG) ∧ w'.cell? ⟨qj, 1, none⟩ = some (.int .i64 qt) ∧ w'.cell? ⟨qj, 2, none⟩ = some (.bool qu) ∧ w'.cell? (qN.add ((qo).toNat * 2)) = some (.int .i64 ((rd_T37 qn qo).f0)) ∧ w'.cell? ⟨(qN.add ((qo).toNat * 2)).block, (qN.add ((qo).toNat * 2)).off + 1, none⟩ = some (.int .i64 ((rd_T37 qn qo).f1))) ∧ (Kd.R (Kd.int .i64) 3 w' w.heap.size (fun k_ => some k_ ≠ (.slice qH qm.length qG : Value).ownBlock ∧ some k_ ≠ (.slice qM qv.length qL : Value).ownBlock ∧ some k_ ≠ (.slice qO qE.length qP : Value).ownBlock ∧ some k_ ≠ (.slice qS qK.length qT : Value).ownBlock) s_.1 qQ) ∧ (Kd.R k37 37 w' w.heap.size (fun _ => True) (.slice (some qN) qn.length zj) qn) ∧ (Kd.R (Kd.int .i64) 3 w' w.heap.size (fun k_ => some k_ ≠ (s_.1 : Value).ownBlock ∧ some k_ ≠ (.slice qM qv.length qL : Value).ownBlock ∧ some k_ ≠ (.slice qO qE.length qP : Value).ownBlock ∧ some k_ ≠ (.slice qS qK.length qT : Value).ownBlock) (.slice qH qm.length qG) qm) ∧ (Kd.R (Kd.int .i64) 3 w' w.heap.size (fun k_ => some k_ ≠ (s_.1 : Value).ownBlock ∧ some k_ ≠ (.slice qH qm.length qG : Value).ownBlock ∧ some k_ ≠ (.slice qO qE.length qP : Value).ownBlock ∧ some k_ ≠ (.slice qS qK.length qT : Value).ownBlock) (.slice qM qv.length qL) qv) ∧ (Kd.R (Kd.int .i64) 3 w' w.heap.size (fun k_ => some k_ ≠ (s_.1 : Value).ownBlock ∧ some k_ ≠ (.slice qH qm.length qG : Value).ownBlock ∧ some k_ ≠ (.slice qM qv.length qL : Value).ownBlock ∧ some k_ ≠ (.slice qS qK.length qT : Value).ownBlock) (.slice qO qE.length qP) qE) ∧ (Kd.R (Kd.int .i64) 3 w' w.heap.size (fun k_ => some k_ ≠ (s_.1 : Value).ownBlock ∧ some k_ ≠ (.slice qH qm.length qG : Value).ownBlock ∧ some k_ ≠ (.slice qM qv.length qL : Value).ownBlock ∧ some k_ ≠ (.slice qO qE.length qP : Value).ownBlock) (.slice qS qK.length qT) qK) ∧ (w'.heap[qj]? = some (.cells #[.slice qH qm.length qG, .int .i64 qt, .bool qu] 26 (0, 0))) ∧ (w'.heap[qq]? = some (.cells #[.slice qM qv.length qL, .int .i64 qW, .bool qY] 26 (0, 0))) ∧ (w'.heap[qD]? = some (.cells #[.slice qO qE.length qP, .int .i64 q0, .bool q1] 26 (0, 0))) ∧ (w'.heap[qF]? = some (.cells #[.slice qS qK.length qT, .int .i64 zf, .bool zi] 26 (0, 0))) ∧ (w'.heap[s_.2]? = some (.cells #[.slice none 0 0, .int .i64 0, .bool false] 26 (0, 0))) ∧ (w.heap.size ≤ s_.2) ∧ (w.heap.size ≤ s_.2) ∧ (qj ≠ s_.2) ∧ (s_.2 ≠ qj) ∧ (qq ≠ s_.2) ∧ (s_.2 ≠ qq) ∧ (qD ≠ s_.2) ∧ (s_.2 ≠ qD) ∧ (qF ≠ s_.2) ∧ (s_.2 ≠ qF) ∧ (Below w.heap.size w w')) ?_ ?_
               rotate_left
               ·
                intro hCont
                refine two_ (i := 6) (j := 10) (Ni := some 110) (Nj := some 19) #[true, true, true, true, true, true, true, false, false, false, false, false, false] #[true, true, true, true, true, true, false, false, false, false, true, false, false] rfl rfl rfl rfl (two_of HT_.out (by kernel_rfl)) (by decide) (by decide) (fun K hK => ?_) (fun K hK => ?_)
                ·
                 skip
                 refine goes_ Try.func13 (by kernel_rfl) rfl #[.agg #[.slice qH qm.length qG, .int .i64 qt, .bool qu], .int .i64 qo, .agg #[.int .i64 ((rd_T37 qn qo).f0), .int .i64 ((rd_T37 qn qo).f1)]] (by rfl) rfl rfl (by (try simp only [List.map_toArray, List.map_cons, List.map_nil]); first | done | rfl | (simp only [List.length_drop, List.length_take]; rfl)) ?_
                 with_reducible refine (impl_FixVariable.calls k2 _ _ qm qt qu qo ((rd_T37 qn qo).f0) ((rd_T37 qn qo).f1) qQ qU qV true _ ?side1 ?side2 A77.out).mono ?_
                 (case side1 => exact cr_ qc)
                 (case side2 => exact (Kd.R_reads' qc.out).2.1)
                 rintro e XR ⟨q5, rfl, ho0, hb⟩
                 have HS3_ := (hb.cell (World.block_lt_of_cell? _ _ (hHeld.2.2.2.1))).trans (hHeld.2.2.2.1)
                 have HS4_ := (hb.cell (World.block_lt_of_cell? _ _ (hHeld.2.2.2.2))).trans (hHeld.2.2.2.2)
                 refine ⟨_, rfl, ?_⟩
                 replace qh := rB_ qh hb; have qR := Aside0.mk (Kd.R_lower (Kd.R_new' (Kd.R_new' (Kd.R_new' (Kd.R_new' ho0 (Kd.R_lt (rm_ qc))) (Kd.R_lt (rm_ qe))) (Kd.R_lt (rm_ qf))) (Kd.R_lt (rm_ qg))) (bz_ HB)); replace qc := Aside0.mk (Kd.R_elder' (rm_ qc) (Kd.R_base ho0) hb); replace qe := Aside0.mk (Kd.R_elder' (rm_ qe) (Kd.R_base ho0) hb); replace qf := Aside0.mk (Kd.R_elder' (rm_ qf) (Kd.R_base ho0) hb); replace qg := Aside0.mk (Kd.R_elder' (rm_ qg) (Kd.R_base ho0) hb); replace qa := kB_ qa hb; replace qi := kB_ qi hb; replace ql := kB_ ql hb; replace qr := kB_ qr hb; replace HB := bS_ HB hb; (try clear hb); (try clear hb2); (try clear hk); (try clear hi); (try clear ho0)
                 refine hK.out _ _ ⟨bc_ qa 0, bc_ qa 1, bc_ qa 2, HS3_, HS4_⟩ (fun hHeld => ?_)
                 clear hK K
                 refine norm_ (a' := ?_) ?_ ?_
                 rotate_left
                 ·
                  show Act.put _ (some 110) _ = _
                  simp only [Act.put, List.setIfInBounds_toArray, List.set_cons_zero, List.set_cons_succ, i64_w, i32_w]
                  rfl
                 refine pure_ (i := 7) (N := some 103) (v := ?_) (a' := ?_) #[true, true, true, true, true, true, true, true, false, false, false, false, false] rfl rfl (any_of HT_.out (by kernel_rfl)) (fun _ _ _ h => h) (Or.inl ⟨by rfl, ?_⟩) ?_ ?_
                 rotate_left
                 ·
                  intro w'
                  go_simp
                  with_reducible rfl
                 rotate_left
                 ·
                  simp only [Act.put, List.setIfInBounds_toArray, List.set_cons_zero, List.set_cons_succ, i64_w, i32_w]
                  rfl
                 refine pure_ (i := 8) (N := some 111) (v := ?_) (a' := ?_) #[true, true, true, true, true, true, true, true, true, false, false, false, false] rfl rfl (any_of HT_.out (by kernel_rfl)) (fun _ _ _ h => h) (Or.inl ⟨by rfl, ?_⟩) ?_ ?_
                 rotate_left
                 ·
                  intro w'
                  go_simp
                  with_reducible rfl
                 rotate_left
                 ·
                  simp only [Act.put, List.setIfInBounds_toArray, List.set_cons_zero, List.set_cons_succ, i64_w, i32_w]
                  rfl
                 refine pure_ (i := 9) (N := some 112) (v := ?_) (a' := ?_) #[true, true, true, true, true, true, true, true, true, true, false, false, false] rfl rfl (any_of HT_.out (by kernel_rfl)) (fun _ _ _ h => h) (Or.inl ⟨by rfl, ?_⟩) ?_ ?_
                 rotate_left
                 ·
                  intro w'
                  go_simp
                  with_reducible rfl
                 rotate_left
                 ·
                  simp only [Act.put, List.setIfInBounds_toArray, List.set_cons_zero, List.set_cons_succ, i64_w, i32_w]
                  rfl
                 refine one_ (i := 10) (N := some 19) #[true, true, true, true, true, true, true, true, true, true, true, false, false] rfl rfl (one_of HT_.out (by kernel_rfl)) (by decide) (fun K hK => ?_)
                 refine box_step ?hg (N := 19) ?hd (cs := #[.slice none 0 0, .int .i64 0, .bool false]) (t := 26) ?hr ?_; (case hd => rfl); (case hg => rfl); (case hr => first | (go_simp; done) | (go_simp; rfl))
                 intro qb hg XS hbox hb
                 have HS3_ := (hb.cell (World.block_lt_of_cell? _ _ (hHeld.2.2.2.1))).trans (hHeld.2.2.2.1)
                 have HS4_ := (hb.cell (World.block_lt_of_cell? _ _ (hHeld.2.2.2.2))).trans (hHeld.2.2.2.2)
                 replace qh := rB_ qh hb; replace qc := rB_ qc hb; replace qe := rB_ qe hb; replace qf := rB_ qf hb; replace qg := rB_ qg hb; replace qR := rB_ qR hb; have qd := Aside0.mk (hbox); have zc := Aside0.mk ((by rw [hg]; exact (bz_ HB) : w.heap.size ≤ qb)); have zd := Aside0.mk ((by rw [hg]; exact (bz_ HB) : w.heap.size ≤ qb)); replace HB := bS_ HB hb; have qk := Aside0.mk ((nl_ qa hg : qj ≠ qb)); have qw := Aside0.mk ((ng_ qa hg : qb ≠ qj)); replace qa := kB_ qa hb; have qx := Aside0.mk ((nl_ qi hg : qq ≠ qb)); have qy := Aside0.mk ((ng_ qi hg : qb ≠ qq)); replace qi := kB_ qi hb; have qz := Aside0.mk ((nl_ ql hg : qD ≠ qb)); have qA := Aside0.mk ((ng_ ql hg : qb ≠ qD)); replace ql := kB_ ql hb; have qB := Aside0.mk ((nl_ qr hg : qF ≠ qb)); have qC := Aside0.mk ((ng_ qr hg : qb ≠ qF)); replace qr := kB_ qr hb; clear hb hbox hg
                 refine hK.out _ _ ⟨bc_ qa 0, bc_ qa 1, bc_ qa 2, HS3_, HS4_⟩ (fun hHeld => ?_)
                 clear hK K
                 refine norm_ (a' := ?_) ?_ ?_
                 rotate_left
                 ·
                  show Act.put _ (some 19) _ = _
                  simp only [Act.put, List.setIfInBounds_toArray, List.set_cons_zero, List.set_cons_succ, i64_w, i32_w]
                  rfl
                 exact norm_ (by simp only [putAll, Act.put, List.setIfInBounds_toArray, List.set_cons_zero, List.set_cons_succ]) (hCont (q5, qb) _ ⟨hHeld, (by (with_reducible repeat (first | apply Kd.R_alloc | apply Kd.R_drewN | apply Kd.R_drew)); exact Kd.R_mono qR.out (fun _ hk => ⟨hk.1.1.1.2, ⟨hk.1.1.2, ⟨hk.1.2, hk.2⟩⟩⟩)), (rm_ qh), (by (with_reducible repeat (first | apply Kd.R_alloc | apply Kd.R_drewN | apply Kd.R_drew)); exact Kd.R_mono qc.out (fun _ hk => ⟨hk.2, ⟨hk.1.1, ⟨hk.1.2.1, hk.1.2.2⟩⟩⟩)), (by (with_reducible repeat (first | apply Kd.R_alloc | apply Kd.R_drewN | apply Kd.R_drew)); exact Kd.R_mono qe.out (fun _ hk => ⟨hk.2, ⟨hk.1.1, ⟨hk.1.2.1, hk.1.2.2⟩⟩⟩)), (by (with_reducible repeat (first | apply Kd.R_alloc | apply Kd.R_drewN | apply Kd.R_drew)); exact Kd.R_mono qf.out (fun _ hk => ⟨hk.2, ⟨hk.1.1, ⟨hk.1.2.1, hk.1.2.2⟩⟩⟩)), (by (with_reducible repeat (first | apply Kd.R_alloc | apply Kd.R_drewN | apply Kd.R_drew)); exact Kd.R_mono qg.out (fun _ hk => ⟨hk.2, ⟨hk.1.1, ⟨hk.1.2.1, hk.1.2.2⟩⟩⟩)), (kf_ qa), (kf_ qi), (kf_ ql), (kf_ qr), (kf_ qd), zc.out, zd.out, qk.out, qw.out, qx.out, qy.out, qz.out, qA.out, qB.out, qC.out, (bb_ HB)⟩)
                ·
                 skip
                 refine box_step ?hg (N := 19) ?hd (cs := #[.slice none 0 0, .int .i64 0, .bool false]) (t := 26) ?hr ?_; (case hd => rfl); (case hg => rfl); (case hr => first | (go_simp; done) | (go_simp; rfl))
                 intro qb hg XR hbox hb
                 have HS3_ := (hb.cell (World.block_lt_of_cell? _ _ (hHeld.2.2.2.1))).trans (hHeld.2.2.2.1)
                 have HS4_ := (hb.cell (World.block_lt_of_cell? _ _ (hHeld.2.2.2.2))).trans (hHeld.2.2.2.2)
                 replace qh := rB_ qh hb; replace qc := rB_ qc hb; replace qe := rB_ qe hb; replace qf := rB_ qf hb; replace qg := rB_ qg hb; have qd := Aside0.mk (hbox); have zc := Aside0.mk ((by rw [hg]; exact (bz_ HB) : w.heap.size ≤ qb)); have zd := Aside0.mk ((by rw [hg]; exact (bz_ HB) : w.heap.size ≤ qb)); replace HB := bS_ HB hb; have qk := Aside0.mk ((nl_ qa hg : qj ≠ qb)); have qw := Aside0.mk ((ng_ qa hg : qb ≠ qj)); replace qa := kB_ qa hb; have qx := Aside0.mk ((nl_ qi hg : qq ≠ qb)); have qy := Aside0.mk ((ng_ qi hg : qb ≠ qq)); replace qi := kB_ qi hb; have qz := Aside0.mk ((nl_ ql hg : qD ≠ qb)); have qA := Aside0.mk ((ng_ ql hg : qb ≠ qD)); replace ql := kB_ ql hb; have qB := Aside0.mk ((nl_ qr hg : qF ≠ qb)); have qC := Aside0.mk ((ng_ qr hg : qb ≠ qF)); replace qr := kB_ qr hb; clear hb hbox hg
                 refine hK.out _ _ ⟨bc_ qa 0, bc_ qa 1, bc_ qa 2, HS3_, HS4_⟩ (fun hHeld => ?_)
                 clear hK K
                 refine norm_ (a' := ?_) ?_ ?_
                 rotate_left
                 ·
                  show Act.put _ (some 19) _ = _
                  simp only [Act.put, List.setIfInBounds_toArray, List.set_cons_zero, List.set_cons_succ, i64_w, i32_w]
                  rfl
                 refine one_ (i := 6) (N := some 110) #[true, true, true, true, true, true, true, false, false, false, true, false, false] rfl rfl (one_of HT_.out (by kernel_rfl)) (by decide) (fun K hK => ?_)
                 refine goes_ Try.func13 (by kernel_rfl) rfl #[.agg #[.slice qH qm.length qG, .int .i64 qt, .bool qu], .int .i64 qo, .agg #[.int .i64 ((rd_T37 qn qo).f0), .int .i64 ((rd_T37 qn qo).f1)]] (by rfl) rfl rfl (by (try simp only [List.map_toArray, List.map_cons, List.map_nil]); first | done | rfl | (simp only [List.length_drop, List.length_take]; rfl)) ?_
                 with_reducible refine (impl_FixVariable.calls k2 _ _ qm qt qu qo ((rd_T37 qn qo).f0) ((rd_T37 qn qo).f1) qQ qU qV true _ ?side1 ?side2 A77.out).mono ?_
                 (case side1 => exact cr_ qc)
                 (case side2 => exact (Kd.R_reads' qc.out).2.1)
                 rintro e XS ⟨q5, rfl, ho0, hb⟩
                 have HS3_ := (hb.cell (World.block_lt_of_cell? _ _ (hHeld.2.2.2.1))).trans (hHeld.2.2.2.1)
                 have HS4_ := (hb.cell (World.block_lt_of_cell? _ _ (hHeld.2.2.2.2))).trans (hHeld.2.2.2.2)
                 refine ⟨_, rfl, ?_⟩
                 replace qh := rB_ qh hb; have qR := Aside0.mk (Kd.R_lower (Kd.R_new' (Kd.R_new' (Kd.R_new' (Kd.R_new' ho0 (Kd.R_lt (rm_ qc))) (Kd.R_lt (rm_ qe))) (Kd.R_lt (rm_ qf))) (Kd.R_lt (rm_ qg))) (bz_ HB)); replace qc := Aside0.mk (Kd.R_elder' (rm_ qc) (Kd.R_base ho0) hb); replace qe := Aside0.mk (Kd.R_elder' (rm_ qe) (Kd.R_base ho0) hb); replace qf := Aside0.mk (Kd.R_elder' (rm_ qf) (Kd.R_base ho0) hb); replace qg := Aside0.mk (Kd.R_elder' (rm_ qg) (Kd.R_base ho0) hb); replace qa := kB_ qa hb; replace qi := kB_ qi hb; replace ql := kB_ ql hb; replace qr := kB_ qr hb; replace qd := kB_ qd hb; replace HB := bS_ HB hb; (try clear hb); (try clear hb2); (try clear hk); (try clear hi); (try clear ho0)
                 refine hK.out _ _ ⟨bc_ qa 0, bc_ qa 1, bc_ qa 2, HS3_, HS4_⟩ (fun hHeld => ?_)
                 clear hK K
                 refine norm_ (a' := ?_) ?_ ?_
                 rotate_left
                 ·
                  show Act.put _ (some 110) _ = _
                  simp only [Act.put, List.setIfInBounds_toArray, List.set_cons_zero, List.set_cons_succ, i64_w, i32_w]
                  rfl
                 refine pure_ (i := 7) (N := some 103) (v := ?_) (a' := ?_) #[true, true, true, true, true, true, true, true, false, false, true, false, false] rfl rfl (any_of HT_.out (by kernel_rfl)) (fun _ _ _ h => h) (Or.inl ⟨by rfl, ?_⟩) ?_ ?_
                 rotate_left
                 ·
                  intro w'
                  go_simp
                  with_reducible rfl
                 rotate_left
                 ·
                  simp only [Act.put, List.setIfInBounds_toArray, List.set_cons_zero, List.set_cons_succ, i64_w, i32_w]
                  rfl
                 refine pure_ (i := 8) (N := some 111) (v := ?_) (a' := ?_) #[true, true, true, true, true, true, true, true, true, false, true, false, false] rfl rfl (any_of HT_.out (by kernel_rfl)) (fun _ _ _ h => h) (Or.inl ⟨by rfl, ?_⟩) ?_ ?_
                 rotate_left
                 ·
                  intro w'
                  go_simp
                  with_reducible rfl
                 rotate_left
                 ·
                  simp only [Act.put, List.setIfInBounds_toArray, List.set_cons_zero, List.set_cons_succ, i64_w, i32_w]
                  rfl
                 refine pure_ (i := 9) (N := some 112) (v := ?_) (a' := ?_) #[true, true, true, true, true, true, true, true, true, true, true, false, false] rfl rfl (any_of HT_.out (by kernel_rfl)) (fun _ _ _ h => h) (Or.inl ⟨by rfl, ?_⟩) ?_ ?_
                 rotate_left
                 ·
                  intro w'
                  go_simp
                  with_reducible rfl
                 rotate_left
                 ·
                  simp only [Act.put, List.setIfInBounds_toArray, List.set_cons_zero, List.set_cons_succ, i64_w, i32_w]
                  rfl
                 exact norm_ (by simp only [putAll, Act.put, List.setIfInBounds_toArray, List.set_cons_zero, List.set_cons_succ]) (hCont (q5, qb) _ ⟨hHeld, (by (with_reducible repeat (first | apply Kd.R_alloc | apply Kd.R_drewN | apply Kd.R_drew)); exact Kd.R_mono qR.out (fun _ hk => ⟨hk.1.1.1.2, ⟨hk.1.1.2, ⟨hk.1.2, hk.2⟩⟩⟩)), (rm_ qh), (by (with_reducible repeat (first | apply Kd.R_alloc | apply Kd.R_drewN | apply Kd.R_drew)); exact Kd.R_mono qc.out (fun _ hk => ⟨hk.2, ⟨hk.1.1, ⟨hk.1.2.1, hk.1.2.2⟩⟩⟩)), (by (with_reducible repeat (first | apply Kd.R_alloc | apply Kd.R_drewN | apply Kd.R_drew)); exact Kd.R_mono qe.out (fun _ hk => ⟨hk.2, ⟨hk.1.1, ⟨hk.1.2.1, hk.1.2.2⟩⟩⟩)), (by (with_reducible repeat (first | apply Kd.R_alloc | apply Kd.R_drewN | apply Kd.R_drew)); exact Kd.R_mono qf.out (fun _ hk => ⟨hk.2, ⟨hk.1.1, ⟨hk.1.2.1, hk.1.2.2⟩⟩⟩)), (by (with_reducible repeat (first | apply Kd.R_alloc | apply Kd.R_drewN | apply Kd.R_drew)); exact Kd.R_mono qg.out (fun _ hk => ⟨hk.2, ⟨hk.1.1, ⟨hk.1.2.1, hk.1.2.2⟩⟩⟩)), (kf_ qa), (kf_ qi), (kf_ ql), (kf_ qr), (kf_ qd), zc.out, zd.out, qk.out, qw.out, qx.out, qy.out, qz.out, qA.out, qB.out, qC.out, (bb_ HB)⟩)
               rintro ⟨q5, qb⟩ zY ⟨hS_, h0_, h1_, h2_, h3_, h4_, h5_, h6_, h7_, h8_, h9_, h10_, h11_, h12_, h13_, h14_, h15_, h16_, h17_, h18_, h19_, h20_, h21_⟩
               have n0_ : Aside0 (Kd.R (Kd.int .i64) 3 zY w.heap.size (fun k_ => some k_ ≠ (.slice qH qm.length qG : Value).ownBlock ∧ some k_ ≠ (.slice qM qv.length qL : Value).ownBlock ∧ some k_ ≠ (.slice qO qE.length qP : Value).ownBlock ∧ some k_ ≠ (.slice qS qK.length qT : Value).ownBlock) q5 qQ) := ⟨h0_⟩
               have n1_ : Aside0 (Kd.R k37 37 zY w.heap.size (fun _ => True) (.slice (some qN) qn.length zj) qn) := ⟨h1_⟩
               have n2_ : Aside0 (Kd.R (Kd.int .i64) 3 zY w.heap.size (fun k_ => some k_ ≠ (q5 : Value).ownBlock ∧ some k_ ≠ (.slice qM qv.length qL : Value).ownBlock ∧ some k_ ≠ (.slice qO qE.length qP : Value).ownBlock ∧ some k_ ≠ (.slice qS qK.length qT : Value).ownBlock) (.slice qH qm.length qG) qm) := ⟨h2_⟩
               have n3_ : Aside0 (Kd.R (Kd.int .i64) 3 zY w.heap.size (fun k_ => some k_ ≠ (q5 : Value).ownBlock ∧ some k_ ≠ (.slice qH qm.length qG : Value).ownBlock ∧ some k_ ≠ (.slice qO qE.length qP : Value).ownBlock ∧ some k_ ≠ (.slice qS qK.length qT : Value).ownBlock) (.slice qM qv.length qL) qv) := ⟨h3_⟩
               have n4_ : Aside0 (Kd.R (Kd.int .i64) 3 zY w.heap.size (fun k_ => some k_ ≠ (q5 : Value).ownBlock ∧ some k_ ≠ (.slice qH qm.length qG : Value).ownBlock ∧ some k_ ≠ (.slice qM qv.length qL : Value).ownBlock ∧ some k_ ≠ (.slice qS qK.length qT : Value).ownBlock) (.slice qO qE.length qP) qE) := ⟨h4_⟩
               have n5_ : Aside0 (Kd.R (Kd.int .i64) 3 zY w.heap.size (fun k_ => some k_ ≠ (q5 : Value).ownBlock ∧ some k_ ≠ (.slice qH qm.length qG : Value).ownBlock ∧ some k_ ≠ (.slice qM qv.length qL : Value).ownBlock ∧ some k_ ≠ (.slice qO qE.length qP : Value).ownBlock) (.slice qS qK.length qT) qK) := ⟨h5_⟩
               have n6_ : Aside0 (zY.heap[qj]? = some (.cells #[.slice qH qm.length qG, .int .i64 qt, .bool qu] 26 (0, 0))) := ⟨h6_⟩
               have n7_ : Aside0 (zY.heap[qq]? = some (.cells #[.slice qM qv.length qL, .int .i64 qW, .bool qY] 26 (0, 0))) := ⟨h7_⟩
               have n8_ : Aside0 (zY.heap[qD]? = some (.cells #[.slice qO qE.length qP, .int .i64 q0, .bool q1] 26 (0, 0))) := ⟨h8_⟩
               have n9_ : Aside0 (zY.heap[qF]? = some (.cells #[.slice qS qK.length qT, .int .i64 zf, .bool zi] 26 (0, 0))) := ⟨h9_⟩
               have n10_ : Aside0 (zY.heap[qb]? = some (.cells #[.slice none 0 0, .int .i64 0, .bool false] 26 (0, 0))) := ⟨h10_⟩
               have n11_ : Aside0 (w.heap.size ≤ qb) := ⟨h11_⟩
               have n12_ : Aside0 (w.heap.size ≤ qb) := ⟨h12_⟩
               have n13_ : Aside0 (qj ≠ qb) := ⟨h13_⟩
               have n14_ : Aside0 (qb ≠ qj) := ⟨h14_⟩
               have n15_ : Aside0 (qq ≠ qb) := ⟨h15_⟩
               have n16_ : Aside0 (qb ≠ qq) := ⟨h16_⟩
               have n17_ : Aside0 (qD ≠ qb) := ⟨h17_⟩
               have n18_ : Aside0 (qb ≠ qD) := ⟨h18_⟩
               have n19_ : Aside0 (qF ≠ qb) := ⟨h19_⟩
               have n20_ : Aside0 (qb ≠ qF) := ⟨h20_⟩
               have n21_ : Aside0 (Below w.heap.size w zY) := ⟨h21_⟩
               clear qh
               clear qc
               clear qe
               clear qf
               clear qg
               clear qa
               clear qi
               clear ql
               clear qr
               clear HB
               clear h0_ h1_ h2_ h3_ h4_ h5_ h6_ h7_ h8_ h9_ h10_ h11_ h12_ h13_ h14_ h15_ h16_ h17_ h18_ h19_ h20_ h21_
               have qR := n0_
               have qh := n1_
               have qc := n2_
               have qe := n3_
               have qf := n4_
               have qg := n5_
               have qa := n6_
               have qi := n7_
               have ql := n8_
               have qr := n9_
               have qd := n10_
               have zc := n11_
               have zd := n12_
               have qk := n13_
               have qw := n14_
               have qx := n15_
               have qy := n16_
               have qz := n17_
               have qA := n18_
               have qB := n19_
               have qC := n20_
               have HB := n21_
               clear n0_ n1_ n2_ n3_ n4_ n5_ n6_ n7_ n8_ n9_ n10_ n11_ n12_ n13_ n14_ n15_ n16_ n17_ n18_ n19_ n20_ n21_
               have hHeld : zY.cell? ⟨qj, 0, none⟩ = some (.slice qH qm.length qG) ∧ zY.cell? ⟨qj, 1, none⟩ = some (.int .i64 qt) ∧ zY.cell? ⟨qj, 2, none⟩ = some (.bool qu) ∧ zY.cell? (qN.add ((qo).toNat * 2)) = some (.int .i64 ((rd_T37 qn qo).f0)) ∧ zY.cell? ⟨(qN.add ((qo).toNat * 2)).block, (qN.add ((qo).toNat * 2)).off + 1, none⟩ = some (.int .i64 ((rd_T37 qn qo).f1)) := hS_
               obtain ⟨zX, zV, eo87⟩ := Kd.R_slice qR.out
               (first | subst eo87 | (injection eo87 with f1_ f2_ f3_; have f4_ := f1_.symm; have f5_ := f3_.symm; clear f1_ f2_ f3_; subst f4_; subst f5_))
               refine norm_ (a' := ?_) ?_ ?_
               rotate_left
               ·
                simp only [putAll, Act.put, List.setIfInBounds_toArray, List.set_cons_zero, List.set_cons_succ]
                rfl
               refine one_ (i := 11) (N := none) #[true, true, true, true, true, true, true, true, true, true, true, true, false] rfl rfl (one_of HT_.out (by kernel_rfl)) (by decide) (fun K hK => ?_)
               have hs88 : zY.cell? ⟨qb, 0, none⟩ = some (.slice none 0 0) := bc_ qd 0
               have hfs88 := blk_frozen qd.out 0
               have hns88_0 := qk.out
               have hns88_1 := qx.out
               have hns88_2 := qz.out
               have hns88_3 := qB.out
               have hms88_0 := qw.out
               have hms88_1 := qy.out
               have hms88_2 := qA.out
               have hms88_3 := qC.out
               have hs89 : zY.cell? ⟨qb, 1, none⟩ = some (.int .i64 0) := bc_ qd 1
               have hfs89 := blk_frozen qd.out 1
               have hns89_0 := qk.out
               have hns89_1 := qx.out
               have hns89_2 := qz.out
               have hns89_3 := qB.out
               have hms89_0 := qw.out
               have hms89_1 := qy.out
               have hms89_2 := qA.out
               have hms89_3 := qC.out
               have hs90 : zY.cell? ⟨qb, 2, none⟩ = some (.bool false) := bc_ qd 2
               have hfs90 := blk_frozen qd.out 2
               have hns90_0 := qk.out
               have hns90_1 := qx.out
               have hns90_2 := qz.out
               have hns90_3 := qB.out
               have hms90_0 := qw.out
               have hms90_1 := qy.out
               have hms90_2 := qA.out
               have hms90_3 := qC.out
               refine skip_ (w1 := ?_) (by rfl) rfl ?_ ?_
               rotate_left
               ·
                go_simp
                rfl
               refine hK.out _ _ ⟨((cell_far (p := ⟨qb, _, none⟩) qk.out _).trans (((cell_far (p := ⟨qb, _, none⟩) qk.out _).trans (((cell_far (p := ⟨qb, _, none⟩) qk.out _).trans (hHeld.1)))))), ((cell_far (p := ⟨qb, _, none⟩) qk.out _).trans (((cell_far (p := ⟨qb, _, none⟩) qk.out _).trans (((cell_far (p := ⟨qb, _, none⟩) qk.out _).trans (hHeld.2.1)))))), ((cell_far (p := ⟨qb, _, none⟩) qk.out _).trans (((cell_far (p := ⟨qb, _, none⟩) qk.out _).trans (((cell_far (p := ⟨qb, _, none⟩) qk.out _).trans (hHeld.2.2.1)))))), ((cell_far (p := ⟨qb, _, none⟩) (by first | exact Kd.own_blk (Kd.R_ne qh.out qd.out (by decide)) | (rw [add_block]; exact Kd.own_blk (Kd.R_ne qh.out qd.out (by decide))) | (show (Addr.add _ _).block ≠ _; rw [add_block]; exact Kd.own_blk (Kd.R_ne qh.out qd.out (by decide))) | (dsimp only; exact Kd.own_blk (Kd.R_ne qh.out qd.out (by decide)))) _).trans (((cell_far (p := ⟨qb, _, none⟩) (by first | exact Kd.own_blk (Kd.R_ne qh.out qd.out (by decide)) | (rw [add_block]; exact Kd.own_blk (Kd.R_ne qh.out qd.out (by decide))) | (show (Addr.add _ _).block ≠ _; rw [add_block]; exact Kd.own_blk (Kd.R_ne qh.out qd.out (by decide))) | (dsimp only; exact Kd.own_blk (Kd.R_ne qh.out qd.out (by decide)))) _).trans (((cell_far (p := ⟨qb, _, none⟩) (by first | exact Kd.own_blk (Kd.R_ne qh.out qd.out (by decide)) | (rw [add_block]; exact Kd.own_blk (Kd.R_ne qh.out qd.out (by decide))) | (show (Addr.add _ _).block ≠ _; rw [add_block]; exact Kd.own_blk (Kd.R_ne qh.out qd.out (by decide))) | (dsimp only; exact Kd.own_blk (Kd.R_ne qh.out qd.out (by decide)))) _).trans (hHeld.2.2.2.1)))))), ((cell_far (p := ⟨qb, _, none⟩) (by first | exact Kd.own_blk (Kd.R_ne qh.out qd.out (by decide)) | (rw [add_block]; exact Kd.own_blk (Kd.R_ne qh.out qd.out (by decide))) | (show (Addr.add _ _).block ≠ _; rw [add_block]; exact Kd.own_blk (Kd.R_ne qh.out qd.out (by decide))) | (dsimp only; exact Kd.own_blk (Kd.R_ne qh.out qd.out (by decide)))) _).trans (((cell_far (p := ⟨qb, _, none⟩) (by first | exact Kd.own_blk (Kd.R_ne qh.out qd.out (by decide)) | (rw [add_block]; exact Kd.own_blk (Kd.R_ne qh.out qd.out (by decide))) | (show (Addr.add _ _).block ≠ _; rw [add_block]; exact Kd.own_blk (Kd.R_ne qh.out qd.out (by decide))) | (dsimp only; exact Kd.own_blk (Kd.R_ne qh.out qd.out (by decide)))) _).trans (((cell_far (p := ⟨qb, _, none⟩) (by first | exact Kd.own_blk (Kd.R_ne qh.out qd.out (by decide)) | (rw [add_block]; exact Kd.own_blk (Kd.R_ne qh.out qd.out (by decide))) | (show (Addr.add _ _).block ≠ _; rw [add_block]; exact Kd.own_blk (Kd.R_ne qh.out qd.out (by decide))) | (dsimp only; exact Kd.own_blk (Kd.R_ne qh.out qd.out (by decide)))) _).trans (hHeld.2.2.2.2))))))⟩ (fun hHeld => ?_)
               clear hK K
               refine pure_ (i := 12) (N := some 20) (v := ?_) (a' := ?_) #[true, true, true, true, true, true, true, true, true, true, true, true, true] rfl rfl (any_of HT_.out (by kernel_rfl)) (fun _ _ _ h => h) (Or.inl ⟨by rfl, ?_⟩) ?_ ?_
               rotate_left
               ·
                intro w'
                go_simp
                with_reducible rfl
               rotate_left
               ·
                simp only [Act.put, List.setIfInBounds_toArray, List.set_cons_zero, List.set_cons_succ, i64_w, i32_w]
                rfl
               refine done_ (done_of HT_.out (by kernel_rfl)) ?_
               have XD := qw.out
               have XE := qk.out
               have XF := qy.out
               have XG := qx.out
               have XH := qA.out
               have XI := qz.out
               have XJ := qC.out
               have XK := qB.out
               have Jf : zY.cell? ⟨qb, 0, none⟩ = some (.slice none 0 0) := bc_ qd 0
               have Jg : zY.cell? ⟨qb, 1, none⟩ = some (.int .i64 0) := bc_ qd 1
               have Jh : zY.cell? ⟨qb, 2, none⟩ = some (.bool false) := bc_ qd 2
               have Ji := blk_frozen qd.out 0
               have Jj := blk_frozen qd.out 1
               have Jk := blk_frozen qd.out 2
               try go_wp2_with (first | ((with_reducible refine gate_callee (f := 12) rfl ?_); refine goesL_ (some 116) rfl rfl Try.func12 (by kernel_rfl) rfl #[.agg #[.slice zX qQ.length zV, .int .i64 qU, .bool qV], .slice (some qN) qn.length zj] rfl (by (try simp only [List.map_toArray, List.map_cons, List.map_nil]); first | done | rfl | (simp only [List.length_drop, List.length_take]; rfl)) ?_; (with_reducible refine (impl_HoldsAt.calls k2 _ _ qQ qU qV _ _ qn zP true _ ?side1 ?side2 ?side3 ?side4 A78.out).mono ?_); (case side1 => refine (Kd.R_reads' (e := 3) (base := w.heap.size) (ok := fun k_ => (some k_ ≠ (.slice qH qm.length qG : Value).ownBlock ∧ (some k_ ≠ (.slice qM qv.length qL : Value).ownBlock ∧ (some k_ ≠ (.slice qO qE.length qP : Value).ownBlock ∧ some k_ ≠ (.slice qS qK.length qT : Value).ownBlock)))) (n := qQ.length) (c := zV) ?_).2.2; exact (by (with_reducible repeat (first | apply Kd.R_alloc | apply Kd.R_drewN | apply Kd.R_drew)); exact (rt3_ qR qd (by decide) 0 1 2 (.slice zX qQ.length zV) (.int .i64 qU) (.bool qV)))); (case side2 => exact (Kd.R_reads' qR.out).2.1); (case side3 => refine (Kd.R_reads' (e := 37) (base := w.heap.size) (ok := fun k_ => True) (n := qn.length) (c := zj) ?_).2.2; exact (by (with_reducible repeat (first | apply Kd.R_alloc | apply Kd.R_drewN | apply Kd.R_drew)); exact (rt3_ qh qd (by decide) 0 1 2 (.slice zX qQ.length zV) (.int .i64 qU) (.bool qV)))); (case side4 => exact (Kd.R_reads' qh.out).2.1); rintro e Ye ⟨rfl, hb⟩; refine ⟨_, rfl, ?_⟩; replace qh := Aside0.mk (Kd.R_below (by (with_reducible repeat (first | apply Kd.R_alloc | apply Kd.R_drewN | apply Kd.R_drew)); exact (rt3_ qh qd (by decide) 0 1 2 (.slice zX qQ.length zV) (.int .i64 qU) (.bool qV))) hb); replace qc := Aside0.mk (Kd.R_below (by (with_reducible repeat (first | apply Kd.R_alloc | apply Kd.R_drewN | apply Kd.R_drew)); exact (rt3_ qc qd (by decide) 0 1 2 (.slice zX qQ.length zV) (.int .i64 qU) (.bool qV))) hb); replace qe := Aside0.mk (Kd.R_below (by (with_reducible repeat (first | apply Kd.R_alloc | apply Kd.R_drewN | apply Kd.R_drew)); exact (rt3_ qe qd (by decide) 0 1 2 (.slice zX qQ.length zV) (.int .i64 qU) (.bool qV))) hb); replace qf := Aside0.mk (Kd.R_below (by (with_reducible repeat (first | apply Kd.R_alloc | apply Kd.R_drewN | apply Kd.R_drew)); exact (rt3_ qf qd (by decide) 0 1 2 (.slice zX qQ.length zV) (.int .i64 qU) (.bool qV))) hb); replace qg := Aside0.mk (Kd.R_below (by (with_reducible repeat (first | apply Kd.R_alloc | apply Kd.R_drewN | apply Kd.R_drew)); exact (rt3_ qg qd (by decide) 0 1 2 (.slice zX qQ.length zV) (.int .i64 qU) (.bool qV))) hb); replace qR := Aside0.mk (Kd.R_below (by (with_reducible repeat (first | apply Kd.R_alloc | apply Kd.R_drewN | apply Kd.R_drew)); exact (rt3_ qR qd (by decide) 0 1 2 (.slice zX qQ.length zV) (.int .i64 qU) (.bool qV))) hb); replace qa := Aside0.mk (blk_below (g := qj) (o := .cells #[.slice qH qm.length qG, .int .i64 qt, .bool qu] 26 (0, 0)) (kf_ qa) hb); replace qi := Aside0.mk (blk_below (g := qq) (o := .cells #[.slice qM qv.length qL, .int .i64 qW, .bool qY] 26 (0, 0)) (kf_ qi) hb); replace ql := Aside0.mk (blk_below (g := qD) (o := .cells #[.slice qO qE.length qP, .int .i64 q0, .bool q1] 26 (0, 0)) (kf_ ql) hb); replace qr := Aside0.mk (blk_below (g := qF) (o := .cells #[.slice qS qK.length qT, .int .i64 zf, .bool zi] 26 (0, 0)) (kf_ qr) hb); replace qd := Aside0.mk (blk_below (g := qb) (o := .cells #[.slice zX qQ.length zV, .int .i64 qU, .bool qV] 26 (0, 0)) (by (with_reducible repeat (first | refine blk_drewN ?_ _ | refine blk_drew ?_ | refine blk_alloc ?_ _)); refine blk_put (cs := #[.slice zX qQ.length zV, .int .i64 qU, .bool false]) ?_ 2 _ rfl; (with_reducible repeat (first | refine blk_drewN ?_ _ | refine blk_drew ?_ | refine blk_alloc ?_ _)); refine blk_put (cs := #[.slice zX qQ.length zV, .int .i64 0, .bool false]) ?_ 1 _ rfl; (with_reducible repeat (first | refine blk_drewN ?_ _ | refine blk_drew ?_ | refine blk_alloc ?_ _)); refine blk_put (cs := #[.slice none 0 0, .int .i64 0, .bool false]) ?_ 0 _ rfl; (with_reducible repeat (first | refine blk_drewN ?_ _ | refine blk_drew ?_ | refine blk_alloc ?_ _)); exact qd.out) hb); replace HB := bS_ HB hb; (try clear hb); (try clear hb2); (try clear hk); (try clear hi)))
               go_ret
               exact ⟨by first | rfl | (simp [errW_none, errW_some] <;> rfl) | (simp [*, errW_none, errW_some] <;> rfl), bb_ HB⟩
              ·
               rw [if_neg c82] at H
               have Q8 : (zP != qX) = false := by simpa using c82
               (try (have Q9 : decide (zP = qX) = true := by simpa using c82))
               (try (have Za : (zP == qX) = true := by simpa using c82))
               clear c82
               have H' := Aside0.mk H
               clear H
               try go_wp2
               replace qh := Aside0.mk (Kd.R_drew qh.out); replace qc := Aside0.mk (Kd.R_drew qc.out); replace qe := Aside0.mk (Kd.R_drew qe.out); replace qf := Aside0.mk (Kd.R_drew qf.out); replace qg := Aside0.mk (Kd.R_drew qg.out); replace qa := Aside0.mk (blk_drew qa.out); replace qi := Aside0.mk (blk_drew qi.out); replace ql := Aside0.mk (blk_drew ql.out); replace qr := Aside0.mk (blk_drew qr.out); replace HB := Aside0.mk (below_drew1 HB.out)
               have p481 : 0 ≤ (qo : Int) := of_decide_eq_true (by first | (with_reducible assumption) | assumption)
               have q481 : qo < (qn.length : Int) := of_decide_eq_true (by first | (with_reducible assumption) | assumption)
               obtain ⟨qN, e481, za, zb⟩ := at_T37 (Kd.R_reads' qh.out).2.2 qo p481 q481
               cases e481
               replace p481 := eq_true p481
               replace q481 := eq_true q481
               refine start_ (n := 13) (S := fun w' => w'.cell? ⟨qj, 0, none⟩ = some (.slice qH qm.length qG) ∧ w'.cell? ⟨qj, 1, none⟩ = some (.int .i64 qt) ∧ w'.cell? ⟨qj, 2, none⟩ = some (.bool qu) ∧ w'.cell? (qN.add ((qo).toNat * 2)) = some (.int .i64 ((rd_T37 qn qo).f0)) ∧ w'.cell? ⟨(qN.add ((qo).toNat * 2)).block, (qN.add ((qo).toNat * 2)).off + 1, none⟩ = some (.int .i64 ((rd_T37 qn qo).f1))) (ds := []) #[false, false, false, false, false, false, false, false, false, false, false, false, false] (by kernel_rfl) rfl rfl ⟨bc_ qa 0, bc_ qa 1, bc_ qa 2, za, zb⟩ (fun hHeld => ?_); refine with_tabW laws_FnMixed.tab19 laws_FnMixed.bits19 (fun HT_ HW_ => ?_)
               generalize wr.drew = Yf at qh qc qe qf qg qa qi ql qr HB za zb hHeld ⊢
               refine pure_ (i := 1) (N := some 105) (v := ?_) (a' := ?_) #[false, true, false, false, false, false, false, false, false, false, false, false, false] rfl rfl (any_of HT_.out (by kernel_rfl)) (fun _ _ _ h => h) (Or.inl ⟨by rfl, ?_⟩) ?_ ?_
               rotate_left
               ·
                intro w'
                go_simp
                with_reducible rfl
               rotate_left
               ·
                simp only [Act.put, List.setIfInBounds_toArray, List.set_cons_zero, List.set_cons_succ, i64_w, i32_w]
                rfl
               refine pure_ (i := 2) (N := some 106) (v := ?_) (a' := ?_) #[false, true, true, false, false, false, false, false, false, false, false, false, false] rfl rfl (any_of HT_.out (by kernel_rfl)) (fun _ _ _ h => h) (Or.inl ⟨by rfl, ?_⟩) ?_ ?_
               rotate_left
               ·
                intro w'
                go_simp
                with_reducible rfl
               rotate_left
               ·
                simp only [Act.put, List.setIfInBounds_toArray, List.set_cons_zero, List.set_cons_succ, i64_w, i32_w]
                rfl
               refine pure_ (i := 3) (N := some 107) (v := ?_) (a' := ?_) #[false, true, true, true, false, false, false, false, false, false, false, false, false] rfl rfl (any_of HT_.out (by kernel_rfl)) (fun _ _ _ h => h) (Or.inl ⟨by rfl, ?_⟩) ?_ ?_
               rotate_left
               ·
                intro w'
                go_simp
                with_reducible rfl
               rotate_left
               ·
                simp only [Act.put, List.setIfInBounds_toArray, List.set_cons_zero, List.set_cons_succ, i64_w, i32_w]
                rfl
               refine pure_ (i := 4) (N := some 108) (v := ?_) (a' := ?_) #[false, true, true, true, true, false, false, false, false, false, false, false, false] rfl rfl (any_of HT_.out (by kernel_rfl)) (fun _ _ _ h => h) (Or.inl ⟨by rfl, ?_⟩) ?_ ?_
               rotate_left
               ·
                intro w'
                go_simp
                with_reducible rfl
               rotate_left
               ·
                simp only [Act.put, List.setIfInBounds_toArray, List.set_cons_zero, List.set_cons_succ, i64_w, i32_w]
                rfl
               refine take_ (i := 0) (N := some 104) (v := ?_) (a' := ?_) #[true, true, true, true, true, false, false, false, false, false, false, false, false] rfl rfl (take_ofW HT_.out HW_.out (by kernel_rfl)) (fun _ _ _ h => h) (Or.inl ⟨by rfl, ?_⟩) hHeld ?_ ?_
               rotate_left
               ·
                rintro w' ⟨s0, s1, s2, s3, s4⟩
                go_simp
                with_reducible rfl
               rotate_left
               ·
                simp only [Act.put, List.setIfInBounds_toArray, List.set_cons_zero, List.set_cons_succ, i64_w, i32_w]
                rfl
               refine take_ (i := 5) (N := some 109) (v := ?_) (a' := ?_) #[true, true, true, true, true, true, false, false, false, false, false, false, false] rfl rfl (take_ofW HT_.out HW_.out (by kernel_rfl)) (fun _ _ _ h => h) (Or.inl ⟨by rfl, ?_⟩) hHeld ?_ ?_
               rotate_left
               ·
                rintro w' ⟨s0, s1, s2, s3, s4⟩
                go_simp
                with_reducible rfl
               rotate_left
               ·
                simp only [Act.put, List.setIfInBounds_toArray, List.set_cons_zero, List.set_cons_succ, i64_w, i32_w]
                rfl
               refine join_ (σ := Value × Nat) 2 #[true, true, true, true, true, true, true, true, true, true, true, false, false] (fun s_ => [(110, .tuple #[.agg #[s_.1, .int .i64 qU, .bool qV], .bool true]), (19, .pointer (some ⟨s_.2, 0, none⟩)), (103, .tuple #[.agg #[s_.1, .int .i64 qU, .bool qV], .bool true]), (111, .agg #[s_.1, .int .i64 qU, .bool qV]), (112, .bool true)]) (fun s_ w' => (w'.cell? ⟨qj, 0, none⟩ = some (.slice qH qm.length qG) ∧ w'.cell? ⟨qj, 1, none⟩ = some (.int .i64 qt) ∧ w'.cell? ⟨qj, 2, none⟩ = some (.bool qu) ∧ w'.cell? (qN.add ((qo).toNat * 2)) = some (.int .i64 ((rd_T37 qn qo).f0)) ∧ w'.cell? ⟨(qN.add ((qo).toNat * 2)).block, (qN.add ((qo).toNat * 2)).off + 1, none⟩ = some (.int .i64 ((rd_T37 qn qo).f1))) ∧ (Kd.R (Kd.int .i64) 3 w' w.heap.size (fun k_ => some k_ ≠ (.slice qH qm.length qG : Value).ownBlock ∧ some k_ ≠ (.slice qM qv.length qL : Value).ownBlock ∧ some k_ ≠ (.slice qO qE.length qP : Value).ownBlock ∧ some k_ ≠ (.slice qS qK.length qT : Value).ownBlock) s_.1 qQ) ∧ (Kd.R k37 37 w' w.heap.size (fun _ => True) (.slice (some qN) qn.length zj) qn) ∧ (Kd.R (Kd.int .i64) 3 w' w.heap.size (fun k_ => some k_ ≠ (s_.1 : Value).ownBlock ∧ some k_ ≠ (.slice qM qv.length qL : Value).ownBlock ∧ some k_ ≠ (.slice qO qE.length qP : Value).ownBlock ∧ some k_ ≠ (.slice qS qK.length qT : Value).ownBlock) (.slice qH qm.length qG) qm) ∧ (Kd.R (Kd.int .i64) 3 w' w.heap.size (fun k_ => some k_ ≠ (s_.1 : Value).ownBlock ∧ some k_ ≠ (.slice qH qm.length qG : Value).ownBlock ∧ some k_ ≠ (.slice qO qE.length qP : Value).ownBlock ∧ some k_ ≠ (.slice qS qK.length qT : Value).ownBlock) (.slice qM qv.length qL) qv) ∧ (Kd.R (Kd.int .i64) 3 w' w.heap.size (fun k_ => some k_ ≠ (s_.1 : Value).ownBlock ∧ some k_ ≠ (.slice qH qm.length qG : Value).ownBlock ∧ some k_ ≠ (.slice qM qv.length qL : Value).ownBlock ∧ some k_ ≠ (.slice qS qK.length qT : Value).ownBlock) (.slice qO qE.length qP) qE) ∧ (Kd.R (Kd.int .i64) 3 w' w.heap.size (fun k_ => some k_ ≠ (s_.1 : Value).ownBlock ∧ some k_ ≠ (.slice qH qm.length qG : Value).ownBlock ∧ some k_ ≠ (.slice qM qv.length qL : Value).ownBlock ∧ some k_ ≠ (.slice qO qE.length qP : Value).ownBlock) (.slice qS qK.length qT) qK) ∧ (w'.heap[qj]? = some (.cells #[.slice qH qm.length qG, .int .i64 qt, .bool qu] 26 (0, 0))) ∧ (w'.heap[qq]? = some (.cells #[.slice qM qv.length qL, .int .i64 qW, .bool qY] 26 (0, 0))) ∧ (w'.heap[qD]? = some (.cells #[.slice qO qE.length qP, .int .i64 q0, .bool q1] 26 (0, 0))) ∧ (w'.heap[qF]? = some (.cells #[.slice qS qK.length qT, .int .i64 zf, .bool zi] 26 (0, 0))) ∧ (w'.heap[s_.2]? = some (.cells #[.slice none 0 0, .int .i64 0, .bool false] 26 (0, 0))) ∧ (w.heap.size ≤ s_.2) ∧ (w.heap.size ≤ s_.2) ∧ (qj ≠ s_.2) ∧ (s_.2 ≠ qj) ∧ (qq ≠ s_.2) ∧ (s_.2 ≠ qq) ∧ (qD ≠ s_.2) ∧ (s_.2 ≠ qD) ∧ (qF ≠ s_.2) ∧ (s_.2 ≠ qF) ∧ (Below w.heap.size w w')) ?_ ?_
               rotate_left
               ·
                intro hCont
                refine two_ (i := 6) (j := 10) (Ni := some 110) (Nj := some 19) #[true, true, true, true, true, true, true, false, false, false, false, false, false] #[true, true, true, true, true, true, false, false, false, false, true, false, false] rfl rfl rfl rfl (two_of HT_.out (by kernel_rfl)) (by decide) (by decide) (fun K hK => ?_) (fun K hK => ?_)
                ·
                 skip
                 refine goes_ Try.func13 (by kernel_rfl) rfl #[.agg #[.slice qH qm.length qG, .int .i64 qt, .bool qu], .int .i64 qo, .agg #[.int .i64 ((rd_T37 qn qo).f0), .int .i64 ((rd_T37 qn qo).f1)]] (by rfl) rfl rfl (by (try simp only [List.map_toArray, List.map_cons, List.map_nil]); first | done | rfl | (simp only [List.length_drop, List.length_take]; rfl)) ?_
                 with_reducible refine (impl_FixVariable.calls k2 _ _ qm qt qu qo ((rd_T37 qn qo).f0) ((rd_T37 qn qo).f1) qQ qU qV true _ ?side1 ?side2 A77.out).mono ?_
                 (case side1 => exact cr_ qc)
                 (case side2 => exact (Kd.R_reads' qc.out).2.1)
                 rintro e XT ⟨q5, rfl, ho0, hb⟩
                 have HS3_ := (hb.cell (World.block_lt_of_cell? _ _ (hHeld.2.2.2.1))).trans (hHeld.2.2.2.1)
                 have HS4_ := (hb.cell (World.block_lt_of_cell? _ _ (hHeld.2.2.2.2))).trans (hHeld.2.2.2.2)
                 refine ⟨_, rfl, ?_⟩
                 replace qh := rB_ qh hb; have qR := Aside0.mk (Kd.R_lower (Kd.R_new' (Kd.R_new' (Kd.R_new' (Kd.R_new' ho0 (Kd.R_lt (rm_ qc))) (Kd.R_lt (rm_ qe))) (Kd.R_lt (rm_ qf))) (Kd.R_lt (rm_ qg))) (bz_ HB)); replace qc := Aside0.mk (Kd.R_elder' (rm_ qc) (Kd.R_base ho0) hb); replace qe := Aside0.mk (Kd.R_elder' (rm_ qe) (Kd.R_base ho0) hb); replace qf := Aside0.mk (Kd.R_elder' (rm_ qf) (Kd.R_base ho0) hb); replace qg := Aside0.mk (Kd.R_elder' (rm_ qg) (Kd.R_base ho0) hb); replace qa := kB_ qa hb; replace qi := kB_ qi hb; replace ql := kB_ ql hb; replace qr := kB_ qr hb; replace HB := bS_ HB hb; (try clear hb); (try clear hb2); (try clear hk); (try clear hi); (try clear ho0)
                 refine hK.out _ _ ⟨bc_ qa 0, bc_ qa 1, bc_ qa 2, HS3_, HS4_⟩ (fun hHeld => ?_)
                 clear hK K
                 refine norm_ (a' := ?_) ?_ ?_
                 rotate_left
                 ·
                  show Act.put _ (some 110) _ = _
                  simp only [Act.put, List.setIfInBounds_toArray, List.set_cons_zero, List.set_cons_succ, i64_w, i32_w]
                  rfl
                 refine pure_ (i := 7) (N := some 103) (v := ?_) (a' := ?_) #[true, true, true, true, true, true, true, true, false, false, false, false, false] rfl rfl (any_of HT_.out (by kernel_rfl)) (fun _ _ _ h => h) (Or.inl ⟨by rfl, ?_⟩) ?_ ?_
                 rotate_left
                 ·
                  intro w'
                  go_simp
                  with_reducible rfl
                 rotate_left
                 ·
                  simp only [Act.put, List.setIfInBounds_toArray, List.set_cons_zero, List.set_cons_succ, i64_w, i32_w]
                  rfl
                 refine pure_ (i := 8) (N := some 111) (v := ?_) (a' := ?_) #[true, true, true, true, true, true, true, true, true, false, false, false, false] rfl rfl (any_of HT_.out (by kernel_rfl)) (fun _ _ _ h => h) (Or.inl ⟨by rfl, ?_⟩) ?_ ?_
                 rotate_left
                 ·
                  intro w'
                  go_simp
                  with_reducible rfl
                 rotate_left
                 ·
                  simp only [Act.put, List.setIfInBounds_toArray, List.set_cons_zero, List.set_cons_succ, i64_w, i32_w]
                  rfl
                 refine pure_ (i := 9) (N := some 112) (v := ?_) (a' := ?_) #[true, true, true, true, true, true, true, true, true, true, false, false, false] rfl rfl (any_of HT_.out (by kernel_rfl)) (fun _ _ _ h => h) (Or.inl ⟨by rfl, ?_⟩) ?_ ?_
                 rotate_left
                 ·
                  intro w'
                  go_simp
                  with_reducible rfl
                 rotate_left
                 ·
                  simp only [Act.put, List.setIfInBounds_toArray, List.set_cons_zero, List.set_cons_succ, i64_w, i32_w]
                  rfl
                 refine one_ (i := 10) (N := some 19) #[true, true, true, true, true, true, true, true, true, true, true, false, false] rfl rfl (one_of HT_.out (by kernel_rfl)) (by decide) (fun K hK => ?_)
                 refine box_step ?hg (N := 19) ?hd (cs := #[.slice none 0 0, .int .i64 0, .bool false]) (t := 26) ?hr ?_; (case hd => rfl); (case hg => rfl); (case hr => first | (go_simp; done) | (go_simp; rfl))
                 intro qb hg XU hbox hb
                 have HS3_ := (hb.cell (World.block_lt_of_cell? _ _ (hHeld.2.2.2.1))).trans (hHeld.2.2.2.1)
                 have HS4_ := (hb.cell (World.block_lt_of_cell? _ _ (hHeld.2.2.2.2))).trans (hHeld.2.2.2.2)
                 replace qh := rB_ qh hb; replace qc := rB_ qc hb; replace qe := rB_ qe hb; replace qf := rB_ qf hb; replace qg := rB_ qg hb; replace qR := rB_ qR hb; have qd := Aside0.mk (hbox); have zc := Aside0.mk ((by rw [hg]; exact (bz_ HB) : w.heap.size ≤ qb)); have zd := Aside0.mk ((by rw [hg]; exact (bz_ HB) : w.heap.size ≤ qb)); replace HB := bS_ HB hb; have qk := Aside0.mk ((nl_ qa hg : qj ≠ qb)); have qw := Aside0.mk ((ng_ qa hg : qb ≠ qj)); replace qa := kB_ qa hb; have qx := Aside0.mk ((nl_ qi hg : qq ≠ qb)); have qy := Aside0.mk ((ng_ qi hg : qb ≠ qq)); replace qi := kB_ qi hb; have qz := Aside0.mk ((nl_ ql hg : qD ≠ qb)); have qA := Aside0.mk ((ng_ ql hg : qb ≠ qD)); replace ql := kB_ ql hb; have qB := Aside0.mk ((nl_ qr hg : qF ≠ qb)); have qC := Aside0.mk ((ng_ qr hg : qb ≠ qF)); replace qr := kB_ qr hb; clear hb hbox hg
                 refine hK.out _ _ ⟨bc_ qa 0, bc_ qa 1, bc_ qa 2, HS3_, HS4_⟩ (fun hHeld => ?_)
                 clear hK K
                 refine norm_ (a' := ?_) ?_ ?_
                 rotate_left
                 ·
                  show Act.put _ (some 19) _ = _
                  simp only [Act.put, List.setIfInBounds_toArray, List.set_cons_zero, List.set_cons_succ, i64_w, i32_w]
                  rfl
                 exact norm_ (by simp only [putAll, Act.put, List.setIfInBounds_toArray, List.set_cons_zero, List.set_cons_succ]) (hCont (q5, qb) _ ⟨hHeld, (by (with_reducible repeat (first | apply Kd.R_alloc | apply Kd.R_drewN | apply Kd.R_drew)); exact Kd.R_mono qR.out (fun _ hk => ⟨hk.1.1.1.2, ⟨hk.1.1.2, ⟨hk.1.2, hk.2⟩⟩⟩)), (rm_ qh), (by (with_reducible repeat (first | apply Kd.R_alloc | apply Kd.R_drewN | apply Kd.R_drew)); exact Kd.R_mono qc.out (fun _ hk => ⟨hk.2, ⟨hk.1.1, ⟨hk.1.2.1, hk.1.2.2⟩⟩⟩)), (by (with_reducible repeat (first | apply Kd.R_alloc | apply Kd.R_drewN | apply Kd.R_drew)); exact Kd.R_mono qe.out (fun _ hk => ⟨hk.2, ⟨hk.1.1, ⟨hk.1.2.1, hk.1.2.2⟩⟩⟩)), (by (with_reducible repeat (first | apply Kd.R_alloc | apply Kd.R_drewN | apply Kd.R_drew)); exact Kd.R_mono qf.out (fun _ hk => ⟨hk.2, ⟨hk.1.1, ⟨hk.1.2.1, hk.1.2.2⟩⟩⟩)), (by (with_reducible repeat (first | apply Kd.R_alloc | apply Kd.R_drewN | apply Kd.R_drew)); exact Kd.R_mono qg.out (fun _ hk => ⟨hk.2, ⟨hk.1.1, ⟨hk.1.2.1, hk.1.2.2⟩⟩⟩)), (kf_ qa), (kf_ qi), (kf_ ql), (kf_ qr), (kf_ qd), zc.out, zd.out, qk.out, qw.out, qx.out, qy.out, qz.out, qA.out, qB.out, qC.out, (bb_ HB)⟩)
                ·
                 skip
                 refine box_step ?hg (N := 19) ?hd (cs := #[.slice none 0 0, .int .i64 0, .bool false]) (t := 26) ?hr ?_; (case hd => rfl); (case hg => rfl); (case hr => first | (go_simp; done) | (go_simp; rfl))
                 intro qb hg XT hbox hb
                 have HS3_ := (hb.cell (World.block_lt_of_cell? _ _ (hHeld.2.2.2.1))).trans (hHeld.2.2.2.1)
                 have HS4_ := (hb.cell (World.block_lt_of_cell? _ _ (hHeld.2.2.2.2))).trans (hHeld.2.2.2.2)
                 replace qh := rB_ qh hb; replace qc := rB_ qc hb; replace qe := rB_ qe hb; replace qf := rB_ qf hb; replace qg := rB_ qg hb; have qd := Aside0.mk (hbox); have zc := Aside0.mk ((by rw [hg]; exact (bz_ HB) : w.heap.size ≤ qb)); have zd := Aside0.mk ((by rw [hg]; exact (bz_ HB) : w.heap.size ≤ qb)); replace HB := bS_ HB hb; have qk := Aside0.mk ((nl_ qa hg : qj ≠ qb)); have qw := Aside0.mk ((ng_ qa hg : qb ≠ qj)); replace qa := kB_ qa hb; have qx := Aside0.mk ((nl_ qi hg : qq ≠ qb)); have qy := Aside0.mk ((ng_ qi hg : qb ≠ qq)); replace qi := kB_ qi hb; have qz := Aside0.mk ((nl_ ql hg : qD ≠ qb)); have qA := Aside0.mk ((ng_ ql hg : qb ≠ qD)); replace ql := kB_ ql hb; have qB := Aside0.mk ((nl_ qr hg : qF ≠ qb)); have qC := Aside0.mk ((ng_ qr hg : qb ≠ qF)); replace qr := kB_ qr hb; clear hb hbox hg
                 refine hK.out _ _ ⟨bc_ qa 0, bc_ qa 1, bc_ qa 2, HS3_, HS4_⟩ (fun hHeld => ?_)
                 clear hK K
                 refine norm_ (a' := ?_) ?_ ?_
                 rotate_left
                 ·
                  show Act.put _ (some 19) _ = _
                  simp only [Act.put, List.setIfInBounds_toArray, List.set_cons_zero, List.set_cons_succ, i64_w, i32_w]
                  rfl
                 refine one_ (i := 6) (N := some 110) #[true, true, true, true, true, true, true, false, false, false, true, false, false] rfl rfl (one_of HT_.out (by kernel_rfl)) (by decide) (fun K hK => ?_)
                 refine goes_ Try.func13 (by kernel_rfl) rfl #[.agg #[.slice qH qm.length qG, .int .i64 qt, .bool qu], .int .i64 qo, .agg #[.int .i64 ((rd_T37 qn qo).f0), .int .i64 ((rd_T37 qn qo).f1)]] (by rfl) rfl rfl (by (try simp only [List.map_toArray, List.map_cons, List.map_nil]); first | done | rfl | (simp only [List.length_drop, List.length_take]; rfl)) ?_
                 with_reducible refine (impl_FixVariable.calls k2 _ _ qm qt qu qo ((rd_T37 qn qo).f0) ((rd_T37 qn qo).f1) qQ qU qV true _ ?side1 ?side2 A77.out).mono ?_
                 (case side1 => exact cr_ qc)
                 (case side2 => exact (Kd.R_reads' qc.out).2.1)
                 rintro e XU ⟨q5, rfl, ho0, hb⟩
                 have HS3_ := (hb.cell (World.block_lt_of_cell? _ _ (hHeld.2.2.2.1))).trans (hHeld.2.2.2.1)
                 have HS4_ := (hb.cell (World.block_lt_of_cell? _ _ (hHeld.2.2.2.2))).trans (hHeld.2.2.2.2)
                 refine ⟨_, rfl, ?_⟩
                 replace qh := rB_ qh hb; have qR := Aside0.mk (Kd.R_lower (Kd.R_new' (Kd.R_new' (Kd.R_new' (Kd.R_new' ho0 (Kd.R_lt (rm_ qc))) (Kd.R_lt (rm_ qe))) (Kd.R_lt (rm_ qf))) (Kd.R_lt (rm_ qg))) (bz_ HB)); replace qc := Aside0.mk (Kd.R_elder' (rm_ qc) (Kd.R_base ho0) hb); replace qe := Aside0.mk (Kd.R_elder' (rm_ qe) (Kd.R_base ho0) hb); replace qf := Aside0.mk (Kd.R_elder' (rm_ qf) (Kd.R_base ho0) hb); replace qg := Aside0.mk (Kd.R_elder' (rm_ qg) (Kd.R_base ho0) hb); replace qa := kB_ qa hb; replace qi := kB_ qi hb; replace ql := kB_ ql hb; replace qr := kB_ qr hb; replace qd := kB_ qd hb; replace HB := bS_ HB hb; (try clear hb); (try clear hb2); (try clear hk); (try clear hi); (try clear ho0)
                 refine hK.out _ _ ⟨bc_ qa 0, bc_ qa 1, bc_ qa 2, HS3_, HS4_⟩ (fun hHeld => ?_)
                 clear hK K
                 refine norm_ (a' := ?_) ?_ ?_
                 rotate_left
                 ·
                  show Act.put _ (some 110) _ = _
                  simp only [Act.put, List.setIfInBounds_toArray, List.set_cons_zero, List.set_cons_succ, i64_w, i32_w]
                  rfl
                 refine pure_ (i := 7) (N := some 103) (v := ?_) (a' := ?_) #[true, true, true, true, true, true, true, true, false, false, true, false, false] rfl rfl (any_of HT_.out (by kernel_rfl)) (fun _ _ _ h => h) (Or.inl ⟨by rfl, ?_⟩) ?_ ?_
                 rotate_left
                 ·
                  intro w'
                  go_simp
                  with_reducible rfl
                 rotate_left
                 ·
                  simp only [Act.put, List.setIfInBounds_toArray, List.set_cons_zero, List.set_cons_succ, i64_w, i32_w]
                  rfl
                 refine pure_ (i := 8) (N := some 111) (v := ?_) (a' := ?_) #[true, true, true, true, true, true, true, true, true, false, true, false, false] rfl rfl (any_of HT_.out (by kernel_rfl)) (fun _ _ _ h => h) (Or.inl ⟨by rfl, ?_⟩) ?_ ?_
                 rotate_left
                 ·
                  intro w'
                  go_simp
                  with_reducible rfl
                 rotate_left
                 ·
                  simp only [Act.put, List.setIfInBounds_toArray, List.set_cons_zero, List.set_cons_succ, i64_w, i32_w]
                  rfl
                 refine pure_ (i := 9) (N := some 112) (v := ?_) (a' := ?_) #[true, true, true, true, true, true, true, true, true, true, true, false, false] rfl rfl (any_of HT_.out (by kernel_rfl)) (fun _ _ _ h => h) (Or.inl ⟨by rfl, ?_⟩) ?_ ?_
                 rotate_left
                 ·
                  intro w'
                  go_simp
                  with_reducible rfl
                 rotate_left
                 ·
                  simp only [Act.put, List.setIfInBounds_toArray, List.set_cons_zero, List.set_cons_succ, i64_w, i32_w]
                  rfl
                 exact norm_ (by simp only [putAll, Act.put, List.setIfInBounds_toArray, List.set_cons_zero, List.set_cons_succ]) (hCont (q5, qb) _ ⟨hHeld, (by (with_reducible repeat (first | apply Kd.R_alloc | apply Kd.R_drewN | apply Kd.R_drew)); exact Kd.R_mono qR.out (fun _ hk => ⟨hk.1.1.1.2, ⟨hk.1.1.2, ⟨hk.1.2, hk.2⟩⟩⟩)), (rm_ qh), (by (with_reducible repeat (first | apply Kd.R_alloc | apply Kd.R_drewN | apply Kd.R_drew)); exact Kd.R_mono qc.out (fun _ hk => ⟨hk.2, ⟨hk.1.1, ⟨hk.1.2.1, hk.1.2.2⟩⟩⟩)), (by (with_reducible repeat (first | apply Kd.R_alloc | apply Kd.R_drewN | apply Kd.R_drew)); exact Kd.R_mono qe.out (fun _ hk => ⟨hk.2, ⟨hk.1.1, ⟨hk.1.2.1, hk.1.2.2⟩⟩⟩)), (by (with_reducible repeat (first | apply Kd.R_alloc | apply Kd.R_drewN | apply Kd.R_drew)); exact Kd.R_mono qf.out (fun _ hk => ⟨hk.2, ⟨hk.1.1, ⟨hk.1.2.1, hk.1.2.2⟩⟩⟩)), (by (with_reducible repeat (first | apply Kd.R_alloc | apply Kd.R_drewN | apply Kd.R_drew)); exact Kd.R_mono qg.out (fun _ hk => ⟨hk.2, ⟨hk.1.1, ⟨hk.1.2.1, hk.1.2.2⟩⟩⟩)), (kf_ qa), (kf_ qi), (kf_ ql), (kf_ qr), (kf_ qd), zc.out, zd.out, qk.out, qw.out, qx.out, qy.out, qz.out, qA.out, qB.out, qC.out, (bb_ HB)⟩)
               rintro ⟨q5, qb⟩ zk ⟨hS_, h0_, h1_, h2_, h3_, h4_, h5_, h6_, h7_, h8_, h9_, h10_, h11_, h12_, h13_, h14_, h15_, h16_, h17_, h18_, h19_, h20_, h21_⟩
               have n0_ : Aside0 (Kd.R (Kd.int .i64) 3 zk w.heap.size (fun k_ => some k_ ≠ (.slice qH qm.length qG : Value).ownBlock ∧ some k_ ≠ (.slice qM qv.length qL : Value).ownBlock ∧ some k_ ≠ (.slice qO qE.length qP : Value).ownBlock ∧ some k_ ≠ (.slice qS qK.length qT : Value).ownBlock) q5 qQ) := ⟨h0_⟩
               have n1_ : Aside0 (Kd.R k37 37 zk w.heap.size (fun _ => True) (.slice (some qN) qn.length zj) qn) := ⟨h1_⟩
               have n2_ : Aside0 (Kd.R (Kd.int .i64) 3 zk w.heap.size (fun k_ => some k_ ≠ (q5 : Value).ownBlock ∧ some k_ ≠ (.slice qM qv.length qL : Value).ownBlock ∧ some k_ ≠ (.slice qO qE.length qP : Value).ownBlock ∧ some k_ ≠ (.slice qS qK.length qT : Value).ownBlock) (.slice qH qm.length qG) qm) := ⟨h2_⟩
               have n3_ : Aside0 (Kd.R (Kd.int .i64) 3 zk w.heap.size (fun k_ => some k_ ≠ (q5 : Value).ownBlock ∧ some k_ ≠ (.slice qH qm.length qG : Value).ownBlock ∧ some k_ ≠ (.slice qO qE.length qP : Value).ownBlock ∧ some k_ ≠ (.slice qS qK.length qT : Value).ownBlock) (.slice qM qv.length qL) qv) := ⟨h3_⟩
               have n4_ : Aside0 (Kd.R (Kd.int .i64) 3 zk w.heap.size (fun k_ => some k_ ≠ (q5 : Value).ownBlock ∧ some k_ ≠ (.slice qH qm.length qG : Value).ownBlock ∧ some k_ ≠ (.slice qM qv.length qL : Value).ownBlock ∧ some k_ ≠ (.slice qS qK.length qT : Value).ownBlock) (.slice qO qE.length qP) qE) := ⟨h4_⟩
               have n5_ : Aside0 (Kd.R (Kd.int .i64) 3 zk w.heap.size (fun k_ => some k_ ≠ (q5 : Value).ownBlock ∧ some k_ ≠ (.slice qH qm.length qG : Value).ownBlock ∧ some k_ ≠ (.slice qM qv.length qL : Value).ownBlock ∧ some k_ ≠ (.slice qO qE.length qP : Value).ownBlock) (.slice qS qK.length qT) qK) := ⟨h5_⟩
               have n6_ : Aside0 (zk.heap[qj]? = some (.cells #[.slice qH qm.length qG, .int .i64 qt, .bool qu] 26 (0, 0))) := ⟨h6_⟩
               have n7_ : Aside0 (zk.heap[qq]? = some (.cells #[.slice qM qv.length qL, .int .i64 qW, .bool qY] 26 (0, 0))) := ⟨h7_⟩
               have n8_ : Aside0 (zk.heap[qD]? = some (.cells #[.slice qO qE.length qP, .int .i64 q0, .bool q1] 26 (0, 0))) := ⟨h8_⟩
               have n9_ : Aside0 (zk.heap[qF]? = some (.cells #[.slice qS qK.length qT, .int .i64 zf, .bool zi] 26 (0, 0))) := ⟨h9_⟩
               have n10_ : Aside0 (zk.heap[qb]? = some (.cells #[.slice none 0 0, .int .i64 0, .bool false] 26 (0, 0))) := ⟨h10_⟩
               have n11_ : Aside0 (w.heap.size ≤ qb) := ⟨h11_⟩
               have n12_ : Aside0 (w.heap.size ≤ qb) := ⟨h12_⟩
               have n13_ : Aside0 (qj ≠ qb) := ⟨h13_⟩
               have n14_ : Aside0 (qb ≠ qj) := ⟨h14_⟩
               have n15_ : Aside0 (qq ≠ qb) := ⟨h15_⟩
               have n16_ : Aside0 (qb ≠ qq) := ⟨h16_⟩
               have n17_ : Aside0 (qD ≠ qb) := ⟨h17_⟩
               have n18_ : Aside0 (qb ≠ qD) := ⟨h18_⟩
               have n19_ : Aside0 (qF ≠ qb) := ⟨h19_⟩
               have n20_ : Aside0 (qb ≠ qF) := ⟨h20_⟩
               have n21_ : Aside0 (Below w.heap.size w zk) := ⟨h21_⟩
               clear qh
               clear qc
               clear qe
               clear qf
               clear qg
               clear qa
               clear qi
               clear ql
               clear qr
               clear HB
               clear h0_ h1_ h2_ h3_ h4_ h5_ h6_ h7_ h8_ h9_ h10_ h11_ h12_ h13_ h14_ h15_ h16_ h17_ h18_ h19_ h20_ h21_
               have qR := n0_
               have qh := n1_
               have qc := n2_
               have qe := n3_
               have qf := n4_
               have qg := n5_
               have qa := n6_
               have qi := n7_
               have ql := n8_
               have qr := n9_
               have qd := n10_
               have zc := n11_
               have zd := n12_
               have qk := n13_
               have qw := n14_
               have qx := n15_
               have qy := n16_
               have qz := n17_
               have qA := n18_
               have qB := n19_
               have qC := n20_
               have HB := n21_
               clear n0_ n1_ n2_ n3_ n4_ n5_ n6_ n7_ n8_ n9_ n10_ n11_ n12_ n13_ n14_ n15_ n16_ n17_ n18_ n19_ n20_ n21_
               have hHeld : zk.cell? ⟨qj, 0, none⟩ = some (.slice qH qm.length qG) ∧ zk.cell? ⟨qj, 1, none⟩ = some (.int .i64 qt) ∧ zk.cell? ⟨qj, 2, none⟩ = some (.bool qu) ∧ zk.cell? (qN.add ((qo).toNat * 2)) = some (.int .i64 ((rd_T37 qn qo).f0)) ∧ zk.cell? ⟨(qN.add ((qo).toNat * 2)).block, (qN.add ((qo).toNat * 2)).off + 1, none⟩ = some (.int .i64 ((rd_T37 qn qo).f1)) := hS_
               obtain ⟨zG, zC, eo101⟩ := Kd.R_slice qR.out
               (first | subst eo101 | (injection eo101 with f1_ f2_ f3_; have f4_ := f1_.symm; have f5_ := f3_.symm; clear f1_ f2_ f3_; subst f4_; subst f5_))
               refine norm_ (a' := ?_) ?_ ?_
               rotate_left
               ·
                simp only [putAll, Act.put, List.setIfInBounds_toArray, List.set_cons_zero, List.set_cons_succ]
                rfl
               refine one_ (i := 11) (N := none) #[true, true, true, true, true, true, true, true, true, true, true, true, false] rfl rfl (one_of HT_.out (by kernel_rfl)) (by decide) (fun K hK => ?_)
               have hs102 : zk.cell? ⟨qb, 0, none⟩ = some (.slice none 0 0) := bc_ qd 0
               have hfs102 := blk_frozen qd.out 0
               have hns102_0 := qk.out
               have hns102_1 := qx.out
               have hns102_2 := qz.out
               have hns102_3 := qB.out
               have hms102_0 := qw.out
               have hms102_1 := qy.out
               have hms102_2 := qA.out
               have hms102_3 := qC.out
               have hs103 : zk.cell? ⟨qb, 1, none⟩ = some (.int .i64 0) := bc_ qd 1
               have hfs103 := blk_frozen qd.out 1
               have hns103_0 := qk.out
               have hns103_1 := qx.out
               have hns103_2 := qz.out
               have hns103_3 := qB.out
               have hms103_0 := qw.out
               have hms103_1 := qy.out
               have hms103_2 := qA.out
               have hms103_3 := qC.out
               have hs104 : zk.cell? ⟨qb, 2, none⟩ = some (.bool false) := bc_ qd 2
               have hfs104 := blk_frozen qd.out 2
               have hns104_0 := qk.out
               have hns104_1 := qx.out
               have hns104_2 := qz.out
               have hns104_3 := qB.out
               have hms104_0 := qw.out
               have hms104_1 := qy.out
               have hms104_2 := qA.out
               have hms104_3 := qC.out
               refine skip_ (w1 := ?_) (by rfl) rfl ?_ ?_
               rotate_left
               ·
                go_simp
                rfl
               refine hK.out _ _ ⟨((cell_far (p := ⟨qb, _, none⟩) qk.out _).trans (((cell_far (p := ⟨qb, _, none⟩) qk.out _).trans (((cell_far (p := ⟨qb, _, none⟩) qk.out _).trans (hHeld.1)))))), ((cell_far (p := ⟨qb, _, none⟩) qk.out _).trans (((cell_far (p := ⟨qb, _, none⟩) qk.out _).trans (((cell_far (p := ⟨qb, _, none⟩) qk.out _).trans (hHeld.2.1)))))), ((cell_far (p := ⟨qb, _, none⟩) qk.out _).trans (((cell_far (p := ⟨qb, _, none⟩) qk.out _).trans (((cell_far (p := ⟨qb, _, none⟩) qk.out _).trans (hHeld.2.2.1)))))), ((cell_far (p := ⟨qb, _, none⟩) (by first | exact Kd.own_blk (Kd.R_ne qh.out qd.out (by decide)) | (rw [add_block]; exact Kd.own_blk (Kd.R_ne qh.out qd.out (by decide))) | (show (Addr.add _ _).block ≠ _; rw [add_block]; exact Kd.own_blk (Kd.R_ne qh.out qd.out (by decide))) | (dsimp only; exact Kd.own_blk (Kd.R_ne qh.out qd.out (by decide)))) _).trans (((cell_far (p := ⟨qb, _, none⟩) (by first | exact Kd.own_blk (Kd.R_ne qh.out qd.out (by decide)) | (rw [add_block]; exact Kd.own_blk (Kd.R_ne qh.out qd.out (by decide))) | (show (Addr.add _ _).block ≠ _; rw [add_block]; exact Kd.own_blk (Kd.R_ne qh.out qd.out (by decide))) | (dsimp only; exact Kd.own_blk (Kd.R_ne qh.out qd.out (by decide)))) _).trans (((cell_far (p := ⟨qb, _, none⟩) (by first | exact Kd.own_blk (Kd.R_ne qh.out qd.out (by decide)) | (rw [add_block]; exact Kd.own_blk (Kd.R_ne qh.out qd.out (by decide))) | (show (Addr.add _ _).block ≠ _; rw [add_block]; exact Kd.own_blk (Kd.R_ne qh.out qd.out (by decide))) | (dsimp only; exact Kd.own_blk (Kd.R_ne qh.out qd.out (by decide)))) _).trans (hHeld.2.2.2.1)))))), ((cell_far (p := ⟨qb, _, none⟩) (by first | exact Kd.own_blk (Kd.R_ne qh.out qd.out (by decide)) | (rw [add_block]; exact Kd.own_blk (Kd.R_ne qh.out qd.out (by decide))) | (show (Addr.add _ _).block ≠ _; rw [add_block]; exact Kd.own_blk (Kd.R_ne qh.out qd.out (by decide))) | (dsimp only; exact Kd.own_blk (Kd.R_ne qh.out qd.out (by decide)))) _).trans (((cell_far (p := ⟨qb, _, none⟩) (by first | exact Kd.own_blk (Kd.R_ne qh.out qd.out (by decide)) | (rw [add_block]; exact Kd.own_blk (Kd.R_ne qh.out qd.out (by decide))) | (show (Addr.add _ _).block ≠ _; rw [add_block]; exact Kd.own_blk (Kd.R_ne qh.out qd.out (by decide))) | (dsimp only; exact Kd.own_blk (Kd.R_ne qh.out qd.out (by decide)))) _).trans (((cell_far (p := ⟨qb, _, none⟩) (by first | exact Kd.own_blk (Kd.R_ne qh.out qd.out (by decide)) | (rw [add_block]; exact Kd.own_blk (Kd.R_ne qh.out qd.out (by decide))) | (show (Addr.add _ _).block ≠ _; rw [add_block]; exact Kd.own_blk (Kd.R_ne qh.out qd.out (by decide))) | (dsimp only; exact Kd.own_blk (Kd.R_ne qh.out qd.out (by decide)))) _).trans (hHeld.2.2.2.2))))))⟩ (fun hHeld => ?_)
               clear hK K
               refine pure_ (i := 12) (N := some 20) (v := ?_) (a' := ?_) #[true, true, true, true, true, true, true, true, true, true, true, true, true] rfl rfl (any_of HT_.out (by kernel_rfl)) (fun _ _ _ h => h) (Or.inl ⟨by rfl, ?_⟩) ?_ ?_
               rotate_left
               ·
                intro w'
                go_simp
                with_reducible rfl
               rotate_left
               ·
                simp only [Act.put, List.setIfInBounds_toArray, List.set_cons_zero, List.set_cons_succ, i64_w, i32_w]
                rfl
               refine done_ (done_of HT_.out (by kernel_rfl)) ?_
               have Jp := qw.out
               have Jq := qk.out
               have Jr := qy.out
               have Js := qx.out
               have Jt := qA.out
               have Ju := qz.out
               have Jv := qC.out
               have Jw := qB.out
               have Zb : zk.cell? ⟨qb, 0, none⟩ = some (.slice none 0 0) := bc_ qd 0
               have Zc : zk.cell? ⟨qb, 1, none⟩ = some (.int .i64 0) := bc_ qd 1
               have Zd : zk.cell? ⟨qb, 2, none⟩ = some (.bool false) := bc_ qd 2
               have Ze := blk_frozen qd.out 0
               have Zf := blk_frozen qd.out 1
               have Zg := blk_frozen qd.out 2
               try go_wp2_with (first | ((with_reducible refine gate_callee (f := 12) rfl ?_); refine goesL_ (some 116) rfl rfl Try.func12 (by kernel_rfl) rfl #[.agg #[.slice zG qQ.length zC, .int .i64 qU, .bool qV], .slice (some qN) qn.length zj] rfl (by (try simp only [List.map_toArray, List.map_cons, List.map_nil]); first | done | rfl | (simp only [List.length_drop, List.length_take]; rfl)) ?_; (with_reducible refine (impl_HoldsAt.calls k2 _ _ qQ qU qV _ _ qn zP true _ ?side1 ?side2 ?side3 ?side4 A78.out).mono ?_); (case side1 => refine (Kd.R_reads' (e := 3) (base := w.heap.size) (ok := fun k_ => (some k_ ≠ (.slice qH qm.length qG : Value).ownBlock ∧ (some k_ ≠ (.slice qM qv.length qL : Value).ownBlock ∧ (some k_ ≠ (.slice qO qE.length qP : Value).ownBlock ∧ some k_ ≠ (.slice qS qK.length qT : Value).ownBlock)))) (n := qQ.length) (c := zC) ?_).2.2; exact (by (with_reducible repeat (first | apply Kd.R_alloc | apply Kd.R_drewN | apply Kd.R_drew)); exact (rt3_ qR qd (by decide) 0 1 2 (.slice zG qQ.length zC) (.int .i64 qU) (.bool qV)))); (case side2 => exact (Kd.R_reads' qR.out).2.1); (case side3 => refine (Kd.R_reads' (e := 37) (base := w.heap.size) (ok := fun k_ => True) (n := qn.length) (c := zj) ?_).2.2; exact (by (with_reducible repeat (first | apply Kd.R_alloc | apply Kd.R_drewN | apply Kd.R_drew)); exact (rt3_ qh qd (by decide) 0 1 2 (.slice zG qQ.length zC) (.int .i64 qU) (.bool qV)))); (case side4 => exact (Kd.R_reads' qh.out).2.1); rintro e XV ⟨rfl, hb⟩; refine ⟨_, rfl, ?_⟩; replace qh := Aside0.mk (Kd.R_below (by (with_reducible repeat (first | apply Kd.R_alloc | apply Kd.R_drewN | apply Kd.R_drew)); exact (rt3_ qh qd (by decide) 0 1 2 (.slice zG qQ.length zC) (.int .i64 qU) (.bool qV))) hb); replace qc := Aside0.mk (Kd.R_below (by (with_reducible repeat (first | apply Kd.R_alloc | apply Kd.R_drewN | apply Kd.R_drew)); exact (rt3_ qc qd (by decide) 0 1 2 (.slice zG qQ.length zC) (.int .i64 qU) (.bool qV))) hb); replace qe := Aside0.mk (Kd.R_below (by (with_reducible repeat (first | apply Kd.R_alloc | apply Kd.R_drewN | apply Kd.R_drew)); exact (rt3_ qe qd (by decide) 0 1 2 (.slice zG qQ.length zC) (.int .i64 qU) (.bool qV))) hb); replace qf := Aside0.mk (Kd.R_below (by (with_reducible repeat (first | apply Kd.R_alloc | apply Kd.R_drewN | apply Kd.R_drew)); exact (rt3_ qf qd (by decide) 0 1 2 (.slice zG qQ.length zC) (.int .i64 qU) (.bool qV))) hb); replace qg := Aside0.mk (Kd.R_below (by (with_reducible repeat (first | apply Kd.R_alloc | apply Kd.R_drewN | apply Kd.R_drew)); exact (rt3_ qg qd (by decide) 0 1 2 (.slice zG qQ.length zC) (.int .i64 qU) (.bool qV))) hb); replace qR := Aside0.mk (Kd.R_below (by (with_reducible repeat (first | apply Kd.R_alloc | apply Kd.R_drewN | apply Kd.R_drew)); exact (rt3_ qR qd (by decide) 0 1 2 (.slice zG qQ.length zC) (.int .i64 qU) (.bool qV))) hb); replace qa := Aside0.mk (blk_below (g := qj) (o := .cells #[.slice qH qm.length qG, .int .i64 qt, .bool qu] 26 (0, 0)) (kf_ qa) hb); replace qi := Aside0.mk (blk_below (g := qq) (o := .cells #[.slice qM qv.length qL, .int .i64 qW, .bool qY] 26 (0, 0)) (kf_ qi) hb); replace ql := Aside0.mk (blk_below (g := qD) (o := .cells #[.slice qO qE.length qP, .int .i64 q0, .bool q1] 26 (0, 0)) (kf_ ql) hb); replace qr := Aside0.mk (blk_below (g := qF) (o := .cells #[.slice qS qK.length qT, .int .i64 zf, .bool zi] 26 (0, 0)) (kf_ qr) hb); replace qd := Aside0.mk (blk_below (g := qb) (o := .cells #[.slice zG qQ.length zC, .int .i64 qU, .bool qV] 26 (0, 0)) (by (with_reducible repeat (first | refine blk_drewN ?_ _ | refine blk_drew ?_ | refine blk_alloc ?_ _)); refine blk_put (cs := #[.slice zG qQ.length zC, .int .i64 qU, .bool false]) ?_ 2 _ rfl; (with_reducible repeat (first | refine blk_drewN ?_ _ | refine blk_drew ?_ | refine blk_alloc ?_ _)); refine blk_put (cs := #[.slice zG qQ.length zC, .int .i64 0, .bool false]) ?_ 1 _ rfl; (with_reducible repeat (first | refine blk_drewN ?_ _ | refine blk_drew ?_ | refine blk_alloc ?_ _)); refine blk_put (cs := #[.slice none 0 0, .int .i64 0, .bool false]) ?_ 0 _ rfl; (with_reducible repeat (first | refine blk_drewN ?_ _ | refine blk_drew ?_ | refine blk_alloc ?_ _)); exact qd.out) hb); replace HB := bS_ HB hb; (try clear hb); (try clear hb2); (try clear hk); (try clear hi)))
               go_roundg k2
               case measure => have := HJ35.out; have := HK2.out; omega
               case rel => exact ⟨(wrap64 (qo + 1)), (by first | rfl | (simp; done) | (simp [*]; done)), H', ⟨by have := HJ35.out; have := HK2.out; omega⟩, ⟨by (with_reducible repeat (first | apply Kd.R_alloc | apply Kd.R_drewN | apply Kd.R_drew)); exact qh.out⟩, ⟨by (with_reducible repeat (first | apply Kd.R_alloc | apply Kd.R_drewN | apply Kd.R_drew)); exact Kd.R_mono qc.out (fun _ hk => ⟨hk.2.1, ⟨hk.2.2.1, hk.2.2.2⟩⟩)⟩, ⟨by (with_reducible repeat (first | apply Kd.R_alloc | apply Kd.R_drewN | apply Kd.R_drew)); exact Kd.R_mono qe.out (fun _ hk => ⟨hk.2.1, ⟨hk.2.2.1, hk.2.2.2⟩⟩)⟩, ⟨by (with_reducible repeat (first | apply Kd.R_alloc | apply Kd.R_drewN | apply Kd.R_drew)); exact Kd.R_mono qf.out (fun _ hk => ⟨hk.2.1, ⟨hk.2.2.1, hk.2.2.2⟩⟩)⟩, ⟨by (with_reducible repeat (first | apply Kd.R_alloc | apply Kd.R_drewN | apply Kd.R_drew)); exact Kd.R_mono qg.out (fun _ hk => ⟨hk.2.1, ⟨hk.2.2.1, hk.2.2.2⟩⟩)⟩, ⟨kf_ qa⟩, ⟨kf_ qi⟩, ⟨kf_ ql⟩, ⟨kf_ qr⟩, ⟨bb_ HB⟩⟩
             ·
              replace c81 := Bool.eq_false_iff.mpr c81
              subst c81
              have H1 : (laws_FnMixed.l0 k2 qn qX false (wrap64 (qo + 1)) qm qt qu) = some r := by rw [if_neg (show ¬ (false = true) by decide)] at H; exact H
              clear H
              have H := H1
              clear H1
              have H' := Aside0.mk H
              clear H
              try go_wp2
              replace qh := Aside0.mk (Kd.R_drew qh.out); replace qc := Aside0.mk (Kd.R_drew qc.out); replace qe := Aside0.mk (Kd.R_drew qe.out); replace qf := Aside0.mk (Kd.R_drew qf.out); replace qg := Aside0.mk (Kd.R_drew qg.out); replace qa := Aside0.mk (blk_drew qa.out); replace qi := Aside0.mk (blk_drew qi.out); replace ql := Aside0.mk (blk_drew ql.out); replace qr := Aside0.mk (blk_drew qr.out); replace HB := Aside0.mk (below_drew1 HB.out)
              have p481 : 0 ≤ (qo : Int) := of_decide_eq_true (by first | (with_reducible assumption) | assumption)
              have q481 : qo < (qn.length : Int) := of_decide_eq_true (by first | (with_reducible assumption) | assumption)
              obtain ⟨qN, e481, za, zb⟩ := at_T37 (Kd.R_reads' qh.out).2.2 qo p481 q481
              cases e481
              replace p481 := eq_true p481
              replace q481 := eq_true q481
              refine start_ (n := 13) (S := fun w' => w'.cell? ⟨qj, 0, none⟩ = some (.slice qH qm.length qG) ∧ w'.cell? ⟨qj, 1, none⟩ = some (.int .i64 qt) ∧ w'.cell? ⟨qj, 2, none⟩ = some (.bool qu) ∧ w'.cell? (qN.add ((qo).toNat * 2)) = some (.int .i64 ((rd_T37 qn qo).f0)) ∧ w'.cell? ⟨(qN.add ((qo).toNat * 2)).block, (qN.add ((qo).toNat * 2)).off + 1, none⟩ = some (.int .i64 ((rd_T37 qn qo).f1))) (ds := []) #[false, false, false, false, false, false, false, false, false, false, false, false, false] (by kernel_rfl) rfl rfl ⟨bc_ qa 0, bc_ qa 1, bc_ qa 2, za, zb⟩ (fun hHeld => ?_); refine with_tabW laws_FnMixed.tab19 laws_FnMixed.bits19 (fun HT_ HW_ => ?_)
              generalize wr.drew = XW at qh qc qe qf qg qa qi ql qr HB za zb hHeld ⊢
              refine pure_ (i := 1) (N := some 105) (v := ?_) (a' := ?_) #[false, true, false, false, false, false, false, false, false, false, false, false, false] rfl rfl (any_of HT_.out (by kernel_rfl)) (fun _ _ _ h => h) (Or.inl ⟨by rfl, ?_⟩) ?_ ?_
              rotate_left
              ·
               intro w'
               go_simp
               with_reducible rfl
              rotate_left
              ·
               simp only [Act.put, List.setIfInBounds_toArray, List.set_cons_zero, List.set_cons_succ, i64_w, i32_w]
               rfl
              refine pure_ (i := 2) (N := some 106) (v := ?_) (a' := ?_) #[false, true, true, false, false, false, false, false, false, false, false, false, false] rfl rfl (any_of HT_.out (by kernel_rfl)) (fun _ _ _ h => h) (Or.inl ⟨by rfl, ?_⟩) ?_ ?_
              rotate_left
              ·
               intro w'
               go_simp
               with_reducible rfl
              rotate_left
              ·
               simp only [Act.put, List.setIfInBounds_toArray, List.set_cons_zero, List.set_cons_succ, i64_w, i32_w]
               rfl
              refine pure_ (i := 3) (N := some 107) (v := ?_) (a' := ?_) #[false, true, true, true, false, false, false, false, false, false, false, false, false] rfl rfl (any_of HT_.out (by kernel_rfl)) (fun _ _ _ h => h) (Or.inl ⟨by rfl, ?_⟩) ?_ ?_
              rotate_left
              ·
               intro w'
               go_simp
               with_reducible rfl
              rotate_left
              ·
               simp only [Act.put, List.setIfInBounds_toArray, List.set_cons_zero, List.set_cons_succ, i64_w, i32_w]
               rfl
              refine pure_ (i := 4) (N := some 108) (v := ?_) (a' := ?_) #[false, true, true, true, true, false, false, false, false, false, false, false, false] rfl rfl (any_of HT_.out (by kernel_rfl)) (fun _ _ _ h => h) (Or.inl ⟨by rfl, ?_⟩) ?_ ?_
              rotate_left
              ·
               intro w'
               go_simp
               with_reducible rfl
              rotate_left
              ·
               simp only [Act.put, List.setIfInBounds_toArray, List.set_cons_zero, List.set_cons_succ, i64_w, i32_w]
               rfl
              refine take_ (i := 0) (N := some 104) (v := ?_) (a' := ?_) #[true, true, true, true, true, false, false, false, false, false, false, false, false] rfl rfl (take_ofW HT_.out HW_.out (by kernel_rfl)) (fun _ _ _ h => h) (Or.inl ⟨by rfl, ?_⟩) hHeld ?_ ?_
              rotate_left
              ·
               rintro w' ⟨s0, s1, s2, s3, s4⟩
               go_simp
               with_reducible rfl
              rotate_left
              ·
               simp only [Act.put, List.setIfInBounds_toArray, List.set_cons_zero, List.set_cons_succ, i64_w, i32_w]
               rfl
              refine take_ (i := 5) (N := some 109) (v := ?_) (a' := ?_) #[true, true, true, true, true, true, false, false, false, false, false, false, false] rfl rfl (take_ofW HT_.out HW_.out (by kernel_rfl)) (fun _ _ _ h => h) (Or.inl ⟨by rfl, ?_⟩) hHeld ?_ ?_
              rotate_left
              ·
               rintro w' ⟨s0, s1, s2, s3, s4⟩
               go_simp
               with_reducible rfl
              rotate_left
              ·
               simp only [Act.put, List.setIfInBounds_toArray, List.set_cons_zero, List.set_cons_succ, i64_w, i32_w]
               rfl
              refine join_ (σ := Value × Nat) 2 #[true, true, true, true, true, true, true, true, true, true, true, false, false] (fun s_ => [(110, .tuple #[.agg #[s_.1, .int .i64 qU, .bool qV], .bool true]), (19, .pointer (some ⟨s_.2, 0, none⟩)), (103, .tuple #[.agg #[s_.1, .int .i64 qU, .bool qV], .bool true]), (111, .agg #[s_.1, .int .i64 qU, .bool qV]), (112, .bool true)]) (fun s_ w' => (w'.cell? ⟨qj, 0, none⟩ = some (.slice qH qm.length qG) ∧ w'.cell? ⟨qj, 1, none⟩ = some (.int .i64 qt) ∧ w'.cell? ⟨qj, 2, none⟩ = some (.bool qu) ∧ w'.cell? (qN.add ((qo).toNat * 2)) = some (.int .i64 ((rd_T37 qn qo).f0)) ∧ w'.cell? ⟨(qN.add ((qo).toNat * 2)).block, (qN.add ((qo).toNat * 2)).off + 1, none⟩ = some (.int .i64 ((rd_T37 qn qo).f1))) ∧ (Kd.R (Kd.int .i64) 3 w' w.heap.size (fun k_ => some k_ ≠ (.slice qH qm.length qG : Value).ownBlock ∧ some k_ ≠ (.slice qM qv.length qL : Value).ownBlock ∧ some k_ ≠ (.slice qO qE.length qP : Value).ownBlock ∧ some k_ ≠ (.slice qS qK.length qT : Value).ownBlock) s_.1 qQ) ∧ (Kd.R k37 37 w' w.heap.size (fun _ => True) (.slice (some qN) qn.length zj) qn) ∧ (Kd.R (Kd.int .i64) 3 w' w.heap.size (fun k_ => some k_ ≠ (s_.1 : Value).ownBlock ∧ some k_ ≠ (.slice qM qv.length qL : Value).ownBlock ∧ some k_ ≠ (.slice qO qE.length qP : Value).ownBlock ∧ some k_ ≠ (.slice qS qK.length qT : Value).ownBlock) (.slice qH qm.length qG) qm) ∧ (Kd.R (Kd.int .i64) 3 w' w.heap.size (fun k_ => some k_ ≠ (s_.1 : Value).ownBlock ∧ some k_ ≠ (.slice qH qm.length qG : Value).ownBlock ∧ some k_ ≠ (.slice qO qE.length qP : Value).ownBlock ∧ some k_ ≠ (.slice qS qK.length qT : Value).ownBlock) (.slice qM qv.length qL) qv) ∧ (Kd.R (Kd.int .i64) 3 w' w.heap.size (fun k_ => some k_ ≠ (s_.1 : Value).ownBlock ∧ some k_ ≠ (.slice qH qm.length qG : Value).ownBlock ∧ some k_ ≠ (.slice qM qv.length qL : Value).ownBlock ∧ some k_ ≠ (.slice qS qK.length qT : Value).ownBlock) (.slice qO qE.length qP) qE) ∧ (Kd.R (Kd.int .i64) 3 w' w.heap.size (fun k_ => some k_ ≠ (s_.1 : Value).ownBlock ∧ some k_ ≠ (.slice qH qm.length qG : Value).ownBlock ∧ some k_ ≠ (.slice qM qv.length qL : Value).ownBlock ∧ some k_ ≠ (.slice qO qE.length qP : Value).ownBlock) (.slice qS qK.length qT) qK) ∧ (w'.heap[qj]? = some (.cells #[.slice qH qm.length qG, .int .i64 qt, .bool qu] 26 (0, 0))) ∧ (w'.heap[qq]? = some (.cells #[.slice qM qv.length qL, .int .i64 qW, .bool qY] 26 (0, 0))) ∧ (w'.heap[qD]? = some (.cells #[.slice qO qE.length qP, .int .i64 q0, .bool q1] 26 (0, 0))) ∧ (w'.heap[qF]? = some (.cells #[.slice qS qK.length qT, .int .i64 zf, .bool zi] 26 (0, 0))) ∧ (w'.heap[s_.2]? = some (.cells #[.slice none 0 0, .int .i64 0, .bool false] 26 (0, 0))) ∧ (w.heap.size ≤ s_.2) ∧ (w.heap.size ≤ s_.2) ∧ (qj ≠ s_.2) ∧ (s_.2 ≠ qj) ∧ (qq ≠ s_.2) ∧ (s_.2 ≠ qq) ∧ (qD ≠ s_.2) ∧ (s_.2 ≠ qD) ∧ (qF ≠ s_.2) ∧ (s_.2 ≠ qF) ∧ (Below w.heap.size w w')) ?_ ?_
              rotate_left
              ·
               intro hCont
               refine two_ (i := 6) (j := 10) (Ni := some 110) (Nj := some 19) #[true, true, true, true, true, true, true, false, false, false, false, false, false] #[true, true, true, true, true, true, false, false, false, false, true, false, false] rfl rfl rfl rfl (two_of HT_.out (by kernel_rfl)) (by decide) (by decide) (fun K hK => ?_) (fun K hK => ?_)
               ·
                skip
                refine goes_ Try.func13 (by kernel_rfl) rfl #[.agg #[.slice qH qm.length qG, .int .i64 qt, .bool qu], .int .i64 qo, .agg #[.int .i64 ((rd_T37 qn qo).f0), .int .i64 ((rd_T37 qn qo).f1)]] (by rfl) rfl rfl (by (try simp only [List.map_toArray, List.map_cons, List.map_nil]); first | done | rfl | (simp only [List.length_drop, List.length_take]; rfl)) ?_
                with_reducible refine (impl_FixVariable.calls k2 _ _ qm qt qu qo ((rd_T37 qn qo).f0) ((rd_T37 qn qo).f1) qQ qU qV true _ ?side1 ?side2 A77.out).mono ?_
                (case side1 => exact cr_ qc)
                (case side2 => exact (Kd.R_reads' qc.out).2.1)
                rintro e Jx ⟨q5, rfl, ho0, hb⟩
                have HS3_ := (hb.cell (World.block_lt_of_cell? _ _ (hHeld.2.2.2.1))).trans (hHeld.2.2.2.1)
                have HS4_ := (hb.cell (World.block_lt_of_cell? _ _ (hHeld.2.2.2.2))).trans (hHeld.2.2.2.2)
                refine ⟨_, rfl, ?_⟩
                replace qh := rB_ qh hb; have qR := Aside0.mk (Kd.R_lower (Kd.R_new' (Kd.R_new' (Kd.R_new' (Kd.R_new' ho0 (Kd.R_lt (rm_ qc))) (Kd.R_lt (rm_ qe))) (Kd.R_lt (rm_ qf))) (Kd.R_lt (rm_ qg))) (bz_ HB)); replace qc := Aside0.mk (Kd.R_elder' (rm_ qc) (Kd.R_base ho0) hb); replace qe := Aside0.mk (Kd.R_elder' (rm_ qe) (Kd.R_base ho0) hb); replace qf := Aside0.mk (Kd.R_elder' (rm_ qf) (Kd.R_base ho0) hb); replace qg := Aside0.mk (Kd.R_elder' (rm_ qg) (Kd.R_base ho0) hb); replace qa := kB_ qa hb; replace qi := kB_ qi hb; replace ql := kB_ ql hb; replace qr := kB_ qr hb; replace HB := bS_ HB hb; (try clear hb); (try clear hb2); (try clear hk); (try clear hi); (try clear ho0)
                refine hK.out _ _ ⟨bc_ qa 0, bc_ qa 1, bc_ qa 2, HS3_, HS4_⟩ (fun hHeld => ?_)
                clear hK K
                refine norm_ (a' := ?_) ?_ ?_
                rotate_left
                ·
                 show Act.put _ (some 110) _ = _
                 simp only [Act.put, List.setIfInBounds_toArray, List.set_cons_zero, List.set_cons_succ, i64_w, i32_w]
                 rfl
                refine pure_ (i := 7) (N := some 103) (v := ?_) (a' := ?_) #[true, true, true, true, true, true, true, true, false, false, false, false, false] rfl rfl (any_of HT_.out (by kernel_rfl)) (fun _ _ _ h => h) (Or.inl ⟨by rfl, ?_⟩) ?_ ?_
                rotate_left
                ·
                 intro w'
                 go_simp
                 with_reducible rfl
                rotate_left
                ·
                 simp only [Act.put, List.setIfInBounds_toArray, List.set_cons_zero, List.set_cons_succ, i64_w, i32_w]
                 rfl
                refine pure_ (i := 8) (N := some 111) (v := ?_) (a' := ?_) #[true, true, true, true, true, true, true, true, true, false, false, false, false] rfl rfl (any_of HT_.out (by kernel_rfl)) (fun _ _ _ h => h) (Or.inl ⟨by rfl, ?_⟩) ?_ ?_
                rotate_left
                ·
                 intro w'
                 go_simp
                 with_reducible rfl
                rotate_left
                ·
                 simp only [Act.put, List.setIfInBounds_toArray, List.set_cons_zero, List.set_cons_succ, i64_w, i32_w]
                 rfl
                refine pure_ (i := 9) (N := some 112) (v := ?_) (a' := ?_) #[true, true, true, true, true, true, true, true, true, true, false, false, false] rfl rfl (any_of HT_.out (by kernel_rfl)) (fun _ _ _ h => h) (Or.inl ⟨by rfl, ?_⟩) ?_ ?_
                rotate_left
                ·
                 intro w'
                 go_simp
                 with_reducible rfl
                rotate_left
                ·
                 simp only [Act.put, List.setIfInBounds_toArray, List.set_cons_zero, List.set_cons_succ, i64_w, i32_w]
                 rfl
                refine one_ (i := 10) (N := some 19) #[true, true, true, true, true, true, true, true, true, true, true, false, false] rfl rfl (one_of HT_.out (by kernel_rfl)) (by decide) (fun K hK => ?_)
                refine box_step ?hg (N := 19) ?hd (cs := #[.slice none 0 0, .int .i64 0, .bool false]) (t := 26) ?hr ?_; (case hd => rfl); (case hg => rfl); (case hr => first | (go_simp; done) | (go_simp; rfl))
                intro qb hg Jy hbox hb
                have HS3_ := (hb.cell (World.block_lt_of_cell? _ _ (hHeld.2.2.2.1))).trans (hHeld.2.2.2.1)
                have HS4_ := (hb.cell (World.block_lt_of_cell? _ _ (hHeld.2.2.2.2))).trans (hHeld.2.2.2.2)
                replace qh := rB_ qh hb; replace qc := rB_ qc hb; replace qe := rB_ qe hb; replace qf := rB_ qf hb; replace qg := rB_ qg hb; replace qR := rB_ qR hb; have qd := Aside0.mk (hbox); have zc := Aside0.mk ((by rw [hg]; exact (bz_ HB) : w.heap.size ≤ qb)); have zd := Aside0.mk ((by rw [hg]; exact (bz_ HB) : w.heap.size ≤ qb)); replace HB := bS_ HB hb; have qk := Aside0.mk ((nl_ qa hg : qj ≠ qb)); have qw := Aside0.mk ((ng_ qa hg : qb ≠ qj)); replace qa := kB_ qa hb; have qx := Aside0.mk ((nl_ qi hg : qq ≠ qb)); have qy := Aside0.mk ((ng_ qi hg : qb ≠ qq)); replace qi := kB_ qi hb; have qz := Aside0.mk ((nl_ ql hg : qD ≠ qb)); have qA := Aside0.mk ((ng_ ql hg : qb ≠ qD)); replace ql := kB_ ql hb; have qB := Aside0.mk ((nl_ qr hg : qF ≠ qb)); have qC := Aside0.mk ((ng_ qr hg : qb ≠ qF)); replace qr := kB_ qr hb; clear hb hbox hg
                refine hK.out _ _ ⟨bc_ qa 0, bc_ qa 1, bc_ qa 2, HS3_, HS4_⟩ (fun hHeld => ?_)
                clear hK K
                refine norm_ (a' := ?_) ?_ ?_
                rotate_left
                ·
                 show Act.put _ (some 19) _ = _
                 simp only [Act.put, List.setIfInBounds_toArray, List.set_cons_zero, List.set_cons_succ, i64_w, i32_w]
                 rfl
                exact norm_ (by simp only [putAll, Act.put, List.setIfInBounds_toArray, List.set_cons_zero, List.set_cons_succ]) (hCont (q5, qb) _ ⟨hHeld, (by (with_reducible repeat (first | apply Kd.R_alloc | apply Kd.R_drewN | apply Kd.R_drew)); exact Kd.R_mono qR.out (fun _ hk => ⟨hk.1.1.1.2, ⟨hk.1.1.2, ⟨hk.1.2, hk.2⟩⟩⟩)), (rm_ qh), (by (with_reducible repeat (first | apply Kd.R_alloc | apply Kd.R_drewN | apply Kd.R_drew)); exact Kd.R_mono qc.out (fun _ hk => ⟨hk.2, ⟨hk.1.1, ⟨hk.1.2.1, hk.1.2.2⟩⟩⟩)), (by (with_reducible repeat (first | apply Kd.R_alloc | apply Kd.R_drewN | apply Kd.R_drew)); exact Kd.R_mono qe.out (fun _ hk => ⟨hk.2, ⟨hk.1.1, ⟨hk.1.2.1, hk.1.2.2⟩⟩⟩)), (by (with_reducible repeat (first | apply Kd.R_alloc | apply Kd.R_drewN | apply Kd.R_drew)); exact Kd.R_mono qf.out (fun _ hk => ⟨hk.2, ⟨hk.1.1, ⟨hk.1.2.1, hk.1.2.2⟩⟩⟩)), (by (with_reducible repeat (first | apply Kd.R_alloc | apply Kd.R_drewN | apply Kd.R_drew)); exact Kd.R_mono qg.out (fun _ hk => ⟨hk.2, ⟨hk.1.1, ⟨hk.1.2.1, hk.1.2.2⟩⟩⟩)), (kf_ qa), (kf_ qi), (kf_ ql), (kf_ qr), (kf_ qd), zc.out, zd.out, qk.out, qw.out, qx.out, qy.out, qz.out, qA.out, qB.out, qC.out, (bb_ HB)⟩)
               ·
                skip
                refine box_step ?hg (N := 19) ?hd (cs := #[.slice none 0 0, .int .i64 0, .bool false]) (t := 26) ?hr ?_; (case hd => rfl); (case hg => rfl); (case hr => first | (go_simp; done) | (go_simp; rfl))
                intro qb hg Jx hbox hb
                have HS3_ := (hb.cell (World.block_lt_of_cell? _ _ (hHeld.2.2.2.1))).trans (hHeld.2.2.2.1)
                have HS4_ := (hb.cell (World.block_lt_of_cell? _ _ (hHeld.2.2.2.2))).trans (hHeld.2.2.2.2)
                replace qh := rB_ qh hb; replace qc := rB_ qc hb; replace qe := rB_ qe hb; replace qf := rB_ qf hb; replace qg := rB_ qg hb; have qd := Aside0.mk (hbox); have zc := Aside0.mk ((by rw [hg]; exact (bz_ HB) : w.heap.size ≤ qb)); have zd := Aside0.mk ((by rw [hg]; exact (bz_ HB) : w.heap.size ≤ qb)); replace HB := bS_ HB hb; have qk := Aside0.mk ((nl_ qa hg : qj ≠ qb)); have qw := Aside0.mk ((ng_ qa hg : qb ≠ qj)); replace qa := kB_ qa hb; have qx := Aside0.mk ((nl_ qi hg : qq ≠ qb)); have qy := Aside0.mk ((ng_ qi hg : qb ≠ qq)); replace qi := kB_ qi hb; have qz := Aside0.mk ((nl_ ql hg : qD ≠ qb)); have qA := Aside0.mk ((ng_ ql hg : qb ≠ qD)); replace ql := kB_ ql hb; have qB := Aside0.mk ((nl_ qr hg : qF ≠ qb)); have qC := Aside0.mk ((ng_ qr hg : qb ≠ qF)); replace qr := kB_ qr hb; clear hb hbox hg
                refine hK.out _ _ ⟨bc_ qa 0, bc_ qa 1, bc_ qa 2, HS3_, HS4_⟩ (fun hHeld => ?_)
                clear hK K
                refine norm_ (a' := ?_) ?_ ?_
                rotate_left
                ·
                 show Act.put _ (some 19) _ = _
                 simp only [Act.put, List.setIfInBounds_toArray, List.set_cons_zero, List.set_cons_succ, i64_w, i32_w]
                 rfl
                refine one_ (i := 6) (N := some 110) #[true, true, true, true, true, true, true, false, false, false, true, false, false] rfl rfl (one_of HT_.out (by kernel_rfl)) (by decide) (fun K hK => ?_)
                refine goes_ Try.func13 (by kernel_rfl) rfl #[.agg #[.slice qH qm.length qG, .int .i64 qt, .bool qu], .int .i64 qo, .agg #[.int .i64 ((rd_T37 qn qo).f0), .int .i64 ((rd_T37 qn qo).f1)]] (by rfl) rfl rfl (by (try simp only [List.map_toArray, List.map_cons, List.map_nil]); first | done | rfl | (simp only [List.length_drop, List.length_take]; rfl)) ?_
                with_reducible refine (impl_FixVariable.calls k2 _ _ qm qt qu qo ((rd_T37 qn qo).f0) ((rd_T37 qn qo).f1) qQ qU qV true _ ?side1 ?side2 A77.out).mono ?_
                (case side1 => exact cr_ qc)
                (case side2 => exact (Kd.R_reads' qc.out).2.1)
                rintro e Jy ⟨q5, rfl, ho0, hb⟩
                have HS3_ := (hb.cell (World.block_lt_of_cell? _ _ (hHeld.2.2.2.1))).trans (hHeld.2.2.2.1)
                have HS4_ := (hb.cell (World.block_lt_of_cell? _ _ (hHeld.2.2.2.2))).trans (hHeld.2.2.2.2)
                refine ⟨_, rfl, ?_⟩
                replace qh := rB_ qh hb; have qR := Aside0.mk (Kd.R_lower (Kd.R_new' (Kd.R_new' (Kd.R_new' (Kd.R_new' ho0 (Kd.R_lt (rm_ qc))) (Kd.R_lt (rm_ qe))) (Kd.R_lt (rm_ qf))) (Kd.R_lt (rm_ qg))) (bz_ HB)); replace qc := Aside0.mk (Kd.R_elder' (rm_ qc) (Kd.R_base ho0) hb); replace qe := Aside0.mk (Kd.R_elder' (rm_ qe) (Kd.R_base ho0) hb); replace qf := Aside0.mk (Kd.R_elder' (rm_ qf) (Kd.R_base ho0) hb); replace qg := Aside0.mk (Kd.R_elder' (rm_ qg) (Kd.R_base ho0) hb); replace qa := kB_ qa hb; replace qi := kB_ qi hb; replace ql := kB_ ql hb; replace qr := kB_ qr hb; replace qd := kB_ qd hb; replace HB := bS_ HB hb; (try clear hb); (try clear hb2); (try clear hk); (try clear hi); (try clear ho0)
                refine hK.out _ _ ⟨bc_ qa 0, bc_ qa 1, bc_ qa 2, HS3_, HS4_⟩ (fun hHeld => ?_)
                clear hK K
                refine norm_ (a' := ?_) ?_ ?_
                rotate_left
                ·
                 show Act.put _ (some 110) _ = _
                 simp only [Act.put, List.setIfInBounds_toArray, List.set_cons_zero, List.set_cons_succ, i64_w, i32_w]
                 rfl
                refine pure_ (i := 7) (N := some 103) (v := ?_) (a' := ?_) #[true, true, true, true, true, true, true, true, false, false, true, false, false] rfl rfl (any_of HT_.out (by kernel_rfl)) (fun _ _ _ h => h) (Or.inl ⟨by rfl, ?_⟩) ?_ ?_
                rotate_left
                ·
                 intro w'
                 go_simp
                 with_reducible rfl
                rotate_left
                ·
                 simp only [Act.put, List.setIfInBounds_toArray, List.set_cons_zero, List.set_cons_succ, i64_w, i32_w]
                 rfl
                refine pure_ (i := 8) (N := some 111) (v := ?_) (a' := ?_) #[true, true, true, true, true, true, true, true, true, false, true, false, false] rfl rfl (any_of HT_.out (by kernel_rfl)) (fun _ _ _ h => h) (Or.inl ⟨by rfl, ?_⟩) ?_ ?_
                rotate_left
                ·
                 intro w'
                 go_simp
                 with_reducible rfl
                rotate_left
                ·
                 simp only [Act.put, List.setIfInBounds_toArray, List.set_cons_zero, List.set_cons_succ, i64_w, i32_w]
                 rfl
                refine pure_ (i := 9) (N := some 112) (v := ?_) (a' := ?_) #[true, true, true, true, true, true, true, true, true, true, true, false, false] rfl rfl (any_of HT_.out (by kernel_rfl)) (fun _ _ _ h => h) (Or.inl ⟨by rfl, ?_⟩) ?_ ?_
                rotate_left
                ·
                 intro w'
                 go_simp
                 with_reducible rfl
                rotate_left
                ·
                 simp only [Act.put, List.setIfInBounds_toArray, List.set_cons_zero, List.set_cons_succ, i64_w, i32_w]
                 rfl
                exact norm_ (by simp only [putAll, Act.put, List.setIfInBounds_toArray, List.set_cons_zero, List.set_cons_succ]) (hCont (q5, qb) _ ⟨hHeld, (by (with_reducible repeat (first | apply Kd.R_alloc | apply Kd.R_drewN | apply Kd.R_drew)); exact Kd.R_mono qR.out (fun _ hk => ⟨hk.1.1.1.2, ⟨hk.1.1.2, ⟨hk.1.2, hk.2⟩⟩⟩)), (rm_ qh), (by (with_reducible repeat (first | apply Kd.R_alloc | apply Kd.R_drewN | apply Kd.R_drew)); exact Kd.R_mono qc.out (fun _ hk => ⟨hk.2, ⟨hk.1.1, ⟨hk.1.2.1, hk.1.2.2⟩⟩⟩)), (by (with_reducible repeat (first | apply Kd.R_alloc | apply Kd.R_drewN | apply Kd.R_drew)); exact Kd.R_mono qe.out (fun _ hk => ⟨hk.2, ⟨hk.1.1, ⟨hk.1.2.1, hk.1.2.2⟩⟩⟩)), (by (with_reducible repeat (first | apply Kd.R_alloc | apply Kd.R_drewN | apply Kd.R_drew)); exact Kd.R_mono qf.out (fun _ hk => ⟨hk.2, ⟨hk.1.1, ⟨hk.1.2.1, hk.1.2.2⟩⟩⟩)), (by (with_reducible repeat (first | apply Kd.R_alloc | apply Kd.R_drewN | apply Kd.R_drew)); exact Kd.R_mono qg.out (fun _ hk => ⟨hk.2, ⟨hk.1.1, ⟨hk.1.2.1, hk.1.2.2⟩⟩⟩)), (kf_ qa), (kf_ qi), (kf_ ql), (kf_ qr), (kf_ qd), zc.out, zd.out, qk.out, qw.out, qx.out, qy.out, qz.out, qA.out, qB.out, qC.out, (bb_ HB)⟩)
              rintro ⟨q5, qb⟩ zl ⟨hS_, h0_, h1_, h2_, h3_, h4_, h5_, h6_, h7_, h8_, h9_, h10_, h11_, h12_, h13_, h14_, h15_, h16_, h17_, h18_, h19_, h20_, h21_⟩
              have n0_ : Aside0 (Kd.R (Kd.int .i64) 3 zl w.heap.size (fun k_ => some k_ ≠ (.slice qH qm.length qG : Value).ownBlock ∧ some k_ ≠ (.slice qM qv.length qL : Value).ownBlock ∧ some k_ ≠ (.slice qO qE.length qP : Value).ownBlock ∧ some k_ ≠ (.slice qS qK.length qT : Value).ownBlock) q5 qQ) := ⟨h0_⟩
              have n1_ : Aside0 (Kd.R k37 37 zl w.heap.size (fun _ => True) (.slice (some qN) qn.length zj) qn) := ⟨h1_⟩
              have n2_ : Aside0 (Kd.R (Kd.int .i64) 3 zl w.heap.size (fun k_ => some k_ ≠ (q5 : Value).ownBlock ∧ some k_ ≠ (.slice qM qv.length qL : Value).ownBlock ∧ some k_ ≠ (.slice qO qE.length qP : Value).ownBlock ∧ some k_ ≠ (.slice qS qK.length qT : Value).ownBlock) (.slice qH qm.length qG) qm) := ⟨h2_⟩
              have n3_ : Aside0 (Kd.R (Kd.int .i64) 3 zl w.heap.size (fun k_ => some k_ ≠ (q5 : Value).ownBlock ∧ some k_ ≠ (.slice qH qm.length qG : Value).ownBlock ∧ some k_ ≠ (.slice qO qE.length qP : Value).ownBlock ∧ some k_ ≠ (.slice qS qK.length qT : Value).ownBlock) (.slice qM qv.length qL) qv) := ⟨h3_⟩
              have n4_ : Aside0 (Kd.R (Kd.int .i64) 3 zl w.heap.size (fun k_ => some k_ ≠ (q5 : Value).ownBlock ∧ some k_ ≠ (.slice qH qm.length qG : Value).ownBlock ∧ some k_ ≠ (.slice qM qv.length qL : Value).ownBlock ∧ some k_ ≠ (.slice qS qK.length qT : Value).ownBlock) (.slice qO qE.length qP) qE) := ⟨h4_⟩
              have n5_ : Aside0 (Kd.R (Kd.int .i64) 3 zl w.heap.size (fun k_ => some k_ ≠ (q5 : Value).ownBlock ∧ some k_ ≠ (.slice qH qm.length qG : Value).ownBlock ∧ some k_ ≠ (.slice qM qv.length qL : Value).ownBlock ∧ some k_ ≠ (.slice qO qE.length qP : Value).ownBlock) (.slice qS qK.length qT) qK) := ⟨h5_⟩
              have n6_ : Aside0 (zl.heap[qj]? = some (.cells #[.slice qH qm.length qG, .int .i64 qt, .bool qu] 26 (0, 0))) := ⟨h6_⟩
              have n7_ : Aside0 (zl.heap[qq]? = some (.cells #[.slice qM qv.length qL, .int .i64 qW, .bool qY] 26 (0, 0))) := ⟨h7_⟩
              have n8_ : Aside0 (zl.heap[qD]? = some (.cells #[.slice qO qE.length qP, .int .i64 q0, .bool q1] 26 (0, 0))) := ⟨h8_⟩
              have n9_ : Aside0 (zl.heap[qF]? = some (.cells #[.slice qS qK.length qT, .int .i64 zf, .bool zi] 26 (0, 0))) := ⟨h9_⟩
              have n10_ : Aside0 (zl.heap[qb]? = some (.cells #[.slice none 0 0, .int .i64 0, .bool false] 26 (0, 0))) := ⟨h10_⟩
              have n11_ : Aside0 (w.heap.size ≤ qb) := ⟨h11_⟩
              have n12_ : Aside0 (w.heap.size ≤ qb) := ⟨h12_⟩
              have n13_ : Aside0 (qj ≠ qb) := ⟨h13_⟩
              have n14_ : Aside0 (qb ≠ qj) := ⟨h14_⟩
              have n15_ : Aside0 (qq ≠ qb) := ⟨h15_⟩
              have n16_ : Aside0 (qb ≠ qq) := ⟨h16_⟩
              have n17_ : Aside0 (qD ≠ qb) := ⟨h17_⟩
              have n18_ : Aside0 (qb ≠ qD) := ⟨h18_⟩
              have n19_ : Aside0 (qF ≠ qb) := ⟨h19_⟩
              have n20_ : Aside0 (qb ≠ qF) := ⟨h20_⟩
              have n21_ : Aside0 (Below w.heap.size w zl) := ⟨h21_⟩
              clear qh
              clear qc
              clear qe
              clear qf
              clear qg
              clear qa
              clear qi
              clear ql
              clear qr
              clear HB
              clear h0_ h1_ h2_ h3_ h4_ h5_ h6_ h7_ h8_ h9_ h10_ h11_ h12_ h13_ h14_ h15_ h16_ h17_ h18_ h19_ h20_ h21_
              have qR := n0_
              have qh := n1_
              have qc := n2_
              have qe := n3_
              have qf := n4_
              have qg := n5_
              have qa := n6_
              have qi := n7_
              have ql := n8_
              have qr := n9_
              have qd := n10_
              have zc := n11_
              have zd := n12_
              have qk := n13_
              have qw := n14_
              have qx := n15_
              have qy := n16_
              have qz := n17_
              have qA := n18_
              have qB := n19_
              have qC := n20_
              have HB := n21_
              clear n0_ n1_ n2_ n3_ n4_ n5_ n6_ n7_ n8_ n9_ n10_ n11_ n12_ n13_ n14_ n15_ n16_ n17_ n18_ n19_ n20_ n21_
              have hHeld : zl.cell? ⟨qj, 0, none⟩ = some (.slice qH qm.length qG) ∧ zl.cell? ⟨qj, 1, none⟩ = some (.int .i64 qt) ∧ zl.cell? ⟨qj, 2, none⟩ = some (.bool qu) ∧ zl.cell? (qN.add ((qo).toNat * 2)) = some (.int .i64 ((rd_T37 qn qo).f0)) ∧ zl.cell? ⟨(qN.add ((qo).toNat * 2)).block, (qN.add ((qo).toNat * 2)).off + 1, none⟩ = some (.int .i64 ((rd_T37 qn qo).f1)) := hS_
              obtain ⟨zH, zD, eo115⟩ := Kd.R_slice qR.out
              (first | subst eo115 | (injection eo115 with f1_ f2_ f3_; have f4_ := f1_.symm; have f5_ := f3_.symm; clear f1_ f2_ f3_; subst f4_; subst f5_))
              refine norm_ (a' := ?_) ?_ ?_
              rotate_left
              ·
               simp only [putAll, Act.put, List.setIfInBounds_toArray, List.set_cons_zero, List.set_cons_succ]
               rfl
              refine one_ (i := 11) (N := none) #[true, true, true, true, true, true, true, true, true, true, true, true, false] rfl rfl (one_of HT_.out (by kernel_rfl)) (by decide) (fun K hK => ?_)
              have hs116 : zl.cell? ⟨qb, 0, none⟩ = some (.slice none 0 0) := bc_ qd 0
              have hfs116 := blk_frozen qd.out 0
              have hns116_0 := qk.out
              have hns116_1 := qx.out
              have hns116_2 := qz.out
              have hns116_3 := qB.out
              have hms116_0 := qw.out
              have hms116_1 := qy.out
              have hms116_2 := qA.out
              have hms116_3 := qC.out
              have hs117 : zl.cell? ⟨qb, 1, none⟩ = some (.int .i64 0) := bc_ qd 1
              have hfs117 := blk_frozen qd.out 1
              have hns117_0 := qk.out
              have hns117_1 := qx.out
              have hns117_2 := qz.out
              have hns117_3 := qB.out
              have hms117_0 := qw.out
              have hms117_1 := qy.out
              have hms117_2 := qA.out
              have hms117_3 := qC.out
              have hs118 : zl.cell? ⟨qb, 2, none⟩ = some (.bool false) := bc_ qd 2
              have hfs118 := blk_frozen qd.out 2
              have hns118_0 := qk.out
              have hns118_1 := qx.out
              have hns118_2 := qz.out
              have hns118_3 := qB.out
              have hms118_0 := qw.out
              have hms118_1 := qy.out
              have hms118_2 := qA.out
              have hms118_3 := qC.out
              refine skip_ (w1 := ?_) (by rfl) rfl ?_ ?_
              rotate_left
              ·
               go_simp
               rfl
              refine hK.out _ _ ⟨((cell_far (p := ⟨qb, _, none⟩) qk.out _).trans (((cell_far (p := ⟨qb, _, none⟩) qk.out _).trans (((cell_far (p := ⟨qb, _, none⟩) qk.out _).trans (hHeld.1)))))), ((cell_far (p := ⟨qb, _, none⟩) qk.out _).trans (((cell_far (p := ⟨qb, _, none⟩) qk.out _).trans (((cell_far (p := ⟨qb, _, none⟩) qk.out _).trans (hHeld.2.1)))))), ((cell_far (p := ⟨qb, _, none⟩) qk.out _).trans (((cell_far (p := ⟨qb, _, none⟩) qk.out _).trans (((cell_far (p := ⟨qb, _, none⟩) qk.out _).trans (hHeld.2.2.1)))))), ((cell_far (p := ⟨qb, _, none⟩) (by first | exact Kd.own_blk (Kd.R_ne qh.out qd.out (by decide)) | (rw [add_block]; exact Kd.own_blk (Kd.R_ne qh.out qd.out (by decide))) | (show (Addr.add _ _).block ≠ _; rw [add_block]; exact Kd.own_blk (Kd.R_ne qh.out qd.out (by decide))) | (dsimp only; exact Kd.own_blk (Kd.R_ne qh.out qd.out (by decide)))) _).trans (((cell_far (p := ⟨qb, _, none⟩) (by first | exact Kd.own_blk (Kd.R_ne qh.out qd.out (by decide)) | (rw [add_block]; exact Kd.own_blk (Kd.R_ne qh.out qd.out (by decide))) | (show (Addr.add _ _).block ≠ _; rw [add_block]; exact Kd.own_blk (Kd.R_ne qh.out qd.out (by decide))) | (dsimp only; exact Kd.own_blk (Kd.R_ne qh.out qd.out (by decide)))) _).trans (((cell_far (p := ⟨qb, _, none⟩) (by first | exact Kd.own_blk (Kd.R_ne qh.out qd.out (by decide)) | (rw [add_block]; exact Kd.own_blk (Kd.R_ne qh.out qd.out (by decide))) | (show (Addr.add _ _).block ≠ _; rw [add_block]; exact Kd.own_blk (Kd.R_ne qh.out qd.out (by decide))) | (dsimp only; exact Kd.own_blk (Kd.R_ne qh.out qd.out (by decide)))) _).trans (hHeld.2.2.2.1)))))), ((cell_far (p := ⟨qb, _, none⟩) (by first | exact Kd.own_blk (Kd.R_ne qh.out qd.out (by decide)) | (rw [add_block]; exact Kd.own_blk (Kd.R_ne qh.out qd.out (by decide))) | (show (Addr.add _ _).block ≠ _; rw [add_block]; exact Kd.own_blk (Kd.R_ne qh.out qd.out (by decide))) | (dsimp only; exact Kd.own_blk (Kd.R_ne qh.out qd.out (by decide)))) _).trans (((cell_far (p := ⟨qb, _, none⟩) (by first | exact Kd.own_blk (Kd.R_ne qh.out qd.out (by decide)) | (rw [add_block]; exact Kd.own_blk (Kd.R_ne qh.out qd.out (by decide))) | (show (Addr.add _ _).block ≠ _; rw [add_block]; exact Kd.own_blk (Kd.R_ne qh.out qd.out (by decide))) | (dsimp only; exact Kd.own_blk (Kd.R_ne qh.out qd.out (by decide)))) _).trans (((cell_far (p := ⟨qb, _, none⟩) (by first | exact Kd.own_blk (Kd.R_ne qh.out qd.out (by decide)) | (rw [add_block]; exact Kd.own_blk (Kd.R_ne qh.out qd.out (by decide))) | (show (Addr.add _ _).block ≠ _; rw [add_block]; exact Kd.own_blk (Kd.R_ne qh.out qd.out (by decide))) | (dsimp only; exact Kd.own_blk (Kd.R_ne qh.out qd.out (by decide)))) _).trans (hHeld.2.2.2.2))))))⟩ (fun hHeld => ?_)
              clear hK K
              refine pure_ (i := 12) (N := some 20) (v := ?_) (a' := ?_) #[true, true, true, true, true, true, true, true, true, true, true, true, true] rfl rfl (any_of HT_.out (by kernel_rfl)) (fun _ _ _ h => h) (Or.inl ⟨by rfl, ?_⟩) ?_ ?_
              rotate_left
              ·
               intro w'
               go_simp
               with_reducible rfl
              rotate_left
              ·
               simp only [Act.put, List.setIfInBounds_toArray, List.set_cons_zero, List.set_cons_succ, i64_w, i32_w]
               rfl
              refine done_ (done_of HT_.out (by kernel_rfl)) ?_
              have Jz := qw.out
              have JA := qk.out
              have JB := qy.out
              have JC := qx.out
              have JD := qA.out
              have JE := qz.out
              have JF := qC.out
              have JG := qB.out
              have Zh : zl.cell? ⟨qb, 0, none⟩ = some (.slice none 0 0) := bc_ qd 0
              have Zi : zl.cell? ⟨qb, 1, none⟩ = some (.int .i64 0) := bc_ qd 1
              have Zj : zl.cell? ⟨qb, 2, none⟩ = some (.bool false) := bc_ qd 2
              have Zk := blk_frozen qd.out 0
              have Zl := blk_frozen qd.out 1
              have Zm := blk_frozen qd.out 2
              try go_wp2_with (first | ((with_reducible refine gate_callee (f := 12) rfl ?_); refine goesL_ (some 116) rfl rfl Try.func12 (by kernel_rfl) rfl #[.agg #[.slice zH qQ.length zD, .int .i64 qU, .bool qV], .slice (some qN) qn.length zj] rfl (by (try simp only [List.map_toArray, List.map_cons, List.map_nil]); first | done | rfl | (simp only [List.length_drop, List.length_take]; rfl)) ?_; (with_reducible refine (impl_HoldsAt.calls k2 _ _ qQ qU qV _ _ qn zP true _ ?side1 ?side2 ?side3 ?side4 A78.out).mono ?_); (case side1 => refine (Kd.R_reads' (e := 3) (base := w.heap.size) (ok := fun k_ => (some k_ ≠ (.slice qH qm.length qG : Value).ownBlock ∧ (some k_ ≠ (.slice qM qv.length qL : Value).ownBlock ∧ (some k_ ≠ (.slice qO qE.length qP : Value).ownBlock ∧ some k_ ≠ (.slice qS qK.length qT : Value).ownBlock)))) (n := qQ.length) (c := zD) ?_).2.2; exact (by (with_reducible repeat (first | apply Kd.R_alloc | apply Kd.R_drewN | apply Kd.R_drew)); exact (rt3_ qR qd (by decide) 0 1 2 (.slice zH qQ.length zD) (.int .i64 qU) (.bool qV)))); (case side2 => exact (Kd.R_reads' qR.out).2.1); (case side3 => refine (Kd.R_reads' (e := 37) (base := w.heap.size) (ok := fun k_ => True) (n := qn.length) (c := zj) ?_).2.2; exact (by (with_reducible repeat (first | apply Kd.R_alloc | apply Kd.R_drewN | apply Kd.R_drew)); exact (rt3_ qh qd (by decide) 0 1 2 (.slice zH qQ.length zD) (.int .i64 qU) (.bool qV)))); (case side4 => exact (Kd.R_reads' qh.out).2.1); rintro e XX ⟨rfl, hb⟩; refine ⟨_, rfl, ?_⟩; replace qh := Aside0.mk (Kd.R_below (by (with_reducible repeat (first | apply Kd.R_alloc | apply Kd.R_drewN | apply Kd.R_drew)); exact (rt3_ qh qd (by decide) 0 1 2 (.slice zH qQ.length zD) (.int .i64 qU) (.bool qV))) hb); replace qc := Aside0.mk (Kd.R_below (by (with_reducible repeat (first | apply Kd.R_alloc | apply Kd.R_drewN | apply Kd.R_drew)); exact (rt3_ qc qd (by decide) 0 1 2 (.slice zH qQ.length zD) (.int .i64 qU) (.bool qV))) hb); replace qe := Aside0.mk (Kd.R_below (by (with_reducible repeat (first | apply Kd.R_alloc | apply Kd.R_drewN | apply Kd.R_drew)); exact (rt3_ qe qd (by decide) 0 1 2 (.slice zH qQ.length zD) (.int .i64 qU) (.bool qV))) hb); replace qf := Aside0.mk (Kd.R_below (by (with_reducible repeat (first | apply Kd.R_alloc | apply Kd.R_drewN | apply Kd.R_drew)); exact (rt3_ qf qd (by decide) 0 1 2 (.slice zH qQ.length zD) (.int .i64 qU) (.bool qV))) hb); replace qg := Aside0.mk (Kd.R_below (by (with_reducible repeat (first | apply Kd.R_alloc | apply Kd.R_drewN | apply Kd.R_drew)); exact (rt3_ qg qd (by decide) 0 1 2 (.slice zH qQ.length zD) (.int .i64 qU) (.bool qV))) hb); replace qR := Aside0.mk (Kd.R_below (by (with_reducible repeat (first | apply Kd.R_alloc | apply Kd.R_drewN | apply Kd.R_drew)); exact (rt3_ qR qd (by decide) 0 1 2 (.slice zH qQ.length zD) (.int .i64 qU) (.bool qV))) hb); replace qa := Aside0.mk (blk_below (g := qj) (o := .cells #[.slice qH qm.length qG, .int .i64 qt, .bool qu] 26 (0, 0)) (kf_ qa) hb); replace qi := Aside0.mk (blk_below (g := qq) (o := .cells #[.slice qM qv.length qL, .int .i64 qW, .bool qY] 26 (0, 0)) (kf_ qi) hb); replace ql := Aside0.mk (blk_below (g := qD) (o := .cells #[.slice qO qE.length qP, .int .i64 q0, .bool q1] 26 (0, 0)) (kf_ ql) hb); replace qr := Aside0.mk (blk_below (g := qF) (o := .cells #[.slice qS qK.length qT, .int .i64 zf, .bool zi] 26 (0, 0)) (kf_ qr) hb); replace qd := Aside0.mk (blk_below (g := qb) (o := .cells #[.slice zH qQ.length zD, .int .i64 qU, .bool qV] 26 (0, 0)) (by (with_reducible repeat (first | refine blk_drewN ?_ _ | refine blk_drew ?_ | refine blk_alloc ?_ _)); refine blk_put (cs := #[.slice zH qQ.length zD, .int .i64 qU, .bool false]) ?_ 2 _ rfl; (with_reducible repeat (first | refine blk_drewN ?_ _ | refine blk_drew ?_ | refine blk_alloc ?_ _)); refine blk_put (cs := #[.slice zH qQ.length zD, .int .i64 0, .bool false]) ?_ 1 _ rfl; (with_reducible repeat (first | refine blk_drewN ?_ _ | refine blk_drew ?_ | refine blk_alloc ?_ _)); refine blk_put (cs := #[.slice none 0 0, .int .i64 0, .bool false]) ?_ 0 _ rfl; (with_reducible repeat (first | refine blk_drewN ?_ _ | refine blk_drew ?_ | refine blk_alloc ?_ _)); exact qd.out) hb); replace HB := bS_ HB hb; (try clear hb); (try clear hb2); (try clear hk); (try clear hi)))
              go_roundg k2
              case measure => have := HJ35.out; have := HK2.out; omega
              case rel => exact ⟨(wrap64 (qo + 1)), (by first | rfl | (simp; done) | (simp [*]; done)), H', ⟨by have := HJ35.out; have := HK2.out; omega⟩, ⟨by (with_reducible repeat (first | apply Kd.R_alloc | apply Kd.R_drewN | apply Kd.R_drew)); exact qh.out⟩, ⟨by (with_reducible repeat (first | apply Kd.R_alloc | apply Kd.R_drewN | apply Kd.R_drew)); exact Kd.R_mono qc.out (fun _ hk => ⟨hk.2.1, ⟨hk.2.2.1, hk.2.2.2⟩⟩)⟩, ⟨by (with_reducible repeat (first | apply Kd.R_alloc | apply Kd.R_drewN | apply Kd.R_drew)); exact Kd.R_mono qe.out (fun _ hk => ⟨hk.2.1, ⟨hk.2.2.1, hk.2.2.2⟩⟩)⟩, ⟨by (with_reducible repeat (first | apply Kd.R_alloc | apply Kd.R_drewN | apply Kd.R_drew)); exact Kd.R_mono qf.out (fun _ hk => ⟨hk.2.1, ⟨hk.2.2.1, hk.2.2.2⟩⟩)⟩, ⟨by (with_reducible repeat (first | apply Kd.R_alloc | apply Kd.R_drewN | apply Kd.R_drew)); exact Kd.R_mono qg.out (fun _ hk => ⟨hk.2.1, ⟨hk.2.2.1, hk.2.2.2⟩⟩)⟩, ⟨kf_ qa⟩, ⟨kf_ qi⟩, ⟨kf_ ql⟩, ⟨kf_ qr⟩, ⟨bb_ HB⟩⟩
            ·
             replace c80 := Bool.eq_false_iff.mpr c80
             subst c80
             have H1 : (laws_FnMixed.l0 k2 qn qX q7 (wrap64 (qo + 1)) qm qt qu) = some r := by rw [if_neg (show ¬ (false = true) by decide)] at H; exact H
             clear H
             have H := H1
             clear H1
             have H' := Aside0.mk H
             clear H
             try go_wp2
             replace qh := Aside0.mk (Kd.R_drew qh.out); replace qc := Aside0.mk (Kd.R_drew qc.out); replace qe := Aside0.mk (Kd.R_drew qe.out); replace qf := Aside0.mk (Kd.R_drew qf.out); replace qg := Aside0.mk (Kd.R_drew qg.out); replace qa := Aside0.mk (blk_drew qa.out); replace qi := Aside0.mk (blk_drew qi.out); replace ql := Aside0.mk (blk_drew ql.out); replace qr := Aside0.mk (blk_drew qr.out); replace HB := Aside0.mk (below_drew1 HB.out)
             have p481 : 0 ≤ (qo : Int) := of_decide_eq_true (by first | (with_reducible assumption) | assumption)
             have q481 : qo < (qn.length : Int) := of_decide_eq_true (by first | (with_reducible assumption) | assumption)
             obtain ⟨qN, e481, za, zb⟩ := at_T37 (Kd.R_reads' qh.out).2.2 qo p481 q481
             cases e481
             replace p481 := eq_true p481
             replace q481 := eq_true q481
             refine start_ (n := 13) (S := fun w' => w'.cell? ⟨qj, 0, none⟩ = some (.slice qH qm.length qG) ∧ w'.cell? ⟨qj, 1, none⟩ = some (.int .i64 qt) ∧ w'.cell? ⟨qj, 2, none⟩ = some (.bool qu) ∧ w'.cell? (qN.add ((qo).toNat * 2)) = some (.int .i64 ((rd_T37 qn qo).f0)) ∧ w'.cell? ⟨(qN.add ((qo).toNat * 2)).block, (qN.add ((qo).toNat * 2)).off + 1, none⟩ = some (.int .i64 ((rd_T37 qn qo).f1))) (ds := []) #[false, false, false, false, false, false, false, false, false, false, false, false, false] (by kernel_rfl) rfl rfl ⟨bc_ qa 0, bc_ qa 1, bc_ qa 2, za, zb⟩ (fun hHeld => ?_); refine with_tabW laws_FnMixed.tab19 laws_FnMixed.bits19 (fun HT_ HW_ => ?_)
             generalize wr.drew = XY at qh qc qe qf qg qa qi ql qr HB za zb hHeld ⊢
             refine pure_ (i := 1) (N := some 105) (v := ?_) (a' := ?_) #[false, true, false, false, false, false, false, false, false, false, false, false, false] rfl rfl (any_of HT_.out (by kernel_rfl)) (fun _ _ _ h => h) (Or.inl ⟨by rfl, ?_⟩) ?_ ?_
             rotate_left
             ·
              intro w'
              go_simp
              with_reducible rfl
             rotate_left
             ·
              simp only [Act.put, List.setIfInBounds_toArray, List.set_cons_zero, List.set_cons_succ, i64_w, i32_w]
              rfl
             refine pure_ (i := 2) (N := some 106) (v := ?_) (a' := ?_) #[false, true, true, false, false, false, false, false, false, false, false, false, false] rfl rfl (any_of HT_.out (by kernel_rfl)) (fun _ _ _ h => h) (Or.inl ⟨by rfl, ?_⟩) ?_ ?_
             rotate_left
             ·
              intro w'
              go_simp
              with_reducible rfl
             rotate_left
             ·
              simp only [Act.put, List.setIfInBounds_toArray, List.set_cons_zero, List.set_cons_succ, i64_w, i32_w]
              rfl
             refine pure_ (i := 3) (N := some 107) (v := ?_) (a' := ?_) #[false, true, true, true, false, false, false, false, false, false, false, false, false] rfl rfl (any_of HT_.out (by kernel_rfl)) (fun _ _ _ h => h) (Or.inl ⟨by rfl, ?_⟩) ?_ ?_
             rotate_left
             ·
              intro w'
              go_simp
              with_reducible rfl
             rotate_left
             ·
              simp only [Act.put, List.setIfInBounds_toArray, List.set_cons_zero, List.set_cons_succ, i64_w, i32_w]
              rfl
             refine pure_ (i := 4) (N := some 108) (v := ?_) (a' := ?_) #[false, true, true, true, true, false, false, false, false, false, false, false, false] rfl rfl (any_of HT_.out (by kernel_rfl)) (fun _ _ _ h => h) (Or.inl ⟨by rfl, ?_⟩) ?_ ?_
             rotate_left
             ·
              intro w'
              go_simp
              with_reducible rfl
             rotate_left
             ·
              simp only [Act.put, List.setIfInBounds_toArray, List.set_cons_zero, List.set_cons_succ, i64_w, i32_w]
              rfl
             refine take_ (i := 0) (N := some 104) (v := ?_) (a' := ?_) #[true, true, true, true, true, false, false, false, false, false, false, false, false] rfl rfl (take_ofW HT_.out HW_.out (by kernel_rfl)) (fun _ _ _ h => h) (Or.inl ⟨by rfl, ?_⟩) hHeld ?_ ?_
             rotate_left
             ·
              rintro w' ⟨s0, s1, s2, s3, s4⟩
              go_simp
              with_reducible rfl
             rotate_left
             ·
              simp only [Act.put, List.setIfInBounds_toArray, List.set_cons_zero, List.set_cons_succ, i64_w, i32_w]
              rfl
             refine take_ (i := 5) (N := some 109) (v := ?_) (a' := ?_) #[true, true, true, true, true, true, false, false, false, false, false, false, false] rfl rfl (take_ofW HT_.out HW_.out (by kernel_rfl)) (fun _ _ _ h => h) (Or.inl ⟨by rfl, ?_⟩) hHeld ?_ ?_
             rotate_left
             ·
              rintro w' ⟨s0, s1, s2, s3, s4⟩
              go_simp
              with_reducible rfl
             rotate_left
             ·
              simp only [Act.put, List.setIfInBounds_toArray, List.set_cons_zero, List.set_cons_succ, i64_w, i32_w]
              rfl
             refine join_ (σ := Value × Nat) 2 #[true, true, true, true, true, true, true, true, true, true, true, false, false] (fun s_ => [(110, .tuple #[.agg #[s_.1, .int .i64 qU, .bool qV], .bool true]), (19, .pointer (some ⟨s_.2, 0, none⟩)), (103, .tuple #[.agg #[s_.1, .int .i64 qU, .bool qV], .bool true]), (111, .agg #[s_.1, .int .i64 qU, .bool qV]), (112, .bool true)]) (fun s_ w' => (w'.cell? ⟨qj, 0, none⟩ = some (.slice qH qm.length qG) ∧ w'.cell? ⟨qj, 1, none⟩ = some (.int .i64 qt) ∧ w'.cell? ⟨qj, 2, none⟩ = some (.bool qu) ∧ w'.cell? (qN.add ((qo).toNat * 2)) = some (.int .i64 ((rd_T37 qn qo).f0)) ∧ w'.cell? ⟨(qN.add ((qo).toNat * 2)).block, (qN.add ((qo).toNat * 2)).off + 1, none⟩ = some (.int .i64 ((rd_T37 qn qo).f1))) ∧ (Kd.R (Kd.int .i64) 3 w' w.heap.size (fun k_ => some k_ ≠ (.slice qH qm.length qG : Value).ownBlock ∧ some k_ ≠ (.slice qM qv.length qL : Value).ownBlock ∧ some k_ ≠ (.slice qO qE.length qP : Value).ownBlock ∧ some k_ ≠ (.slice qS qK.length qT : Value).ownBlock) s_.1 qQ) ∧ (Kd.R k37 37 w' w.heap.size (fun _ => True) (.slice (some qN) qn.length zj) qn) ∧ (Kd.R (Kd.int .i64) 3 w' w.heap.size (fun k_ => some k_ ≠ (s_.1 : Value).ownBlock ∧ some k_ ≠ (.slice qM qv.length qL : Value).ownBlock ∧ some k_ ≠ (.slice qO qE.length qP : Value).ownBlock ∧ some k_ ≠ (.slice qS qK.length qT : Value).ownBlock) (.slice qH qm.length qG) qm) ∧ (Kd.R (Kd.int .i64) 3 w' w.heap.size (fun k_ => some k_ ≠ (s_.1 : Value).ownBlock ∧ some k_ ≠ (.slice qH qm.length qG : Value).ownBlock ∧ some k_ ≠ (.slice qO qE.length qP : Value).ownBlock ∧ some k_ ≠ (.slice qS qK.length qT : Value).ownBlock) (.slice qM qv.length qL) qv) ∧ (Kd.R (Kd.int .i64) 3 w' w.heap.size (fun k_ => some k_ ≠ (s_.1 : Value).ownBlock ∧ some k_ ≠ (.slice qH qm.length qG : Value).ownBlock ∧ some k_ ≠ (.slice qM qv.length qL : Value).ownBlock ∧ some k_ ≠ (.slice qS qK.length qT : Value).ownBlock) (.slice qO qE.length qP) qE) ∧ (Kd.R (Kd.int .i64) 3 w' w.heap.size (fun k_ => some k_ ≠ (s_.1 : Value).ownBlock ∧ some k_ ≠ (.slice qH qm.length qG : Value).ownBlock ∧ some k_ ≠ (.slice qM qv.length qL : Value).ownBlock ∧ some k_ ≠ (.slice qO qE.length qP : Value).ownBlock) (.slice qS qK.length qT) qK) ∧ (w'.heap[qj]? = some (.cells #[.slice qH qm.length qG, .int .i64 qt, .bool qu] 26 (0, 0))) ∧ (w'.heap[qq]? = some (.cells #[.slice qM qv.length qL, .int .i64 qW, .bool qY] 26 (0, 0))) ∧ (w'.heap[qD]? = some (.cells #[.slice qO qE.length qP, .int .i64 q0, .bool q1] 26 (0, 0))) ∧ (w'.heap[qF]? = some (.cells #[.slice qS qK.length qT, .int .i64 zf, .bool zi] 26 (0, 0))) ∧ (w'.heap[s_.2]? = some (.cells #[.slice none 0 0, .int .i64 0, .bool false] 26 (0, 0))) ∧ (w.heap.size ≤ s_.2) ∧ (w.heap.size ≤ s_.2) ∧ (qj ≠ s_.2) ∧ (s_.2 ≠ qj) ∧ (qq ≠ s_.2) ∧ (s_.2 ≠ qq) ∧ (qD ≠ s_.2) ∧ (s_.2 ≠ qD) ∧ (qF ≠ s_.2) ∧ (s_.2 ≠ qF) ∧ (Below w.heap.size w w')) ?_ ?_
             rotate_left
             ·
              intro hCont
              refine two_ (i := 6) (j := 10) (Ni := some 110) (Nj := some 19) #[true, true, true, true, true, true, true, false, false, false, false, false, false] #[true, true, true, true, true, true, false, false, false, false, true, false, false] rfl rfl rfl rfl (two_of HT_.out (by kernel_rfl)) (by decide) (by decide) (fun K hK => ?_) (fun K hK => ?_)
              ·
               skip
               refine goes_ Try.func13 (by kernel_rfl) rfl #[.agg #[.slice qH qm.length qG, .int .i64 qt, .bool qu], .int .i64 qo, .agg #[.int .i64 ((rd_T37 qn qo).f0), .int .i64 ((rd_T37 qn qo).f1)]] (by rfl) rfl rfl (by (try simp only [List.map_toArray, List.map_cons, List.map_nil]); first | done | rfl | (simp only [List.length_drop, List.length_take]; rfl)) ?_
               with_reducible refine (impl_FixVariable.calls k2 _ _ qm qt qu qo ((rd_T37 qn qo).f0) ((rd_T37 qn qo).f1) qQ qU qV true _ ?side1 ?side2 A77.out).mono ?_
               (case side1 => exact cr_ qc)
               (case side2 => exact (Kd.R_reads' qc.out).2.1)
               rintro e JH ⟨q5, rfl, ho0, hb⟩
               have HS3_ := (hb.cell (World.block_lt_of_cell? _ _ (hHeld.2.2.2.1))).trans (hHeld.2.2.2.1)
               have HS4_ := (hb.cell (World.block_lt_of_cell? _ _ (hHeld.2.2.2.2))).trans (hHeld.2.2.2.2)
               refine ⟨_, rfl, ?_⟩
               replace qh := rB_ qh hb; have qR := Aside0.mk (Kd.R_lower (Kd.R_new' (Kd.R_new' (Kd.R_new' (Kd.R_new' ho0 (Kd.R_lt (rm_ qc))) (Kd.R_lt (rm_ qe))) (Kd.R_lt (rm_ qf))) (Kd.R_lt (rm_ qg))) (bz_ HB)); replace qc := Aside0.mk (Kd.R_elder' (rm_ qc) (Kd.R_base ho0) hb); replace qe := Aside0.mk (Kd.R_elder' (rm_ qe) (Kd.R_base ho0) hb); replace qf := Aside0.mk (Kd.R_elder' (rm_ qf) (Kd.R_base ho0) hb); replace qg := Aside0.mk (Kd.R_elder' (rm_ qg) (Kd.R_base ho0) hb); replace qa := kB_ qa hb; replace qi := kB_ qi hb; replace ql := kB_ ql hb; replace qr := kB_ qr hb; replace HB := bS_ HB hb; (try clear hb); (try clear hb2); (try clear hk); (try clear hi); (try clear ho0)
               refine hK.out _ _ ⟨bc_ qa 0, bc_ qa 1, bc_ qa 2, HS3_, HS4_⟩ (fun hHeld => ?_)
               clear hK K
               refine norm_ (a' := ?_) ?_ ?_
               rotate_left
               ·
                show Act.put _ (some 110) _ = _
                simp only [Act.put, List.setIfInBounds_toArray, List.set_cons_zero, List.set_cons_succ, i64_w, i32_w]
                rfl
               refine pure_ (i := 7) (N := some 103) (v := ?_) (a' := ?_) #[true, true, true, true, true, true, true, true, false, false, false, false, false] rfl rfl (any_of HT_.out (by kernel_rfl)) (fun _ _ _ h => h) (Or.inl ⟨by rfl, ?_⟩) ?_ ?_
               rotate_left
               ·
                intro w'
                go_simp
                with_reducible rfl
               rotate_left
               ·
                simp only [Act.put, List.setIfInBounds_toArray, List.set_cons_zero, List.set_cons_succ, i64_w, i32_w]
                rfl
               refine pure_ (i := 8) (N := some 111) (v := ?_) (a' := ?_) #[true, true, true, true, true, true, true, true, true, false, false, false, false] rfl rfl (any_of HT_.out (by kernel_rfl)) (fun _ _ _ h => h) (Or.inl ⟨by rfl, ?_⟩) ?_ ?_
               rotate_left
               ·
                intro w'
                go_simp
                with_reducible rfl
               rotate_left
               ·
                simp only [Act.put, List.setIfInBounds_toArray, List.set_cons_zero, List.set_cons_succ, i64_w, i32_w]
                rfl
               refine pure_ (i := 9) (N := some 112) (v := ?_) (a' := ?_) #[true, true, true, true, true, true, true, true, true, true, false, false, false] rfl rfl (any_of HT_.out (by kernel_rfl)) (fun _ _ _ h => h) (Or.inl ⟨by rfl, ?_⟩) ?_ ?_
               rotate_left
               ·
                intro w'
                go_simp
                with_reducible rfl
               rotate_left
               ·
                simp only [Act.put, List.setIfInBounds_toArray, List.set_cons_zero, List.set_cons_succ, i64_w, i32_w]
                rfl
               refine one_ (i := 10) (N := some 19) #[true, true, true, true, true, true, true, true, true, true, true, false, false] rfl rfl (one_of HT_.out (by kernel_rfl)) (by decide) (fun K hK => ?_)
               refine box_step ?hg (N := 19) ?hd (cs := #[.slice none 0 0, .int .i64 0, .bool false]) (t := 26) ?hr ?_; (case hd => rfl); (case hg => rfl); (case hr => first | (go_simp; done) | (go_simp; rfl))
               intro qb hg JI hbox hb
               have HS3_ := (hb.cell (World.block_lt_of_cell? _ _ (hHeld.2.2.2.1))).trans (hHeld.2.2.2.1)
               have HS4_ := (hb.cell (World.block_lt_of_cell? _ _ (hHeld.2.2.2.2))).trans (hHeld.2.2.2.2)
               replace qh := rB_ qh hb; replace qc := rB_ qc hb; replace qe := rB_ qe hb; replace qf := rB_ qf hb; replace qg := rB_ qg hb; replace qR := rB_ qR hb; have qd := Aside0.mk (hbox); have zc := Aside0.mk ((by rw [hg]; exact (bz_ HB) : w.heap.size ≤ qb)); have zd := Aside0.mk ((by rw [hg]; exact (bz_ HB) : w.heap.size ≤ qb)); replace HB := bS_ HB hb; have qk := Aside0.mk ((nl_ qa hg : qj ≠ qb)); have qw := Aside0.mk ((ng_ qa hg : qb ≠ qj)); replace qa := kB_ qa hb; have qx := Aside0.mk ((nl_ qi hg : qq ≠ qb)); have qy := Aside0.mk ((ng_ qi hg : qb ≠ qq)); replace qi := kB_ qi hb; have qz := Aside0.mk ((nl_ ql hg : qD ≠ qb)); have qA := Aside0.mk ((ng_ ql hg : qb ≠ qD)); replace ql := kB_ ql hb; have qB := Aside0.mk ((nl_ qr hg : qF ≠ qb)); have qC := Aside0.mk ((ng_ qr hg : qb ≠ qF)); replace qr := kB_ qr hb; clear hb hbox hg
               refine hK.out _ _ ⟨bc_ qa 0, bc_ qa 1, bc_ qa 2, HS3_, HS4_⟩ (fun hHeld => ?_)
               clear hK K
               refine norm_ (a' := ?_) ?_ ?_
               rotate_left
               ·
                show Act.put _ (some 19) _ = _
                simp only [Act.put, List.setIfInBounds_toArray, List.set_cons_zero, List.set_cons_succ, i64_w, i32_w]
                rfl
               exact norm_ (by simp only [putAll, Act.put, List.setIfInBounds_toArray, List.set_cons_zero, List.set_cons_succ]) (hCont (q5, qb) _ ⟨hHeld, (by (with_reducible repeat (first | apply Kd.R_alloc | apply Kd.R_drewN | apply Kd.R_drew)); exact Kd.R_mono qR.out (fun _ hk => ⟨hk.1.1.1.2, ⟨hk.1.1.2, ⟨hk.1.2, hk.2⟩⟩⟩)), (rm_ qh), (by (with_reducible repeat (first | apply Kd.R_alloc | apply Kd.R_drewN | apply Kd.R_drew)); exact Kd.R_mono qc.out (fun _ hk => ⟨hk.2, ⟨hk.1.1, ⟨hk.1.2.1, hk.1.2.2⟩⟩⟩)), (by (with_reducible repeat (first | apply Kd.R_alloc | apply Kd.R_drewN | apply Kd.R_drew)); exact Kd.R_mono qe.out (fun _ hk => ⟨hk.2, ⟨hk.1.1, ⟨hk.1.2.1, hk.1.2.2⟩⟩⟩)), (by (with_reducible repeat (first | apply Kd.R_alloc | apply Kd.R_drewN | apply Kd.R_drew)); exact Kd.R_mono qf.out (fun _ hk => ⟨hk.2, ⟨hk.1.1, ⟨hk.1.2.1, hk.1.2.2⟩⟩⟩)), (by (with_reducible repeat (first | apply Kd.R_alloc | apply Kd.R_drewN | apply Kd.R_drew)); exact Kd.R_mono qg.out (fun _ hk => ⟨hk.2, ⟨hk.1.1, ⟨hk.1.2.1, hk.1.2.2⟩⟩⟩)), (kf_ qa), (kf_ qi), (kf_ ql), (kf_ qr), (kf_ qd), zc.out, zd.out, qk.out, qw.out, qx.out, qy.out, qz.out, qA.out, qB.out, qC.out, (bb_ HB)⟩)
              ·
               skip
               refine box_step ?hg (N := 19) ?hd (cs := #[.slice none 0 0, .int .i64 0, .bool false]) (t := 26) ?hr ?_; (case hd => rfl); (case hg => rfl); (case hr => first | (go_simp; done) | (go_simp; rfl))
               intro qb hg JH hbox hb
               have HS3_ := (hb.cell (World.block_lt_of_cell? _ _ (hHeld.2.2.2.1))).trans (hHeld.2.2.2.1)
               have HS4_ := (hb.cell (World.block_lt_of_cell? _ _ (hHeld.2.2.2.2))).trans (hHeld.2.2.2.2)
               replace qh := rB_ qh hb; replace qc := rB_ qc hb; replace qe := rB_ qe hb; replace qf := rB_ qf hb; replace qg := rB_ qg hb; have qd := Aside0.mk (hbox); have zc := Aside0.mk ((by rw [hg]; exact (bz_ HB) : w.heap.size ≤ qb)); have zd := Aside0.mk ((by rw [hg]; exact (bz_ HB) : w.heap.size ≤ qb)); replace HB := bS_ HB hb; have qk := Aside0.mk ((nl_ qa hg : qj ≠ qb)); have qw := Aside0.mk ((ng_ qa hg : qb ≠ qj)); replace qa := kB_ qa hb; have qx := Aside0.mk ((nl_ qi hg : qq ≠ qb)); have qy := Aside0.mk ((ng_ qi hg : qb ≠ qq)); replace qi := kB_ qi hb; have qz := Aside0.mk ((nl_ ql hg : qD ≠ qb)); have qA := Aside0.mk ((ng_ ql hg : qb ≠ qD)); replace ql := kB_ ql hb; have qB := Aside0.mk ((nl_ qr hg : qF ≠ qb)); have qC := Aside0.mk ((ng_ qr hg : qb ≠ qF)); replace qr := kB_ qr hb; clear hb hbox hg
               refine hK.out _ _ ⟨bc_ qa 0, bc_ qa 1, bc_ qa 2, HS3_, HS4_⟩ (fun hHeld => ?_)
               clear hK K
               refine norm_ (a' := ?_) ?_ ?_
               rotate_left
               ·
                show Act.put _ (some 19) _ = _
                simp only [Act.put, List.setIfInBounds_toArray, List.set_cons_zero, List.set_cons_succ, i64_w, i32_w]
                rfl
               refine one_ (i := 6) (N := some 110) #[true, true, true, true, true, true, true, false, false, false, true, false, false] rfl rfl (one_of HT_.out (by kernel_rfl)) (by decide) (fun K hK => ?_)
               refine goes_ Try.func13 (by kernel_rfl) rfl #[.agg #[.slice qH qm.length qG, .int .i64 qt, .bool qu], .int .i64 qo, .agg #[.int .i64 ((rd_T37 qn qo).f0), .int .i64 ((rd_T37 qn qo).f1)]] (by rfl) rfl rfl (by (try simp only [List.map_toArray, List.map_cons, List.map_nil]); first | done | rfl | (simp only [List.length_drop, List.length_take]; rfl)) ?_
               with_reducible refine (impl_FixVariable.calls k2 _ _ qm qt qu qo ((rd_T37 qn qo).f0) ((rd_T37 qn qo).f1) qQ qU qV true _ ?side1 ?side2 A77.out).mono ?_
               (case side1 => exact cr_ qc)
               (case side2 => exact (Kd.R_reads' qc.out).2.1)
               rintro e JI ⟨q5, rfl, ho0, hb⟩
               have HS3_ := (hb.cell (World.block_lt_of_cell? _ _ (hHeld.2.2.2.1))).trans (hHeld.2.2.2.1)
               have HS4_ := (hb.cell (World.block_lt_of_cell? _ _ (hHeld.2.2.2.2))).trans (hHeld.2.2.2.2)
               refine ⟨_, rfl, ?_⟩
               replace qh := rB_ qh hb; have qR := Aside0.mk (Kd.R_lower (Kd.R_new' (Kd.R_new' (Kd.R_new' (Kd.R_new' ho0 (Kd.R_lt (rm_ qc))) (Kd.R_lt (rm_ qe))) (Kd.R_lt (rm_ qf))) (Kd.R_lt (rm_ qg))) (bz_ HB)); replace qc := Aside0.mk (Kd.R_elder' (rm_ qc) (Kd.R_base ho0) hb); replace qe := Aside0.mk (Kd.R_elder' (rm_ qe) (Kd.R_base ho0) hb); replace qf := Aside0.mk (Kd.R_elder' (rm_ qf) (Kd.R_base ho0) hb); replace qg := Aside0.mk (Kd.R_elder' (rm_ qg) (Kd.R_base ho0) hb); replace qa := kB_ qa hb; replace qi := kB_ qi hb; replace ql := kB_ ql hb; replace qr := kB_ qr hb; replace qd := kB_ qd hb; replace HB := bS_ HB hb; (try clear hb); (try clear hb2); (try clear hk); (try clear hi); (try clear ho0)
               refine hK.out _ _ ⟨bc_ qa 0, bc_ qa 1, bc_ qa 2, HS3_, HS4_⟩ (fun hHeld => ?_)
               clear hK K
               refine norm_ (a' := ?_) ?_ ?_
               rotate_left
               ·
                show Act.put _ (some 110) _ = _
                simp only [Act.put, List.setIfInBounds_toArray, List.set_cons_zero, List.set_cons_succ, i64_w, i32_w]
                rfl
               refine pure_ (i := 7) (N := some 103) (v := ?_) (a' := ?_) #[true, true, true, true, true, true, true, true, false, false, true, false, false] rfl rfl (any_of HT_.out (by kernel_rfl)) (fun _ _ _ h => h) (Or.inl ⟨by rfl, ?_⟩) ?_ ?_
               rotate_left
               ·
                intro w'
                go_simp
                with_reducible rfl
               rotate_left
               ·
                simp only [Act.put, List.setIfInBounds_toArray, List.set_cons_zero, List.set_cons_succ, i64_w, i32_w]
                rfl
               refine pure_ (i := 8) (N := some 111) (v := ?_) (a' := ?_) #[true, true, true, true, true, true, true, true, true, false, true, false, false] rfl rfl (any_of HT_.out (by kernel_rfl)) (fun _ _ _ h => h) (Or.inl ⟨by rfl, ?_⟩) ?_ ?_
               rotate_left
               ·
                intro w'
                go_simp
                with_reducible rfl
               rotate_left
               ·
                simp only [Act.put, List.setIfInBounds_toArray, List.set_cons_zero, List.set_cons_succ, i64_w, i32_w]
                rfl
               refine pure_ (i := 9) (N := some 112) (v := ?_) (a' := ?_) #[true, true, true, true, true, true, true, true, true, true, true, false, false] rfl rfl (any_of HT_.out (by kernel_rfl)) (fun _ _ _ h => h) (Or.inl ⟨by rfl, ?_⟩) ?_ ?_
               rotate_left
               ·
                intro w'
                go_simp
                with_reducible rfl
               rotate_left
               ·
                simp only [Act.put, List.setIfInBounds_toArray, List.set_cons_zero, List.set_cons_succ, i64_w, i32_w]
                rfl
               exact norm_ (by simp only [putAll, Act.put, List.setIfInBounds_toArray, List.set_cons_zero, List.set_cons_succ]) (hCont (q5, qb) _ ⟨hHeld, (by (with_reducible repeat (first | apply Kd.R_alloc | apply Kd.R_drewN | apply Kd.R_drew)); exact Kd.R_mono qR.out (fun _ hk => ⟨hk.1.1.1.2, ⟨hk.1.1.2, ⟨hk.1.2, hk.2⟩⟩⟩)), (rm_ qh), (by (with_reducible repeat (first | apply Kd.R_alloc | apply Kd.R_drewN | apply Kd.R_drew)); exact Kd.R_mono qc.out (fun _ hk => ⟨hk.2, ⟨hk.1.1, ⟨hk.1.2.1, hk.1.2.2⟩⟩⟩)), (by (with_reducible repeat (first | apply Kd.R_alloc | apply Kd.R_drewN | apply Kd.R_drew)); exact Kd.R_mono qe.out (fun _ hk => ⟨hk.2, ⟨hk.1.1, ⟨hk.1.2.1, hk.1.2.2⟩⟩⟩)), (by (with_reducible repeat (first | apply Kd.R_alloc | apply Kd.R_drewN | apply Kd.R_drew)); exact Kd.R_mono qf.out (fun _ hk => ⟨hk.2, ⟨hk.1.1, ⟨hk.1.2.1, hk.1.2.2⟩⟩⟩)), (by (with_reducible repeat (first | apply Kd.R_alloc | apply Kd.R_drewN | apply Kd.R_drew)); exact Kd.R_mono qg.out (fun _ hk => ⟨hk.2, ⟨hk.1.1, ⟨hk.1.2.1, hk.1.2.2⟩⟩⟩)), (kf_ qa), (kf_ qi), (kf_ ql), (kf_ qr), (kf_ qd), zc.out, zd.out, qk.out, qw.out, qx.out, qy.out, qz.out, qA.out, qB.out, qC.out, (bb_ HB)⟩)
             rintro ⟨q5, qb⟩ zm ⟨hS_, h0_, h1_, h2_, h3_, h4_, h5_, h6_, h7_, h8_, h9_, h10_, h11_, h12_, h13_, h14_, h15_, h16_, h17_, h18_, h19_, h20_, h21_⟩
             have n0_ : Aside0 (Kd.R (Kd.int .i64) 3 zm w.heap.size (fun k_ => some k_ ≠ (.slice qH qm.length qG : Value).ownBlock ∧ some k_ ≠ (.slice qM qv.length qL : Value).ownBlock ∧ some k_ ≠ (.slice qO qE.length qP : Value).ownBlock ∧ some k_ ≠ (.slice qS qK.length qT : Value).ownBlock) q5 qQ) := ⟨h0_⟩
             have n1_ : Aside0 (Kd.R k37 37 zm w.heap.size (fun _ => True) (.slice (some qN) qn.length zj) qn) := ⟨h1_⟩
             have n2_ : Aside0 (Kd.R (Kd.int .i64) 3 zm w.heap.size (fun k_ => some k_ ≠ (q5 : Value).ownBlock ∧ some k_ ≠ (.slice qM qv.length qL : Value).ownBlock ∧ some k_ ≠ (.slice qO qE.length qP : Value).ownBlock ∧ some k_ ≠ (.slice qS qK.length qT : Value).ownBlock) (.slice qH qm.length qG) qm) := ⟨h2_⟩
             have n3_ : Aside0 (Kd.R (Kd.int .i64) 3 zm w.heap.size (fun k_ => some k_ ≠ (q5 : Value).ownBlock ∧ some k_ ≠ (.slice qH qm.length qG : Value).ownBlock ∧ some k_ ≠ (.slice qO qE.length qP : Value).ownBlock ∧ some k_ ≠ (.slice qS qK.length qT : Value).ownBlock) (.slice qM qv.length qL) qv) := ⟨h3_⟩
             have n4_ : Aside0 (Kd.R (Kd.int .i64) 3 zm w.heap.size (fun k_ => some k_ ≠ (q5 : Value).ownBlock ∧ some k_ ≠ (.slice qH qm.length qG : Value).ownBlock ∧ some k_ ≠ (.slice qM qv.length qL : Value).ownBlock ∧ some k_ ≠ (.slice qS qK.length qT : Value).ownBlock) (.slice qO qE.length qP) qE) := ⟨h4_⟩
             have n5_ : Aside0 (Kd.R (Kd.int .i64) 3 zm w.heap.size (fun k_ => some k_ ≠ (q5 : Value).ownBlock ∧ some k_ ≠ (.slice qH qm.length qG : Value).ownBlock ∧ some k_ ≠ (.slice qM qv.length qL : Value).ownBlock ∧ some k_ ≠ (.slice qO qE.length qP : Value).ownBlock) (.slice qS qK.length qT) qK) := ⟨h5_⟩
             have n6_ : Aside0 (zm.heap[qj]? = some (.cells #[.slice qH qm.length qG, .int .i64 qt, .bool qu] 26 (0, 0))) := ⟨h6_⟩
             have n7_ : Aside0 (zm.heap[qq]? = some (.cells #[.slice qM qv.length qL, .int .i64 qW, .bool qY] 26 (0, 0))) := ⟨h7_⟩
             have n8_ : Aside0 (zm.heap[qD]? = some (.cells #[.slice qO qE.length qP, .int .i64 q0, .bool q1] 26 (0, 0))) := ⟨h8_⟩
             have n9_ : Aside0 (zm.heap[qF]? = some (.cells #[.slice qS qK.length qT, .int .i64 zf, .bool zi] 26 (0, 0))) := ⟨h9_⟩
             have n10_ : Aside0 (zm.heap[qb]? = some (.cells #[.slice none 0 0, .int .i64 0, .bool false] 26 (0, 0))) := ⟨h10_⟩
             have n11_ : Aside0 (w.heap.size ≤ qb) := ⟨h11_⟩
             have n12_ : Aside0 (w.heap.size ≤ qb) := ⟨h12_⟩
             have n13_ : Aside0 (qj ≠ qb) := ⟨h13_⟩
             have n14_ : Aside0 (qb ≠ qj) := ⟨h14_⟩
             have n15_ : Aside0 (qq ≠ qb) := ⟨h15_⟩
             have n16_ : Aside0 (qb ≠ qq) := ⟨h16_⟩
             have n17_ : Aside0 (qD ≠ qb) := ⟨h17_⟩
             have n18_ : Aside0 (qb ≠ qD) := ⟨h18_⟩
             have n19_ : Aside0 (qF ≠ qb) := ⟨h19_⟩
             have n20_ : Aside0 (qb ≠ qF) := ⟨h20_⟩
             have n21_ : Aside0 (Below w.heap.size w zm) := ⟨h21_⟩
             clear qh
             clear qc
             clear qe
             clear qf
             clear qg
             clear qa
             clear qi
             clear ql
             clear qr
             clear HB
             clear h0_ h1_ h2_ h3_ h4_ h5_ h6_ h7_ h8_ h9_ h10_ h11_ h12_ h13_ h14_ h15_ h16_ h17_ h18_ h19_ h20_ h21_
             have qR := n0_
             have qh := n1_
             have qc := n2_
             have qe := n3_
             have qf := n4_
             have qg := n5_
             have qa := n6_
             have qi := n7_
             have ql := n8_
             have qr := n9_
             have qd := n10_
             have zc := n11_
             have zd := n12_
             have qk := n13_
             have qw := n14_
             have qx := n15_
             have qy := n16_
             have qz := n17_
             have qA := n18_
             have qB := n19_
             have qC := n20_
             have HB := n21_
             clear n0_ n1_ n2_ n3_ n4_ n5_ n6_ n7_ n8_ n9_ n10_ n11_ n12_ n13_ n14_ n15_ n16_ n17_ n18_ n19_ n20_ n21_
             have hHeld : zm.cell? ⟨qj, 0, none⟩ = some (.slice qH qm.length qG) ∧ zm.cell? ⟨qj, 1, none⟩ = some (.int .i64 qt) ∧ zm.cell? ⟨qj, 2, none⟩ = some (.bool qu) ∧ zm.cell? (qN.add ((qo).toNat * 2)) = some (.int .i64 ((rd_T37 qn qo).f0)) ∧ zm.cell? ⟨(qN.add ((qo).toNat * 2)).block, (qN.add ((qo).toNat * 2)).off + 1, none⟩ = some (.int .i64 ((rd_T37 qn qo).f1)) := hS_
             obtain ⟨zI, zE, eo129⟩ := Kd.R_slice qR.out
             (first | subst eo129 | (injection eo129 with f1_ f2_ f3_; have f4_ := f1_.symm; have f5_ := f3_.symm; clear f1_ f2_ f3_; subst f4_; subst f5_))
             refine norm_ (a' := ?_) ?_ ?_
             rotate_left
             ·
              simp only [putAll, Act.put, List.setIfInBounds_toArray, List.set_cons_zero, List.set_cons_succ]
              rfl
             refine one_ (i := 11) (N := none) #[true, true, true, true, true, true, true, true, true, true, true, true, false] rfl rfl (one_of HT_.out (by kernel_rfl)) (by decide) (fun K hK => ?_)
             have hs130 : zm.cell? ⟨qb, 0, none⟩ = some (.slice none 0 0) := bc_ qd 0
             have hfs130 := blk_frozen qd.out 0
             have hns130_0 := qk.out
             have hns130_1 := qx.out
             have hns130_2 := qz.out
             have hns130_3 := qB.out
             have hms130_0 := qw.out
             have hms130_1 := qy.out
             have hms130_2 := qA.out
             have hms130_3 := qC.out
             have hs131 : zm.cell? ⟨qb, 1, none⟩ = some (.int .i64 0) := bc_ qd 1
             have hfs131 := blk_frozen qd.out 1
             have hns131_0 := qk.out
             have hns131_1 := qx.out
             have hns131_2 := qz.out
             have hns131_3 := qB.out
             have hms131_0 := qw.out
             have hms131_1 := qy.out
             have hms131_2 := qA.out
             have hms131_3 := qC.out
             have hs132 : zm.cell? ⟨qb, 2, none⟩ = some (.bool false) := bc_ qd 2
             have hfs132 := blk_frozen qd.out 2
             have hns132_0 := qk.out
             have hns132_1 := qx.out
             have hns132_2 := qz.out
             have hns132_3 := qB.out
             have hms132_0 := qw.out
             have hms132_1 := qy.out
             have hms132_2 := qA.out
             have hms132_3 := qC.out
             refine skip_ (w1 := ?_) (by rfl) rfl ?_ ?_
             rotate_left
             ·
              go_simp
              rfl
             refine hK.out _ _ ⟨((cell_far (p := ⟨qb, _, none⟩) qk.out _).trans (((cell_far (p := ⟨qb, _, none⟩) qk.out _).trans (((cell_far (p := ⟨qb, _, none⟩) qk.out _).trans (hHeld.1)))))), ((cell_far (p := ⟨qb, _, none⟩) qk.out _).trans (((cell_far (p := ⟨qb, _, none⟩) qk.out _).trans (((cell_far (p := ⟨qb, _, none⟩) qk.out _).trans (hHeld.2.1)))))), ((cell_far (p := ⟨qb, _, none⟩) qk.out _).trans (((cell_far (p := ⟨qb, _, none⟩) qk.out _).trans (((cell_far (p := ⟨qb, _, none⟩) qk.out _).trans (hHeld.2.2.1)))))), ((cell_far (p := ⟨qb, _, none⟩) (by first | exact Kd.own_blk (Kd.R_ne qh.out qd.out (by decide)) | (rw [add_block]; exact Kd.own_blk (Kd.R_ne qh.out qd.out (by decide))) | (show (Addr.add _ _).block ≠ _; rw [add_block]; exact Kd.own_blk (Kd.R_ne qh.out qd.out (by decide))) | (dsimp only; exact Kd.own_blk (Kd.R_ne qh.out qd.out (by decide)))) _).trans (((cell_far (p := ⟨qb, _, none⟩) (by first | exact Kd.own_blk (Kd.R_ne qh.out qd.out (by decide)) | (rw [add_block]; exact Kd.own_blk (Kd.R_ne qh.out qd.out (by decide))) | (show (Addr.add _ _).block ≠ _; rw [add_block]; exact Kd.own_blk (Kd.R_ne qh.out qd.out (by decide))) | (dsimp only; exact Kd.own_blk (Kd.R_ne qh.out qd.out (by decide)))) _).trans (((cell_far (p := ⟨qb, _, none⟩) (by first | exact Kd.own_blk (Kd.R_ne qh.out qd.out (by decide)) | (rw [add_block]; exact Kd.own_blk (Kd.R_ne qh.out qd.out (by decide))) | (show (Addr.add _ _).block ≠ _; rw [add_block]; exact Kd.own_blk (Kd.R_ne qh.out qd.out (by decide))) | (dsimp only; exact Kd.own_blk (Kd.R_ne qh.out qd.out (by decide)))) _).trans (hHeld.2.2.2.1)))))), ((cell_far (p := ⟨qb, _, none⟩) (by first | exact Kd.own_blk (Kd.R_ne qh.out qd.out (by decide)) | (rw [add_block]; exact Kd.own_blk (Kd.R_ne qh.out qd.out (by decide))) | (show (Addr.add _ _).block ≠ _; rw [add_block]; exact Kd.own_blk (Kd.R_ne qh.out qd.out (by decide))) | (dsimp only; exact Kd.own_blk (Kd.R_ne qh.out qd.out (by decide)))) _).trans (((cell_far (p := ⟨qb, _, none⟩) (by first | exact Kd.own_blk (Kd.R_ne qh.out qd.out (by decide)) | (rw [add_block]; exact Kd.own_blk (Kd.R_ne qh.out qd.out (by decide))) | (show (Addr.add _ _).block ≠ _; rw [add_block]; exact Kd.own_blk (Kd.R_ne qh.out qd.out (by decide))) | (dsimp only; exact Kd.own_blk (Kd.R_ne qh.out qd.out (by decide)))) _).trans (((cell_far (p := ⟨qb, _, none⟩) (by first | exact Kd.own_blk (Kd.R_ne qh.out qd.out (by decide)) | (rw [add_block]; exact Kd.own_blk (Kd.R_ne qh.out qd.out (by decide))) | (show (Addr.add _ _).block ≠ _; rw [add_block]; exact Kd.own_blk (Kd.R_ne qh.out qd.out (by decide))) | (dsimp only; exact Kd.own_blk (Kd.R_ne qh.out qd.out (by decide)))) _).trans (hHeld.2.2.2.2))))))⟩ (fun hHeld => ?_)
             clear hK K
             refine pure_ (i := 12) (N := some 20) (v := ?_) (a' := ?_) #[true, true, true, true, true, true, true, true, true, true, true, true, true] rfl rfl (any_of HT_.out (by kernel_rfl)) (fun _ _ _ h => h) (Or.inl ⟨by rfl, ?_⟩) ?_ ?_
             rotate_left
             ·
              intro w'
              go_simp
              with_reducible rfl
             rotate_left
             ·
              simp only [Act.put, List.setIfInBounds_toArray, List.set_cons_zero, List.set_cons_succ, i64_w, i32_w]
              rfl
             refine done_ (done_of HT_.out (by kernel_rfl)) ?_
             have JJ := qw.out
             have JK := qk.out
             have JL := qy.out
             have JM := qx.out
             have JN := qA.out
             have JO := qz.out
             have JP := qC.out
             have JQ := qB.out
             have Zn : zm.cell? ⟨qb, 0, none⟩ = some (.slice none 0 0) := bc_ qd 0
             have Zo : zm.cell? ⟨qb, 1, none⟩ = some (.int .i64 0) := bc_ qd 1
             have Zp : zm.cell? ⟨qb, 2, none⟩ = some (.bool false) := bc_ qd 2
             have Zq := blk_frozen qd.out 0
             have Zr := blk_frozen qd.out 1
             have Zs := blk_frozen qd.out 2
             try go_wp2_with (first | ((with_reducible refine gate_callee (f := 12) rfl ?_); refine goesL_ (some 116) rfl rfl Try.func12 (by kernel_rfl) rfl #[.agg #[.slice zI qQ.length zE, .int .i64 qU, .bool qV], .slice (some qN) qn.length zj] rfl (by (try simp only [List.map_toArray, List.map_cons, List.map_nil]); first | done | rfl | (simp only [List.length_drop, List.length_take]; rfl)) ?_; (with_reducible refine (impl_HoldsAt.calls k2 _ _ qQ qU qV _ _ qn zP false _ ?side1 ?side2 ?side3 ?side4 A78.out).mono ?_); (case side1 => refine (Kd.R_reads' (e := 3) (base := w.heap.size) (ok := fun k_ => (some k_ ≠ (.slice qH qm.length qG : Value).ownBlock ∧ (some k_ ≠ (.slice qM qv.length qL : Value).ownBlock ∧ (some k_ ≠ (.slice qO qE.length qP : Value).ownBlock ∧ some k_ ≠ (.slice qS qK.length qT : Value).ownBlock)))) (n := qQ.length) (c := zE) ?_).2.2; exact (by (with_reducible repeat (first | apply Kd.R_alloc | apply Kd.R_drewN | apply Kd.R_drew)); exact (rt3_ qR qd (by decide) 0 1 2 (.slice zI qQ.length zE) (.int .i64 qU) (.bool qV)))); (case side2 => exact (Kd.R_reads' qR.out).2.1); (case side3 => refine (Kd.R_reads' (e := 37) (base := w.heap.size) (ok := fun k_ => True) (n := qn.length) (c := zj) ?_).2.2; exact (by (with_reducible repeat (first | apply Kd.R_alloc | apply Kd.R_drewN | apply Kd.R_drew)); exact (rt3_ qh qd (by decide) 0 1 2 (.slice zI qQ.length zE) (.int .i64 qU) (.bool qV)))); (case side4 => exact (Kd.R_reads' qh.out).2.1); rintro e XZ ⟨rfl, hb⟩; refine ⟨_, rfl, ?_⟩; replace qh := Aside0.mk (Kd.R_below (by (with_reducible repeat (first | apply Kd.R_alloc | apply Kd.R_drewN | apply Kd.R_drew)); exact (rt3_ qh qd (by decide) 0 1 2 (.slice zI qQ.length zE) (.int .i64 qU) (.bool qV))) hb); replace qc := Aside0.mk (Kd.R_below (by (with_reducible repeat (first | apply Kd.R_alloc | apply Kd.R_drewN | apply Kd.R_drew)); exact (rt3_ qc qd (by decide) 0 1 2 (.slice zI qQ.length zE) (.int .i64 qU) (.bool qV))) hb); replace qe := Aside0.mk (Kd.R_below (by (with_reducible repeat (first | apply Kd.R_alloc | apply Kd.R_drewN | apply Kd.R_drew)); exact (rt3_ qe qd (by decide) 0 1 2 (.slice zI qQ.length zE) (.int .i64 qU) (.bool qV))) hb); replace qf := Aside0.mk (Kd.R_below (by (with_reducible repeat (first | apply Kd.R_alloc | apply Kd.R_drewN | apply Kd.R_drew)); exact (rt3_ qf qd (by decide) 0 1 2 (.slice zI qQ.length zE) (.int .i64 qU) (.bool qV))) hb); replace qg := Aside0.mk (Kd.R_below (by (with_reducible repeat (first | apply Kd.R_alloc | apply Kd.R_drewN | apply Kd.R_drew)); exact (rt3_ qg qd (by decide) 0 1 2 (.slice zI qQ.length zE) (.int .i64 qU) (.bool qV))) hb); replace qR := Aside0.mk (Kd.R_below (by (with_reducible repeat (first | apply Kd.R_alloc | apply Kd.R_drewN | apply Kd.R_drew)); exact (rt3_ qR qd (by decide) 0 1 2 (.slice zI qQ.length zE) (.int .i64 qU) (.bool qV))) hb); replace qa := Aside0.mk (blk_below (g := qj) (o := .cells #[.slice qH qm.length qG, .int .i64 qt, .bool qu] 26 (0, 0)) (kf_ qa) hb); replace qi := Aside0.mk (blk_below (g := qq) (o := .cells #[.slice qM qv.length qL, .int .i64 qW, .bool qY] 26 (0, 0)) (kf_ qi) hb); replace ql := Aside0.mk (blk_below (g := qD) (o := .cells #[.slice qO qE.length qP, .int .i64 q0, .bool q1] 26 (0, 0)) (kf_ ql) hb); replace qr := Aside0.mk (blk_below (g := qF) (o := .cells #[.slice qS qK.length qT, .int .i64 zf, .bool zi] 26 (0, 0)) (kf_ qr) hb); replace qd := Aside0.mk (blk_below (g := qb) (o := .cells #[.slice zI qQ.length zE, .int .i64 qU, .bool qV] 26 (0, 0)) (by (with_reducible repeat (first | refine blk_drewN ?_ _ | refine blk_drew ?_ | refine blk_alloc ?_ _)); refine blk_put (cs := #[.slice zI qQ.length zE, .int .i64 qU, .bool false]) ?_ 2 _ rfl; (with_reducible repeat (first | refine blk_drewN ?_ _ | refine blk_drew ?_ | refine blk_alloc ?_ _)); refine blk_put (cs := #[.slice zI qQ.length zE, .int .i64 0, .bool false]) ?_ 1 _ rfl; (with_reducible repeat (first | refine blk_drewN ?_ _ | refine blk_drew ?_ | refine blk_alloc ?_ _)); refine blk_put (cs := #[.slice none 0 0, .int .i64 0, .bool false]) ?_ 0 _ rfl; (with_reducible repeat (first | refine blk_drewN ?_ _ | refine blk_drew ?_ | refine blk_alloc ?_ _)); exact qd.out) hb); replace HB := bS_ HB hb; (try clear hb); (try clear hb2); (try clear hk); (try clear hi)))
             go_roundg k2
             case measure => have := HJ35.out; have := HK2.out; omega
             case rel => exact ⟨(wrap64 (qo + 1)), (by first | rfl | (simp; done) | (simp [*]; done)), H', ⟨by have := HJ35.out; have := HK2.out; omega⟩, ⟨by (with_reducible repeat (first | apply Kd.R_alloc | apply Kd.R_drewN | apply Kd.R_drew)); exact qh.out⟩, ⟨by (with_reducible repeat (first | apply Kd.R_alloc | apply Kd.R_drewN | apply Kd.R_drew)); exact Kd.R_mono qc.out (fun _ hk => ⟨hk.2.1, ⟨hk.2.2.1, hk.2.2.2⟩⟩)⟩, ⟨by (with_reducible repeat (first | apply Kd.R_alloc | apply Kd.R_drewN | apply Kd.R_drew)); exact Kd.R_mono qe.out (fun _ hk => ⟨hk.2.1, ⟨hk.2.2.1, hk.2.2.2⟩⟩)⟩, ⟨by (with_reducible repeat (first | apply Kd.R_alloc | apply Kd.R_drewN | apply Kd.R_drew)); exact Kd.R_mono qf.out (fun _ hk => ⟨hk.2.1, ⟨hk.2.2.1, hk.2.2.2⟩⟩)⟩, ⟨by (with_reducible repeat (first | apply Kd.R_alloc | apply Kd.R_drewN | apply Kd.R_drew)); exact Kd.R_mono qg.out (fun _ hk => ⟨hk.2.1, ⟨hk.2.2.1, hk.2.2.2⟩⟩)⟩, ⟨kf_ qa⟩, ⟨kf_ qi⟩, ⟨kf_ ql⟩, ⟨kf_ qr⟩, ⟨bb_ HB⟩⟩
           ·
            replace c79 := Bool.eq_false_iff.mpr c79
            subst c79
            have H1 : (laws_FnMixed.l0 k2 qn qX q7 (wrap64 (qo + 1)) qm qt qu) = some r := by rw [if_neg (show ¬ (false = true) by decide)] at H; exact H
            clear H
            have H := H1
            clear H1
            have H' := Aside0.mk H
            clear H
            try go_wp2
            replace qh := Aside0.mk (Kd.R_drew qh.out); replace qc := Aside0.mk (Kd.R_drew qc.out); replace qe := Aside0.mk (Kd.R_drew qe.out); replace qf := Aside0.mk (Kd.R_drew qf.out); replace qg := Aside0.mk (Kd.R_drew qg.out); replace qa := Aside0.mk (blk_drew qa.out); replace qi := Aside0.mk (blk_drew qi.out); replace ql := Aside0.mk (blk_drew ql.out); replace qr := Aside0.mk (blk_drew qr.out); replace HB := Aside0.mk (below_drew1 HB.out)
            have p481 : 0 ≤ (qo : Int) := of_decide_eq_true (by first | (with_reducible assumption) | assumption)
            have q481 : qo < (qn.length : Int) := of_decide_eq_true (by first | (with_reducible assumption) | assumption)
            obtain ⟨qN, e481, za, zb⟩ := at_T37 (Kd.R_reads' qh.out).2.2 qo p481 q481
            cases e481
            replace p481 := eq_true p481
            replace q481 := eq_true q481
            refine start_ (n := 13) (S := fun w' => w'.cell? ⟨qj, 0, none⟩ = some (.slice qH qm.length qG) ∧ w'.cell? ⟨qj, 1, none⟩ = some (.int .i64 qt) ∧ w'.cell? ⟨qj, 2, none⟩ = some (.bool qu) ∧ w'.cell? (qN.add ((qo).toNat * 2)) = some (.int .i64 ((rd_T37 qn qo).f0)) ∧ w'.cell? ⟨(qN.add ((qo).toNat * 2)).block, (qN.add ((qo).toNat * 2)).off + 1, none⟩ = some (.int .i64 ((rd_T37 qn qo).f1))) (ds := []) #[false, false, false, false, false, false, false, false, false, false, false, false, false] (by kernel_rfl) rfl rfl ⟨bc_ qa 0, bc_ qa 1, bc_ qa 2, za, zb⟩ (fun hHeld => ?_); refine with_tabW laws_FnMixed.tab19 laws_FnMixed.bits19 (fun HT_ HW_ => ?_)
            generalize wr.drew = X0 at qh qc qe qf qg qa qi ql qr HB za zb hHeld ⊢
            refine pure_ (i := 1) (N := some 105) (v := ?_) (a' := ?_) #[false, true, false, false, false, false, false, false, false, false, false, false, false] rfl rfl (any_of HT_.out (by kernel_rfl)) (fun _ _ _ h => h) (Or.inl ⟨by rfl, ?_⟩) ?_ ?_
            rotate_left
            ·
             intro w'
             go_simp
             with_reducible rfl
            rotate_left
            ·
             simp only [Act.put, List.setIfInBounds_toArray, List.set_cons_zero, List.set_cons_succ, i64_w, i32_w]
             rfl
            refine pure_ (i := 2) (N := some 106) (v := ?_) (a' := ?_) #[false, true, true, false, false, false, false, false, false, false, false, false, false] rfl rfl (any_of HT_.out (by kernel_rfl)) (fun _ _ _ h => h) (Or.inl ⟨by rfl, ?_⟩) ?_ ?_
            rotate_left
            ·
             intro w'
             go_simp
             with_reducible rfl
            rotate_left
            ·
             simp only [Act.put, List.setIfInBounds_toArray, List.set_cons_zero, List.set_cons_succ, i64_w, i32_w]
             rfl
            refine pure_ (i := 3) (N := some 107) (v := ?_) (a' := ?_) #[false, true, true, true, false, false, false, false, false, false, false, false, false] rfl rfl (any_of HT_.out (by kernel_rfl)) (fun _ _ _ h => h) (Or.inl ⟨by rfl, ?_⟩) ?_ ?_
            rotate_left
            ·
             intro w'
             go_simp
             with_reducible rfl
            rotate_left
            ·
             simp only [Act.put, List.setIfInBounds_toArray, List.set_cons_zero, List.set_cons_succ, i64_w, i32_w]
             rfl
            refine pure_ (i := 4) (N := some 108) (v := ?_) (a' := ?_) #[false, true, true, true, true, false, false, false, false, false, false, false, false] rfl rfl (any_of HT_.out (by kernel_rfl)) (fun _ _ _ h => h) (Or.inl ⟨by rfl, ?_⟩) ?_ ?_
            rotate_left
            ·
             intro w'
             go_simp
             with_reducible rfl
            rotate_left
            ·
             simp only [Act.put, List.setIfInBounds_toArray, List.set_cons_zero, List.set_cons_succ, i64_w, i32_w]
             rfl
            refine take_ (i := 0) (N := some 104) (v := ?_) (a' := ?_) #[true, true, true, true, true, false, false, false, false, false, false, false, false] rfl rfl (take_ofW HT_.out HW_.out (by kernel_rfl)) (fun _ _ _ h => h) (Or.inl ⟨by rfl, ?_⟩) hHeld ?_ ?_
            rotate_left
            ·
             rintro w' ⟨s0, s1, s2, s3, s4⟩
             go_simp
             with_reducible rfl
            rotate_left
            ·
             simp only [Act.put, List.setIfInBounds_toArray, List.set_cons_zero, List.set_cons_succ, i64_w, i32_w]
             rfl
            refine take_ (i := 5) (N := some 109) (v := ?_) (a' := ?_) #[true, true, true, true, true, true, false, false, false, false, false, false, false] rfl rfl (take_ofW HT_.out HW_.out (by kernel_rfl)) (fun _ _ _ h => h) (Or.inl ⟨by rfl, ?_⟩) hHeld ?_ ?_
            rotate_left
            ·
             rintro w' ⟨s0, s1, s2, s3, s4⟩
             go_simp
             with_reducible rfl
            rotate_left
            ·
             simp only [Act.put, List.setIfInBounds_toArray, List.set_cons_zero, List.set_cons_succ, i64_w, i32_w]
             rfl
            refine join_ (σ := Value × Nat) 2 #[true, true, true, true, true, true, true, true, true, true, true, false, false] (fun s_ => [(110, .tuple #[.agg #[s_.1, .int .i64 qU, .bool qV], .bool false]), (19, .pointer (some ⟨s_.2, 0, none⟩)), (103, .tuple #[.agg #[s_.1, .int .i64 qU, .bool qV], .bool false]), (111, .agg #[s_.1, .int .i64 qU, .bool qV]), (112, .bool false)]) (fun s_ w' => (w'.cell? ⟨qj, 0, none⟩ = some (.slice qH qm.length qG) ∧ w'.cell? ⟨qj, 1, none⟩ = some (.int .i64 qt) ∧ w'.cell? ⟨qj, 2, none⟩ = some (.bool qu) ∧ w'.cell? (qN.add ((qo).toNat * 2)) = some (.int .i64 ((rd_T37 qn qo).f0)) ∧ w'.cell? ⟨(qN.add ((qo).toNat * 2)).block, (qN.add ((qo).toNat * 2)).off + 1, none⟩ = some (.int .i64 ((rd_T37 qn qo).f1))) ∧ (Kd.R (Kd.int .i64) 3 w' w.heap.size (fun k_ => some k_ ≠ (.slice qH qm.length qG : Value).ownBlock ∧ some k_ ≠ (.slice qM qv.length qL : Value).ownBlock ∧ some k_ ≠ (.slice qO qE.length qP : Value).ownBlock ∧ some k_ ≠ (.slice qS qK.length qT : Value).ownBlock) s_.1 qQ) ∧ (Kd.R k37 37 w' w.heap.size (fun _ => True) (.slice (some qN) qn.length zj) qn) ∧ (Kd.R (Kd.int .i64) 3 w' w.heap.size (fun k_ => some k_ ≠ (s_.1 : Value).ownBlock ∧ some k_ ≠ (.slice qM qv.length qL : Value).ownBlock ∧ some k_ ≠ (.slice qO qE.length qP : Value).ownBlock ∧ some k_ ≠ (.slice qS qK.length qT : Value).ownBlock) (.slice qH qm.length qG) qm) ∧ (Kd.R (Kd.int .i64) 3 w' w.heap.size (fun k_ => some k_ ≠ (s_.1 : Value).ownBlock ∧ some k_ ≠ (.slice qH qm.length qG : Value).ownBlock ∧ some k_ ≠ (.slice qO qE.length qP : Value).ownBlock ∧ some k_ ≠ (.slice qS qK.length qT : Value).ownBlock) (.slice qM qv.length qL) qv) ∧ (Kd.R (Kd.int .i64) 3 w' w.heap.size (fun k_ => some k_ ≠ (s_.1 : Value).ownBlock ∧ some k_ ≠ (.slice qH qm.length qG : Value).ownBlock ∧ some k_ ≠ (.slice qM qv.length qL : Value).ownBlock ∧ some k_ ≠ (.slice qS qK.length qT : Value).ownBlock) (.slice qO qE.length qP) qE) ∧ (Kd.R (Kd.int .i64) 3 w' w.heap.size (fun k_ => some k_ ≠ (s_.1 : Value).ownBlock ∧ some k_ ≠ (.slice qH qm.length qG : Value).ownBlock ∧ some k_ ≠ (.slice qM qv.length qL : Value).ownBlock ∧ some k_ ≠ (.slice qO qE.length qP : Value).ownBlock) (.slice qS qK.length qT) qK) ∧ (w'.heap[qj]? = some (.cells #[.slice qH qm.length qG, .int .i64 qt, .bool qu] 26 (0, 0))) ∧ (w'.heap[qq]? = some (.cells #[.slice qM qv.length qL, .int .i64 qW, .bool qY] 26 (0, 0))) ∧ (w'.heap[qD]? = some (.cells #[.slice qO qE.length qP, .int .i64 q0, .bool q1] 26 (0, 0))) ∧ (w'.heap[qF]? = some (.cells #[.slice qS qK.length qT, .int .i64 zf, .bool zi] 26 (0, 0))) ∧ (w'.heap[s_.2]? = some (.cells #[.slice none 0 0, .int .i64 0, .bool false] 26 (0, 0))) ∧ (w.heap.size ≤ s_.2) ∧ (w.heap.size ≤ s_.2) ∧ (qj ≠ s_.2) ∧ (s_.2 ≠ qj) ∧ (qq ≠ s_.2) ∧ (s_.2 ≠ qq) ∧ (qD ≠ s_.2) ∧ (s_.2 ≠ qD) ∧ (qF ≠ s_.2) ∧ (s_.2 ≠ qF) ∧ (Below w.heap.size w w')) ?_ ?_
            rotate_left
            ·
             intro hCont
             refine two_ (i := 6) (j := 10) (Ni := some 110) (Nj := some 19) #[true, true, true, true, true, true, true, false, false, false, false, false, false] #[true, true, true, true, true, true, false, false, false, false, true, false, false] rfl rfl rfl rfl (two_of HT_.out (by kernel_rfl)) (by decide) (by decide) (fun K hK => ?_) (fun K hK => ?_)
             ·
              skip
              refine goes_ Try.func13 (by kernel_rfl) rfl #[.agg #[.slice qH qm.length qG, .int .i64 qt, .bool qu], .int .i64 qo, .agg #[.int .i64 ((rd_T37 qn qo).f0), .int .i64 ((rd_T37 qn qo).f1)]] (by rfl) rfl rfl (by (try simp only [List.map_toArray, List.map_cons, List.map_nil]); first | done | rfl | (simp only [List.length_drop, List.length_take]; rfl)) ?_
              with_reducible refine (impl_FixVariable.calls k2 _ _ qm qt qu qo ((rd_T37 qn qo).f0) ((rd_T37 qn qo).f1) qQ qU qV false _ ?side1 ?side2 A77.out).mono ?_
              (case side1 => exact cr_ qc)
              (case side2 => exact (Kd.R_reads' qc.out).2.1)
              rintro e JR ⟨q5, rfl, ho0, hb⟩
              have HS3_ := (hb.cell (World.block_lt_of_cell? _ _ (hHeld.2.2.2.1))).trans (hHeld.2.2.2.1)
              have HS4_ := (hb.cell (World.block_lt_of_cell? _ _ (hHeld.2.2.2.2))).trans (hHeld.2.2.2.2)
              refine ⟨_, rfl, ?_⟩
              replace qh := rB_ qh hb; have qR := Aside0.mk (Kd.R_lower (Kd.R_new' (Kd.R_new' (Kd.R_new' (Kd.R_new' ho0 (Kd.R_lt (rm_ qc))) (Kd.R_lt (rm_ qe))) (Kd.R_lt (rm_ qf))) (Kd.R_lt (rm_ qg))) (bz_ HB)); replace qc := Aside0.mk (Kd.R_elder' (rm_ qc) (Kd.R_base ho0) hb); replace qe := Aside0.mk (Kd.R_elder' (rm_ qe) (Kd.R_base ho0) hb); replace qf := Aside0.mk (Kd.R_elder' (rm_ qf) (Kd.R_base ho0) hb); replace qg := Aside0.mk (Kd.R_elder' (rm_ qg) (Kd.R_base ho0) hb); replace qa := kB_ qa hb; replace qi := kB_ qi hb; replace ql := kB_ ql hb; replace qr := kB_ qr hb; replace HB := bS_ HB hb; (try clear hb); (try clear hb2); (try clear hk); (try clear hi); (try clear ho0)
              refine hK.out _ _ ⟨bc_ qa 0, bc_ qa 1, bc_ qa 2, HS3_, HS4_⟩ (fun hHeld => ?_)
              clear hK K
              refine norm_ (a' := ?_) ?_ ?_
              rotate_left
              ·
               show Act.put _ (some 110) _ = _
               simp only [Act.put, List.setIfInBounds_toArray, List.set_cons_zero, List.set_cons_succ, i64_w, i32_w]
               rfl
              refine pure_ (i := 7) (N := some 103) (v := ?_) (a' := ?_) #[true, true, true, true, true, true, true, true, false, false, false, false, false] rfl rfl (any_of HT_.out (by kernel_rfl)) (fun _ _ _ h => h) (Or.inl ⟨by rfl, ?_⟩) ?_ ?_
              rotate_left
              ·
               intro w'
               go_simp
               with_reducible rfl
              rotate_left
              ·
               simp only [Act.put, List.setIfInBounds_toArray, List.set_cons_zero, List.set_cons_succ, i64_w, i32_w]
               rfl
              refine pure_ (i := 8) (N := some 111) (v := ?_) (a' := ?_) #[true, true, true, true, true, true, true, true, true, false, false, false, false] rfl rfl (any_of HT_.out (by kernel_rfl)) (fun _ _ _ h => h) (Or.inl ⟨by rfl, ?_⟩) ?_ ?_
              rotate_left
              ·
               intro w'
               go_simp
               with_reducible rfl
              rotate_left
              ·
               simp only [Act.put, List.setIfInBounds_toArray, List.set_cons_zero, List.set_cons_succ, i64_w, i32_w]
               rfl
              refine pure_ (i := 9) (N := some 112) (v := ?_) (a' := ?_) #[true, true, true, true, true, true, true, true, true, true, false, false, false] rfl rfl (any_of HT_.out (by kernel_rfl)) (fun _ _ _ h => h) (Or.inl ⟨by rfl, ?_⟩) ?_ ?_
              rotate_left
              ·
               intro w'
               go_simp
               with_reducible rfl
              rotate_left
              ·
               simp only [Act.put, List.setIfInBounds_toArray, List.set_cons_zero, List.set_cons_succ, i64_w, i32_w]
               rfl
              refine one_ (i := 10) (N := some 19) #[true, true, true, true, true, true, true, true, true, true, true, false, false] rfl rfl (one_of HT_.out (by kernel_rfl)) (by decide) (fun K hK => ?_)
              refine box_step ?hg (N := 19) ?hd (cs := #[.slice none 0 0, .int .i64 0, .bool false]) (t := 26) ?hr ?_; (case hd => rfl); (case hg => rfl); (case hr => first | (go_simp; done) | (go_simp; rfl))
              intro qb hg JS hbox hb
              have HS3_ := (hb.cell (World.block_lt_of_cell? _ _ (hHeld.2.2.2.1))).trans (hHeld.2.2.2.1)
              have HS4_ := (hb.cell (World.block_lt_of_cell? _ _ (hHeld.2.2.2.2))).trans (hHeld.2.2.2.2)
              replace qh := rB_ qh hb; replace qc := rB_ qc hb; replace qe := rB_ qe hb; replace qf := rB_ qf hb; replace qg := rB_ qg hb; replace qR := rB_ qR hb; have qd := Aside0.mk (hbox); have zc := Aside0.mk ((by rw [hg]; exact (bz_ HB) : w.heap.size ≤ qb)); have zd := Aside0.mk ((by rw [hg]; exact (bz_ HB) : w.heap.size ≤ qb)); replace HB := bS_ HB hb; have qk := Aside0.mk ((nl_ qa hg : qj ≠ qb)); have qw := Aside0.mk ((ng_ qa hg : qb ≠ qj)); replace qa := kB_ qa hb; have qx := Aside0.mk ((nl_ qi hg : qq ≠ qb)); have qy := Aside0.mk ((ng_ qi hg : qb ≠ qq)); replace qi := kB_ qi hb; have qz := Aside0.mk ((nl_ ql hg : qD ≠ qb)); have qA := Aside0.mk ((ng_ ql hg : qb ≠ qD)); replace ql := kB_ ql hb; have qB := Aside0.mk ((nl_ qr hg : qF ≠ qb)); have qC := Aside0.mk ((ng_ qr hg : qb ≠ qF)); replace qr := kB_ qr hb; clear hb hbox hg
              refine hK.out _ _ ⟨bc_ qa 0, bc_ qa 1, bc_ qa 2, HS3_, HS4_⟩ (fun hHeld => ?_)
              clear hK K
              refine norm_ (a' := ?_) ?_ ?_
              rotate_left
              ·
               show Act.put _ (some 19) _ = _
               simp only [Act.put, List.setIfInBounds_toArray, List.set_cons_zero, List.set_cons_succ, i64_w, i32_w]
               rfl
              exact norm_ (by simp only [putAll, Act.put, List.setIfInBounds_toArray, List.set_cons_zero, List.set_cons_succ]) (hCont (q5, qb) _ ⟨hHeld, (by (with_reducible repeat (first | apply Kd.R_alloc | apply Kd.R_drewN | apply Kd.R_drew)); exact Kd.R_mono qR.out (fun _ hk => ⟨hk.1.1.1.2, ⟨hk.1.1.2, ⟨hk.1.2, hk.2⟩⟩⟩)), (rm_ qh), (by (with_reducible repeat (first | apply Kd.R_alloc | apply Kd.R_drewN | apply Kd.R_drew)); exact Kd.R_mono qc.out (fun _ hk => ⟨hk.2, ⟨hk.1.1, ⟨hk.1.2.1, hk.1.2.2⟩⟩⟩)), (by (with_reducible repeat (first | apply Kd.R_alloc | apply Kd.R_drewN | apply Kd.R_drew)); exact Kd.R_mono qe.out (fun _ hk => ⟨hk.2, ⟨hk.1.1, ⟨hk.1.2.1, hk.1.2.2⟩⟩⟩)), (by (with_reducible repeat (first | apply Kd.R_alloc | apply Kd.R_drewN | apply Kd.R_drew)); exact Kd.R_mono qf.out (fun _ hk => ⟨hk.2, ⟨hk.1.1, ⟨hk.1.2.1, hk.1.2.2⟩⟩⟩)), (by (with_reducible repeat (first | apply Kd.R_alloc | apply Kd.R_drewN | apply Kd.R_drew)); exact Kd.R_mono qg.out (fun _ hk => ⟨hk.2, ⟨hk.1.1, ⟨hk.1.2.1, hk.1.2.2⟩⟩⟩)), (kf_ qa), (kf_ qi), (kf_ ql), (kf_ qr), (kf_ qd), zc.out, zd.out, qk.out, qw.out, qx.out, qy.out, qz.out, qA.out, qB.out, qC.out, (bb_ HB)⟩)
             ·
              skip
              refine box_step ?hg (N := 19) ?hd (cs := #[.slice none 0 0, .int .i64 0, .bool false]) (t := 26) ?hr ?_; (case hd => rfl); (case hg => rfl); (case hr => first | (go_simp; done) | (go_simp; rfl))
              intro qb hg JR hbox hb
              have HS3_ := (hb.cell (World.block_lt_of_cell? _ _ (hHeld.2.2.2.1))).trans (hHeld.2.2.2.1)
              have HS4_ := (hb.cell (World.block_lt_of_cell? _ _ (hHeld.2.2.2.2))).trans (hHeld.2.2.2.2)
              replace qh := rB_ qh hb; replace qc := rB_ qc hb; replace qe := rB_ qe hb; replace qf := rB_ qf hb; replace qg := rB_ qg hb; have qd := Aside0.mk (hbox); have zc := Aside0.mk ((by rw [hg]; exact (bz_ HB) : w.heap.size ≤ qb)); have zd := Aside0.mk ((by rw [hg]; exact (bz_ HB) : w.heap.size ≤ qb)); replace HB := bS_ HB hb; have qk := Aside0.mk ((nl_ qa hg : qj ≠ qb)); have qw := Aside0.mk ((ng_ qa hg : qb ≠ qj)); replace qa := kB_ qa hb; have qx := Aside0.mk ((nl_ qi hg : qq ≠ qb)); have qy := Aside0.mk ((ng_ qi hg : qb ≠ qq)); replace qi := kB_ qi hb; have qz := Aside0.mk ((nl_ ql hg : qD ≠ qb)); have qA := Aside0.mk ((ng_ ql hg : qb ≠ qD)); replace ql := kB_ ql hb; have qB := Aside0.mk ((nl_ qr hg : qF ≠ qb)); have qC := Aside0.mk ((ng_ qr hg : qb ≠ qF)); replace qr := kB_ qr hb; clear hb hbox hg
              refine hK.out _ _ ⟨bc_ qa 0, bc_ qa 1, bc_ qa 2, HS3_, HS4_⟩ (fun hHeld => ?_)
              clear hK K
              refine norm_ (a' := ?_) ?_ ?_
              rotate_left
              ·
               show Act.put _ (some 19) _ = _
               simp only [Act.put, List.setIfInBounds_toArray, List.set_cons_zero, List.set_cons_succ, i64_w, i32_w]
               rfl
              refine one_ (i := 6) (N := some 110) #[true, true, true, true, true, true, true, false, false, false, true, false, false] rfl rfl (one_of HT_.out (by kernel_rfl)) (by decide) (fun K hK => ?_)
              refine goes_ Try.func13 (by kernel_rfl) rfl #[.agg #[.slice qH qm.length qG, .int .i64 qt, .bool qu], .int .i64 qo, .agg #[.int .i64 ((rd_T37 qn qo).f0), .int .i64 ((rd_T37 qn qo).f1)]] (by rfl) rfl rfl (by (try simp only [List.map_toArray, List.map_cons, List.map_nil]); first | done | rfl | (simp only [List.length_drop, List.length_take]; rfl)) ?_
              with_reducible refine (impl_FixVariable.calls k2 _ _ qm qt qu qo ((rd_T37 qn qo).f0) ((rd_T37 qn qo).f1) qQ qU qV false _ ?side1 ?side2 A77.out).mono ?_
              (case side1 => exact cr_ qc)
              (case side2 => exact (Kd.R_reads' qc.out).2.1)
              rintro e JS ⟨q5, rfl, ho0, hb⟩
              have HS3_ := (hb.cell (World.block_lt_of_cell? _ _ (hHeld.2.2.2.1))).trans (hHeld.2.2.2.1)
              have HS4_ := (hb.cell (World.block_lt_of_cell? _ _ (hHeld.2.2.2.2))).trans (hHeld.2.2.2.2)
              refine ⟨_, rfl, ?_⟩
              replace qh := rB_ qh hb; have qR := Aside0.mk (Kd.R_lower (Kd.R_new' (Kd.R_new' (Kd.R_new' (Kd.R_new' ho0 (Kd.R_lt (rm_ qc))) (Kd.R_lt (rm_ qe))) (Kd.R_lt (rm_ qf))) (Kd.R_lt (rm_ qg))) (bz_ HB)); replace qc := Aside0.mk (Kd.R_elder' (rm_ qc) (Kd.R_base ho0) hb); replace qe := Aside0.mk (Kd.R_elder' (rm_ qe) (Kd.R_base ho0) hb); replace qf := Aside0.mk (Kd.R_elder' (rm_ qf) (Kd.R_base ho0) hb); replace qg := Aside0.mk (Kd.R_elder' (rm_ qg) (Kd.R_base ho0) hb); replace qa := kB_ qa hb; replace qi := kB_ qi hb; replace ql := kB_ ql hb; replace qr := kB_ qr hb; replace qd := kB_ qd hb; replace HB := bS_ HB hb; (try clear hb); (try clear hb2); (try clear hk); (try clear hi); (try clear ho0)
              refine hK.out _ _ ⟨bc_ qa 0, bc_ qa 1, bc_ qa 2, HS3_, HS4_⟩ (fun hHeld => ?_)
              clear hK K
              refine norm_ (a' := ?_) ?_ ?_
              rotate_left
              ·
               show Act.put _ (some 110) _ = _
               simp only [Act.put, List.setIfInBounds_toArray, List.set_cons_zero, List.set_cons_succ, i64_w, i32_w]
               rfl
              refine pure_ (i := 7) (N := some 103) (v := ?_) (a' := ?_) #[true, true, true, true, true, true, true, true, false, false, true, false, false] rfl rfl (any_of HT_.out (by kernel_rfl)) (fun _ _ _ h => h) (Or.inl ⟨by rfl, ?_⟩) ?_ ?_
              rotate_left
              ·
               intro w'
               go_simp
               with_reducible rfl
              rotate_left
              ·
               simp only [Act.put, List.setIfInBounds_toArray, List.set_cons_zero, List.set_cons_succ, i64_w, i32_w]
               rfl
              refine pure_ (i := 8) (N := some 111) (v := ?_) (a' := ?_) #[true, true, true, true, true, true, true, true, true, false, true, false, false] rfl rfl (any_of HT_.out (by kernel_rfl)) (fun _ _ _ h => h) (Or.inl ⟨by rfl, ?_⟩) ?_ ?_
              rotate_left
              ·
               intro w'
               go_simp
               with_reducible rfl
              rotate_left
              ·
               simp only [Act.put, List.setIfInBounds_toArray, List.set_cons_zero, List.set_cons_succ, i64_w, i32_w]
               rfl
              refine pure_ (i := 9) (N := some 112) (v := ?_) (a' := ?_) #[true, true, true, true, true, true, true, true, true, true, true, false, false] rfl rfl (any_of HT_.out (by kernel_rfl)) (fun _ _ _ h => h) (Or.inl ⟨by rfl, ?_⟩) ?_ ?_
              rotate_left
              ·
               intro w'
               go_simp
               with_reducible rfl
              rotate_left
              ·
               simp only [Act.put, List.setIfInBounds_toArray, List.set_cons_zero, List.set_cons_succ, i64_w, i32_w]
               rfl
              exact norm_ (by simp only [putAll, Act.put, List.setIfInBounds_toArray, List.set_cons_zero, List.set_cons_succ]) (hCont (q5, qb) _ ⟨hHeld, (by (with_reducible repeat (first | apply Kd.R_alloc | apply Kd.R_drewN | apply Kd.R_drew)); exact Kd.R_mono qR.out (fun _ hk => ⟨hk.1.1.1.2, ⟨hk.1.1.2, ⟨hk.1.2, hk.2⟩⟩⟩)), (rm_ qh), (by (with_reducible repeat (first | apply Kd.R_alloc | apply Kd.R_drewN | apply Kd.R_drew)); exact Kd.R_mono qc.out (fun _ hk => ⟨hk.2, ⟨hk.1.1, ⟨hk.1.2.1, hk.1.2.2⟩⟩⟩)), (by (with_reducible repeat (first | apply Kd.R_alloc | apply Kd.R_drewN | apply Kd.R_drew)); exact Kd.R_mono qe.out (fun _ hk => ⟨hk.2, ⟨hk.1.1, ⟨hk.1.2.1, hk.1.2.2⟩⟩⟩)), (by (with_reducible repeat (first | apply Kd.R_alloc | apply Kd.R_drewN | apply Kd.R_drew)); exact Kd.R_mono qf.out (fun _ hk => ⟨hk.2, ⟨hk.1.1, ⟨hk.1.2.1, hk.1.2.2⟩⟩⟩)), (by (with_reducible repeat (first | apply Kd.R_alloc | apply Kd.R_drewN | apply Kd.R_drew)); exact Kd.R_mono qg.out (fun _ hk => ⟨hk.2, ⟨hk.1.1, ⟨hk.1.2.1, hk.1.2.2⟩⟩⟩)), (kf_ qa), (kf_ qi), (kf_ ql), (kf_ qr), (kf_ qd), zc.out, zd.out, qk.out, qw.out, qx.out, qy.out, qz.out, qA.out, qB.out, qC.out, (bb_ HB)⟩)
            rintro ⟨q5, qb⟩ zn ⟨hS_, h0_, h1_, h2_, h3_, h4_, h5_, h6_, h7_, h8_, h9_, h10_, h11_, h12_, h13_, h14_, h15_, h16_, h17_, h18_, h19_, h20_, h21_⟩
            have n0_ : Aside0 (Kd.R (Kd.int .i64) 3 zn w.heap.size (fun k_ => some k_ ≠ (.slice qH qm.length qG : Value).ownBlock ∧ some k_ ≠ (.slice qM qv.length qL : Value).ownBlock ∧ some k_ ≠ (.slice qO qE.length qP : Value).ownBlock ∧ some k_ ≠ (.slice qS qK.length qT : Value).ownBlock) q5 qQ) := ⟨h0_⟩
            have n1_ : Aside0 (Kd.R k37 37 zn w.heap.size (fun _ => True) (.slice (some qN) qn.length zj) qn) := ⟨h1_⟩
            have n2_ : Aside0 (Kd.R (Kd.int .i64) 3 zn w.heap.size (fun k_ => some k_ ≠ (q5 : Value).ownBlock ∧ some k_ ≠ (.slice qM qv.length qL : Value).ownBlock ∧ some k_ ≠ (.slice qO qE.length qP : Value).ownBlock ∧ some k_ ≠ (.slice qS qK.length qT : Value).ownBlock) (.slice qH qm.length qG) qm) := ⟨h2_⟩
            have n3_ : Aside0 (Kd.R (Kd.int .i64) 3 zn w.heap.size (fun k_ => some k_ ≠ (q5 : Value).ownBlock ∧ some k_ ≠ (.slice qH qm.length qG : Value).ownBlock ∧ some k_ ≠ (.slice qO qE.length qP : Value).ownBlock ∧ some k_ ≠ (.slice qS qK.length qT : Value).ownBlock) (.slice qM qv.length qL) qv) := ⟨h3_⟩
            have n4_ : Aside0 (Kd.R (Kd.int .i64) 3 zn w.heap.size (fun k_ => some k_ ≠ (q5 : Value).ownBlock ∧ some k_ ≠ (.slice qH qm.length qG : Value).ownBlock ∧ some k_ ≠ (.slice qM qv.length qL : Value).ownBlock ∧ some k_ ≠ (.slice qS qK.length qT : Value).ownBlock) (.slice qO qE.length qP) qE) := ⟨h4_⟩
            have n5_ : Aside0 (Kd.R (Kd.int .i64) 3 zn w.heap.size (fun k_ => some k_ ≠ (q5 : Value).ownBlock ∧ some k_ ≠ (.slice qH qm.length qG : Value).ownBlock ∧ some k_ ≠ (.slice qM qv.length qL : Value).ownBlock ∧ some k_ ≠ (.slice qO qE.length qP : Value).ownBlock) (.slice qS qK.length qT) qK) := ⟨h5_⟩
            have n6_ : Aside0 (zn.heap[qj]? = some (.cells #[.slice qH qm.length qG, .int .i64 qt, .bool qu] 26 (0, 0))) := ⟨h6_⟩
            have n7_ : Aside0 (zn.heap[qq]? = some (.cells #[.slice qM qv.length qL, .int .i64 qW, .bool qY] 26 (0, 0))) := ⟨h7_⟩
            have n8_ : Aside0 (zn.heap[qD]? = some (.cells #[.slice qO qE.length qP, .int .i64 q0, .bool q1] 26 (0, 0))) := ⟨h8_⟩
            have n9_ : Aside0 (zn.heap[qF]? = some (.cells #[.slice qS qK.length qT, .int .i64 zf, .bool zi] 26 (0, 0))) := ⟨h9_⟩
            have n10_ : Aside0 (zn.heap[qb]? = some (.cells #[.slice none 0 0, .int .i64 0, .bool false] 26 (0, 0))) := ⟨h10_⟩
            have n11_ : Aside0 (w.heap.size ≤ qb) := ⟨h11_⟩
            have n12_ : Aside0 (w.heap.size ≤ qb) := ⟨h12_⟩
            have n13_ : Aside0 (qj ≠ qb) := ⟨h13_⟩
            have n14_ : Aside0 (qb ≠ qj) := ⟨h14_⟩
            have n15_ : Aside0 (qq ≠ qb) := ⟨h15_⟩
            have n16_ : Aside0 (qb ≠ qq) := ⟨h16_⟩
            have n17_ : Aside0 (qD ≠ qb) := ⟨h17_⟩
            have n18_ : Aside0 (qb ≠ qD) := ⟨h18_⟩
            have n19_ : Aside0 (qF ≠ qb) := ⟨h19_⟩
            have n20_ : Aside0 (qb ≠ qF) := ⟨h20_⟩
            have n21_ : Aside0 (Below w.heap.size w zn) := ⟨h21_⟩
            clear qh
            clear qc
            clear qe
            clear qf
            clear qg
            clear qa
            clear qi
            clear ql
            clear qr
            clear HB
            clear h0_ h1_ h2_ h3_ h4_ h5_ h6_ h7_ h8_ h9_ h10_ h11_ h12_ h13_ h14_ h15_ h16_ h17_ h18_ h19_ h20_ h21_
            have qR := n0_
            have qh := n1_
            have qc := n2_
            have qe := n3_
            have qf := n4_
            have qg := n5_
            have qa := n6_
            have qi := n7_
            have ql := n8_
            have qr := n9_
            have qd := n10_
            have zc := n11_
            have zd := n12_
            have qk := n13_
            have qw := n14_
            have qx := n15_
            have qy := n16_
            have qz := n17_
            have qA := n18_
            have qB := n19_
            have qC := n20_
            have HB := n21_
            clear n0_ n1_ n2_ n3_ n4_ n5_ n6_ n7_ n8_ n9_ n10_ n11_ n12_ n13_ n14_ n15_ n16_ n17_ n18_ n19_ n20_ n21_
            have hHeld : zn.cell? ⟨qj, 0, none⟩ = some (.slice qH qm.length qG) ∧ zn.cell? ⟨qj, 1, none⟩ = some (.int .i64 qt) ∧ zn.cell? ⟨qj, 2, none⟩ = some (.bool qu) ∧ zn.cell? (qN.add ((qo).toNat * 2)) = some (.int .i64 ((rd_T37 qn qo).f0)) ∧ zn.cell? ⟨(qN.add ((qo).toNat * 2)).block, (qN.add ((qo).toNat * 2)).off + 1, none⟩ = some (.int .i64 ((rd_T37 qn qo).f1)) := hS_
            obtain ⟨zJ, zF, eo143⟩ := Kd.R_slice qR.out
            (first | subst eo143 | (injection eo143 with f1_ f2_ f3_; have f4_ := f1_.symm; have f5_ := f3_.symm; clear f1_ f2_ f3_; subst f4_; subst f5_))
            refine norm_ (a' := ?_) ?_ ?_
            rotate_left
            ·
             simp only [putAll, Act.put, List.setIfInBounds_toArray, List.set_cons_zero, List.set_cons_succ]
             rfl
            refine one_ (i := 11) (N := none) #[true, true, true, true, true, true, true, true, true, true, true, true, false] rfl rfl (one_of HT_.out (by kernel_rfl)) (by decide) (fun K hK => ?_)
            have hs144 : zn.cell? ⟨qb, 0, none⟩ = some (.slice none 0 0) := bc_ qd 0
            have hfs144 := blk_frozen qd.out 0
            have hns144_0 := qk.out
            have hns144_1 := qx.out
            have hns144_2 := qz.out
            have hns144_3 := qB.out
            have hms144_0 := qw.out
            have hms144_1 := qy.out
            have hms144_2 := qA.out
            have hms144_3 := qC.out
            have hs145 : zn.cell? ⟨qb, 1, none⟩ = some (.int .i64 0) := bc_ qd 1
            have hfs145 := blk_frozen qd.out 1
            have hns145_0 := qk.out
            have hns145_1 := qx.out
            have hns145_2 := qz.out
            have hns145_3 := qB.out
            have hms145_0 := qw.out
            have hms145_1 := qy.out
            have hms145_2 := qA.out
            have hms145_3 := qC.out
            have hs146 : zn.cell? ⟨qb, 2, none⟩ = some (.bool false) := bc_ qd 2
            have hfs146 := blk_frozen qd.out 2
            have hns146_0 := qk.out
            have hns146_1 := qx.out
            have hns146_2 := qz.out
            have hns146_3 := qB.out
            have hms146_0 := qw.out
            have hms146_1 := qy.out
            have hms146_2 := qA.out
            have hms146_3 := qC.out
            refine skip_ (w1 := ?_) (by rfl) rfl ?_ ?_
            rotate_left
            ·
             go_simp
             rfl
            refine hK.out _ _ ⟨((cell_far (p := ⟨qb, _, none⟩) qk.out _).trans (((cell_far (p := ⟨qb, _, none⟩) qk.out _).trans (((cell_far (p := ⟨qb, _, none⟩) qk.out _).trans (hHeld.1)))))), ((cell_far (p := ⟨qb, _, none⟩) qk.out _).trans (((cell_far (p := ⟨qb, _, none⟩) qk.out _).trans (((cell_far (p := ⟨qb, _, none⟩) qk.out _).trans (hHeld.2.1)))))), ((cell_far (p := ⟨qb, _, none⟩) qk.out _).trans (((cell_far (p := ⟨qb, _, none⟩) qk.out _).trans (((cell_far (p := ⟨qb, _, none⟩) qk.out _).trans (hHeld.2.2.1)))))), ((cell_far (p := ⟨qb, _, none⟩) (by first | exact Kd.own_blk (Kd.R_ne qh.out qd.out (by decide)) | (rw [add_block]; exact Kd.own_blk (Kd.R_ne qh.out qd.out (by decide))) | (show (Addr.add _ _).block ≠ _; rw [add_block]; exact Kd.own_blk (Kd.R_ne qh.out qd.out (by decide))) | (dsimp only; exact Kd.own_blk (Kd.R_ne qh.out qd.out (by decide)))) _).trans (((cell_far (p := ⟨qb, _, none⟩) (by first | exact Kd.own_blk (Kd.R_ne qh.out qd.out (by decide)) | (rw [add_block]; exact Kd.own_blk (Kd.R_ne qh.out qd.out (by decide))) | (show (Addr.add _ _).block ≠ _; rw [add_block]; exact Kd.own_blk (Kd.R_ne qh.out qd.out (by decide))) | (dsimp only; exact Kd.own_blk (Kd.R_ne qh.out qd.out (by decide)))) _).trans (((cell_far (p := ⟨qb, _, none⟩) (by first | exact Kd.own_blk (Kd.R_ne qh.out qd.out (by decide)) | (rw [add_block]; exact Kd.own_blk (Kd.R_ne qh.out qd.out (by decide))) | (show (Addr.add _ _).block ≠ _; rw [add_block]; exact Kd.own_blk (Kd.R_ne qh.out qd.out (by decide))) | (dsimp only; exact Kd.own_blk (Kd.R_ne qh.out qd.out (by decide)))) _).trans (hHeld.2.2.2.1)))))), ((cell_far (p := ⟨qb, _, none⟩) (by first | exact Kd.own_blk (Kd.R_ne qh.out qd.out (by decide)) | (rw [add_block]; exact Kd.own_blk (Kd.R_ne qh.out qd.out (by decide))) | (show (Addr.add _ _).block ≠ _; rw [add_block]; exact Kd.own_blk (Kd.R_ne qh.out qd.out (by decide))) | (dsimp only; exact Kd.own_blk (Kd.R_ne qh.out qd.out (by decide)))) _).trans (((cell_far (p := ⟨qb, _, none⟩) (by first | exact Kd.own_blk (Kd.R_ne qh.out qd.out (by decide)) | (rw [add_block]; exact Kd.own_blk (Kd.R_ne qh.out qd.out (by decide))) | (show (Addr.add _ _).block ≠ _; rw [add_block]; exact Kd.own_blk (Kd.R_ne qh.out qd.out (by decide))) | (dsimp only; exact Kd.own_blk (Kd.R_ne qh.out qd.out (by decide)))) _).trans (((cell_far (p := ⟨qb, _, none⟩) (by first | exact Kd.own_blk (Kd.R_ne qh.out qd.out (by decide)) | (rw [add_block]; exact Kd.own_blk (Kd.R_ne qh.out qd.out (by decide))) | (show (Addr.add _ _).block ≠ _; rw [add_block]; exact Kd.own_blk (Kd.R_ne qh.out qd.out (by decide))) | (dsimp only; exact Kd.own_blk (Kd.R_ne qh.out qd.out (by decide)))) _).trans (hHeld.2.2.2.2))))))⟩ (fun hHeld => ?_)
            clear hK K
            refine pure_ (i := 12) (N := some 20) (v := ?_) (a' := ?_) #[true, true, true, true, true, true, true, true, true, true, true, true, true] rfl rfl (any_of HT_.out (by kernel_rfl)) (fun _ _ _ h => h) (Or.inl ⟨by rfl, ?_⟩) ?_ ?_
            rotate_left
            ·
             intro w'
             go_simp
             with_reducible rfl
            rotate_left
            ·
             simp only [Act.put, List.setIfInBounds_toArray, List.set_cons_zero, List.set_cons_succ, i64_w, i32_w]
             rfl
            refine done_ (done_of HT_.out (by kernel_rfl)) ?_
            have JT := qw.out
            have JU := qk.out
            have JV := qy.out
            have JW := qx.out
            have JX := qA.out
            have JY := qz.out
            have JZ := qC.out
            have J0 := qB.out
            have Zt : zn.cell? ⟨qb, 0, none⟩ = some (.slice none 0 0) := bc_ qd 0
            have Zu : zn.cell? ⟨qb, 1, none⟩ = some (.int .i64 0) := bc_ qd 1
            have Zv : zn.cell? ⟨qb, 2, none⟩ = some (.bool false) := bc_ qd 2
            have Zw := blk_frozen qd.out 0
            have Zx := blk_frozen qd.out 1
            have Zy := blk_frozen qd.out 2
            try go_wp2_with (first | ((with_reducible refine gate_callee (f := 12) rfl ?_); refine goesL_ (some 116) rfl rfl Try.func12 (by kernel_rfl) rfl #[.agg #[.slice zJ qQ.length zF, .int .i64 qU, .bool qV], .slice (some qN) qn.length zj] rfl (by (try simp only [List.map_toArray, List.map_cons, List.map_nil]); first | done | rfl | (simp only [List.length_drop, List.length_take]; rfl)) ?_; (with_reducible refine (impl_HoldsAt.calls k2 _ _ qQ qU qV _ _ qn zP QN _ ?side1 ?side2 ?side3 ?side4 A78.out).mono ?_); (case side1 => refine (Kd.R_reads' (e := 3) (base := w.heap.size) (ok := fun k_ => (some k_ ≠ (.slice qH qm.length qG : Value).ownBlock ∧ (some k_ ≠ (.slice qM qv.length qL : Value).ownBlock ∧ (some k_ ≠ (.slice qO qE.length qP : Value).ownBlock ∧ some k_ ≠ (.slice qS qK.length qT : Value).ownBlock)))) (n := qQ.length) (c := zF) ?_).2.2; exact (by (with_reducible repeat (first | apply Kd.R_alloc | apply Kd.R_drewN | apply Kd.R_drew)); exact (rt3_ qR qd (by decide) 0 1 2 (.slice zJ qQ.length zF) (.int .i64 qU) (.bool qV)))); (case side2 => exact (Kd.R_reads' qR.out).2.1); (case side3 => refine (Kd.R_reads' (e := 37) (base := w.heap.size) (ok := fun k_ => True) (n := qn.length) (c := zj) ?_).2.2; exact (by (with_reducible repeat (first | apply Kd.R_alloc | apply Kd.R_drewN | apply Kd.R_drew)); exact (rt3_ qh qd (by decide) 0 1 2 (.slice zJ qQ.length zF) (.int .i64 qU) (.bool qV)))); (case side4 => exact (Kd.R_reads' qh.out).2.1); rintro e X1 ⟨rfl, hb⟩; refine ⟨_, rfl, ?_⟩; replace qh := Aside0.mk (Kd.R_below (by (with_reducible repeat (first | apply Kd.R_alloc | apply Kd.R_drewN | apply Kd.R_drew)); exact (rt3_ qh qd (by decide) 0 1 2 (.slice zJ qQ.length zF) (.int .i64 qU) (.bool qV))) hb); replace qc := Aside0.mk (Kd.R_below (by (with_reducible repeat (first | apply Kd.R_alloc | apply Kd.R_drewN | apply Kd.R_drew)); exact (rt3_ qc qd (by decide) 0 1 2 (.slice zJ qQ.length zF) (.int .i64 qU) (.bool qV))) hb); replace qe := Aside0.mk (Kd.R_below (by (with_reducible repeat (first | apply Kd.R_alloc | apply Kd.R_drewN | apply Kd.R_drew)); exact (rt3_ qe qd (by decide) 0 1 2 (.slice zJ qQ.length zF) (.int .i64 qU) (.bool qV))) hb); replace qf := Aside0.mk (Kd.R_below (by (with_reducible repeat (first | apply Kd.R_alloc | apply Kd.R_drewN | apply Kd.R_drew)); exact (rt3_ qf qd (by decide) 0 1 2 (.slice zJ qQ.length zF) (.int .i64 qU) (.bool qV))) hb); replace qg := Aside0.mk (Kd.R_below (by (with_reducible repeat (first | apply Kd.R_alloc | apply Kd.R_drewN | apply Kd.R_drew)); exact (rt3_ qg qd (by decide) 0 1 2 (.slice zJ qQ.length zF) (.int .i64 qU) (.bool qV))) hb); replace qR := Aside0.mk (Kd.R_below (by (with_reducible repeat (first | apply Kd.R_alloc | apply Kd.R_drewN | apply Kd.R_drew)); exact (rt3_ qR qd (by decide) 0 1 2 (.slice zJ qQ.length zF) (.int .i64 qU) (.bool qV))) hb); replace qa := Aside0.mk (blk_below (g := qj) (o := .cells #[.slice qH qm.length qG, .int .i64 qt, .bool qu] 26 (0, 0)) (kf_ qa) hb); replace qi := Aside0.mk (blk_below (g := qq) (o := .cells #[.slice qM qv.length qL, .int .i64 qW, .bool qY] 26 (0, 0)) (kf_ qi) hb); replace ql := Aside0.mk (blk_below (g := qD) (o := .cells #[.slice qO qE.length qP, .int .i64 q0, .bool q1] 26 (0, 0)) (kf_ ql) hb); replace qr := Aside0.mk (blk_below (g := qF) (o := .cells #[.slice qS qK.length qT, .int .i64 zf, .bool zi] 26 (0, 0)) (kf_ qr) hb); replace qd := Aside0.mk (blk_below (g := qb) (o := .cells #[.slice zJ qQ.length zF, .int .i64 qU, .bool qV] 26 (0, 0)) (by (with_reducible repeat (first | refine blk_drewN ?_ _ | refine blk_drew ?_ | refine blk_alloc ?_ _)); refine blk_put (cs := #[.slice zJ qQ.length zF, .int .i64 qU, .bool false]) ?_ 2 _ rfl; (with_reducible repeat (first | refine blk_drewN ?_ _ | refine blk_drew ?_ | refine blk_alloc ?_ _)); refine blk_put (cs := #[.slice zJ qQ.length zF, .int .i64 0, .bool false]) ?_ 1 _ rfl; (with_reducible repeat (first | refine blk_drewN ?_ _ | refine blk_drew ?_ | refine blk_alloc ?_ _)); refine blk_put (cs := #[.slice none 0 0, .int .i64 0, .bool false]) ?_ 0 _ rfl; (with_reducible repeat (first | refine blk_drewN ?_ _ | refine blk_drew ?_ | refine blk_alloc ?_ _)); exact qd.out) hb); replace HB := bS_ HB hb; (try clear hb); (try clear hb2); (try clear hk); (try clear hi)))
            go_roundg k2
            case measure => have := HJ35.out; have := HK2.out; omega
            case rel => exact ⟨(wrap64 (qo + 1)), (by first | rfl | (simp; done) | (simp [*]; done)), H', ⟨by have := HJ35.out; have := HK2.out; omega⟩, ⟨by (with_reducible repeat (first | apply Kd.R_alloc | apply Kd.R_drewN | apply Kd.R_drew)); exact qh.out⟩, ⟨by (with_reducible repeat (first | apply Kd.R_alloc | apply Kd.R_drewN | apply Kd.R_drew)); exact Kd.R_mono qc.out (fun _ hk => ⟨hk.2.1, ⟨hk.2.2.1, hk.2.2.2⟩⟩)⟩, ⟨by (with_reducible repeat (first | apply Kd.R_alloc | apply Kd.R_drewN | apply Kd.R_drew)); exact Kd.R_mono qe.out (fun _ hk => ⟨hk.2.1, ⟨hk.2.2.1, hk.2.2.2⟩⟩)⟩, ⟨by (with_reducible repeat (first | apply Kd.R_alloc | apply Kd.R_drewN | apply Kd.R_drew)); exact Kd.R_mono qf.out (fun _ hk => ⟨hk.2.1, ⟨hk.2.2.1, hk.2.2.2⟩⟩)⟩, ⟨by (with_reducible repeat (first | apply Kd.R_alloc | apply Kd.R_drewN | apply Kd.R_drew)); exact Kd.R_mono qg.out (fun _ hk => ⟨hk.2.1, ⟨hk.2.2.1, hk.2.2.2⟩⟩)⟩, ⟨kf_ qa⟩, ⟨kf_ qi⟩, ⟨kf_ ql⟩, ⟨kf_ qr⟩, ⟨bb_ HB⟩⟩
          ·
           rw [if_neg c76] at H
           exact absurd H (by simp)
         ·
          rw [if_neg c75] at H
          have Q7 : decide (qo < (qn.length : Int)) = false := decide_eq_false c75
          clear c75
          obtain rfl := Option.some.inj H
          go_wp2
          go_ret
          exact ⟨by first | rfl | (simp [errW_none, errW_some] <;> rfl) | (simp [*, errW_none, errW_some] <;> rfl), bb_ HB⟩
   ·
    replace c31 := Bool.eq_false_iff.mpr c31
    subst c31
    have H1 : (some ((qE.length : Int) == 0)) = some r := by rw [if_neg (show ¬ (false = true) by decide)] at H; exact H
    clear H
    have H := H1
    clear H1
    obtain rfl := Option.some.inj H
    go_enter Try.func3, Try.ntmps3
    go_wp2_with (first | ((with_reducible refine gate_callee (f := 7) rfl ?_); refine goesL_ (some 24) rfl rfl Try.func7 (by kernel_rfl) rfl #[.slice A0 l0.length c0] rfl (by (try simp only [List.map_toArray, List.map_cons, List.map_nil]); first | done | rfl | (simp only [List.length_drop, List.length_take]; rfl)) ?_; (with_reducible refine (laws_big.calls _ _ l0 false _ ?side1 ?side2 A2.out).mono ?_); (case side1 => repeat (first | exact HR0.out | (with_reducible refine Kd.C_alloc ?_ _) | (with_reducible refine Kd.C_drewN ?_ _) | (with_reducible refine Kd.C_drew ?_))); (case side2 => exact HC0.out); rintro e w' ⟨rfl, ⟨nd, rfl⟩⟩; refine ⟨_, rfl, ?_⟩) | ((with_reducible refine gate_callee (f := 8) rfl ?_); refine goesL_ (some 27) rfl rfl Try.func8 (by kernel_rfl) rfl #[.slice A0 l0.length c0] rfl (by (try simp only [List.map_toArray, List.map_cons, List.map_nil]); first | done | rfl | (simp only [List.length_drop, List.length_take]; rfl)) ?_; (with_reducible refine (spec_DrawMixAtoms.calls k _ _ l0 qm qt qu zK qv qW qY zL _ ?side1 ?side2 A4.out).mono ?_); (case side1 => repeat (first | exact HR0.out | (with_reducible refine Kd.C_alloc ?_ _) | (with_reducible refine Kd.C_drewN ?_ _) | (with_reducible refine Kd.C_drew ?_))); (case side2 => exact HC0.out); rintro e X2 ⟨Q3, Q4, rfl, ho0, ho1, hb⟩; refine ⟨_, rfl, ?_⟩; have qI := Aside0.mk (Kd.R_lower ho0 (bz_ HB)); have qJ := Aside0.mk (Kd.R_lower ho1 (bz_ HB)); replace HB := bS_ HB hb; (try clear hb); (try clear hb2); (try clear hk); (try clear hi); (try clear ho0); (try clear ho1)) | ((with_reducible refine gate_dst (N := 3) rfl ?_); refine box_event ?hg (N := 3) ?hd (cs := #[.slice none 0 0, .int .i64 0, .bool false]) (t := 26) ?hr ?_; (case hd => rfl); (case hg => rfl); (case hr => first | (go_simp; done) | (go_simp; rfl)); intro qj hg X3 hbox hb; replace qI := rB_ qI hb; replace qJ := rB_ qJ hb; have qa := Aside0.mk (hbox); have QO := Aside0.mk ((by rw [hg]; exact (bz_ HB) : w.heap.size ≤ qj)); have QP := Aside0.mk ((by rw [hg]; exact (bz_ HB) : w.heap.size ≤ qj)); replace HB := bS_ HB hb; clear hb hbox hg) | ((with_reducible refine gate_dst (N := 5) rfl ?_); refine box_event ?hg (N := 5) ?hd (cs := #[.slice none 0 0, .int .i64 0, .bool false]) (t := 26) ?hr ?_; (case hd => rfl); (case hg => rfl); (case hr => first | (go_simp; done) | (go_simp; rfl)); intro qq hg QG hbox hb; replace qI := rB_ qI hb; replace qJ := rB_ qJ hb; have qi := Aside0.mk (hbox); have QQ := Aside0.mk ((by rw [hg]; exact (bz_ HB) : w.heap.size ≤ qq)); have QR := Aside0.mk ((by rw [hg]; exact (bz_ HB) : w.heap.size ≤ qq)); replace HB := bS_ HB hb; have q3 := Aside0.mk ((nl_ qa hg : qj ≠ qq)); have q4 := Aside0.mk ((ng_ qa hg : qq ≠ qj)); replace qa := kB_ qa hb; clear hb hbox hg; obtain ⟨zo, zg, eo156⟩ := Kd.R_slice qI.out; subst eo156; have J1 := q3.out; have J2 := q4.out; have Zz : QG.cell? ⟨qj, 0, none⟩ = some (.slice none 0 0) := bc_ qa 0; have ZA : QG.cell? ⟨qj, 1, none⟩ = some (.int .i64 0) := bc_ qa 1; have ZB : QG.cell? ⟨qj, 2, none⟩ = some (.bool false) := bc_ qa 2; have ZC := blk_frozen qa.out 0; have ZD := blk_frozen qa.out 1; have ZE := blk_frozen qa.out 2; obtain ⟨zp, zh, eo159⟩ := Kd.R_slice qJ.out; subst eo159; have ZF : QG.cell? ⟨qq, 0, none⟩ = some (.slice none 0 0) := bc_ qi 0; have ZG : QG.cell? ⟨qq, 1, none⟩ = some (.int .i64 0) := bc_ qi 1; have ZH : QG.cell? ⟨qq, 2, none⟩ = some (.bool false) := bc_ qi 2; have ZI := blk_frozen qi.out 0; have ZJ := blk_frozen qi.out 1; have ZK := blk_frozen qi.out 2) | ((with_reducible refine gate_callee (f := 9) rfl ?_); refine goesL_ (some 37) rfl rfl Try.func9 (by kernel_rfl) rfl #[.agg #[.slice zo qm.length zg, .int .i64 qt, .bool qu], .int .i64 zK, .agg #[.slice zp qv.length zh, .int .i64 qW, .bool qY], .int .i64 zL] rfl (by (try simp only [List.map_toArray, List.map_cons, List.map_nil]); first | done | rfl | (simp only [List.length_drop, List.length_take]; rfl)) ?_; (with_reducible refine (impl_MixAtoms.calls k _ _ qm qt qu zK _ _ qv qW qY zL qE q0 q1 false _ ?side1 ?side2 ?side3 ?side4 A5.out).mono ?_); (case side1 => refine (Kd.R_reads' (e := 3) (base := w.heap.size) (ok := fun k_ => some k_ ≠ (.slice zp qv.length zh : Value).ownBlock) (n := qm.length) (c := zg) ?_).2.2; exact (by (with_reducible repeat (first | apply Kd.R_alloc | apply Kd.R_drewN | apply Kd.R_drew)); exact (Kd.R_mono (Kd.R_mono (Kd.R_far (p := ⟨qq, 2, none⟩) (Kd.R_far (p := ⟨qq, 1, none⟩) (Kd.R_far (p := ⟨qq, 0, none⟩) (Kd.R_far (p := ⟨qj, 2, none⟩) (Kd.R_far (p := ⟨qj, 1, none⟩) (Kd.R_far (p := ⟨qj, 0, none⟩) (Kd.R_types (Kd.R_types qI.out qa.out (by decide)) qi.out (by decide)) (fun _ hk => hk.1.2) (.slice zo qm.length zg)) (fun _ hk => hk.1.2) (.int .i64 qt)) (fun _ hk => hk.1.2) (.bool qu)) (fun _ hk => hk.2) (.slice zp qv.length zh)) (fun _ hk => hk.2) (.int .i64 qW)) (fun _ hk => hk.2) (.bool qY)) (fun _ h_ => h_.1)) (fun _ h_ => h_.1)))); (case side2 => exact (Kd.R_reads' qI.out).2.1); (case side3 => refine (Kd.R_reads' (e := 3) (base := w.heap.size) (ok := fun k_ => some k_ ≠ (.slice zo qm.length zg : Value).ownBlock) (n := qv.length) (c := zh) ?_).2.2; exact (by (with_reducible repeat (first | apply Kd.R_alloc | apply Kd.R_drewN | apply Kd.R_drew)); exact (Kd.R_mono (Kd.R_mono (Kd.R_far (p := ⟨qq, 2, none⟩) (Kd.R_far (p := ⟨qq, 1, none⟩) (Kd.R_far (p := ⟨qq, 0, none⟩) (Kd.R_far (p := ⟨qj, 2, none⟩) (Kd.R_far (p := ⟨qj, 1, none⟩) (Kd.R_far (p := ⟨qj, 0, none⟩) (Kd.R_types (Kd.R_types qJ.out qa.out (by decide)) qi.out (by decide)) (fun _ hk => hk.1.2) (.slice zo qm.length zg)) (fun _ hk => hk.1.2) (.int .i64 qt)) (fun _ hk => hk.1.2) (.bool qu)) (fun _ hk => hk.2) (.slice zp qv.length zh)) (fun _ hk => hk.2) (.int .i64 qW)) (fun _ hk => hk.2) (.bool qY)) (fun _ h_ => h_.1)) (fun _ h_ => h_.1)))); (case side4 => exact (Kd.R_reads' qJ.out).2.1); rintro e X4 ⟨Q5, rfl, ho0, hb⟩; refine ⟨_, rfl, ?_⟩; have qZ := Aside0.mk (Kd.R_lower (Kd.R_new' (Kd.R_new' ho0 (Kd.R_lt (by (with_reducible repeat (first | apply Kd.R_alloc | apply Kd.R_drewN | apply Kd.R_drew)); exact (Kd.R_mono (Kd.R_mono (Kd.R_far (p := ⟨qq, 2, none⟩) (Kd.R_far (p := ⟨qq, 1, none⟩) (Kd.R_far (p := ⟨qq, 0, none⟩) (Kd.R_far (p := ⟨qj, 2, none⟩) (Kd.R_far (p := ⟨qj, 1, none⟩) (Kd.R_far (p := ⟨qj, 0, none⟩) (Kd.R_types (Kd.R_types qI.out qa.out (by decide)) qi.out (by decide)) (fun _ hk => hk.1.2) (.slice zo qm.length zg)) (fun _ hk => hk.1.2) (.int .i64 qt)) (fun _ hk => hk.1.2) (.bool qu)) (fun _ hk => hk.2) (.slice zp qv.length zh)) (fun _ hk => hk.2) (.int .i64 qW)) (fun _ hk => hk.2) (.bool qY)) (fun _ h_ => h_.1)) (fun _ h_ => h_.1))))) (Kd.R_lt (by (with_reducible repeat (first | apply Kd.R_alloc | apply Kd.R_drewN | apply Kd.R_drew)); exact (Kd.R_mono (Kd.R_mono (Kd.R_far (p := ⟨qq, 2, none⟩) (Kd.R_far (p := ⟨qq, 1, none⟩) (Kd.R_far (p := ⟨qq, 0, none⟩) (Kd.R_far (p := ⟨qj, 2, none⟩) (Kd.R_far (p := ⟨qj, 1, none⟩) (Kd.R_far (p := ⟨qj, 0, none⟩) (Kd.R_types (Kd.R_types qJ.out qa.out (by decide)) qi.out (by decide)) (fun _ hk => hk.1.2) (.slice zo qm.length zg)) (fun _ hk => hk.1.2) (.int .i64 qt)) (fun _ hk => hk.1.2) (.bool qu)) (fun _ hk => hk.2) (.slice zp qv.length zh)) (fun _ hk => hk.2) (.int .i64 qW)) (fun _ hk => hk.2) (.bool qY)) (fun _ h_ => h_.1)) (fun _ h_ => h_.1))))) (bz_ HB)); replace qI := Aside0.mk (Kd.R_elder' (by (with_reducible repeat (first | apply Kd.R_alloc | apply Kd.R_drewN | apply Kd.R_drew)); exact (Kd.R_mono (Kd.R_mono (Kd.R_far (p := ⟨qq, 2, none⟩) (Kd.R_far (p := ⟨qq, 1, none⟩) (Kd.R_far (p := ⟨qq, 0, none⟩) (Kd.R_far (p := ⟨qj, 2, none⟩) (Kd.R_far (p := ⟨qj, 1, none⟩) (Kd.R_far (p := ⟨qj, 0, none⟩) (Kd.R_types (Kd.R_types qI.out qa.out (by decide)) qi.out (by decide)) (fun _ hk => hk.1.2) (.slice zo qm.length zg)) (fun _ hk => hk.1.2) (.int .i64 qt)) (fun _ hk => hk.1.2) (.bool qu)) (fun _ hk => hk.2) (.slice zp qv.length zh)) (fun _ hk => hk.2) (.int .i64 qW)) (fun _ hk => hk.2) (.bool qY)) (fun _ h_ => h_.1)) (fun _ h_ => h_.1))) (Kd.R_base ho0) hb); replace qJ := Aside0.mk (Kd.R_elder' (by (with_reducible repeat (first | apply Kd.R_alloc | apply Kd.R_drewN | apply Kd.R_drew)); exact (Kd.R_mono (Kd.R_mono (Kd.R_far (p := ⟨qq, 2, none⟩) (Kd.R_far (p := ⟨qq, 1, none⟩) (Kd.R_far (p := ⟨qq, 0, none⟩) (Kd.R_far (p := ⟨qj, 2, none⟩) (Kd.R_far (p := ⟨qj, 1, none⟩) (Kd.R_far (p := ⟨qj, 0, none⟩) (Kd.R_types (Kd.R_types qJ.out qa.out (by decide)) qi.out (by decide)) (fun _ hk => hk.1.2) (.slice zo qm.length zg)) (fun _ hk => hk.1.2) (.int .i64 qt)) (fun _ hk => hk.1.2) (.bool qu)) (fun _ hk => hk.2) (.slice zp qv.length zh)) (fun _ hk => hk.2) (.int .i64 qW)) (fun _ hk => hk.2) (.bool qY)) (fun _ h_ => h_.1)) (fun _ h_ => h_.1))) (Kd.R_base ho0) hb); replace qa := Aside0.mk (blk_below (g := qj) (o := .cells #[.slice zo qm.length zg, .int .i64 qt, .bool qu] 26 (0, 0)) (by (with_reducible repeat (first | refine blk_drewN ?_ _ | refine blk_drew ?_ | refine blk_alloc ?_ _)); refine blk_far ?_ q3.out _; (with_reducible repeat (first | refine blk_drewN ?_ _ | refine blk_drew ?_ | refine blk_alloc ?_ _)); refine blk_far ?_ q3.out _; (with_reducible repeat (first | refine blk_drewN ?_ _ | refine blk_drew ?_ | refine blk_alloc ?_ _)); refine blk_far ?_ q3.out _; (with_reducible repeat (first | refine blk_drewN ?_ _ | refine blk_drew ?_ | refine blk_alloc ?_ _)); refine blk_put (cs := #[.slice zo qm.length zg, .int .i64 qt, .bool false]) ?_ 2 _ rfl; (with_reducible repeat (first | refine blk_drewN ?_ _ | refine blk_drew ?_ | refine blk_alloc ?_ _)); refine blk_put (cs := #[.slice zo qm.length zg, .int .i64 0, .bool false]) ?_ 1 _ rfl; (with_reducible repeat (first | refine blk_drewN ?_ _ | refine blk_drew ?_ | refine blk_alloc ?_ _)); refine blk_put (cs := #[.slice none 0 0, .int .i64 0, .bool false]) ?_ 0 _ rfl; (with_reducible repeat (first | refine blk_drewN ?_ _ | refine blk_drew ?_ | refine blk_alloc ?_ _)); exact qa.out) hb); replace qi := Aside0.mk (blk_below (g := qq) (o := .cells #[.slice zp qv.length zh, .int .i64 qW, .bool qY] 26 (0, 0)) (by (with_reducible repeat (first | refine blk_drewN ?_ _ | refine blk_drew ?_ | refine blk_alloc ?_ _)); refine blk_put (cs := #[.slice zp qv.length zh, .int .i64 qW, .bool false]) ?_ 2 _ rfl; (with_reducible repeat (first | refine blk_drewN ?_ _ | refine blk_drew ?_ | refine blk_alloc ?_ _)); refine blk_put (cs := #[.slice zp qv.length zh, .int .i64 0, .bool false]) ?_ 1 _ rfl; (with_reducible repeat (first | refine blk_drewN ?_ _ | refine blk_drew ?_ | refine blk_alloc ?_ _)); refine blk_put (cs := #[.slice none 0 0, .int .i64 0, .bool false]) ?_ 0 _ rfl; (with_reducible repeat (first | refine blk_drewN ?_ _ | refine blk_drew ?_ | refine blk_alloc ?_ _)); refine blk_far ?_ q4.out _; (with_reducible repeat (first | refine blk_drewN ?_ _ | refine blk_drew ?_ | refine blk_alloc ?_ _)); refine blk_far ?_ q4.out _; (with_reducible repeat (first | refine blk_drewN ?_ _ | refine blk_drew ?_ | refine blk_alloc ?_ _)); refine blk_far ?_ q4.out _; (with_reducible repeat (first | refine blk_drewN ?_ _ | refine blk_drew ?_ | refine blk_alloc ?_ _)); exact qi.out) hb); replace HB := bS_ HB hb; (try clear hb); (try clear hb2); (try clear hk); (try clear hi); (try clear ho0)) | ((with_reducible refine gate_dst (N := 7) rfl ?_); refine box_event ?hg (N := 7) ?hd (cs := #[.slice none 0 0, .int .i64 0, .bool false]) (t := 26) ?hr ?_; (case hd => rfl); (case hg => rfl); (case hr => first | (go_simp; done) | (go_simp; rfl)); intro qD hg z1 hbox hb; replace qI := rB_ qI hb; replace qJ := rB_ qJ hb; replace qZ := rB_ qZ hb; have ql := Aside0.mk (hbox); have QS := Aside0.mk ((by rw [hg]; exact (bz_ HB) : w.heap.size ≤ qD)); have QT := Aside0.mk ((by rw [hg]; exact (bz_ HB) : w.heap.size ≤ qD)); replace HB := bS_ HB hb; have zs := Aside0.mk ((nl_ qa hg : qj ≠ qD)); have zt := Aside0.mk ((ng_ qa hg : qD ≠ qj)); replace qa := kB_ qa hb; have zu := Aside0.mk ((nl_ qi hg : qq ≠ qD)); have zv := Aside0.mk ((ng_ qi hg : qD ≠ qq)); replace qi := kB_ qi hb; clear hb hbox hg; obtain ⟨zq, zr, eo163⟩ := Kd.R_slice qZ.out; subst eo163; have J3 := zt.out; have J4 := zs.out; have J5 := zv.out; have J6 := zu.out; have ZL : z1.cell? ⟨qD, 0, none⟩ = some (.slice none 0 0) := bc_ ql 0; have ZM : z1.cell? ⟨qD, 1, none⟩ = some (.int .i64 0) := bc_ ql 1; have ZN : z1.cell? ⟨qD, 2, none⟩ = some (.bool false) := bc_ ql 2; have ZO := blk_frozen ql.out 0; have ZP := blk_frozen ql.out 1; have ZQ := blk_frozen ql.out 2; have ZR : z1.cell? ⟨qj, 0, none⟩ = some (.slice zo qm.length zg) := bc_ qa 0; have ZS : z1.cell? ⟨qj, 1, none⟩ = some (.int .i64 qt) := bc_ qa 1; have ZT : z1.cell? ⟨qj, 2, none⟩ = some (.bool qu) := bc_ qa 2; have ZU := blk_frozen qa.out 0; have ZV := blk_frozen qa.out 1; have ZW := blk_frozen qa.out 2; have ZX : z1.cell? ⟨qq, 0, none⟩ = some (.slice zp qv.length zh) := bc_ qi 0; have ZY : z1.cell? ⟨qq, 1, none⟩ = some (.int .i64 qW) := bc_ qi 1; have ZZ : z1.cell? ⟨qq, 2, none⟩ = some (.bool qY) := bc_ qi 2; have Z0 := blk_frozen qi.out 0; have Z1 := blk_frozen qi.out 1; have Z2 := blk_frozen qi.out 2) | ((with_reducible refine gate_callee (f := 10) rfl ?_); refine goesL_ (some 45) rfl rfl Try.func10 (by kernel_rfl) rfl #[.agg #[.slice zo qm.length zg, .int .i64 qt, .bool qu], .int .i64 zK, .agg #[.slice zp qv.length zh, .int .i64 qW, .bool qY], .int .i64 zL] rfl (by (try simp only [List.map_toArray, List.map_cons, List.map_nil]); first | done | rfl | (simp only [List.length_drop, List.length_take]; rfl)) ?_; (with_reducible refine (spec_MixAtoms.calls k _ _ qm qt qu zK _ _ qv qW qY zL qK zf zi zW _ ?side1 ?side2 ?side3 ?side4 A6.out).mono ?_); (case side1 => refine (Kd.R_reads' (e := 3) (base := w.heap.size) (ok := fun k_ => (some k_ ≠ (.slice zp qv.length zh : Value).ownBlock ∧ some k_ ≠ (.slice zq qE.length zr : Value).ownBlock)) (n := qm.length) (c := zg) ?_).2.2; exact (by (with_reducible repeat (first | apply Kd.R_alloc | apply Kd.R_drewN | apply Kd.R_drew)); exact (rt3_ qI ql (by decide) 0 1 2 (.slice zq qE.length zr) (.int .i64 q0) (.bool q1)))); (case side2 => exact (Kd.R_reads' qI.out).2.1); (case side3 => refine (Kd.R_reads' (e := 3) (base := w.heap.size) (ok := fun k_ => (some k_ ≠ (.slice zo qm.length zg : Value).ownBlock ∧ some k_ ≠ (.slice zq qE.length zr : Value).ownBlock)) (n := qv.length) (c := zh) ?_).2.2; exact (by (with_reducible repeat (first | apply Kd.R_alloc | apply Kd.R_drewN | apply Kd.R_drew)); exact (rt3_ qJ ql (by decide) 0 1 2 (.slice zq qE.length zr) (.int .i64 q0) (.bool q1)))); (case side4 => exact (Kd.R_reads' qJ.out).2.1); rintro e X5 ⟨Q6, rfl, ho0, hb⟩; refine ⟨_, rfl, ?_⟩; have q9 := Aside0.mk (Kd.R_lower (Kd.R_new' (Kd.R_new' (Kd.R_new' ho0 (Kd.R_lt (by (with_reducible repeat (first | apply Kd.R_alloc | apply Kd.R_drewN | apply Kd.R_drew)); exact (rt3_ qI ql (by decide) 0 1 2 (.slice zq qE.length zr) (.int .i64 q0) (.bool q1))))) (Kd.R_lt (by (with_reducible repeat (first | apply Kd.R_alloc | apply Kd.R_drewN | apply Kd.R_drew)); exact (rt3_ qJ ql (by decide) 0 1 2 (.slice zq qE.length zr) (.int .i64 q0) (.bool q1))))) (Kd.R_lt (by (with_reducible repeat (first | apply Kd.R_alloc | apply Kd.R_drewN | apply Kd.R_drew)); exact (rt3_ qZ ql (by decide) 0 1 2 (.slice zq qE.length zr) (.int .i64 q0) (.bool q1))))) (bz_ HB)); replace qI := Aside0.mk (Kd.R_elder' (by (with_reducible repeat (first | apply Kd.R_alloc | apply Kd.R_drewN | apply Kd.R_drew)); exact (rt3_ qI ql (by decide) 0 1 2 (.slice zq qE.length zr) (.int .i64 q0) (.bool q1))) (Kd.R_base ho0) hb); replace qJ := Aside0.mk (Kd.R_elder' (by (with_reducible repeat (first | apply Kd.R_alloc | apply Kd.R_drewN | apply Kd.R_drew)); exact (rt3_ qJ ql (by decide) 0 1 2 (.slice zq qE.length zr) (.int .i64 q0) (.bool q1))) (Kd.R_base ho0) hb); replace qZ := Aside0.mk (Kd.R_elder' (by (with_reducible repeat (first | apply Kd.R_alloc | apply Kd.R_drewN | apply Kd.R_drew)); exact (rt3_ qZ ql (by decide) 0 1 2 (.slice zq qE.length zr) (.int .i64 q0) (.bool q1))) (Kd.R_base ho0) hb); replace qa := Aside0.mk (blk_below (g := qj) (o := .cells #[.slice zo qm.length zg, .int .i64 qt, .bool qu] 26 (0, 0)) (kf_ qa) hb); replace qi := Aside0.mk (blk_below (g := qq) (o := .cells #[.slice zp qv.length zh, .int .i64 qW, .bool qY] 26 (0, 0)) (kf_ qi) hb); replace ql := Aside0.mk (blk_below (g := qD) (o := .cells #[.slice zq qE.length zr, .int .i64 q0, .bool q1] 26 (0, 0)) (by (with_reducible repeat (first | refine blk_drewN ?_ _ | refine blk_drew ?_ | refine blk_alloc ?_ _)); refine blk_put (cs := #[.slice zq qE.length zr, .int .i64 q0, .bool false]) ?_ 2 _ rfl; (with_reducible repeat (first | refine blk_drewN ?_ _ | refine blk_drew ?_ | refine blk_alloc ?_ _)); refine blk_put (cs := #[.slice zq qE.length zr, .int .i64 0, .bool false]) ?_ 1 _ rfl; (with_reducible repeat (first | refine blk_drewN ?_ _ | refine blk_drew ?_ | refine blk_alloc ?_ _)); refine blk_put (cs := #[.slice none 0 0, .int .i64 0, .bool false]) ?_ 0 _ rfl; (with_reducible repeat (first | refine blk_drewN ?_ _ | refine blk_drew ?_ | refine blk_alloc ?_ _)); exact ql.out) hb); replace HB := bS_ HB hb; (try clear hb); (try clear hb2); (try clear hk); (try clear hi); (try clear ho0)) | ((with_reducible refine gate_dst (N := 9) rfl ?_); refine box_event ?hg (N := 9) ?hd (cs := #[.slice none 0 0, .int .i64 0, .bool false]) (t := 26) ?hr ?_; (case hd => rfl); (case hg => rfl); (case hr => first | (go_simp; done) | (go_simp; rfl)); intro qF hg QH hbox hb; replace qI := rB_ qI hb; replace qJ := rB_ qJ hb; replace qZ := rB_ qZ hb; replace q9 := rB_ q9 hb; have qr := Aside0.mk (hbox); have QU := Aside0.mk ((by rw [hg]; exact (bz_ HB) : w.heap.size ≤ qF)); have QV := Aside0.mk ((by rw [hg]; exact (bz_ HB) : w.heap.size ≤ qF)); replace HB := bS_ HB hb; have zw := Aside0.mk ((nl_ qa hg : qj ≠ qF)); have zx := Aside0.mk ((ng_ qa hg : qF ≠ qj)); replace qa := kB_ qa hb; have zy := Aside0.mk ((nl_ qi hg : qq ≠ qF)); have zz := Aside0.mk ((ng_ qi hg : qF ≠ qq)); replace qi := kB_ qi hb; have zA := Aside0.mk ((nl_ ql hg : qD ≠ qF)); have zB := Aside0.mk ((ng_ ql hg : qF ≠ qD)); replace ql := kB_ ql hb; clear hb hbox hg; obtain ⟨XL, XM, eo171⟩ := Kd.R_slice q9.out; subst eo171; have J7 := zx.out; have J8 := zw.out; have J9 := zz.out; have Xa := zy.out; have Xb := zB.out; have Xc := zA.out; have Z3 : QH.cell? ⟨qF, 0, none⟩ = some (.slice none 0 0) := bc_ qr 0; have Z4 : QH.cell? ⟨qF, 1, none⟩ = some (.int .i64 0) := bc_ qr 1; have Z5 : QH.cell? ⟨qF, 2, none⟩ = some (.bool false) := bc_ qr 2; have Z6 := blk_frozen qr.out 0; have Z7 := blk_frozen qr.out 1; have Z8 := blk_frozen qr.out 2; have Z9 : QH.cell? ⟨qD, 0, none⟩ = some (.slice zq qE.length zr) := bc_ ql 0; have Ja : QH.cell? ⟨qD, 1, none⟩ = some (.int .i64 q0) := bc_ ql 1; have Jb : QH.cell? ⟨qD, 2, none⟩ = some (.bool q1) := bc_ ql 2; have Jc := blk_frozen ql.out 0; have Jd := blk_frozen ql.out 1; have Je := blk_frozen ql.out 2))
    go_ret
    exact ⟨by first | rfl | (simp [errW_none, errW_some] <;> rfl) | (simp [*, errW_none, errW_some] <;> rfl), bb_ HB⟩

/-- THE ONE PURE STATEMENT of laws_FnMixed: yours. -/
def laws_FnMixed.Pure : Prop := ∀ (l0 : List Int), l0.length ≤ maxLen → l0.length * 1 ≤ 140737488351232 → (∀ x ∈ l0, (Lit.int .u8 x).wf = true) → ∃ k, laws_FnMixed.f k l0 = some true
theorem laws_FnMixed.walk (P : laws_FnMixed.Pure) (a0 : Option Addr) (len0 cap0 : Nat) (z0 : List Int) (w : World) (w0 : (a0 = none ∧ len0 = 0 ∧ cap0 = 0 ∧ z0 = []) ∨ ∃ x, a0 = some x ∧ len0 ≤ cap0 ∧ cap0 ≤ maxLen ∧ z0.length = cap0 ∧ (∀ i, i < z0.length → w.cell? (x.add i) = some (.int .u8 (z0.getD i 0))) ∧ ∀ n ∈ z0, (Lit.int .u8 n).wf = true) (y0 : len0 * 1 ≤ 140737488351232) :
  Calls Try.prog 3 #[.slice a0 len0 cap0] w fun e w' => e = .returned (.bool true) ∧ Below w.heap.size w w' := by
 obtain ⟨l0, rfl, hr0, hm0, hw0, hc0⟩ := ReadsInt.ofRowC w0
 obtain ⟨k, h⟩ := P l0 hm0 y0 hw0
 refine (laws_FnMixed.calls k _ _ l0 true w (Kd.C_of_reads (d := (0 : Int)) (h1 := fun _ => rfl) hr0) hc0 h).mono ?_
 rintro e w' ⟨rfl, hd⟩
 exact ⟨rfl, hd⟩

end Go.Proofs.Ytohoibekddhneaa.PFnMixed
