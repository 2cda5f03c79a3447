/- The functions that the law FnExactMixAtoms reaches, each as a Lean function with the same answers, and the proof that the call comes to exactly these: turned by program out of the printed texts. No condition but those that each theorem names. -/
import Derived.Test.YtaijkhabcidagaaQFnExactMixAtomsx0
import Derived.Test.YtaijkhabcidagaaQFnExactMixAtomsx2
namespace Go.Proofs.Ytaijkhabcidagaa.PFnExactMixAtoms
open Go.RowKit Go.Proofs.YtaijkhabcidagaaW.PrintWords Go.Proofs.YtaijkhabcidagaaW.PrintLast Go.Proofs.YtaijkhabcidagaaW.PrintMore
attribute [local go_sem] max2_int min2_int max_two min_two max_three min_three max_four min_four   -- for this text's walks alone
set_option linter.unusedVariables false
set_option linter.unusedSimpArgs false

set_option maxHeartbeats 8000000 in
set_option maxRecDepth 100000 in
theorem laws_FnExactMixAtoms.calls (k : Nat) (A0_0 : Option Addr) (c0_0 : Nat) (l0_0 : List Int) (a0_1 : Int) (a0_2 : Bool) (a1 : Int) (A2_0 : Option Addr) (c2_0 : Nat) (l2_0 : List Int) (a2_1 : Int) (a2_2 : Bool) (a3 : Int) (r : Bool) (w : World) (hr0_0 : Kd.C (Kd.int .i64) w A0_0 l0_0.length l0_0) (hc0_0 : l0_0.length ≤ c0_0) (hr2_0 : Kd.C (Kd.int .i64) w A2_0 l2_0.length l2_0) (hc2_0 : l2_0.length ≤ c2_0) (h : laws_FnExactMixAtoms.f k l0_0 a0_1 a0_2 a1 l2_0 a2_1 a2_2 a3 = some r) :
  Calls Try.prog 6 #[.agg #[.slice A0_0 l0_0.length c0_0, .int .i64 a0_1, .bool a0_2], .int .i64 a1, .agg #[.slice A2_0 l2_0.length c2_0, .int .i64 a2_1, .bool a2_2], .int .i64 a3] w fun e w' => e = .returned (.bool r) ∧ Below w.heap.size w w' := by
 have hu24 := Try.underlying24
 have hu26 := Try.underlying26
 have z4 := Aside0.mk hr0_0
 have z5 := Aside0.mk hc0_0
 clear hr0_0 hc0_0
 have z6 := Aside0.mk hr2_0
 have z7 := Aside0.mk hc2_0
 clear hr2_0 hc2_0
 have HB := Aside0.mk (Below.refl w.heap.size w)
 have H : ((laws_szAtom.f l0_0 a0_1 a0_2 1048576).bind fun zY => (if zY < 0 then (some true) else ((laws_szAtom.f l2_0 a2_1 a2_2 zY).bind fun jz => (if jz < 0 then (some true) else ((laws_toAtom.f k l0_0 a0_1 a0_2).bind fun zO => ((laws_toAtom.f k l2_0 a2_1 a2_2).bind fun zG => ((spec_MixAtoms.f k zO.1 zO.2.1 zO.2.2 a1 zG.1 zG.2.1 zG.2.2 a3).bind fun qu => ((laws_toAtom.f k l0_0 a0_1 a0_2).bind fun qB => ((laws_toAtom.f k l2_0 a2_1 a2_2).bind fun qt => ((impl_MixAtoms.f k qB.1 qB.2.1 qB.2.2 a1 qt.1 qt.2.1 qt.2.2 a3).bind fun qk => ((laws_eqAtom.f k qk.1 qk.2.1 qk.2.2.1 qu.1 qu.2.1 qu.2.2.1).bind fun zR => (if zR = true then (laws_FnExactMixAtoms.j0 k a1 a3 qu.2.2.2 qk.2.2.2 (qk.2.2.2 != qu.2.2.2) l0_0 a0_1 a0_2 l2_0 a2_1 a2_2 qu.1 qu.2.1 qu.2.2.1 qB.1 qB.2.1 qB.2.2 qt.1 qt.2.1 qt.2.2 qk.1 qk.2.1 qk.2.2.1) else (laws_FnExactMixAtoms.j0 k a1 a3 qu.2.2.2 qk.2.2.2 true l0_0 a0_1 a0_2 l2_0 a2_1 a2_2 qu.1 qu.2.1 qu.2.2.1 qB.1 qB.2.1 qB.2.2 qt.1 qt.2.1 qt.2.2 qk.1 qk.2.1 qk.2.2.1))))))))))))) = some r := h
 clear h
 replace H := Option.bind_eq_some_iff.mp H
 obtain ⟨zY, A50, H⟩ := H
 replace H : (if zY < 0 then (some true) else ((laws_szAtom.f l2_0 a2_1 a2_2 zY).bind fun jz => (if jz < 0 then (some true) else ((laws_toAtom.f k l0_0 a0_1 a0_2).bind fun zO => ((laws_toAtom.f k l2_0 a2_1 a2_2).bind fun zG => ((spec_MixAtoms.f k zO.1 zO.2.1 zO.2.2 a1 zG.1 zG.2.1 zG.2.2 a3).bind fun qu => ((laws_toAtom.f k l0_0 a0_1 a0_2).bind fun qB => ((laws_toAtom.f k l2_0 a2_1 a2_2).bind fun qt => ((impl_MixAtoms.f k qB.1 qB.2.1 qB.2.2 a1 qt.1 qt.2.1 qt.2.2 a3).bind fun qk => ((laws_eqAtom.f k qk.1 qk.2.1 qk.2.2.1 qu.1 qu.2.1 qu.2.2.1).bind fun zR => (if zR = true then (laws_FnExactMixAtoms.j0 k a1 a3 qu.2.2.2 qk.2.2.2 (qk.2.2.2 != qu.2.2.2) l0_0 a0_1 a0_2 l2_0 a2_1 a2_2 qu.1 qu.2.1 qu.2.2.1 qB.1 qB.2.1 qB.2.2 qt.1 qt.2.1 qt.2.2 qk.1 qk.2.1 qk.2.2.1) else (laws_FnExactMixAtoms.j0 k a1 a3 qu.2.2.2 qk.2.2.2 true l0_0 a0_1 a0_2 l2_0 a2_1 a2_2 qu.1 qu.2.1 qu.2.2.1 qB.1 qB.2.1 qB.2.2 qt.1 qt.2.1 qt.2.2 qk.1 qk.2.1 qk.2.2.1)))))))))))) = some r := H
 have A5 := Aside0.mk A50
 clear A50
 by_cases c6 : zY < 0
 ·
  rw [if_pos c6] at H
  have XZ : decide (zY < 0) = true := decide_eq_true c6
  clear c6
  obtain rfl := Option.some.inj H
  go_enter Try.func6, Try.ntmps6
  go_wp2_with (first | ((with_reducible refine gate_dst (N := 4) rfl ?_); refine box_event ?hg (N := 4) ?hd (cs := #[.slice A0_0 l0_0.length c0_0, .int .i64 a0_1, .bool a0_2]) (t := 24) ?hr ?_; (case hd => rfl); (case hg => rfl); (case hr => first | (go_simp; done) | (go_simp; rfl)); intro qp hg w7 hbox hb; have qb := Aside0.mk (hbox); have Z9 := Aside0.mk ((by rw [hg]; exact (bz_ HB) : w.heap.size ≤ qp)); have jE := Aside0.mk ((by rw [hg]; exact (bz_ HB) : w.heap.size ≤ qp)); replace HB := bS_ HB hb; clear hb hbox hg) | ((with_reducible refine gate_dst (N := 6) rfl ?_); refine box_event ?hg (N := 6) ?hd (cs := #[.slice A2_0 l2_0.length c2_0, .int .i64 a2_1, .bool a2_2]) (t := 24) ?hr ?_; (case hd => rfl); (case hg => rfl); (case hr => first | (go_simp; done) | (go_simp; rfl)); intro qq hg w8 hbox hb; have qd := Aside0.mk (hbox); have Ja := Aside0.mk ((by rw [hg]; exact (bz_ HB) : w.heap.size ≤ qq)); have jF := Aside0.mk ((by rw [hg]; exact (bz_ HB) : w.heap.size ≤ qq)); replace HB := bS_ HB hb; have zT := Aside0.mk ((nl_ qb hg : qp ≠ qq)); have zU := Aside0.mk ((ng_ qb hg : qq ≠ qp)); replace qb := kB_ qb hb; clear hb hbox hg; have I0 := zT.out; have I1 := zU.out; have Xv : w8.cell? ⟨qp, 0, none⟩ = some (.slice A0_0 l0_0.length c0_0) := bc_ qb 0; have Xw : w8.cell? ⟨qp, 1, none⟩ = some (.int .i64 a0_1) := bc_ qb 1; have Xx : w8.cell? ⟨qp, 2, none⟩ = some (.bool a0_2) := bc_ qb 2; have Xy := blk_frozen qb.out 0; have Xz := blk_frozen qb.out 1; have XA := blk_frozen qb.out 2) | ((with_reducible refine gate_callee (f := 13) rfl ?_); refine goesL_ (some 23) rfl rfl Try.func13 (by kernel_rfl) rfl #[.agg #[.slice A0_0 l0_0.length c0_0, .int .i64 a0_1, .bool a0_2], .int .i64 1048576] rfl (by (try simp only [List.map_toArray, List.map_cons, List.map_nil]); first | done | rfl | (simp only [List.length_drop, List.length_take]; rfl)) ?_; (with_reducible refine (laws_szAtom.calls _ _ l0_0 a0_1 a0_2 1048576 zY _ ?side1 ?side2 A5.out).mono ?_); (case side1 => exact cb_ z4 HB); (case side2 => exact z5.out); rintro e Mv ⟨rfl, hb⟩; refine ⟨_, rfl, ?_⟩; replace qb := kB_ qb hb; replace qd := kB_ qd hb; replace HB := bS_ HB hb; (try clear hb); (try clear hb2); (try clear hk); (try clear hi)))
  go_ret
  exact ⟨by first | rfl | (simp [errW_none, errW_some] <;> rfl) | (simp [*, errW_none, errW_some] <;> rfl), bb_ HB⟩
 ·
  rw [if_neg c6] at H
  have XZ : decide (zY < 0) = false := decide_eq_false c6
  clear c6
  replace H := Option.bind_eq_some_iff.mp H
  obtain ⟨jz, A120, H⟩ := H
  replace H : (if jz < 0 then (some true) else ((laws_toAtom.f k l0_0 a0_1 a0_2).bind fun zO => ((laws_toAtom.f k l2_0 a2_1 a2_2).bind fun zG => ((spec_MixAtoms.f k zO.1 zO.2.1 zO.2.2 a1 zG.1 zG.2.1 zG.2.2 a3).bind fun qu => ((laws_toAtom.f k l0_0 a0_1 a0_2).bind fun qB => ((laws_toAtom.f k l2_0 a2_1 a2_2).bind fun qt => ((impl_MixAtoms.f k qB.1 qB.2.1 qB.2.2 a1 qt.1 qt.2.1 qt.2.2 a3).bind fun qk => ((laws_eqAtom.f k qk.1 qk.2.1 qk.2.2.1 qu.1 qu.2.1 qu.2.2.1).bind fun zR => (if zR = true then (laws_FnExactMixAtoms.j0 k a1 a3 qu.2.2.2 qk.2.2.2 (qk.2.2.2 != qu.2.2.2) l0_0 a0_1 a0_2 l2_0 a2_1 a2_2 qu.1 qu.2.1 qu.2.2.1 qB.1 qB.2.1 qB.2.2 qt.1 qt.2.1 qt.2.2 qk.1 qk.2.1 qk.2.2.1) else (laws_FnExactMixAtoms.j0 k a1 a3 qu.2.2.2 qk.2.2.2 true l0_0 a0_1 a0_2 l2_0 a2_1 a2_2 qu.1 qu.2.1 qu.2.2.1 qB.1 qB.2.1 qB.2.2 qt.1 qt.2.1 qt.2.2 qk.1 qk.2.1 qk.2.2.1)))))))))) = some r := H
  have A12 := Aside0.mk A120
  clear A120
  by_cases c13 : jz < 0
  ·
   rw [if_pos c13] at H
   have Jr : decide (jz < 0) = true := decide_eq_true c13
   clear c13
   obtain rfl := Option.some.inj H
   go_enter Try.func6, Try.ntmps6
   go_wp2_with (first | ((with_reducible refine gate_dst (N := 4) rfl ?_); refine box_event ?hg (N := 4) ?hd (cs := #[.slice A0_0 l0_0.length c0_0, .int .i64 a0_1, .bool a0_2]) (t := 24) ?hr ?_; (case hd => rfl); (case hg => rfl); (case hr => first | (go_simp; done) | (go_simp; rfl)); intro qp hg Mw hbox hb; have qb := Aside0.mk (hbox); have Z9 := Aside0.mk ((by rw [hg]; exact (bz_ HB) : w.heap.size ≤ qp)); have jE := Aside0.mk ((by rw [hg]; exact (bz_ HB) : w.heap.size ≤ qp)); replace HB := bS_ HB hb; clear hb hbox hg) | ((with_reducible refine gate_dst (N := 6) rfl ?_); refine box_event ?hg (N := 6) ?hd (cs := #[.slice A2_0 l2_0.length c2_0, .int .i64 a2_1, .bool a2_2]) (t := 24) ?hr ?_; (case hd => rfl); (case hg => rfl); (case hr => first | (go_simp; done) | (go_simp; rfl)); intro qq hg X0 hbox hb; have qd := Aside0.mk (hbox); have Ja := Aside0.mk ((by rw [hg]; exact (bz_ HB) : w.heap.size ≤ qq)); have jF := Aside0.mk ((by rw [hg]; exact (bz_ HB) : w.heap.size ≤ qq)); replace HB := bS_ HB hb; have zT := Aside0.mk ((nl_ qb hg : qp ≠ qq)); have zU := Aside0.mk ((ng_ qb hg : qq ≠ qp)); replace qb := kB_ qb hb; clear hb hbox hg; have EP := zT.out; have EQ := zU.out; have XB : X0.cell? ⟨qp, 0, none⟩ = some (.slice A0_0 l0_0.length c0_0) := bc_ qb 0; have XC : X0.cell? ⟨qp, 1, none⟩ = some (.int .i64 a0_1) := bc_ qb 1; have XD : X0.cell? ⟨qp, 2, none⟩ = some (.bool a0_2) := bc_ qb 2; have XE := blk_frozen qb.out 0; have XF := blk_frozen qb.out 1; have XG := blk_frozen qb.out 2) | ((with_reducible refine gate_callee (f := 13) rfl ?_); refine goesL_ (some 23) rfl rfl Try.func13 (by kernel_rfl) rfl #[.agg #[.slice A0_0 l0_0.length c0_0, .int .i64 a0_1, .bool a0_2], .int .i64 1048576] rfl (by (try simp only [List.map_toArray, List.map_cons, List.map_nil]); first | done | rfl | (simp only [List.length_drop, List.length_take]; rfl)) ?_; (with_reducible refine (laws_szAtom.calls _ _ l0_0 a0_1 a0_2 1048576 zY _ ?side1 ?side2 A5.out).mono ?_); (case side1 => exact cb_ z4 HB); (case side2 => exact z5.out); rintro e X1 ⟨rfl, hb⟩; refine ⟨_, rfl, ?_⟩; replace qb := kB_ qb hb; replace qd := kB_ qd hb; replace HB := bS_ HB hb; (try clear hb); (try clear hb2); (try clear hk); (try clear hi); have XH : X1.cell? ⟨qq, 0, none⟩ = some (.slice A2_0 l2_0.length c2_0) := bc_ qd 0; have XI : X1.cell? ⟨qq, 1, none⟩ = some (.int .i64 a2_1) := bc_ qd 1; have XJ : X1.cell? ⟨qq, 2, none⟩ = some (.bool a2_2) := bc_ qd 2; have XK := blk_frozen qd.out 0; have XL := blk_frozen qd.out 1; have XM := blk_frozen qd.out 2) | ((with_reducible refine gate_callee (f := 13) rfl ?_); refine goesL_ (some 28) rfl rfl Try.func13 (by kernel_rfl) rfl #[.agg #[.slice A2_0 l2_0.length c2_0, .int .i64 a2_1, .bool a2_2], .int .i64 zY] rfl (by (try simp only [List.map_toArray, List.map_cons, List.map_nil]); first | done | rfl | (simp only [List.length_drop, List.length_take]; rfl)) ?_; (with_reducible refine (laws_szAtom.calls _ _ l2_0 a2_1 a2_2 zY jz _ ?side1 ?side2 A12.out).mono ?_); (case side1 => exact cb_ z6 HB); (case side2 => exact z7.out); rintro e Mx ⟨rfl, hb⟩; refine ⟨_, rfl, ?_⟩; replace qb := kB_ qb hb; replace qd := kB_ qd hb; replace HB := bS_ HB hb; (try clear hb); (try clear hb2); (try clear hk); (try clear hi)))
   go_ret
   exact ⟨by first | rfl | (simp [errW_none, errW_some] <;> rfl) | (simp [*, errW_none, errW_some] <;> rfl), bb_ HB⟩
  ·
   rw [if_neg c13] at H
   have Jr : decide (jz < 0) = false := decide_eq_false c13
   clear c13
   replace H := Option.bind_eq_some_iff.mp H
   obtain ⟨⟨zZ, jk, jl⟩, A210, H⟩ := H
   replace H : ((laws_toAtom.f k l2_0 a2_1 a2_2).bind fun zG => ((spec_MixAtoms.f k zZ jk jl a1 zG.1 zG.2.1 zG.2.2 a3).bind fun qu => ((laws_toAtom.f k l0_0 a0_1 a0_2).bind fun qB => ((laws_toAtom.f k l2_0 a2_1 a2_2).bind fun qt => ((impl_MixAtoms.f k qB.1 qB.2.1 qB.2.2 a1 qt.1 qt.2.1 qt.2.2 a3).bind fun qk => ((laws_eqAtom.f k qk.1 qk.2.1 qk.2.2.1 qu.1 qu.2.1 qu.2.2.1).bind fun zR => (if zR = true then (laws_FnExactMixAtoms.j0 k a1 a3 qu.2.2.2 qk.2.2.2 (qk.2.2.2 != qu.2.2.2) l0_0 a0_1 a0_2 l2_0 a2_1 a2_2 qu.1 qu.2.1 qu.2.2.1 qB.1 qB.2.1 qB.2.2 qt.1 qt.2.1 qt.2.2 qk.1 qk.2.1 qk.2.2.1) else (laws_FnExactMixAtoms.j0 k a1 a3 qu.2.2.2 qk.2.2.2 true l0_0 a0_1 a0_2 l2_0 a2_1 a2_2 qu.1 qu.2.1 qu.2.2.1 qB.1 qB.2.1 qB.2.2 qt.1 qt.2.1 qt.2.2 qk.1 qk.2.1 qk.2.2.1)))))))) = some r := H
   have A21 := Aside0.mk A210
   clear A210
   replace H := Option.bind_eq_some_iff.mp H
   obtain ⟨⟨z0, jm, jn⟩, A220, H⟩ := H
   replace H : ((spec_MixAtoms.f k zZ jk jl a1 z0 jm jn a3).bind fun qu => ((laws_toAtom.f k l0_0 a0_1 a0_2).bind fun qB => ((laws_toAtom.f k l2_0 a2_1 a2_2).bind fun qt => ((impl_MixAtoms.f k qB.1 qB.2.1 qB.2.2 a1 qt.1 qt.2.1 qt.2.2 a3).bind fun qk => ((laws_eqAtom.f k qk.1 qk.2.1 qk.2.2.1 qu.1 qu.2.1 qu.2.2.1).bind fun zR => (if zR = true then (laws_FnExactMixAtoms.j0 k a1 a3 qu.2.2.2 qk.2.2.2 (qk.2.2.2 != qu.2.2.2) l0_0 a0_1 a0_2 l2_0 a2_1 a2_2 qu.1 qu.2.1 qu.2.2.1 qB.1 qB.2.1 qB.2.2 qt.1 qt.2.1 qt.2.2 qk.1 qk.2.1 qk.2.2.1) else (laws_FnExactMixAtoms.j0 k a1 a3 qu.2.2.2 qk.2.2.2 true l0_0 a0_1 a0_2 l2_0 a2_1 a2_2 qu.1 qu.2.1 qu.2.2.1 qB.1 qB.2.1 qB.2.2 qt.1 qt.2.1 qt.2.2 qk.1 qk.2.1 qk.2.2.1))))))) = some r := H
   have A22 := Aside0.mk A220
   clear A220
   replace H := Option.bind_eq_some_iff.mp H
   obtain ⟨⟨qo, qy, qA, qL⟩, A230, H⟩ := H
   replace H : ((laws_toAtom.f k l0_0 a0_1 a0_2).bind fun qB => ((laws_toAtom.f k l2_0 a2_1 a2_2).bind fun qt => ((impl_MixAtoms.f k qB.1 qB.2.1 qB.2.2 a1 qt.1 qt.2.1 qt.2.2 a3).bind fun qk => ((laws_eqAtom.f k qk.1 qk.2.1 qk.2.2.1 qo qy qA).bind fun zR => (if zR = true then (laws_FnExactMixAtoms.j0 k a1 a3 qL qk.2.2.2 (qk.2.2.2 != qL) l0_0 a0_1 a0_2 l2_0 a2_1 a2_2 qo qy qA qB.1 qB.2.1 qB.2.2 qt.1 qt.2.1 qt.2.2 qk.1 qk.2.1 qk.2.2.1) else (laws_FnExactMixAtoms.j0 k a1 a3 qL qk.2.2.2 true l0_0 a0_1 a0_2 l2_0 a2_1 a2_2 qo qy qA qB.1 qB.2.1 qB.2.2 qt.1 qt.2.1 qt.2.2 qk.1 qk.2.1 qk.2.2.1)))))) = some r := H
   have A23 := Aside0.mk A230
   clear A230
   replace H := Option.bind_eq_some_iff.mp H
   obtain ⟨⟨qM, q0, q2⟩, A240, H⟩ := H
   replace H : ((laws_toAtom.f k l2_0 a2_1 a2_2).bind fun qt => ((impl_MixAtoms.f k qM q0 q2 a1 qt.1 qt.2.1 qt.2.2 a3).bind fun qk => ((laws_eqAtom.f k qk.1 qk.2.1 qk.2.2.1 qo qy qA).bind fun zR => (if zR = true then (laws_FnExactMixAtoms.j0 k a1 a3 qL qk.2.2.2 (qk.2.2.2 != qL) l0_0 a0_1 a0_2 l2_0 a2_1 a2_2 qo qy qA qM q0 q2 qt.1 qt.2.1 qt.2.2 qk.1 qk.2.1 qk.2.2.1) else (laws_FnExactMixAtoms.j0 k a1 a3 qL qk.2.2.2 true l0_0 a0_1 a0_2 l2_0 a2_1 a2_2 qo qy qA qM q0 q2 qt.1 qt.2.1 qt.2.2 qk.1 qk.2.1 qk.2.2.1))))) = some r := H
   have A24 := Aside0.mk A240
   clear A240
   replace H := Option.bind_eq_some_iff.mp H
   obtain ⟨⟨qN, q1, q3⟩, A250, H⟩ := H
   replace H : ((impl_MixAtoms.f k qM q0 q2 a1 qN q1 q3 a3).bind fun qk => ((laws_eqAtom.f k qk.1 qk.2.1 qk.2.2.1 qo qy qA).bind fun zR => (if zR = true then (laws_FnExactMixAtoms.j0 k a1 a3 qL qk.2.2.2 (qk.2.2.2 != qL) l0_0 a0_1 a0_2 l2_0 a2_1 a2_2 qo qy qA qM q0 q2 qN q1 q3 qk.1 qk.2.1 qk.2.2.1) else (laws_FnExactMixAtoms.j0 k a1 a3 qL qk.2.2.2 true l0_0 a0_1 a0_2 l2_0 a2_1 a2_2 qo qy qA qM q0 q2 qN q1 q3 qk.1 qk.2.1 qk.2.2.1)))) = some r := H
   have A25 := Aside0.mk A250
   clear A250
   replace H := Option.bind_eq_some_iff.mp H
   obtain ⟨⟨ql, qr, qs, zL⟩, A260, H⟩ := H
   replace H : ((laws_eqAtom.f k ql qr qs qo qy qA).bind fun zR => (if zR = true then (laws_FnExactMixAtoms.j0 k a1 a3 qL zL (zL != qL) l0_0 a0_1 a0_2 l2_0 a2_1 a2_2 qo qy qA qM q0 q2 qN q1 q3 ql qr qs) else (laws_FnExactMixAtoms.j0 k a1 a3 qL zL true l0_0 a0_1 a0_2 l2_0 a2_1 a2_2 qo qy qA qM q0 q2 qN q1 q3 ql qr qs))) = some r := H
   have A26 := Aside0.mk A260
   clear A260
   have HC27 := Aside0.mk H
   clear H
   go_enter Try.func6, Try.ntmps6
   try go_wp2_with (first | ((with_reducible refine gate_dst (N := 4) rfl ?_); refine box_event ?hg (N := 4) ?hd (cs := #[.slice A0_0 l0_0.length c0_0, .int .i64 a0_1, .bool a0_2]) (t := 24) ?hr ?_; (case hd => rfl); (case hg => rfl); (case hr => first | (go_simp; done) | (go_simp; rfl)); intro qp hg My hbox hb; have qb := Aside0.mk (hbox); have Z9 := Aside0.mk ((by rw [hg]; exact (bz_ HB) : w.heap.size ≤ qp)); have jE := Aside0.mk ((by rw [hg]; exact (bz_ HB) : w.heap.size ≤ qp)); replace HB := bS_ HB hb; clear hb hbox hg) | ((with_reducible refine gate_dst (N := 6) rfl ?_); refine box_event ?hg (N := 6) ?hd (cs := #[.slice A2_0 l2_0.length c2_0, .int .i64 a2_1, .bool a2_2]) (t := 24) ?hr ?_; (case hd => rfl); (case hg => rfl); (case hr => first | (go_simp; done) | (go_simp; rfl)); intro qq hg X2 hbox hb; have qd := Aside0.mk (hbox); have Ja := Aside0.mk ((by rw [hg]; exact (bz_ HB) : w.heap.size ≤ qq)); have jF := Aside0.mk ((by rw [hg]; exact (bz_ HB) : w.heap.size ≤ qq)); replace HB := bS_ HB hb; have zT := Aside0.mk ((nl_ qb hg : qp ≠ qq)); have zU := Aside0.mk ((ng_ qb hg : qq ≠ qp)); replace qb := kB_ qb hb; clear hb hbox hg; have ER := zT.out; have ES := zU.out; have XN : X2.cell? ⟨qp, 0, none⟩ = some (.slice A0_0 l0_0.length c0_0) := bc_ qb 0; have XO : X2.cell? ⟨qp, 1, none⟩ = some (.int .i64 a0_1) := bc_ qb 1; have XP : X2.cell? ⟨qp, 2, none⟩ = some (.bool a0_2) := bc_ qb 2; have XQ := blk_frozen qb.out 0; have XR := blk_frozen qb.out 1; have XS := blk_frozen qb.out 2) | ((with_reducible refine gate_callee (f := 13) rfl ?_); refine goesL_ (some 23) rfl rfl Try.func13 (by kernel_rfl) rfl #[.agg #[.slice A0_0 l0_0.length c0_0, .int .i64 a0_1, .bool a0_2], .int .i64 1048576] rfl (by (try simp only [List.map_toArray, List.map_cons, List.map_nil]); first | done | rfl | (simp only [List.length_drop, List.length_take]; rfl)) ?_; (with_reducible refine (laws_szAtom.calls _ _ l0_0 a0_1 a0_2 1048576 zY _ ?side1 ?side2 A5.out).mono ?_); (case side1 => exact cb_ z4 HB); (case side2 => exact z5.out); rintro e X3 ⟨rfl, hb⟩; refine ⟨_, rfl, ?_⟩; replace qb := kB_ qb hb; replace qd := kB_ qd hb; replace HB := bS_ HB hb; (try clear hb); (try clear hb2); (try clear hk); (try clear hi); have XT : X3.cell? ⟨qq, 0, none⟩ = some (.slice A2_0 l2_0.length c2_0) := bc_ qd 0; have XU : X3.cell? ⟨qq, 1, none⟩ = some (.int .i64 a2_1) := bc_ qd 1; have XV : X3.cell? ⟨qq, 2, none⟩ = some (.bool a2_2) := bc_ qd 2; have XW := blk_frozen qd.out 0; have XX := blk_frozen qd.out 1; have XY := blk_frozen qd.out 2) | ((with_reducible refine gate_callee (f := 13) rfl ?_); refine goesL_ (some 28) rfl rfl Try.func13 (by kernel_rfl) rfl #[.agg #[.slice A2_0 l2_0.length c2_0, .int .i64 a2_1, .bool a2_2], .int .i64 zY] rfl (by (try simp only [List.map_toArray, List.map_cons, List.map_nil]); first | done | rfl | (simp only [List.length_drop, List.length_take]; rfl)) ?_; (with_reducible refine (laws_szAtom.calls _ _ l2_0 a2_1 a2_2 zY jz _ ?side1 ?side2 A12.out).mono ?_); (case side1 => exact cb_ z6 HB); (case side2 => exact z7.out); rintro e I2 ⟨rfl, hb⟩; refine ⟨_, rfl, ?_⟩; replace qb := kB_ qb hb; replace qd := kB_ qd hb; replace HB := bS_ HB hb; (try clear hb); (try clear hb2); (try clear hk); (try clear hi)))
   replace qb := Aside0.mk (blk_drew qb.out); replace qd := Aside0.mk (blk_drew qd.out); replace HB := Aside0.mk (below_drew1 HB.out)
   refine start_ (n := 13) (S := fun w' => w'.cell? ⟨qp, 0, none⟩ = some (.slice A0_0 l0_0.length c0_0) ∧ w'.cell? ⟨qp, 1, none⟩ = some (.int .i64 a0_1) ∧ w'.cell? ⟨qp, 2, none⟩ = some (.bool a0_2) ∧ w'.cell? ⟨qq, 0, none⟩ = some (.slice A2_0 l2_0.length c2_0) ∧ w'.cell? ⟨qq, 1, none⟩ = some (.int .i64 a2_1) ∧ w'.cell? ⟨qq, 2, none⟩ = some (.bool a2_2)) (ds := []) #[false, false, false, false, false, false, false, false, false, false, false, false, false] (by kernel_rfl) rfl rfl ⟨bc_ qb 0, bc_ qb 1, bc_ qb 2, bc_ qd 0, bc_ qd 1, bc_ qd 2⟩ (fun hHeld => ?_); refine with_tabW laws_FnExactMixAtoms.tab8 laws_FnExactMixAtoms.bits8 (fun HT_ HW_ => ?_)
   generalize I2.drew = Mz at qb qd HB hHeld ⊢
   refine pure_ (i := 2) (N := some 34) (v := ?_) (a' := ?_) #[false, false, true, false, false, false, false, false, false, false, false, false, false] rfl rfl (any_of HT_.out (by kernel_rfl)) (fun _ _ _ h => h) (Or.inl ⟨by rfl, ?_⟩) ?_ ?_
   rotate_left
   ·
    intro w'
    go_simp
    with_reducible rfl
   rotate_left
   ·
    simp only [Act.put, List.setIfInBounds_toArray, List.set_cons_zero, List.set_cons_succ, i64_w, i32_w]
    rfl
   refine pure_ (i := 5) (N := some 37) (v := ?_) (a' := ?_) #[false, false, true, false, false, true, false, false, false, false, false, false, false] rfl rfl (any_of HT_.out (by kernel_rfl)) (fun _ _ _ h => h) (Or.inl ⟨by rfl, ?_⟩) ?_ ?_
   rotate_left
   ·
    intro w'
    go_simp
    with_reducible rfl
   rotate_left
   ·
    simp only [Act.put, List.setIfInBounds_toArray, List.set_cons_zero, List.set_cons_succ, i64_w, i32_w]
    rfl
   refine take_ (i := 0) (N := some 32) (v := ?_) (a' := ?_) #[true, false, true, false, false, true, false, false, false, false, false, false, false] rfl rfl (take_ofW HT_.out HW_.out (by kernel_rfl)) (fun _ _ _ h => h) (Or.inl ⟨by rfl, ?_⟩) hHeld ?_ ?_
   rotate_left
   ·
    rintro w' ⟨s0, s1, s2, s3, s4, s5⟩
    go_simp
    with_reducible rfl
   rotate_left
   ·
    simp only [Act.put, List.setIfInBounds_toArray, List.set_cons_zero, List.set_cons_succ, i64_w, i32_w]
    rfl
   refine take_ (i := 3) (N := some 35) (v := ?_) (a' := ?_) #[true, false, true, true, false, true, false, false, false, false, false, false, false] rfl rfl (take_ofW HT_.out HW_.out (by kernel_rfl)) (fun _ _ _ h => h) (Or.inl ⟨by rfl, ?_⟩) hHeld ?_ ?_
   rotate_left
   ·
    rintro w' ⟨s0, s1, s2, s3, s4, s5⟩
    go_simp
    with_reducible rfl
   rotate_left
   ·
    simp only [Act.put, List.setIfInBounds_toArray, List.set_cons_zero, List.set_cons_succ, i64_w, i32_w]
    rfl
   refine join_ (σ := Value × Value × Value × Nat) 2 #[true, true, true, true, true, true, true, true, true, true, true, false, false] (fun s_ => [(33, .agg #[s_.1, .int .i64 jk, .bool jl]), (36, .agg #[s_.2.1, .int .i64 jm, .bool jn]), (38, .tuple #[.agg #[s_.2.2.1, .int .i64 qy, .bool qA], .bool qL]), (10, .pointer (some ⟨s_.2.2.2, 0, none⟩)), (31, .tuple #[.agg #[s_.2.2.1, .int .i64 qy, .bool qA], .bool qL]), (39, .agg #[s_.2.2.1, .int .i64 qy, .bool qA]), (40, .bool qL)]) (fun s_ w' => (w'.cell? ⟨qp, 0, none⟩ = some (.slice A0_0 l0_0.length c0_0) ∧ w'.cell? ⟨qp, 1, none⟩ = some (.int .i64 a0_1) ∧ w'.cell? ⟨qp, 2, none⟩ = some (.bool a0_2) ∧ w'.cell? ⟨qq, 0, none⟩ = some (.slice A2_0 l2_0.length c2_0) ∧ w'.cell? ⟨qq, 1, none⟩ = some (.int .i64 a2_1) ∧ w'.cell? ⟨qq, 2, none⟩ = some (.bool a2_2)) ∧ (Kd.R (Kd.int .i64) 3 w' w.heap.size (fun k_ => some k_ ≠ (s_.2.1 : Value).ownBlock ∧ some k_ ≠ (s_.2.2.1 : Value).ownBlock) s_.1 zZ) ∧ (Kd.R (Kd.int .i64) 3 w' w.heap.size (fun k_ => some k_ ≠ (s_.1 : Value).ownBlock ∧ some k_ ≠ (s_.2.2.1 : Value).ownBlock) s_.2.1 z0) ∧ (Kd.R (Kd.int .i64) 3 w' w.heap.size (fun k_ => some k_ ≠ (s_.1 : Value).ownBlock ∧ some k_ ≠ (s_.2.1 : Value).ownBlock) s_.2.2.1 qo) ∧ (w'.heap[qp]? = some (.cells #[.slice A0_0 l0_0.length c0_0, .int .i64 a0_1, .bool a0_2] 24 (0, 0))) ∧ (w'.heap[qq]? = some (.cells #[.slice A2_0 l2_0.length c2_0, .int .i64 a2_1, .bool a2_2] 24 (0, 0))) ∧ (w'.heap[s_.2.2.2]? = some (.cells #[.slice none 0 0, .int .i64 0, .bool false] 26 (0, 0))) ∧ (w.heap.size ≤ s_.2.2.2) ∧ (w.heap.size ≤ s_.2.2.2) ∧ (qp ≠ s_.2.2.2) ∧ (s_.2.2.2 ≠ qp) ∧ (qq ≠ s_.2.2.2) ∧ (s_.2.2.2 ≠ qq) ∧ (Below w.heap.size w w')) ?_ ?_
   rotate_left
   ·
    intro hCont
    refine two_ (i := 1) (j := 10) (Ni := some 33) (Nj := some 10) #[true, true, true, true, false, true, false, false, false, false, false, false, false] #[true, false, true, true, false, true, false, false, false, false, true, false, false] rfl rfl rfl rfl (two_of HT_.out (by kernel_rfl)) (by decide) (by decide) (fun K hK => ?_) (fun K hK => ?_)
    ·
     skip
     refine goes_ Try.func15 (by kernel_rfl) rfl #[.agg #[.slice A0_0 l0_0.length c0_0, .int .i64 a0_1, .bool a0_2]] (by rfl) rfl rfl (by (try simp only [List.map_toArray, List.map_cons, List.map_nil]); first | done | rfl | (simp only [List.length_drop, List.length_take]; rfl)) ?_
     with_reducible refine (laws_toAtom.calls k _ _ l0_0 a0_1 a0_2 zZ jk jl _ ?side1 ?side2 A21.out).mono ?_
     (case side1 => exact cb_ z4 HB)
     (case side2 => exact z5.out)
     rintro e I3 ⟨jG, rfl, ho0, hb⟩
     refine ⟨_, rfl, ?_⟩
     have qE := Aside0.mk (Kd.R_lower ho0 (bz_ HB)); replace qb := kB_ qb hb; replace qd := kB_ qd hb; replace HB := bS_ HB hb; (try clear hb); (try clear hb2); (try clear hk); (try clear hi); (try clear ho0)
     refine hK.out _ _ ⟨bc_ qb 0, bc_ qb 1, bc_ qb 2, bc_ qd 0, bc_ qd 1, bc_ qd 2⟩ (fun hHeld => ?_)
     clear hK K
     refine norm_ (a' := ?_) ?_ ?_
     rotate_left
     ·
      show Act.put _ (some 33) _ = _
      simp only [Act.put, List.setIfInBounds_toArray, List.set_cons_zero, List.set_cons_succ, i64_w, i32_w]
      rfl
     refine two_ (i := 4) (j := 10) (Ni := some 36) (Nj := some 10) #[true, true, true, true, true, true, false, false, false, false, false, false, false] #[true, true, true, true, false, true, false, false, false, false, true, false, false] rfl rfl rfl rfl (two_of HT_.out (by kernel_rfl)) (by decide) (by decide) (fun K hK => ?_) (fun K hK => ?_)
     ·
      skip
      refine goes_ Try.func15 (by kernel_rfl) rfl #[.agg #[.slice A2_0 l2_0.length c2_0, .int .i64 a2_1, .bool a2_2]] (by rfl) rfl rfl (by (try simp only [List.map_toArray, List.map_cons, List.map_nil]); first | done | rfl | (simp only [List.length_drop, List.length_take]; rfl)) ?_
      with_reducible refine (laws_toAtom.calls k _ _ l2_0 a2_1 a2_2 z0 jm jn _ ?side1 ?side2 A22.out).mono ?_
      (case side1 => exact cb_ z6 HB)
      (case side2 => exact z7.out)
      rintro e ET ⟨jA, rfl, ho0, hb⟩
      refine ⟨_, rfl, ?_⟩
      have qJ := Aside0.mk (Kd.R_lower (Kd.R_new' ho0 (Kd.R_lt (rm_ qE))) (bz_ HB)); replace qE := Aside0.mk (Kd.R_elder' (rm_ qE) (Kd.R_base ho0) hb); replace qb := kB_ qb hb; replace qd := kB_ qd hb; replace HB := bS_ HB hb; (try clear hb); (try clear hb2); (try clear hk); (try clear hi); (try clear ho0)
      obtain ⟨Js, Jt, eo38⟩ := Kd.R_slice qE.out
      (first | subst eo38 | (injection eo38 with f1_ f2_ f3_; have f4_ := f1_.symm; have f5_ := f3_.symm; clear f1_ f2_ f3_; subst f4_; subst f5_))
      obtain ⟨jH, jI, eo39⟩ := Kd.R_slice qJ.out
      (first | subst eo39 | (injection eo39 with f1_ f2_ f3_; have f4_ := f1_.symm; have f5_ := f3_.symm; clear f1_ f2_ f3_; subst f4_; subst f5_))
      refine hK.out _ _ ⟨bc_ qb 0, bc_ qb 1, bc_ qb 2, bc_ qd 0, bc_ qd 1, bc_ qd 2⟩ (fun hHeld => ?_)
      clear hK K
      refine norm_ (a' := ?_) ?_ ?_
      rotate_left
      ·
       show Act.put _ (some 36) _ = _
       simp only [Act.put, List.setIfInBounds_toArray, List.set_cons_zero, List.set_cons_succ, i64_w, i32_w]
       rfl
      refine two_ (i := 6) (j := 10) (Ni := some 38) (Nj := some 10) #[true, true, true, true, true, true, true, false, false, false, false, false, false] #[true, true, true, true, true, true, false, false, false, false, true, false, false] rfl rfl rfl rfl (two_of HT_.out (by kernel_rfl)) (by decide) (by decide) (fun K hK => ?_) (fun K hK => ?_)
      ·
       skip
       refine goes_ Try.func30 (by kernel_rfl) rfl #[.agg #[.slice Js zZ.length Jt, .int .i64 jk, .bool jl], .int .i64 a1, .agg #[.slice jH z0.length jI, .int .i64 jm, .bool jn], .int .i64 a3] (by rfl) rfl rfl (by (try simp only [List.map_toArray, List.map_cons, List.map_nil]); first | done | rfl | (simp only [List.length_drop, List.length_take]; rfl)) ?_
       with_reducible refine (spec_MixAtoms.calls k _ _ zZ jk jl a1 _ _ z0 jm jn a3 qo qy qA qL _ ?side1 ?side2 ?side3 ?side4 A23.out).mono ?_
       (case side1 => exact cr_ qE)
       (case side2 => exact (Kd.R_reads' qE.out).2.1)
       (case side3 => exact cr_ qJ)
       (case side4 => exact (Kd.R_reads' qJ.out).2.1)
       rintro e MA ⟨jJ, rfl, ho0, hb⟩
       refine ⟨_, rfl, ?_⟩
       have q4 := Aside0.mk (Kd.R_lower (Kd.R_new' (Kd.R_new' ho0 (Kd.R_lt (rm_ qE))) (Kd.R_lt (rm_ qJ))) (bz_ HB)); replace qE := Aside0.mk (Kd.R_elder' (rm_ qE) (Kd.R_base ho0) hb); replace qJ := Aside0.mk (Kd.R_elder' (rm_ qJ) (Kd.R_base ho0) hb); replace qb := kB_ qb hb; replace qd := kB_ qd hb; replace HB := bS_ HB hb; (try clear hb); (try clear hb2); (try clear hk); (try clear hi); (try clear ho0)
       refine hK.out _ _ ⟨bc_ qb 0, bc_ qb 1, bc_ qb 2, bc_ qd 0, bc_ qd 1, bc_ qd 2⟩ (fun hHeld => ?_)
       clear hK K
       refine norm_ (a' := ?_) ?_ ?_
       rotate_left
       ·
        show Act.put _ (some 38) _ = _
        simp only [Act.put, List.setIfInBounds_toArray, List.set_cons_zero, List.set_cons_succ, i64_w, i32_w]
        rfl
       refine pure_ (i := 7) (N := some 31) (v := ?_) (a' := ?_) #[true, true, true, true, true, true, true, true, false, false, false, false, false] rfl rfl (any_of HT_.out (by kernel_rfl)) (fun _ _ _ h => h) (Or.inl ⟨by rfl, ?_⟩) ?_ ?_
       rotate_left
       ·
        intro w'
        go_simp
        with_reducible rfl
       rotate_left
       ·
        simp only [Act.put, List.setIfInBounds_toArray, List.set_cons_zero, List.set_cons_succ, i64_w, i32_w]
        rfl
       refine pure_ (i := 8) (N := some 39) (v := ?_) (a' := ?_) #[true, true, true, true, true, true, true, true, true, false, false, false, false] rfl rfl (any_of HT_.out (by kernel_rfl)) (fun _ _ _ h => h) (Or.inl ⟨by rfl, ?_⟩) ?_ ?_
       rotate_left
       ·
        intro w'
        go_simp
        with_reducible rfl
       rotate_left
       ·
        simp only [Act.put, List.setIfInBounds_toArray, List.set_cons_zero, List.set_cons_succ, i64_w, i32_w]
        rfl
       refine pure_ (i := 9) (N := some 40) (v := ?_) (a' := ?_) #[true, true, true, true, true, true, true, true, true, true, false, false, false] rfl rfl (any_of HT_.out (by kernel_rfl)) (fun _ _ _ h => h) (Or.inl ⟨by rfl, ?_⟩) ?_ ?_
       rotate_left
       ·
        intro w'
        go_simp
        with_reducible rfl
       rotate_left
       ·
        simp only [Act.put, List.setIfInBounds_toArray, List.set_cons_zero, List.set_cons_succ, i64_w, i32_w]
        rfl
       refine one_ (i := 10) (N := some 10) #[true, true, true, true, true, true, true, true, true, true, true, false, false] rfl rfl (one_of HT_.out (by kernel_rfl)) (by decide) (fun K hK => ?_)
       refine box_step ?hg (N := 10) ?hd (cs := #[.slice none 0 0, .int .i64 0, .bool false]) (t := 26) ?hr ?_; (case hd => rfl); (case hg => rfl); (case hr => first | (go_simp; done) | (go_simp; rfl))
       intro qn hg X4 hbox hb
       replace qE := rB_ qE hb; replace qJ := rB_ qJ hb; replace q4 := rB_ q4 hb; have qh := Aside0.mk (hbox); have ju := Aside0.mk ((by rw [hg]; exact (bz_ HB) : w.heap.size ≤ qn)); have zV := Aside0.mk ((by rw [hg]; exact (bz_ HB) : w.heap.size ≤ qn)); replace HB := bS_ HB hb; have qC := Aside0.mk ((nl_ qb hg : qp ≠ qn)); have qU := Aside0.mk ((ng_ qb hg : qn ≠ qp)); replace qb := kB_ qb hb; have qD := Aside0.mk ((nl_ qd hg : qq ≠ qn)); have qV := Aside0.mk ((ng_ qd hg : qn ≠ qq)); replace qd := kB_ qd hb; clear hb hbox hg
       refine hK.out _ _ ⟨bc_ qb 0, bc_ qb 1, bc_ qb 2, bc_ qd 0, bc_ qd 1, bc_ qd 2⟩ (fun hHeld => ?_)
       clear hK K
       refine norm_ (a' := ?_) ?_ ?_
       rotate_left
       ·
        show Act.put _ (some 10) _ = _
        simp only [Act.put, List.setIfInBounds_toArray, List.set_cons_zero, List.set_cons_succ, i64_w, i32_w]
        rfl
       exact norm_ (by simp only [putAll, Act.put, List.setIfInBounds_toArray, List.set_cons_zero, List.set_cons_succ]) (hCont (.slice Js zZ.length Jt, .slice jH z0.length jI, jJ, qn) _ ⟨hHeld, (by (with_reducible repeat (first | apply Kd.R_alloc | apply Kd.R_drewN | apply Kd.R_drew)); exact Kd.R_mono qE.out (fun _ hk => ⟨hk.1.2, hk.2⟩)), (by (with_reducible repeat (first | apply Kd.R_alloc | apply Kd.R_drewN | apply Kd.R_drew)); exact Kd.R_mono qJ.out (fun _ hk => ⟨hk.1.2, hk.2⟩)), (by (with_reducible repeat (first | apply Kd.R_alloc | apply Kd.R_drewN | apply Kd.R_drew)); exact Kd.R_mono q4.out (fun _ hk => ⟨hk.1.2, hk.2⟩)), (kf_ qb), (kf_ qd), (kf_ qh), ju.out, zV.out, qC.out, qU.out, qD.out, qV.out, (bb_ HB)⟩)
      ·
       skip
       refine box_step ?hg (N := 10) ?hd (cs := #[.slice none 0 0, .int .i64 0, .bool false]) (t := 26) ?hr ?_; (case hd => rfl); (case hg => rfl); (case hr => first | (go_simp; done) | (go_simp; rfl))
       intro qn hg EU hbox hb
       replace qE := rB_ qE hb; replace qJ := rB_ qJ hb; have qh := Aside0.mk (hbox); have ju := Aside0.mk ((by rw [hg]; exact (bz_ HB) : w.heap.size ≤ qn)); have zV := Aside0.mk ((by rw [hg]; exact (bz_ HB) : w.heap.size ≤ qn)); replace HB := bS_ HB hb; have qC := Aside0.mk ((nl_ qb hg : qp ≠ qn)); have qU := Aside0.mk ((ng_ qb hg : qn ≠ qp)); replace qb := kB_ qb hb; have qD := Aside0.mk ((nl_ qd hg : qq ≠ qn)); have qV := Aside0.mk ((ng_ qd hg : qn ≠ qq)); replace qd := kB_ qd hb; clear hb hbox hg
       obtain ⟨jH, jI, eo39⟩ := Kd.R_slice qE.out
       (first | subst eo39 | (injection eo39 with f1_ f2_ f3_; have f4_ := f1_.symm; have f5_ := f3_.symm; clear f1_ f2_ f3_; subst f4_; subst f5_))
       obtain ⟨j3, j4, eo40⟩ := Kd.R_slice qJ.out
       (first | subst eo40 | (injection eo40 with f1_ f2_ f3_; have f4_ := f1_.symm; have f5_ := f3_.symm; clear f1_ f2_ f3_; subst f4_; subst f5_))
       refine hK.out _ _ ⟨bc_ qb 0, bc_ qb 1, bc_ qb 2, bc_ qd 0, bc_ qd 1, bc_ qd 2⟩ (fun hHeld => ?_)
       clear hK K
       refine norm_ (a' := ?_) ?_ ?_
       rotate_left
       ·
        show Act.put _ (some 10) _ = _
        simp only [Act.put, List.setIfInBounds_toArray, List.set_cons_zero, List.set_cons_succ, i64_w, i32_w]
        rfl
       refine one_ (i := 6) (N := some 38) #[true, true, true, true, true, true, true, false, false, false, true, false, false] rfl rfl (one_of HT_.out (by kernel_rfl)) (by decide) (fun K hK => ?_)
       refine goes_ Try.func30 (by kernel_rfl) rfl #[.agg #[.slice jH zZ.length jI, .int .i64 jk, .bool jl], .int .i64 a1, .agg #[.slice j3 z0.length j4, .int .i64 jm, .bool jn], .int .i64 a3] (by rfl) rfl rfl (by (try simp only [List.map_toArray, List.map_cons, List.map_nil]); first | done | rfl | (simp only [List.length_drop, List.length_take]; rfl)) ?_
       with_reducible refine (spec_MixAtoms.calls k _ _ zZ jk jl a1 _ _ z0 jm jn a3 qo qy qA qL _ ?side1 ?side2 ?side3 ?side4 A23.out).mono ?_
       (case side1 => exact cr_ qE)
       (case side2 => exact (Kd.R_reads' qE.out).2.1)
       (case side3 => exact cr_ qJ)
       (case side4 => exact (Kd.R_reads' qJ.out).2.1)
       rintro e X4 ⟨jJ, rfl, ho0, hb⟩
       refine ⟨_, rfl, ?_⟩
       have q4 := Aside0.mk (Kd.R_lower (Kd.R_new' (Kd.R_new' ho0 (Kd.R_lt (rm_ qE))) (Kd.R_lt (rm_ qJ))) (bz_ HB)); replace qE := Aside0.mk (Kd.R_elder' (rm_ qE) (Kd.R_base ho0) hb); replace qJ := Aside0.mk (Kd.R_elder' (rm_ qJ) (Kd.R_base ho0) hb); replace qb := kB_ qb hb; replace qd := kB_ qd hb; replace qh := kB_ qh hb; replace HB := bS_ HB hb; (try clear hb); (try clear hb2); (try clear hk); (try clear hi); (try clear ho0)
       refine hK.out _ _ ⟨bc_ qb 0, bc_ qb 1, bc_ qb 2, bc_ qd 0, bc_ qd 1, bc_ qd 2⟩ (fun hHeld => ?_)
       clear hK K
       refine norm_ (a' := ?_) ?_ ?_
       rotate_left
       ·
        show Act.put _ (some 38) _ = _
        simp only [Act.put, List.setIfInBounds_toArray, List.set_cons_zero, List.set_cons_succ, i64_w, i32_w]
        rfl
       refine pure_ (i := 7) (N := some 31) (v := ?_) (a' := ?_) #[true, true, true, true, true, true, true, true, false, false, true, false, false] rfl rfl (any_of HT_.out (by kernel_rfl)) (fun _ _ _ h => h) (Or.inl ⟨by rfl, ?_⟩) ?_ ?_
       rotate_left
       ·
        intro w'
        go_simp
        with_reducible rfl
       rotate_left
       ·
        simp only [Act.put, List.setIfInBounds_toArray, List.set_cons_zero, List.set_cons_succ, i64_w, i32_w]
        rfl
       refine pure_ (i := 8) (N := some 39) (v := ?_) (a' := ?_) #[true, true, true, true, true, true, true, true, true, false, true, false, false] rfl rfl (any_of HT_.out (by kernel_rfl)) (fun _ _ _ h => h) (Or.inl ⟨by rfl, ?_⟩) ?_ ?_
       rotate_left
       ·
        intro w'
        go_simp
        with_reducible rfl
       rotate_left
       ·
        simp only [Act.put, List.setIfInBounds_toArray, List.set_cons_zero, List.set_cons_succ, i64_w, i32_w]
        rfl
       refine pure_ (i := 9) (N := some 40) (v := ?_) (a' := ?_) #[true, true, true, true, true, true, true, true, true, true, true, false, false] rfl rfl (any_of HT_.out (by kernel_rfl)) (fun _ _ _ h => h) (Or.inl ⟨by rfl, ?_⟩) ?_ ?_
       rotate_left
       ·
        intro w'
        go_simp
        with_reducible rfl
       rotate_left
       ·
        simp only [Act.put, List.setIfInBounds_toArray, List.set_cons_zero, List.set_cons_succ, i64_w, i32_w]
        rfl
       exact norm_ (by simp only [putAll, Act.put, List.setIfInBounds_toArray, List.set_cons_zero, List.set_cons_succ]) (hCont (.slice jH zZ.length jI, .slice j3 z0.length j4, jJ, qn) _ ⟨hHeld, (by (with_reducible repeat (first | apply Kd.R_alloc | apply Kd.R_drewN | apply Kd.R_drew)); exact Kd.R_mono qE.out (fun _ hk => ⟨hk.1.2, hk.2⟩)), (by (with_reducible repeat (first | apply Kd.R_alloc | apply Kd.R_drewN | apply Kd.R_drew)); exact Kd.R_mono qJ.out (fun _ hk => ⟨hk.1.2, hk.2⟩)), (by (with_reducible repeat (first | apply Kd.R_alloc | apply Kd.R_drewN | apply Kd.R_drew)); exact Kd.R_mono q4.out (fun _ hk => ⟨hk.1.2, hk.2⟩)), (kf_ qb), (kf_ qd), (kf_ qh), ju.out, zV.out, qC.out, qU.out, qD.out, qV.out, (bb_ HB)⟩)
     ·
      skip
      refine box_step ?hg (N := 10) ?hd (cs := #[.slice none 0 0, .int .i64 0, .bool false]) (t := 26) ?hr ?_; (case hd => rfl); (case hg => rfl); (case hr => first | (go_simp; done) | (go_simp; rfl))
      intro qn hg ET hbox hb
      replace qE := rB_ qE hb; have qh := Aside0.mk (hbox); have ju := Aside0.mk ((by rw [hg]; exact (bz_ HB) : w.heap.size ≤ qn)); have zV := Aside0.mk ((by rw [hg]; exact (bz_ HB) : w.heap.size ≤ qn)); replace HB := bS_ HB hb; have qC := Aside0.mk ((nl_ qb hg : qp ≠ qn)); have qU := Aside0.mk ((ng_ qb hg : qn ≠ qp)); replace qb := kB_ qb hb; have qD := Aside0.mk ((nl_ qd hg : qq ≠ qn)); have qV := Aside0.mk ((ng_ qd hg : qn ≠ qq)); replace qd := kB_ qd hb; clear hb hbox hg
      refine hK.out _ _ ⟨bc_ qb 0, bc_ qb 1, bc_ qb 2, bc_ qd 0, bc_ qd 1, bc_ qd 2⟩ (fun hHeld => ?_)
      clear hK K
      refine norm_ (a' := ?_) ?_ ?_
      rotate_left
      ·
       show Act.put _ (some 10) _ = _
       simp only [Act.put, List.setIfInBounds_toArray, List.set_cons_zero, List.set_cons_succ, i64_w, i32_w]
       rfl
      refine one_ (i := 4) (N := some 36) #[true, true, true, true, true, true, false, false, false, false, true, false, false] rfl rfl (one_of HT_.out (by kernel_rfl)) (by decide) (fun K hK => ?_)
      refine goes_ Try.func15 (by kernel_rfl) rfl #[.agg #[.slice A2_0 l2_0.length c2_0, .int .i64 a2_1, .bool a2_2]] (by rfl) rfl rfl (by (try simp only [List.map_toArray, List.map_cons, List.map_nil]); first | done | rfl | (simp only [List.length_drop, List.length_take]; rfl)) ?_
      with_reducible refine (laws_toAtom.calls k _ _ l2_0 a2_1 a2_2 z0 jm jn _ ?side1 ?side2 A22.out).mono ?_
      (case side1 => exact cb_ z6 HB)
      (case side2 => exact z7.out)
      rintro e EU ⟨jA, rfl, ho0, hb⟩
      refine ⟨_, rfl, ?_⟩
      have qJ := Aside0.mk (Kd.R_lower (Kd.R_new' ho0 (Kd.R_lt (rm_ qE))) (bz_ HB)); replace qE := Aside0.mk (Kd.R_elder' (rm_ qE) (Kd.R_base ho0) hb); replace qb := kB_ qb hb; replace qd := kB_ qd hb; replace qh := kB_ qh hb; replace HB := bS_ HB hb; (try clear hb); (try clear hb2); (try clear hk); (try clear hi); (try clear ho0)
      obtain ⟨jH, jI, eo39⟩ := Kd.R_slice qE.out
      (first | subst eo39 | (injection eo39 with f1_ f2_ f3_; have f4_ := f1_.symm; have f5_ := f3_.symm; clear f1_ f2_ f3_; subst f4_; subst f5_))
      obtain ⟨j3, j4, eo40⟩ := Kd.R_slice qJ.out
      (first | subst eo40 | (injection eo40 with f1_ f2_ f3_; have f4_ := f1_.symm; have f5_ := f3_.symm; clear f1_ f2_ f3_; subst f4_; subst f5_))
      refine hK.out _ _ ⟨bc_ qb 0, bc_ qb 1, bc_ qb 2, bc_ qd 0, bc_ qd 1, bc_ qd 2⟩ (fun hHeld => ?_)
      clear hK K
      refine norm_ (a' := ?_) ?_ ?_
      rotate_left
      ·
       show Act.put _ (some 36) _ = _
       simp only [Act.put, List.setIfInBounds_toArray, List.set_cons_zero, List.set_cons_succ, i64_w, i32_w]
       rfl
      refine one_ (i := 6) (N := some 38) #[true, true, true, true, true, true, true, false, false, false, true, false, false] rfl rfl (one_of HT_.out (by kernel_rfl)) (by decide) (fun K hK => ?_)
      refine goes_ Try.func30 (by kernel_rfl) rfl #[.agg #[.slice jH zZ.length jI, .int .i64 jk, .bool jl], .int .i64 a1, .agg #[.slice j3 z0.length j4, .int .i64 jm, .bool jn], .int .i64 a3] (by rfl) rfl rfl (by (try simp only [List.map_toArray, List.map_cons, List.map_nil]); first | done | rfl | (simp only [List.length_drop, List.length_take]; rfl)) ?_
      with_reducible refine (spec_MixAtoms.calls k _ _ zZ jk jl a1 _ _ z0 jm jn a3 qo qy qA qL _ ?side1 ?side2 ?side3 ?side4 A23.out).mono ?_
      (case side1 => exact cr_ qE)
      (case side2 => exact (Kd.R_reads' qE.out).2.1)
      (case side3 => exact cr_ qJ)
      (case side4 => exact (Kd.R_reads' qJ.out).2.1)
      rintro e X4 ⟨jJ, rfl, ho0, hb⟩
      refine ⟨_, rfl, ?_⟩
      have q4 := Aside0.mk (Kd.R_lower (Kd.R_new' (Kd.R_new' ho0 (Kd.R_lt (rm_ qE))) (Kd.R_lt (rm_ qJ))) (bz_ HB)); replace qE := Aside0.mk (Kd.R_elder' (rm_ qE) (Kd.R_base ho0) hb); replace qJ := Aside0.mk (Kd.R_elder' (rm_ qJ) (Kd.R_base ho0) hb); replace qb := kB_ qb hb; replace qd := kB_ qd hb; replace qh := kB_ qh hb; replace HB := bS_ HB hb; (try clear hb); (try clear hb2); (try clear hk); (try clear hi); (try clear ho0)
      refine hK.out _ _ ⟨bc_ qb 0, bc_ qb 1, bc_ qb 2, bc_ qd 0, bc_ qd 1, bc_ qd 2⟩ (fun hHeld => ?_)
      clear hK K
      refine norm_ (a' := ?_) ?_ ?_
      rotate_left
      ·
       show Act.put _ (some 38) _ = _
       simp only [Act.put, List.setIfInBounds_toArray, List.set_cons_zero, List.set_cons_succ, i64_w, i32_w]
       rfl
      refine pure_ (i := 7) (N := some 31) (v := ?_) (a' := ?_) #[true, true, true, true, true, true, true, true, false, false, true, false, false] rfl rfl (any_of HT_.out (by kernel_rfl)) (fun _ _ _ h => h) (Or.inl ⟨by rfl, ?_⟩) ?_ ?_
      rotate_left
      ·
       intro w'
       go_simp
       with_reducible rfl
      rotate_left
      ·
       simp only [Act.put, List.setIfInBounds_toArray, List.set_cons_zero, List.set_cons_succ, i64_w, i32_w]
       rfl
      refine pure_ (i := 8) (N := some 39) (v := ?_) (a' := ?_) #[true, true, true, true, true, true, true, true, true, false, true, false, false] rfl rfl (any_of HT_.out (by kernel_rfl)) (fun _ _ _ h => h) (Or.inl ⟨by rfl, ?_⟩) ?_ ?_
      rotate_left
      ·
       intro w'
       go_simp
       with_reducible rfl
      rotate_left
      ·
       simp only [Act.put, List.setIfInBounds_toArray, List.set_cons_zero, List.set_cons_succ, i64_w, i32_w]
       rfl
      refine pure_ (i := 9) (N := some 40) (v := ?_) (a' := ?_) #[true, true, true, true, true, true, true, true, true, true, true, false, false] rfl rfl (any_of HT_.out (by kernel_rfl)) (fun _ _ _ h => h) (Or.inl ⟨by rfl, ?_⟩) ?_ ?_
      rotate_left
      ·
       intro w'
       go_simp
       with_reducible rfl
      rotate_left
      ·
       simp only [Act.put, List.setIfInBounds_toArray, List.set_cons_zero, List.set_cons_succ, i64_w, i32_w]
       rfl
      exact norm_ (by simp only [putAll, Act.put, List.setIfInBounds_toArray, List.set_cons_zero, List.set_cons_succ]) (hCont (.slice jH zZ.length jI, .slice j3 z0.length j4, jJ, qn) _ ⟨hHeld, (by (with_reducible repeat (first | apply Kd.R_alloc | apply Kd.R_drewN | apply Kd.R_drew)); exact Kd.R_mono qE.out (fun _ hk => ⟨hk.1.2, hk.2⟩)), (by (with_reducible repeat (first | apply Kd.R_alloc | apply Kd.R_drewN | apply Kd.R_drew)); exact Kd.R_mono qJ.out (fun _ hk => ⟨hk.1.2, hk.2⟩)), (by (with_reducible repeat (first | apply Kd.R_alloc | apply Kd.R_drewN | apply Kd.R_drew)); exact Kd.R_mono q4.out (fun _ hk => ⟨hk.1.2, hk.2⟩)), (kf_ qb), (kf_ qd), (kf_ qh), ju.out, zV.out, qC.out, qU.out, qD.out, qV.out, (bb_ HB)⟩)
    ·
     skip
     refine box_step ?hg (N := 10) ?hd (cs := #[.slice none 0 0, .int .i64 0, .bool false]) (t := 26) ?hr ?_; (case hd => rfl); (case hg => rfl); (case hr => first | (go_simp; done) | (go_simp; rfl))
     intro qn hg I3 hbox hb
     have qh := Aside0.mk (hbox); have ju := Aside0.mk ((by rw [hg]; exact (bz_ HB) : w.heap.size ≤ qn)); have zV := Aside0.mk ((by rw [hg]; exact (bz_ HB) : w.heap.size ≤ qn)); replace HB := bS_ HB hb; have qC := Aside0.mk ((nl_ qb hg : qp ≠ qn)); have qU := Aside0.mk ((ng_ qb hg : qn ≠ qp)); replace qb := kB_ qb hb; have qD := Aside0.mk ((nl_ qd hg : qq ≠ qn)); have qV := Aside0.mk ((ng_ qd hg : qn ≠ qq)); replace qd := kB_ qd hb; clear hb hbox hg
     refine hK.out _ _ ⟨bc_ qb 0, bc_ qb 1, bc_ qb 2, bc_ qd 0, bc_ qd 1, bc_ qd 2⟩ (fun hHeld => ?_)
     clear hK K
     refine norm_ (a' := ?_) ?_ ?_
     rotate_left
     ·
      show Act.put _ (some 10) _ = _
      simp only [Act.put, List.setIfInBounds_toArray, List.set_cons_zero, List.set_cons_succ, i64_w, i32_w]
      rfl
     refine one_ (i := 1) (N := some 33) #[true, true, true, true, false, true, false, false, false, false, true, false, false] rfl rfl (one_of HT_.out (by kernel_rfl)) (by decide) (fun K hK => ?_)
     refine goes_ Try.func15 (by kernel_rfl) rfl #[.agg #[.slice A0_0 l0_0.length c0_0, .int .i64 a0_1, .bool a0_2]] (by rfl) rfl rfl (by (try simp only [List.map_toArray, List.map_cons, List.map_nil]); first | done | rfl | (simp only [List.length_drop, List.length_take]; rfl)) ?_
     with_reducible refine (laws_toAtom.calls k _ _ l0_0 a0_1 a0_2 zZ jk jl _ ?side1 ?side2 A21.out).mono ?_
     (case side1 => exact cb_ z4 HB)
     (case side2 => exact z5.out)
     rintro e ET ⟨jG, rfl, ho0, hb⟩
     refine ⟨_, rfl, ?_⟩
     have qE := Aside0.mk (Kd.R_lower ho0 (bz_ HB)); replace qb := kB_ qb hb; replace qd := kB_ qd hb; replace qh := kB_ qh hb; replace HB := bS_ HB hb; (try clear hb); (try clear hb2); (try clear hk); (try clear hi); (try clear ho0)
     refine hK.out _ _ ⟨bc_ qb 0, bc_ qb 1, bc_ qb 2, bc_ qd 0, bc_ qd 1, bc_ qd 2⟩ (fun hHeld => ?_)
     clear hK K
     refine norm_ (a' := ?_) ?_ ?_
     rotate_left
     ·
      show Act.put _ (some 33) _ = _
      simp only [Act.put, List.setIfInBounds_toArray, List.set_cons_zero, List.set_cons_succ, i64_w, i32_w]
      rfl
     refine one_ (i := 4) (N := some 36) #[true, true, true, true, true, true, false, false, false, false, true, false, false] rfl rfl (one_of HT_.out (by kernel_rfl)) (by decide) (fun K hK => ?_)
     refine goes_ Try.func15 (by kernel_rfl) rfl #[.agg #[.slice A2_0 l2_0.length c2_0, .int .i64 a2_1, .bool a2_2]] (by rfl) rfl rfl (by (try simp only [List.map_toArray, List.map_cons, List.map_nil]); first | done | rfl | (simp only [List.length_drop, List.length_take]; rfl)) ?_
     with_reducible refine (laws_toAtom.calls k _ _ l2_0 a2_1 a2_2 z0 jm jn _ ?side1 ?side2 A22.out).mono ?_
     (case side1 => exact cb_ z6 HB)
     (case side2 => exact z7.out)
     rintro e EU ⟨jA, rfl, ho0, hb⟩
     refine ⟨_, rfl, ?_⟩
     have qJ := Aside0.mk (Kd.R_lower (Kd.R_new' ho0 (Kd.R_lt (rm_ qE))) (bz_ HB)); replace qE := Aside0.mk (Kd.R_elder' (rm_ qE) (Kd.R_base ho0) hb); replace qb := kB_ qb hb; replace qd := kB_ qd hb; replace qh := kB_ qh hb; replace HB := bS_ HB hb; (try clear hb); (try clear hb2); (try clear hk); (try clear hi); (try clear ho0)
     obtain ⟨jH, jI, eo39⟩ := Kd.R_slice qE.out
     (first | subst eo39 | (injection eo39 with f1_ f2_ f3_; have f4_ := f1_.symm; have f5_ := f3_.symm; clear f1_ f2_ f3_; subst f4_; subst f5_))
     obtain ⟨j3, j4, eo40⟩ := Kd.R_slice qJ.out
     (first | subst eo40 | (injection eo40 with f1_ f2_ f3_; have f4_ := f1_.symm; have f5_ := f3_.symm; clear f1_ f2_ f3_; subst f4_; subst f5_))
     refine hK.out _ _ ⟨bc_ qb 0, bc_ qb 1, bc_ qb 2, bc_ qd 0, bc_ qd 1, bc_ qd 2⟩ (fun hHeld => ?_)
     clear hK K
     refine norm_ (a' := ?_) ?_ ?_
     rotate_left
     ·
      show Act.put _ (some 36) _ = _
      simp only [Act.put, List.setIfInBounds_toArray, List.set_cons_zero, List.set_cons_succ, i64_w, i32_w]
      rfl
     refine one_ (i := 6) (N := some 38) #[true, true, true, true, true, true, true, false, false, false, true, false, false] rfl rfl (one_of HT_.out (by kernel_rfl)) (by decide) (fun K hK => ?_)
     refine goes_ Try.func30 (by kernel_rfl) rfl #[.agg #[.slice jH zZ.length jI, .int .i64 jk, .bool jl], .int .i64 a1, .agg #[.slice j3 z0.length j4, .int .i64 jm, .bool jn], .int .i64 a3] (by rfl) rfl rfl (by (try simp only [List.map_toArray, List.map_cons, List.map_nil]); first | done | rfl | (simp only [List.length_drop, List.length_take]; rfl)) ?_
     with_reducible refine (spec_MixAtoms.calls k _ _ zZ jk jl a1 _ _ z0 jm jn a3 qo qy qA qL _ ?side1 ?side2 ?side3 ?side4 A23.out).mono ?_
     (case side1 => exact cr_ qE)
     (case side2 => exact (Kd.R_reads' qE.out).2.1)
     (case side3 => exact cr_ qJ)
     (case side4 => exact (Kd.R_reads' qJ.out).2.1)
     rintro e X4 ⟨jJ, rfl, ho0, hb⟩
     refine ⟨_, rfl, ?_⟩
     have q4 := Aside0.mk (Kd.R_lower (Kd.R_new' (Kd.R_new' ho0 (Kd.R_lt (rm_ qE))) (Kd.R_lt (rm_ qJ))) (bz_ HB)); replace qE := Aside0.mk (Kd.R_elder' (rm_ qE) (Kd.R_base ho0) hb); replace qJ := Aside0.mk (Kd.R_elder' (rm_ qJ) (Kd.R_base ho0) hb); replace qb := kB_ qb hb; replace qd := kB_ qd hb; replace qh := kB_ qh hb; replace HB := bS_ HB hb; (try clear hb); (try clear hb2); (try clear hk); (try clear hi); (try clear ho0)
     refine hK.out _ _ ⟨bc_ qb 0, bc_ qb 1, bc_ qb 2, bc_ qd 0, bc_ qd 1, bc_ qd 2⟩ (fun hHeld => ?_)
     clear hK K
     refine norm_ (a' := ?_) ?_ ?_
     rotate_left
     ·
      show Act.put _ (some 38) _ = _
      simp only [Act.put, List.setIfInBounds_toArray, List.set_cons_zero, List.set_cons_succ, i64_w, i32_w]
      rfl
     refine pure_ (i := 7) (N := some 31) (v := ?_) (a' := ?_) #[true, true, true, true, true, true, true, true, false, false, true, false, false] rfl rfl (any_of HT_.out (by kernel_rfl)) (fun _ _ _ h => h) (Or.inl ⟨by rfl, ?_⟩) ?_ ?_
     rotate_left
     ·
      intro w'
      go_simp
      with_reducible rfl
     rotate_left
     ·
      simp only [Act.put, List.setIfInBounds_toArray, List.set_cons_zero, List.set_cons_succ, i64_w, i32_w]
      rfl
     refine pure_ (i := 8) (N := some 39) (v := ?_) (a' := ?_) #[true, true, true, true, true, true, true, true, true, false, true, false, false] rfl rfl (any_of HT_.out (by kernel_rfl)) (fun _ _ _ h => h) (Or.inl ⟨by rfl, ?_⟩) ?_ ?_
     rotate_left
     ·
      intro w'
      go_simp
      with_reducible rfl
     rotate_left
     ·
      simp only [Act.put, List.setIfInBounds_toArray, List.set_cons_zero, List.set_cons_succ, i64_w, i32_w]
      rfl
     refine pure_ (i := 9) (N := some 40) (v := ?_) (a' := ?_) #[true, true, true, true, true, true, true, true, true, true, true, false, false] rfl rfl (any_of HT_.out (by kernel_rfl)) (fun _ _ _ h => h) (Or.inl ⟨by rfl, ?_⟩) ?_ ?_
     rotate_left
     ·
      intro w'
      go_simp
      with_reducible rfl
     rotate_left
     ·
      simp only [Act.put, List.setIfInBounds_toArray, List.set_cons_zero, List.set_cons_succ, i64_w, i32_w]
      rfl
     exact norm_ (by simp only [putAll, Act.put, List.setIfInBounds_toArray, List.set_cons_zero, List.set_cons_succ]) (hCont (.slice jH zZ.length jI, .slice j3 z0.length j4, jJ, qn) _ ⟨hHeld, (by (with_reducible repeat (first | apply Kd.R_alloc | apply Kd.R_drewN | apply Kd.R_drew)); exact Kd.R_mono qE.out (fun _ hk => ⟨hk.1.2, hk.2⟩)), (by (with_reducible repeat (first | apply Kd.R_alloc | apply Kd.R_drewN | apply Kd.R_drew)); exact Kd.R_mono qJ.out (fun _ hk => ⟨hk.1.2, hk.2⟩)), (by (with_reducible repeat (first | apply Kd.R_alloc | apply Kd.R_drewN | apply Kd.R_drew)); exact Kd.R_mono q4.out (fun _ hk => ⟨hk.1.2, hk.2⟩)), (kf_ qb), (kf_ qd), (kf_ qh), ju.out, zV.out, qC.out, qU.out, qD.out, qV.out, (bb_ HB)⟩)
   rintro ⟨jG, jA, jJ, qn⟩ jX ⟨hS_, h0_, h1_, h2_, h3_, h4_, h5_, h6_, h7_, h8_, h9_, h10_, h11_, h12_⟩
   have n0_ : Aside0 (Kd.R (Kd.int .i64) 3 jX w.heap.size (fun k_ => some k_ ≠ (jA : Value).ownBlock ∧ some k_ ≠ (jJ : Value).ownBlock) jG zZ) := ⟨h0_⟩
   have n1_ : Aside0 (Kd.R (Kd.int .i64) 3 jX w.heap.size (fun k_ => some k_ ≠ (jG : Value).ownBlock ∧ some k_ ≠ (jJ : Value).ownBlock) jA z0) := ⟨h1_⟩
   have n2_ : Aside0 (Kd.R (Kd.int .i64) 3 jX w.heap.size (fun k_ => some k_ ≠ (jG : Value).ownBlock ∧ some k_ ≠ (jA : Value).ownBlock) jJ qo) := ⟨h2_⟩
   have n3_ : Aside0 (jX.heap[qp]? = some (.cells #[.slice A0_0 l0_0.length c0_0, .int .i64 a0_1, .bool a0_2] 24 (0, 0))) := ⟨h3_⟩
   have n4_ : Aside0 (jX.heap[qq]? = some (.cells #[.slice A2_0 l2_0.length c2_0, .int .i64 a2_1, .bool a2_2] 24 (0, 0))) := ⟨h4_⟩
   have n5_ : Aside0 (jX.heap[qn]? = some (.cells #[.slice none 0 0, .int .i64 0, .bool false] 26 (0, 0))) := ⟨h5_⟩
   have n6_ : Aside0 (w.heap.size ≤ qn) := ⟨h6_⟩
   have n7_ : Aside0 (w.heap.size ≤ qn) := ⟨h7_⟩
   have n8_ : Aside0 (qp ≠ qn) := ⟨h8_⟩
   have n9_ : Aside0 (qn ≠ qp) := ⟨h9_⟩
   have n10_ : Aside0 (qq ≠ qn) := ⟨h10_⟩
   have n11_ : Aside0 (qn ≠ qq) := ⟨h11_⟩
   have n12_ : Aside0 (Below w.heap.size w jX) := ⟨h12_⟩
   clear qb
   clear qd
   clear HB
   clear h0_ h1_ h2_ h3_ h4_ h5_ h6_ h7_ h8_ h9_ h10_ h11_ h12_
   have qE := n0_
   have qJ := n1_
   have q4 := n2_
   have qb := n3_
   have qd := n4_
   have qh := n5_
   have ju := n6_
   have zV := n7_
   have qC := n8_
   have qU := n9_
   have qD := n10_
   have qV := n11_
   have HB := n12_
   clear n0_ n1_ n2_ n3_ n4_ n5_ n6_ n7_ n8_ n9_ n10_ n11_ n12_
   have hHeld : jX.cell? ⟨qp, 0, none⟩ = some (.slice A0_0 l0_0.length c0_0) ∧ jX.cell? ⟨qp, 1, none⟩ = some (.int .i64 a0_1) ∧ jX.cell? ⟨qp, 2, none⟩ = some (.bool a0_2) ∧ jX.cell? ⟨qq, 0, none⟩ = some (.slice A2_0 l2_0.length c2_0) ∧ jX.cell? ⟨qq, 1, none⟩ = some (.int .i64 a2_1) ∧ jX.cell? ⟨qq, 2, none⟩ = some (.bool a2_2) := hS_
   obtain ⟨qR, qK, eo43⟩ := Kd.R_slice q4.out
   (first | subst eo43 | (injection eo43 with f1_ f2_ f3_; have f4_ := f1_.symm; have f5_ := f3_.symm; clear f1_ f2_ f3_; subst f4_; subst f5_))
   refine norm_ (a' := ?_) ?_ ?_
   rotate_left
   ·
    simp only [putAll, Act.put, List.setIfInBounds_toArray, List.set_cons_zero, List.set_cons_succ]
    rfl
   refine one_ (i := 11) (N := none) #[true, true, true, true, true, true, true, true, true, true, true, true, false] rfl rfl (one_of HT_.out (by kernel_rfl)) (by decide) (fun K hK => ?_)
   have hs44 : jX.cell? ⟨qn, 0, none⟩ = some (.slice none 0 0) := bc_ qh 0
   have hfs44 := blk_frozen qh.out 0
   have hns44_0 := qC.out
   have hns44_1 := qD.out
   have hms44_0 := qU.out
   have hms44_1 := qV.out
   have hs45 : jX.cell? ⟨qn, 1, none⟩ = some (.int .i64 0) := bc_ qh 1
   have hfs45 := blk_frozen qh.out 1
   have hns45_0 := qC.out
   have hns45_1 := qD.out
   have hms45_0 := qU.out
   have hms45_1 := qV.out
   have hs46 : jX.cell? ⟨qn, 2, none⟩ = some (.bool false) := bc_ qh 2
   have hfs46 := blk_frozen qh.out 2
   have hns46_0 := qC.out
   have hns46_1 := qD.out
   have hms46_0 := qU.out
   have hms46_1 := qV.out
   refine skip_ (w1 := ?_) (by rfl) rfl ?_ ?_
   rotate_left
   ·
    go_simp
    rfl
   refine hK.out _ _ ⟨((cell_far (p := ⟨qn, _, none⟩) qC.out _).trans (((cell_far (p := ⟨qn, _, none⟩) qC.out _).trans (((cell_far (p := ⟨qn, _, none⟩) qC.out _).trans (hHeld.1)))))), ((cell_far (p := ⟨qn, _, none⟩) qC.out _).trans (((cell_far (p := ⟨qn, _, none⟩) qC.out _).trans (((cell_far (p := ⟨qn, _, none⟩) qC.out _).trans (hHeld.2.1)))))), ((cell_far (p := ⟨qn, _, none⟩) qC.out _).trans (((cell_far (p := ⟨qn, _, none⟩) qC.out _).trans (((cell_far (p := ⟨qn, _, none⟩) qC.out _).trans (hHeld.2.2.1)))))), ((cell_far (p := ⟨qn, _, none⟩) qD.out _).trans (((cell_far (p := ⟨qn, _, none⟩) qD.out _).trans (((cell_far (p := ⟨qn, _, none⟩) qD.out _).trans (hHeld.2.2.2.1)))))), ((cell_far (p := ⟨qn, _, none⟩) qD.out _).trans (((cell_far (p := ⟨qn, _, none⟩) qD.out _).trans (((cell_far (p := ⟨qn, _, none⟩) qD.out _).trans (hHeld.2.2.2.2.1)))))), ((cell_far (p := ⟨qn, _, none⟩) qD.out _).trans (((cell_far (p := ⟨qn, _, none⟩) qD.out _).trans (((cell_far (p := ⟨qn, _, none⟩) qD.out _).trans (hHeld.2.2.2.2.2))))))⟩ (fun hHeld => ?_)
   clear hK K
   refine pure_ (i := 12) (N := some 11) (v := ?_) (a' := ?_) #[true, true, true, true, true, true, true, true, true, true, true, true, true] rfl rfl (any_of HT_.out (by kernel_rfl)) (fun _ _ _ h => h) (Or.inl ⟨by rfl, ?_⟩) ?_ ?_
   rotate_left
   ·
    intro w'
    go_simp
    with_reducible rfl
   rotate_left
   ·
    simp only [Act.put, List.setIfInBounds_toArray, List.set_cons_zero, List.set_cons_succ, i64_w, i32_w]
    rfl
   refine done_ (done_of HT_.out (by kernel_rfl)) ?_
   have EV := qC.out
   have EW := qU.out
   have ZY : jX.cell? ⟨qp, 0, none⟩ = some (.slice A0_0 l0_0.length c0_0) := bc_ qb 0
   have ZZ : jX.cell? ⟨qp, 1, none⟩ = some (.int .i64 a0_1) := bc_ qb 1
   have Z0 : jX.cell? ⟨qp, 2, none⟩ = some (.bool a0_2) := bc_ qb 2
   have Qe := blk_frozen qb.out 0
   have Qf := blk_frozen qb.out 1
   have Qg := blk_frozen qb.out 2
   go_upto_region 12 with (first | ((with_reducible refine gate_callee (f := 15) rfl ?_); refine goesL_ (some 42) rfl rfl Try.func15 (by kernel_rfl) rfl #[.agg #[.slice A0_0 l0_0.length c0_0, .int .i64 a0_1, .bool a0_2]] rfl (by (try simp only [List.map_toArray, List.map_cons, List.map_nil]); first | done | rfl | (simp only [List.length_drop, List.length_take]; rfl)) ?_; (with_reducible refine (laws_toAtom.calls k _ _ l0_0 a0_1 a0_2 qM q0 q2 _ ?side1 ?side2 A24.out).mono ?_); (case side1 => exact Kd.C_below z4.out (bb_ HB)); (case side2 => exact z5.out); rintro e MB ⟨I4, rfl, ho0, hb⟩; refine ⟨_, rfl, ?_⟩; have zx := Aside0.mk (Kd.R_lower (Kd.R_new' (Kd.R_new' (Kd.R_new' ho0 (Kd.R_lt (by (with_reducible repeat (first | apply Kd.R_alloc | apply Kd.R_drewN | apply Kd.R_drew)); exact (rt3_ qE qh (by decide) 0 1 2 (.slice qR qo.length qK) (.int .i64 qy) (.bool qA))))) (Kd.R_lt (by (with_reducible repeat (first | apply Kd.R_alloc | apply Kd.R_drewN | apply Kd.R_drew)); exact (rt3_ qJ qh (by decide) 0 1 2 (.slice qR qo.length qK) (.int .i64 qy) (.bool qA))))) (Kd.R_lt (by (with_reducible repeat (first | apply Kd.R_alloc | apply Kd.R_drewN | apply Kd.R_drew)); exact (rt3_ q4 qh (by decide) 0 1 2 (.slice qR qo.length qK) (.int .i64 qy) (.bool qA))))) (bz_ HB)); replace qE := Aside0.mk (Kd.R_elder' (by (with_reducible repeat (first | apply Kd.R_alloc | apply Kd.R_drewN | apply Kd.R_drew)); exact (rt3_ qE qh (by decide) 0 1 2 (.slice qR qo.length qK) (.int .i64 qy) (.bool qA))) (Kd.R_base ho0) hb); replace qJ := Aside0.mk (Kd.R_elder' (by (with_reducible repeat (first | apply Kd.R_alloc | apply Kd.R_drewN | apply Kd.R_drew)); exact (rt3_ qJ qh (by decide) 0 1 2 (.slice qR qo.length qK) (.int .i64 qy) (.bool qA))) (Kd.R_base ho0) hb); replace q4 := Aside0.mk (Kd.R_elder' (by (with_reducible repeat (first | apply Kd.R_alloc | apply Kd.R_drewN | apply Kd.R_drew)); exact (rt3_ q4 qh (by decide) 0 1 2 (.slice qR qo.length qK) (.int .i64 qy) (.bool qA))) (Kd.R_base ho0) hb); replace qb := Aside0.mk (blk_below (g := qp) (o := .cells #[.slice A0_0 l0_0.length c0_0, .int .i64 a0_1, .bool a0_2] 24 (0, 0)) (kf_ qb) hb); replace qd := Aside0.mk (blk_below (g := qq) (o := .cells #[.slice A2_0 l2_0.length c2_0, .int .i64 a2_1, .bool a2_2] 24 (0, 0)) (kf_ qd) hb); replace qh := Aside0.mk (blk_below (g := qn) (o := .cells #[.slice qR qo.length qK, .int .i64 qy, .bool qA] 26 (0, 0)) (by (with_reducible repeat (first | refine blk_drewN ?_ _ | refine blk_drew ?_ | refine blk_alloc ?_ _)); refine blk_put (cs := #[.slice qR qo.length qK, .int .i64 qy, .bool false]) ?_ 2 _ rfl; (with_reducible repeat (first | refine blk_drewN ?_ _ | refine blk_drew ?_ | refine blk_alloc ?_ _)); refine blk_put (cs := #[.slice qR qo.length qK, .int .i64 0, .bool false]) ?_ 1 _ rfl; (with_reducible repeat (first | refine blk_drewN ?_ _ | refine blk_drew ?_ | refine blk_alloc ?_ _)); refine blk_put (cs := #[.slice none 0 0, .int .i64 0, .bool false]) ?_ 0 _ rfl; (with_reducible repeat (first | refine blk_drewN ?_ _ | refine blk_drew ?_ | refine blk_alloc ?_ _)); exact qh.out) hb); replace HB := bS_ HB hb; (try clear hb); (try clear hb2); (try clear hk); (try clear hi); (try clear ho0)) | ((with_reducible refine gate_dst (N := 12) rfl ?_); refine box_event ?hg (N := 12) ?hd (cs := #[.slice none 0 0, .int .i64 0, .bool false]) (t := 26) ?hr ?_; (case hd => rfl); (case hg => rfl); (case hr => first | (go_simp; done) | (go_simp; rfl)); intro qO hg Jp hbox hb; replace qE := rB_ qE hb; replace qJ := rB_ qJ hb; replace q4 := rB_ q4 hb; replace zx := rB_ zx hb; have qi := Aside0.mk (hbox); have EX := Aside0.mk ((by rw [hg]; exact (bz_ HB) : w.heap.size ≤ qO)); have j5 := Aside0.mk ((by rw [hg]; exact (bz_ HB) : w.heap.size ≤ qO)); replace HB := bS_ HB hb; have jN := Aside0.mk ((nl_ qb hg : qp ≠ qO)); have jO := Aside0.mk ((ng_ qb hg : qO ≠ qp)); replace qb := kB_ qb hb; have jP := Aside0.mk ((nl_ qd hg : qq ≠ qO)); have jQ := Aside0.mk ((ng_ qd hg : qO ≠ qq)); replace qd := kB_ qd hb; have zA := Aside0.mk ((nl_ qh hg : qn ≠ qO)); have zB := Aside0.mk ((ng_ qh hg : qO ≠ qn)); replace qh := kB_ qh hb; clear hb hbox hg; obtain ⟨qH, qF, eo51⟩ := Kd.R_slice zx.out; subst eo51; have EY := jO.out; have EZ := jN.out; have E0 := jQ.out; have E1 := jP.out; have E2 := zB.out; have E3 := zA.out; have Z1 : Jp.cell? ⟨qO, 0, none⟩ = some (.slice none 0 0) := bc_ qi 0; have Z2 : Jp.cell? ⟨qO, 1, none⟩ = some (.int .i64 0) := bc_ qi 1; have Z3 : Jp.cell? ⟨qO, 2, none⟩ = some (.bool false) := bc_ qi 2; have Qh := blk_frozen qi.out 0; have Qi := blk_frozen qi.out 1; have Qj := blk_frozen qi.out 2; have E4 := qD.out; have E5 := qV.out; have Z4 : Jp.cell? ⟨qq, 0, none⟩ = some (.slice A2_0 l2_0.length c2_0) := bc_ qd 0; have Z5 : Jp.cell? ⟨qq, 1, none⟩ = some (.int .i64 a2_1) := bc_ qd 1; have Z6 : Jp.cell? ⟨qq, 2, none⟩ = some (.bool a2_2) := bc_ qd 2; have Qk := blk_frozen qd.out 0; have Ql := blk_frozen qd.out 1; have Qm := blk_frozen qd.out 2) | ((with_reducible refine gate_callee (f := 15) rfl ?_); refine goesL_ (some 44) rfl rfl Try.func15 (by kernel_rfl) rfl #[.agg #[.slice A2_0 l2_0.length c2_0, .int .i64 a2_1, .bool a2_2]] rfl (by (try simp only [List.map_toArray, List.map_cons, List.map_nil]); first | done | rfl | (simp only [List.length_drop, List.length_take]; rfl)) ?_; (with_reducible refine (laws_toAtom.calls k _ _ l2_0 a2_1 a2_2 qN q1 q3 _ ?side1 ?side2 A25.out).mono ?_); (case side1 => exact Kd.C_below z6.out (bb_ HB)); (case side2 => exact z7.out); rintro e MC ⟨I5, rfl, ho0, hb⟩; refine ⟨_, rfl, ?_⟩; have zK := Aside0.mk (Kd.R_lower (Kd.R_new' (Kd.R_new' (Kd.R_new' (Kd.R_new' ho0 (Kd.R_lt (by (with_reducible repeat (first | apply Kd.R_alloc | apply Kd.R_drewN | apply Kd.R_drew)); exact (rt3_ qE qi (by decide) 0 1 2 (.slice qH qM.length qF) (.int .i64 q0) (.bool q2))))) (Kd.R_lt (by (with_reducible repeat (first | apply Kd.R_alloc | apply Kd.R_drewN | apply Kd.R_drew)); exact (rt3_ qJ qi (by decide) 0 1 2 (.slice qH qM.length qF) (.int .i64 q0) (.bool q2))))) (Kd.R_lt (by (with_reducible repeat (first | apply Kd.R_alloc | apply Kd.R_drewN | apply Kd.R_drew)); exact (rt3_ q4 qi (by decide) 0 1 2 (.slice qH qM.length qF) (.int .i64 q0) (.bool q2))))) (Kd.R_lt (by (with_reducible repeat (first | apply Kd.R_alloc | apply Kd.R_drewN | apply Kd.R_drew)); exact (rt3_ zx qi (by decide) 0 1 2 (.slice qH qM.length qF) (.int .i64 q0) (.bool q2))))) (bz_ HB)); replace qE := Aside0.mk (Kd.R_elder' (by (with_reducible repeat (first | apply Kd.R_alloc | apply Kd.R_drewN | apply Kd.R_drew)); exact (rt3_ qE qi (by decide) 0 1 2 (.slice qH qM.length qF) (.int .i64 q0) (.bool q2))) (Kd.R_base ho0) hb); replace qJ := Aside0.mk (Kd.R_elder' (by (with_reducible repeat (first | apply Kd.R_alloc | apply Kd.R_drewN | apply Kd.R_drew)); exact (rt3_ qJ qi (by decide) 0 1 2 (.slice qH qM.length qF) (.int .i64 q0) (.bool q2))) (Kd.R_base ho0) hb); replace q4 := Aside0.mk (Kd.R_elder' (by (with_reducible repeat (first | apply Kd.R_alloc | apply Kd.R_drewN | apply Kd.R_drew)); exact (rt3_ q4 qi (by decide) 0 1 2 (.slice qH qM.length qF) (.int .i64 q0) (.bool q2))) (Kd.R_base ho0) hb); replace zx := Aside0.mk (Kd.R_elder' (by (with_reducible repeat (first | apply Kd.R_alloc | apply Kd.R_drewN | apply Kd.R_drew)); exact (rt3_ zx qi (by decide) 0 1 2 (.slice qH qM.length qF) (.int .i64 q0) (.bool q2))) (Kd.R_base ho0) hb); replace qb := Aside0.mk (blk_below (g := qp) (o := .cells #[.slice A0_0 l0_0.length c0_0, .int .i64 a0_1, .bool a0_2] 24 (0, 0)) (kf_ qb) hb); replace qd := Aside0.mk (blk_below (g := qq) (o := .cells #[.slice A2_0 l2_0.length c2_0, .int .i64 a2_1, .bool a2_2] 24 (0, 0)) (kf_ qd) hb); replace qh := Aside0.mk (blk_below (g := qn) (o := .cells #[.slice qR qo.length qK, .int .i64 qy, .bool qA] 26 (0, 0)) (kf_ qh) hb); replace qi := Aside0.mk (blk_below (g := qO) (o := .cells #[.slice qH qM.length qF, .int .i64 q0, .bool q2] 26 (0, 0)) (by (with_reducible repeat (first | refine blk_drewN ?_ _ | refine blk_drew ?_ | refine blk_alloc ?_ _)); refine blk_put (cs := #[.slice qH qM.length qF, .int .i64 q0, .bool false]) ?_ 2 _ rfl; (with_reducible repeat (first | refine blk_drewN ?_ _ | refine blk_drew ?_ | refine blk_alloc ?_ _)); refine blk_put (cs := #[.slice qH qM.length qF, .int .i64 0, .bool false]) ?_ 1 _ rfl; (with_reducible repeat (first | refine blk_drewN ?_ _ | refine blk_drew ?_ | refine blk_alloc ?_ _)); refine blk_put (cs := #[.slice none 0 0, .int .i64 0, .bool false]) ?_ 0 _ rfl; (with_reducible repeat (first | refine blk_drewN ?_ _ | refine blk_drew ?_ | refine blk_alloc ?_ _)); exact qi.out) hb); replace HB := bS_ HB hb; (try clear hb); (try clear hb2); (try clear hk); (try clear hi); (try clear ho0)) | ((with_reducible refine gate_dst (N := 13) rfl ?_); refine box_event ?hg (N := 13) ?hd (cs := #[.slice none 0 0, .int .i64 0, .bool false]) (t := 26) ?hr ?_; (case hd => rfl); (case hg => rfl); (case hr => first | (go_simp; done) | (go_simp; rfl)); intro qT hg Jq hbox hb; replace qE := rB_ qE hb; replace qJ := rB_ qJ hb; replace q4 := rB_ q4 hb; replace zx := rB_ zx hb; replace zK := rB_ zK hb; have qj := Aside0.mk (hbox); have E6 := Aside0.mk ((by rw [hg]; exact (bz_ HB) : w.heap.size ≤ qT)); have j6 := Aside0.mk ((by rw [hg]; exact (bz_ HB) : w.heap.size ≤ qT)); replace HB := bS_ HB hb; have jR := Aside0.mk ((nl_ qb hg : qp ≠ qT)); have jS := Aside0.mk ((ng_ qb hg : qT ≠ qp)); replace qb := kB_ qb hb; have jT := Aside0.mk ((nl_ qd hg : qq ≠ qT)); have jU := Aside0.mk ((ng_ qd hg : qT ≠ qq)); replace qd := kB_ qd hb; have zC := Aside0.mk ((nl_ qh hg : qn ≠ qT)); have zD := Aside0.mk ((ng_ qh hg : qT ≠ qn)); replace qh := kB_ qh hb; have jV := Aside0.mk ((nl_ qi hg : qO ≠ qT)); have jW := Aside0.mk ((ng_ qi hg : qT ≠ qO)); replace qi := kB_ qi hb; clear hb hbox hg; obtain ⟨qI, qG, eo60⟩ := Kd.R_slice zK.out; subst eo60; have E7 := jS.out; have E8 := jR.out; have E9 := jU.out; have Ia := jT.out; have Ib := zD.out; have Ic := zC.out; have Id := jW.out; have Ie := jV.out; have Z7 : Jq.cell? ⟨qT, 0, none⟩ = some (.slice none 0 0) := bc_ qj 0; have Qn : Jq.cell? ⟨qT, 1, none⟩ = some (.int .i64 0) := bc_ qj 1; have Qo : Jq.cell? ⟨qT, 2, none⟩ = some (.bool false) := bc_ qj 2; have Qp := blk_frozen qj.out 0; have Qq := blk_frozen qj.out 1; have Qr := blk_frozen qj.out 2; have Qs : Jq.cell? ⟨qO, 0, none⟩ = some (.slice qH qM.length qF) := bc_ qi 0; have Qt : Jq.cell? ⟨qO, 1, none⟩ = some (.int .i64 q0) := bc_ qi 1; have Qu : Jq.cell? ⟨qO, 2, none⟩ = some (.bool q2) := bc_ qi 2; have Qv := blk_frozen qi.out 0; have Qw := blk_frozen qi.out 1; have Qx := blk_frozen qi.out 2) | ((with_reducible refine gate_callee (f := 31) rfl ?_); refine goesL_ (some 50) rfl rfl Try.func31 (by kernel_rfl) rfl #[.agg #[.slice qH qM.length qF, .int .i64 q0, .bool q2], .int .i64 a1, .agg #[.slice qI qN.length qG, .int .i64 q1, .bool q3], .int .i64 a3] rfl (by (try simp only [List.map_toArray, List.map_cons, List.map_nil]); first | done | rfl | (simp only [List.length_drop, List.length_take]; rfl)) ?_; (with_reducible refine (impl_MixAtoms.calls k _ _ qM q0 q2 a1 _ _ qN q1 q3 a3 ql qr qs zL _ ?side1 ?side2 ?side3 ?side4 A26.out).mono ?_); (case side1 => refine (Kd.R_reads' (e := 3) (base := w.heap.size) (ok := fun k_ => ((((True ∧ some k_ ≠ (jG : Value).ownBlock) ∧ some k_ ≠ (jA : Value).ownBlock) ∧ some k_ ≠ (.slice qR qo.length qK : Value).ownBlock) ∧ some k_ ≠ (.slice qI qN.length qG : Value).ownBlock)) (n := qM.length) (c := qF) ?_).2.2; exact (by (with_reducible repeat (first | apply Kd.R_alloc | apply Kd.R_drewN | apply Kd.R_drew)); exact (rt3_ zx qj (by decide) 0 1 2 (.slice qI qN.length qG) (.int .i64 q1) (.bool q3)))); (case side2 => exact (Kd.R_reads' zx.out).2.1); (case side3 => refine (Kd.R_reads' (e := 3) (base := w.heap.size) (ok := fun k_ => ((((True ∧ some k_ ≠ (jG : Value).ownBlock) ∧ some k_ ≠ (jA : Value).ownBlock) ∧ some k_ ≠ (.slice qR qo.length qK : Value).ownBlock) ∧ some k_ ≠ (.slice qH qM.length qF : Value).ownBlock)) (n := qN.length) (c := qG) ?_).2.2; exact (by (with_reducible repeat (first | apply Kd.R_alloc | apply Kd.R_drewN | apply Kd.R_drew)); exact (rt3_ zK qj (by decide) 0 1 2 (.slice qI qN.length qG) (.int .i64 q1) (.bool q3)))); (case side4 => exact (Kd.R_reads' zK.out).2.1); rintro e MD ⟨I6, rfl, ho0, hb⟩; refine ⟨_, rfl, ?_⟩; have zW := Aside0.mk (Kd.R_lower (Kd.R_new' (Kd.R_new' (Kd.R_new' (Kd.R_new' (Kd.R_new' ho0 (Kd.R_lt (by (with_reducible repeat (first | apply Kd.R_alloc | apply Kd.R_drewN | apply Kd.R_drew)); exact (rt3_ qE qj (by decide) 0 1 2 (.slice qI qN.length qG) (.int .i64 q1) (.bool q3))))) (Kd.R_lt (by (with_reducible repeat (first | apply Kd.R_alloc | apply Kd.R_drewN | apply Kd.R_drew)); exact (rt3_ qJ qj (by decide) 0 1 2 (.slice qI qN.length qG) (.int .i64 q1) (.bool q3))))) (Kd.R_lt (by (with_reducible repeat (first | apply Kd.R_alloc | apply Kd.R_drewN | apply Kd.R_drew)); exact (rt3_ q4 qj (by decide) 0 1 2 (.slice qI qN.length qG) (.int .i64 q1) (.bool q3))))) (Kd.R_lt (by (with_reducible repeat (first | apply Kd.R_alloc | apply Kd.R_drewN | apply Kd.R_drew)); exact (rt3_ zx qj (by decide) 0 1 2 (.slice qI qN.length qG) (.int .i64 q1) (.bool q3))))) (Kd.R_lt (by (with_reducible repeat (first | apply Kd.R_alloc | apply Kd.R_drewN | apply Kd.R_drew)); exact (rt3_ zK qj (by decide) 0 1 2 (.slice qI qN.length qG) (.int .i64 q1) (.bool q3))))) (bz_ HB)); replace qE := Aside0.mk (Kd.R_elder' (by (with_reducible repeat (first | apply Kd.R_alloc | apply Kd.R_drewN | apply Kd.R_drew)); exact (rt3_ qE qj (by decide) 0 1 2 (.slice qI qN.length qG) (.int .i64 q1) (.bool q3))) (Kd.R_base ho0) hb); replace qJ := Aside0.mk (Kd.R_elder' (by (with_reducible repeat (first | apply Kd.R_alloc | apply Kd.R_drewN | apply Kd.R_drew)); exact (rt3_ qJ qj (by decide) 0 1 2 (.slice qI qN.length qG) (.int .i64 q1) (.bool q3))) (Kd.R_base ho0) hb); replace q4 := Aside0.mk (Kd.R_elder' (by (with_reducible repeat (first | apply Kd.R_alloc | apply Kd.R_drewN | apply Kd.R_drew)); exact (rt3_ q4 qj (by decide) 0 1 2 (.slice qI qN.length qG) (.int .i64 q1) (.bool q3))) (Kd.R_base ho0) hb); replace zx := Aside0.mk (Kd.R_elder' (by (with_reducible repeat (first | apply Kd.R_alloc | apply Kd.R_drewN | apply Kd.R_drew)); exact (rt3_ zx qj (by decide) 0 1 2 (.slice qI qN.length qG) (.int .i64 q1) (.bool q3))) (Kd.R_base ho0) hb); replace zK := Aside0.mk (Kd.R_elder' (by (with_reducible repeat (first | apply Kd.R_alloc | apply Kd.R_drewN | apply Kd.R_drew)); exact (rt3_ zK qj (by decide) 0 1 2 (.slice qI qN.length qG) (.int .i64 q1) (.bool q3))) (Kd.R_base ho0) hb); replace qb := Aside0.mk (blk_below (g := qp) (o := .cells #[.slice A0_0 l0_0.length c0_0, .int .i64 a0_1, .bool a0_2] 24 (0, 0)) (kf_ qb) hb); replace qd := Aside0.mk (blk_below (g := qq) (o := .cells #[.slice A2_0 l2_0.length c2_0, .int .i64 a2_1, .bool a2_2] 24 (0, 0)) (kf_ qd) hb); replace qh := Aside0.mk (blk_below (g := qn) (o := .cells #[.slice qR qo.length qK, .int .i64 qy, .bool qA] 26 (0, 0)) (kf_ qh) hb); replace qi := Aside0.mk (blk_below (g := qO) (o := .cells #[.slice qH qM.length qF, .int .i64 q0, .bool q2] 26 (0, 0)) (kf_ qi) hb); replace qj := Aside0.mk (blk_below (g := qT) (o := .cells #[.slice qI qN.length qG, .int .i64 q1, .bool q3] 26 (0, 0)) (by (with_reducible repeat (first | refine blk_drewN ?_ _ | refine blk_drew ?_ | refine blk_alloc ?_ _)); refine blk_put (cs := #[.slice qI qN.length qG, .int .i64 q1, .bool false]) ?_ 2 _ rfl; (with_reducible repeat (first | refine blk_drewN ?_ _ | refine blk_drew ?_ | refine blk_alloc ?_ _)); refine blk_put (cs := #[.slice qI qN.length qG, .int .i64 0, .bool false]) ?_ 1 _ rfl; (with_reducible repeat (first | refine blk_drewN ?_ _ | refine blk_drew ?_ | refine blk_alloc ?_ _)); refine blk_put (cs := #[.slice none 0 0, .int .i64 0, .bool false]) ?_ 0 _ rfl; (with_reducible repeat (first | refine blk_drewN ?_ _ | refine blk_drew ?_ | refine blk_alloc ?_ _)); exact qj.out) hb); replace HB := bS_ HB hb; (try clear hb); (try clear hb2); (try clear hk); (try clear hi); (try clear ho0)) | ((with_reducible refine gate_dst (N := 14) rfl ?_); refine box_event ?hg (N := 14) ?hd (cs := #[.slice none 0 0, .int .i64 0, .bool false]) (t := 26) ?hr ?_; (case hd => rfl); (case hg => rfl); (case hr => first | (go_simp; done) | (go_simp; rfl)); intro qv hg Qb hbox hb; replace qE := rB_ qE hb; replace qJ := rB_ qJ hb; replace q4 := rB_ q4 hb; replace zx := rB_ zx hb; replace zK := rB_ zK hb; replace zW := rB_ zW hb; have qg := Aside0.mk (hbox); have If := Aside0.mk ((by rw [hg]; exact (bz_ HB) : w.heap.size ≤ qv)); have j7 := Aside0.mk ((by rw [hg]; exact (bz_ HB) : w.heap.size ≤ qv)); replace HB := bS_ HB hb; have zo := Aside0.mk ((nl_ qb hg : qp ≠ qv)); have zp := Aside0.mk ((ng_ qb hg : qv ≠ qp)); replace qb := kB_ qb hb; have zq := Aside0.mk ((nl_ qd hg : qq ≠ qv)); have zr := Aside0.mk ((ng_ qd hg : qv ≠ qq)); replace qd := kB_ qd hb; have q7 := Aside0.mk ((nl_ qh hg : qn ≠ qv)); have q8 := Aside0.mk ((ng_ qh hg : qv ≠ qn)); replace qh := kB_ qh hb; have zi := Aside0.mk ((nl_ qi hg : qO ≠ qv)); have zj := Aside0.mk ((ng_ qi hg : qv ≠ qO)); replace qi := kB_ qi hb; have zk := Aside0.mk ((nl_ qj hg : qT ≠ qv)); have zl := Aside0.mk ((ng_ qj hg : qv ≠ qT)); replace qj := kB_ qj hb; clear hb hbox hg; obtain ⟨qx, qw, eo69⟩ := Kd.R_slice zW.out; subst eo69; have Ig := zp.out; have Ih := zo.out; have Ii := zr.out; have Ij := zq.out; have Ik := q8.out; have Il := q7.out; have Im := zj.out; have In := zi.out; have Io := zl.out; have Ip := zk.out; have Qy : Qb.cell? ⟨qv, 0, none⟩ = some (.slice none 0 0) := bc_ qg 0; have Qz : Qb.cell? ⟨qv, 1, none⟩ = some (.int .i64 0) := bc_ qg 1; have QA : Qb.cell? ⟨qv, 2, none⟩ = some (.bool false) := bc_ qg 2; have QB := blk_frozen qg.out 0; have QC := blk_frozen qg.out 1; have QD := blk_frozen qg.out 2))
   (try simp only [Act.put, List.setIfInBounds_toArray, List.set_cons_zero, List.set_cons_succ])
   go_cut [61] (fun v61 wc => ∃ (kq : Nat) (jY : Bool), v61 = .bool jY ∧ Aside0 (laws_FnExactMixAtoms.j0 kq a1 a3 qL zL jY l0_0 a0_1 a0_2 l2_0 a2_1 a2_2 qo qy qA qM q0 q2 qN q1 q3 ql qr qs = some r) ∧ Aside0 (kq ≤ k) ∧ Aside0 (Kd.R (Kd.int .i64) 3 wc w.heap.size (fun k_ => some k_ ≠ ((.slice qH qM.length qF) : Value).ownBlock ∧ some k_ ≠ ((.slice qI qN.length qG) : Value).ownBlock ∧ some k_ ≠ ((.slice qx ql.length qw) : Value).ownBlock) (.slice qR qo.length qK) qo) ∧ Aside0 (Kd.R (Kd.int .i64) 3 wc w.heap.size (fun k_ => some k_ ≠ ((.slice qR qo.length qK) : Value).ownBlock ∧ some k_ ≠ ((.slice qI qN.length qG) : Value).ownBlock ∧ some k_ ≠ ((.slice qx ql.length qw) : Value).ownBlock) (.slice qH qM.length qF) qM) ∧ Aside0 (Kd.R (Kd.int .i64) 3 wc w.heap.size (fun k_ => some k_ ≠ ((.slice qR qo.length qK) : Value).ownBlock ∧ some k_ ≠ ((.slice qH qM.length qF) : Value).ownBlock ∧ some k_ ≠ ((.slice qx ql.length qw) : Value).ownBlock) (.slice qI qN.length qG) qN) ∧ Aside0 (Kd.R (Kd.int .i64) 3 wc w.heap.size (fun k_ => some k_ ≠ ((.slice qR qo.length qK) : Value).ownBlock ∧ some k_ ≠ ((.slice qH qM.length qF) : Value).ownBlock ∧ some k_ ≠ ((.slice qI qN.length qG) : Value).ownBlock) (.slice qx ql.length qw) ql) ∧ Aside0 (wc.heap[qp]? = some (.cells #[(.slice A0_0 l0_0.length c0_0), .int .i64 a0_1, .bool a0_2] 24 (0, 0))) ∧ Aside0 (wc.heap[qq]? = some (.cells #[(.slice A2_0 l2_0.length c2_0), .int .i64 a2_1, .bool a2_2] 24 (0, 0))) ∧ Aside0 (wc.heap[qn]? = some (.cells #[(.slice qR qo.length qK), .int .i64 qy, .bool qA] 26 (0, 0))) ∧ Aside0 (wc.heap[qO]? = some (.cells #[(.slice qH qM.length qF), .int .i64 q0, .bool q2] 26 (0, 0))) ∧ Aside0 (wc.heap[qT]? = some (.cells #[(.slice qI qN.length qG), .int .i64 q1, .bool q3] 26 (0, 0))) ∧ Aside0 (wc.heap[qv]? = some (.cells #[(.slice qx ql.length qw), .int .i64 qr, .bool qs] 26 (0, 0))) ∧ Aside0 (Below w.heap.size w wc))
   case first =>
    have H := HC27.out
    clear HC27
    replace H := Option.bind_eq_some_iff.mp H
    obtain ⟨zR, A760, H⟩ := H
    replace H : (if zR = true then (laws_FnExactMixAtoms.j0 k a1 a3 qL zL (zL != qL) l0_0 a0_1 a0_2 l2_0 a2_1 a2_2 qo qy qA qM q0 q2 qN q1 q3 ql qr qs) else (laws_FnExactMixAtoms.j0 k a1 a3 qL zL true l0_0 a0_1 a0_2 l2_0 a2_1 a2_2 qo qy qA qM q0 q2 qN q1 q3 ql qr qs)) = some r := H
    have A76 := Aside0.mk A760
    clear A760
    by_cases c77 : zR = true
    ·
     subst c77
     have H1 : (laws_FnExactMixAtoms.j0 k a1 a3 qL zL (zL != qL) l0_0 a0_1 a0_2 l2_0 a2_1 a2_2 qo qy qA qM q0 q2 qN q1 q3 ql qr qs) = some r := by rw [if_pos rfl] at H; exact H
     clear H
     have H := H1
     clear H1
     have H' := Aside0.mk H
     clear H
     have Iq := zp.out
     have Ir := zo.out
     have Is := zr.out
     have It := zq.out
     have Iu := q8.out
     have Iv := q7.out
     have Iw := zj.out
     have Ix := zi.out
     have Iy := zl.out
     have Iz := zk.out
     have QE : Qb.cell? ⟨qv, 0, none⟩ = some (.slice none 0 0) := bc_ qg 0
     have QF : Qb.cell? ⟨qv, 1, none⟩ = some (.int .i64 0) := bc_ qg 1
     have QG : Qb.cell? ⟨qv, 2, none⟩ = some (.bool false) := bc_ qg 2
     have QH := blk_frozen qg.out 0
     have QI := blk_frozen qg.out 1
     have QJ := blk_frozen qg.out 2
     have IA := qU.out
     have IB := qC.out
     have IC := qV.out
     have ID := qD.out
     have IE := zA.out
     have IF := zB.out
     have IG := zC.out
     have IH := zD.out
     have QK : Qb.cell? ⟨qn, 0, none⟩ = some (.slice qR qo.length qK) := bc_ qh 0
     have QL : Qb.cell? ⟨qn, 1, none⟩ = some (.int .i64 qy) := bc_ qh 1
     have QM : Qb.cell? ⟨qn, 2, none⟩ = some (.bool qA) := bc_ qh 2
     have QN := blk_frozen qh.out 0
     have QO := blk_frozen qh.out 1
     have QP := blk_frozen qh.out 2
     go_wp2_with (first | ((with_reducible refine gate_callee (f := 17) rfl ?_); refine goesL_ (some 55) rfl rfl Try.func17 (by kernel_rfl) rfl #[.agg #[.slice qx ql.length qw, .int .i64 qr, .bool qs], .agg #[.slice qR qo.length qK, .int .i64 qy, .bool qA]] rfl (by (try simp only [List.map_toArray, List.map_cons, List.map_nil]); first | done | rfl | (simp only [List.length_drop, List.length_take]; rfl)) ?_; (with_reducible refine (laws_eqAtom.calls k _ _ ql qr qs _ _ qo qy qA true _ ?side1 ?side2 ?side3 ?side4 A76.out).mono ?_); (case side1 => refine (Kd.R_reads' (e := 3) (base := w.heap.size) (ok := fun k_ => (((((True ∧ some k_ ≠ (jG : Value).ownBlock) ∧ some k_ ≠ (jA : Value).ownBlock) ∧ some k_ ≠ (.slice qR qo.length qK : Value).ownBlock) ∧ some k_ ≠ (.slice qH qM.length qF : Value).ownBlock) ∧ some k_ ≠ (.slice qI qN.length qG : Value).ownBlock)) (n := ql.length) (c := qw) ?_).2.2; exact (by (with_reducible repeat (first | apply Kd.R_alloc | apply Kd.R_drewN | apply Kd.R_drew)); exact (rt3_ zW qg (by decide) 0 1 2 (.slice qx ql.length qw) (.int .i64 qr) (.bool qs)))); (case side2 => exact (Kd.R_reads' zW.out).2.1); (case side3 => refine (Kd.R_reads' (e := 3) (base := w.heap.size) (ok := fun k_ => ((((some k_ ≠ (jG : Value).ownBlock ∧ some k_ ≠ (jA : Value).ownBlock) ∧ some k_ ≠ (.slice qH qM.length qF : Value).ownBlock) ∧ some k_ ≠ (.slice qI qN.length qG : Value).ownBlock) ∧ some k_ ≠ (.slice qx ql.length qw : Value).ownBlock)) (n := qo.length) (c := qK) ?_).2.2; exact (by (with_reducible repeat (first | apply Kd.R_alloc | apply Kd.R_drewN | apply Kd.R_drew)); exact (rt3_ q4 qg (by decide) 0 1 2 (.slice qx ql.length qw) (.int .i64 qr) (.bool qs)))); (case side4 => exact (Kd.R_reads' q4.out).2.1); rintro e ME ⟨rfl, hb⟩; refine ⟨_, rfl, ?_⟩; replace qE := Aside0.mk (Kd.R_below (by (with_reducible repeat (first | apply Kd.R_alloc | apply Kd.R_drewN | apply Kd.R_drew)); exact (rt3_ qE qg (by decide) 0 1 2 (.slice qx ql.length qw) (.int .i64 qr) (.bool qs))) hb); replace qJ := Aside0.mk (Kd.R_below (by (with_reducible repeat (first | apply Kd.R_alloc | apply Kd.R_drewN | apply Kd.R_drew)); exact (rt3_ qJ qg (by decide) 0 1 2 (.slice qx ql.length qw) (.int .i64 qr) (.bool qs))) hb); replace q4 := Aside0.mk (Kd.R_below (by (with_reducible repeat (first | apply Kd.R_alloc | apply Kd.R_drewN | apply Kd.R_drew)); exact (rt3_ q4 qg (by decide) 0 1 2 (.slice qx ql.length qw) (.int .i64 qr) (.bool qs))) hb); replace zx := Aside0.mk (Kd.R_below (by (with_reducible repeat (first | apply Kd.R_alloc | apply Kd.R_drewN | apply Kd.R_drew)); exact (rt3_ zx qg (by decide) 0 1 2 (.slice qx ql.length qw) (.int .i64 qr) (.bool qs))) hb); replace zK := Aside0.mk (Kd.R_below (by (with_reducible repeat (first | apply Kd.R_alloc | apply Kd.R_drewN | apply Kd.R_drew)); exact (rt3_ zK qg (by decide) 0 1 2 (.slice qx ql.length qw) (.int .i64 qr) (.bool qs))) hb); replace zW := Aside0.mk (Kd.R_below (by (with_reducible repeat (first | apply Kd.R_alloc | apply Kd.R_drewN | apply Kd.R_drew)); exact (rt3_ zW qg (by decide) 0 1 2 (.slice qx ql.length qw) (.int .i64 qr) (.bool qs))) hb); replace qb := Aside0.mk (blk_below (g := qp) (o := .cells #[.slice A0_0 l0_0.length c0_0, .int .i64 a0_1, .bool a0_2] 24 (0, 0)) (kf_ qb) hb); replace qd := Aside0.mk (blk_below (g := qq) (o := .cells #[.slice A2_0 l2_0.length c2_0, .int .i64 a2_1, .bool a2_2] 24 (0, 0)) (kf_ qd) hb); replace qh := Aside0.mk (blk_below (g := qn) (o := .cells #[.slice qR qo.length qK, .int .i64 qy, .bool qA] 26 (0, 0)) (kf_ qh) hb); replace qi := Aside0.mk (blk_below (g := qO) (o := .cells #[.slice qH qM.length qF, .int .i64 q0, .bool q2] 26 (0, 0)) (kf_ qi) hb); replace qj := Aside0.mk (blk_below (g := qT) (o := .cells #[.slice qI qN.length qG, .int .i64 q1, .bool q3] 26 (0, 0)) (kf_ qj) hb); replace qg := Aside0.mk (blk_below (g := qv) (o := .cells #[.slice qx ql.length qw, .int .i64 qr, .bool qs] 26 (0, 0)) (by (with_reducible repeat (first | refine blk_drewN ?_ _ | refine blk_drew ?_ | refine blk_alloc ?_ _)); refine blk_put (cs := #[.slice qx ql.length qw, .int .i64 qr, .bool false]) ?_ 2 _ rfl; (with_reducible repeat (first | refine blk_drewN ?_ _ | refine blk_drew ?_ | refine blk_alloc ?_ _)); refine blk_put (cs := #[.slice qx ql.length qw, .int .i64 0, .bool false]) ?_ 1 _ rfl; (with_reducible repeat (first | refine blk_drewN ?_ _ | refine blk_drew ?_ | refine blk_alloc ?_ _)); refine blk_put (cs := #[.slice none 0 0, .int .i64 0, .bool false]) ?_ 0 _ rfl; (with_reducible repeat (first | refine blk_drewN ?_ _ | refine blk_drew ?_ | refine blk_alloc ?_ _)); exact qg.out) hb); replace HB := bS_ HB hb; (try clear hb); (try clear hb2); (try clear hk); (try clear hi)))
     go_meet
     case rel => exact ⟨_, ((zL != qL)), (by first | rfl | (simp; done) | (simp [*]; done)), H', ⟨by first | omega | exact Nat.le_refl _⟩, ⟨by (with_reducible repeat (first | apply Kd.R_alloc | apply Kd.R_drewN | apply Kd.R_drew)); exact Kd.R_mono q4.out (fun _ hk => ⟨hk.1.1.2, ⟨hk.1.2, hk.2⟩⟩)⟩, ⟨by (with_reducible repeat (first | apply Kd.R_alloc | apply Kd.R_drewN | apply Kd.R_drew)); exact Kd.R_mono zx.out (fun _ hk => ⟨hk.1.1.2, ⟨hk.1.2, hk.2⟩⟩)⟩, ⟨by (with_reducible repeat (first | apply Kd.R_alloc | apply Kd.R_drewN | apply Kd.R_drew)); exact Kd.R_mono zK.out (fun _ hk => ⟨hk.1.1.2, ⟨hk.1.2, hk.2⟩⟩)⟩, ⟨by (with_reducible repeat (first | apply Kd.R_alloc | apply Kd.R_drewN | apply Kd.R_drew)); exact Kd.R_mono zW.out (fun _ hk => ⟨hk.1.1.2, ⟨hk.1.2, hk.2⟩⟩)⟩, ⟨kf_ qb⟩, ⟨kf_ qd⟩, ⟨kf_ qh⟩, ⟨kf_ qi⟩, ⟨kf_ qj⟩, ⟨kf_ qg⟩, ⟨bb_ HB⟩⟩
    ·
     replace c77 := Bool.eq_false_iff.mpr c77
     subst c77
     have H1 : (laws_FnExactMixAtoms.j0 k a1 a3 qL zL true l0_0 a0_1 a0_2 l2_0 a2_1 a2_2 qo qy qA qM q0 q2 qN q1 q3 ql qr qs) = some r := by rw [if_neg (show ¬ (false = true) by decide)] at H; exact H
     clear H
     have H := H1
     clear H1
     have H' := Aside0.mk H
     clear H
     have II := zp.out
     have IJ := zo.out
     have IK := zr.out
     have IL := zq.out
     have IM := q8.out
     have IN := q7.out
     have IO := zj.out
     have IP := zi.out
     have IQ := zl.out
     have IR := zk.out
     have QQ : Qb.cell? ⟨qv, 0, none⟩ = some (.slice none 0 0) := bc_ qg 0
     have QR : Qb.cell? ⟨qv, 1, none⟩ = some (.int .i64 0) := bc_ qg 1
     have QS : Qb.cell? ⟨qv, 2, none⟩ = some (.bool false) := bc_ qg 2
     have QT := blk_frozen qg.out 0
     have QU := blk_frozen qg.out 1
     have QV := blk_frozen qg.out 2
     have IS := qU.out
     have IT := qC.out
     have IU := qV.out
     have IV := qD.out
     have IW := zA.out
     have IX := zB.out
     have IY := zC.out
     have IZ := zD.out
     have QW : Qb.cell? ⟨qn, 0, none⟩ = some (.slice qR qo.length qK) := bc_ qh 0
     have QX : Qb.cell? ⟨qn, 1, none⟩ = some (.int .i64 qy) := bc_ qh 1
     have QY : Qb.cell? ⟨qn, 2, none⟩ = some (.bool qA) := bc_ qh 2
     have j8 := blk_frozen qh.out 0
     have j9 := blk_frozen qh.out 1
     have Qa := blk_frozen qh.out 2
     go_wp2_with (first | ((with_reducible refine gate_callee (f := 17) rfl ?_); refine goesL_ (some 55) rfl rfl Try.func17 (by kernel_rfl) rfl #[.agg #[.slice qx ql.length qw, .int .i64 qr, .bool qs], .agg #[.slice qR qo.length qK, .int .i64 qy, .bool qA]] rfl (by (try simp only [List.map_toArray, List.map_cons, List.map_nil]); first | done | rfl | (simp only [List.length_drop, List.length_take]; rfl)) ?_; (with_reducible refine (laws_eqAtom.calls k _ _ ql qr qs _ _ qo qy qA false _ ?side1 ?side2 ?side3 ?side4 A76.out).mono ?_); (case side1 => refine (Kd.R_reads' (e := 3) (base := w.heap.size) (ok := fun k_ => (((((True ∧ some k_ ≠ (jG : Value).ownBlock) ∧ some k_ ≠ (jA : Value).ownBlock) ∧ some k_ ≠ (.slice qR qo.length qK : Value).ownBlock) ∧ some k_ ≠ (.slice qH qM.length qF : Value).ownBlock) ∧ some k_ ≠ (.slice qI qN.length qG : Value).ownBlock)) (n := ql.length) (c := qw) ?_).2.2; exact (by (with_reducible repeat (first | apply Kd.R_alloc | apply Kd.R_drewN | apply Kd.R_drew)); exact (rt3_ zW qg (by decide) 0 1 2 (.slice qx ql.length qw) (.int .i64 qr) (.bool qs)))); (case side2 => exact (Kd.R_reads' zW.out).2.1); (case side3 => refine (Kd.R_reads' (e := 3) (base := w.heap.size) (ok := fun k_ => ((((some k_ ≠ (jG : Value).ownBlock ∧ some k_ ≠ (jA : Value).ownBlock) ∧ some k_ ≠ (.slice qH qM.length qF : Value).ownBlock) ∧ some k_ ≠ (.slice qI qN.length qG : Value).ownBlock) ∧ some k_ ≠ (.slice qx ql.length qw : Value).ownBlock)) (n := qo.length) (c := qK) ?_).2.2; exact (by (with_reducible repeat (first | apply Kd.R_alloc | apply Kd.R_drewN | apply Kd.R_drew)); exact (rt3_ q4 qg (by decide) 0 1 2 (.slice qx ql.length qw) (.int .i64 qr) (.bool qs)))); (case side4 => exact (Kd.R_reads' q4.out).2.1); rintro e I7 ⟨rfl, hb⟩; refine ⟨_, rfl, ?_⟩; replace qE := Aside0.mk (Kd.R_below (by (with_reducible repeat (first | apply Kd.R_alloc | apply Kd.R_drewN | apply Kd.R_drew)); exact (rt3_ qE qg (by decide) 0 1 2 (.slice qx ql.length qw) (.int .i64 qr) (.bool qs))) hb); replace qJ := Aside0.mk (Kd.R_below (by (with_reducible repeat (first | apply Kd.R_alloc | apply Kd.R_drewN | apply Kd.R_drew)); exact (rt3_ qJ qg (by decide) 0 1 2 (.slice qx ql.length qw) (.int .i64 qr) (.bool qs))) hb); replace q4 := Aside0.mk (Kd.R_below (by (with_reducible repeat (first | apply Kd.R_alloc | apply Kd.R_drewN | apply Kd.R_drew)); exact (rt3_ q4 qg (by decide) 0 1 2 (.slice qx ql.length qw) (.int .i64 qr) (.bool qs))) hb); replace zx := Aside0.mk (Kd.R_below (by (with_reducible repeat (first | apply Kd.R_alloc | apply Kd.R_drewN | apply Kd.R_drew)); exact (rt3_ zx qg (by decide) 0 1 2 (.slice qx ql.length qw) (.int .i64 qr) (.bool qs))) hb); replace zK := Aside0.mk (Kd.R_below (by (with_reducible repeat (first | apply Kd.R_alloc | apply Kd.R_drewN | apply Kd.R_drew)); exact (rt3_ zK qg (by decide) 0 1 2 (.slice qx ql.length qw) (.int .i64 qr) (.bool qs))) hb); replace zW := Aside0.mk (Kd.R_below (by (with_reducible repeat (first | apply Kd.R_alloc | apply Kd.R_drewN | apply Kd.R_drew)); exact (rt3_ zW qg (by decide) 0 1 2 (.slice qx ql.length qw) (.int .i64 qr) (.bool qs))) hb); replace qb := Aside0.mk (blk_below (g := qp) (o := .cells #[.slice A0_0 l0_0.length c0_0, .int .i64 a0_1, .bool a0_2] 24 (0, 0)) (kf_ qb) hb); replace qd := Aside0.mk (blk_below (g := qq) (o := .cells #[.slice A2_0 l2_0.length c2_0, .int .i64 a2_1, .bool a2_2] 24 (0, 0)) (kf_ qd) hb); replace qh := Aside0.mk (blk_below (g := qn) (o := .cells #[.slice qR qo.length qK, .int .i64 qy, .bool qA] 26 (0, 0)) (kf_ qh) hb); replace qi := Aside0.mk (blk_below (g := qO) (o := .cells #[.slice qH qM.length qF, .int .i64 q0, .bool q2] 26 (0, 0)) (kf_ qi) hb); replace qj := Aside0.mk (blk_below (g := qT) (o := .cells #[.slice qI qN.length qG, .int .i64 q1, .bool q3] 26 (0, 0)) (kf_ qj) hb); replace qg := Aside0.mk (blk_below (g := qv) (o := .cells #[.slice qx ql.length qw, .int .i64 qr, .bool qs] 26 (0, 0)) (by (with_reducible repeat (first | refine blk_drewN ?_ _ | refine blk_drew ?_ | refine blk_alloc ?_ _)); refine blk_put (cs := #[.slice qx ql.length qw, .int .i64 qr, .bool false]) ?_ 2 _ rfl; (with_reducible repeat (first | refine blk_drewN ?_ _ | refine blk_drew ?_ | refine blk_alloc ?_ _)); refine blk_put (cs := #[.slice qx ql.length qw, .int .i64 0, .bool false]) ?_ 1 _ rfl; (with_reducible repeat (first | refine blk_drewN ?_ _ | refine blk_drew ?_ | refine blk_alloc ?_ _)); refine blk_put (cs := #[.slice none 0 0, .int .i64 0, .bool false]) ?_ 0 _ rfl; (with_reducible repeat (first | refine blk_drewN ?_ _ | refine blk_drew ?_ | refine blk_alloc ?_ _)); exact qg.out) hb); replace HB := bS_ HB hb; (try clear hb); (try clear hb2); (try clear hk); (try clear hi)))
     go_meet
     case rel => exact ⟨_, (true), (by first | rfl | (simp; done) | (simp [*]; done)), H', ⟨by first | omega | exact Nat.le_refl _⟩, ⟨by (with_reducible repeat (first | apply Kd.R_alloc | apply Kd.R_drewN | apply Kd.R_drew)); exact Kd.R_mono q4.out (fun _ hk => ⟨hk.1.1.2, ⟨hk.1.2, hk.2⟩⟩)⟩, ⟨by (with_reducible repeat (first | apply Kd.R_alloc | apply Kd.R_drewN | apply Kd.R_drew)); exact Kd.R_mono zx.out (fun _ hk => ⟨hk.1.1.2, ⟨hk.1.2, hk.2⟩⟩)⟩, ⟨by (with_reducible repeat (first | apply Kd.R_alloc | apply Kd.R_drewN | apply Kd.R_drew)); exact Kd.R_mono zK.out (fun _ hk => ⟨hk.1.1.2, ⟨hk.1.2, hk.2⟩⟩)⟩, ⟨by (with_reducible repeat (first | apply Kd.R_alloc | apply Kd.R_drewN | apply Kd.R_drew)); exact Kd.R_mono zW.out (fun _ hk => ⟨hk.1.1.2, ⟨hk.1.2, hk.2⟩⟩)⟩, ⟨kf_ qb⟩, ⟨kf_ qd⟩, ⟨kf_ qh⟩, ⟨kf_ qi⟩, ⟨kf_ qj⟩, ⟨kf_ qg⟩, ⟨bb_ HB⟩⟩
   case rest =>
    clear HC27
    try clear c1
    try clear c2
    try clear p2
    try clear c3
    try clear c4
    try clear c5
    try clear c6
    try clear c7
    try clear c8
    try clear c9
    try clear c15
    try clear c17
    try clear c30
    try clear c31
    try clear c47
    try clear c52
    try clear c53
    try clear c54
    try clear c56
    try clear c61
    try clear c62
    try clear c63
    try clear c64
    try clear c70
    try clear c71
    try clear c72
    try clear c73
    try clear c74
    try clear c77
    try clear c78
    try clear c79
    try clear c80
    try clear c81
    try clear c82
    try clear c84
    try clear c85
    try clear c86
    try clear c87
    try clear c90
    try clear c91
    try clear c92
    try clear c93
    try clear c94
    try clear c96
    try clear c97
    try clear c98
    try clear c99
    try clear QW
    try clear QX
    try clear QY
    try clear ZY
    try clear ZZ
    try clear Z0
    try clear Z1
    try clear Z2
    try clear Z3
    try clear Z4
    try clear Z5
    try clear Z6
    try clear Z7
    try clear Qn
    try clear Qo
    try clear Qs
    try clear Qt
    try clear Qu
    try clear Qy
    try clear Qz
    try clear QA
    try clear QE
    try clear QF
    try clear QG
    try clear QK
    try clear QL
    try clear QM
    try clear QQ
    try clear QR
    try clear QS
    try clear j8
    try clear j9
    try clear Qa
    try clear Qe
    try clear Qf
    try clear Qg
    try clear Qh
    try clear Qi
    try clear Qj
    try clear Qk
    try clear Ql
    try clear Qm
    try clear Qp
    try clear Qq
    try clear Qr
    try clear Qv
    try clear Qw
    try clear Qx
    try clear QB
    try clear QC
    try clear QD
    try clear QH
    try clear QI
    try clear QJ
    try clear QN
    try clear QO
    try clear QP
    try clear QT
    try clear QU
    try clear QV
    obtain ⟨kq, jY, rfl, HA, HJ26, qf, qc, qe, qa, qb, qd, qh, qi, qj, qg, HB⟩ := hcut
    cases kq with
    | zero => exact absurd HA.out (by simp [laws_FnExactMixAtoms.j0])
    | succ kj26 =>
     have H := HA.out
     clear HA
     simp only [laws_FnExactMixAtoms.j0] at H
     by_cases c102 : jY = true
     ·
      subst c102
      have H1 : (some false) = some r := by rw [if_pos rfl] at H; exact H
      clear H
      have H := H1
      clear H1
      obtain rfl := Option.some.inj H
      go_wp2
      go_ret
      exact ⟨by first | rfl | (simp [errW_none, errW_some] <;> rfl) | (simp [*, errW_none, errW_some] <;> rfl), bb_ HB⟩
     ·
      replace c102 := Bool.eq_false_iff.mpr c102
      subst c102
      have H1 : ((laws_toAtom.f kj26 l0_0 a0_1 a0_2).bind fun jD => ((laws_eqAtom.f kj26 qM q0 q2 jD.1 jD.2.1 jD.2.2).bind fun jZ => (if jZ = true then ((laws_toAtom.f kj26 l2_0 a2_1 a2_2).bind fun zE => ((laws_eqAtom.f kj26 qN q1 q3 zE.1 zE.2.1 zE.2.2).bind fun jd => (if jd = true then ((laws_markAtom.f kj26 qM q0 q2 1).bind fun zM => ((laws_markAtom.f kj26 qN q1 q3 zM.1).bind fun zJ => (if zJ.1 < 0 then (laws_FnExactMixAtoms.j1 kj26 a1 a3 qL true l0_0 a0_1 a0_2 l2_0 a2_1 a2_2 qo qy qA ql qr qs) else ((laws_eqAtom.f kj26 ql qr qs qo qy qA).bind fun zP => (if zP = true then (laws_FnExactMixAtoms.j1 kj26 a1 a3 qL (zL != qL) l0_0 a0_1 a0_2 l2_0 a2_1 a2_2 qo qy qA ql qr qs) else (laws_FnExactMixAtoms.j1 kj26 a1 a3 qL true l0_0 a0_1 a0_2 l2_0 a2_1 a2_2 qo qy qA ql qr qs)))))) else (some false)))) else (some false)))) = some r := by rw [if_neg (show ¬ (false = true) by decide)] at H; exact H
      clear H
      have H := H1
      clear H1
      replace H := Option.bind_eq_some_iff.mp H
      obtain ⟨⟨z1, jL, jM⟩, A1030, H⟩ := H
      replace H : ((laws_eqAtom.f kj26 qM q0 q2 z1 jL jM).bind fun jZ => (if jZ = true then ((laws_toAtom.f kj26 l2_0 a2_1 a2_2).bind fun zE => ((laws_eqAtom.f kj26 qN q1 q3 zE.1 zE.2.1 zE.2.2).bind fun jd => (if jd = true then ((laws_markAtom.f kj26 qM q0 q2 1).bind fun zM => ((laws_markAtom.f kj26 qN q1 q3 zM.1).bind fun zJ => (if zJ.1 < 0 then (laws_FnExactMixAtoms.j1 kj26 a1 a3 qL true l0_0 a0_1 a0_2 l2_0 a2_1 a2_2 qo qy qA ql qr qs) else ((laws_eqAtom.f kj26 ql qr qs qo qy qA).bind fun zP => (if zP = true then (laws_FnExactMixAtoms.j1 kj26 a1 a3 qL (zL != qL) l0_0 a0_1 a0_2 l2_0 a2_1 a2_2 qo qy qA ql qr qs) else (laws_FnExactMixAtoms.j1 kj26 a1 a3 qL true l0_0 a0_1 a0_2 l2_0 a2_1 a2_2 qo qy qA ql qr qs)))))) else (some false)))) else (some false))) = some r := H
      have A103 := Aside0.mk A1030
      clear A1030
      replace H := Option.bind_eq_some_iff.mp H
      obtain ⟨jZ, A1040, H⟩ := H
      replace H : (if jZ = true then ((laws_toAtom.f kj26 l2_0 a2_1 a2_2).bind fun zE => ((laws_eqAtom.f kj26 qN q1 q3 zE.1 zE.2.1 zE.2.2).bind fun jd => (if jd = true then ((laws_markAtom.f kj26 qM q0 q2 1).bind fun zM => ((laws_markAtom.f kj26 qN q1 q3 zM.1).bind fun zJ => (if zJ.1 < 0 then (laws_FnExactMixAtoms.j1 kj26 a1 a3 qL true l0_0 a0_1 a0_2 l2_0 a2_1 a2_2 qo qy qA ql qr qs) else ((laws_eqAtom.f kj26 ql qr qs qo qy qA).bind fun zP => (if zP = true then (laws_FnExactMixAtoms.j1 kj26 a1 a3 qL (zL != qL) l0_0 a0_1 a0_2 l2_0 a2_1 a2_2 qo qy qA ql qr qs) else (laws_FnExactMixAtoms.j1 kj26 a1 a3 qL true l0_0 a0_1 a0_2 l2_0 a2_1 a2_2 qo qy qA ql qr qs)))))) else (some false)))) else (some false)) = some r := H
      have A104 := Aside0.mk A1040
      clear A1040
      by_cases c105 : jZ = true
      ·
       subst c105
       have H1 : ((laws_toAtom.f kj26 l2_0 a2_1 a2_2).bind fun zE => ((laws_eqAtom.f kj26 qN q1 q3 zE.1 zE.2.1 zE.2.2).bind fun jd => (if jd = true then ((laws_markAtom.f kj26 qM q0 q2 1).bind fun zM => ((laws_markAtom.f kj26 qN q1 q3 zM.1).bind fun zJ => (if zJ.1 < 0 then (laws_FnExactMixAtoms.j1 kj26 a1 a3 qL true l0_0 a0_1 a0_2 l2_0 a2_1 a2_2 qo qy qA ql qr qs) else ((laws_eqAtom.f kj26 ql qr qs qo qy qA).bind fun zP => (if zP = true then (laws_FnExactMixAtoms.j1 kj26 a1 a3 qL (zL != qL) l0_0 a0_1 a0_2 l2_0 a2_1 a2_2 qo qy qA ql qr qs) else (laws_FnExactMixAtoms.j1 kj26 a1 a3 qL true l0_0 a0_1 a0_2 l2_0 a2_1 a2_2 qo qy qA ql qr qs)))))) else (some false)))) = some r := by rw [if_pos rfl] at H; exact H
       clear H
       have H := H1
       clear H1
       replace H := Option.bind_eq_some_iff.mp H
       obtain ⟨⟨jb, Qc, Qd⟩, A1060, H⟩ := H
       replace H : ((laws_eqAtom.f kj26 qN q1 q3 jb Qc Qd).bind fun jd => (if jd = true then ((laws_markAtom.f kj26 qM q0 q2 1).bind fun zM => ((laws_markAtom.f kj26 qN q1 q3 zM.1).bind fun zJ => (if zJ.1 < 0 then (laws_FnExactMixAtoms.j1 kj26 a1 a3 qL true l0_0 a0_1 a0_2 l2_0 a2_1 a2_2 qo qy qA ql qr qs) else ((laws_eqAtom.f kj26 ql qr qs qo qy qA).bind fun zP => (if zP = true then (laws_FnExactMixAtoms.j1 kj26 a1 a3 qL (zL != qL) l0_0 a0_1 a0_2 l2_0 a2_1 a2_2 qo qy qA ql qr qs) else (laws_FnExactMixAtoms.j1 kj26 a1 a3 qL true l0_0 a0_1 a0_2 l2_0 a2_1 a2_2 qo qy qA ql qr qs)))))) else (some false))) = some r := H
       have A106 := Aside0.mk A1060
       clear A1060
       replace H := Option.bind_eq_some_iff.mp H
       obtain ⟨jd, A1070, H⟩ := H
       replace H : (if jd = true then ((laws_markAtom.f kj26 qM q0 q2 1).bind fun zM => ((laws_markAtom.f kj26 qN q1 q3 zM.1).bind fun zJ => (if zJ.1 < 0 then (laws_FnExactMixAtoms.j1 kj26 a1 a3 qL true l0_0 a0_1 a0_2 l2_0 a2_1 a2_2 qo qy qA ql qr qs) else ((laws_eqAtom.f kj26 ql qr qs qo qy qA).bind fun zP => (if zP = true then (laws_FnExactMixAtoms.j1 kj26 a1 a3 qL (zL != qL) l0_0 a0_1 a0_2 l2_0 a2_1 a2_2 qo qy qA ql qr qs) else (laws_FnExactMixAtoms.j1 kj26 a1 a3 qL true l0_0 a0_1 a0_2 l2_0 a2_1 a2_2 qo qy qA ql qr qs)))))) else (some false)) = some r := H
       have A107 := Aside0.mk A1070
       clear A1070
       by_cases c108 : jd = true
       ·
        subst c108
        have H1 : ((laws_markAtom.f kj26 qM q0 q2 1).bind fun zM => ((laws_markAtom.f kj26 qN q1 q3 zM.1).bind fun zJ => (if zJ.1 < 0 then (laws_FnExactMixAtoms.j1 kj26 a1 a3 qL true l0_0 a0_1 a0_2 l2_0 a2_1 a2_2 qo qy qA ql qr qs) else ((laws_eqAtom.f kj26 ql qr qs qo qy qA).bind fun zP => (if zP = true then (laws_FnExactMixAtoms.j1 kj26 a1 a3 qL (zL != qL) l0_0 a0_1 a0_2 l2_0 a2_1 a2_2 qo qy qA ql qr qs) else (laws_FnExactMixAtoms.j1 kj26 a1 a3 qL true l0_0 a0_1 a0_2 l2_0 a2_1 a2_2 qo qy qA ql qr qs)))))) = some r := by rw [if_pos rfl] at H; exact H
        clear H
        have H := H1
        clear H1
        replace H := Option.bind_eq_some_iff.mp H
        obtain ⟨⟨Z8, zs⟩, A1090, H⟩ := H
        replace H : ((laws_markAtom.f kj26 qN q1 q3 Z8).bind fun zJ => (if zJ.1 < 0 then (laws_FnExactMixAtoms.j1 kj26 a1 a3 qL true l0_0 a0_1 a0_2 l2_0 a2_1 a2_2 qo qy qA ql qr qs) else ((laws_eqAtom.f kj26 ql qr qs qo qy qA).bind fun zP => (if zP = true then (laws_FnExactMixAtoms.j1 kj26 a1 a3 qL (zL != qL) l0_0 a0_1 a0_2 l2_0 a2_1 a2_2 qo qy qA ql qr qs) else (laws_FnExactMixAtoms.j1 kj26 a1 a3 qL true l0_0 a0_1 a0_2 l2_0 a2_1 a2_2 qo qy qA ql qr qs))))) = some r := H
        have A109 := Aside0.mk A1090
        clear A1090
        replace H := Option.bind_eq_some_iff.mp H
        obtain ⟨⟨QZ, zt⟩, A1100, H⟩ := H
        replace H : (if QZ < 0 then (laws_FnExactMixAtoms.j1 kj26 a1 a3 qL true l0_0 a0_1 a0_2 l2_0 a2_1 a2_2 qo qy qA ql qr qs) else ((laws_eqAtom.f kj26 ql qr qs qo qy qA).bind fun zP => (if zP = true then (laws_FnExactMixAtoms.j1 kj26 a1 a3 qL (zL != qL) l0_0 a0_1 a0_2 l2_0 a2_1 a2_2 qo qy qA ql qr qs) else (laws_FnExactMixAtoms.j1 kj26 a1 a3 qL true l0_0 a0_1 a0_2 l2_0 a2_1 a2_2 qo qy qA ql qr qs)))) = some r := H
        have A110 := Aside0.mk A1100
        clear A1100
        have HC111 := Aside0.mk H
        clear H
        try go_wp2
        replace qf := Aside0.mk (Kd.R_drew qf.out); replace qc := Aside0.mk (Kd.R_drew qc.out); replace qe := Aside0.mk (Kd.R_drew qe.out); replace qa := Aside0.mk (Kd.R_drew qa.out); replace qb := Aside0.mk (blk_drew qb.out); replace qd := Aside0.mk (blk_drew qd.out); replace qh := Aside0.mk (blk_drew qh.out); replace qi := Aside0.mk (blk_drew qi.out); replace qj := Aside0.mk (blk_drew qj.out); replace qg := Aside0.mk (blk_drew qg.out); replace HB := Aside0.mk (below_drew1 HB.out)
        refine start_ (n := 5) (S := fun w' => w'.cell? ⟨qO, 0, none⟩ = some (.slice qH qM.length qF) ∧ w'.cell? ⟨qO, 1, none⟩ = some (.int .i64 q0) ∧ w'.cell? ⟨qO, 2, none⟩ = some (.bool q2) ∧ w'.cell? ⟨qp, 0, none⟩ = some (.slice A0_0 l0_0.length c0_0) ∧ w'.cell? ⟨qp, 1, none⟩ = some (.int .i64 a0_1) ∧ w'.cell? ⟨qp, 2, none⟩ = some (.bool a0_2)) (ds := []) #[false, false, false, false, false] (by kernel_rfl) rfl rfl ⟨bc_ qi 0, bc_ qi 1, bc_ qi 2, bc_ qb 0, bc_ qb 1, bc_ qb 2⟩ (fun hHeld => ?_)
        generalize wc.drew = I8 at qf qc qe qa qb qd qh qi qj qg HB hHeld ⊢
        refine take_ (i := 0) (N := some 62) (v := ?_) (a' := ?_) #[true, false, false, false, false] rfl rfl (by kernel_rfl) (fun _ _ _ h => h) (Or.inl ⟨by rfl, ?_⟩) hHeld ?_ ?_
        rotate_left
        ·
         rintro w' ⟨s0, s1, s2, s3, s4, s5⟩
         go_simp
         with_reducible rfl
        rotate_left
        ·
         simp only [Act.put, List.setIfInBounds_toArray, List.set_cons_zero, List.set_cons_succ, i64_w, i32_w]
         rfl
        refine take_ (i := 1) (N := some 63) (v := ?_) (a' := ?_) #[true, true, false, false, false] rfl rfl (by kernel_rfl) (fun _ _ _ h => h) (Or.inl ⟨by rfl, ?_⟩) hHeld ?_ ?_
        rotate_left
        ·
         rintro w' ⟨s0, s1, s2, s3, s4, s5⟩
         go_simp
         with_reducible rfl
        rotate_left
        ·
         simp only [Act.put, List.setIfInBounds_toArray, List.set_cons_zero, List.set_cons_succ, i64_w, i32_w]
         rfl
        refine one_ (i := 2) (N := some 64) #[true, true, true, false, false] rfl rfl (by kernel_rfl) (by decide) (fun K hK => ?_)
        refine goes_ Try.func15 (by kernel_rfl) rfl #[.agg #[.slice A0_0 l0_0.length c0_0, .int .i64 a0_1, .bool a0_2]] (by rfl) rfl rfl (by (try simp only [List.map_toArray, List.map_cons, List.map_nil]); first | done | rfl | (simp only [List.length_drop, List.length_take]; rfl)) ?_
        with_reducible refine (laws_toAtom.calls kj26 _ _ l0_0 a0_1 a0_2 z1 jL jM _ ?side1 ?side2 A103.out).mono ?_
        (case side1 => exact cb_ z4 HB)
        (case side2 => exact z5.out)
        rintro e I9 ⟨Ju, rfl, ho0, hb⟩
        refine ⟨_, rfl, ?_⟩
        have qW := Aside0.mk (Kd.R_lower (Kd.R_new' (Kd.R_new' (Kd.R_new' (Kd.R_new' ho0 (Kd.R_lt (rm_ qf))) (Kd.R_lt (rm_ qc))) (Kd.R_lt (rm_ qe))) (Kd.R_lt (rm_ qa))) (bz_ HB)); replace qf := Aside0.mk (Kd.R_elder' (rm_ qf) (Kd.R_base ho0) hb); replace qc := Aside0.mk (Kd.R_elder' (rm_ qc) (Kd.R_base ho0) hb); replace qe := Aside0.mk (Kd.R_elder' (rm_ qe) (Kd.R_base ho0) hb); replace qa := Aside0.mk (Kd.R_elder' (rm_ qa) (Kd.R_base ho0) hb); replace qb := kB_ qb hb; replace qd := kB_ qd hb; replace qh := kB_ qh hb; replace qi := kB_ qi hb; replace qj := kB_ qj hb; replace qg := kB_ qg hb; replace HB := bS_ HB hb; (try clear hb); (try clear hb2); (try clear hk); (try clear hi); (try clear ho0)
        obtain ⟨je, jf, eo114⟩ := Kd.R_slice qW.out
        (first | subst eo114 | (injection eo114 with f1_ f2_ f3_; have f4_ := f1_.symm; have f5_ := f3_.symm; clear f1_ f2_ f3_; subst f4_; subst f5_))
        refine hK.out _ _ ⟨bc_ qi 0, bc_ qi 1, bc_ qi 2, bc_ qb 0, bc_ qb 1, bc_ qb 2⟩ (fun hHeld => ?_)
        clear hK K
        refine norm_ (a' := ?_) ?_ ?_
        rotate_left
        ·
         show Act.put _ (some 64) _ = _
         simp only [Act.put, List.setIfInBounds_toArray, List.set_cons_zero, List.set_cons_succ, i64_w, i32_w]
         rfl
        refine one_ (i := 3) (N := some 65) #[true, true, true, true, false] rfl rfl (by kernel_rfl) (by decide) (fun K hK => ?_)
        refine goes_ Try.func17 (by kernel_rfl) rfl #[.agg #[.slice qH qM.length qF, .int .i64 q0, .bool q2], .agg #[.slice je z1.length jf, .int .i64 jL, .bool jM]] (by rfl) rfl rfl (by (try simp only [List.map_toArray, List.map_cons, List.map_nil]); first | done | rfl | (simp only [List.length_drop, List.length_take]; rfl)) ?_
        with_reducible refine (laws_eqAtom.calls kj26 _ _ qM q0 q2 _ _ z1 jL jM true _ ?side1 ?side2 ?side3 ?side4 A104.out).mono ?_
        (case side1 => exact cr_ qc)
        (case side2 => exact (Kd.R_reads' qc.out).2.1)
        (case side3 => exact cr_ qW)
        (case side4 => exact (Kd.R_reads' qW.out).2.1)
        rintro e X5 ⟨rfl, hb⟩
        refine ⟨_, rfl, ?_⟩
        replace qf := rB_ qf hb; replace qc := rB_ qc hb; replace qe := rB_ qe hb; replace qa := rB_ qa hb; replace qW := rB_ qW hb; replace qb := kB_ qb hb; replace qd := kB_ qd hb; replace qh := kB_ qh hb; replace qi := kB_ qi hb; replace qj := kB_ qj hb; replace qg := kB_ qg hb; replace HB := bS_ HB hb; (try clear hb); (try clear hb2); (try clear hk); (try clear hi)
        refine hK.out _ _ ⟨bc_ qi 0, bc_ qi 1, bc_ qi 2, bc_ qb 0, bc_ qb 1, bc_ qb 2⟩ (fun hHeld => ?_)
        clear hK K
        refine norm_ (a' := ?_) ?_ ?_
        rotate_left
        ·
         show Act.put _ (some 65) _ = _
         simp only [Act.put, List.setIfInBounds_toArray, List.set_cons_zero, List.set_cons_succ, i64_w, i32_w]
         rfl
        refine pure_ (i := 4) (N := some 66) (v := ?_) (a' := ?_) #[true, true, true, true, true] rfl rfl (by kernel_rfl) (fun _ _ _ h => h) (Or.inl ⟨by rfl, ?_⟩) ?_ ?_
        rotate_left
        ·
         intro w'
         go_simp
         with_reducible rfl
        rotate_left
        ·
         simp only [Act.put, List.setIfInBounds_toArray, List.set_cons_zero, List.set_cons_succ, i64_w, i32_w]
         rfl
        refine done_ (by kernel_rfl) ?_
        try go_wp2
        replace qf := Aside0.mk (Kd.R_drew qf.out); replace qc := Aside0.mk (Kd.R_drew qc.out); replace qe := Aside0.mk (Kd.R_drew qe.out); replace qa := Aside0.mk (Kd.R_drew qa.out); replace qW := Aside0.mk (Kd.R_drew qW.out); replace qb := Aside0.mk (blk_drew qb.out); replace qd := Aside0.mk (blk_drew qd.out); replace qh := Aside0.mk (blk_drew qh.out); replace qi := Aside0.mk (blk_drew qi.out); replace qj := Aside0.mk (blk_drew qj.out); replace qg := Aside0.mk (blk_drew qg.out); replace HB := Aside0.mk (below_drew1 HB.out)
        refine start_ (n := 5) (S := fun w' => w'.cell? ⟨qT, 0, none⟩ = some (.slice qI qN.length qG) ∧ w'.cell? ⟨qT, 1, none⟩ = some (.int .i64 q1) ∧ w'.cell? ⟨qT, 2, none⟩ = some (.bool q3) ∧ w'.cell? ⟨qq, 0, none⟩ = some (.slice A2_0 l2_0.length c2_0) ∧ w'.cell? ⟨qq, 1, none⟩ = some (.int .i64 a2_1) ∧ w'.cell? ⟨qq, 2, none⟩ = some (.bool a2_2)) (ds := []) #[false, false, false, false, false] (by kernel_rfl) rfl rfl ⟨bc_ qj 0, bc_ qj 1, bc_ qj 2, bc_ qd 0, bc_ qd 1, bc_ qd 2⟩ (fun hHeld => ?_)
        generalize X5.drew = Ma at qf qc qe qa qW qb qd qh qi qj qg HB hHeld ⊢
        refine take_ (i := 0) (N := some 67) (v := ?_) (a' := ?_) #[true, false, false, false, false] rfl rfl (by kernel_rfl) (fun _ _ _ h => h) (Or.inl ⟨by rfl, ?_⟩) hHeld ?_ ?_
        rotate_left
        ·
         rintro w' ⟨s0, s1, s2, s3, s4, s5⟩
         go_simp
         with_reducible rfl
        rotate_left
        ·
         simp only [Act.put, List.setIfInBounds_toArray, List.set_cons_zero, List.set_cons_succ, i64_w, i32_w]
         rfl
        refine take_ (i := 1) (N := some 68) (v := ?_) (a' := ?_) #[true, true, false, false, false] rfl rfl (by kernel_rfl) (fun _ _ _ h => h) (Or.inl ⟨by rfl, ?_⟩) hHeld ?_ ?_
        rotate_left
        ·
         rintro w' ⟨s0, s1, s2, s3, s4, s5⟩
         go_simp
         with_reducible rfl
        rotate_left
        ·
         simp only [Act.put, List.setIfInBounds_toArray, List.set_cons_zero, List.set_cons_succ, i64_w, i32_w]
         rfl
        refine one_ (i := 2) (N := some 69) #[true, true, true, false, false] rfl rfl (by kernel_rfl) (by decide) (fun K hK => ?_)
        refine goes_ Try.func15 (by kernel_rfl) rfl #[.agg #[.slice A2_0 l2_0.length c2_0, .int .i64 a2_1, .bool a2_2]] (by rfl) rfl rfl (by (try simp only [List.map_toArray, List.map_cons, List.map_nil]); first | done | rfl | (simp only [List.length_drop, List.length_take]; rfl)) ?_
        with_reducible refine (laws_toAtom.calls kj26 _ _ l2_0 a2_1 a2_2 jb Qc Qd _ ?side1 ?side2 A106.out).mono ?_
        (case side1 => exact cb_ z6 HB)
        (case side2 => exact z7.out)
        rintro e Mb ⟨X6, rfl, ho0, hb⟩
        refine ⟨_, rfl, ?_⟩
        have zH := Aside0.mk (Kd.R_lower (Kd.R_new' (Kd.R_new' (Kd.R_new' (Kd.R_new' (Kd.R_new' ho0 (Kd.R_lt (rm_ qf))) (Kd.R_lt (rm_ qc))) (Kd.R_lt (rm_ qe))) (Kd.R_lt (rm_ qa))) (Kd.R_lt (rm_ qW))) (bz_ HB)); replace qf := Aside0.mk (Kd.R_elder' (rm_ qf) (Kd.R_base ho0) hb); replace qc := Aside0.mk (Kd.R_elder' (rm_ qc) (Kd.R_base ho0) hb); replace qe := Aside0.mk (Kd.R_elder' (rm_ qe) (Kd.R_base ho0) hb); replace qa := Aside0.mk (Kd.R_elder' (rm_ qa) (Kd.R_base ho0) hb); replace qW := Aside0.mk (Kd.R_elder' (rm_ qW) (Kd.R_base ho0) hb); replace qb := kB_ qb hb; replace qd := kB_ qd hb; replace qh := kB_ qh hb; replace qi := kB_ qi hb; replace qj := kB_ qj hb; replace qg := kB_ qg hb; replace HB := bS_ HB hb; (try clear hb); (try clear hb2); (try clear hk); (try clear hi); (try clear ho0)
        obtain ⟨jg, jh, eo118⟩ := Kd.R_slice zH.out
        (first | subst eo118 | (injection eo118 with f1_ f2_ f3_; have f4_ := f1_.symm; have f5_ := f3_.symm; clear f1_ f2_ f3_; subst f4_; subst f5_))
        refine hK.out _ _ ⟨bc_ qj 0, bc_ qj 1, bc_ qj 2, bc_ qd 0, bc_ qd 1, bc_ qd 2⟩ (fun hHeld => ?_)
        clear hK K
        refine norm_ (a' := ?_) ?_ ?_
        rotate_left
        ·
         show Act.put _ (some 69) _ = _
         simp only [Act.put, List.setIfInBounds_toArray, List.set_cons_zero, List.set_cons_succ, i64_w, i32_w]
         rfl
        refine one_ (i := 3) (N := some 70) #[true, true, true, true, false] rfl rfl (by kernel_rfl) (by decide) (fun K hK => ?_)
        refine goes_ Try.func17 (by kernel_rfl) rfl #[.agg #[.slice qI qN.length qG, .int .i64 q1, .bool q3], .agg #[.slice jg jb.length jh, .int .i64 Qc, .bool Qd]] (by rfl) rfl rfl (by (try simp only [List.map_toArray, List.map_cons, List.map_nil]); first | done | rfl | (simp only [List.length_drop, List.length_take]; rfl)) ?_
        with_reducible refine (laws_eqAtom.calls kj26 _ _ qN q1 q3 _ _ jb Qc Qd true _ ?side1 ?side2 ?side3 ?side4 A107.out).mono ?_
        (case side1 => exact cr_ qe)
        (case side2 => exact (Kd.R_reads' qe.out).2.1)
        (case side3 => exact cr_ zH)
        (case side4 => exact (Kd.R_reads' zH.out).2.1)
        rintro e Jd ⟨rfl, hb⟩
        refine ⟨_, rfl, ?_⟩
        replace qf := rB_ qf hb; replace qc := rB_ qc hb; replace qe := rB_ qe hb; replace qa := rB_ qa hb; replace qW := rB_ qW hb; replace zH := rB_ zH hb; replace qb := kB_ qb hb; replace qd := kB_ qd hb; replace qh := kB_ qh hb; replace qi := kB_ qi hb; replace qj := kB_ qj hb; replace qg := kB_ qg hb; replace HB := bS_ HB hb; (try clear hb); (try clear hb2); (try clear hk); (try clear hi)
        refine hK.out _ _ ⟨bc_ qj 0, bc_ qj 1, bc_ qj 2, bc_ qd 0, bc_ qd 1, bc_ qd 2⟩ (fun hHeld => ?_)
        clear hK K
        refine norm_ (a' := ?_) ?_ ?_
        rotate_left
        ·
         show Act.put _ (some 70) _ = _
         simp only [Act.put, List.setIfInBounds_toArray, List.set_cons_zero, List.set_cons_succ, i64_w, i32_w]
         rfl
        refine pure_ (i := 4) (N := some 71) (v := ?_) (a' := ?_) #[true, true, true, true, true] rfl rfl (by kernel_rfl) (fun _ _ _ h => h) (Or.inl ⟨by rfl, ?_⟩) ?_ ?_
        rotate_left
        ·
         intro w'
         go_simp
         with_reducible rfl
        rotate_left
        ·
         simp only [Act.put, List.setIfInBounds_toArray, List.set_cons_zero, List.set_cons_succ, i64_w, i32_w]
         rfl
        refine done_ (by kernel_rfl) ?_
        have X7 := jO.out
        have X8 := jN.out
        have X9 := jQ.out
        have Ya := jP.out
        have Yb := zB.out
        have Yc := zA.out
        have Yd := jV.out
        have Ye := jW.out
        have Yf := zi.out
        have Yg := zj.out
        have Q0 : Jd.cell? ⟨qO, 0, none⟩ = some (.slice qH qM.length qF) := bc_ qi 0
        have Q1 : Jd.cell? ⟨qO, 1, none⟩ = some (.int .i64 q0) := bc_ qi 1
        have Q2 : Jd.cell? ⟨qO, 2, none⟩ = some (.bool q2) := bc_ qi 2
        have Q3 := blk_frozen qi.out 0
        have Q4 := blk_frozen qi.out 1
        have Q5 := blk_frozen qi.out 2
        go_upto_region 21 with (first | ((with_reducible refine gate_callee (f := 18) rfl ?_); refine goesL_ (some 74) rfl rfl Try.func18 (by kernel_rfl) rfl #[.agg #[.slice qH qM.length qF, .int .i64 q0, .bool q2], .int .i64 1] rfl (by (try simp only [List.map_toArray, List.map_cons, List.map_nil]); first | done | rfl | (simp only [List.length_drop, List.length_take]; rfl)) ?_; (with_reducible refine (laws_markAtom.calls kj26 (fun k_ => some k_ = (.slice qH qM.length qF : Value).ownBlock) (.slice qH qM.length qF) qM q0 q2 1 Z8 zs w _ ?side1 ?side2 A109.out).mono ?_); (case side1 => repeat (first | (with_reducible first | exact HB.out | apply below_alloc | apply pw_below_drewN | apply below_drew1 | refine below_set ?_ jE.out | refine below_set ?_ jF.out | refine below_set ?_ zV.out | refine below_set ?_ j5.out | refine below_set ?_ j6.out | refine below_set ?_ j7.out) | exact HB.out)); (case side2 => exact Kd.R_tight rfl qc.out); rintro e Je ⟨rfl, hy0, hb, hkp⟩; refine ⟨_, rfl, ?_⟩; replace qf := Aside0.mk (Kd.R_mono (ok' := fun k_ => some k_ ≠ (.slice qH qM.length qF : Value).ownBlock ∧ some k_ ≠ (.slice qI qN.length qG : Value).ownBlock ∧ some k_ ≠ (.slice qx ql.length qw : Value).ownBlock ∧ some k_ ≠ (.slice je z1.length jf : Value).ownBlock ∧ some k_ ≠ (.slice jg jb.length jh : Value).ownBlock) (Kd.R_keptB (qf.out) hkp (fun k_ hk_ hs_ => (hk_.1.1.1) hs_)) (fun k_ hk_ => ⟨hk_.1.1.1.1, hk_.1.1.1.2.1, hk_.1.1.1.2.2, hk_.1.1.2, hk_.1.2⟩)); replace qe := Aside0.mk (Kd.R_mono (ok' := fun k_ => some k_ ≠ (.slice qR qo.length qK : Value).ownBlock ∧ some k_ ≠ (.slice qH qM.length qF : Value).ownBlock ∧ some k_ ≠ (.slice qx ql.length qw : Value).ownBlock ∧ some k_ ≠ (.slice je z1.length jf : Value).ownBlock ∧ some k_ ≠ (.slice jg jb.length jh : Value).ownBlock) (Kd.R_keptB (qe.out) hkp (fun k_ hk_ hs_ => (hk_.1.1.2.1) hs_)) (fun k_ hk_ => ⟨hk_.1.1.1.1, hk_.1.1.1.2.1, hk_.1.1.1.2.2, hk_.1.1.2, hk_.1.2⟩)); replace qa := Aside0.mk (Kd.R_mono (ok' := fun k_ => some k_ ≠ (.slice qR qo.length qK : Value).ownBlock ∧ some k_ ≠ (.slice qH qM.length qF : Value).ownBlock ∧ some k_ ≠ (.slice qI qN.length qG : Value).ownBlock ∧ some k_ ≠ (.slice je z1.length jf : Value).ownBlock ∧ some k_ ≠ (.slice jg jb.length jh : Value).ownBlock) (Kd.R_keptB (qa.out) hkp (fun k_ hk_ hs_ => (hk_.1.1.2.1) hs_)) (fun k_ hk_ => ⟨hk_.1.1.1.1, hk_.1.1.1.2.1, hk_.1.1.1.2.2, hk_.1.1.2, hk_.1.2⟩)); replace qb := Aside0.mk (blk_kept (kf_ qb) hkp (fun hs_ => (fun e_ => (Kd.R_ne qc.out qb.out (by decide)) e_) hs_)); replace qd := Aside0.mk (blk_kept (kf_ qd) hkp (fun hs_ => (fun e_ => (Kd.R_ne qc.out qd.out (by decide)) e_) hs_)); replace qh := Aside0.mk (blk_kept (kf_ qh) hkp (fun hs_ => (fun e_ => (Kd.R_ne qc.out qh.out (by decide)) e_) hs_)); replace qi := Aside0.mk (blk_kept (kf_ qi) hkp (fun hs_ => (fun e_ => (Kd.R_ne qc.out qi.out (by decide)) e_) hs_)); replace qj := Aside0.mk (blk_kept (kf_ qj) hkp (fun hs_ => (fun e_ => (Kd.R_ne qc.out qj.out (by decide)) e_) hs_)); replace qg := Aside0.mk (blk_kept (kf_ qg) hkp (fun hs_ => (fun e_ => (Kd.R_ne qc.out qg.out (by decide)) e_) hs_)); replace qc := Aside0.mk (Kd.R_reok rfl hy0 (fun k_ e_ => qc.out.1 k_ e_)); replace qW := Aside0.mk (Kd.R_mono (ok' := fun k_ => some k_ ≠ (.slice qR qo.length qK : Value).ownBlock ∧ some k_ ≠ (.slice qH qM.length qF : Value).ownBlock ∧ some k_ ≠ (.slice qI qN.length qG : Value).ownBlock ∧ some k_ ≠ (.slice qx ql.length qw : Value).ownBlock ∧ some k_ ≠ (.slice jg jb.length jh : Value).ownBlock) (Kd.R_keptB (qW.out) hkp (fun k_ hk_ hs_ => (hk_.1.1.1.2) hs_)) (fun k_ hk_ => ⟨hk_.1.1.1.1.1.2, hk_.1.1.1.1.2, hk_.1.1.1.2, hk_.1.1.2, hk_.1.2⟩)); replace zH := Aside0.mk (Kd.R_mono (ok' := fun k_ => some k_ ≠ (.slice qR qo.length qK : Value).ownBlock ∧ some k_ ≠ (.slice qH qM.length qF : Value).ownBlock ∧ some k_ ≠ (.slice qI qN.length qG : Value).ownBlock ∧ some k_ ≠ (.slice qx ql.length qw : Value).ownBlock ∧ some k_ ≠ (.slice je z1.length jf : Value).ownBlock) (Kd.R_keptB (zH.out) hkp (fun k_ hk_ hs_ => (hk_.1.1.1.2) hs_)) (fun k_ hk_ => ⟨hk_.1.1.1.1.1.2, hk_.1.1.1.1.2, hk_.1.1.1.2, hk_.1.1.2, hk_.1.2⟩)); replace HB := Aside0.mk (hb); (try clear hb); (try clear hkp); (try clear hy0); have Yh := jS.out; have Yi := jR.out; have Yj := jU.out; have Yk := jT.out; have Yl := zD.out; have Ym := zC.out; have Yn := zk.out; have Yo := zl.out; have Q6 : Je.cell? ⟨qT, 0, none⟩ = some (.slice qI qN.length qG) := bc_ qj 0; have Q7 : Je.cell? ⟨qT, 1, none⟩ = some (.int .i64 q1) := bc_ qj 1; have Q8 : Je.cell? ⟨qT, 2, none⟩ = some (.bool q3) := bc_ qj 2; have Q9 := blk_frozen qj.out 0; have Za := blk_frozen qj.out 1; have Zb := blk_frozen qj.out 2) | ((with_reducible refine gate_callee (f := 18) rfl ?_); refine goesL_ (some 77) rfl rfl Try.func18 (by kernel_rfl) rfl #[.agg #[.slice qI qN.length qG, .int .i64 q1, .bool q3], .int .i64 Z8] rfl (by (try simp only [List.map_toArray, List.map_cons, List.map_nil]); first | done | rfl | (simp only [List.length_drop, List.length_take]; rfl)) ?_; (with_reducible refine (laws_markAtom.calls kj26 (fun k_ => some k_ = (.slice qI qN.length qG : Value).ownBlock) (.slice qI qN.length qG) qN q1 q3 Z8 QZ zt w _ ?side1 ?side2 A110.out).mono ?_); (case side1 => repeat (first | (with_reducible first | exact HB.out | apply below_alloc | apply pw_below_drewN | apply below_drew1 | refine below_set ?_ jE.out | refine below_set ?_ jF.out | refine below_set ?_ zV.out | refine below_set ?_ j5.out | refine below_set ?_ j6.out | refine below_set ?_ j7.out) | exact HB.out)); (case side2 => exact Kd.R_tight rfl qe.out); rintro e jB ⟨rfl, hy0, hb, hkp⟩; refine ⟨_, rfl, ?_⟩; replace qf := Aside0.mk (Kd.R_mono (ok' := fun k_ => some k_ ≠ (.slice qH qM.length qF : Value).ownBlock ∧ some k_ ≠ (.slice qI qN.length qG : Value).ownBlock ∧ some k_ ≠ (.slice qx ql.length qw : Value).ownBlock ∧ some k_ ≠ (.slice je z1.length jf : Value).ownBlock ∧ some k_ ≠ (.slice jg jb.length jh : Value).ownBlock) (Kd.R_keptB (qf.out) hkp (fun k_ hk_ hs_ => (hk_.2.1) hs_)) (fun k_ hk_ => ⟨hk_.1.1, hk_.1.2.1, hk_.1.2.2.1, hk_.1.2.2.2.1, hk_.1.2.2.2.2⟩)); replace qc := Aside0.mk (Kd.R_mono (ok' := fun k_ => some k_ ≠ (.slice qR qo.length qK : Value).ownBlock ∧ some k_ ≠ (.slice qI qN.length qG : Value).ownBlock ∧ some k_ ≠ (.slice qx ql.length qw : Value).ownBlock ∧ some k_ ≠ (.slice je z1.length jf : Value).ownBlock ∧ some k_ ≠ (.slice jg jb.length jh : Value).ownBlock) (Kd.R_keptB (qc.out) hkp (fun k_ hk_ hs_ => (hk_.1.1.2.1) hs_)) (fun k_ hk_ => ⟨hk_.1.1.1.1, hk_.1.1.1.2.1, hk_.1.1.1.2.2, hk_.1.1.2, hk_.1.2⟩)); replace qa := Aside0.mk (Kd.R_mono (ok' := fun k_ => some k_ ≠ (.slice qR qo.length qK : Value).ownBlock ∧ some k_ ≠ (.slice qH qM.length qF : Value).ownBlock ∧ some k_ ≠ (.slice qI qN.length qG : Value).ownBlock ∧ some k_ ≠ (.slice je z1.length jf : Value).ownBlock ∧ some k_ ≠ (.slice jg jb.length jh : Value).ownBlock) (Kd.R_keptB (qa.out) hkp (fun k_ hk_ hs_ => (hk_.2.2.1) hs_)) (fun k_ hk_ => ⟨hk_.1.1, hk_.1.2.1, hk_.1.2.2.1, hk_.1.2.2.2.1, hk_.1.2.2.2.2⟩)); replace qb := Aside0.mk (blk_kept (kf_ qb) hkp (fun hs_ => (fun e_ => (Kd.R_ne qe.out qb.out (by decide)) e_) hs_)); replace qd := Aside0.mk (blk_kept (kf_ qd) hkp (fun hs_ => (fun e_ => (Kd.R_ne qe.out qd.out (by decide)) e_) hs_)); replace qh := Aside0.mk (blk_kept (kf_ qh) hkp (fun hs_ => (fun e_ => (Kd.R_ne qe.out qh.out (by decide)) e_) hs_)); replace qi := Aside0.mk (blk_kept (kf_ qi) hkp (fun hs_ => (fun e_ => (Kd.R_ne qe.out qi.out (by decide)) e_) hs_)); replace qj := Aside0.mk (blk_kept (kf_ qj) hkp (fun hs_ => (fun e_ => (Kd.R_ne qe.out qj.out (by decide)) e_) hs_)); replace qg := Aside0.mk (blk_kept (kf_ qg) hkp (fun hs_ => (fun e_ => (Kd.R_ne qe.out qg.out (by decide)) e_) hs_)); replace qe := Aside0.mk (Kd.R_reok rfl hy0 (fun k_ e_ => qe.out.1 k_ e_)); replace qW := Aside0.mk (Kd.R_mono (ok' := fun k_ => some k_ ≠ (.slice qR qo.length qK : Value).ownBlock ∧ some k_ ≠ (.slice qH qM.length qF : Value).ownBlock ∧ some k_ ≠ (.slice qI qN.length qG : Value).ownBlock ∧ some k_ ≠ (.slice qx ql.length qw : Value).ownBlock ∧ some k_ ≠ (.slice jg jb.length jh : Value).ownBlock) (Kd.R_keptB (qW.out) hkp (fun k_ hk_ hs_ => (hk_.2.2.1) hs_)) (fun k_ hk_ => ⟨hk_.1.1, hk_.1.2.1, hk_.1.2.2.1, hk_.1.2.2.2.1, hk_.1.2.2.2.2⟩)); replace zH := Aside0.mk (Kd.R_mono (ok' := fun k_ => some k_ ≠ (.slice qR qo.length qK : Value).ownBlock ∧ some k_ ≠ (.slice qH qM.length qF : Value).ownBlock ∧ some k_ ≠ (.slice qI qN.length qG : Value).ownBlock ∧ some k_ ≠ (.slice qx ql.length qw : Value).ownBlock ∧ some k_ ≠ (.slice je z1.length jf : Value).ownBlock) (Kd.R_keptB (zH.out) hkp (fun k_ hk_ hs_ => (hk_.2.2.1) hs_)) (fun k_ hk_ => ⟨hk_.1.1, hk_.1.2.1, hk_.1.2.2.1, hk_.1.2.2.2.1, hk_.1.2.2.2.2⟩)); replace HB := Aside0.mk (hb); (try clear hb); (try clear hkp); (try clear hy0)))
        (try simp only [Act.put, List.setIfInBounds_toArray, List.set_cons_zero, List.set_cons_succ])
        go_cut [90] (fun v90 wc => ∃ (kq : Nat) (jC : Bool), v90 = .bool jC ∧ Aside0 (laws_FnExactMixAtoms.j1 kq a1 a3 qL jC l0_0 a0_1 a0_2 l2_0 a2_1 a2_2 qo qy qA ql qr qs = some r) ∧ Aside0 (kq ≤ kj26) ∧ Aside0 (Kd.R (Kd.int .i64) 3 wc w.heap.size (fun k_ => some k_ ≠ ((.slice qH qM.length qF) : Value).ownBlock ∧ some k_ ≠ ((.slice qI qN.length qG) : Value).ownBlock ∧ some k_ ≠ ((.slice qx ql.length qw) : Value).ownBlock) (.slice qR qo.length qK) qo) ∧ Aside0 (Kd.R (Kd.int .i64) 3 wc w.heap.size (fun k_ => some k_ ≠ ((.slice qR qo.length qK) : Value).ownBlock ∧ some k_ ≠ ((.slice qI qN.length qG) : Value).ownBlock ∧ some k_ ≠ ((.slice qx ql.length qw) : Value).ownBlock) (.slice qH qM.length qF) zs) ∧ Aside0 (Kd.R (Kd.int .i64) 3 wc w.heap.size (fun k_ => some k_ ≠ ((.slice qR qo.length qK) : Value).ownBlock ∧ some k_ ≠ ((.slice qH qM.length qF) : Value).ownBlock ∧ some k_ ≠ ((.slice qx ql.length qw) : Value).ownBlock) (.slice qI qN.length qG) zt) ∧ Aside0 (Kd.R (Kd.int .i64) 3 wc w.heap.size (fun k_ => some k_ ≠ ((.slice qR qo.length qK) : Value).ownBlock ∧ some k_ ≠ ((.slice qH qM.length qF) : Value).ownBlock ∧ some k_ ≠ ((.slice qI qN.length qG) : Value).ownBlock) (.slice qx ql.length qw) ql) ∧ Aside0 (wc.heap[qp]? = some (.cells #[(.slice A0_0 l0_0.length c0_0), .int .i64 a0_1, .bool a0_2] 24 (0, 0))) ∧ Aside0 (wc.heap[qq]? = some (.cells #[(.slice A2_0 l2_0.length c2_0), .int .i64 a2_1, .bool a2_2] 24 (0, 0))) ∧ Aside0 (wc.heap[qn]? = some (.cells #[(.slice qR qo.length qK), .int .i64 qy, .bool qA] 26 (0, 0))) ∧ Aside0 (wc.heap[qO]? = some (.cells #[(.slice qH qM.length qF), .int .i64 q0, .bool q2] 26 (0, 0))) ∧ Aside0 (wc.heap[qT]? = some (.cells #[(.slice qI qN.length qG), .int .i64 q1, .bool q3] 26 (0, 0))) ∧ Aside0 (wc.heap[qv]? = some (.cells #[(.slice qx ql.length qw), .int .i64 qr, .bool qs] 26 (0, 0))) ∧ Aside0 (Below w.heap.size w wc))
        case first =>
         have H := HC111.out
         clear HC111
         by_cases c133 : QZ < 0
         ·
          rw [if_pos c133] at H
          have jo : decide (QZ < 0) = true := decide_eq_true c133
          clear c133
          (first | rw [jo] | (simp only [i64_w, i32_w]; rw [jo]) | skip)
          have H' := Aside0.mk H
          clear H
          go_wp2
          go_meet
          case rel => exact ⟨_, (true), (by first | rfl | (simp; done) | (simp [*]; done)), H', ⟨by have := HJ26.out; first | omega | exact Nat.le_refl _⟩, ⟨by (with_reducible repeat (first | apply Kd.R_alloc | apply Kd.R_drewN | apply Kd.R_drew)); exact Kd.R_mono qf.out (fun _ hk => ⟨hk.1, ⟨hk.2.1, hk.2.2.1⟩⟩)⟩, ⟨by (with_reducible repeat (first | apply Kd.R_alloc | apply Kd.R_drewN | apply Kd.R_drew)); exact Kd.R_mono qc.out (fun _ hk => ⟨hk.1, ⟨hk.2.1, hk.2.2.1⟩⟩)⟩, ⟨by (with_reducible repeat (first | apply Kd.R_alloc | apply Kd.R_drewN | apply Kd.R_drew)); exact Kd.R_mono qe.out (fun _ hk => ⟨hk.1, ⟨hk.2.1, hk.2.2.1⟩⟩)⟩, ⟨by (with_reducible repeat (first | apply Kd.R_alloc | apply Kd.R_drewN | apply Kd.R_drew)); exact Kd.R_mono qa.out (fun _ hk => ⟨hk.1, ⟨hk.2.1, hk.2.2.1⟩⟩)⟩, ⟨kf_ qb⟩, ⟨kf_ qd⟩, ⟨kf_ qh⟩, ⟨kf_ qi⟩, ⟨kf_ qj⟩, ⟨kf_ qg⟩, ⟨bb_ HB⟩⟩
         ·
          rw [if_neg c133] at H
          have jo : decide (QZ < 0) = false := decide_eq_false c133
          clear c133
          (first | rw [jo] | (simp only [i64_w, i32_w]; rw [jo]) | skip)
          replace H := Option.bind_eq_some_iff.mp H
          obtain ⟨zP, A1340, H⟩ := H
          replace H : (if zP = true then (laws_FnExactMixAtoms.j1 kj26 a1 a3 qL (zL != qL) l0_0 a0_1 a0_2 l2_0 a2_1 a2_2 qo qy qA ql qr qs) else (laws_FnExactMixAtoms.j1 kj26 a1 a3 qL true l0_0 a0_1 a0_2 l2_0 a2_1 a2_2 qo qy qA ql qr qs)) = some r := H
          have A134 := Aside0.mk A1340
          clear A1340
          by_cases c135 : zP = true
          ·
           subst c135
           have H1 : (laws_FnExactMixAtoms.j1 kj26 a1 a3 qL (zL != qL) l0_0 a0_1 a0_2 l2_0 a2_1 a2_2 qo qy qA ql qr qs) = some r := by rw [if_pos rfl] at H; exact H
           clear H
           have H := H1
           clear H1
           have H' := Aside0.mk H
           clear H
           have Yp := zp.out
           have Yq := zo.out
           have Yr := zr.out
           have Ys := zq.out
           have Yt := q8.out
           have Yu := q7.out
           have Yv := zj.out
           have Yw := zi.out
           have Yx := zl.out
           have Yy := zk.out
           have Zc : jB.cell? ⟨qv, 0, none⟩ = some (.slice qx ql.length qw) := bc_ qg 0
           have Zd : jB.cell? ⟨qv, 1, none⟩ = some (.int .i64 qr) := bc_ qg 1
           have Ze : jB.cell? ⟨qv, 2, none⟩ = some (.bool qs) := bc_ qg 2
           have Zf := blk_frozen qg.out 0
           have Zg := blk_frozen qg.out 1
           have Zh := blk_frozen qg.out 2
           have Yz := qU.out
           have YA := qC.out
           have YB := qV.out
           have YC := qD.out
           have YD := zA.out
           have YE := zB.out
           have YF := zC.out
           have YG := zD.out
           have Zi : jB.cell? ⟨qn, 0, none⟩ = some (.slice qR qo.length qK) := bc_ qh 0
           have Zj : jB.cell? ⟨qn, 1, none⟩ = some (.int .i64 qy) := bc_ qh 1
           have Zk : jB.cell? ⟨qn, 2, none⟩ = some (.bool qA) := bc_ qh 2
           have Zl := blk_frozen qh.out 0
           have Zm := blk_frozen qh.out 1
           have Zn := blk_frozen qh.out 2
           go_wp2_with (first | (go_at_call 17; (with_reducible refine (laws_eqAtom.calls kj26 _ _ ql qr qs _ _ qo qy qA true _ ?side1 ?side2 ?side3 ?side4 A134.out).mono ?_); (case side1 => exact cr_ qa); (case side2 => exact (Kd.R_reads' qa.out).2.1); (case side3 => exact cr_ qf); (case side4 => exact (Kd.R_reads' qf.out).2.1); rintro e Mc ⟨rfl, hb⟩; replace qf := rB_ qf hb; replace qc := rB_ qc hb; replace qe := rB_ qe hb; replace qa := rB_ qa hb; replace qW := rB_ qW hb; replace zH := rB_ zH hb; replace qb := kB_ qb hb; replace qd := kB_ qd hb; replace qh := kB_ qh hb; replace qi := kB_ qi hb; replace qj := kB_ qj hb; replace qg := kB_ qg hb; replace HB := bS_ HB hb; (try clear hb); (try clear hb2); (try clear hk); (try clear hi)))
           go_meet
           case rel => exact ⟨_, ((zL != qL)), (by first | rfl | (simp; done) | (simp [*]; done)), H', ⟨by have := HJ26.out; first | omega | exact Nat.le_refl _⟩, ⟨by (with_reducible repeat (first | apply Kd.R_alloc | apply Kd.R_drewN | apply Kd.R_drew)); exact Kd.R_mono qf.out (fun _ hk => ⟨hk.1, ⟨hk.2.1, hk.2.2.1⟩⟩)⟩, ⟨by (with_reducible repeat (first | apply Kd.R_alloc | apply Kd.R_drewN | apply Kd.R_drew)); exact Kd.R_mono qc.out (fun _ hk => ⟨hk.1, ⟨hk.2.1, hk.2.2.1⟩⟩)⟩, ⟨by (with_reducible repeat (first | apply Kd.R_alloc | apply Kd.R_drewN | apply Kd.R_drew)); exact Kd.R_mono qe.out (fun _ hk => ⟨hk.1, ⟨hk.2.1, hk.2.2.1⟩⟩)⟩, ⟨by (with_reducible repeat (first | apply Kd.R_alloc | apply Kd.R_drewN | apply Kd.R_drew)); exact Kd.R_mono qa.out (fun _ hk => ⟨hk.1, ⟨hk.2.1, hk.2.2.1⟩⟩)⟩, ⟨kf_ qb⟩, ⟨kf_ qd⟩, ⟨kf_ qh⟩, ⟨kf_ qi⟩, ⟨kf_ qj⟩, ⟨kf_ qg⟩, ⟨bb_ HB⟩⟩
          ·
           replace c135 := Bool.eq_false_iff.mpr c135
           subst c135
           have H1 : (laws_FnExactMixAtoms.j1 kj26 a1 a3 qL true l0_0 a0_1 a0_2 l2_0 a2_1 a2_2 qo qy qA ql qr qs) = some r := by rw [if_neg (show ¬ (false = true) by decide)] at H; exact H
           clear H
           have H := H1
           clear H1
           have H' := Aside0.mk H
           clear H
           have YH := zp.out
           have YI := zo.out
           have YJ := zr.out
           have YK := zq.out
           have YL := q8.out
           have YM := q7.out
           have YN := zj.out
           have YO := zi.out
           have YP := zl.out
           have YQ := zk.out
           have Zo : jB.cell? ⟨qv, 0, none⟩ = some (.slice qx ql.length qw) := bc_ qg 0
           have Zp : jB.cell? ⟨qv, 1, none⟩ = some (.int .i64 qr) := bc_ qg 1
           have Zq : jB.cell? ⟨qv, 2, none⟩ = some (.bool qs) := bc_ qg 2
           have Zr := blk_frozen qg.out 0
           have Zs := blk_frozen qg.out 1
           have Zt := blk_frozen qg.out 2
           have YR := qU.out
           have YS := qC.out
           have YT := qV.out
           have YU := qD.out
           have YV := zA.out
           have YW := zB.out
           have YX := zC.out
           have YY := zD.out
           have Zu : jB.cell? ⟨qn, 0, none⟩ = some (.slice qR qo.length qK) := bc_ qh 0
           have Zv : jB.cell? ⟨qn, 1, none⟩ = some (.int .i64 qy) := bc_ qh 1
           have Zw : jB.cell? ⟨qn, 2, none⟩ = some (.bool qA) := bc_ qh 2
           have Zx := blk_frozen qh.out 0
           have Zy := blk_frozen qh.out 1
           have Zz := blk_frozen qh.out 2
           go_wp2_with (first | (go_at_call 17; (with_reducible refine (laws_eqAtom.calls kj26 _ _ ql qr qs _ _ qo qy qA false _ ?side1 ?side2 ?side3 ?side4 A134.out).mono ?_); (case side1 => exact cr_ qa); (case side2 => exact (Kd.R_reads' qa.out).2.1); (case side3 => exact cr_ qf); (case side4 => exact (Kd.R_reads' qf.out).2.1); rintro e Md ⟨rfl, hb⟩; replace qf := rB_ qf hb; replace qc := rB_ qc hb; replace qe := rB_ qe hb; replace qa := rB_ qa hb; replace qW := rB_ qW hb; replace zH := rB_ zH hb; replace qb := kB_ qb hb; replace qd := kB_ qd hb; replace qh := kB_ qh hb; replace qi := kB_ qi hb; replace qj := kB_ qj hb; replace qg := kB_ qg hb; replace HB := bS_ HB hb; (try clear hb); (try clear hb2); (try clear hk); (try clear hi)))
           go_meet
           case rel => exact ⟨_, (true), (by first | rfl | (simp; done) | (simp [*]; done)), H', ⟨by have := HJ26.out; first | omega | exact Nat.le_refl _⟩, ⟨by (with_reducible repeat (first | apply Kd.R_alloc | apply Kd.R_drewN | apply Kd.R_drew)); exact Kd.R_mono qf.out (fun _ hk => ⟨hk.1, ⟨hk.2.1, hk.2.2.1⟩⟩)⟩, ⟨by (with_reducible repeat (first | apply Kd.R_alloc | apply Kd.R_drewN | apply Kd.R_drew)); exact Kd.R_mono qc.out (fun _ hk => ⟨hk.1, ⟨hk.2.1, hk.2.2.1⟩⟩)⟩, ⟨by (with_reducible repeat (first | apply Kd.R_alloc | apply Kd.R_drewN | apply Kd.R_drew)); exact Kd.R_mono qe.out (fun _ hk => ⟨hk.1, ⟨hk.2.1, hk.2.2.1⟩⟩)⟩, ⟨by (with_reducible repeat (first | apply Kd.R_alloc | apply Kd.R_drewN | apply Kd.R_drew)); exact Kd.R_mono qa.out (fun _ hk => ⟨hk.1, ⟨hk.2.1, hk.2.2.1⟩⟩)⟩, ⟨kf_ qb⟩, ⟨kf_ qd⟩, ⟨kf_ qh⟩, ⟨kf_ qi⟩, ⟨kf_ qj⟩, ⟨kf_ qg⟩, ⟨bb_ HB⟩⟩
        case rest =>
         clear HC111
         try clear c1
         try clear c2
         try clear p2
         try clear c10
         try clear c12
         try clear c13
         try clear c14
         try clear c15
         try clear c17
         try clear c18
         try clear c102
         try clear c105
         try clear c108
         try clear c120
         try clear c121
         try clear c122
         try clear c123
         try clear c124
         try clear c127
         try clear c128
         try clear c129
         try clear c130
         try clear c133
         try clear jo
         try clear c135
         try clear c136
         try clear c137
         try clear c138
         try clear c139
         try clear c140
         try clear c142
         try clear c143
         try clear c144
         try clear c145
         try clear c148
         try clear c149
         try clear c150
         try clear c151
         try clear c152
         try clear c154
         try clear c155
         try clear c156
         try clear c157
         try clear Q0
         try clear Q1
         try clear Q2
         try clear Q6
         try clear Q7
         try clear Q8
         try clear Zc
         try clear Zd
         try clear Ze
         try clear Zi
         try clear Zj
         try clear Zk
         try clear Zo
         try clear Zp
         try clear Zq
         try clear Zu
         try clear Zv
         try clear Zw
         try clear Qn
         try clear Qo
         try clear Qs
         try clear Qt
         try clear Qu
         try clear Qy
         try clear Qz
         try clear QA
         try clear QE
         try clear QF
         try clear QG
         try clear QK
         try clear QL
         try clear QM
         try clear QQ
         try clear QR
         try clear QS
         try clear j8
         try clear j9
         try clear Qa
         try clear Q3
         try clear Q4
         try clear Q5
         try clear Q9
         try clear Za
         try clear Zb
         try clear Zf
         try clear Zg
         try clear Zh
         try clear Zl
         try clear Zm
         try clear Zn
         try clear Zr
         try clear Zs
         try clear Zt
         try clear Zx
         try clear Zy
         try clear Zz
         try clear Qe
         try clear Qf
         try clear Qg
         try clear Qh
         try clear Qi
         try clear Qj
         try clear Qk
         try clear Ql
         try clear Qm
         try clear Qp
         try clear Qq
         try clear Qr
         try clear Qv
         try clear Qw
         try clear Qx
         try clear QB
         try clear QC
         try clear QD
         try clear QH
         try clear QI
         try clear QJ
         try clear QN
         try clear QO
         try clear QP
         try clear QT
         try clear QU
         try clear QV
         obtain ⟨kq, jC, rfl, HA, HJ110, qf, qc, qe, qa, qb, qd, qh, qi, qj, qg, HB⟩ := hcut
         have hl281000_110 := (Kd.R_reads' qc.out).1
         rw [hl281000_110] at qc
         (try simp only [hl281000_110])
         (try simp only [hl281000_110] at qb)
         (try simp only [hl281000_110] at qd)
         (try simp only [hl281000_110] at qh)
         (try simp only [hl281000_110] at qi)
         (try simp only [hl281000_110] at qj)
         (try simp only [hl281000_110] at qg)
         (try simp only [hl281000_110] at qf)
         (try simp only [hl281000_110] at qe)
         (try simp only [hl281000_110] at qa)
         have hl287000_110 := (Kd.R_reads' qe.out).1
         rw [hl287000_110] at qe
         (try simp only [hl287000_110])
         (try simp only [hl287000_110] at qb)
         (try simp only [hl287000_110] at qd)
         (try simp only [hl287000_110] at qh)
         (try simp only [hl287000_110] at qi)
         (try simp only [hl287000_110] at qj)
         (try simp only [hl287000_110] at qg)
         (try simp only [hl287000_110] at qf)
         (try simp only [hl287000_110] at qc)
         (try simp only [hl287000_110] at qa)
         cases kq with
         | zero => exact absurd HA.out (by simp [laws_FnExactMixAtoms.j1])
         | succ kj110 =>
          have H := HA.out
          clear HA
          simp only [laws_FnExactMixAtoms.j1] at H
          by_cases c160 : jC = true
          ·
           subst c160
           have H1 : (some false) = some r := by rw [if_pos rfl] at H; exact H
           clear H
           have H := H1
           clear H1
           obtain rfl := Option.some.inj H
           go_wp2
           go_ret
           exact ⟨by first | rfl | (simp [errW_none, errW_some] <;> rfl) | (simp [*, errW_none, errW_some] <;> rfl), bb_ HB⟩
          ·
           replace c160 := Bool.eq_false_iff.mpr c160
           subst c160
           have H1 : ((laws_markAtom.f kj110 ql qr qs 1).bind fun zS => ((laws_heldAtom.f kj110 zS.2 qr qs 1).bind fun zQ => (if zQ < 0 then (some false) else (if zQ = zS.1 then ((laws_toAtom.f kj110 l0_0 a0_1 a0_2).bind fun zN => ((laws_toAtom.f kj110 l2_0 a2_1 a2_2).bind fun zF => ((impl_MixAtoms.f kj110 zN.1 zN.2.1 zN.2.2 a1 zF.1 zF.2.1 zF.2.2 a3).bind fun zm => ((laws_eqAtom.f kj110 zm.1 zm.2.1 zm.2.2.1 qo qy qA).bind fun ja => (if ja = true then (laws_FnExactMixAtoms.j2 kj110 zS.1 (zm.2.2.2 != qL) zS.2 qr qs) else (laws_FnExactMixAtoms.j2 kj110 zS.1 true zS.2 qr qs)))))) else (some false))))) = some r := by rw [if_neg (show ¬ (false = true) by decide)] at H; exact H
           clear H
           have H := H1
           clear H1
           replace H := Option.bind_eq_some_iff.mp H
           obtain ⟨⟨zy, zn⟩, A1610, H⟩ := H
           replace H : ((laws_heldAtom.f kj110 zn qr qs 1).bind fun zQ => (if zQ < 0 then (some false) else (if zQ = zy then ((laws_toAtom.f kj110 l0_0 a0_1 a0_2).bind fun zN => ((laws_toAtom.f kj110 l2_0 a2_1 a2_2).bind fun zF => ((impl_MixAtoms.f kj110 zN.1 zN.2.1 zN.2.2 a1 zF.1 zF.2.1 zF.2.2 a3).bind fun zm => ((laws_eqAtom.f kj110 zm.1 zm.2.1 zm.2.2.1 qo qy qA).bind fun ja => (if ja = true then (laws_FnExactMixAtoms.j2 kj110 zy (zm.2.2.2 != qL) zn qr qs) else (laws_FnExactMixAtoms.j2 kj110 zy true zn qr qs)))))) else (some false)))) = some r := H
           have A161 := Aside0.mk A1610
           clear A1610
           replace H := Option.bind_eq_some_iff.mp H
           obtain ⟨zQ, A1620, H⟩ := H
           replace H : (if zQ < 0 then (some false) else (if zQ = zy then ((laws_toAtom.f kj110 l0_0 a0_1 a0_2).bind fun zN => ((laws_toAtom.f kj110 l2_0 a2_1 a2_2).bind fun zF => ((impl_MixAtoms.f kj110 zN.1 zN.2.1 zN.2.2 a1 zF.1 zF.2.1 zF.2.2 a3).bind fun zm => ((laws_eqAtom.f kj110 zm.1 zm.2.1 zm.2.2.1 qo qy qA).bind fun ja => (if ja = true then (laws_FnExactMixAtoms.j2 kj110 zy (zm.2.2.2 != qL) zn qr qs) else (laws_FnExactMixAtoms.j2 kj110 zy true zn qr qs)))))) else (some false))) = some r := H
           have A162 := Aside0.mk A1620
           clear A1620
           by_cases c163 : zQ < 0
           ·
            rw [if_pos c163] at H
            have Jf : decide (zQ < 0) = true := decide_eq_true c163
            clear c163
            obtain rfl := Option.some.inj H
            have YZ := zp.out
            have Y0 := zo.out
            have Y1 := zr.out
            have Y2 := zq.out
            have Y3 := q8.out
            have Y4 := q7.out
            have Y5 := zj.out
            have Y6 := zi.out
            have Y7 := zl.out
            have Y8 := zk.out
            have Jv : wc.cell? ⟨qv, 0, none⟩ = some (.slice qx ql.length qw) := bc_ qg 0
            have Jw : wc.cell? ⟨qv, 1, none⟩ = some (.int .i64 qr) := bc_ qg 1
            have Jx : wc.cell? ⟨qv, 2, none⟩ = some (.bool qs) := bc_ qg 2
            have Jy := blk_frozen qg.out 0
            have Jz := blk_frozen qg.out 1
            have JA := blk_frozen qg.out 2
            go_wp2_with (first | ((with_reducible refine gate_callee (f := 18) rfl ?_); refine goesL_ (some 93) rfl rfl Try.func18 (by kernel_rfl) rfl #[.agg #[.slice qx ql.length qw, .int .i64 qr, .bool qs], .int .i64 1] rfl (by (try simp only [List.map_toArray, List.map_cons, List.map_nil]); first | done | rfl | (simp only [List.length_drop, List.length_take]; rfl)) ?_; (with_reducible refine (laws_markAtom.calls kj110 (fun k_ => some k_ = (.slice qx ql.length qw : Value).ownBlock) (.slice qx ql.length qw) ql qr qs 1 zy zn w _ ?side1 ?side2 A161.out).mono ?_); (case side1 => repeat (first | (with_reducible first | exact HB.out | apply below_alloc | apply pw_below_drewN | apply below_drew1 | refine below_set ?_ jE.out | refine below_set ?_ jF.out | refine below_set ?_ zV.out | refine below_set ?_ j5.out | refine below_set ?_ j6.out | refine below_set ?_ j7.out) | exact HB.out)); (case side2 => exact Kd.R_tight rfl qa.out); rintro e Jg ⟨rfl, hy0, hb, hkp⟩; refine ⟨_, rfl, ?_⟩; replace qf := Aside0.mk (Kd.R_mono (ok' := fun k_ => some k_ ≠ (.slice qH zs.length qF : Value).ownBlock ∧ some k_ ≠ (.slice qI zt.length qG : Value).ownBlock ∧ some k_ ≠ (.slice qx ql.length qw : Value).ownBlock) (Kd.R_keptB (qf.out) hkp (fun k_ hk_ hs_ => (hk_.2.2) hs_)) (fun k_ hk_ => ⟨hk_.1.1, hk_.1.2.1, hk_.1.2.2⟩)); replace qc := Aside0.mk (Kd.R_mono (ok' := fun k_ => some k_ ≠ (.slice qR qo.length qK : Value).ownBlock ∧ some k_ ≠ (.slice qI zt.length qG : Value).ownBlock ∧ some k_ ≠ (.slice qx ql.length qw : Value).ownBlock) (Kd.R_keptB (qc.out) hkp (fun k_ hk_ hs_ => (hk_.2.2) hs_)) (fun k_ hk_ => ⟨hk_.1.1, hk_.1.2.1, hk_.1.2.2⟩)); replace qe := Aside0.mk (Kd.R_mono (ok' := fun k_ => some k_ ≠ (.slice qR qo.length qK : Value).ownBlock ∧ some k_ ≠ (.slice qH zs.length qF : Value).ownBlock ∧ some k_ ≠ (.slice qx ql.length qw : Value).ownBlock) (Kd.R_keptB (qe.out) hkp (fun k_ hk_ hs_ => (hk_.2.2) hs_)) (fun k_ hk_ => ⟨hk_.1.1, hk_.1.2.1, hk_.1.2.2⟩)); replace qb := Aside0.mk (blk_kept (kf_ qb) hkp (fun hs_ => (fun e_ => (Kd.R_ne qa.out qb.out (by decide)) e_) hs_)); replace qd := Aside0.mk (blk_kept (kf_ qd) hkp (fun hs_ => (fun e_ => (Kd.R_ne qa.out qd.out (by decide)) e_) hs_)); replace qh := Aside0.mk (blk_kept (kf_ qh) hkp (fun hs_ => (fun e_ => (Kd.R_ne qa.out qh.out (by decide)) e_) hs_)); replace qi := Aside0.mk (blk_kept (kf_ qi) hkp (fun hs_ => (fun e_ => (Kd.R_ne qa.out qi.out (by decide)) e_) hs_)); replace qj := Aside0.mk (blk_kept (kf_ qj) hkp (fun hs_ => (fun e_ => (Kd.R_ne qa.out qj.out (by decide)) e_) hs_)); replace qg := Aside0.mk (blk_kept (kf_ qg) hkp (fun hs_ => (fun e_ => (Kd.R_ne qa.out qg.out (by decide)) e_) hs_)); replace qa := Aside0.mk (Kd.R_reok rfl hy0 (fun k_ e_ => qa.out.1 k_ e_)); replace HB := Aside0.mk (hb); (try clear hb); (try clear hkp); (try clear hy0); have JB : Jg.cell? ⟨qv, 0, none⟩ = some (.slice qx ql.length qw) := bc_ qg 0; have JC : Jg.cell? ⟨qv, 1, none⟩ = some (.int .i64 qr) := bc_ qg 1; have JD : Jg.cell? ⟨qv, 2, none⟩ = some (.bool qs) := bc_ qg 2; have JE := blk_frozen qg.out 0; have JF := blk_frozen qg.out 1; have JG := blk_frozen qg.out 2) | ((with_reducible refine gate_callee (f := 19) rfl ?_); refine goesL_ (some 96) rfl rfl Try.func19 (by kernel_rfl) rfl #[.agg #[.slice qx zn.length qw, .int .i64 qr, .bool qs], .int .i64 1] rfl (by (try simp only [List.map_toArray, List.map_cons, List.map_nil]); first | done | (rw [show zn.length = ql.length from (Kd.R_reads' qa.out).1.symm] <;> rfl) | rfl | (simp only [List.length_drop, List.length_take]; rfl)) ?_; (with_reducible refine (laws_heldAtom.calls kj110 _ _ zn qr qs 1 zQ _ ?side1 ?side2 A162.out).mono ?_); (case side1 => exact cr_ qa); (case side2 => rw [show zn.length = ql.length from (Kd.R_reads' qa.out).1.symm]; exact (Kd.R_reads' qa.out).2.1); rintro e Me ⟨rfl, hb⟩; refine ⟨_, rfl, ?_⟩; replace qf := rB_ qf hb; replace qc := rB_ qc hb; replace qe := rB_ qe hb; replace qa := rB_ qa hb; replace qb := kB_ qb hb; replace qd := kB_ qd hb; replace qh := kB_ qh hb; replace qi := kB_ qi hb; replace qj := kB_ qj hb; replace qg := kB_ qg hb; replace HB := bS_ HB hb; (try clear hb); (try clear hb2); (try clear hk); (try clear hi)))
            go_ret
            exact ⟨by first | rfl | (simp [errW_none, errW_some] <;> rfl) | (simp [*, errW_none, errW_some] <;> rfl), bb_ HB⟩
           ·
            rw [if_neg c163] at H
            have Jf : decide (zQ < 0) = false := decide_eq_false c163
            clear c163
            by_cases c173 : zQ = zy
            ·
             rw [if_pos c173] at H
             have Jh : (zQ == zy) = true := beq_iff_eq.mpr c173
             have Ji : (zQ != zy) = false := bne_eq_false_iff_eq.mpr c173
             clear c173
             replace H := Option.bind_eq_some_iff.mp H
             obtain ⟨⟨z2, jp, jq⟩, A1740, H⟩ := H
             replace H : ((laws_toAtom.f kj110 l2_0 a2_1 a2_2).bind fun zF => ((impl_MixAtoms.f kj110 z2 jp jq a1 zF.1 zF.2.1 zF.2.2 a3).bind fun zm => ((laws_eqAtom.f kj110 zm.1 zm.2.1 zm.2.2.1 qo qy qA).bind fun ja => (if ja = true then (laws_FnExactMixAtoms.j2 kj110 zy (zm.2.2.2 != qL) zn qr qs) else (laws_FnExactMixAtoms.j2 kj110 zy true zn qr qs))))) = some r := H
             have A174 := Aside0.mk A1740
             clear A1740
             replace H := Option.bind_eq_some_iff.mp H
             obtain ⟨⟨z3, jr, js⟩, A1750, H⟩ := H
             replace H : ((impl_MixAtoms.f kj110 z2 jp jq a1 z3 jr js a3).bind fun zm => ((laws_eqAtom.f kj110 zm.1 zm.2.1 zm.2.2.1 qo qy qA).bind fun ja => (if ja = true then (laws_FnExactMixAtoms.j2 kj110 zy (zm.2.2.2 != qL) zn qr qs) else (laws_FnExactMixAtoms.j2 kj110 zy true zn qr qs)))) = some r := H
             have A175 := Aside0.mk A1750
             clear A1750
             replace H := Option.bind_eq_some_iff.mp H
             obtain ⟨⟨zh, zv, zw, jK⟩, A1760, H⟩ := H
             replace H : ((laws_eqAtom.f kj110 zh zv zw qo qy qA).bind fun ja => (if ja = true then (laws_FnExactMixAtoms.j2 kj110 zy (jK != qL) zn qr qs) else (laws_FnExactMixAtoms.j2 kj110 zy true zn qr qs))) = some r := H
             have A176 := Aside0.mk A1760
             clear A1760
             have HC177 := Aside0.mk H
             clear H
             have Y9 := zp.out
             have Da := zo.out
             have Db := zr.out
             have Dc := zq.out
             have Dd := q8.out
             have De := q7.out
             have Df := zj.out
             have Dg := zi.out
             have Dh := zl.out
             have Di := zk.out
             have JH : wc.cell? ⟨qv, 0, none⟩ = some (.slice qx ql.length qw) := bc_ qg 0
             have JI : wc.cell? ⟨qv, 1, none⟩ = some (.int .i64 qr) := bc_ qg 1
             have JJ : wc.cell? ⟨qv, 2, none⟩ = some (.bool qs) := bc_ qg 2
             have JK := blk_frozen qg.out 0
             have JL := blk_frozen qg.out 1
             have JM := blk_frozen qg.out 2
             try go_wp2_with (first | ((with_reducible refine gate_callee (f := 18) rfl ?_); refine goesL_ (some 93) rfl rfl Try.func18 (by kernel_rfl) rfl #[.agg #[.slice qx ql.length qw, .int .i64 qr, .bool qs], .int .i64 1] rfl (by (try simp only [List.map_toArray, List.map_cons, List.map_nil]); first | done | rfl | (simp only [List.length_drop, List.length_take]; rfl)) ?_; (with_reducible refine (laws_markAtom.calls kj110 (fun k_ => some k_ = (.slice qx ql.length qw : Value).ownBlock) (.slice qx ql.length qw) ql qr qs 1 zy zn w _ ?side1 ?side2 A161.out).mono ?_); (case side1 => repeat (first | (with_reducible first | exact HB.out | apply below_alloc | apply pw_below_drewN | apply below_drew1 | refine below_set ?_ jE.out | refine below_set ?_ jF.out | refine below_set ?_ zV.out | refine below_set ?_ j5.out | refine below_set ?_ j6.out | refine below_set ?_ j7.out) | exact HB.out)); (case side2 => exact Kd.R_tight rfl qa.out); rintro e Jj ⟨rfl, hy0, hb, hkp⟩; refine ⟨_, rfl, ?_⟩; replace qf := Aside0.mk (Kd.R_mono (ok' := fun k_ => some k_ ≠ (.slice qH zs.length qF : Value).ownBlock ∧ some k_ ≠ (.slice qI zt.length qG : Value).ownBlock ∧ some k_ ≠ (.slice qx ql.length qw : Value).ownBlock) (Kd.R_keptB (qf.out) hkp (fun k_ hk_ hs_ => (hk_.2.2) hs_)) (fun k_ hk_ => ⟨hk_.1.1, hk_.1.2.1, hk_.1.2.2⟩)); replace qc := Aside0.mk (Kd.R_mono (ok' := fun k_ => some k_ ≠ (.slice qR qo.length qK : Value).ownBlock ∧ some k_ ≠ (.slice qI zt.length qG : Value).ownBlock ∧ some k_ ≠ (.slice qx ql.length qw : Value).ownBlock) (Kd.R_keptB (qc.out) hkp (fun k_ hk_ hs_ => (hk_.2.2) hs_)) (fun k_ hk_ => ⟨hk_.1.1, hk_.1.2.1, hk_.1.2.2⟩)); replace qe := Aside0.mk (Kd.R_mono (ok' := fun k_ => some k_ ≠ (.slice qR qo.length qK : Value).ownBlock ∧ some k_ ≠ (.slice qH zs.length qF : Value).ownBlock ∧ some k_ ≠ (.slice qx ql.length qw : Value).ownBlock) (Kd.R_keptB (qe.out) hkp (fun k_ hk_ hs_ => (hk_.2.2) hs_)) (fun k_ hk_ => ⟨hk_.1.1, hk_.1.2.1, hk_.1.2.2⟩)); replace qb := Aside0.mk (blk_kept (kf_ qb) hkp (fun hs_ => (fun e_ => (Kd.R_ne qa.out qb.out (by decide)) e_) hs_)); replace qd := Aside0.mk (blk_kept (kf_ qd) hkp (fun hs_ => (fun e_ => (Kd.R_ne qa.out qd.out (by decide)) e_) hs_)); replace qh := Aside0.mk (blk_kept (kf_ qh) hkp (fun hs_ => (fun e_ => (Kd.R_ne qa.out qh.out (by decide)) e_) hs_)); replace qi := Aside0.mk (blk_kept (kf_ qi) hkp (fun hs_ => (fun e_ => (Kd.R_ne qa.out qi.out (by decide)) e_) hs_)); replace qj := Aside0.mk (blk_kept (kf_ qj) hkp (fun hs_ => (fun e_ => (Kd.R_ne qa.out qj.out (by decide)) e_) hs_)); replace qg := Aside0.mk (blk_kept (kf_ qg) hkp (fun hs_ => (fun e_ => (Kd.R_ne qa.out qg.out (by decide)) e_) hs_)); replace qa := Aside0.mk (Kd.R_reok rfl hy0 (fun k_ e_ => qa.out.1 k_ e_)); replace HB := Aside0.mk (hb); (try clear hb); (try clear hkp); (try clear hy0); have JN : Jj.cell? ⟨qv, 0, none⟩ = some (.slice qx ql.length qw) := bc_ qg 0; have JO : Jj.cell? ⟨qv, 1, none⟩ = some (.int .i64 qr) := bc_ qg 1; have JP : Jj.cell? ⟨qv, 2, none⟩ = some (.bool qs) := bc_ qg 2; have JQ := blk_frozen qg.out 0; have JR := blk_frozen qg.out 1; have JS := blk_frozen qg.out 2) | ((with_reducible refine gate_callee (f := 19) rfl ?_); refine goesL_ (some 96) rfl rfl Try.func19 (by kernel_rfl) rfl #[.agg #[.slice qx zn.length qw, .int .i64 qr, .bool qs], .int .i64 1] rfl (by (try simp only [List.map_toArray, List.map_cons, List.map_nil]); first | done | (rw [show zn.length = ql.length from (Kd.R_reads' qa.out).1.symm] <;> rfl) | rfl | (simp only [List.length_drop, List.length_take]; rfl)) ?_; (with_reducible refine (laws_heldAtom.calls kj110 _ _ zn qr qs 1 zQ _ ?side1 ?side2 A162.out).mono ?_); (case side1 => exact cr_ qa); (case side2 => rw [show zn.length = ql.length from (Kd.R_reads' qa.out).1.symm]; exact (Kd.R_reads' qa.out).2.1); rintro e Dj ⟨rfl, hb⟩; refine ⟨_, rfl, ?_⟩; replace qf := rB_ qf hb; replace qc := rB_ qc hb; replace qe := rB_ qe hb; replace qa := rB_ qa hb; replace qb := kB_ qb hb; replace qd := kB_ qd hb; replace qh := kB_ qh hb; replace qi := kB_ qi hb; replace qj := kB_ qj hb; replace qg := kB_ qg hb; replace HB := bS_ HB hb; (try clear hb); (try clear hb2); (try clear hk); (try clear hi)))
             replace qf := Aside0.mk (Kd.R_drew qf.out); replace qc := Aside0.mk (Kd.R_drew qc.out); replace qe := Aside0.mk (Kd.R_drew qe.out); replace qa := Aside0.mk (Kd.R_drew qa.out); replace qb := Aside0.mk (blk_drew qb.out); replace qd := Aside0.mk (blk_drew qd.out); replace qh := Aside0.mk (blk_drew qh.out); replace qi := Aside0.mk (blk_drew qi.out); replace qj := Aside0.mk (blk_drew qj.out); replace qg := Aside0.mk (blk_drew qg.out); replace HB := Aside0.mk (below_drew1 HB.out)
             refine start_ (n := 13) (S := fun w' => w'.cell? ⟨qp, 0, none⟩ = some (.slice A0_0 l0_0.length c0_0) ∧ w'.cell? ⟨qp, 1, none⟩ = some (.int .i64 a0_1) ∧ w'.cell? ⟨qp, 2, none⟩ = some (.bool a0_2) ∧ w'.cell? ⟨qq, 0, none⟩ = some (.slice A2_0 l2_0.length c2_0) ∧ w'.cell? ⟨qq, 1, none⟩ = some (.int .i64 a2_1) ∧ w'.cell? ⟨qq, 2, none⟩ = some (.bool a2_2)) (ds := []) #[false, false, false, false, false, false, false, false, false, false, false, false, false] (by kernel_rfl) rfl rfl ⟨bc_ qb 0, bc_ qb 1, bc_ qb 2, bc_ qd 0, bc_ qd 1, bc_ qd 2⟩ (fun hHeld => ?_); refine with_tabW laws_FnExactMixAtoms.tab31 laws_FnExactMixAtoms.bits31 (fun HT_ HW_ => ?_)
             generalize Dj.drew = Mf at qf qc qe qa qb qd qh qi qj qg HB hHeld ⊢
             refine pure_ (i := 2) (N := some 105) (v := ?_) (a' := ?_) #[false, false, true, false, false, false, false, false, false, false, false, false, false] rfl rfl (any_of HT_.out (by kernel_rfl)) (fun _ _ _ h => h) (Or.inl ⟨by rfl, ?_⟩) ?_ ?_
             rotate_left
             ·
              intro w'
              go_simp
              with_reducible rfl
             rotate_left
             ·
              simp only [Act.put, List.setIfInBounds_toArray, List.set_cons_zero, List.set_cons_succ, i64_w, i32_w]
              rfl
             refine pure_ (i := 5) (N := some 108) (v := ?_) (a' := ?_) #[false, false, true, false, false, true, false, false, false, false, false, false, false] rfl rfl (any_of HT_.out (by kernel_rfl)) (fun _ _ _ h => h) (Or.inl ⟨by rfl, ?_⟩) ?_ ?_
             rotate_left
             ·
              intro w'
              go_simp
              with_reducible rfl
             rotate_left
             ·
              simp only [Act.put, List.setIfInBounds_toArray, List.set_cons_zero, List.set_cons_succ, i64_w, i32_w]
              rfl
             refine take_ (i := 0) (N := some 103) (v := ?_) (a' := ?_) #[true, false, true, false, false, true, false, false, false, false, false, false, false] rfl rfl (take_ofW HT_.out HW_.out (by kernel_rfl)) (fun _ _ _ h => h) (Or.inl ⟨by rfl, ?_⟩) hHeld ?_ ?_
             rotate_left
             ·
              rintro w' ⟨s0, s1, s2, s3, s4, s5⟩
              go_simp
              with_reducible rfl
             rotate_left
             ·
              simp only [Act.put, List.setIfInBounds_toArray, List.set_cons_zero, List.set_cons_succ, i64_w, i32_w]
              rfl
             refine take_ (i := 3) (N := some 106) (v := ?_) (a' := ?_) #[true, false, true, true, false, true, false, false, false, false, false, false, false] rfl rfl (take_ofW HT_.out HW_.out (by kernel_rfl)) (fun _ _ _ h => h) (Or.inl ⟨by rfl, ?_⟩) hHeld ?_ ?_
             rotate_left
             ·
              rintro w' ⟨s0, s1, s2, s3, s4, s5⟩
              go_simp
              with_reducible rfl
             rotate_left
             ·
              simp only [Act.put, List.setIfInBounds_toArray, List.set_cons_zero, List.set_cons_succ, i64_w, i32_w]
              rfl
             refine join_ (σ := Value × Value × Value × Nat) 2 #[true, true, true, true, true, true, true, true, true, true, true, false, false] (fun s_ => [(104, .agg #[s_.1, .int .i64 jp, .bool jq]), (107, .agg #[s_.2.1, .int .i64 jr, .bool js]), (109, .tuple #[.agg #[s_.2.2.1, .int .i64 zv, .bool zw], .bool jK]), (19, .pointer (some ⟨s_.2.2.2, 0, none⟩)), (102, .tuple #[.agg #[s_.2.2.1, .int .i64 zv, .bool zw], .bool jK]), (110, .agg #[s_.2.2.1, .int .i64 zv, .bool zw]), (111, .bool jK)]) (fun s_ w' => (w'.cell? ⟨qp, 0, none⟩ = some (.slice A0_0 l0_0.length c0_0) ∧ w'.cell? ⟨qp, 1, none⟩ = some (.int .i64 a0_1) ∧ w'.cell? ⟨qp, 2, none⟩ = some (.bool a0_2) ∧ w'.cell? ⟨qq, 0, none⟩ = some (.slice A2_0 l2_0.length c2_0) ∧ w'.cell? ⟨qq, 1, none⟩ = some (.int .i64 a2_1) ∧ w'.cell? ⟨qq, 2, none⟩ = some (.bool a2_2)) ∧ (Kd.R (Kd.int .i64) 3 w' w.heap.size (fun k_ => some k_ ≠ (s_.2.1 : Value).ownBlock ∧ some k_ ≠ (s_.2.2.1 : Value).ownBlock ∧ some k_ ≠ (.slice qR qo.length qK : Value).ownBlock ∧ some k_ ≠ (.slice qH zs.length qF : Value).ownBlock ∧ some k_ ≠ (.slice qI zt.length qG : Value).ownBlock ∧ some k_ ≠ (.slice qx ql.length qw : Value).ownBlock) s_.1 z2) ∧ (Kd.R (Kd.int .i64) 3 w' w.heap.size (fun k_ => some k_ ≠ (s_.1 : Value).ownBlock ∧ some k_ ≠ (s_.2.2.1 : Value).ownBlock ∧ some k_ ≠ (.slice qR qo.length qK : Value).ownBlock ∧ some k_ ≠ (.slice qH zs.length qF : Value).ownBlock ∧ some k_ ≠ (.slice qI zt.length qG : Value).ownBlock ∧ some k_ ≠ (.slice qx ql.length qw : Value).ownBlock) s_.2.1 z3) ∧ (Kd.R (Kd.int .i64) 3 w' w.heap.size (fun k_ => some k_ ≠ (s_.1 : Value).ownBlock ∧ some k_ ≠ (s_.2.1 : Value).ownBlock ∧ some k_ ≠ (.slice qR qo.length qK : Value).ownBlock ∧ some k_ ≠ (.slice qH zs.length qF : Value).ownBlock ∧ some k_ ≠ (.slice qI zt.length qG : Value).ownBlock ∧ some k_ ≠ (.slice qx ql.length qw : Value).ownBlock) s_.2.2.1 zh) ∧ (Kd.R (Kd.int .i64) 3 w' w.heap.size (fun k_ => some k_ ≠ (s_.1 : Value).ownBlock ∧ some k_ ≠ (s_.2.1 : Value).ownBlock ∧ some k_ ≠ (s_.2.2.1 : Value).ownBlock ∧ some k_ ≠ (.slice qH zs.length qF : Value).ownBlock ∧ some k_ ≠ (.slice qI zt.length qG : Value).ownBlock ∧ some k_ ≠ (.slice qx ql.length qw : Value).ownBlock) (.slice qR qo.length qK) qo) ∧ (Kd.R (Kd.int .i64) 3 w' w.heap.size (fun k_ => some k_ ≠ (s_.1 : Value).ownBlock ∧ some k_ ≠ (s_.2.1 : Value).ownBlock ∧ some k_ ≠ (s_.2.2.1 : Value).ownBlock ∧ some k_ ≠ (.slice qR qo.length qK : Value).ownBlock ∧ some k_ ≠ (.slice qI zt.length qG : Value).ownBlock ∧ some k_ ≠ (.slice qx ql.length qw : Value).ownBlock) (.slice qH zs.length qF) zs) ∧ (Kd.R (Kd.int .i64) 3 w' w.heap.size (fun k_ => some k_ ≠ (s_.1 : Value).ownBlock ∧ some k_ ≠ (s_.2.1 : Value).ownBlock ∧ some k_ ≠ (s_.2.2.1 : Value).ownBlock ∧ some k_ ≠ (.slice qR qo.length qK : Value).ownBlock ∧ some k_ ≠ (.slice qH zs.length qF : Value).ownBlock ∧ some k_ ≠ (.slice qx ql.length qw : Value).ownBlock) (.slice qI zt.length qG) zt) ∧ (Kd.R (Kd.int .i64) 3 w' w.heap.size (fun k_ => some k_ ≠ (s_.1 : Value).ownBlock ∧ some k_ ≠ (s_.2.1 : Value).ownBlock ∧ some k_ ≠ (s_.2.2.1 : Value).ownBlock ∧ some k_ ≠ (.slice qR qo.length qK : Value).ownBlock ∧ some k_ ≠ (.slice qH zs.length qF : Value).ownBlock ∧ some k_ ≠ (.slice qI zt.length qG : Value).ownBlock) (.slice qx ql.length qw) zn) ∧ (w'.heap[qp]? = some (.cells #[.slice A0_0 l0_0.length c0_0, .int .i64 a0_1, .bool a0_2] 24 (0, 0))) ∧ (w'.heap[qq]? = some (.cells #[.slice A2_0 l2_0.length c2_0, .int .i64 a2_1, .bool a2_2] 24 (0, 0))) ∧ (w'.heap[qn]? = some (.cells #[.slice qR qo.length qK, .int .i64 qy, .bool qA] 26 (0, 0))) ∧ (w'.heap[qO]? = some (.cells #[.slice qH zs.length qF, .int .i64 q0, .bool q2] 26 (0, 0))) ∧ (w'.heap[qT]? = some (.cells #[.slice qI zt.length qG, .int .i64 q1, .bool q3] 26 (0, 0))) ∧ (w'.heap[qv]? = some (.cells #[.slice qx ql.length qw, .int .i64 qr, .bool qs] 26 (0, 0))) ∧ (w'.heap[s_.2.2.2]? = some (.cells #[.slice none 0 0, .int .i64 0, .bool false] 26 (0, 0))) ∧ (w.heap.size ≤ s_.2.2.2) ∧ (w.heap.size ≤ s_.2.2.2) ∧ (qp ≠ s_.2.2.2) ∧ (s_.2.2.2 ≠ qp) ∧ (qq ≠ s_.2.2.2) ∧ (s_.2.2.2 ≠ qq) ∧ (qn ≠ s_.2.2.2) ∧ (s_.2.2.2 ≠ qn) ∧ (qO ≠ s_.2.2.2) ∧ (s_.2.2.2 ≠ qO) ∧ (qT ≠ s_.2.2.2) ∧ (s_.2.2.2 ≠ qT) ∧ (qv ≠ s_.2.2.2) ∧ (s_.2.2.2 ≠ qv) ∧ (Below w.heap.size w w')) ?_ ?_
             rotate_left
             ·
              intro hCont
              refine two_ (i := 1) (j := 10) (Ni := some 104) (Nj := some 19) #[true, true, true, true, false, true, false, false, false, false, false, false, false] #[true, false, true, true, false, true, false, false, false, false, true, false, false] rfl rfl rfl rfl (two_of HT_.out (by kernel_rfl)) (by decide) (by decide) (fun K hK => ?_) (fun K hK => ?_)
              ·
               skip
               refine goes_ Try.func15 (by kernel_rfl) rfl #[.agg #[.slice A0_0 l0_0.length c0_0, .int .i64 a0_1, .bool a0_2]] (by rfl) rfl rfl (by (try simp only [List.map_toArray, List.map_cons, List.map_nil]); first | done | rfl | (simp only [List.length_drop, List.length_take]; rfl)) ?_
               with_reducible refine (laws_toAtom.calls kj110 _ _ l0_0 a0_1 a0_2 z2 jp jq _ ?side1 ?side2 A174.out).mono ?_
               (case side1 => exact cb_ z4 HB)
               (case side2 => exact z5.out)
               rintro e Dk ⟨jt, rfl, ho0, hb⟩
               refine ⟨_, rfl, ?_⟩
               have qS := Aside0.mk (Kd.R_lower (Kd.R_new' (Kd.R_new' (Kd.R_new' (Kd.R_new' ho0 (Kd.R_lt (rm_ qf))) (Kd.R_lt (rm_ qc))) (Kd.R_lt (rm_ qe))) (Kd.R_lt (rm_ qa))) (bz_ HB)); replace qf := Aside0.mk (Kd.R_elder' (rm_ qf) (Kd.R_base ho0) hb); replace qc := Aside0.mk (Kd.R_elder' (rm_ qc) (Kd.R_base ho0) hb); replace qe := Aside0.mk (Kd.R_elder' (rm_ qe) (Kd.R_base ho0) hb); replace qa := Aside0.mk (Kd.R_elder' (rm_ qa) (Kd.R_base ho0) hb); replace qb := kB_ qb hb; replace qd := kB_ qd hb; replace qh := kB_ qh hb; replace qi := kB_ qi hb; replace qj := kB_ qj hb; replace qg := kB_ qg hb; replace HB := bS_ HB hb; (try clear hb); (try clear hb2); (try clear hk); (try clear hi); (try clear ho0)
               refine hK.out _ _ ⟨bc_ qb 0, bc_ qb 1, bc_ qb 2, bc_ qd 0, bc_ qd 1, bc_ qd 2⟩ (fun hHeld => ?_)
               clear hK K
               refine norm_ (a' := ?_) ?_ ?_
               rotate_left
               ·
                show Act.put _ (some 104) _ = _
                simp only [Act.put, List.setIfInBounds_toArray, List.set_cons_zero, List.set_cons_succ, i64_w, i32_w]
                rfl
               refine two_ (i := 4) (j := 10) (Ni := some 107) (Nj := some 19) #[true, true, true, true, true, true, false, false, false, false, false, false, false] #[true, true, true, true, false, true, false, false, false, false, true, false, false] rfl rfl rfl rfl (two_of HT_.out (by kernel_rfl)) (by decide) (by decide) (fun K hK => ?_) (fun K hK => ?_)
               ·
                skip
                refine goes_ Try.func15 (by kernel_rfl) rfl #[.agg #[.slice A2_0 l2_0.length c2_0, .int .i64 a2_1, .bool a2_2]] (by rfl) rfl rfl (by (try simp only [List.map_toArray, List.map_cons, List.map_nil]); first | done | rfl | (simp only [List.length_drop, List.length_take]; rfl)) ?_
                with_reducible refine (laws_toAtom.calls kj110 _ _ l2_0 a2_1 a2_2 z3 jr js _ ?side1 ?side2 A175.out).mono ?_
                (case side1 => exact cb_ z6 HB)
                (case side2 => exact z7.out)
                rintro e JT ⟨ji, rfl, ho0, hb⟩
                refine ⟨_, rfl, ?_⟩
                have qX := Aside0.mk (Kd.R_lower (Kd.R_new' (Kd.R_new' (Kd.R_new' (Kd.R_new' (Kd.R_new' ho0 (Kd.R_lt (rm_ qf))) (Kd.R_lt (rm_ qc))) (Kd.R_lt (rm_ qe))) (Kd.R_lt (rm_ qa))) (Kd.R_lt (rm_ qS))) (bz_ HB)); replace qf := Aside0.mk (Kd.R_elder' (rm_ qf) (Kd.R_base ho0) hb); replace qc := Aside0.mk (Kd.R_elder' (rm_ qc) (Kd.R_base ho0) hb); replace qe := Aside0.mk (Kd.R_elder' (rm_ qe) (Kd.R_base ho0) hb); replace qa := Aside0.mk (Kd.R_elder' (rm_ qa) (Kd.R_base ho0) hb); replace qS := Aside0.mk (Kd.R_elder' (rm_ qS) (Kd.R_base ho0) hb); replace qb := kB_ qb hb; replace qd := kB_ qd hb; replace qh := kB_ qh hb; replace qi := kB_ qi hb; replace qj := kB_ qj hb; replace qg := kB_ qg hb; replace HB := bS_ HB hb; (try clear hb); (try clear hb2); (try clear hk); (try clear hi); (try clear ho0)
                obtain ⟨Jb, Jc, eo190⟩ := Kd.R_slice qS.out
                (first | subst eo190 | (injection eo190 with f1_ f2_ f3_; have f4_ := f1_.symm; have f5_ := f3_.symm; clear f1_ f2_ f3_; subst f4_; subst f5_))
                obtain ⟨z8, z9, eo191⟩ := Kd.R_slice qX.out
                (first | subst eo191 | (injection eo191 with f1_ f2_ f3_; have f4_ := f1_.symm; have f5_ := f3_.symm; clear f1_ f2_ f3_; subst f4_; subst f5_))
                refine hK.out _ _ ⟨bc_ qb 0, bc_ qb 1, bc_ qb 2, bc_ qd 0, bc_ qd 1, bc_ qd 2⟩ (fun hHeld => ?_)
                clear hK K
                refine norm_ (a' := ?_) ?_ ?_
                rotate_left
                ·
                 show Act.put _ (some 107) _ = _
                 simp only [Act.put, List.setIfInBounds_toArray, List.set_cons_zero, List.set_cons_succ, i64_w, i32_w]
                 rfl
                refine two_ (i := 6) (j := 10) (Ni := some 109) (Nj := some 19) #[true, true, true, true, true, true, true, false, false, false, false, false, false] #[true, true, true, true, true, true, false, false, false, false, true, false, false] rfl rfl rfl rfl (two_of HT_.out (by kernel_rfl)) (by decide) (by decide) (fun K hK => ?_) (fun K hK => ?_)
                ·
                 skip
                 refine goes_ Try.func31 (by kernel_rfl) rfl #[.agg #[.slice Jb z2.length Jc, .int .i64 jp, .bool jq], .int .i64 a1, .agg #[.slice z8 z3.length z9, .int .i64 jr, .bool js], .int .i64 a3] (by rfl) rfl rfl (by (try simp only [List.map_toArray, List.map_cons, List.map_nil]); first | done | rfl | (simp only [List.length_drop, List.length_take]; rfl)) ?_
                 with_reducible refine (impl_MixAtoms.calls kj110 _ _ z2 jp jq a1 _ _ z3 jr js a3 zh zv zw jK _ ?side1 ?side2 ?side3 ?side4 A176.out).mono ?_
                 (case side1 => exact cr_ qS)
                 (case side2 => exact (Kd.R_reads' qS.out).2.1)
                 (case side3 => exact cr_ qX)
                 (case side4 => exact (Kd.R_reads' qX.out).2.1)
                 rintro e Mg ⟨jc, rfl, ho0, hb⟩
                 refine ⟨_, rfl, ?_⟩
                 have zz := Aside0.mk (Kd.R_lower (Kd.R_new' (Kd.R_new' (Kd.R_new' (Kd.R_new' (Kd.R_new' (Kd.R_new' ho0 (Kd.R_lt (rm_ qf))) (Kd.R_lt (rm_ qc))) (Kd.R_lt (rm_ qe))) (Kd.R_lt (rm_ qa))) (Kd.R_lt (rm_ qS))) (Kd.R_lt (rm_ qX))) (bz_ HB)); replace qf := Aside0.mk (Kd.R_elder' (rm_ qf) (Kd.R_base ho0) hb); replace qc := Aside0.mk (Kd.R_elder' (rm_ qc) (Kd.R_base ho0) hb); replace qe := Aside0.mk (Kd.R_elder' (rm_ qe) (Kd.R_base ho0) hb); replace qa := Aside0.mk (Kd.R_elder' (rm_ qa) (Kd.R_base ho0) hb); replace qS := Aside0.mk (Kd.R_elder' (rm_ qS) (Kd.R_base ho0) hb); replace qX := Aside0.mk (Kd.R_elder' (rm_ qX) (Kd.R_base ho0) hb); replace qb := kB_ qb hb; replace qd := kB_ qd hb; replace qh := kB_ qh hb; replace qi := kB_ qi hb; replace qj := kB_ qj hb; replace qg := kB_ qg hb; replace HB := bS_ HB hb; (try clear hb); (try clear hb2); (try clear hk); (try clear hi); (try clear ho0)
                 refine hK.out _ _ ⟨bc_ qb 0, bc_ qb 1, bc_ qb 2, bc_ qd 0, bc_ qd 1, bc_ qd 2⟩ (fun hHeld => ?_)
                 clear hK K
                 refine norm_ (a' := ?_) ?_ ?_
                 rotate_left
                 ·
                  show Act.put _ (some 109) _ = _
                  simp only [Act.put, List.setIfInBounds_toArray, List.set_cons_zero, List.set_cons_succ, i64_w, i32_w]
                  rfl
                 refine pure_ (i := 7) (N := some 102) (v := ?_) (a' := ?_) #[true, true, true, true, true, true, true, true, false, false, false, false, false] rfl rfl (any_of HT_.out (by kernel_rfl)) (fun _ _ _ h => h) (Or.inl ⟨by rfl, ?_⟩) ?_ ?_
                 rotate_left
                 ·
                  intro w'
                  go_simp
                  with_reducible rfl
                 rotate_left
                 ·
                  simp only [Act.put, List.setIfInBounds_toArray, List.set_cons_zero, List.set_cons_succ, i64_w, i32_w]
                  rfl
                 refine pure_ (i := 8) (N := some 110) (v := ?_) (a' := ?_) #[true, true, true, true, true, true, true, true, true, false, false, false, false] rfl rfl (any_of HT_.out (by kernel_rfl)) (fun _ _ _ h => h) (Or.inl ⟨by rfl, ?_⟩) ?_ ?_
                 rotate_left
                 ·
                  intro w'
                  go_simp
                  with_reducible rfl
                 rotate_left
                 ·
                  simp only [Act.put, List.setIfInBounds_toArray, List.set_cons_zero, List.set_cons_succ, i64_w, i32_w]
                  rfl
                 refine pure_ (i := 9) (N := some 111) (v := ?_) (a' := ?_) #[true, true, true, true, true, true, true, true, true, true, false, false, false] rfl rfl (any_of HT_.out (by kernel_rfl)) (fun _ _ _ h => h) (Or.inl ⟨by rfl, ?_⟩) ?_ ?_
                 rotate_left
                 ·
                  intro w'
                  go_simp
                  with_reducible rfl
                 rotate_left
                 ·
                  simp only [Act.put, List.setIfInBounds_toArray, List.set_cons_zero, List.set_cons_succ, i64_w, i32_w]
                  rfl
                 refine one_ (i := 10) (N := some 19) #[true, true, true, true, true, true, true, true, true, true, true, false, false] rfl rfl (one_of HT_.out (by kernel_rfl)) (by decide) (fun K hK => ?_)
                 refine box_step ?hg (N := 19) ?hd (cs := #[.slice none 0 0, .int .i64 0, .bool false]) (t := 26) ?hr ?_; (case hd => rfl); (case hg => rfl); (case hr => first | (go_simp; done) | (go_simp; rfl))
                 intro qm hg Jk hbox hb
                 replace qf := rB_ qf hb; replace qc := rB_ qc hb; replace qe := rB_ qe hb; replace qa := rB_ qa hb; replace qS := rB_ qS hb; replace qX := rB_ qX hb; replace zz := rB_ zz hb; have qz := Aside0.mk (hbox); have jv := Aside0.mk ((by rw [hg]; exact (bz_ HB) : w.heap.size ≤ qm)); have jw := Aside0.mk ((by rw [hg]; exact (bz_ HB) : w.heap.size ≤ qm)); replace HB := bS_ HB hb; have qP := Aside0.mk ((nl_ qb hg : qp ≠ qm)); have q9 := Aside0.mk ((ng_ qb hg : qm ≠ qp)); replace qb := kB_ qb hb; have qQ := Aside0.mk ((nl_ qd hg : qq ≠ qm)); have za := Aside0.mk ((ng_ qd hg : qm ≠ qq)); replace qd := kB_ qd hb; have zb := Aside0.mk ((nl_ qh hg : qn ≠ qm)); have zc := Aside0.mk ((ng_ qh hg : qm ≠ qn)); replace qh := kB_ qh hb; have zd := Aside0.mk ((nl_ qi hg : qO ≠ qm)); have ze := Aside0.mk ((ng_ qi hg : qm ≠ qO)); replace qi := kB_ qi hb; have zf := Aside0.mk ((nl_ qj hg : qT ≠ qm)); have zg := Aside0.mk ((ng_ qj hg : qm ≠ qT)); replace qj := kB_ qj hb; have qY := Aside0.mk ((nl_ qg hg : qv ≠ qm)); have qZ := Aside0.mk ((ng_ qg hg : qm ≠ qv)); replace qg := kB_ qg hb; clear hb hbox hg
                 refine hK.out _ _ ⟨bc_ qb 0, bc_ qb 1, bc_ qb 2, bc_ qd 0, bc_ qd 1, bc_ qd 2⟩ (fun hHeld => ?_)
                 clear hK K
                 refine norm_ (a' := ?_) ?_ ?_
                 rotate_left
                 ·
                  show Act.put _ (some 19) _ = _
                  simp only [Act.put, List.setIfInBounds_toArray, List.set_cons_zero, List.set_cons_succ, i64_w, i32_w]
                  rfl
                 exact norm_ (by simp only [putAll, Act.put, List.setIfInBounds_toArray, List.set_cons_zero, List.set_cons_succ]) (hCont (.slice Jb z2.length Jc, .slice z8 z3.length z9, jc, qm) _ ⟨hHeld, (by (with_reducible repeat (first | apply Kd.R_alloc | apply Kd.R_drewN | apply Kd.R_drew)); exact Kd.R_mono qS.out (fun _ hk => ⟨hk.1.2, ⟨hk.2, ⟨hk.1.1.1.1.1.2, ⟨hk.1.1.1.1.2, ⟨hk.1.1.1.2, hk.1.1.2⟩⟩⟩⟩⟩)), (by (with_reducible repeat (first | apply Kd.R_alloc | apply Kd.R_drewN | apply Kd.R_drew)); exact Kd.R_mono qX.out (fun _ hk => ⟨hk.1.2, ⟨hk.2, ⟨hk.1.1.1.1.1.2, ⟨hk.1.1.1.1.2, ⟨hk.1.1.1.2, hk.1.1.2⟩⟩⟩⟩⟩)), (by (with_reducible repeat (first | apply Kd.R_alloc | apply Kd.R_drewN | apply Kd.R_drew)); exact Kd.R_mono zz.out (fun _ hk => ⟨hk.1.2, ⟨hk.2, ⟨hk.1.1.1.1.1.2, ⟨hk.1.1.1.1.2, ⟨hk.1.1.1.2, hk.1.1.2⟩⟩⟩⟩⟩)), (by (with_reducible repeat (first | apply Kd.R_alloc | apply Kd.R_drewN | apply Kd.R_drew)); exact Kd.R_mono qf.out (fun _ hk => ⟨hk.1.1.2, ⟨hk.1.2, ⟨hk.2, ⟨hk.1.1.1.1, ⟨hk.1.1.1.2.1, hk.1.1.1.2.2⟩⟩⟩⟩⟩)), (by (with_reducible repeat (first | apply Kd.R_alloc | apply Kd.R_drewN | apply Kd.R_drew)); exact Kd.R_mono qc.out (fun _ hk => ⟨hk.1.1.2, ⟨hk.1.2, ⟨hk.2, ⟨hk.1.1.1.1, ⟨hk.1.1.1.2.1, hk.1.1.1.2.2⟩⟩⟩⟩⟩)), (by (with_reducible repeat (first | apply Kd.R_alloc | apply Kd.R_drewN | apply Kd.R_drew)); exact Kd.R_mono qe.out (fun _ hk => ⟨hk.1.1.2, ⟨hk.1.2, ⟨hk.2, ⟨hk.1.1.1.1, ⟨hk.1.1.1.2.1, hk.1.1.1.2.2⟩⟩⟩⟩⟩)), (by (with_reducible repeat (first | apply Kd.R_alloc | apply Kd.R_drewN | apply Kd.R_drew)); exact Kd.R_mono qa.out (fun _ hk => ⟨hk.1.1.2, ⟨hk.1.2, ⟨hk.2, ⟨hk.1.1.1.1, ⟨hk.1.1.1.2.1, hk.1.1.1.2.2⟩⟩⟩⟩⟩)), (kf_ qb), (kf_ qd), (kf_ qh), (kf_ qi), (kf_ qj), (kf_ qg), (kf_ qz), jv.out, jw.out, qP.out, q9.out, qQ.out, za.out, zb.out, zc.out, zd.out, ze.out, zf.out, zg.out, qY.out, qZ.out, (bb_ HB)⟩)
                ·
                 skip
                 refine box_step ?hg (N := 19) ?hd (cs := #[.slice none 0 0, .int .i64 0, .bool false]) (t := 26) ?hr ?_; (case hd => rfl); (case hg => rfl); (case hr => first | (go_simp; done) | (go_simp; rfl))
                 intro qm hg JU hbox hb
                 replace qf := rB_ qf hb; replace qc := rB_ qc hb; replace qe := rB_ qe hb; replace qa := rB_ qa hb; replace qS := rB_ qS hb; replace qX := rB_ qX hb; have qz := Aside0.mk (hbox); have jv := Aside0.mk ((by rw [hg]; exact (bz_ HB) : w.heap.size ≤ qm)); have jw := Aside0.mk ((by rw [hg]; exact (bz_ HB) : w.heap.size ≤ qm)); replace HB := bS_ HB hb; have qP := Aside0.mk ((nl_ qb hg : qp ≠ qm)); have q9 := Aside0.mk ((ng_ qb hg : qm ≠ qp)); replace qb := kB_ qb hb; have qQ := Aside0.mk ((nl_ qd hg : qq ≠ qm)); have za := Aside0.mk ((ng_ qd hg : qm ≠ qq)); replace qd := kB_ qd hb; have zb := Aside0.mk ((nl_ qh hg : qn ≠ qm)); have zc := Aside0.mk ((ng_ qh hg : qm ≠ qn)); replace qh := kB_ qh hb; have zd := Aside0.mk ((nl_ qi hg : qO ≠ qm)); have ze := Aside0.mk ((ng_ qi hg : qm ≠ qO)); replace qi := kB_ qi hb; have zf := Aside0.mk ((nl_ qj hg : qT ≠ qm)); have zg := Aside0.mk ((ng_ qj hg : qm ≠ qT)); replace qj := kB_ qj hb; have qY := Aside0.mk ((nl_ qg hg : qv ≠ qm)); have qZ := Aside0.mk ((ng_ qg hg : qm ≠ qv)); replace qg := kB_ qg hb; clear hb hbox hg
                 obtain ⟨z8, z9, eo191⟩ := Kd.R_slice qS.out
                 (first | subst eo191 | (injection eo191 with f1_ f2_ f3_; have f4_ := f1_.symm; have f5_ := f3_.symm; clear f1_ f2_ f3_; subst f4_; subst f5_))
                 obtain ⟨jx, jy, eo192⟩ := Kd.R_slice qX.out
                 (first | subst eo192 | (injection eo192 with f1_ f2_ f3_; have f4_ := f1_.symm; have f5_ := f3_.symm; clear f1_ f2_ f3_; subst f4_; subst f5_))
                 refine hK.out _ _ ⟨bc_ qb 0, bc_ qb 1, bc_ qb 2, bc_ qd 0, bc_ qd 1, bc_ qd 2⟩ (fun hHeld => ?_)
                 clear hK K
                 refine norm_ (a' := ?_) ?_ ?_
                 rotate_left
                 ·
                  show Act.put _ (some 19) _ = _
                  simp only [Act.put, List.setIfInBounds_toArray, List.set_cons_zero, List.set_cons_succ, i64_w, i32_w]
                  rfl
                 refine one_ (i := 6) (N := some 109) #[true, true, true, true, true, true, true, false, false, false, true, false, false] rfl rfl (one_of HT_.out (by kernel_rfl)) (by decide) (fun K hK => ?_)
                 refine goes_ Try.func31 (by kernel_rfl) rfl #[.agg #[.slice z8 z2.length z9, .int .i64 jp, .bool jq], .int .i64 a1, .agg #[.slice jx z3.length jy, .int .i64 jr, .bool js], .int .i64 a3] (by rfl) rfl rfl (by (try simp only [List.map_toArray, List.map_cons, List.map_nil]); first | done | rfl | (simp only [List.length_drop, List.length_take]; rfl)) ?_
                 with_reducible refine (impl_MixAtoms.calls kj110 _ _ z2 jp jq a1 _ _ z3 jr js a3 zh zv zw jK _ ?side1 ?side2 ?side3 ?side4 A176.out).mono ?_
                 (case side1 => exact cr_ qS)
                 (case side2 => exact (Kd.R_reads' qS.out).2.1)
                 (case side3 => exact cr_ qX)
                 (case side4 => exact (Kd.R_reads' qX.out).2.1)
                 rintro e Jk ⟨jc, rfl, ho0, hb⟩
                 refine ⟨_, rfl, ?_⟩
                 have zz := Aside0.mk (Kd.R_lower (Kd.R_new' (Kd.R_new' (Kd.R_new' (Kd.R_new' (Kd.R_new' (Kd.R_new' ho0 (Kd.R_lt (rm_ qf))) (Kd.R_lt (rm_ qc))) (Kd.R_lt (rm_ qe))) (Kd.R_lt (rm_ qa))) (Kd.R_lt (rm_ qS))) (Kd.R_lt (rm_ qX))) (bz_ HB)); replace qf := Aside0.mk (Kd.R_elder' (rm_ qf) (Kd.R_base ho0) hb); replace qc := Aside0.mk (Kd.R_elder' (rm_ qc) (Kd.R_base ho0) hb); replace qe := Aside0.mk (Kd.R_elder' (rm_ qe) (Kd.R_base ho0) hb); replace qa := Aside0.mk (Kd.R_elder' (rm_ qa) (Kd.R_base ho0) hb); replace qS := Aside0.mk (Kd.R_elder' (rm_ qS) (Kd.R_base ho0) hb); replace qX := Aside0.mk (Kd.R_elder' (rm_ qX) (Kd.R_base ho0) hb); replace qb := kB_ qb hb; replace qd := kB_ qd hb; replace qh := kB_ qh hb; replace qi := kB_ qi hb; replace qj := kB_ qj hb; replace qg := kB_ qg hb; replace qz := kB_ qz hb; replace HB := bS_ HB hb; (try clear hb); (try clear hb2); (try clear hk); (try clear hi); (try clear ho0)
                 refine hK.out _ _ ⟨bc_ qb 0, bc_ qb 1, bc_ qb 2, bc_ qd 0, bc_ qd 1, bc_ qd 2⟩ (fun hHeld => ?_)
                 clear hK K
                 refine norm_ (a' := ?_) ?_ ?_
                 rotate_left
                 ·
                  show Act.put _ (some 109) _ = _
                  simp only [Act.put, List.setIfInBounds_toArray, List.set_cons_zero, List.set_cons_succ, i64_w, i32_w]
                  rfl
                 refine pure_ (i := 7) (N := some 102) (v := ?_) (a' := ?_) #[true, true, true, true, true, true, true, true, false, false, true, false, false] rfl rfl (any_of HT_.out (by kernel_rfl)) (fun _ _ _ h => h) (Or.inl ⟨by rfl, ?_⟩) ?_ ?_
                 rotate_left
                 ·
                  intro w'
                  go_simp
                  with_reducible rfl
                 rotate_left
                 ·
                  simp only [Act.put, List.setIfInBounds_toArray, List.set_cons_zero, List.set_cons_succ, i64_w, i32_w]
                  rfl
                 refine pure_ (i := 8) (N := some 110) (v := ?_) (a' := ?_) #[true, true, true, true, true, true, true, true, true, false, true, false, false] rfl rfl (any_of HT_.out (by kernel_rfl)) (fun _ _ _ h => h) (Or.inl ⟨by rfl, ?_⟩) ?_ ?_
                 rotate_left
                 ·
                  intro w'
                  go_simp
                  with_reducible rfl
                 rotate_left
                 ·
                  simp only [Act.put, List.setIfInBounds_toArray, List.set_cons_zero, List.set_cons_succ, i64_w, i32_w]
                  rfl
                 refine pure_ (i := 9) (N := some 111) (v := ?_) (a' := ?_) #[true, true, true, true, true, true, true, true, true, true, true, false, false] rfl rfl (any_of HT_.out (by kernel_rfl)) (fun _ _ _ h => h) (Or.inl ⟨by rfl, ?_⟩) ?_ ?_
                 rotate_left
                 ·
                  intro w'
                  go_simp
                  with_reducible rfl
                 rotate_left
                 ·
                  simp only [Act.put, List.setIfInBounds_toArray, List.set_cons_zero, List.set_cons_succ, i64_w, i32_w]
                  rfl
                 exact norm_ (by simp only [putAll, Act.put, List.setIfInBounds_toArray, List.set_cons_zero, List.set_cons_succ]) (hCont (.slice z8 z2.length z9, .slice jx z3.length jy, jc, qm) _ ⟨hHeld, (by (with_reducible repeat (first | apply Kd.R_alloc | apply Kd.R_drewN | apply Kd.R_drew)); exact Kd.R_mono qS.out (fun _ hk => ⟨hk.1.2, ⟨hk.2, ⟨hk.1.1.1.1.1.2, ⟨hk.1.1.1.1.2, ⟨hk.1.1.1.2, hk.1.1.2⟩⟩⟩⟩⟩)), (by (with_reducible repeat (first | apply Kd.R_alloc | apply Kd.R_drewN | apply Kd.R_drew)); exact Kd.R_mono qX.out (fun _ hk => ⟨hk.1.2, ⟨hk.2, ⟨hk.1.1.1.1.1.2, ⟨hk.1.1.1.1.2, ⟨hk.1.1.1.2, hk.1.1.2⟩⟩⟩⟩⟩)), (by (with_reducible repeat (first | apply Kd.R_alloc | apply Kd.R_drewN | apply Kd.R_drew)); exact Kd.R_mono zz.out (fun _ hk => ⟨hk.1.2, ⟨hk.2, ⟨hk.1.1.1.1.1.2, ⟨hk.1.1.1.1.2, ⟨hk.1.1.1.2, hk.1.1.2⟩⟩⟩⟩⟩)), (by (with_reducible repeat (first | apply Kd.R_alloc | apply Kd.R_drewN | apply Kd.R_drew)); exact Kd.R_mono qf.out (fun _ hk => ⟨hk.1.1.2, ⟨hk.1.2, ⟨hk.2, ⟨hk.1.1.1.1, ⟨hk.1.1.1.2.1, hk.1.1.1.2.2⟩⟩⟩⟩⟩)), (by (with_reducible repeat (first | apply Kd.R_alloc | apply Kd.R_drewN | apply Kd.R_drew)); exact Kd.R_mono qc.out (fun _ hk => ⟨hk.1.1.2, ⟨hk.1.2, ⟨hk.2, ⟨hk.1.1.1.1, ⟨hk.1.1.1.2.1, hk.1.1.1.2.2⟩⟩⟩⟩⟩)), (by (with_reducible repeat (first | apply Kd.R_alloc | apply Kd.R_drewN | apply Kd.R_drew)); exact Kd.R_mono qe.out (fun _ hk => ⟨hk.1.1.2, ⟨hk.1.2, ⟨hk.2, ⟨hk.1.1.1.1, ⟨hk.1.1.1.2.1, hk.1.1.1.2.2⟩⟩⟩⟩⟩)), (by (with_reducible repeat (first | apply Kd.R_alloc | apply Kd.R_drewN | apply Kd.R_drew)); exact Kd.R_mono qa.out (fun _ hk => ⟨hk.1.1.2, ⟨hk.1.2, ⟨hk.2, ⟨hk.1.1.1.1, ⟨hk.1.1.1.2.1, hk.1.1.1.2.2⟩⟩⟩⟩⟩)), (kf_ qb), (kf_ qd), (kf_ qh), (kf_ qi), (kf_ qj), (kf_ qg), (kf_ qz), jv.out, jw.out, qP.out, q9.out, qQ.out, za.out, zb.out, zc.out, zd.out, ze.out, zf.out, zg.out, qY.out, qZ.out, (bb_ HB)⟩)
               ·
                skip
                refine box_step ?hg (N := 19) ?hd (cs := #[.slice none 0 0, .int .i64 0, .bool false]) (t := 26) ?hr ?_; (case hd => rfl); (case hg => rfl); (case hr => first | (go_simp; done) | (go_simp; rfl))
                intro qm hg JT hbox hb
                replace qf := rB_ qf hb; replace qc := rB_ qc hb; replace qe := rB_ qe hb; replace qa := rB_ qa hb; replace qS := rB_ qS hb; have qz := Aside0.mk (hbox); have jv := Aside0.mk ((by rw [hg]; exact (bz_ HB) : w.heap.size ≤ qm)); have jw := Aside0.mk ((by rw [hg]; exact (bz_ HB) : w.heap.size ≤ qm)); replace HB := bS_ HB hb; have qP := Aside0.mk ((nl_ qb hg : qp ≠ qm)); have q9 := Aside0.mk ((ng_ qb hg : qm ≠ qp)); replace qb := kB_ qb hb; have qQ := Aside0.mk ((nl_ qd hg : qq ≠ qm)); have za := Aside0.mk ((ng_ qd hg : qm ≠ qq)); replace qd := kB_ qd hb; have zb := Aside0.mk ((nl_ qh hg : qn ≠ qm)); have zc := Aside0.mk ((ng_ qh hg : qm ≠ qn)); replace qh := kB_ qh hb; have zd := Aside0.mk ((nl_ qi hg : qO ≠ qm)); have ze := Aside0.mk ((ng_ qi hg : qm ≠ qO)); replace qi := kB_ qi hb; have zf := Aside0.mk ((nl_ qj hg : qT ≠ qm)); have zg := Aside0.mk ((ng_ qj hg : qm ≠ qT)); replace qj := kB_ qj hb; have qY := Aside0.mk ((nl_ qg hg : qv ≠ qm)); have qZ := Aside0.mk ((ng_ qg hg : qm ≠ qv)); replace qg := kB_ qg hb; clear hb hbox hg
                refine hK.out _ _ ⟨bc_ qb 0, bc_ qb 1, bc_ qb 2, bc_ qd 0, bc_ qd 1, bc_ qd 2⟩ (fun hHeld => ?_)
                clear hK K
                refine norm_ (a' := ?_) ?_ ?_
                rotate_left
                ·
                 show Act.put _ (some 19) _ = _
                 simp only [Act.put, List.setIfInBounds_toArray, List.set_cons_zero, List.set_cons_succ, i64_w, i32_w]
                 rfl
                refine one_ (i := 4) (N := some 107) #[true, true, true, true, true, true, false, false, false, false, true, false, false] rfl rfl (one_of HT_.out (by kernel_rfl)) (by decide) (fun K hK => ?_)
                refine goes_ Try.func15 (by kernel_rfl) rfl #[.agg #[.slice A2_0 l2_0.length c2_0, .int .i64 a2_1, .bool a2_2]] (by rfl) rfl rfl (by (try simp only [List.map_toArray, List.map_cons, List.map_nil]); first | done | rfl | (simp only [List.length_drop, List.length_take]; rfl)) ?_
                with_reducible refine (laws_toAtom.calls kj110 _ _ l2_0 a2_1 a2_2 z3 jr js _ ?side1 ?side2 A175.out).mono ?_
                (case side1 => exact cb_ z6 HB)
                (case side2 => exact z7.out)
                rintro e JU ⟨ji, rfl, ho0, hb⟩
                refine ⟨_, rfl, ?_⟩
                have qX := Aside0.mk (Kd.R_lower (Kd.R_new' (Kd.R_new' (Kd.R_new' (Kd.R_new' (Kd.R_new' ho0 (Kd.R_lt (rm_ qf))) (Kd.R_lt (rm_ qc))) (Kd.R_lt (rm_ qe))) (Kd.R_lt (rm_ qa))) (Kd.R_lt (rm_ qS))) (bz_ HB)); replace qf := Aside0.mk (Kd.R_elder' (rm_ qf) (Kd.R_base ho0) hb); replace qc := Aside0.mk (Kd.R_elder' (rm_ qc) (Kd.R_base ho0) hb); replace qe := Aside0.mk (Kd.R_elder' (rm_ qe) (Kd.R_base ho0) hb); replace qa := Aside0.mk (Kd.R_elder' (rm_ qa) (Kd.R_base ho0) hb); replace qS := Aside0.mk (Kd.R_elder' (rm_ qS) (Kd.R_base ho0) hb); replace qb := kB_ qb hb; replace qd := kB_ qd hb; replace qh := kB_ qh hb; replace qi := kB_ qi hb; replace qj := kB_ qj hb; replace qg := kB_ qg hb; replace qz := kB_ qz hb; replace HB := bS_ HB hb; (try clear hb); (try clear hb2); (try clear hk); (try clear hi); (try clear ho0)
                obtain ⟨z8, z9, eo191⟩ := Kd.R_slice qS.out
                (first | subst eo191 | (injection eo191 with f1_ f2_ f3_; have f4_ := f1_.symm; have f5_ := f3_.symm; clear f1_ f2_ f3_; subst f4_; subst f5_))
                obtain ⟨jx, jy, eo192⟩ := Kd.R_slice qX.out
                (first | subst eo192 | (injection eo192 with f1_ f2_ f3_; have f4_ := f1_.symm; have f5_ := f3_.symm; clear f1_ f2_ f3_; subst f4_; subst f5_))
                refine hK.out _ _ ⟨bc_ qb 0, bc_ qb 1, bc_ qb 2, bc_ qd 0, bc_ qd 1, bc_ qd 2⟩ (fun hHeld => ?_)
                clear hK K
                refine norm_ (a' := ?_) ?_ ?_
                rotate_left
                ·
                 show Act.put _ (some 107) _ = _
                 simp only [Act.put, List.setIfInBounds_toArray, List.set_cons_zero, List.set_cons_succ, i64_w, i32_w]
                 rfl
                refine one_ (i := 6) (N := some 109) #[true, true, true, true, true, true, true, false, false, false, true, false, false] rfl rfl (one_of HT_.out (by kernel_rfl)) (by decide) (fun K hK => ?_)
                refine goes_ Try.func31 (by kernel_rfl) rfl #[.agg #[.slice z8 z2.length z9, .int .i64 jp, .bool jq], .int .i64 a1, .agg #[.slice jx z3.length jy, .int .i64 jr, .bool js], .int .i64 a3] (by rfl) rfl rfl (by (try simp only [List.map_toArray, List.map_cons, List.map_nil]); first | done | rfl | (simp only [List.length_drop, List.length_take]; rfl)) ?_
                with_reducible refine (impl_MixAtoms.calls kj110 _ _ z2 jp jq a1 _ _ z3 jr js a3 zh zv zw jK _ ?side1 ?side2 ?side3 ?side4 A176.out).mono ?_
                (case side1 => exact cr_ qS)
                (case side2 => exact (Kd.R_reads' qS.out).2.1)
                (case side3 => exact cr_ qX)
                (case side4 => exact (Kd.R_reads' qX.out).2.1)
                rintro e Jk ⟨jc, rfl, ho0, hb⟩
                refine ⟨_, rfl, ?_⟩
                have zz := Aside0.mk (Kd.R_lower (Kd.R_new' (Kd.R_new' (Kd.R_new' (Kd.R_new' (Kd.R_new' (Kd.R_new' ho0 (Kd.R_lt (rm_ qf))) (Kd.R_lt (rm_ qc))) (Kd.R_lt (rm_ qe))) (Kd.R_lt (rm_ qa))) (Kd.R_lt (rm_ qS))) (Kd.R_lt (rm_ qX))) (bz_ HB)); replace qf := Aside0.mk (Kd.R_elder' (rm_ qf) (Kd.R_base ho0) hb); replace qc := Aside0.mk (Kd.R_elder' (rm_ qc) (Kd.R_base ho0) hb); replace qe := Aside0.mk (Kd.R_elder' (rm_ qe) (Kd.R_base ho0) hb); replace qa := Aside0.mk (Kd.R_elder' (rm_ qa) (Kd.R_base ho0) hb); replace qS := Aside0.mk (Kd.R_elder' (rm_ qS) (Kd.R_base ho0) hb); replace qX := Aside0.mk (Kd.R_elder' (rm_ qX) (Kd.R_base ho0) hb); replace qb := kB_ qb hb; replace qd := kB_ qd hb; replace qh := kB_ qh hb; replace qi := kB_ qi hb; replace qj := kB_ qj hb; replace qg := kB_ qg hb; replace qz := kB_ qz hb; replace HB := bS_ HB hb; (try clear hb); (try clear hb2); (try clear hk); (try clear hi); (try clear ho0)
                refine hK.out _ _ ⟨bc_ qb 0, bc_ qb 1, bc_ qb 2, bc_ qd 0, bc_ qd 1, bc_ qd 2⟩ (fun hHeld => ?_)
                clear hK K
                refine norm_ (a' := ?_) ?_ ?_
                rotate_left
                ·
                 show Act.put _ (some 109) _ = _
                 simp only [Act.put, List.setIfInBounds_toArray, List.set_cons_zero, List.set_cons_succ, i64_w, i32_w]
                 rfl
                refine pure_ (i := 7) (N := some 102) (v := ?_) (a' := ?_) #[true, true, true, true, true, true, true, true, false, false, true, false, false] rfl rfl (any_of HT_.out (by kernel_rfl)) (fun _ _ _ h => h) (Or.inl ⟨by rfl, ?_⟩) ?_ ?_
                rotate_left
                ·
                 intro w'
                 go_simp
                 with_reducible rfl
                rotate_left
                ·
                 simp only [Act.put, List.setIfInBounds_toArray, List.set_cons_zero, List.set_cons_succ, i64_w, i32_w]
                 rfl
                refine pure_ (i := 8) (N := some 110) (v := ?_) (a' := ?_) #[true, true, true, true, true, true, true, true, true, false, true, false, false] rfl rfl (any_of HT_.out (by kernel_rfl)) (fun _ _ _ h => h) (Or.inl ⟨by rfl, ?_⟩) ?_ ?_
                rotate_left
                ·
                 intro w'
                 go_simp
                 with_reducible rfl
                rotate_left
                ·
                 simp only [Act.put, List.setIfInBounds_toArray, List.set_cons_zero, List.set_cons_succ, i64_w, i32_w]
                 rfl
                refine pure_ (i := 9) (N := some 111) (v := ?_) (a' := ?_) #[true, true, true, true, true, true, true, true, true, true, true, false, false] rfl rfl (any_of HT_.out (by kernel_rfl)) (fun _ _ _ h => h) (Or.inl ⟨by rfl, ?_⟩) ?_ ?_
                rotate_left
                ·
                 intro w'
                 go_simp
                 with_reducible rfl
                rotate_left
                ·
                 simp only [Act.put, List.setIfInBounds_toArray, List.set_cons_zero, List.set_cons_succ, i64_w, i32_w]
                 rfl
                exact norm_ (by simp only [putAll, Act.put, List.setIfInBounds_toArray, List.set_cons_zero, List.set_cons_succ]) (hCont (.slice z8 z2.length z9, .slice jx z3.length jy, jc, qm) _ ⟨hHeld, (by (with_reducible repeat (first | apply Kd.R_alloc | apply Kd.R_drewN | apply Kd.R_drew)); exact Kd.R_mono qS.out (fun _ hk => ⟨hk.1.2, ⟨hk.2, ⟨hk.1.1.1.1.1.2, ⟨hk.1.1.1.1.2, ⟨hk.1.1.1.2, hk.1.1.2⟩⟩⟩⟩⟩)), (by (with_reducible repeat (first | apply Kd.R_alloc | apply Kd.R_drewN | apply Kd.R_drew)); exact Kd.R_mono qX.out (fun _ hk => ⟨hk.1.2, ⟨hk.2, ⟨hk.1.1.1.1.1.2, ⟨hk.1.1.1.1.2, ⟨hk.1.1.1.2, hk.1.1.2⟩⟩⟩⟩⟩)), (by (with_reducible repeat (first | apply Kd.R_alloc | apply Kd.R_drewN | apply Kd.R_drew)); exact Kd.R_mono zz.out (fun _ hk => ⟨hk.1.2, ⟨hk.2, ⟨hk.1.1.1.1.1.2, ⟨hk.1.1.1.1.2, ⟨hk.1.1.1.2, hk.1.1.2⟩⟩⟩⟩⟩)), (by (with_reducible repeat (first | apply Kd.R_alloc | apply Kd.R_drewN | apply Kd.R_drew)); exact Kd.R_mono qf.out (fun _ hk => ⟨hk.1.1.2, ⟨hk.1.2, ⟨hk.2, ⟨hk.1.1.1.1, ⟨hk.1.1.1.2.1, hk.1.1.1.2.2⟩⟩⟩⟩⟩)), (by (with_reducible repeat (first | apply Kd.R_alloc | apply Kd.R_drewN | apply Kd.R_drew)); exact Kd.R_mono qc.out (fun _ hk => ⟨hk.1.1.2, ⟨hk.1.2, ⟨hk.2, ⟨hk.1.1.1.1, ⟨hk.1.1.1.2.1, hk.1.1.1.2.2⟩⟩⟩⟩⟩)), (by (with_reducible repeat (first | apply Kd.R_alloc | apply Kd.R_drewN | apply Kd.R_drew)); exact Kd.R_mono qe.out (fun _ hk => ⟨hk.1.1.2, ⟨hk.1.2, ⟨hk.2, ⟨hk.1.1.1.1, ⟨hk.1.1.1.2.1, hk.1.1.1.2.2⟩⟩⟩⟩⟩)), (by (with_reducible repeat (first | apply Kd.R_alloc | apply Kd.R_drewN | apply Kd.R_drew)); exact Kd.R_mono qa.out (fun _ hk => ⟨hk.1.1.2, ⟨hk.1.2, ⟨hk.2, ⟨hk.1.1.1.1, ⟨hk.1.1.1.2.1, hk.1.1.1.2.2⟩⟩⟩⟩⟩)), (kf_ qb), (kf_ qd), (kf_ qh), (kf_ qi), (kf_ qj), (kf_ qg), (kf_ qz), jv.out, jw.out, qP.out, q9.out, qQ.out, za.out, zb.out, zc.out, zd.out, ze.out, zf.out, zg.out, qY.out, qZ.out, (bb_ HB)⟩)
              ·
               skip
               refine box_step ?hg (N := 19) ?hd (cs := #[.slice none 0 0, .int .i64 0, .bool false]) (t := 26) ?hr ?_; (case hd => rfl); (case hg => rfl); (case hr => first | (go_simp; done) | (go_simp; rfl))
               intro qm hg Dk hbox hb
               replace qf := rB_ qf hb; replace qc := rB_ qc hb; replace qe := rB_ qe hb; replace qa := rB_ qa hb; have qz := Aside0.mk (hbox); have jv := Aside0.mk ((by rw [hg]; exact (bz_ HB) : w.heap.size ≤ qm)); have jw := Aside0.mk ((by rw [hg]; exact (bz_ HB) : w.heap.size ≤ qm)); replace HB := bS_ HB hb; have qP := Aside0.mk ((nl_ qb hg : qp ≠ qm)); have q9 := Aside0.mk ((ng_ qb hg : qm ≠ qp)); replace qb := kB_ qb hb; have qQ := Aside0.mk ((nl_ qd hg : qq ≠ qm)); have za := Aside0.mk ((ng_ qd hg : qm ≠ qq)); replace qd := kB_ qd hb; have zb := Aside0.mk ((nl_ qh hg : qn ≠ qm)); have zc := Aside0.mk ((ng_ qh hg : qm ≠ qn)); replace qh := kB_ qh hb; have zd := Aside0.mk ((nl_ qi hg : qO ≠ qm)); have ze := Aside0.mk ((ng_ qi hg : qm ≠ qO)); replace qi := kB_ qi hb; have zf := Aside0.mk ((nl_ qj hg : qT ≠ qm)); have zg := Aside0.mk ((ng_ qj hg : qm ≠ qT)); replace qj := kB_ qj hb; have qY := Aside0.mk ((nl_ qg hg : qv ≠ qm)); have qZ := Aside0.mk ((ng_ qg hg : qm ≠ qv)); replace qg := kB_ qg hb; clear hb hbox hg
               refine hK.out _ _ ⟨bc_ qb 0, bc_ qb 1, bc_ qb 2, bc_ qd 0, bc_ qd 1, bc_ qd 2⟩ (fun hHeld => ?_)
               clear hK K
               refine norm_ (a' := ?_) ?_ ?_
               rotate_left
               ·
                show Act.put _ (some 19) _ = _
                simp only [Act.put, List.setIfInBounds_toArray, List.set_cons_zero, List.set_cons_succ, i64_w, i32_w]
                rfl
               refine one_ (i := 1) (N := some 104) #[true, true, true, true, false, true, false, false, false, false, true, false, false] rfl rfl (one_of HT_.out (by kernel_rfl)) (by decide) (fun K hK => ?_)
               refine goes_ Try.func15 (by kernel_rfl) rfl #[.agg #[.slice A0_0 l0_0.length c0_0, .int .i64 a0_1, .bool a0_2]] (by rfl) rfl rfl (by (try simp only [List.map_toArray, List.map_cons, List.map_nil]); first | done | rfl | (simp only [List.length_drop, List.length_take]; rfl)) ?_
               with_reducible refine (laws_toAtom.calls kj110 _ _ l0_0 a0_1 a0_2 z2 jp jq _ ?side1 ?side2 A174.out).mono ?_
               (case side1 => exact cb_ z4 HB)
               (case side2 => exact z5.out)
               rintro e JT ⟨jt, rfl, ho0, hb⟩
               refine ⟨_, rfl, ?_⟩
               have qS := Aside0.mk (Kd.R_lower (Kd.R_new' (Kd.R_new' (Kd.R_new' (Kd.R_new' ho0 (Kd.R_lt (rm_ qf))) (Kd.R_lt (rm_ qc))) (Kd.R_lt (rm_ qe))) (Kd.R_lt (rm_ qa))) (bz_ HB)); replace qf := Aside0.mk (Kd.R_elder' (rm_ qf) (Kd.R_base ho0) hb); replace qc := Aside0.mk (Kd.R_elder' (rm_ qc) (Kd.R_base ho0) hb); replace qe := Aside0.mk (Kd.R_elder' (rm_ qe) (Kd.R_base ho0) hb); replace qa := Aside0.mk (Kd.R_elder' (rm_ qa) (Kd.R_base ho0) hb); replace qb := kB_ qb hb; replace qd := kB_ qd hb; replace qh := kB_ qh hb; replace qi := kB_ qi hb; replace qj := kB_ qj hb; replace qg := kB_ qg hb; replace qz := kB_ qz hb; replace HB := bS_ HB hb; (try clear hb); (try clear hb2); (try clear hk); (try clear hi); (try clear ho0)
               refine hK.out _ _ ⟨bc_ qb 0, bc_ qb 1, bc_ qb 2, bc_ qd 0, bc_ qd 1, bc_ qd 2⟩ (fun hHeld => ?_)
               clear hK K
               refine norm_ (a' := ?_) ?_ ?_
               rotate_left
               ·
                show Act.put _ (some 104) _ = _
                simp only [Act.put, List.setIfInBounds_toArray, List.set_cons_zero, List.set_cons_succ, i64_w, i32_w]
                rfl
               refine one_ (i := 4) (N := some 107) #[true, true, true, true, true, true, false, false, false, false, true, false, false] rfl rfl (one_of HT_.out (by kernel_rfl)) (by decide) (fun K hK => ?_)
               refine goes_ Try.func15 (by kernel_rfl) rfl #[.agg #[.slice A2_0 l2_0.length c2_0, .int .i64 a2_1, .bool a2_2]] (by rfl) rfl rfl (by (try simp only [List.map_toArray, List.map_cons, List.map_nil]); first | done | rfl | (simp only [List.length_drop, List.length_take]; rfl)) ?_
               with_reducible refine (laws_toAtom.calls kj110 _ _ l2_0 a2_1 a2_2 z3 jr js _ ?side1 ?side2 A175.out).mono ?_
               (case side1 => exact cb_ z6 HB)
               (case side2 => exact z7.out)
               rintro e JU ⟨ji, rfl, ho0, hb⟩
               refine ⟨_, rfl, ?_⟩
               have qX := Aside0.mk (Kd.R_lower (Kd.R_new' (Kd.R_new' (Kd.R_new' (Kd.R_new' (Kd.R_new' ho0 (Kd.R_lt (rm_ qf))) (Kd.R_lt (rm_ qc))) (Kd.R_lt (rm_ qe))) (Kd.R_lt (rm_ qa))) (Kd.R_lt (rm_ qS))) (bz_ HB)); replace qf := Aside0.mk (Kd.R_elder' (rm_ qf) (Kd.R_base ho0) hb); replace qc := Aside0.mk (Kd.R_elder' (rm_ qc) (Kd.R_base ho0) hb); replace qe := Aside0.mk (Kd.R_elder' (rm_ qe) (Kd.R_base ho0) hb); replace qa := Aside0.mk (Kd.R_elder' (rm_ qa) (Kd.R_base ho0) hb); replace qS := Aside0.mk (Kd.R_elder' (rm_ qS) (Kd.R_base ho0) hb); replace qb := kB_ qb hb; replace qd := kB_ qd hb; replace qh := kB_ qh hb; replace qi := kB_ qi hb; replace qj := kB_ qj hb; replace qg := kB_ qg hb; replace qz := kB_ qz hb; replace HB := bS_ HB hb; (try clear hb); (try clear hb2); (try clear hk); (try clear hi); (try clear ho0)
               obtain ⟨z8, z9, eo191⟩ := Kd.R_slice qS.out
               (first | subst eo191 | (injection eo191 with f1_ f2_ f3_; have f4_ := f1_.symm; have f5_ := f3_.symm; clear f1_ f2_ f3_; subst f4_; subst f5_))
               obtain ⟨jx, jy, eo192⟩ := Kd.R_slice qX.out
               (first | subst eo192 | (injection eo192 with f1_ f2_ f3_; have f4_ := f1_.symm; have f5_ := f3_.symm; clear f1_ f2_ f3_; subst f4_; subst f5_))
               refine hK.out _ _ ⟨bc_ qb 0, bc_ qb 1, bc_ qb 2, bc_ qd 0, bc_ qd 1, bc_ qd 2⟩ (fun hHeld => ?_)
               clear hK K
               refine norm_ (a' := ?_) ?_ ?_
               rotate_left
               ·
                show Act.put _ (some 107) _ = _
                simp only [Act.put, List.setIfInBounds_toArray, List.set_cons_zero, List.set_cons_succ, i64_w, i32_w]
                rfl
               refine one_ (i := 6) (N := some 109) #[true, true, true, true, true, true, true, false, false, false, true, false, false] rfl rfl (one_of HT_.out (by kernel_rfl)) (by decide) (fun K hK => ?_)
               refine goes_ Try.func31 (by kernel_rfl) rfl #[.agg #[.slice z8 z2.length z9, .int .i64 jp, .bool jq], .int .i64 a1, .agg #[.slice jx z3.length jy, .int .i64 jr, .bool js], .int .i64 a3] (by rfl) rfl rfl (by (try simp only [List.map_toArray, List.map_cons, List.map_nil]); first | done | rfl | (simp only [List.length_drop, List.length_take]; rfl)) ?_
               with_reducible refine (impl_MixAtoms.calls kj110 _ _ z2 jp jq a1 _ _ z3 jr js a3 zh zv zw jK _ ?side1 ?side2 ?side3 ?side4 A176.out).mono ?_
               (case side1 => exact cr_ qS)
               (case side2 => exact (Kd.R_reads' qS.out).2.1)
               (case side3 => exact cr_ qX)
               (case side4 => exact (Kd.R_reads' qX.out).2.1)
               rintro e Jk ⟨jc, rfl, ho0, hb⟩
               refine ⟨_, rfl, ?_⟩
               have zz := Aside0.mk (Kd.R_lower (Kd.R_new' (Kd.R_new' (Kd.R_new' (Kd.R_new' (Kd.R_new' (Kd.R_new' ho0 (Kd.R_lt (rm_ qf))) (Kd.R_lt (rm_ qc))) (Kd.R_lt (rm_ qe))) (Kd.R_lt (rm_ qa))) (Kd.R_lt (rm_ qS))) (Kd.R_lt (rm_ qX))) (bz_ HB)); replace qf := Aside0.mk (Kd.R_elder' (rm_ qf) (Kd.R_base ho0) hb); replace qc := Aside0.mk (Kd.R_elder' (rm_ qc) (Kd.R_base ho0) hb); replace qe := Aside0.mk (Kd.R_elder' (rm_ qe) (Kd.R_base ho0) hb); replace qa := Aside0.mk (Kd.R_elder' (rm_ qa) (Kd.R_base ho0) hb); replace qS := Aside0.mk (Kd.R_elder' (rm_ qS) (Kd.R_base ho0) hb); replace qX := Aside0.mk (Kd.R_elder' (rm_ qX) (Kd.R_base ho0) hb); replace qb := kB_ qb hb; replace qd := kB_ qd hb; replace qh := kB_ qh hb; replace qi := kB_ qi hb; replace qj := kB_ qj hb; replace qg := kB_ qg hb; replace qz := kB_ qz hb; replace HB := bS_ HB hb; (try clear hb); (try clear hb2); (try clear hk); (try clear hi); (try clear ho0)
               refine hK.out _ _ ⟨bc_ qb 0, bc_ qb 1, bc_ qb 2, bc_ qd 0, bc_ qd 1, bc_ qd 2⟩ (fun hHeld => ?_)
               clear hK K
               refine norm_ (a' := ?_) ?_ ?_
               rotate_left
               ·
                show Act.put _ (some 109) _ = _
                simp only [Act.put, List.setIfInBounds_toArray, List.set_cons_zero, List.set_cons_succ, i64_w, i32_w]
                rfl
               refine pure_ (i := 7) (N := some 102) (v := ?_) (a' := ?_) #[true, true, true, true, true, true, true, true, false, false, true, false, false] rfl rfl (any_of HT_.out (by kernel_rfl)) (fun _ _ _ h => h) (Or.inl ⟨by rfl, ?_⟩) ?_ ?_
               rotate_left
               ·
                intro w'
                go_simp
                with_reducible rfl
               rotate_left
               ·
                simp only [Act.put, List.setIfInBounds_toArray, List.set_cons_zero, List.set_cons_succ, i64_w, i32_w]
                rfl
               refine pure_ (i := 8) (N := some 110) (v := ?_) (a' := ?_) #[true, true, true, true, true, true, true, true, true, false, true, false, false] rfl rfl (any_of HT_.out (by kernel_rfl)) (fun _ _ _ h => h) (Or.inl ⟨by rfl, ?_⟩) ?_ ?_
               rotate_left
               ·
                intro w'
                go_simp
                with_reducible rfl
               rotate_left
               ·
                simp only [Act.put, List.setIfInBounds_toArray, List.set_cons_zero, List.set_cons_succ, i64_w, i32_w]
                rfl
               refine pure_ (i := 9) (N := some 111) (v := ?_) (a' := ?_) #[true, true, true, true, true, true, true, true, true, true, true, false, false] rfl rfl (any_of HT_.out (by kernel_rfl)) (fun _ _ _ h => h) (Or.inl ⟨by rfl, ?_⟩) ?_ ?_
               rotate_left
               ·
                intro w'
                go_simp
                with_reducible rfl
               rotate_left
               ·
                simp only [Act.put, List.setIfInBounds_toArray, List.set_cons_zero, List.set_cons_succ, i64_w, i32_w]
                rfl
               exact norm_ (by simp only [putAll, Act.put, List.setIfInBounds_toArray, List.set_cons_zero, List.set_cons_succ]) (hCont (.slice z8 z2.length z9, .slice jx z3.length jy, jc, qm) _ ⟨hHeld, (by (with_reducible repeat (first | apply Kd.R_alloc | apply Kd.R_drewN | apply Kd.R_drew)); exact Kd.R_mono qS.out (fun _ hk => ⟨hk.1.2, ⟨hk.2, ⟨hk.1.1.1.1.1.2, ⟨hk.1.1.1.1.2, ⟨hk.1.1.1.2, hk.1.1.2⟩⟩⟩⟩⟩)), (by (with_reducible repeat (first | apply Kd.R_alloc | apply Kd.R_drewN | apply Kd.R_drew)); exact Kd.R_mono qX.out (fun _ hk => ⟨hk.1.2, ⟨hk.2, ⟨hk.1.1.1.1.1.2, ⟨hk.1.1.1.1.2, ⟨hk.1.1.1.2, hk.1.1.2⟩⟩⟩⟩⟩)), (by (with_reducible repeat (first | apply Kd.R_alloc | apply Kd.R_drewN | apply Kd.R_drew)); exact Kd.R_mono zz.out (fun _ hk => ⟨hk.1.2, ⟨hk.2, ⟨hk.1.1.1.1.1.2, ⟨hk.1.1.1.1.2, ⟨hk.1.1.1.2, hk.1.1.2⟩⟩⟩⟩⟩)), (by (with_reducible repeat (first | apply Kd.R_alloc | apply Kd.R_drewN | apply Kd.R_drew)); exact Kd.R_mono qf.out (fun _ hk => ⟨hk.1.1.2, ⟨hk.1.2, ⟨hk.2, ⟨hk.1.1.1.1, ⟨hk.1.1.1.2.1, hk.1.1.1.2.2⟩⟩⟩⟩⟩)), (by (with_reducible repeat (first | apply Kd.R_alloc | apply Kd.R_drewN | apply Kd.R_drew)); exact Kd.R_mono qc.out (fun _ hk => ⟨hk.1.1.2, ⟨hk.1.2, ⟨hk.2, ⟨hk.1.1.1.1, ⟨hk.1.1.1.2.1, hk.1.1.1.2.2⟩⟩⟩⟩⟩)), (by (with_reducible repeat (first | apply Kd.R_alloc | apply Kd.R_drewN | apply Kd.R_drew)); exact Kd.R_mono qe.out (fun _ hk => ⟨hk.1.1.2, ⟨hk.1.2, ⟨hk.2, ⟨hk.1.1.1.1, ⟨hk.1.1.1.2.1, hk.1.1.1.2.2⟩⟩⟩⟩⟩)), (by (with_reducible repeat (first | apply Kd.R_alloc | apply Kd.R_drewN | apply Kd.R_drew)); exact Kd.R_mono qa.out (fun _ hk => ⟨hk.1.1.2, ⟨hk.1.2, ⟨hk.2, ⟨hk.1.1.1.1, ⟨hk.1.1.1.2.1, hk.1.1.1.2.2⟩⟩⟩⟩⟩)), (kf_ qb), (kf_ qd), (kf_ qh), (kf_ qi), (kf_ qj), (kf_ qg), (kf_ qz), jv.out, jw.out, qP.out, q9.out, qQ.out, za.out, zb.out, zc.out, zd.out, ze.out, zf.out, zg.out, qY.out, qZ.out, (bb_ HB)⟩)
             rintro ⟨jt, ji, jc, qm⟩ zu ⟨hS_, h0_, h1_, h2_, h3_, h4_, h5_, h6_, h7_, h8_, h9_, h10_, h11_, h12_, h13_, h14_, h15_, h16_, h17_, h18_, h19_, h20_, h21_, h22_, h23_, h24_, h25_, h26_, h27_, h28_⟩
             have n0_ : Aside0 (Kd.R (Kd.int .i64) 3 zu w.heap.size (fun k_ => some k_ ≠ (ji : Value).ownBlock ∧ some k_ ≠ (jc : Value).ownBlock ∧ some k_ ≠ (.slice qR qo.length qK : Value).ownBlock ∧ some k_ ≠ (.slice qH zs.length qF : Value).ownBlock ∧ some k_ ≠ (.slice qI zt.length qG : Value).ownBlock ∧ some k_ ≠ (.slice qx ql.length qw : Value).ownBlock) jt z2) := ⟨h0_⟩
             have n1_ : Aside0 (Kd.R (Kd.int .i64) 3 zu w.heap.size (fun k_ => some k_ ≠ (jt : Value).ownBlock ∧ some k_ ≠ (jc : Value).ownBlock ∧ some k_ ≠ (.slice qR qo.length qK : Value).ownBlock ∧ some k_ ≠ (.slice qH zs.length qF : Value).ownBlock ∧ some k_ ≠ (.slice qI zt.length qG : Value).ownBlock ∧ some k_ ≠ (.slice qx ql.length qw : Value).ownBlock) ji z3) := ⟨h1_⟩
             have n2_ : Aside0 (Kd.R (Kd.int .i64) 3 zu w.heap.size (fun k_ => some k_ ≠ (jt : Value).ownBlock ∧ some k_ ≠ (ji : Value).ownBlock ∧ some k_ ≠ (.slice qR qo.length qK : Value).ownBlock ∧ some k_ ≠ (.slice qH zs.length qF : Value).ownBlock ∧ some k_ ≠ (.slice qI zt.length qG : Value).ownBlock ∧ some k_ ≠ (.slice qx ql.length qw : Value).ownBlock) jc zh) := ⟨h2_⟩
             have n3_ : Aside0 (Kd.R (Kd.int .i64) 3 zu w.heap.size (fun k_ => some k_ ≠ (jt : Value).ownBlock ∧ some k_ ≠ (ji : Value).ownBlock ∧ some k_ ≠ (jc : Value).ownBlock ∧ some k_ ≠ (.slice qH zs.length qF : Value).ownBlock ∧ some k_ ≠ (.slice qI zt.length qG : Value).ownBlock ∧ some k_ ≠ (.slice qx ql.length qw : Value).ownBlock) (.slice qR qo.length qK) qo) := ⟨h3_⟩
             have n4_ : Aside0 (Kd.R (Kd.int .i64) 3 zu w.heap.size (fun k_ => some k_ ≠ (jt : Value).ownBlock ∧ some k_ ≠ (ji : Value).ownBlock ∧ some k_ ≠ (jc : Value).ownBlock ∧ some k_ ≠ (.slice qR qo.length qK : Value).ownBlock ∧ some k_ ≠ (.slice qI zt.length qG : Value).ownBlock ∧ some k_ ≠ (.slice qx ql.length qw : Value).ownBlock) (.slice qH zs.length qF) zs) := ⟨h4_⟩
             have n5_ : Aside0 (Kd.R (Kd.int .i64) 3 zu w.heap.size (fun k_ => some k_ ≠ (jt : Value).ownBlock ∧ some k_ ≠ (ji : Value).ownBlock ∧ some k_ ≠ (jc : Value).ownBlock ∧ some k_ ≠ (.slice qR qo.length qK : Value).ownBlock ∧ some k_ ≠ (.slice qH zs.length qF : Value).ownBlock ∧ some k_ ≠ (.slice qx ql.length qw : Value).ownBlock) (.slice qI zt.length qG) zt) := ⟨h5_⟩
             have n6_ : Aside0 (Kd.R (Kd.int .i64) 3 zu w.heap.size (fun k_ => some k_ ≠ (jt : Value).ownBlock ∧ some k_ ≠ (ji : Value).ownBlock ∧ some k_ ≠ (jc : Value).ownBlock ∧ some k_ ≠ (.slice qR qo.length qK : Value).ownBlock ∧ some k_ ≠ (.slice qH zs.length qF : Value).ownBlock ∧ some k_ ≠ (.slice qI zt.length qG : Value).ownBlock) (.slice qx ql.length qw) zn) := ⟨h6_⟩
             have n7_ : Aside0 (zu.heap[qp]? = some (.cells #[.slice A0_0 l0_0.length c0_0, .int .i64 a0_1, .bool a0_2] 24 (0, 0))) := ⟨h7_⟩
             have n8_ : Aside0 (zu.heap[qq]? = some (.cells #[.slice A2_0 l2_0.length c2_0, .int .i64 a2_1, .bool a2_2] 24 (0, 0))) := ⟨h8_⟩
             have n9_ : Aside0 (zu.heap[qn]? = some (.cells #[.slice qR qo.length qK, .int .i64 qy, .bool qA] 26 (0, 0))) := ⟨h9_⟩
             have n10_ : Aside0 (zu.heap[qO]? = some (.cells #[.slice qH zs.length qF, .int .i64 q0, .bool q2] 26 (0, 0))) := ⟨h10_⟩
             have n11_ : Aside0 (zu.heap[qT]? = some (.cells #[.slice qI zt.length qG, .int .i64 q1, .bool q3] 26 (0, 0))) := ⟨h11_⟩
             have n12_ : Aside0 (zu.heap[qv]? = some (.cells #[.slice qx ql.length qw, .int .i64 qr, .bool qs] 26 (0, 0))) := ⟨h12_⟩
             have n13_ : Aside0 (zu.heap[qm]? = some (.cells #[.slice none 0 0, .int .i64 0, .bool false] 26 (0, 0))) := ⟨h13_⟩
             have n14_ : Aside0 (w.heap.size ≤ qm) := ⟨h14_⟩
             have n15_ : Aside0 (w.heap.size ≤ qm) := ⟨h15_⟩
             have n16_ : Aside0 (qp ≠ qm) := ⟨h16_⟩
             have n17_ : Aside0 (qm ≠ qp) := ⟨h17_⟩
             have n18_ : Aside0 (qq ≠ qm) := ⟨h18_⟩
             have n19_ : Aside0 (qm ≠ qq) := ⟨h19_⟩
             have n20_ : Aside0 (qn ≠ qm) := ⟨h20_⟩
             have n21_ : Aside0 (qm ≠ qn) := ⟨h21_⟩
             have n22_ : Aside0 (qO ≠ qm) := ⟨h22_⟩
             have n23_ : Aside0 (qm ≠ qO) := ⟨h23_⟩
             have n24_ : Aside0 (qT ≠ qm) := ⟨h24_⟩
             have n25_ : Aside0 (qm ≠ qT) := ⟨h25_⟩
             have n26_ : Aside0 (qv ≠ qm) := ⟨h26_⟩
             have n27_ : Aside0 (qm ≠ qv) := ⟨h27_⟩
             have n28_ : Aside0 (Below w.heap.size w zu) := ⟨h28_⟩
             clear qf
             clear qc
             clear qe
             clear qa
             clear qb
             clear qd
             clear qh
             clear qi
             clear qj
             clear qg
             clear HB
             clear h0_ h1_ h2_ h3_ h4_ h5_ h6_ h7_ h8_ h9_ h10_ h11_ h12_ h13_ h14_ h15_ h16_ h17_ h18_ h19_ h20_ h21_ h22_ h23_ h24_ h25_ h26_ h27_ h28_
             have qS := n0_
             have qX := n1_
             have zz := n2_
             have qf := n3_
             have qc := n4_
             have qe := n5_
             have qa := n6_
             have qb := n7_
             have qd := n8_
             have qh := n9_
             have qi := n10_
             have qj := n11_
             have qg := n12_
             have qz := n13_
             have jv := n14_
             have jw := n15_
             have qP := n16_
             have q9 := n17_
             have qQ := n18_
             have za := n19_
             have zb := n20_
             have zc := n21_
             have zd := n22_
             have ze := n23_
             have zf := n24_
             have zg := n25_
             have qY := n26_
             have qZ := n27_
             have HB := n28_
             clear n0_ n1_ n2_ n3_ n4_ n5_ n6_ n7_ n8_ n9_ n10_ n11_ n12_ n13_ n14_ n15_ n16_ n17_ n18_ n19_ n20_ n21_ n22_ n23_ n24_ n25_ n26_ n27_ n28_
             have hHeld : zu.cell? ⟨qp, 0, none⟩ = some (.slice A0_0 l0_0.length c0_0) ∧ zu.cell? ⟨qp, 1, none⟩ = some (.int .i64 a0_1) ∧ zu.cell? ⟨qp, 2, none⟩ = some (.bool a0_2) ∧ zu.cell? ⟨qq, 0, none⟩ = some (.slice A2_0 l2_0.length c2_0) ∧ zu.cell? ⟨qq, 1, none⟩ = some (.int .i64 a2_1) ∧ zu.cell? ⟨qq, 2, none⟩ = some (.bool a2_2) := hS_
             obtain ⟨q6, q5, eo195⟩ := Kd.R_slice zz.out
             (first | subst eo195 | (injection eo195 with f1_ f2_ f3_; have f4_ := f1_.symm; have f5_ := f3_.symm; clear f1_ f2_ f3_; subst f4_; subst f5_))
             refine norm_ (a' := ?_) ?_ ?_
             rotate_left
             ·
              simp only [putAll, Act.put, List.setIfInBounds_toArray, List.set_cons_zero, List.set_cons_succ]
              rfl
             refine one_ (i := 11) (N := none) #[true, true, true, true, true, true, true, true, true, true, true, true, false] rfl rfl (one_of HT_.out (by kernel_rfl)) (by decide) (fun K hK => ?_)
             have hs196 : zu.cell? ⟨qm, 0, none⟩ = some (.slice none 0 0) := bc_ qz 0
             have hfs196 := blk_frozen qz.out 0
             have hns196_0 := qP.out
             have hns196_1 := qQ.out
             have hns196_2 := zb.out
             have hns196_3 := zd.out
             have hns196_4 := zf.out
             have hns196_5 := qY.out
             have hms196_0 := q9.out
             have hms196_1 := za.out
             have hms196_2 := zc.out
             have hms196_3 := ze.out
             have hms196_4 := zg.out
             have hms196_5 := qZ.out
             have hs197 : zu.cell? ⟨qm, 1, none⟩ = some (.int .i64 0) := bc_ qz 1
             have hfs197 := blk_frozen qz.out 1
             have hns197_0 := qP.out
             have hns197_1 := qQ.out
             have hns197_2 := zb.out
             have hns197_3 := zd.out
             have hns197_4 := zf.out
             have hns197_5 := qY.out
             have hms197_0 := q9.out
             have hms197_1 := za.out
             have hms197_2 := zc.out
             have hms197_3 := ze.out
             have hms197_4 := zg.out
             have hms197_5 := qZ.out
             have hs198 : zu.cell? ⟨qm, 2, none⟩ = some (.bool false) := bc_ qz 2
             have hfs198 := blk_frozen qz.out 2
             have hns198_0 := qP.out
             have hns198_1 := qQ.out
             have hns198_2 := zb.out
             have hns198_3 := zd.out
             have hns198_4 := zf.out
             have hns198_5 := qY.out
             have hms198_0 := q9.out
             have hms198_1 := za.out
             have hms198_2 := zc.out
             have hms198_3 := ze.out
             have hms198_4 := zg.out
             have hms198_5 := qZ.out
             refine skip_ (w1 := ?_) (by rfl) rfl ?_ ?_
             rotate_left
             ·
              go_simp
              rfl
             refine hK.out _ _ ⟨((cell_far (p := ⟨qm, _, none⟩) qP.out _).trans (((cell_far (p := ⟨qm, _, none⟩) qP.out _).trans (((cell_far (p := ⟨qm, _, none⟩) qP.out _).trans (hHeld.1)))))), ((cell_far (p := ⟨qm, _, none⟩) qP.out _).trans (((cell_far (p := ⟨qm, _, none⟩) qP.out _).trans (((cell_far (p := ⟨qm, _, none⟩) qP.out _).trans (hHeld.2.1)))))), ((cell_far (p := ⟨qm, _, none⟩) qP.out _).trans (((cell_far (p := ⟨qm, _, none⟩) qP.out _).trans (((cell_far (p := ⟨qm, _, none⟩) qP.out _).trans (hHeld.2.2.1)))))), ((cell_far (p := ⟨qm, _, none⟩) qQ.out _).trans (((cell_far (p := ⟨qm, _, none⟩) qQ.out _).trans (((cell_far (p := ⟨qm, _, none⟩) qQ.out _).trans (hHeld.2.2.2.1)))))), ((cell_far (p := ⟨qm, _, none⟩) qQ.out _).trans (((cell_far (p := ⟨qm, _, none⟩) qQ.out _).trans (((cell_far (p := ⟨qm, _, none⟩) qQ.out _).trans (hHeld.2.2.2.2.1)))))), ((cell_far (p := ⟨qm, _, none⟩) qQ.out _).trans (((cell_far (p := ⟨qm, _, none⟩) qQ.out _).trans (((cell_far (p := ⟨qm, _, none⟩) qQ.out _).trans (hHeld.2.2.2.2.2))))))⟩ (fun hHeld => ?_)
             clear hK K
             refine pure_ (i := 12) (N := some 20) (v := ?_) (a' := ?_) #[true, true, true, true, true, true, true, true, true, true, true, true, true] rfl rfl (any_of HT_.out (by kernel_rfl)) (fun _ _ _ h => h) (Or.inl ⟨by rfl, ?_⟩) ?_ ?_
             rotate_left
             ·
              intro w'
              go_simp
              with_reducible rfl
             rotate_left
             ·
              simp only [Act.put, List.setIfInBounds_toArray, List.set_cons_zero, List.set_cons_succ, i64_w, i32_w]
              rfl
             refine done_ (done_of HT_.out (by kernel_rfl)) ?_
             go_upto_region 32 with (fail)
             go_cut [120] (fun Dl wc => ∃ (kq : Nat) (jj : Bool), Dl = .bool jj ∧ Aside0 (laws_FnExactMixAtoms.j2 kq zy jj zn qr qs = some r) ∧ Aside0 (kq ≤ kj110) ∧ Aside0 (Kd.R (Kd.int .i64) 3 wc w.heap.size (fun k_ => some k_ ≠ ((.slice qH zs.length qF) : Value).ownBlock ∧ some k_ ≠ ((.slice qI zt.length qG) : Value).ownBlock ∧ some k_ ≠ ((.slice qx ql.length qw) : Value).ownBlock ∧ some k_ ≠ ((.slice q6 zh.length q5) : Value).ownBlock) (.slice qR qo.length qK) qo) ∧ Aside0 (Kd.R (Kd.int .i64) 3 wc w.heap.size (fun k_ => some k_ ≠ ((.slice qR qo.length qK) : Value).ownBlock ∧ some k_ ≠ ((.slice qI zt.length qG) : Value).ownBlock ∧ some k_ ≠ ((.slice qx ql.length qw) : Value).ownBlock ∧ some k_ ≠ ((.slice q6 zh.length q5) : Value).ownBlock) (.slice qH zs.length qF) zs) ∧ Aside0 (Kd.R (Kd.int .i64) 3 wc w.heap.size (fun k_ => some k_ ≠ ((.slice qR qo.length qK) : Value).ownBlock ∧ some k_ ≠ ((.slice qH zs.length qF) : Value).ownBlock ∧ some k_ ≠ ((.slice qx ql.length qw) : Value).ownBlock ∧ some k_ ≠ ((.slice q6 zh.length q5) : Value).ownBlock) (.slice qI zt.length qG) zt) ∧ Aside0 (Kd.R (Kd.int .i64) 3 wc w.heap.size (fun k_ => some k_ ≠ ((.slice qR qo.length qK) : Value).ownBlock ∧ some k_ ≠ ((.slice qH zs.length qF) : Value).ownBlock ∧ some k_ ≠ ((.slice qI zt.length qG) : Value).ownBlock ∧ some k_ ≠ ((.slice q6 zh.length q5) : Value).ownBlock) (.slice qx ql.length qw) zn) ∧ Aside0 (Kd.R (Kd.int .i64) 3 wc w.heap.size (fun k_ => some k_ ≠ ((.slice qR qo.length qK) : Value).ownBlock ∧ some k_ ≠ ((.slice qH zs.length qF) : Value).ownBlock ∧ some k_ ≠ ((.slice qI zt.length qG) : Value).ownBlock ∧ some k_ ≠ ((.slice qx ql.length qw) : Value).ownBlock) (.slice q6 zh.length q5) zh) ∧ Aside0 (wc.heap[qp]? = some (.cells #[(.slice A0_0 l0_0.length c0_0), .int .i64 a0_1, .bool a0_2] 24 (0, 0))) ∧ Aside0 (wc.heap[qq]? = some (.cells #[(.slice A2_0 l2_0.length c2_0), .int .i64 a2_1, .bool a2_2] 24 (0, 0))) ∧ Aside0 (wc.heap[qn]? = some (.cells #[(.slice qR qo.length qK), .int .i64 qy, .bool qA] 26 (0, 0))) ∧ Aside0 (wc.heap[qO]? = some (.cells #[(.slice qH zs.length qF), .int .i64 q0, .bool q2] 26 (0, 0))) ∧ Aside0 (wc.heap[qT]? = some (.cells #[(.slice qI zt.length qG), .int .i64 q1, .bool q3] 26 (0, 0))) ∧ Aside0 (wc.heap[qv]? = some (.cells #[(.slice qx ql.length qw), .int .i64 qr, .bool qs] 26 (0, 0))) ∧ Aside0 (wc.heap[qm]? = some (.cells #[(.slice q6 zh.length q5), .int .i64 zv, .bool zw] 26 (0, 0))) ∧ Aside0 (Below w.heap.size w wc))
             case first =>
              have H := HC177.out
              clear HC177
              replace H := Option.bind_eq_some_iff.mp H
              obtain ⟨ja, A1990, H⟩ := H
              replace H : (if ja = true then (laws_FnExactMixAtoms.j2 kj110 zy (jK != qL) zn qr qs) else (laws_FnExactMixAtoms.j2 kj110 zy true zn qr qs)) = some r := H
              have A199 := Aside0.mk A1990
              clear A1990
              by_cases c200 : ja = true
              ·
               subst c200
               have H1 : (laws_FnExactMixAtoms.j2 kj110 zy (jK != qL) zn qr qs) = some r := by rw [if_pos rfl] at H; exact H
               clear H
               have H := H1
               clear H1
               have H' := Aside0.mk H
               clear H
               have Dm := q9.out
               have Dn := qP.out
               have Do := za.out
               have Dp := qQ.out
               have Dq := zc.out
               have Dr := zb.out
               have Ds := ze.out
               have Dt := zd.out
               have Du := zg.out
               have Dv := zf.out
               have Dw := qZ.out
               have Dx := qY.out
               have ZA : zu.cell? ⟨qm, 0, none⟩ = some (.slice none 0 0) := bc_ qz 0
               have ZB : zu.cell? ⟨qm, 1, none⟩ = some (.int .i64 0) := bc_ qz 1
               have ZC : zu.cell? ⟨qm, 2, none⟩ = some (.bool false) := bc_ qz 2
               have ZD := blk_frozen qz.out 0
               have ZE := blk_frozen qz.out 1
               have ZF := blk_frozen qz.out 2
               have Dy := qU.out
               have Dz := qC.out
               have DA := qV.out
               have DB := qD.out
               have DC := zA.out
               have DD := zB.out
               have DE := zC.out
               have DF := zD.out
               have DG := q7.out
               have DH := q8.out
               have ZG : zu.cell? ⟨qn, 0, none⟩ = some (.slice qR qo.length qK) := bc_ qh 0
               have ZH : zu.cell? ⟨qn, 1, none⟩ = some (.int .i64 qy) := bc_ qh 1
               have ZI : zu.cell? ⟨qn, 2, none⟩ = some (.bool qA) := bc_ qh 2
               have ZJ := blk_frozen qh.out 0
               have ZK := blk_frozen qh.out 1
               have ZL := blk_frozen qh.out 2
               go_wp2_with (first | ((with_reducible refine gate_callee (f := 17) rfl ?_); refine goesL_ (some 114) rfl rfl Try.func17 (by kernel_rfl) rfl #[.agg #[.slice q6 zh.length q5, .int .i64 zv, .bool zw], .agg #[.slice qR qo.length qK, .int .i64 qy, .bool qA]] rfl (by (try simp only [List.map_toArray, List.map_cons, List.map_nil]); first | done | rfl | (simp only [List.length_drop, List.length_take]; rfl)) ?_; (with_reducible refine (laws_eqAtom.calls kj110 _ _ zh zv zw _ _ qo qy qA true _ ?side1 ?side2 ?side3 ?side4 A199.out).mono ?_); (case side1 => refine (Kd.R_reads' (e := 3) (base := w.heap.size) (ok := fun k_ => (some k_ ≠ (jt : Value).ownBlock ∧ (some k_ ≠ (ji : Value).ownBlock ∧ (some k_ ≠ (.slice qR qo.length qK : Value).ownBlock ∧ (some k_ ≠ (.slice qH zs.length qF : Value).ownBlock ∧ (some k_ ≠ (.slice qI zt.length qG : Value).ownBlock ∧ some k_ ≠ (.slice qx ql.length qw : Value).ownBlock)))))) (n := zh.length) (c := q5) ?_).2.2; exact (by (with_reducible repeat (first | apply Kd.R_alloc | apply Kd.R_drewN | apply Kd.R_drew)); exact (rt3_ zz qz (by decide) 0 1 2 (.slice q6 zh.length q5) (.int .i64 zv) (.bool zw)))); (case side2 => exact (Kd.R_reads' zz.out).2.1); (case side3 => refine (Kd.R_reads' (e := 3) (base := w.heap.size) (ok := fun k_ => (some k_ ≠ (jt : Value).ownBlock ∧ (some k_ ≠ (ji : Value).ownBlock ∧ (some k_ ≠ (.slice q6 zh.length q5 : Value).ownBlock ∧ (some k_ ≠ (.slice qH zs.length qF : Value).ownBlock ∧ (some k_ ≠ (.slice qI zt.length qG : Value).ownBlock ∧ some k_ ≠ (.slice qx ql.length qw : Value).ownBlock)))))) (n := qo.length) (c := qK) ?_).2.2; exact (by (with_reducible repeat (first | apply Kd.R_alloc | apply Kd.R_drewN | apply Kd.R_drew)); exact (rt3_ qf qz (by decide) 0 1 2 (.slice q6 zh.length q5) (.int .i64 zv) (.bool zw)))); (case side4 => exact (Kd.R_reads' qf.out).2.1); rintro e Mh ⟨rfl, hb⟩; refine ⟨_, rfl, ?_⟩; replace qf := Aside0.mk (Kd.R_below (by (with_reducible repeat (first | apply Kd.R_alloc | apply Kd.R_drewN | apply Kd.R_drew)); exact (rt3_ qf qz (by decide) 0 1 2 (.slice q6 zh.length q5) (.int .i64 zv) (.bool zw))) hb); replace qc := Aside0.mk (Kd.R_below (by (with_reducible repeat (first | apply Kd.R_alloc | apply Kd.R_drewN | apply Kd.R_drew)); exact (rt3_ qc qz (by decide) 0 1 2 (.slice q6 zh.length q5) (.int .i64 zv) (.bool zw))) hb); replace qe := Aside0.mk (Kd.R_below (by (with_reducible repeat (first | apply Kd.R_alloc | apply Kd.R_drewN | apply Kd.R_drew)); exact (rt3_ qe qz (by decide) 0 1 2 (.slice q6 zh.length q5) (.int .i64 zv) (.bool zw))) hb); replace qa := Aside0.mk (Kd.R_below (by (with_reducible repeat (first | apply Kd.R_alloc | apply Kd.R_drewN | apply Kd.R_drew)); exact (rt3_ qa qz (by decide) 0 1 2 (.slice q6 zh.length q5) (.int .i64 zv) (.bool zw))) hb); replace qS := Aside0.mk (Kd.R_below (by (with_reducible repeat (first | apply Kd.R_alloc | apply Kd.R_drewN | apply Kd.R_drew)); exact (rt3_ qS qz (by decide) 0 1 2 (.slice q6 zh.length q5) (.int .i64 zv) (.bool zw))) hb); replace qX := Aside0.mk (Kd.R_below (by (with_reducible repeat (first | apply Kd.R_alloc | apply Kd.R_drewN | apply Kd.R_drew)); exact (rt3_ qX qz (by decide) 0 1 2 (.slice q6 zh.length q5) (.int .i64 zv) (.bool zw))) hb); replace zz := Aside0.mk (Kd.R_below (by (with_reducible repeat (first | apply Kd.R_alloc | apply Kd.R_drewN | apply Kd.R_drew)); exact (rt3_ zz qz (by decide) 0 1 2 (.slice q6 zh.length q5) (.int .i64 zv) (.bool zw))) hb); replace qb := Aside0.mk (blk_below (g := qp) (o := .cells #[.slice A0_0 l0_0.length c0_0, .int .i64 a0_1, .bool a0_2] 24 (0, 0)) (kf_ qb) hb); replace qd := Aside0.mk (blk_below (g := qq) (o := .cells #[.slice A2_0 l2_0.length c2_0, .int .i64 a2_1, .bool a2_2] 24 (0, 0)) (kf_ qd) hb); replace qh := Aside0.mk (blk_below (g := qn) (o := .cells #[.slice qR qo.length qK, .int .i64 qy, .bool qA] 26 (0, 0)) (kf_ qh) hb); replace qi := Aside0.mk (blk_below (g := qO) (o := .cells #[.slice qH zs.length qF, .int .i64 q0, .bool q2] 26 (0, 0)) (kf_ qi) hb); replace qj := Aside0.mk (blk_below (g := qT) (o := .cells #[.slice qI zt.length qG, .int .i64 q1, .bool q3] 26 (0, 0)) (kf_ qj) hb); replace qg := Aside0.mk (blk_below (g := qv) (o := .cells #[.slice qx ql.length qw, .int .i64 qr, .bool qs] 26 (0, 0)) (kf_ qg) hb); replace qz := Aside0.mk (blk_below (g := qm) (o := .cells #[.slice q6 zh.length q5, .int .i64 zv, .bool zw] 26 (0, 0)) (by (with_reducible repeat (first | refine blk_drewN ?_ _ | refine blk_drew ?_ | refine blk_alloc ?_ _)); refine blk_put (cs := #[.slice q6 zh.length q5, .int .i64 zv, .bool false]) ?_ 2 _ rfl; (with_reducible repeat (first | refine blk_drewN ?_ _ | refine blk_drew ?_ | refine blk_alloc ?_ _)); refine blk_put (cs := #[.slice q6 zh.length q5, .int .i64 0, .bool false]) ?_ 1 _ rfl; (with_reducible repeat (first | refine blk_drewN ?_ _ | refine blk_drew ?_ | refine blk_alloc ?_ _)); refine blk_put (cs := #[.slice none 0 0, .int .i64 0, .bool false]) ?_ 0 _ rfl; (with_reducible repeat (first | refine blk_drewN ?_ _ | refine blk_drew ?_ | refine blk_alloc ?_ _)); exact qz.out) hb); replace HB := bS_ HB hb; (try clear hb); (try clear hb2); (try clear hk); (try clear hi)))
               go_meet
               case rel => exact ⟨_, ((jK != qL)), (by first | rfl | (simp; done) | (simp [*]; done)), H', ⟨by have := HJ26.out; have := HJ110.out; first | omega | exact Nat.le_refl _⟩, ⟨by (try simp only [hl281000_110]); (try simp only [hl287000_110]); (with_reducible repeat (first | apply Kd.R_alloc | apply Kd.R_drewN | apply Kd.R_drew)); exact Kd.R_mono qf.out (fun _ hk => ⟨hk.2.2.2.1, ⟨hk.2.2.2.2.1, ⟨hk.2.2.2.2.2, hk.2.2.1⟩⟩⟩)⟩, ⟨by (try simp only [hl281000_110]); (try simp only [hl287000_110]); (with_reducible repeat (first | apply Kd.R_alloc | apply Kd.R_drewN | apply Kd.R_drew)); exact Kd.R_mono qc.out (fun _ hk => ⟨hk.2.2.2.1, ⟨hk.2.2.2.2.1, ⟨hk.2.2.2.2.2, hk.2.2.1⟩⟩⟩)⟩, ⟨by (try simp only [hl281000_110]); (try simp only [hl287000_110]); (with_reducible repeat (first | apply Kd.R_alloc | apply Kd.R_drewN | apply Kd.R_drew)); exact Kd.R_mono qe.out (fun _ hk => ⟨hk.2.2.2.1, ⟨hk.2.2.2.2.1, ⟨hk.2.2.2.2.2, hk.2.2.1⟩⟩⟩)⟩, ⟨by (try simp only [hl281000_110]); (try simp only [hl287000_110]); (with_reducible repeat (first | apply Kd.R_alloc | apply Kd.R_drewN | apply Kd.R_drew)); exact Kd.R_mono qa.out (fun _ hk => ⟨hk.2.2.2.1, ⟨hk.2.2.2.2.1, ⟨hk.2.2.2.2.2, hk.2.2.1⟩⟩⟩)⟩, ⟨by (try simp only [hl281000_110]); (try simp only [hl287000_110]); (with_reducible repeat (first | apply Kd.R_alloc | apply Kd.R_drewN | apply Kd.R_drew)); exact Kd.R_mono zz.out (fun _ hk => ⟨hk.2.2.1, ⟨hk.2.2.2.1, ⟨hk.2.2.2.2.1, hk.2.2.2.2.2⟩⟩⟩)⟩, ⟨by (try simp only [hl281000_110]); (try simp only [hl287000_110]); (with_reducible repeat (first | refine blk_drewN ?_ _ | refine blk_drew ?_ | refine blk_alloc ?_ _)); exact qb.out⟩, ⟨by (try simp only [hl281000_110]); (try simp only [hl287000_110]); (with_reducible repeat (first | refine blk_drewN ?_ _ | refine blk_drew ?_ | refine blk_alloc ?_ _)); exact qd.out⟩, ⟨by (try simp only [hl281000_110]); (try simp only [hl287000_110]); (with_reducible repeat (first | refine blk_drewN ?_ _ | refine blk_drew ?_ | refine blk_alloc ?_ _)); exact qh.out⟩, ⟨by (try simp only [hl281000_110]); (try simp only [hl287000_110]); (with_reducible repeat (first | refine blk_drewN ?_ _ | refine blk_drew ?_ | refine blk_alloc ?_ _)); exact qi.out⟩, ⟨by (try simp only [hl281000_110]); (try simp only [hl287000_110]); (with_reducible repeat (first | refine blk_drewN ?_ _ | refine blk_drew ?_ | refine blk_alloc ?_ _)); exact qj.out⟩, ⟨by (try simp only [hl281000_110]); (try simp only [hl287000_110]); (with_reducible repeat (first | refine blk_drewN ?_ _ | refine blk_drew ?_ | refine blk_alloc ?_ _)); exact qg.out⟩, ⟨by (try simp only [hl281000_110]); (try simp only [hl287000_110]); (with_reducible repeat (first | refine blk_drewN ?_ _ | refine blk_drew ?_ | refine blk_alloc ?_ _)); exact qz.out⟩, ⟨bb_ HB⟩⟩
              ·
               replace c200 := Bool.eq_false_iff.mpr c200
               subst c200
               have H1 : (laws_FnExactMixAtoms.j2 kj110 zy true zn qr qs) = some r := by rw [if_neg (show ¬ (false = true) by decide)] at H; exact H
               clear H
               have H := H1
               clear H1
               have H' := Aside0.mk H
               clear H
               have DI := q9.out
               have DJ := qP.out
               have DK := za.out
               have DL := qQ.out
               have DM := zc.out
               have DN := zb.out
               have DO := ze.out
               have DP := zd.out
               have DQ := zg.out
               have DR := zf.out
               have DS := qZ.out
               have DT := qY.out
               have ZM : zu.cell? ⟨qm, 0, none⟩ = some (.slice none 0 0) := bc_ qz 0
               have ZN : zu.cell? ⟨qm, 1, none⟩ = some (.int .i64 0) := bc_ qz 1
               have ZO : zu.cell? ⟨qm, 2, none⟩ = some (.bool false) := bc_ qz 2
               have ZP := blk_frozen qz.out 0
               have ZQ := blk_frozen qz.out 1
               have ZR := blk_frozen qz.out 2
               have DU := qU.out
               have DV := qC.out
               have DW := qV.out
               have DX := qD.out
               have DY := zA.out
               have DZ := zB.out
               have D0 := zC.out
               have D1 := zD.out
               have D2 := q7.out
               have D3 := q8.out
               have ZS : zu.cell? ⟨qn, 0, none⟩ = some (.slice qR qo.length qK) := bc_ qh 0
               have ZT : zu.cell? ⟨qn, 1, none⟩ = some (.int .i64 qy) := bc_ qh 1
               have ZU : zu.cell? ⟨qn, 2, none⟩ = some (.bool qA) := bc_ qh 2
               have ZV := blk_frozen qh.out 0
               have ZW := blk_frozen qh.out 1
               have ZX := blk_frozen qh.out 2
               go_wp2_with (first | ((with_reducible refine gate_callee (f := 17) rfl ?_); refine goesL_ (some 114) rfl rfl Try.func17 (by kernel_rfl) rfl #[.agg #[.slice q6 zh.length q5, .int .i64 zv, .bool zw], .agg #[.slice qR qo.length qK, .int .i64 qy, .bool qA]] rfl (by (try simp only [List.map_toArray, List.map_cons, List.map_nil]); first | done | rfl | (simp only [List.length_drop, List.length_take]; rfl)) ?_; (with_reducible refine (laws_eqAtom.calls kj110 _ _ zh zv zw _ _ qo qy qA false _ ?side1 ?side2 ?side3 ?side4 A199.out).mono ?_); (case side1 => refine (Kd.R_reads' (e := 3) (base := w.heap.size) (ok := fun k_ => (some k_ ≠ (jt : Value).ownBlock ∧ (some k_ ≠ (ji : Value).ownBlock ∧ (some k_ ≠ (.slice qR qo.length qK : Value).ownBlock ∧ (some k_ ≠ (.slice qH zs.length qF : Value).ownBlock ∧ (some k_ ≠ (.slice qI zt.length qG : Value).ownBlock ∧ some k_ ≠ (.slice qx ql.length qw : Value).ownBlock)))))) (n := zh.length) (c := q5) ?_).2.2; exact (by (with_reducible repeat (first | apply Kd.R_alloc | apply Kd.R_drewN | apply Kd.R_drew)); exact (rt3_ zz qz (by decide) 0 1 2 (.slice q6 zh.length q5) (.int .i64 zv) (.bool zw)))); (case side2 => exact (Kd.R_reads' zz.out).2.1); (case side3 => refine (Kd.R_reads' (e := 3) (base := w.heap.size) (ok := fun k_ => (some k_ ≠ (jt : Value).ownBlock ∧ (some k_ ≠ (ji : Value).ownBlock ∧ (some k_ ≠ (.slice q6 zh.length q5 : Value).ownBlock ∧ (some k_ ≠ (.slice qH zs.length qF : Value).ownBlock ∧ (some k_ ≠ (.slice qI zt.length qG : Value).ownBlock ∧ some k_ ≠ (.slice qx ql.length qw : Value).ownBlock)))))) (n := qo.length) (c := qK) ?_).2.2; exact (by (with_reducible repeat (first | apply Kd.R_alloc | apply Kd.R_drewN | apply Kd.R_drew)); exact (rt3_ qf qz (by decide) 0 1 2 (.slice q6 zh.length q5) (.int .i64 zv) (.bool zw)))); (case side4 => exact (Kd.R_reads' qf.out).2.1); rintro e Mi ⟨rfl, hb⟩; refine ⟨_, rfl, ?_⟩; replace qf := Aside0.mk (Kd.R_below (by (with_reducible repeat (first | apply Kd.R_alloc | apply Kd.R_drewN | apply Kd.R_drew)); exact (rt3_ qf qz (by decide) 0 1 2 (.slice q6 zh.length q5) (.int .i64 zv) (.bool zw))) hb); replace qc := Aside0.mk (Kd.R_below (by (with_reducible repeat (first | apply Kd.R_alloc | apply Kd.R_drewN | apply Kd.R_drew)); exact (rt3_ qc qz (by decide) 0 1 2 (.slice q6 zh.length q5) (.int .i64 zv) (.bool zw))) hb); replace qe := Aside0.mk (Kd.R_below (by (with_reducible repeat (first | apply Kd.R_alloc | apply Kd.R_drewN | apply Kd.R_drew)); exact (rt3_ qe qz (by decide) 0 1 2 (.slice q6 zh.length q5) (.int .i64 zv) (.bool zw))) hb); replace qa := Aside0.mk (Kd.R_below (by (with_reducible repeat (first | apply Kd.R_alloc | apply Kd.R_drewN | apply Kd.R_drew)); exact (rt3_ qa qz (by decide) 0 1 2 (.slice q6 zh.length q5) (.int .i64 zv) (.bool zw))) hb); replace qS := Aside0.mk (Kd.R_below (by (with_reducible repeat (first | apply Kd.R_alloc | apply Kd.R_drewN | apply Kd.R_drew)); exact (rt3_ qS qz (by decide) 0 1 2 (.slice q6 zh.length q5) (.int .i64 zv) (.bool zw))) hb); replace qX := Aside0.mk (Kd.R_below (by (with_reducible repeat (first | apply Kd.R_alloc | apply Kd.R_drewN | apply Kd.R_drew)); exact (rt3_ qX qz (by decide) 0 1 2 (.slice q6 zh.length q5) (.int .i64 zv) (.bool zw))) hb); replace zz := Aside0.mk (Kd.R_below (by (with_reducible repeat (first | apply Kd.R_alloc | apply Kd.R_drewN | apply Kd.R_drew)); exact (rt3_ zz qz (by decide) 0 1 2 (.slice q6 zh.length q5) (.int .i64 zv) (.bool zw))) hb); replace qb := Aside0.mk (blk_below (g := qp) (o := .cells #[.slice A0_0 l0_0.length c0_0, .int .i64 a0_1, .bool a0_2] 24 (0, 0)) (kf_ qb) hb); replace qd := Aside0.mk (blk_below (g := qq) (o := .cells #[.slice A2_0 l2_0.length c2_0, .int .i64 a2_1, .bool a2_2] 24 (0, 0)) (kf_ qd) hb); replace qh := Aside0.mk (blk_below (g := qn) (o := .cells #[.slice qR qo.length qK, .int .i64 qy, .bool qA] 26 (0, 0)) (kf_ qh) hb); replace qi := Aside0.mk (blk_below (g := qO) (o := .cells #[.slice qH zs.length qF, .int .i64 q0, .bool q2] 26 (0, 0)) (kf_ qi) hb); replace qj := Aside0.mk (blk_below (g := qT) (o := .cells #[.slice qI zt.length qG, .int .i64 q1, .bool q3] 26 (0, 0)) (kf_ qj) hb); replace qg := Aside0.mk (blk_below (g := qv) (o := .cells #[.slice qx ql.length qw, .int .i64 qr, .bool qs] 26 (0, 0)) (kf_ qg) hb); replace qz := Aside0.mk (blk_below (g := qm) (o := .cells #[.slice q6 zh.length q5, .int .i64 zv, .bool zw] 26 (0, 0)) (by (with_reducible repeat (first | refine blk_drewN ?_ _ | refine blk_drew ?_ | refine blk_alloc ?_ _)); refine blk_put (cs := #[.slice q6 zh.length q5, .int .i64 zv, .bool false]) ?_ 2 _ rfl; (with_reducible repeat (first | refine blk_drewN ?_ _ | refine blk_drew ?_ | refine blk_alloc ?_ _)); refine blk_put (cs := #[.slice q6 zh.length q5, .int .i64 0, .bool false]) ?_ 1 _ rfl; (with_reducible repeat (first | refine blk_drewN ?_ _ | refine blk_drew ?_ | refine blk_alloc ?_ _)); refine blk_put (cs := #[.slice none 0 0, .int .i64 0, .bool false]) ?_ 0 _ rfl; (with_reducible repeat (first | refine blk_drewN ?_ _ | refine blk_drew ?_ | refine blk_alloc ?_ _)); exact qz.out) hb); replace HB := bS_ HB hb; (try clear hb); (try clear hb2); (try clear hk); (try clear hi)))
               go_meet
               case rel => exact ⟨_, (true), (by first | rfl | (simp; done) | (simp [*]; done)), H', ⟨by have := HJ26.out; have := HJ110.out; first | omega | exact Nat.le_refl _⟩, ⟨by (try simp only [hl281000_110]); (try simp only [hl287000_110]); (with_reducible repeat (first | apply Kd.R_alloc | apply Kd.R_drewN | apply Kd.R_drew)); exact Kd.R_mono qf.out (fun _ hk => ⟨hk.2.2.2.1, ⟨hk.2.2.2.2.1, ⟨hk.2.2.2.2.2, hk.2.2.1⟩⟩⟩)⟩, ⟨by (try simp only [hl281000_110]); (try simp only [hl287000_110]); (with_reducible repeat (first | apply Kd.R_alloc | apply Kd.R_drewN | apply Kd.R_drew)); exact Kd.R_mono qc.out (fun _ hk => ⟨hk.2.2.2.1, ⟨hk.2.2.2.2.1, ⟨hk.2.2.2.2.2, hk.2.2.1⟩⟩⟩)⟩, ⟨by (try simp only [hl281000_110]); (try simp only [hl287000_110]); (with_reducible repeat (first | apply Kd.R_alloc | apply Kd.R_drewN | apply Kd.R_drew)); exact Kd.R_mono qe.out (fun _ hk => ⟨hk.2.2.2.1, ⟨hk.2.2.2.2.1, ⟨hk.2.2.2.2.2, hk.2.2.1⟩⟩⟩)⟩, ⟨by (try simp only [hl281000_110]); (try simp only [hl287000_110]); (with_reducible repeat (first | apply Kd.R_alloc | apply Kd.R_drewN | apply Kd.R_drew)); exact Kd.R_mono qa.out (fun _ hk => ⟨hk.2.2.2.1, ⟨hk.2.2.2.2.1, ⟨hk.2.2.2.2.2, hk.2.2.1⟩⟩⟩)⟩, ⟨by (try simp only [hl281000_110]); (try simp only [hl287000_110]); (with_reducible repeat (first | apply Kd.R_alloc | apply Kd.R_drewN | apply Kd.R_drew)); exact Kd.R_mono zz.out (fun _ hk => ⟨hk.2.2.1, ⟨hk.2.2.2.1, ⟨hk.2.2.2.2.1, hk.2.2.2.2.2⟩⟩⟩)⟩, ⟨by (try simp only [hl281000_110]); (try simp only [hl287000_110]); (with_reducible repeat (first | refine blk_drewN ?_ _ | refine blk_drew ?_ | refine blk_alloc ?_ _)); exact qb.out⟩, ⟨by (try simp only [hl281000_110]); (try simp only [hl287000_110]); (with_reducible repeat (first | refine blk_drewN ?_ _ | refine blk_drew ?_ | refine blk_alloc ?_ _)); exact qd.out⟩, ⟨by (try simp only [hl281000_110]); (try simp only [hl287000_110]); (with_reducible repeat (first | refine blk_drewN ?_ _ | refine blk_drew ?_ | refine blk_alloc ?_ _)); exact qh.out⟩, ⟨by (try simp only [hl281000_110]); (try simp only [hl287000_110]); (with_reducible repeat (first | refine blk_drewN ?_ _ | refine blk_drew ?_ | refine blk_alloc ?_ _)); exact qi.out⟩, ⟨by (try simp only [hl281000_110]); (try simp only [hl287000_110]); (with_reducible repeat (first | refine blk_drewN ?_ _ | refine blk_drew ?_ | refine blk_alloc ?_ _)); exact qj.out⟩, ⟨by (try simp only [hl281000_110]); (try simp only [hl287000_110]); (with_reducible repeat (first | refine blk_drewN ?_ _ | refine blk_drew ?_ | refine blk_alloc ?_ _)); exact qg.out⟩, ⟨by (try simp only [hl281000_110]); (try simp only [hl287000_110]); (with_reducible repeat (first | refine blk_drewN ?_ _ | refine blk_drew ?_ | refine blk_alloc ?_ _)); exact qz.out⟩, ⟨bb_ HB⟩⟩
             case rest =>
              clear HC177
              try clear c1
              try clear c2
              try clear p2
              try clear c3
              try clear c15
              try clear c17
              try clear c20
              try clear c21
              try clear c22
              try clear c31
              try clear c200
              try clear c201
              try clear c202
              try clear c203
              try clear c204
              try clear c205
              try clear c206
              try clear c208
              try clear c209
              try clear c210
              try clear c211
              try clear c212
              try clear c215
              try clear c216
              try clear c217
              try clear c218
              try clear c219
              try clear c220
              try clear c222
              try clear c223
              try clear c224
              try clear c225
              try clear c226
              try clear ZA
              try clear ZB
              try clear ZC
              try clear ZG
              try clear ZH
              try clear ZI
              try clear ZM
              try clear ZN
              try clear ZO
              try clear ZS
              try clear ZT
              try clear ZU
              try clear ZD
              try clear ZE
              try clear ZF
              try clear ZJ
              try clear ZK
              try clear ZL
              try clear ZP
              try clear ZQ
              try clear ZR
              try clear ZV
              try clear ZW
              try clear ZX
              obtain ⟨kq, jj, rfl, HA, HJ176, qf, qc, qe, qa, zI, qb, qd, qh, qi, qj, qg, qz, HB⟩ := hcut
              have hl294000_176 := (Kd.R_reads' qa.out).1
              rw [hl294000_176] at qa
              (try simp only [hl294000_176])
              (try simp only [hl294000_176] at qb)
              (try simp only [hl294000_176] at qd)
              (try simp only [hl294000_176] at qh)
              (try simp only [hl294000_176] at qi)
              (try simp only [hl294000_176] at qj)
              (try simp only [hl294000_176] at qg)
              (try simp only [hl294000_176] at qz)
              (try simp only [hl294000_176] at qf)
              (try simp only [hl294000_176] at qc)
              (try simp only [hl294000_176] at qe)
              (try simp only [hl294000_176] at zI)
              cases kq with
              | zero => exact absurd HA.out (by simp [laws_FnExactMixAtoms.j2])
              | succ kj176 =>
               have H := HA.out
               clear HA
               simp only [laws_FnExactMixAtoms.j2] at H
               by_cases c229 : jj = true
               ·
                subst c229
                have H1 : (some false) = some r := by rw [if_pos rfl] at H; exact H
                clear H
                have H := H1
                clear H1
                obtain rfl := Option.some.inj H
                go_wp2
                go_ret
                exact ⟨by first | rfl | (simp [errW_none, errW_some] <;> rfl) | (simp [*, errW_none, errW_some] <;> rfl), bb_ HB⟩
               ·
                replace c229 := Bool.eq_false_iff.mpr c229
                subst c229
                have H1 : ((laws_heldAtom.f kj176 zn qr qs 1).bind fun zX => (if zX < 0 then (some false) else (if zX = zy then (some true) else (some false)))) = some r := by rw [if_neg (show ¬ (false = true) by decide)] at H; exact H
                clear H
                have H := H1
                clear H1
                replace H := Option.bind_eq_some_iff.mp H
                obtain ⟨zX, A2300, H⟩ := H
                replace H : (if zX < 0 then (some false) else (if zX = zy then (some true) else (some false))) = some r := H
                have A230 := Aside0.mk A2300
                clear A2300
                by_cases c231 : zX < 0
                ·
                 rw [if_pos c231] at H
                 have Jl : decide (zX < 0) = true := decide_eq_true c231
                 clear c231
                 obtain rfl := Option.some.inj H
                 have D4 := zp.out
                 have D5 := zo.out
                 have D6 := zr.out
                 have D7 := zq.out
                 have D8 := q8.out
                 have D9 := q7.out
                 have Ea := zj.out
                 have Eb := zi.out
                 have Ec := zl.out
                 have Ed := zk.out
                 have Ee := qY.out
                 have Ef := qZ.out
                 have JV : wc.cell? ⟨qv, 0, none⟩ = some (.slice qx zn.length qw) := bc_ qg 0
                 have JW : wc.cell? ⟨qv, 1, none⟩ = some (.int .i64 qr) := bc_ qg 1
                 have JX : wc.cell? ⟨qv, 2, none⟩ = some (.bool qs) := bc_ qg 2
                 have JY := blk_frozen qg.out 0
                 have JZ := blk_frozen qg.out 1
                 have J0 := blk_frozen qg.out 2
                 go_wp2_with (first | ((with_reducible refine gate_callee (f := 19) rfl ?_); refine goesL_ (some 123) rfl rfl Try.func19 (by kernel_rfl) rfl #[.agg #[.slice qx zn.length qw, .int .i64 qr, .bool qs], .int .i64 1] rfl (by (try simp only [List.map_toArray, List.map_cons, List.map_nil]); first | done | rfl | (simp only [List.length_drop, List.length_take]; rfl)) ?_; (with_reducible refine (laws_heldAtom.calls kj176 _ _ zn qr qs 1 zX _ ?side1 ?side2 A230.out).mono ?_); (case side1 => exact cr_ qa); (case side2 => exact (Kd.R_reads' qa.out).2.1); rintro e Mj ⟨rfl, hb⟩; refine ⟨_, rfl, ?_⟩; replace qf := rB_ qf hb; replace qc := rB_ qc hb; replace qe := rB_ qe hb; replace qa := rB_ qa hb; replace zI := rB_ zI hb; replace qb := kB_ qb hb; replace qd := kB_ qd hb; replace qh := kB_ qh hb; replace qi := kB_ qi hb; replace qj := kB_ qj hb; replace qg := kB_ qg hb; replace qz := kB_ qz hb; replace HB := bS_ HB hb; (try clear hb); (try clear hb2); (try clear hk); (try clear hi)))
                 go_ret
                 exact ⟨by first | rfl | (simp [errW_none, errW_some] <;> rfl) | (simp [*, errW_none, errW_some] <;> rfl), bb_ HB⟩
                ·
                 rw [if_neg c231] at H
                 have Jl : decide (zX < 0) = false := decide_eq_false c231
                 clear c231
                 by_cases c240 : zX = zy
                 ·
                  rw [if_pos c240] at H
                  have Jm : (zX == zy) = true := beq_iff_eq.mpr c240
                  have Jn : (zX != zy) = false := bne_eq_false_iff_eq.mpr c240
                  clear c240
                  obtain rfl := Option.some.inj H
                  have Eg := zp.out
                  have Eh := zo.out
                  have Ei := zr.out
                  have Ej := zq.out
                  have Ek := q8.out
                  have El := q7.out
                  have Em := zj.out
                  have En := zi.out
                  have Eo := zl.out
                  have Ep := zk.out
                  have Eq := qY.out
                  have Er := qZ.out
                  have J1 : wc.cell? ⟨qv, 0, none⟩ = some (.slice qx zn.length qw) := bc_ qg 0
                  have J2 : wc.cell? ⟨qv, 1, none⟩ = some (.int .i64 qr) := bc_ qg 1
                  have J3 : wc.cell? ⟨qv, 2, none⟩ = some (.bool qs) := bc_ qg 2
                  have J4 := blk_frozen qg.out 0
                  have J5 := blk_frozen qg.out 1
                  have J6 := blk_frozen qg.out 2
                  go_wp2_with (first | ((with_reducible refine gate_callee (f := 19) rfl ?_); refine goesL_ (some 123) rfl rfl Try.func19 (by kernel_rfl) rfl #[.agg #[.slice qx zn.length qw, .int .i64 qr, .bool qs], .int .i64 1] rfl (by (try simp only [List.map_toArray, List.map_cons, List.map_nil]); first | done | rfl | (simp only [List.length_drop, List.length_take]; rfl)) ?_; (with_reducible refine (laws_heldAtom.calls kj176 _ _ zn qr qs 1 zX _ ?side1 ?side2 A230.out).mono ?_); (case side1 => exact cr_ qa); (case side2 => exact (Kd.R_reads' qa.out).2.1); rintro e Mk ⟨rfl, hb⟩; refine ⟨_, rfl, ?_⟩; replace qf := rB_ qf hb; replace qc := rB_ qc hb; replace qe := rB_ qe hb; replace qa := rB_ qa hb; replace zI := rB_ zI hb; replace qb := kB_ qb hb; replace qd := kB_ qd hb; replace qh := kB_ qh hb; replace qi := kB_ qi hb; replace qj := kB_ qj hb; replace qg := kB_ qg hb; replace qz := kB_ qz hb; replace HB := bS_ HB hb; (try clear hb); (try clear hb2); (try clear hk); (try clear hi)))
                  go_ret
                  exact ⟨by first | rfl | (simp [errW_none, errW_some] <;> rfl) | (simp [*, errW_none, errW_some] <;> rfl), bb_ HB⟩
                 ·
                  rw [if_neg c240] at H
                  have Jm : (zX == zy) = false := beq_eq_false_iff_ne.mpr c240
                  have Jn : (zX != zy) = true := bne_iff_ne.mpr c240
                  obtain rfl := Option.some.inj H
                  have Es := zp.out
                  have Et := zo.out
                  have Eu := zr.out
                  have Ev := zq.out
                  have Ew := q8.out
                  have Ex := q7.out
                  have Ey := zj.out
                  have Ez := zi.out
                  have EA := zl.out
                  have EB := zk.out
                  have EC := qY.out
                  have ED := qZ.out
                  have J7 : wc.cell? ⟨qv, 0, none⟩ = some (.slice qx zn.length qw) := bc_ qg 0
                  have J8 : wc.cell? ⟨qv, 1, none⟩ = some (.int .i64 qr) := bc_ qg 1
                  have J9 : wc.cell? ⟨qv, 2, none⟩ = some (.bool qs) := bc_ qg 2
                  have Xa := blk_frozen qg.out 0
                  have Xb := blk_frozen qg.out 1
                  have Xc := blk_frozen qg.out 2
                  go_wp2_with (first | ((with_reducible refine gate_callee (f := 19) rfl ?_); refine goesL_ (some 123) rfl rfl Try.func19 (by kernel_rfl) rfl #[.agg #[.slice qx zn.length qw, .int .i64 qr, .bool qs], .int .i64 1] rfl (by (try simp only [List.map_toArray, List.map_cons, List.map_nil]); first | done | rfl | (simp only [List.length_drop, List.length_take]; rfl)) ?_; (with_reducible refine (laws_heldAtom.calls kj176 _ _ zn qr qs 1 zX _ ?side1 ?side2 A230.out).mono ?_); (case side1 => exact cr_ qa); (case side2 => exact (Kd.R_reads' qa.out).2.1); rintro e Ml ⟨rfl, hb⟩; refine ⟨_, rfl, ?_⟩; replace qf := rB_ qf hb; replace qc := rB_ qc hb; replace qe := rB_ qe hb; replace qa := rB_ qa hb; replace zI := rB_ zI hb; replace qb := kB_ qb hb; replace qd := kB_ qd hb; replace qh := kB_ qh hb; replace qi := kB_ qi hb; replace qj := kB_ qj hb; replace qg := kB_ qg hb; replace qz := kB_ qz hb; replace HB := bS_ HB hb; (try clear hb); (try clear hb2); (try clear hk); (try clear hi)))
                  go_ret
                  exact ⟨by first | rfl | (simp [errW_none, errW_some] <;> rfl) | (simp [*, errW_none, errW_some] <;> rfl), bb_ HB⟩
            ·
             rw [if_neg c173] at H
             have Jh : (zQ == zy) = false := beq_eq_false_iff_ne.mpr c173
             have Ji : (zQ != zy) = true := bne_iff_ne.mpr c173
             obtain rfl := Option.some.inj H
             have EE := zp.out
             have EF := zo.out
             have EG := zr.out
             have EH := zq.out
             have EI := q8.out
             have EJ := q7.out
             have EK := zj.out
             have EL := zi.out
             have EM := zl.out
             have EN := zk.out
             have Xd : wc.cell? ⟨qv, 0, none⟩ = some (.slice qx ql.length qw) := bc_ qg 0
             have Xe : wc.cell? ⟨qv, 1, none⟩ = some (.int .i64 qr) := bc_ qg 1
             have Xf : wc.cell? ⟨qv, 2, none⟩ = some (.bool qs) := bc_ qg 2
             have Xg := blk_frozen qg.out 0
             have Xh := blk_frozen qg.out 1
             have Xi := blk_frozen qg.out 2
             go_wp2_with (first | ((with_reducible refine gate_callee (f := 18) rfl ?_); refine goesL_ (some 93) rfl rfl Try.func18 (by kernel_rfl) rfl #[.agg #[.slice qx ql.length qw, .int .i64 qr, .bool qs], .int .i64 1] rfl (by (try simp only [List.map_toArray, List.map_cons, List.map_nil]); first | done | rfl | (simp only [List.length_drop, List.length_take]; rfl)) ?_; (with_reducible refine (laws_markAtom.calls kj110 (fun k_ => some k_ = (.slice qx ql.length qw : Value).ownBlock) (.slice qx ql.length qw) ql qr qs 1 zy zn w _ ?side1 ?side2 A161.out).mono ?_); (case side1 => repeat (first | (with_reducible first | exact HB.out | apply below_alloc | apply pw_below_drewN | apply below_drew1 | refine below_set ?_ jE.out | refine below_set ?_ jF.out | refine below_set ?_ zV.out | refine below_set ?_ j5.out | refine below_set ?_ j6.out | refine below_set ?_ j7.out) | exact HB.out)); (case side2 => exact Kd.R_tight rfl qa.out); rintro e Jo ⟨rfl, hy0, hb, hkp⟩; refine ⟨_, rfl, ?_⟩; replace qf := Aside0.mk (Kd.R_mono (ok' := fun k_ => some k_ ≠ (.slice qH zs.length qF : Value).ownBlock ∧ some k_ ≠ (.slice qI zt.length qG : Value).ownBlock ∧ some k_ ≠ (.slice qx ql.length qw : Value).ownBlock) (Kd.R_keptB (qf.out) hkp (fun k_ hk_ hs_ => (hk_.2.2) hs_)) (fun k_ hk_ => ⟨hk_.1.1, hk_.1.2.1, hk_.1.2.2⟩)); replace qc := Aside0.mk (Kd.R_mono (ok' := fun k_ => some k_ ≠ (.slice qR qo.length qK : Value).ownBlock ∧ some k_ ≠ (.slice qI zt.length qG : Value).ownBlock ∧ some k_ ≠ (.slice qx ql.length qw : Value).ownBlock) (Kd.R_keptB (qc.out) hkp (fun k_ hk_ hs_ => (hk_.2.2) hs_)) (fun k_ hk_ => ⟨hk_.1.1, hk_.1.2.1, hk_.1.2.2⟩)); replace qe := Aside0.mk (Kd.R_mono (ok' := fun k_ => some k_ ≠ (.slice qR qo.length qK : Value).ownBlock ∧ some k_ ≠ (.slice qH zs.length qF : Value).ownBlock ∧ some k_ ≠ (.slice qx ql.length qw : Value).ownBlock) (Kd.R_keptB (qe.out) hkp (fun k_ hk_ hs_ => (hk_.2.2) hs_)) (fun k_ hk_ => ⟨hk_.1.1, hk_.1.2.1, hk_.1.2.2⟩)); replace qb := Aside0.mk (blk_kept (kf_ qb) hkp (fun hs_ => (fun e_ => (Kd.R_ne qa.out qb.out (by decide)) e_) hs_)); replace qd := Aside0.mk (blk_kept (kf_ qd) hkp (fun hs_ => (fun e_ => (Kd.R_ne qa.out qd.out (by decide)) e_) hs_)); replace qh := Aside0.mk (blk_kept (kf_ qh) hkp (fun hs_ => (fun e_ => (Kd.R_ne qa.out qh.out (by decide)) e_) hs_)); replace qi := Aside0.mk (blk_kept (kf_ qi) hkp (fun hs_ => (fun e_ => (Kd.R_ne qa.out qi.out (by decide)) e_) hs_)); replace qj := Aside0.mk (blk_kept (kf_ qj) hkp (fun hs_ => (fun e_ => (Kd.R_ne qa.out qj.out (by decide)) e_) hs_)); replace qg := Aside0.mk (blk_kept (kf_ qg) hkp (fun hs_ => (fun e_ => (Kd.R_ne qa.out qg.out (by decide)) e_) hs_)); replace qa := Aside0.mk (Kd.R_reok rfl hy0 (fun k_ e_ => qa.out.1 k_ e_)); replace HB := Aside0.mk (hb); (try clear hb); (try clear hkp); (try clear hy0); have Xj : Jo.cell? ⟨qv, 0, none⟩ = some (.slice qx ql.length qw) := bc_ qg 0; have Xk : Jo.cell? ⟨qv, 1, none⟩ = some (.int .i64 qr) := bc_ qg 1; have Xl : Jo.cell? ⟨qv, 2, none⟩ = some (.bool qs) := bc_ qg 2; have Xm := blk_frozen qg.out 0; have Xn := blk_frozen qg.out 1; have Xo := blk_frozen qg.out 2) | ((with_reducible refine gate_callee (f := 19) rfl ?_); refine goesL_ (some 96) rfl rfl Try.func19 (by kernel_rfl) rfl #[.agg #[.slice qx zn.length qw, .int .i64 qr, .bool qs], .int .i64 1] rfl (by (try simp only [List.map_toArray, List.map_cons, List.map_nil]); first | done | (rw [show zn.length = ql.length from (Kd.R_reads' qa.out).1.symm] <;> rfl) | rfl | (simp only [List.length_drop, List.length_take]; rfl)) ?_; (with_reducible refine (laws_heldAtom.calls kj110 _ _ zn qr qs 1 zQ _ ?side1 ?side2 A162.out).mono ?_); (case side1 => exact cr_ qa); (case side2 => rw [show zn.length = ql.length from (Kd.R_reads' qa.out).1.symm]; exact (Kd.R_reads' qa.out).2.1); rintro e Mm ⟨rfl, hb⟩; refine ⟨_, rfl, ?_⟩; replace qf := rB_ qf hb; replace qc := rB_ qc hb; replace qe := rB_ qe hb; replace qa := rB_ qa hb; replace qb := kB_ qb hb; replace qd := kB_ qd hb; replace qh := kB_ qh hb; replace qi := kB_ qi hb; replace qj := kB_ qj hb; replace qg := kB_ qg hb; replace HB := bS_ HB hb; (try clear hb); (try clear hb2); (try clear hk); (try clear hi)))
             go_ret
             exact ⟨by first | rfl | (simp [errW_none, errW_some] <;> rfl) | (simp [*, errW_none, errW_some] <;> rfl), bb_ HB⟩
       ·
        replace c108 := Bool.eq_false_iff.mpr c108
        subst c108
        have H1 : (some false) = some r := by rw [if_neg (show ¬ (false = true) by decide)] at H; exact H
        clear H
        have H := H1
        clear H1
        obtain rfl := Option.some.inj H
        try go_wp2
        replace qf := Aside0.mk (Kd.R_drew qf.out); replace qc := Aside0.mk (Kd.R_drew qc.out); replace qe := Aside0.mk (Kd.R_drew qe.out); replace qa := Aside0.mk (Kd.R_drew qa.out); replace qb := Aside0.mk (blk_drew qb.out); replace qd := Aside0.mk (blk_drew qd.out); replace qh := Aside0.mk (blk_drew qh.out); replace qi := Aside0.mk (blk_drew qi.out); replace qj := Aside0.mk (blk_drew qj.out); replace qg := Aside0.mk (blk_drew qg.out); replace HB := Aside0.mk (below_drew1 HB.out)
        refine start_ (n := 5) (S := fun w' => w'.cell? ⟨qO, 0, none⟩ = some (.slice qH qM.length qF) ∧ w'.cell? ⟨qO, 1, none⟩ = some (.int .i64 q0) ∧ w'.cell? ⟨qO, 2, none⟩ = some (.bool q2) ∧ w'.cell? ⟨qp, 0, none⟩ = some (.slice A0_0 l0_0.length c0_0) ∧ w'.cell? ⟨qp, 1, none⟩ = some (.int .i64 a0_1) ∧ w'.cell? ⟨qp, 2, none⟩ = some (.bool a0_2)) (ds := []) #[false, false, false, false, false] (by kernel_rfl) rfl rfl ⟨bc_ qi 0, bc_ qi 1, bc_ qi 2, bc_ qb 0, bc_ qb 1, bc_ qb 2⟩ (fun hHeld => ?_)
        generalize wc.drew = Mn at qf qc qe qa qb qd qh qi qj qg HB hHeld ⊢
        refine take_ (i := 0) (N := some 62) (v := ?_) (a' := ?_) #[true, false, false, false, false] rfl rfl (by kernel_rfl) (fun _ _ _ h => h) (Or.inl ⟨by rfl, ?_⟩) hHeld ?_ ?_
        rotate_left
        ·
         rintro w' ⟨s0, s1, s2, s3, s4, s5⟩
         go_simp
         with_reducible rfl
        rotate_left
        ·
         simp only [Act.put, List.setIfInBounds_toArray, List.set_cons_zero, List.set_cons_succ, i64_w, i32_w]
         rfl
        refine take_ (i := 1) (N := some 63) (v := ?_) (a' := ?_) #[true, true, false, false, false] rfl rfl (by kernel_rfl) (fun _ _ _ h => h) (Or.inl ⟨by rfl, ?_⟩) hHeld ?_ ?_
        rotate_left
        ·
         rintro w' ⟨s0, s1, s2, s3, s4, s5⟩
         go_simp
         with_reducible rfl
        rotate_left
        ·
         simp only [Act.put, List.setIfInBounds_toArray, List.set_cons_zero, List.set_cons_succ, i64_w, i32_w]
         rfl
        refine one_ (i := 2) (N := some 64) #[true, true, true, false, false] rfl rfl (by kernel_rfl) (by decide) (fun K hK => ?_)
        refine goes_ Try.func15 (by kernel_rfl) rfl #[.agg #[.slice A0_0 l0_0.length c0_0, .int .i64 a0_1, .bool a0_2]] (by rfl) rfl rfl (by (try simp only [List.map_toArray, List.map_cons, List.map_nil]); first | done | rfl | (simp only [List.length_drop, List.length_take]; rfl)) ?_
        with_reducible refine (laws_toAtom.calls kj26 _ _ l0_0 a0_1 a0_2 z1 jL jM _ ?side1 ?side2 A103.out).mono ?_
        (case side1 => exact cb_ z4 HB)
        (case side2 => exact z5.out)
        rintro e Mo ⟨Ju, rfl, ho0, hb⟩
        refine ⟨_, rfl, ?_⟩
        have qW := Aside0.mk (Kd.R_lower (Kd.R_new' (Kd.R_new' (Kd.R_new' (Kd.R_new' ho0 (Kd.R_lt (rm_ qf))) (Kd.R_lt (rm_ qc))) (Kd.R_lt (rm_ qe))) (Kd.R_lt (rm_ qa))) (bz_ HB)); replace qf := Aside0.mk (Kd.R_elder' (rm_ qf) (Kd.R_base ho0) hb); replace qc := Aside0.mk (Kd.R_elder' (rm_ qc) (Kd.R_base ho0) hb); replace qe := Aside0.mk (Kd.R_elder' (rm_ qe) (Kd.R_base ho0) hb); replace qa := Aside0.mk (Kd.R_elder' (rm_ qa) (Kd.R_base ho0) hb); replace qb := kB_ qb hb; replace qd := kB_ qd hb; replace qh := kB_ qh hb; replace qi := kB_ qi hb; replace qj := kB_ qj hb; replace qg := kB_ qg hb; replace HB := bS_ HB hb; (try clear hb); (try clear hb2); (try clear hk); (try clear hi); (try clear ho0)
        obtain ⟨Xp, Xq, eo268⟩ := Kd.R_slice qW.out
        (first | subst eo268 | (injection eo268 with f1_ f2_ f3_; have f4_ := f1_.symm; have f5_ := f3_.symm; clear f1_ f2_ f3_; subst f4_; subst f5_))
        refine hK.out _ _ ⟨bc_ qi 0, bc_ qi 1, bc_ qi 2, bc_ qb 0, bc_ qb 1, bc_ qb 2⟩ (fun hHeld => ?_)
        clear hK K
        refine norm_ (a' := ?_) ?_ ?_
        rotate_left
        ·
         show Act.put _ (some 64) _ = _
         simp only [Act.put, List.setIfInBounds_toArray, List.set_cons_zero, List.set_cons_succ, i64_w, i32_w]
         rfl
        refine one_ (i := 3) (N := some 65) #[true, true, true, true, false] rfl rfl (by kernel_rfl) (by decide) (fun K hK => ?_)
        refine goes_ Try.func17 (by kernel_rfl) rfl #[.agg #[.slice qH qM.length qF, .int .i64 q0, .bool q2], .agg #[.slice Xp z1.length Xq, .int .i64 jL, .bool jM]] (by rfl) rfl rfl (by (try simp only [List.map_toArray, List.map_cons, List.map_nil]); first | done | rfl | (simp only [List.length_drop, List.length_take]; rfl)) ?_
        with_reducible refine (laws_eqAtom.calls kj26 _ _ qM q0 q2 _ _ z1 jL jM true _ ?side1 ?side2 ?side3 ?side4 A104.out).mono ?_
        (case side1 => exact cr_ qc)
        (case side2 => exact (Kd.R_reads' qc.out).2.1)
        (case side3 => exact cr_ qW)
        (case side4 => exact (Kd.R_reads' qW.out).2.1)
        rintro e EO ⟨rfl, hb⟩
        refine ⟨_, rfl, ?_⟩
        replace qf := rB_ qf hb; replace qc := rB_ qc hb; replace qe := rB_ qe hb; replace qa := rB_ qa hb; replace qW := rB_ qW hb; replace qb := kB_ qb hb; replace qd := kB_ qd hb; replace qh := kB_ qh hb; replace qi := kB_ qi hb; replace qj := kB_ qj hb; replace qg := kB_ qg hb; replace HB := bS_ HB hb; (try clear hb); (try clear hb2); (try clear hk); (try clear hi)
        refine hK.out _ _ ⟨bc_ qi 0, bc_ qi 1, bc_ qi 2, bc_ qb 0, bc_ qb 1, bc_ qb 2⟩ (fun hHeld => ?_)
        clear hK K
        refine norm_ (a' := ?_) ?_ ?_
        rotate_left
        ·
         show Act.put _ (some 65) _ = _
         simp only [Act.put, List.setIfInBounds_toArray, List.set_cons_zero, List.set_cons_succ, i64_w, i32_w]
         rfl
        refine pure_ (i := 4) (N := some 66) (v := ?_) (a' := ?_) #[true, true, true, true, true] rfl rfl (by kernel_rfl) (fun _ _ _ h => h) (Or.inl ⟨by rfl, ?_⟩) ?_ ?_
        rotate_left
        ·
         intro w'
         go_simp
         with_reducible rfl
        rotate_left
        ·
         simp only [Act.put, List.setIfInBounds_toArray, List.set_cons_zero, List.set_cons_succ, i64_w, i32_w]
         rfl
        refine done_ (by kernel_rfl) ?_
        try go_wp2
        replace qf := Aside0.mk (Kd.R_drew qf.out); replace qc := Aside0.mk (Kd.R_drew qc.out); replace qe := Aside0.mk (Kd.R_drew qe.out); replace qa := Aside0.mk (Kd.R_drew qa.out); replace qW := Aside0.mk (Kd.R_drew qW.out); replace qb := Aside0.mk (blk_drew qb.out); replace qd := Aside0.mk (blk_drew qd.out); replace qh := Aside0.mk (blk_drew qh.out); replace qi := Aside0.mk (blk_drew qi.out); replace qj := Aside0.mk (blk_drew qj.out); replace qg := Aside0.mk (blk_drew qg.out); replace HB := Aside0.mk (below_drew1 HB.out)
        refine start_ (n := 5) (S := fun w' => w'.cell? ⟨qT, 0, none⟩ = some (.slice qI qN.length qG) ∧ w'.cell? ⟨qT, 1, none⟩ = some (.int .i64 q1) ∧ w'.cell? ⟨qT, 2, none⟩ = some (.bool q3) ∧ w'.cell? ⟨qq, 0, none⟩ = some (.slice A2_0 l2_0.length c2_0) ∧ w'.cell? ⟨qq, 1, none⟩ = some (.int .i64 a2_1) ∧ w'.cell? ⟨qq, 2, none⟩ = some (.bool a2_2)) (ds := []) #[false, false, false, false, false] (by kernel_rfl) rfl rfl ⟨bc_ qj 0, bc_ qj 1, bc_ qj 2, bc_ qd 0, bc_ qd 1, bc_ qd 2⟩ (fun hHeld => ?_)
        generalize EO.drew = Mp at qf qc qe qa qW qb qd qh qi qj qg HB hHeld ⊢
        refine take_ (i := 0) (N := some 67) (v := ?_) (a' := ?_) #[true, false, false, false, false] rfl rfl (by kernel_rfl) (fun _ _ _ h => h) (Or.inl ⟨by rfl, ?_⟩) hHeld ?_ ?_
        rotate_left
        ·
         rintro w' ⟨s0, s1, s2, s3, s4, s5⟩
         go_simp
         with_reducible rfl
        rotate_left
        ·
         simp only [Act.put, List.setIfInBounds_toArray, List.set_cons_zero, List.set_cons_succ, i64_w, i32_w]
         rfl
        refine take_ (i := 1) (N := some 68) (v := ?_) (a' := ?_) #[true, true, false, false, false] rfl rfl (by kernel_rfl) (fun _ _ _ h => h) (Or.inl ⟨by rfl, ?_⟩) hHeld ?_ ?_
        rotate_left
        ·
         rintro w' ⟨s0, s1, s2, s3, s4, s5⟩
         go_simp
         with_reducible rfl
        rotate_left
        ·
         simp only [Act.put, List.setIfInBounds_toArray, List.set_cons_zero, List.set_cons_succ, i64_w, i32_w]
         rfl
        refine one_ (i := 2) (N := some 69) #[true, true, true, false, false] rfl rfl (by kernel_rfl) (by decide) (fun K hK => ?_)
        refine goes_ Try.func15 (by kernel_rfl) rfl #[.agg #[.slice A2_0 l2_0.length c2_0, .int .i64 a2_1, .bool a2_2]] (by rfl) rfl rfl (by (try simp only [List.map_toArray, List.map_cons, List.map_nil]); first | done | rfl | (simp only [List.length_drop, List.length_take]; rfl)) ?_
        with_reducible refine (laws_toAtom.calls kj26 _ _ l2_0 a2_1 a2_2 jb Qc Qd _ ?side1 ?side2 A106.out).mono ?_
        (case side1 => exact cb_ z6 HB)
        (case side2 => exact z7.out)
        rintro e Mq ⟨X6, rfl, ho0, hb⟩
        refine ⟨_, rfl, ?_⟩
        have zH := Aside0.mk (Kd.R_lower (Kd.R_new' (Kd.R_new' (Kd.R_new' (Kd.R_new' (Kd.R_new' ho0 (Kd.R_lt (rm_ qf))) (Kd.R_lt (rm_ qc))) (Kd.R_lt (rm_ qe))) (Kd.R_lt (rm_ qa))) (Kd.R_lt (rm_ qW))) (bz_ HB)); replace qf := Aside0.mk (Kd.R_elder' (rm_ qf) (Kd.R_base ho0) hb); replace qc := Aside0.mk (Kd.R_elder' (rm_ qc) (Kd.R_base ho0) hb); replace qe := Aside0.mk (Kd.R_elder' (rm_ qe) (Kd.R_base ho0) hb); replace qa := Aside0.mk (Kd.R_elder' (rm_ qa) (Kd.R_base ho0) hb); replace qW := Aside0.mk (Kd.R_elder' (rm_ qW) (Kd.R_base ho0) hb); replace qb := kB_ qb hb; replace qd := kB_ qd hb; replace qh := kB_ qh hb; replace qi := kB_ qi hb; replace qj := kB_ qj hb; replace qg := kB_ qg hb; replace HB := bS_ HB hb; (try clear hb); (try clear hb2); (try clear hk); (try clear hi); (try clear ho0)
        obtain ⟨Xr, Xs, eo272⟩ := Kd.R_slice zH.out
        (first | subst eo272 | (injection eo272 with f1_ f2_ f3_; have f4_ := f1_.symm; have f5_ := f3_.symm; clear f1_ f2_ f3_; subst f4_; subst f5_))
        refine hK.out _ _ ⟨bc_ qj 0, bc_ qj 1, bc_ qj 2, bc_ qd 0, bc_ qd 1, bc_ qd 2⟩ (fun hHeld => ?_)
        clear hK K
        refine norm_ (a' := ?_) ?_ ?_
        rotate_left
        ·
         show Act.put _ (some 69) _ = _
         simp only [Act.put, List.setIfInBounds_toArray, List.set_cons_zero, List.set_cons_succ, i64_w, i32_w]
         rfl
        refine one_ (i := 3) (N := some 70) #[true, true, true, true, false] rfl rfl (by kernel_rfl) (by decide) (fun K hK => ?_)
        refine goes_ Try.func17 (by kernel_rfl) rfl #[.agg #[.slice qI qN.length qG, .int .i64 q1, .bool q3], .agg #[.slice Xr jb.length Xs, .int .i64 Qc, .bool Qd]] (by rfl) rfl rfl (by (try simp only [List.map_toArray, List.map_cons, List.map_nil]); first | done | rfl | (simp only [List.length_drop, List.length_take]; rfl)) ?_
        with_reducible refine (laws_eqAtom.calls kj26 _ _ qN q1 q3 _ _ jb Qc Qd false _ ?side1 ?side2 ?side3 ?side4 A107.out).mono ?_
        (case side1 => exact cr_ qe)
        (case side2 => exact (Kd.R_reads' qe.out).2.1)
        (case side3 => exact cr_ zH)
        (case side4 => exact (Kd.R_reads' zH.out).2.1)
        rintro e Mr ⟨rfl, hb⟩
        refine ⟨_, rfl, ?_⟩
        replace qf := rB_ qf hb; replace qc := rB_ qc hb; replace qe := rB_ qe hb; replace qa := rB_ qa hb; replace qW := rB_ qW hb; replace zH := rB_ zH hb; replace qb := kB_ qb hb; replace qd := kB_ qd hb; replace qh := kB_ qh hb; replace qi := kB_ qi hb; replace qj := kB_ qj hb; replace qg := kB_ qg hb; replace HB := bS_ HB hb; (try clear hb); (try clear hb2); (try clear hk); (try clear hi)
        refine hK.out _ _ ⟨bc_ qj 0, bc_ qj 1, bc_ qj 2, bc_ qd 0, bc_ qd 1, bc_ qd 2⟩ (fun hHeld => ?_)
        clear hK K
        refine norm_ (a' := ?_) ?_ ?_
        rotate_left
        ·
         show Act.put _ (some 70) _ = _
         simp only [Act.put, List.setIfInBounds_toArray, List.set_cons_zero, List.set_cons_succ, i64_w, i32_w]
         rfl
        refine pure_ (i := 4) (N := some 71) (v := ?_) (a' := ?_) #[true, true, true, true, true] rfl rfl (by kernel_rfl) (fun _ _ _ h => h) (Or.inl ⟨by rfl, ?_⟩) ?_ ?_
        rotate_left
        ·
         intro w'
         go_simp
         with_reducible rfl
        rotate_left
        ·
         simp only [Act.put, List.setIfInBounds_toArray, List.set_cons_zero, List.set_cons_succ, i64_w, i32_w]
         rfl
        refine done_ (by kernel_rfl) ?_
        try go_wp2
        go_ret
        exact ⟨by first | rfl | (simp [errW_none, errW_some] <;> rfl) | (simp [*, errW_none, errW_some] <;> rfl), bb_ HB⟩
      ·
       replace c105 := Bool.eq_false_iff.mpr c105
       subst c105
       have H1 : (some false) = some r := by rw [if_neg (show ¬ (false = true) by decide)] at H; exact H
       clear H
       have H := H1
       clear H1
       obtain rfl := Option.some.inj H
       try go_wp2
       replace qf := Aside0.mk (Kd.R_drew qf.out); replace qc := Aside0.mk (Kd.R_drew qc.out); replace qe := Aside0.mk (Kd.R_drew qe.out); replace qa := Aside0.mk (Kd.R_drew qa.out); replace qb := Aside0.mk (blk_drew qb.out); replace qd := Aside0.mk (blk_drew qd.out); replace qh := Aside0.mk (blk_drew qh.out); replace qi := Aside0.mk (blk_drew qi.out); replace qj := Aside0.mk (blk_drew qj.out); replace qg := Aside0.mk (blk_drew qg.out); replace HB := Aside0.mk (below_drew1 HB.out)
       refine start_ (n := 5) (S := fun w' => w'.cell? ⟨qO, 0, none⟩ = some (.slice qH qM.length qF) ∧ w'.cell? ⟨qO, 1, none⟩ = some (.int .i64 q0) ∧ w'.cell? ⟨qO, 2, none⟩ = some (.bool q2) ∧ w'.cell? ⟨qp, 0, none⟩ = some (.slice A0_0 l0_0.length c0_0) ∧ w'.cell? ⟨qp, 1, none⟩ = some (.int .i64 a0_1) ∧ w'.cell? ⟨qp, 2, none⟩ = some (.bool a0_2)) (ds := []) #[false, false, false, false, false] (by kernel_rfl) rfl rfl ⟨bc_ qi 0, bc_ qi 1, bc_ qi 2, bc_ qb 0, bc_ qb 1, bc_ qb 2⟩ (fun hHeld => ?_)
       generalize wc.drew = Ms at qf qc qe qa qb qd qh qi qj qg HB hHeld ⊢
       refine take_ (i := 0) (N := some 62) (v := ?_) (a' := ?_) #[true, false, false, false, false] rfl rfl (by kernel_rfl) (fun _ _ _ h => h) (Or.inl ⟨by rfl, ?_⟩) hHeld ?_ ?_
       rotate_left
       ·
        rintro w' ⟨s0, s1, s2, s3, s4, s5⟩
        go_simp
        with_reducible rfl
       rotate_left
       ·
        simp only [Act.put, List.setIfInBounds_toArray, List.set_cons_zero, List.set_cons_succ, i64_w, i32_w]
        rfl
       refine take_ (i := 1) (N := some 63) (v := ?_) (a' := ?_) #[true, true, false, false, false] rfl rfl (by kernel_rfl) (fun _ _ _ h => h) (Or.inl ⟨by rfl, ?_⟩) hHeld ?_ ?_
       rotate_left
       ·
        rintro w' ⟨s0, s1, s2, s3, s4, s5⟩
        go_simp
        with_reducible rfl
       rotate_left
       ·
        simp only [Act.put, List.setIfInBounds_toArray, List.set_cons_zero, List.set_cons_succ, i64_w, i32_w]
        rfl
       refine one_ (i := 2) (N := some 64) #[true, true, true, false, false] rfl rfl (by kernel_rfl) (by decide) (fun K hK => ?_)
       refine goes_ Try.func15 (by kernel_rfl) rfl #[.agg #[.slice A0_0 l0_0.length c0_0, .int .i64 a0_1, .bool a0_2]] (by rfl) rfl rfl (by (try simp only [List.map_toArray, List.map_cons, List.map_nil]); first | done | rfl | (simp only [List.length_drop, List.length_take]; rfl)) ?_
       with_reducible refine (laws_toAtom.calls kj26 _ _ l0_0 a0_1 a0_2 z1 jL jM _ ?side1 ?side2 A103.out).mono ?_
       (case side1 => exact cb_ z4 HB)
       (case side2 => exact z5.out)
       rintro e Mt ⟨Ju, rfl, ho0, hb⟩
       refine ⟨_, rfl, ?_⟩
       have qW := Aside0.mk (Kd.R_lower (Kd.R_new' (Kd.R_new' (Kd.R_new' (Kd.R_new' ho0 (Kd.R_lt (rm_ qf))) (Kd.R_lt (rm_ qc))) (Kd.R_lt (rm_ qe))) (Kd.R_lt (rm_ qa))) (bz_ HB)); replace qf := Aside0.mk (Kd.R_elder' (rm_ qf) (Kd.R_base ho0) hb); replace qc := Aside0.mk (Kd.R_elder' (rm_ qc) (Kd.R_base ho0) hb); replace qe := Aside0.mk (Kd.R_elder' (rm_ qe) (Kd.R_base ho0) hb); replace qa := Aside0.mk (Kd.R_elder' (rm_ qa) (Kd.R_base ho0) hb); replace qb := kB_ qb hb; replace qd := kB_ qd hb; replace qh := kB_ qh hb; replace qi := kB_ qi hb; replace qj := kB_ qj hb; replace qg := kB_ qg hb; replace HB := bS_ HB hb; (try clear hb); (try clear hb2); (try clear hk); (try clear hi); (try clear ho0)
       obtain ⟨Xt, Xu, eo276⟩ := Kd.R_slice qW.out
       (first | subst eo276 | (injection eo276 with f1_ f2_ f3_; have f4_ := f1_.symm; have f5_ := f3_.symm; clear f1_ f2_ f3_; subst f4_; subst f5_))
       refine hK.out _ _ ⟨bc_ qi 0, bc_ qi 1, bc_ qi 2, bc_ qb 0, bc_ qb 1, bc_ qb 2⟩ (fun hHeld => ?_)
       clear hK K
       refine norm_ (a' := ?_) ?_ ?_
       rotate_left
       ·
        show Act.put _ (some 64) _ = _
        simp only [Act.put, List.setIfInBounds_toArray, List.set_cons_zero, List.set_cons_succ, i64_w, i32_w]
        rfl
       refine one_ (i := 3) (N := some 65) #[true, true, true, true, false] rfl rfl (by kernel_rfl) (by decide) (fun K hK => ?_)
       refine goes_ Try.func17 (by kernel_rfl) rfl #[.agg #[.slice qH qM.length qF, .int .i64 q0, .bool q2], .agg #[.slice Xt z1.length Xu, .int .i64 jL, .bool jM]] (by rfl) rfl rfl (by (try simp only [List.map_toArray, List.map_cons, List.map_nil]); first | done | rfl | (simp only [List.length_drop, List.length_take]; rfl)) ?_
       with_reducible refine (laws_eqAtom.calls kj26 _ _ qM q0 q2 _ _ z1 jL jM false _ ?side1 ?side2 ?side3 ?side4 A104.out).mono ?_
       (case side1 => exact cr_ qc)
       (case side2 => exact (Kd.R_reads' qc.out).2.1)
       (case side3 => exact cr_ qW)
       (case side4 => exact (Kd.R_reads' qW.out).2.1)
       rintro e Mu ⟨rfl, hb⟩
       refine ⟨_, rfl, ?_⟩
       replace qf := rB_ qf hb; replace qc := rB_ qc hb; replace qe := rB_ qe hb; replace qa := rB_ qa hb; replace qW := rB_ qW hb; replace qb := kB_ qb hb; replace qd := kB_ qd hb; replace qh := kB_ qh hb; replace qi := kB_ qi hb; replace qj := kB_ qj hb; replace qg := kB_ qg hb; replace HB := bS_ HB hb; (try clear hb); (try clear hb2); (try clear hk); (try clear hi)
       refine hK.out _ _ ⟨bc_ qi 0, bc_ qi 1, bc_ qi 2, bc_ qb 0, bc_ qb 1, bc_ qb 2⟩ (fun hHeld => ?_)
       clear hK K
       refine norm_ (a' := ?_) ?_ ?_
       rotate_left
       ·
        show Act.put _ (some 65) _ = _
        simp only [Act.put, List.setIfInBounds_toArray, List.set_cons_zero, List.set_cons_succ, i64_w, i32_w]
        rfl
       refine pure_ (i := 4) (N := some 66) (v := ?_) (a' := ?_) #[true, true, true, true, true] rfl rfl (by kernel_rfl) (fun _ _ _ h => h) (Or.inl ⟨by rfl, ?_⟩) ?_ ?_
       rotate_left
       ·
        intro w'
        go_simp
        with_reducible rfl
       rotate_left
       ·
        simp only [Act.put, List.setIfInBounds_toArray, List.set_cons_zero, List.set_cons_succ, i64_w, i32_w]
        rfl
       refine done_ (by kernel_rfl) ?_
       try go_wp2
       go_ret
       exact ⟨by first | rfl | (simp [errW_none, errW_some] <;> rfl) | (simp [*, errW_none, errW_some] <;> rfl), bb_ HB⟩

end Go.Proofs.Ytaijkhabcidagaa.PFnExactMixAtoms
