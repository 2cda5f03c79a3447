/- The functions that the law FnExactFixVariable reaches, each as a Lean function with the same answers, and the proof that the call comes to exactly these: turned by program out of the printed texts. No condition but those that each theorem names. -/
import Derived.Test.YtaijkhabcidagaaQFnExactFixVariablex0
import Derived.Test.YtaijkhabcidagaaQFnExactFixVariablex2
namespace Go.Proofs.Ytaijkhabcidagaa.PFnExactFixVariable
open Go.RowKit Go.Proofs.YtaijkhabcidagaaW.PrintWords Go.Proofs.YtaijkhabcidagaaW.PrintLast Go.Proofs.YtaijkhabcidagaaW.PrintMore
attribute [local go_sem] max2_int min2_int max_two min_two max_three min_three max_four min_four   -- for this text's walks alone
set_option linter.unusedVariables false
set_option linter.unusedSimpArgs false

/-! ### laws_FnExactFixVariable: function 8 -/
mutual
def laws_FnExactFixVariable.j0 : Nat → Int → Bool → Bool → Bool → List Int → Int → Bool → Int → Int → List Int → Int → Bool → List Int → Int → Bool → List Int → Int → Bool → Option (Bool)
 | 0, _, _, _, _, _, _, _, _, _, _, _, _, _, _, _, _, _, _ => none
 | k + 1, x1, x9, x12, x50, x222000, x222001, x222002, x223000, x223001, x238000, x238001, x238002, x244000, x244001, x244002, x253000, x253001, x253002 => if x50 = true then (some false) else ((laws_toAtom.f k x222000 x222001 x222002).bind fun z0 => ((laws_eqAtom.f k x244000 x244001 x244002 z0.1 z0.2.1 z0.2.2).bind fun jh => (if jh = true then ((laws_markAtom.f k x244000 x244001 x244002 1).bind fun zF => (if zF.1 < 0 then (laws_FnExactFixVariable.j1 k x1 x9 true x222000 x222001 x222002 x223000 x223001 x238000 x238001 x238002 x253000 x253001 x253002) else ((laws_eqAtom.f k x253000 x253001 x253002 x238000 x238001 x238002).bind fun zG => (if zG = true then (laws_FnExactFixVariable.j1 k x1 x9 (x12 != x9) x222000 x222001 x222002 x223000 x223001 x238000 x238001 x238002 x253000 x253001 x253002) else (laws_FnExactFixVariable.j1 k x1 x9 true x222000 x222001 x222002 x223000 x223001 x238000 x238001 x238002 x253000 x253001 x253002))))) else (some false))))
def laws_FnExactFixVariable.j1 : Nat → Int → Bool → Bool → List Int → Int → Bool → Int → Int → List Int → Int → Bool → List Int → Int → Bool → Option (Bool)
 | 0, _, _, _, _, _, _, _, _, _, _, _, _, _, _ => none
 | k + 1, x1, x9, x71, x222000, x222001, x222002, x223000, x223001, x238000, x238001, x238002, x253000, x253001, x253002 => if x71 = true then (some false) else ((laws_markAtom.f k x253000 x253001 x253002 1).bind fun zu => ((laws_heldAtom.f k zu.2 x253001 x253002 1).bind fun zr => (if zr < 0 then (some false) else (if zr = zu.1 then ((laws_toAtom.f k x222000 x222001 x222002).bind fun zq => ((laws_toRatio.f x223000 x223001).bind fun zs => ((impl_FixVariable.f k zq.1 zq.2.1 zq.2.2 x1 zs.1 zs.2).bind fun q9 => ((laws_eqAtom.f k q9.1 q9.2.1 q9.2.2.1 x238000 x238001 x238002).bind fun zC => (if zC = true then (laws_FnExactFixVariable.j2 k zu.1 (q9.2.2.2 != x9) zu.2 x253001 x253002) else (laws_FnExactFixVariable.j2 k zu.1 true zu.2 x253001 x253002)))))) else (some false)))))
def laws_FnExactFixVariable.j2 : Nat → Int → Bool → List Int → Int → Bool → Option (Bool)
 | 0, _, _, _, _, _ => none
 | k + 1, x14, x100, x253000, x253001, x253002 => if x100 = true then (some false) else ((laws_heldAtom.f k x253000 x253001 x253002 1).bind fun zw => (if zw < 0 then (some false) else (if zw = x14 then (some true) else (some false))))
end
def laws_FnExactFixVariable.f (k : Nat) (l0_0 : List Int) (a0_1 : Int) (a0_2 : Bool) (a1 : Int) (a2_0 : Int) (a2_1 : Int) : Option (Bool) := (laws_szAtom.f l0_0 a0_1 a0_2 1048576).bind fun z3 => (if z3 < 0 then (some true) else ((laws_toAtom.f k l0_0 a0_1 a0_2).bind fun zA => ((laws_toRatio.f a2_0 a2_1).bind fun zB => ((spec_FixVariable.f k zA.1 zA.2.1 zA.2.2 a1 zB.1 zB.2).bind fun qx => ((laws_toAtom.f k l0_0 a0_1 a0_2).bind fun qz => ((laws_toRatio.f a2_0 a2_1).bind fun zi => ((impl_FixVariable.f k qz.1 qz.2.1 qz.2.2 a1 zi.1 zi.2).bind fun qk => ((laws_eqAtom.f k qk.1 qk.2.1 qk.2.2.1 qx.1 qx.2.1 qx.2.2.1).bind fun zv => (if zv = true then (laws_FnExactFixVariable.j0 k a1 qx.2.2.2 qk.2.2.2 (qk.2.2.2 != qx.2.2.2) l0_0 a0_1 a0_2 a2_0 a2_1 qx.1 qx.2.1 qx.2.2.1 qz.1 qz.2.1 qz.2.2 qk.1 qk.2.1 qk.2.2.1) else (laws_FnExactFixVariable.j0 k a1 qx.2.2.2 qk.2.2.2 true l0_0 a0_1 a0_2 a2_0 a2_1 qx.1 qx.2.1 qx.2.2.1 qz.1 qz.2.1 qz.2.2 qk.1 qk.2.1 qk.2.2.1))))))))))
theorem laws_FnExactFixVariable.mono_l : ∀ k, (∀ y0 y1 y2 y3 y4 y5 y6 y7 y8 y9 y10 y11 y12 y13 y14 y15 y16 y17, LeO (laws_FnExactFixVariable.j0 k y0 y1 y2 y3 y4 y5 y6 y7 y8 y9 y10 y11 y12 y13 y14 y15 y16 y17) (laws_FnExactFixVariable.j0 (k + 1) y0 y1 y2 y3 y4 y5 y6 y7 y8 y9 y10 y11 y12 y13 y14 y15 y16 y17)) ∧ (∀ y0 y1 y2 y3 y4 y5 y6 y7 y8 y9 y10 y11 y12 y13, LeO (laws_FnExactFixVariable.j1 k y0 y1 y2 y3 y4 y5 y6 y7 y8 y9 y10 y11 y12 y13) (laws_FnExactFixVariable.j1 (k + 1) y0 y1 y2 y3 y4 y5 y6 y7 y8 y9 y10 y11 y12 y13)) ∧ (∀ y0 y1 y2 y3 y4, LeO (laws_FnExactFixVariable.j2 k y0 y1 y2 y3 y4) (laws_FnExactFixVariable.j2 (k + 1) y0 y1 y2 y3 y4))
 | 0 => ⟨fun _ _ _ _ _ _ _ _ _ _ _ _ _ _ _ _ _ _ r h => by simp [laws_FnExactFixVariable.j0] at h, fun _ _ _ _ _ _ _ _ _ _ _ _ _ _ r h => by simp [laws_FnExactFixVariable.j1] at h, fun _ _ _ _ _ r h => by simp [laws_FnExactFixVariable.j2] at h⟩
 | k + 1 => by
  obtain ⟨ih0, ih1, ih2⟩ := laws_FnExactFixVariable.mono_l k
  refine ⟨?_, ?_, ?_⟩
  ·
   intro y0 y1 y2 y3 y4 y5 y6 y7 y8 y9 y10 y11 y12 y13 y14 y15 y16 y17
   unfold laws_FnExactFixVariable.j0
   repeat' first
   | (with_reducible exact ih0 _ _ _ _ _ _ _ _ _ _ _ _ _ _ _ _ _ _)
   | (with_reducible exact ih1 _ _ _ _ _ _ _ _ _ _ _ _ _ _)
   | (with_reducible exact ih2 _ _ _ _ _)
   | (with_reducible exact impl_FixVariable.mono _ _ _ _ _ _ _)
   | (with_reducible exact laws_eqAtom.mono _ _ _ _ _ _ _)
   | (with_reducible exact laws_heldAtom.mono _ _ _ _ _)
   | (with_reducible exact laws_markAtom.mono _ _ _ _ _)
   | (with_reducible exact laws_toAtom.mono _ _ _ _)
   | (with_reducible exact spec_FixVariable.mono _ _ _ _ _ _ _)
   | (with_reducible exact LeO.refl _)
   | (with_reducible exact LeO.none _)
   | (with_reducible refine LeO.ite ?_ ?_)
   | (with_reducible refine LeO.bind ?_ (fun _ => ?_))
   | exact ih0 _ _ _ _ _ _ _ _ _ _ _ _ _ _ _ _ _ _
   | exact ih1 _ _ _ _ _ _ _ _ _ _ _ _ _ _
   | exact ih2 _ _ _ _ _
   | exact impl_FixVariable.mono _ _ _ _ _ _ _
   | exact laws_eqAtom.mono _ _ _ _ _ _ _
   | exact laws_heldAtom.mono _ _ _ _ _
   | exact laws_markAtom.mono _ _ _ _ _
   | exact laws_toAtom.mono _ _ _ _
   | exact spec_FixVariable.mono _ _ _ _ _ _ _
   | exact LeO.none _
   | refine LeO.ite ?_ ?_
   | refine LeO.bind ?_ (fun _ => ?_)
  ·
   intro y0 y1 y2 y3 y4 y5 y6 y7 y8 y9 y10 y11 y12 y13
   unfold laws_FnExactFixVariable.j1
   repeat' first
   | (with_reducible exact ih0 _ _ _ _ _ _ _ _ _ _ _ _ _ _ _ _ _ _)
   | (with_reducible exact ih1 _ _ _ _ _ _ _ _ _ _ _ _ _ _)
   | (with_reducible exact ih2 _ _ _ _ _)
   | (with_reducible exact impl_FixVariable.mono _ _ _ _ _ _ _)
   | (with_reducible exact laws_eqAtom.mono _ _ _ _ _ _ _)
   | (with_reducible exact laws_heldAtom.mono _ _ _ _ _)
   | (with_reducible exact laws_markAtom.mono _ _ _ _ _)
   | (with_reducible exact laws_toAtom.mono _ _ _ _)
   | (with_reducible exact spec_FixVariable.mono _ _ _ _ _ _ _)
   | (with_reducible exact LeO.refl _)
   | (with_reducible exact LeO.none _)
   | (with_reducible refine LeO.ite ?_ ?_)
   | (with_reducible refine LeO.bind ?_ (fun _ => ?_))
   | exact ih0 _ _ _ _ _ _ _ _ _ _ _ _ _ _ _ _ _ _
   | exact ih1 _ _ _ _ _ _ _ _ _ _ _ _ _ _
   | exact ih2 _ _ _ _ _
   | exact impl_FixVariable.mono _ _ _ _ _ _ _
   | exact laws_eqAtom.mono _ _ _ _ _ _ _
   | exact laws_heldAtom.mono _ _ _ _ _
   | exact laws_markAtom.mono _ _ _ _ _
   | exact laws_toAtom.mono _ _ _ _
   | exact spec_FixVariable.mono _ _ _ _ _ _ _
   | exact LeO.none _
   | refine LeO.ite ?_ ?_
   | refine LeO.bind ?_ (fun _ => ?_)
  ·
   intro y0 y1 y2 y3 y4
   unfold laws_FnExactFixVariable.j2
   repeat' first
   | (with_reducible exact ih0 _ _ _ _ _ _ _ _ _ _ _ _ _ _ _ _ _ _)
   | (with_reducible exact ih1 _ _ _ _ _ _ _ _ _ _ _ _ _ _)
   | (with_reducible exact ih2 _ _ _ _ _)
   | (with_reducible exact impl_FixVariable.mono _ _ _ _ _ _ _)
   | (with_reducible exact laws_eqAtom.mono _ _ _ _ _ _ _)
   | (with_reducible exact laws_heldAtom.mono _ _ _ _ _)
   | (with_reducible exact laws_markAtom.mono _ _ _ _ _)
   | (with_reducible exact laws_toAtom.mono _ _ _ _)
   | (with_reducible exact spec_FixVariable.mono _ _ _ _ _ _ _)
   | (with_reducible exact LeO.refl _)
   | (with_reducible exact LeO.none _)
   | (with_reducible refine LeO.ite ?_ ?_)
   | (with_reducible refine LeO.bind ?_ (fun _ => ?_))
   | exact ih0 _ _ _ _ _ _ _ _ _ _ _ _ _ _ _ _ _ _
   | exact ih1 _ _ _ _ _ _ _ _ _ _ _ _ _ _
   | exact ih2 _ _ _ _ _
   | exact impl_FixVariable.mono _ _ _ _ _ _ _
   | exact laws_eqAtom.mono _ _ _ _ _ _ _
   | exact laws_heldAtom.mono _ _ _ _ _
   | exact laws_markAtom.mono _ _ _ _ _
   | exact laws_toAtom.mono _ _ _ _
   | exact spec_FixVariable.mono _ _ _ _ _ _ _
   | exact LeO.none _
   | refine LeO.ite ?_ ?_
   | refine LeO.bind ?_ (fun _ => ?_)
theorem laws_FnExactFixVariable.mono : ∀ a0 a1 a2 a3 a4 a5 k, LeO (laws_FnExactFixVariable.f k a0 a1 a2 a3 a4 a5) (laws_FnExactFixVariable.f (k + 1) a0 a1 a2 a3 a4 a5) := by
 intro a0 a1 a2 a3 a4 a5 k
 obtain ⟨ih0, ih1, ih2⟩ := laws_FnExactFixVariable.mono_l k
 unfold laws_FnExactFixVariable.f
 repeat' first
   | (with_reducible exact ih0 _ _ _ _ _ _ _ _ _ _ _ _ _ _ _ _ _ _)
   | (with_reducible exact ih1 _ _ _ _ _ _ _ _ _ _ _ _ _ _)
   | (with_reducible exact ih2 _ _ _ _ _)
   | (with_reducible exact impl_FixVariable.mono _ _ _ _ _ _ _)
   | (with_reducible exact laws_eqAtom.mono _ _ _ _ _ _ _)
   | (with_reducible exact laws_heldAtom.mono _ _ _ _ _)
   | (with_reducible exact laws_markAtom.mono _ _ _ _ _)
   | (with_reducible exact laws_toAtom.mono _ _ _ _)
   | (with_reducible exact spec_FixVariable.mono _ _ _ _ _ _ _)
   | (with_reducible exact LeO.refl _)
   | (with_reducible exact LeO.none _)
   | (with_reducible refine LeO.ite ?_ ?_)
   | (with_reducible refine LeO.bind ?_ (fun _ => ?_))
   | exact ih0 _ _ _ _ _ _ _ _ _ _ _ _ _ _ _ _ _ _
   | exact ih1 _ _ _ _ _ _ _ _ _ _ _ _ _ _
   | exact ih2 _ _ _ _ _
   | exact impl_FixVariable.mono _ _ _ _ _ _ _
   | exact laws_eqAtom.mono _ _ _ _ _ _ _
   | exact laws_heldAtom.mono _ _ _ _ _
   | exact laws_markAtom.mono _ _ _ _ _
   | exact laws_toAtom.mono _ _ _ _
   | exact spec_FixVariable.mono _ _ _ _ _ _ _
   | exact LeO.none _
   | refine LeO.ite ?_ ?_
   | refine LeO.bind ?_ (fun _ => ?_)
def laws_FnExactFixVariable.T5 : Bool × List (List Nat × List Nat) := (true, [([], []), ([0], [0]), ([], []), ([], []), ([3, 1], [3]), ([1, 2, 4, 4], [1, 2, 4]), ([5], [5]), ([6], [6]), ([6], [6]), ([], []), ([9, 7, 5, 0, 1, 2, 3, 4, 5, 6, 7, 9], [7, 9]), ([8, 10, 0, 1, 2, 3, 4, 5, 6, 7, 8, 9, 10], [8])])
def laws_FnExactFixVariable.B5 : List Nat := [0, 1, 0, 0, 11, 31, 63, 127, 127, 0, 767, 2047]
theorem laws_FnExactFixVariable.tab5 : rtab .any (opsOf Try.f8 5) = laws_FnExactFixVariable.T5 := by kernel_rfl
theorem laws_FnExactFixVariable.bits5 : waitsOk laws_FnExactFixVariable.T5.2 laws_FnExactFixVariable.B5 = true := by kernel_rfl
def laws_FnExactFixVariable.T7 : Bool × List (List Nat × List Nat) := (true, [([], []), ([], []), ([], []), ([2], [2]), ([0, 1, 3, 3], [0, 1, 3]), ([4], [4]), ([5], [5]), ([5], [5]), ([], []), ([8, 6, 4, 0, 1, 2, 3, 4, 5, 6, 8], [6, 8]), ([7, 9, 0, 1, 2, 3, 4, 5, 6, 7, 8, 9], [7])])
def laws_FnExactFixVariable.B7 : List Nat := [0, 0, 0, 4, 15, 31, 63, 63, 0, 383, 1023]
theorem laws_FnExactFixVariable.tab7 : rtab .any (opsOf Try.f8 7) = laws_FnExactFixVariable.T7 := by kernel_rfl
theorem laws_FnExactFixVariable.bits7 : waitsOk laws_FnExactFixVariable.T7.2 laws_FnExactFixVariable.B7 = true := by kernel_rfl
def laws_FnExactFixVariable.T24 : Bool × List (List Nat × List Nat) := (true, [([], []), ([0], [0]), ([], []), ([], []), ([3, 1], [3]), ([1, 2, 4, 4], [1, 2, 4]), ([5], [5]), ([6], [6]), ([6], [6]), ([], []), ([9, 7, 5, 0, 1, 2, 3, 4, 5, 6, 7, 9], [7, 9]), ([8, 10, 0, 1, 2, 3, 4, 5, 6, 7, 8, 9, 10], [8])])
def laws_FnExactFixVariable.B24 : List Nat := [0, 1, 0, 0, 11, 31, 63, 127, 127, 0, 767, 2047]
theorem laws_FnExactFixVariable.tab24 : rtab .any (opsOf Try.f8 24) = laws_FnExactFixVariable.T24 := by kernel_rfl
theorem laws_FnExactFixVariable.bits24 : waitsOk laws_FnExactFixVariable.T24.2 laws_FnExactFixVariable.B24 = true := by kernel_rfl
set_option maxHeartbeats 8000000 in
set_option maxRecDepth 100000 in
theorem laws_FnExactFixVariable.calls (k : Nat) (A0_0 : Option Addr) (c0_0 : Nat) (l0_0 : List Int) (a0_1 : Int) (a0_2 : Bool) (a1 : Int) (a2_0 : Int) (a2_1 : Int) (r : Bool) (w : World) (hr0_0 : Kd.C (Kd.int .i64) w A0_0 l0_0.length l0_0) (hc0_0 : l0_0.length ≤ c0_0) (h : laws_FnExactFixVariable.f k l0_0 a0_1 a0_2 a1 a2_0 a2_1 = some r) :
  Calls Try.prog 8 #[.agg #[.slice A0_0 l0_0.length c0_0, .int .i64 a0_1, .bool a0_2], .int .i64 a1, .agg #[.int .i64 a2_0, .int .i64 a2_1]] w fun e w' => e = .returned (.bool r) ∧ Below w.heap.size w w' := by
 have hu24 := Try.underlying24
 have hu54 := Try.underlying54
 have hu26 := Try.underlying26
 have zH := Aside0.mk hr0_0
 have zI := Aside0.mk hc0_0
 clear hr0_0 hc0_0
 have HB := Aside0.mk (Below.refl w.heap.size w)
 have H : ((laws_szAtom.f l0_0 a0_1 a0_2 1048576).bind fun z3 => (if z3 < 0 then (some true) else ((laws_toAtom.f k l0_0 a0_1 a0_2).bind fun zA => ((laws_toRatio.f a2_0 a2_1).bind fun zB => ((spec_FixVariable.f k zA.1 zA.2.1 zA.2.2 a1 zB.1 zB.2).bind fun qx => ((laws_toAtom.f k l0_0 a0_1 a0_2).bind fun qz => ((laws_toRatio.f a2_0 a2_1).bind fun zi => ((impl_FixVariable.f k qz.1 qz.2.1 qz.2.2 a1 zi.1 zi.2).bind fun qk => ((laws_eqAtom.f k qk.1 qk.2.1 qk.2.2.1 qx.1 qx.2.1 qx.2.2.1).bind fun zv => (if zv = true then (laws_FnExactFixVariable.j0 k a1 qx.2.2.2 qk.2.2.2 (qk.2.2.2 != qx.2.2.2) l0_0 a0_1 a0_2 a2_0 a2_1 qx.1 qx.2.1 qx.2.2.1 qz.1 qz.2.1 qz.2.2 qk.1 qk.2.1 qk.2.2.1) else (laws_FnExactFixVariable.j0 k a1 qx.2.2.2 qk.2.2.2 true l0_0 a0_1 a0_2 a2_0 a2_1 qx.1 qx.2.1 qx.2.2.1 qz.1 qz.2.1 qz.2.2 qk.1 qk.2.1 qk.2.2.1))))))))))) = some r := h
 clear h
 replace H := Option.bind_eq_some_iff.mp H
 obtain ⟨z3, A40, H⟩ := H
 replace H : (if z3 < 0 then (some true) else ((laws_toAtom.f k l0_0 a0_1 a0_2).bind fun zA => ((laws_toRatio.f a2_0 a2_1).bind fun zB => ((spec_FixVariable.f k zA.1 zA.2.1 zA.2.2 a1 zB.1 zB.2).bind fun qx => ((laws_toAtom.f k l0_0 a0_1 a0_2).bind fun qz => ((laws_toRatio.f a2_0 a2_1).bind fun zi => ((impl_FixVariable.f k qz.1 qz.2.1 qz.2.2 a1 zi.1 zi.2).bind fun qk => ((laws_eqAtom.f k qk.1 qk.2.1 qk.2.2.1 qx.1 qx.2.1 qx.2.2.1).bind fun zv => (if zv = true then (laws_FnExactFixVariable.j0 k a1 qx.2.2.2 qk.2.2.2 (qk.2.2.2 != qx.2.2.2) l0_0 a0_1 a0_2 a2_0 a2_1 qx.1 qx.2.1 qx.2.2.1 qz.1 qz.2.1 qz.2.2 qk.1 qk.2.1 qk.2.2.1) else (laws_FnExactFixVariable.j0 k a1 qx.2.2.2 qk.2.2.2 true l0_0 a0_1 a0_2 a2_0 a2_1 qx.1 qx.2.1 qx.2.2.1 qz.1 qz.2.1 qz.2.2 qk.1 qk.2.1 qk.2.2.1)))))))))) = some r := H
 have A4 := Aside0.mk A40
 clear A40
 by_cases c5 : z3 < 0
 ·
  rw [if_pos c5] at H
  have Ji : decide (z3 < 0) = true := decide_eq_true c5
  clear c5
  obtain rfl := Option.some.inj H
  go_enter Try.func8, Try.ntmps8
  go_wp2_with (first | ((with_reducible refine gate_dst (N := 3) rfl ?_); refine box_event ?hg (N := 3) ?hd (cs := #[.slice A0_0 l0_0.length c0_0, .int .i64 a0_1, .bool a0_2]) (t := 24) ?hr ?_; (case hd => rfl); (case hg => rfl); (case hr => first | (go_simp; done) | (go_simp; rfl)); intro qo hg w6 hbox hb; have qa := Aside0.mk (hbox); have Q0 := Aside0.mk ((by rw [hg]; exact (bz_ HB) : w.heap.size ≤ qo)); have ji := Aside0.mk ((by rw [hg]; exact (bz_ HB) : w.heap.size ≤ qo)); replace HB := bS_ HB hb; clear hb hbox hg) | ((with_reducible refine gate_dst (N := 5) rfl ?_); refine box_event ?hg (N := 5) ?hd (cs := #[.int .i64 a2_0, .int .i64 a2_1]) (t := 54) ?hr ?_; (case hd => rfl); (case hg => rfl); (case hr => first | (go_simp; done) | (go_simp; rfl)); intro qs hg w7 hbox hb; have qc := Aside0.mk (hbox); have Q1 := Aside0.mk ((by rw [hg]; exact (bz_ HB) : w.heap.size ≤ qs)); have jj := Aside0.mk ((by rw [hg]; exact (bz_ HB) : w.heap.size ≤ qs)); replace HB := bS_ HB hb; have zK := Aside0.mk ((nl_ qa hg : qo ≠ qs)); have zL := Aside0.mk ((ng_ qa hg : qs ≠ qo)); replace qa := kB_ qa hb; clear hb hbox hg; have Df := zK.out; have Dg := zL.out; have Jj : w7.cell? ⟨qo, 0, none⟩ = some (.slice A0_0 l0_0.length c0_0) := bc_ qa 0; have Jk : w7.cell? ⟨qo, 1, none⟩ = some (.int .i64 a0_1) := bc_ qa 1; have Jl : w7.cell? ⟨qo, 2, none⟩ = some (.bool a0_2) := bc_ qa 2; have Jm := blk_frozen qa.out 0; have Jn := blk_frozen qa.out 1; have Jo := blk_frozen qa.out 2) | ((with_reducible refine gate_callee (f := 13) rfl ?_); refine goesL_ (some 20) rfl rfl Try.func13 (by kernel_rfl) rfl #[.agg #[.slice A0_0 l0_0.length c0_0, .int .i64 a0_1, .bool a0_2], .int .i64 1048576] rfl (by (try simp only [List.map_toArray, List.map_cons, List.map_nil]); first | done | rfl | (simp only [List.length_drop, List.length_take]; rfl)) ?_; (with_reducible refine (laws_szAtom.calls _ _ l0_0 a0_1 a0_2 1048576 z3 _ ?side1 ?side2 A4.out).mono ?_); (case side1 => exact cb_ zH HB); (case side2 => exact zI.out); rintro e DA ⟨rfl, hb⟩; refine ⟨_, rfl, ?_⟩; replace qa := kB_ qa hb; replace qc := kB_ qc hb; replace HB := bS_ HB hb; (try clear hb); (try clear hb2); (try clear hk); (try clear hi)))
  go_ret
  exact ⟨by first | rfl | (simp [errW_none, errW_some] <;> rfl) | (simp [*, errW_none, errW_some] <;> rfl), bb_ HB⟩
 ·
  rw [if_neg c5] at H
  have Ji : decide (z3 < 0) = false := decide_eq_false c5
  clear c5
  replace H := Option.bind_eq_some_iff.mp H
  obtain ⟨⟨zt, zM, zN⟩, A110, H⟩ := H
  replace H : ((laws_toRatio.f a2_0 a2_1).bind fun zB => ((spec_FixVariable.f k zt zM zN a1 zB.1 zB.2).bind fun qx => ((laws_toAtom.f k l0_0 a0_1 a0_2).bind fun qz => ((laws_toRatio.f a2_0 a2_1).bind fun zi => ((impl_FixVariable.f k qz.1 qz.2.1 qz.2.2 a1 zi.1 zi.2).bind fun qk => ((laws_eqAtom.f k qk.1 qk.2.1 qk.2.2.1 qx.1 qx.2.1 qx.2.2.1).bind fun zv => (if zv = true then (laws_FnExactFixVariable.j0 k a1 qx.2.2.2 qk.2.2.2 (qk.2.2.2 != qx.2.2.2) l0_0 a0_1 a0_2 a2_0 a2_1 qx.1 qx.2.1 qx.2.2.1 qz.1 qz.2.1 qz.2.2 qk.1 qk.2.1 qk.2.2.1) else (laws_FnExactFixVariable.j0 k a1 qx.2.2.2 qk.2.2.2 true l0_0 a0_1 a0_2 a2_0 a2_1 qx.1 qx.2.1 qx.2.2.1 qz.1 qz.2.1 qz.2.2 qk.1 qk.2.1 qk.2.2.1)))))))) = some r := H
  have A11 := Aside0.mk A110
  clear A110
  replace H := Option.bind_eq_some_iff.mp H
  obtain ⟨⟨zO, zP⟩, A120, H⟩ := H
  replace H : ((spec_FixVariable.f k zt zM zN a1 zO zP).bind fun qx => ((laws_toAtom.f k l0_0 a0_1 a0_2).bind fun qz => ((laws_toRatio.f a2_0 a2_1).bind fun zi => ((impl_FixVariable.f k qz.1 qz.2.1 qz.2.2 a1 zi.1 zi.2).bind fun qk => ((laws_eqAtom.f k qk.1 qk.2.1 qk.2.2.1 qx.1 qx.2.1 qx.2.2.1).bind fun zv => (if zv = true then (laws_FnExactFixVariable.j0 k a1 qx.2.2.2 qk.2.2.2 (qk.2.2.2 != qx.2.2.2) l0_0 a0_1 a0_2 a2_0 a2_1 qx.1 qx.2.1 qx.2.2.1 qz.1 qz.2.1 qz.2.2 qk.1 qk.2.1 qk.2.2.1) else (laws_FnExactFixVariable.j0 k a1 qx.2.2.2 qk.2.2.2 true l0_0 a0_1 a0_2 a2_0 a2_1 qx.1 qx.2.1 qx.2.2.1 qz.1 qz.2.1 qz.2.2 qk.1 qk.2.1 qk.2.2.1))))))) = some r := H
  have A12 := Aside0.mk A120
  clear A120
  replace H := Option.bind_eq_some_iff.mp H
  obtain ⟨⟨qn, qA, qD, qW⟩, A130, H⟩ := H
  replace H : ((laws_toAtom.f k l0_0 a0_1 a0_2).bind fun qz => ((laws_toRatio.f a2_0 a2_1).bind fun zi => ((impl_FixVariable.f k qz.1 qz.2.1 qz.2.2 a1 zi.1 zi.2).bind fun qk => ((laws_eqAtom.f k qk.1 qk.2.1 qk.2.2.1 qn qA qD).bind fun zv => (if zv = true then (laws_FnExactFixVariable.j0 k a1 qW qk.2.2.2 (qk.2.2.2 != qW) l0_0 a0_1 a0_2 a2_0 a2_1 qn qA qD qz.1 qz.2.1 qz.2.2 qk.1 qk.2.1 qk.2.2.1) else (laws_FnExactFixVariable.j0 k a1 qW qk.2.2.2 true l0_0 a0_1 a0_2 a2_0 a2_1 qn qA qD qz.1 qz.2.1 qz.2.2 qk.1 qk.2.1 qk.2.2.1)))))) = some r := H
  have A13 := Aside0.mk A130
  clear A130
  replace H := Option.bind_eq_some_iff.mp H
  obtain ⟨⟨qB, qX, qY⟩, A140, H⟩ := H
  replace H : ((laws_toRatio.f a2_0 a2_1).bind fun zi => ((impl_FixVariable.f k qB qX qY a1 zi.1 zi.2).bind fun qk => ((laws_eqAtom.f k qk.1 qk.2.1 qk.2.2.1 qn qA qD).bind fun zv => (if zv = true then (laws_FnExactFixVariable.j0 k a1 qW qk.2.2.2 (qk.2.2.2 != qW) l0_0 a0_1 a0_2 a2_0 a2_1 qn qA qD qB qX qY qk.1 qk.2.1 qk.2.2.1) else (laws_FnExactFixVariable.j0 k a1 qW qk.2.2.2 true l0_0 a0_1 a0_2 a2_0 a2_1 qn qA qD qB qX qY qk.1 qk.2.1 qk.2.2.1))))) = some r := H
  have A14 := Aside0.mk A140
  clear A140
  replace H := Option.bind_eq_some_iff.mp H
  obtain ⟨⟨z4, z5⟩, A150, H⟩ := H
  replace H : ((impl_FixVariable.f k qB qX qY a1 z4 z5).bind fun qk => ((laws_eqAtom.f k qk.1 qk.2.1 qk.2.2.1 qn qA qD).bind fun zv => (if zv = true then (laws_FnExactFixVariable.j0 k a1 qW qk.2.2.2 (qk.2.2.2 != qW) l0_0 a0_1 a0_2 a2_0 a2_1 qn qA qD qB qX qY qk.1 qk.2.1 qk.2.2.1) else (laws_FnExactFixVariable.j0 k a1 qW qk.2.2.2 true l0_0 a0_1 a0_2 a2_0 a2_1 qn qA qD qB qX qY qk.1 qk.2.1 qk.2.2.1)))) = some r := H
  have A15 := Aside0.mk A150
  clear A150
  replace H := Option.bind_eq_some_iff.mp H
  obtain ⟨⟨qp, qr, qt, zp⟩, A160, H⟩ := H
  replace H : ((laws_eqAtom.f k qp qr qt qn qA qD).bind fun zv => (if zv = true then (laws_FnExactFixVariable.j0 k a1 qW zp (zp != qW) l0_0 a0_1 a0_2 a2_0 a2_1 qn qA qD qB qX qY qp qr qt) else (laws_FnExactFixVariable.j0 k a1 qW zp true l0_0 a0_1 a0_2 a2_0 a2_1 qn qA qD qB qX qY qp qr qt))) = some r := H
  have A16 := Aside0.mk A160
  clear A160
  have HC17 := Aside0.mk H
  clear H
  go_enter Try.func8, Try.ntmps8
  try go_wp2_with (first | ((with_reducible refine gate_dst (N := 3) rfl ?_); refine box_event ?hg (N := 3) ?hd (cs := #[.slice A0_0 l0_0.length c0_0, .int .i64 a0_1, .bool a0_2]) (t := 24) ?hr ?_; (case hd => rfl); (case hg => rfl); (case hr => first | (go_simp; done) | (go_simp; rfl)); intro qo hg DB hbox hb; have qa := Aside0.mk (hbox); have Q0 := Aside0.mk ((by rw [hg]; exact (bz_ HB) : w.heap.size ≤ qo)); have ji := Aside0.mk ((by rw [hg]; exact (bz_ HB) : w.heap.size ≤ qo)); replace HB := bS_ HB hb; clear hb hbox hg) | ((with_reducible refine gate_dst (N := 5) rfl ?_); refine box_event ?hg (N := 5) ?hd (cs := #[.int .i64 a2_0, .int .i64 a2_1]) (t := 54) ?hr ?_; (case hd => rfl); (case hg => rfl); (case hr => first | (go_simp; done) | (go_simp; rfl)); intro qs hg Jp hbox hb; have qc := Aside0.mk (hbox); have Q1 := Aside0.mk ((by rw [hg]; exact (bz_ HB) : w.heap.size ≤ qs)); have jj := Aside0.mk ((by rw [hg]; exact (bz_ HB) : w.heap.size ≤ qs)); replace HB := bS_ HB hb; have zK := Aside0.mk ((nl_ qa hg : qo ≠ qs)); have zL := Aside0.mk ((ng_ qa hg : qs ≠ qo)); replace qa := kB_ qa hb; clear hb hbox hg; have Yg := zK.out; have Yh := zL.out; have Z0 : Jp.cell? ⟨qo, 0, none⟩ = some (.slice A0_0 l0_0.length c0_0) := bc_ qa 0; have Z1 : Jp.cell? ⟨qo, 1, none⟩ = some (.int .i64 a0_1) := bc_ qa 1; have Z2 : Jp.cell? ⟨qo, 2, none⟩ = some (.bool a0_2) := bc_ qa 2; have Z3 := blk_frozen qa.out 0; have Z4 := blk_frozen qa.out 1; have Z5 := blk_frozen qa.out 2) | ((with_reducible refine gate_callee (f := 13) rfl ?_); refine goesL_ (some 20) rfl rfl Try.func13 (by kernel_rfl) rfl #[.agg #[.slice A0_0 l0_0.length c0_0, .int .i64 a0_1, .bool a0_2], .int .i64 1048576] rfl (by (try simp only [List.map_toArray, List.map_cons, List.map_nil]); first | done | rfl | (simp only [List.length_drop, List.length_take]; rfl)) ?_; (with_reducible refine (laws_szAtom.calls _ _ l0_0 a0_1 a0_2 1048576 z3 _ ?side1 ?side2 A4.out).mono ?_); (case side1 => exact cb_ zH HB); (case side2 => exact zI.out); rintro e Dh ⟨rfl, hb⟩; refine ⟨_, rfl, ?_⟩; replace qa := kB_ qa hb; replace qc := kB_ qc hb; replace HB := bS_ HB hb; (try clear hb); (try clear hb2); (try clear hk); (try clear hi)))
  replace qa := Aside0.mk (blk_drew qa.out); replace qc := Aside0.mk (blk_drew qc.out); replace HB := Aside0.mk (below_drew1 HB.out)
  refine start_ (n := 12) (S := fun w' => w'.cell? ⟨qo, 0, none⟩ = some (.slice A0_0 l0_0.length c0_0) ∧ w'.cell? ⟨qo, 1, none⟩ = some (.int .i64 a0_1) ∧ w'.cell? ⟨qo, 2, none⟩ = some (.bool a0_2) ∧ w'.cell? ⟨qs, 0, none⟩ = some (.int .i64 a2_0) ∧ w'.cell? ⟨qs, 1, none⟩ = some (.int .i64 a2_1)) (ds := []) #[false, false, false, false, false, false, false, false, false, false, false, false] (by kernel_rfl) rfl rfl ⟨bc_ qa 0, bc_ qa 1, bc_ qa 2, bc_ qc 0, bc_ qc 1⟩ (fun hHeld => ?_); refine with_tabW laws_FnExactFixVariable.tab5 laws_FnExactFixVariable.bits5 (fun HT_ HW_ => ?_)
  generalize Dh.drew = DC at qa qc HB hHeld ⊢
  refine pure_ (i := 2) (N := some 26) (v := ?_) (a' := ?_) #[false, false, true, false, false, false, false, false, false, false, false, false] rfl rfl (any_of HT_.out (by kernel_rfl)) (fun _ _ _ h => h) (Or.inl ⟨by rfl, ?_⟩) ?_ ?_
  rotate_left
  ·
   intro w'
   go_simp
   with_reducible rfl
  rotate_left
  ·
   simp only [Act.put, List.setIfInBounds_toArray, List.set_cons_zero, List.set_cons_succ, i64_w, i32_w]
   rfl
  refine take_ (i := 0) (N := some 24) (v := ?_) (a' := ?_) #[true, false, true, false, false, false, false, false, false, false, false, false] rfl rfl (take_ofW HT_.out HW_.out (by kernel_rfl)) (fun _ _ _ h => h) (Or.inl ⟨by rfl, ?_⟩) hHeld ?_ ?_
  rotate_left
  ·
   rintro w' ⟨s0, s1, s2, s3, s4⟩
   go_simp
   with_reducible rfl
  rotate_left
  ·
   simp only [Act.put, List.setIfInBounds_toArray, List.set_cons_zero, List.set_cons_succ, i64_w, i32_w]
   rfl
  refine take_ (i := 3) (N := some 27) (v := ?_) (a' := ?_) #[true, false, true, true, false, false, false, false, false, false, false, false] rfl rfl (take_ofW HT_.out HW_.out (by kernel_rfl)) (fun _ _ _ h => h) (Or.inl ⟨by rfl, ?_⟩) hHeld ?_ ?_
  rotate_left
  ·
   rintro w' ⟨s0, s1, s2, s3, s4⟩
   go_simp
   with_reducible rfl
  rotate_left
  ·
   simp only [Act.put, List.setIfInBounds_toArray, List.set_cons_zero, List.set_cons_succ, i64_w, i32_w]
   rfl
  refine join_ (σ := Value × Value × Nat) 2 #[true, true, true, true, true, true, true, true, true, true, false, false] (fun s_ => [(25, .agg #[s_.1, .int .i64 zM, .bool zN]), (28, .agg #[.int .i64 zO, .int .i64 zP]), (29, .tuple #[.agg #[s_.2.1, .int .i64 qA, .bool qD], .bool qW]), (8, .pointer (some ⟨s_.2.2, 0, none⟩)), (23, .tuple #[.agg #[s_.2.1, .int .i64 qA, .bool qD], .bool qW]), (30, .agg #[s_.2.1, .int .i64 qA, .bool qD]), (31, .bool qW)]) (fun s_ w' => (w'.cell? ⟨qo, 0, none⟩ = some (.slice A0_0 l0_0.length c0_0) ∧ w'.cell? ⟨qo, 1, none⟩ = some (.int .i64 a0_1) ∧ w'.cell? ⟨qo, 2, none⟩ = some (.bool a0_2) ∧ w'.cell? ⟨qs, 0, none⟩ = some (.int .i64 a2_0) ∧ w'.cell? ⟨qs, 1, none⟩ = some (.int .i64 a2_1)) ∧ (Kd.R (Kd.int .i64) 3 w' w.heap.size (fun k_ => some k_ ≠ (s_.2.1 : Value).ownBlock) s_.1 zt) ∧ (Kd.R (Kd.int .i64) 3 w' w.heap.size (fun k_ => some k_ ≠ (s_.1 : Value).ownBlock) s_.2.1 qn) ∧ (w'.heap[qo]? = some (.cells #[.slice A0_0 l0_0.length c0_0, .int .i64 a0_1, .bool a0_2] 24 (0, 0))) ∧ (w'.heap[qs]? = some (.cells #[.int .i64 a2_0, .int .i64 a2_1] 54 (0, 0))) ∧ (w'.heap[s_.2.2]? = some (.cells #[.slice none 0 0, .int .i64 0, .bool false] 26 (0, 0))) ∧ (w.heap.size ≤ s_.2.2) ∧ (w.heap.size ≤ s_.2.2) ∧ (qo ≠ s_.2.2) ∧ (s_.2.2 ≠ qo) ∧ (qs ≠ s_.2.2) ∧ (s_.2.2 ≠ qs) ∧ (Below w.heap.size w w')) ?_ ?_
  rotate_left
  ·
   intro hCont
   refine two_ (i := 1) (j := 9) (Ni := some 25) (Nj := some 8) #[true, true, true, true, false, false, false, false, false, false, false, false] #[true, false, true, true, false, false, false, false, false, true, false, false] rfl rfl rfl rfl (two_of HT_.out (by kernel_rfl)) (by decide) (by decide) (fun K hK => ?_) (fun K hK => ?_)
   ·
    skip
    refine goes_ Try.func15 (by kernel_rfl) rfl #[.agg #[.slice A0_0 l0_0.length c0_0, .int .i64 a0_1, .bool a0_2]] (by rfl) rfl rfl (by (try simp only [List.map_toArray, List.map_cons, List.map_nil]); first | done | rfl | (simp only [List.length_drop, List.length_take]; rfl)) ?_
    with_reducible refine (laws_toAtom.calls k _ _ l0_0 a0_1 a0_2 zt zM zN _ ?side1 ?side2 A11.out).mono ?_
    (case side1 => exact cb_ zH HB)
    (case side2 => exact zI.out)
    rintro e Di ⟨zx, rfl, ho0, hb⟩
    refine ⟨_, rfl, ?_⟩
    have qq := Aside0.mk (Kd.R_lower ho0 (bz_ HB)); replace qa := kB_ qa hb; replace qc := kB_ qc hb; replace HB := bS_ HB hb; (try clear hb); (try clear hb2); (try clear hk); (try clear hi); (try clear ho0)
    refine hK.out _ _ ⟨bc_ qa 0, bc_ qa 1, bc_ qa 2, bc_ qc 0, bc_ qc 1⟩ (fun hHeld => ?_)
    clear hK K
    refine norm_ (a' := ?_) ?_ ?_
    rotate_left
    ·
     show Act.put _ (some 25) _ = _
     simp only [Act.put, List.setIfInBounds_toArray, List.set_cons_zero, List.set_cons_succ, i64_w, i32_w]
     rfl
    refine two_ (i := 4) (j := 9) (Ni := some 28) (Nj := some 8) #[true, true, true, true, true, false, false, false, false, false, false, false] #[true, true, true, true, false, false, false, false, false, true, false, false] rfl rfl rfl rfl (two_of HT_.out (by kernel_rfl)) (by decide) (by decide) (fun K hK => ?_) (fun K hK => ?_)
    ·
     skip
     refine goes_ Try.func35 (by kernel_rfl) rfl #[.agg #[.int .i64 a2_0, .int .i64 a2_1]] (by rfl) rfl rfl (by (try simp only [List.map_toArray, List.map_cons, List.map_nil]); first | done | rfl | (simp only [List.length_drop, List.length_take]; rfl)) ?_
     with_reducible refine (laws_toRatio.calls a2_0 a2_1 zO zP _ A12.out).mono ?_
     rintro e Yi ⟨rfl, hb⟩
     refine ⟨_, rfl, ?_⟩
     replace qq := rB_ qq hb; replace qa := kB_ qa hb; replace qc := kB_ qc hb; replace HB := bS_ HB hb; (try clear hb); (try clear hb2); (try clear hk); (try clear hi)
     obtain ⟨Q2, Q3, eo26⟩ := Kd.R_slice qq.out
     (first | subst eo26 | (injection eo26 with f1_ f2_ f3_; have f4_ := f1_.symm; have f5_ := f3_.symm; clear f1_ f2_ f3_; subst f4_; subst f5_))
     refine hK.out _ _ ⟨bc_ qa 0, bc_ qa 1, bc_ qa 2, bc_ qc 0, bc_ qc 1⟩ (fun hHeld => ?_)
     clear hK K
     refine norm_ (a' := ?_) ?_ ?_
     rotate_left
     ·
      show Act.put _ (some 28) _ = _
      simp only [Act.put, List.setIfInBounds_toArray, List.set_cons_zero, List.set_cons_succ, i64_w, i32_w]
      rfl
     refine two_ (i := 5) (j := 9) (Ni := some 29) (Nj := some 8) #[true, true, true, true, true, true, false, false, false, false, false, false] #[true, true, true, true, true, false, false, false, false, true, false, false] rfl rfl rfl rfl (two_of HT_.out (by kernel_rfl)) (by decide) (by decide) (fun K hK => ?_) (fun K hK => ?_)
     ·
      skip
      refine goes_ Try.func34 (by kernel_rfl) rfl #[.agg #[.slice Q2 zt.length Q3, .int .i64 zM, .bool zN], .int .i64 a1, .agg #[.int .i64 zO, .int .i64 zP]] (by rfl) rfl rfl (by (try simp only [List.map_toArray, List.map_cons, List.map_nil]); first | done | rfl | (simp only [List.length_drop, List.length_take]; rfl)) ?_
      with_reducible refine (spec_FixVariable.calls k _ _ zt zM zN a1 zO zP qn qA qD qW _ ?side1 ?side2 A13.out).mono ?_
      (case side1 => exact cr_ qq)
      (case side2 => exact (Kd.R_reads' qq.out).2.1)
      rintro e DD ⟨z6, rfl, ho0, hb⟩
      refine ⟨_, rfl, ?_⟩
      have qH := Aside0.mk (Kd.R_lower (Kd.R_new' ho0 (Kd.R_lt (rm_ qq))) (bz_ HB)); replace qq := Aside0.mk (Kd.R_elder' (rm_ qq) (Kd.R_base ho0) hb); replace qa := kB_ qa hb; replace qc := kB_ qc hb; replace HB := bS_ HB hb; (try clear hb); (try clear hb2); (try clear hk); (try clear hi); (try clear ho0)
      refine hK.out _ _ ⟨bc_ qa 0, bc_ qa 1, bc_ qa 2, bc_ qc 0, bc_ qc 1⟩ (fun hHeld => ?_)
      clear hK K
      refine norm_ (a' := ?_) ?_ ?_
      rotate_left
      ·
       show Act.put _ (some 29) _ = _
       simp only [Act.put, List.setIfInBounds_toArray, List.set_cons_zero, List.set_cons_succ, i64_w, i32_w]
       rfl
      refine pure_ (i := 6) (N := some 23) (v := ?_) (a' := ?_) #[true, true, true, true, true, true, true, false, false, false, false, false] rfl rfl (any_of HT_.out (by kernel_rfl)) (fun _ _ _ h => h) (Or.inl ⟨by rfl, ?_⟩) ?_ ?_
      rotate_left
      ·
       intro w'
       go_simp
       with_reducible rfl
      rotate_left
      ·
       simp only [Act.put, List.setIfInBounds_toArray, List.set_cons_zero, List.set_cons_succ, i64_w, i32_w]
       rfl
      refine pure_ (i := 7) (N := some 30) (v := ?_) (a' := ?_) #[true, true, true, true, true, true, true, true, false, false, false, false] rfl rfl (any_of HT_.out (by kernel_rfl)) (fun _ _ _ h => h) (Or.inl ⟨by rfl, ?_⟩) ?_ ?_
      rotate_left
      ·
       intro w'
       go_simp
       with_reducible rfl
      rotate_left
      ·
       simp only [Act.put, List.setIfInBounds_toArray, List.set_cons_zero, List.set_cons_succ, i64_w, i32_w]
       rfl
      refine pure_ (i := 8) (N := some 31) (v := ?_) (a' := ?_) #[true, true, true, true, true, true, true, true, true, false, false, false] rfl rfl (any_of HT_.out (by kernel_rfl)) (fun _ _ _ h => h) (Or.inl ⟨by rfl, ?_⟩) ?_ ?_
      rotate_left
      ·
       intro w'
       go_simp
       with_reducible rfl
      rotate_left
      ·
       simp only [Act.put, List.setIfInBounds_toArray, List.set_cons_zero, List.set_cons_succ, i64_w, i32_w]
       rfl
      refine one_ (i := 9) (N := some 8) #[true, true, true, true, true, true, true, true, true, true, false, false] rfl rfl (one_of HT_.out (by kernel_rfl)) (by decide) (fun K hK => ?_)
      refine box_step ?hg (N := 8) ?hd (cs := #[.slice none 0 0, .int .i64 0, .bool false]) (t := 26) ?hr ?_; (case hd => rfl); (case hg => rfl); (case hr => first | (go_simp; done) | (go_simp; rfl))
      intro qj hg Jq hbox hb
      replace qq := rB_ qq hb; replace qH := rB_ qH hb; have qg := Aside0.mk (hbox); have zV := Aside0.mk ((by rw [hg]; exact (bz_ HB) : w.heap.size ≤ qj)); have zy := Aside0.mk ((by rw [hg]; exact (bz_ HB) : w.heap.size ≤ qj)); replace HB := bS_ HB hb; have qw := Aside0.mk ((nl_ qa hg : qo ≠ qj)); have qV := Aside0.mk ((ng_ qa hg : qj ≠ qo)); replace qa := kB_ qa hb; have qI := Aside0.mk ((nl_ qc hg : qs ≠ qj)); have qZ := Aside0.mk ((ng_ qc hg : qj ≠ qs)); replace qc := kB_ qc hb; clear hb hbox hg
      refine hK.out _ _ ⟨bc_ qa 0, bc_ qa 1, bc_ qa 2, bc_ qc 0, bc_ qc 1⟩ (fun hHeld => ?_)
      clear hK K
      refine norm_ (a' := ?_) ?_ ?_
      rotate_left
      ·
       show Act.put _ (some 8) _ = _
       simp only [Act.put, List.setIfInBounds_toArray, List.set_cons_zero, List.set_cons_succ, i64_w, i32_w]
       rfl
      exact norm_ (by simp only [putAll, Act.put, List.setIfInBounds_toArray, List.set_cons_zero, List.set_cons_succ]) (hCont (.slice Q2 zt.length Q3, z6, qj) _ ⟨hHeld, (by (with_reducible repeat (first | apply Kd.R_alloc | apply Kd.R_drewN | apply Kd.R_drew)); exact Kd.R_mono qq.out (fun _ hk => hk.2)), (by (with_reducible repeat (first | apply Kd.R_alloc | apply Kd.R_drewN | apply Kd.R_drew)); exact Kd.R_mono qH.out (fun _ hk => hk.2)), (kf_ qa), (kf_ qc), (kf_ qg), zV.out, zy.out, qw.out, qV.out, qI.out, qZ.out, (bb_ HB)⟩)
     ·
      skip
      refine box_step ?hg (N := 8) ?hd (cs := #[.slice none 0 0, .int .i64 0, .bool false]) (t := 26) ?hr ?_; (case hd => rfl); (case hg => rfl); (case hr => first | (go_simp; done) | (go_simp; rfl))
      intro qj hg Yj hbox hb
      replace qq := rB_ qq hb; have qg := Aside0.mk (hbox); have zV := Aside0.mk ((by rw [hg]; exact (bz_ HB) : w.heap.size ≤ qj)); have zy := Aside0.mk ((by rw [hg]; exact (bz_ HB) : w.heap.size ≤ qj)); replace HB := bS_ HB hb; have qw := Aside0.mk ((nl_ qa hg : qo ≠ qj)); have qV := Aside0.mk ((ng_ qa hg : qj ≠ qo)); replace qa := kB_ qa hb; have qI := Aside0.mk ((nl_ qc hg : qs ≠ qj)); have qZ := Aside0.mk ((ng_ qc hg : qj ≠ qs)); replace qc := kB_ qc hb; clear hb hbox hg
      obtain ⟨jk, jl, eo27⟩ := Kd.R_slice qq.out
      (first | subst eo27 | (injection eo27 with f1_ f2_ f3_; have f4_ := f1_.symm; have f5_ := f3_.symm; clear f1_ f2_ f3_; subst f4_; subst f5_))
      refine hK.out _ _ ⟨bc_ qa 0, bc_ qa 1, bc_ qa 2, bc_ qc 0, bc_ qc 1⟩ (fun hHeld => ?_)
      clear hK K
      refine norm_ (a' := ?_) ?_ ?_
      rotate_left
      ·
       show Act.put _ (some 8) _ = _
       simp only [Act.put, List.setIfInBounds_toArray, List.set_cons_zero, List.set_cons_succ, i64_w, i32_w]
       rfl
      refine one_ (i := 5) (N := some 29) #[true, true, true, true, true, true, false, false, false, true, false, false] rfl rfl (one_of HT_.out (by kernel_rfl)) (by decide) (fun K hK => ?_)
      refine goes_ Try.func34 (by kernel_rfl) rfl #[.agg #[.slice jk zt.length jl, .int .i64 zM, .bool zN], .int .i64 a1, .agg #[.int .i64 zO, .int .i64 zP]] (by rfl) rfl rfl (by (try simp only [List.map_toArray, List.map_cons, List.map_nil]); first | done | rfl | (simp only [List.length_drop, List.length_take]; rfl)) ?_
      with_reducible refine (spec_FixVariable.calls k _ _ zt zM zN a1 zO zP qn qA qD qW _ ?side1 ?side2 A13.out).mono ?_
      (case side1 => exact cr_ qq)
      (case side2 => exact (Kd.R_reads' qq.out).2.1)
      rintro e Jq ⟨z6, rfl, ho0, hb⟩
      refine ⟨_, rfl, ?_⟩
      have qH := Aside0.mk (Kd.R_lower (Kd.R_new' ho0 (Kd.R_lt (rm_ qq))) (bz_ HB)); replace qq := Aside0.mk (Kd.R_elder' (rm_ qq) (Kd.R_base ho0) hb); replace qa := kB_ qa hb; replace qc := kB_ qc hb; replace qg := kB_ qg hb; replace HB := bS_ HB hb; (try clear hb); (try clear hb2); (try clear hk); (try clear hi); (try clear ho0)
      refine hK.out _ _ ⟨bc_ qa 0, bc_ qa 1, bc_ qa 2, bc_ qc 0, bc_ qc 1⟩ (fun hHeld => ?_)
      clear hK K
      refine norm_ (a' := ?_) ?_ ?_
      rotate_left
      ·
       show Act.put _ (some 29) _ = _
       simp only [Act.put, List.setIfInBounds_toArray, List.set_cons_zero, List.set_cons_succ, i64_w, i32_w]
       rfl
      refine pure_ (i := 6) (N := some 23) (v := ?_) (a' := ?_) #[true, true, true, true, true, true, true, false, false, true, false, false] rfl rfl (any_of HT_.out (by kernel_rfl)) (fun _ _ _ h => h) (Or.inl ⟨by rfl, ?_⟩) ?_ ?_
      rotate_left
      ·
       intro w'
       go_simp
       with_reducible rfl
      rotate_left
      ·
       simp only [Act.put, List.setIfInBounds_toArray, List.set_cons_zero, List.set_cons_succ, i64_w, i32_w]
       rfl
      refine pure_ (i := 7) (N := some 30) (v := ?_) (a' := ?_) #[true, true, true, true, true, true, true, true, false, true, false, false] rfl rfl (any_of HT_.out (by kernel_rfl)) (fun _ _ _ h => h) (Or.inl ⟨by rfl, ?_⟩) ?_ ?_
      rotate_left
      ·
       intro w'
       go_simp
       with_reducible rfl
      rotate_left
      ·
       simp only [Act.put, List.setIfInBounds_toArray, List.set_cons_zero, List.set_cons_succ, i64_w, i32_w]
       rfl
      refine pure_ (i := 8) (N := some 31) (v := ?_) (a' := ?_) #[true, true, true, true, true, true, true, true, true, true, false, false] rfl rfl (any_of HT_.out (by kernel_rfl)) (fun _ _ _ h => h) (Or.inl ⟨by rfl, ?_⟩) ?_ ?_
      rotate_left
      ·
       intro w'
       go_simp
       with_reducible rfl
      rotate_left
      ·
       simp only [Act.put, List.setIfInBounds_toArray, List.set_cons_zero, List.set_cons_succ, i64_w, i32_w]
       rfl
      exact norm_ (by simp only [putAll, Act.put, List.setIfInBounds_toArray, List.set_cons_zero, List.set_cons_succ]) (hCont (.slice jk zt.length jl, z6, qj) _ ⟨hHeld, (by (with_reducible repeat (first | apply Kd.R_alloc | apply Kd.R_drewN | apply Kd.R_drew)); exact Kd.R_mono qq.out (fun _ hk => hk.2)), (by (with_reducible repeat (first | apply Kd.R_alloc | apply Kd.R_drewN | apply Kd.R_drew)); exact Kd.R_mono qH.out (fun _ hk => hk.2)), (kf_ qa), (kf_ qc), (kf_ qg), zV.out, zy.out, qw.out, qV.out, qI.out, qZ.out, (bb_ HB)⟩)
    ·
     skip
     refine box_step ?hg (N := 8) ?hd (cs := #[.slice none 0 0, .int .i64 0, .bool false]) (t := 26) ?hr ?_; (case hd => rfl); (case hg => rfl); (case hr => first | (go_simp; done) | (go_simp; rfl))
     intro qj hg Yi hbox hb
     replace qq := rB_ qq hb; have qg := Aside0.mk (hbox); have zV := Aside0.mk ((by rw [hg]; exact (bz_ HB) : w.heap.size ≤ qj)); have zy := Aside0.mk ((by rw [hg]; exact (bz_ HB) : w.heap.size ≤ qj)); replace HB := bS_ HB hb; have qw := Aside0.mk ((nl_ qa hg : qo ≠ qj)); have qV := Aside0.mk ((ng_ qa hg : qj ≠ qo)); replace qa := kB_ qa hb; have qI := Aside0.mk ((nl_ qc hg : qs ≠ qj)); have qZ := Aside0.mk ((ng_ qc hg : qj ≠ qs)); replace qc := kB_ qc hb; clear hb hbox hg
     refine hK.out _ _ ⟨bc_ qa 0, bc_ qa 1, bc_ qa 2, bc_ qc 0, bc_ qc 1⟩ (fun hHeld => ?_)
     clear hK K
     refine norm_ (a' := ?_) ?_ ?_
     rotate_left
     ·
      show Act.put _ (some 8) _ = _
      simp only [Act.put, List.setIfInBounds_toArray, List.set_cons_zero, List.set_cons_succ, i64_w, i32_w]
      rfl
     refine one_ (i := 4) (N := some 28) #[true, true, true, true, true, false, false, false, false, true, false, false] rfl rfl (one_of HT_.out (by kernel_rfl)) (by decide) (fun K hK => ?_)
     refine goes_ Try.func35 (by kernel_rfl) rfl #[.agg #[.int .i64 a2_0, .int .i64 a2_1]] (by rfl) rfl rfl (by (try simp only [List.map_toArray, List.map_cons, List.map_nil]); first | done | rfl | (simp only [List.length_drop, List.length_take]; rfl)) ?_
     with_reducible refine (laws_toRatio.calls a2_0 a2_1 zO zP _ A12.out).mono ?_
     rintro e Yj ⟨rfl, hb⟩
     refine ⟨_, rfl, ?_⟩
     replace qq := rB_ qq hb; replace qa := kB_ qa hb; replace qc := kB_ qc hb; replace qg := kB_ qg hb; replace HB := bS_ HB hb; (try clear hb); (try clear hb2); (try clear hk); (try clear hi)
     obtain ⟨jk, jl, eo27⟩ := Kd.R_slice qq.out
     (first | subst eo27 | (injection eo27 with f1_ f2_ f3_; have f4_ := f1_.symm; have f5_ := f3_.symm; clear f1_ f2_ f3_; subst f4_; subst f5_))
     refine hK.out _ _ ⟨bc_ qa 0, bc_ qa 1, bc_ qa 2, bc_ qc 0, bc_ qc 1⟩ (fun hHeld => ?_)
     clear hK K
     refine norm_ (a' := ?_) ?_ ?_
     rotate_left
     ·
      show Act.put _ (some 28) _ = _
      simp only [Act.put, List.setIfInBounds_toArray, List.set_cons_zero, List.set_cons_succ, i64_w, i32_w]
      rfl
     refine one_ (i := 5) (N := some 29) #[true, true, true, true, true, true, false, false, false, true, false, false] rfl rfl (one_of HT_.out (by kernel_rfl)) (by decide) (fun K hK => ?_)
     refine goes_ Try.func34 (by kernel_rfl) rfl #[.agg #[.slice jk zt.length jl, .int .i64 zM, .bool zN], .int .i64 a1, .agg #[.int .i64 zO, .int .i64 zP]] (by rfl) rfl rfl (by (try simp only [List.map_toArray, List.map_cons, List.map_nil]); first | done | rfl | (simp only [List.length_drop, List.length_take]; rfl)) ?_
     with_reducible refine (spec_FixVariable.calls k _ _ zt zM zN a1 zO zP qn qA qD qW _ ?side1 ?side2 A13.out).mono ?_
     (case side1 => exact cr_ qq)
     (case side2 => exact (Kd.R_reads' qq.out).2.1)
     rintro e Jq ⟨z6, rfl, ho0, hb⟩
     refine ⟨_, rfl, ?_⟩
     have qH := Aside0.mk (Kd.R_lower (Kd.R_new' ho0 (Kd.R_lt (rm_ qq))) (bz_ HB)); replace qq := Aside0.mk (Kd.R_elder' (rm_ qq) (Kd.R_base ho0) hb); replace qa := kB_ qa hb; replace qc := kB_ qc hb; replace qg := kB_ qg hb; replace HB := bS_ HB hb; (try clear hb); (try clear hb2); (try clear hk); (try clear hi); (try clear ho0)
     refine hK.out _ _ ⟨bc_ qa 0, bc_ qa 1, bc_ qa 2, bc_ qc 0, bc_ qc 1⟩ (fun hHeld => ?_)
     clear hK K
     refine norm_ (a' := ?_) ?_ ?_
     rotate_left
     ·
      show Act.put _ (some 29) _ = _
      simp only [Act.put, List.setIfInBounds_toArray, List.set_cons_zero, List.set_cons_succ, i64_w, i32_w]
      rfl
     refine pure_ (i := 6) (N := some 23) (v := ?_) (a' := ?_) #[true, true, true, true, true, true, true, false, false, true, false, false] rfl rfl (any_of HT_.out (by kernel_rfl)) (fun _ _ _ h => h) (Or.inl ⟨by rfl, ?_⟩) ?_ ?_
     rotate_left
     ·
      intro w'
      go_simp
      with_reducible rfl
     rotate_left
     ·
      simp only [Act.put, List.setIfInBounds_toArray, List.set_cons_zero, List.set_cons_succ, i64_w, i32_w]
      rfl
     refine pure_ (i := 7) (N := some 30) (v := ?_) (a' := ?_) #[true, true, true, true, true, true, true, true, false, true, false, false] rfl rfl (any_of HT_.out (by kernel_rfl)) (fun _ _ _ h => h) (Or.inl ⟨by rfl, ?_⟩) ?_ ?_
     rotate_left
     ·
      intro w'
      go_simp
      with_reducible rfl
     rotate_left
     ·
      simp only [Act.put, List.setIfInBounds_toArray, List.set_cons_zero, List.set_cons_succ, i64_w, i32_w]
      rfl
     refine pure_ (i := 8) (N := some 31) (v := ?_) (a' := ?_) #[true, true, true, true, true, true, true, true, true, true, false, false] rfl rfl (any_of HT_.out (by kernel_rfl)) (fun _ _ _ h => h) (Or.inl ⟨by rfl, ?_⟩) ?_ ?_
     rotate_left
     ·
      intro w'
      go_simp
      with_reducible rfl
     rotate_left
     ·
      simp only [Act.put, List.setIfInBounds_toArray, List.set_cons_zero, List.set_cons_succ, i64_w, i32_w]
      rfl
     exact norm_ (by simp only [putAll, Act.put, List.setIfInBounds_toArray, List.set_cons_zero, List.set_cons_succ]) (hCont (.slice jk zt.length jl, z6, qj) _ ⟨hHeld, (by (with_reducible repeat (first | apply Kd.R_alloc | apply Kd.R_drewN | apply Kd.R_drew)); exact Kd.R_mono qq.out (fun _ hk => hk.2)), (by (with_reducible repeat (first | apply Kd.R_alloc | apply Kd.R_drewN | apply Kd.R_drew)); exact Kd.R_mono qH.out (fun _ hk => hk.2)), (kf_ qa), (kf_ qc), (kf_ qg), zV.out, zy.out, qw.out, qV.out, qI.out, qZ.out, (bb_ HB)⟩)
   ·
    skip
    refine box_step ?hg (N := 8) ?hd (cs := #[.slice none 0 0, .int .i64 0, .bool false]) (t := 26) ?hr ?_; (case hd => rfl); (case hg => rfl); (case hr => first | (go_simp; done) | (go_simp; rfl))
    intro qj hg Di hbox hb
    have qg := Aside0.mk (hbox); have zV := Aside0.mk ((by rw [hg]; exact (bz_ HB) : w.heap.size ≤ qj)); have zy := Aside0.mk ((by rw [hg]; exact (bz_ HB) : w.heap.size ≤ qj)); replace HB := bS_ HB hb; have qw := Aside0.mk ((nl_ qa hg : qo ≠ qj)); have qV := Aside0.mk ((ng_ qa hg : qj ≠ qo)); replace qa := kB_ qa hb; have qI := Aside0.mk ((nl_ qc hg : qs ≠ qj)); have qZ := Aside0.mk ((ng_ qc hg : qj ≠ qs)); replace qc := kB_ qc hb; clear hb hbox hg
    refine hK.out _ _ ⟨bc_ qa 0, bc_ qa 1, bc_ qa 2, bc_ qc 0, bc_ qc 1⟩ (fun hHeld => ?_)
    clear hK K
    refine norm_ (a' := ?_) ?_ ?_
    rotate_left
    ·
     show Act.put _ (some 8) _ = _
     simp only [Act.put, List.setIfInBounds_toArray, List.set_cons_zero, List.set_cons_succ, i64_w, i32_w]
     rfl
    refine one_ (i := 1) (N := some 25) #[true, true, true, true, false, false, false, false, false, true, false, false] rfl rfl (one_of HT_.out (by kernel_rfl)) (by decide) (fun K hK => ?_)
    refine goes_ Try.func15 (by kernel_rfl) rfl #[.agg #[.slice A0_0 l0_0.length c0_0, .int .i64 a0_1, .bool a0_2]] (by rfl) rfl rfl (by (try simp only [List.map_toArray, List.map_cons, List.map_nil]); first | done | rfl | (simp only [List.length_drop, List.length_take]; rfl)) ?_
    with_reducible refine (laws_toAtom.calls k _ _ l0_0 a0_1 a0_2 zt zM zN _ ?side1 ?side2 A11.out).mono ?_
    (case side1 => exact cb_ zH HB)
    (case side2 => exact zI.out)
    rintro e Yi ⟨zx, rfl, ho0, hb⟩
    refine ⟨_, rfl, ?_⟩
    have qq := Aside0.mk (Kd.R_lower ho0 (bz_ HB)); replace qa := kB_ qa hb; replace qc := kB_ qc hb; replace qg := kB_ qg hb; replace HB := bS_ HB hb; (try clear hb); (try clear hb2); (try clear hk); (try clear hi); (try clear ho0)
    refine hK.out _ _ ⟨bc_ qa 0, bc_ qa 1, bc_ qa 2, bc_ qc 0, bc_ qc 1⟩ (fun hHeld => ?_)
    clear hK K
    refine norm_ (a' := ?_) ?_ ?_
    rotate_left
    ·
     show Act.put _ (some 25) _ = _
     simp only [Act.put, List.setIfInBounds_toArray, List.set_cons_zero, List.set_cons_succ, i64_w, i32_w]
     rfl
    refine one_ (i := 4) (N := some 28) #[true, true, true, true, true, false, false, false, false, true, false, false] rfl rfl (one_of HT_.out (by kernel_rfl)) (by decide) (fun K hK => ?_)
    refine goes_ Try.func35 (by kernel_rfl) rfl #[.agg #[.int .i64 a2_0, .int .i64 a2_1]] (by rfl) rfl rfl (by (try simp only [List.map_toArray, List.map_cons, List.map_nil]); first | done | rfl | (simp only [List.length_drop, List.length_take]; rfl)) ?_
    with_reducible refine (laws_toRatio.calls a2_0 a2_1 zO zP _ A12.out).mono ?_
    rintro e Yj ⟨rfl, hb⟩
    refine ⟨_, rfl, ?_⟩
    replace qq := rB_ qq hb; replace qa := kB_ qa hb; replace qc := kB_ qc hb; replace qg := kB_ qg hb; replace HB := bS_ HB hb; (try clear hb); (try clear hb2); (try clear hk); (try clear hi)
    obtain ⟨jk, jl, eo27⟩ := Kd.R_slice qq.out
    (first | subst eo27 | (injection eo27 with f1_ f2_ f3_; have f4_ := f1_.symm; have f5_ := f3_.symm; clear f1_ f2_ f3_; subst f4_; subst f5_))
    refine hK.out _ _ ⟨bc_ qa 0, bc_ qa 1, bc_ qa 2, bc_ qc 0, bc_ qc 1⟩ (fun hHeld => ?_)
    clear hK K
    refine norm_ (a' := ?_) ?_ ?_
    rotate_left
    ·
     show Act.put _ (some 28) _ = _
     simp only [Act.put, List.setIfInBounds_toArray, List.set_cons_zero, List.set_cons_succ, i64_w, i32_w]
     rfl
    refine one_ (i := 5) (N := some 29) #[true, true, true, true, true, true, false, false, false, true, false, false] rfl rfl (one_of HT_.out (by kernel_rfl)) (by decide) (fun K hK => ?_)
    refine goes_ Try.func34 (by kernel_rfl) rfl #[.agg #[.slice jk zt.length jl, .int .i64 zM, .bool zN], .int .i64 a1, .agg #[.int .i64 zO, .int .i64 zP]] (by rfl) rfl rfl (by (try simp only [List.map_toArray, List.map_cons, List.map_nil]); first | done | rfl | (simp only [List.length_drop, List.length_take]; rfl)) ?_
    with_reducible refine (spec_FixVariable.calls k _ _ zt zM zN a1 zO zP qn qA qD qW _ ?side1 ?side2 A13.out).mono ?_
    (case side1 => exact cr_ qq)
    (case side2 => exact (Kd.R_reads' qq.out).2.1)
    rintro e Jq ⟨z6, rfl, ho0, hb⟩
    refine ⟨_, rfl, ?_⟩
    have qH := Aside0.mk (Kd.R_lower (Kd.R_new' ho0 (Kd.R_lt (rm_ qq))) (bz_ HB)); replace qq := Aside0.mk (Kd.R_elder' (rm_ qq) (Kd.R_base ho0) hb); replace qa := kB_ qa hb; replace qc := kB_ qc hb; replace qg := kB_ qg hb; replace HB := bS_ HB hb; (try clear hb); (try clear hb2); (try clear hk); (try clear hi); (try clear ho0)
    refine hK.out _ _ ⟨bc_ qa 0, bc_ qa 1, bc_ qa 2, bc_ qc 0, bc_ qc 1⟩ (fun hHeld => ?_)
    clear hK K
    refine norm_ (a' := ?_) ?_ ?_
    rotate_left
    ·
     show Act.put _ (some 29) _ = _
     simp only [Act.put, List.setIfInBounds_toArray, List.set_cons_zero, List.set_cons_succ, i64_w, i32_w]
     rfl
    refine pure_ (i := 6) (N := some 23) (v := ?_) (a' := ?_) #[true, true, true, true, true, true, true, false, false, true, false, false] rfl rfl (any_of HT_.out (by kernel_rfl)) (fun _ _ _ h => h) (Or.inl ⟨by rfl, ?_⟩) ?_ ?_
    rotate_left
    ·
     intro w'
     go_simp
     with_reducible rfl
    rotate_left
    ·
     simp only [Act.put, List.setIfInBounds_toArray, List.set_cons_zero, List.set_cons_succ, i64_w, i32_w]
     rfl
    refine pure_ (i := 7) (N := some 30) (v := ?_) (a' := ?_) #[true, true, true, true, true, true, true, true, false, true, false, false] rfl rfl (any_of HT_.out (by kernel_rfl)) (fun _ _ _ h => h) (Or.inl ⟨by rfl, ?_⟩) ?_ ?_
    rotate_left
    ·
     intro w'
     go_simp
     with_reducible rfl
    rotate_left
    ·
     simp only [Act.put, List.setIfInBounds_toArray, List.set_cons_zero, List.set_cons_succ, i64_w, i32_w]
     rfl
    refine pure_ (i := 8) (N := some 31) (v := ?_) (a' := ?_) #[true, true, true, true, true, true, true, true, true, true, false, false] rfl rfl (any_of HT_.out (by kernel_rfl)) (fun _ _ _ h => h) (Or.inl ⟨by rfl, ?_⟩) ?_ ?_
    rotate_left
    ·
     intro w'
     go_simp
     with_reducible rfl
    rotate_left
    ·
     simp only [Act.put, List.setIfInBounds_toArray, List.set_cons_zero, List.set_cons_succ, i64_w, i32_w]
     rfl
    exact norm_ (by simp only [putAll, Act.put, List.setIfInBounds_toArray, List.set_cons_zero, List.set_cons_succ]) (hCont (.slice jk zt.length jl, z6, qj) _ ⟨hHeld, (by (with_reducible repeat (first | apply Kd.R_alloc | apply Kd.R_drewN | apply Kd.R_drew)); exact Kd.R_mono qq.out (fun _ hk => hk.2)), (by (with_reducible repeat (first | apply Kd.R_alloc | apply Kd.R_drewN | apply Kd.R_drew)); exact Kd.R_mono qH.out (fun _ hk => hk.2)), (kf_ qa), (kf_ qc), (kf_ qg), zV.out, zy.out, qw.out, qV.out, qI.out, qZ.out, (bb_ HB)⟩)
  rintro ⟨zx, z6, qj⟩ jm ⟨hS_, h0_, h1_, h2_, h3_, h4_, h5_, h6_, h7_, h8_, h9_, h10_, h11_⟩
  have n0_ : Aside0 (Kd.R (Kd.int .i64) 3 jm w.heap.size (fun k_ => some k_ ≠ (z6 : Value).ownBlock) zx zt) := ⟨h0_⟩
  have n1_ : Aside0 (Kd.R (Kd.int .i64) 3 jm w.heap.size (fun k_ => some k_ ≠ (zx : Value).ownBlock) z6 qn) := ⟨h1_⟩
  have n2_ : Aside0 (jm.heap[qo]? = some (.cells #[.slice A0_0 l0_0.length c0_0, .int .i64 a0_1, .bool a0_2] 24 (0, 0))) := ⟨h2_⟩
  have n3_ : Aside0 (jm.heap[qs]? = some (.cells #[.int .i64 a2_0, .int .i64 a2_1] 54 (0, 0))) := ⟨h3_⟩
  have n4_ : Aside0 (jm.heap[qj]? = some (.cells #[.slice none 0 0, .int .i64 0, .bool false] 26 (0, 0))) := ⟨h4_⟩
  have n5_ : Aside0 (w.heap.size ≤ qj) := ⟨h5_⟩
  have n6_ : Aside0 (w.heap.size ≤ qj) := ⟨h6_⟩
  have n7_ : Aside0 (qo ≠ qj) := ⟨h7_⟩
  have n8_ : Aside0 (qj ≠ qo) := ⟨h8_⟩
  have n9_ : Aside0 (qs ≠ qj) := ⟨h9_⟩
  have n10_ : Aside0 (qj ≠ qs) := ⟨h10_⟩
  have n11_ : Aside0 (Below w.heap.size w jm) := ⟨h11_⟩
  clear qa
  clear qc
  clear HB
  clear h0_ h1_ h2_ h3_ h4_ h5_ h6_ h7_ h8_ h9_ h10_ h11_
  have qq := n0_
  have qH := n1_
  have qa := n2_
  have qc := n3_
  have qg := n4_
  have zV := n5_
  have zy := n6_
  have qw := n7_
  have qV := n8_
  have qI := n9_
  have qZ := n10_
  have HB := n11_
  clear n0_ n1_ n2_ n3_ n4_ n5_ n6_ n7_ n8_ n9_ n10_ n11_
  have hHeld : jm.cell? ⟨qo, 0, none⟩ = some (.slice A0_0 l0_0.length c0_0) ∧ jm.cell? ⟨qo, 1, none⟩ = some (.int .i64 a0_1) ∧ jm.cell? ⟨qo, 2, none⟩ = some (.bool a0_2) ∧ jm.cell? ⟨qs, 0, none⟩ = some (.int .i64 a2_0) ∧ jm.cell? ⟨qs, 1, none⟩ = some (.int .i64 a2_1) := hS_
  obtain ⟨qP, qM, eo30⟩ := Kd.R_slice qH.out
  (first | subst eo30 | (injection eo30 with f1_ f2_ f3_; have f4_ := f1_.symm; have f5_ := f3_.symm; clear f1_ f2_ f3_; subst f4_; subst f5_))
  refine norm_ (a' := ?_) ?_ ?_
  rotate_left
  ·
   simp only [putAll, Act.put, List.setIfInBounds_toArray, List.set_cons_zero, List.set_cons_succ]
   rfl
  refine one_ (i := 10) (N := none) #[true, true, true, true, true, true, true, true, true, true, true, false] rfl rfl (one_of HT_.out (by kernel_rfl)) (by decide) (fun K hK => ?_)
  have hs31 : jm.cell? ⟨qj, 0, none⟩ = some (.slice none 0 0) := bc_ qg 0
  have hfs31 := blk_frozen qg.out 0
  have hns31_0 := qw.out
  have hns31_1 := qI.out
  have hms31_0 := qV.out
  have hms31_1 := qZ.out
  have hs32 : jm.cell? ⟨qj, 1, none⟩ = some (.int .i64 0) := bc_ qg 1
  have hfs32 := blk_frozen qg.out 1
  have hns32_0 := qw.out
  have hns32_1 := qI.out
  have hms32_0 := qV.out
  have hms32_1 := qZ.out
  have hs33 : jm.cell? ⟨qj, 2, none⟩ = some (.bool false) := bc_ qg 2
  have hfs33 := blk_frozen qg.out 2
  have hns33_0 := qw.out
  have hns33_1 := qI.out
  have hms33_0 := qV.out
  have hms33_1 := qZ.out
  refine skip_ (w1 := ?_) (by rfl) rfl ?_ ?_
  rotate_left
  ·
   go_simp
   rfl
  refine hK.out _ _ ⟨((cell_far (p := ⟨qj, _, none⟩) qw.out _).trans (((cell_far (p := ⟨qj, _, none⟩) qw.out _).trans (((cell_far (p := ⟨qj, _, none⟩) qw.out _).trans (hHeld.1)))))), ((cell_far (p := ⟨qj, _, none⟩) qw.out _).trans (((cell_far (p := ⟨qj, _, none⟩) qw.out _).trans (((cell_far (p := ⟨qj, _, none⟩) qw.out _).trans (hHeld.2.1)))))), ((cell_far (p := ⟨qj, _, none⟩) qw.out _).trans (((cell_far (p := ⟨qj, _, none⟩) qw.out _).trans (((cell_far (p := ⟨qj, _, none⟩) qw.out _).trans (hHeld.2.2.1)))))), ((cell_far (p := ⟨qj, _, none⟩) qI.out _).trans (((cell_far (p := ⟨qj, _, none⟩) qI.out _).trans (((cell_far (p := ⟨qj, _, none⟩) qI.out _).trans (hHeld.2.2.2.1)))))), ((cell_far (p := ⟨qj, _, none⟩) qI.out _).trans (((cell_far (p := ⟨qj, _, none⟩) qI.out _).trans (((cell_far (p := ⟨qj, _, none⟩) qI.out _).trans (hHeld.2.2.2.2))))))⟩ (fun hHeld => ?_)
  clear hK K
  refine pure_ (i := 11) (N := some 9) (v := ?_) (a' := ?_) #[true, true, true, true, true, true, true, true, true, true, true, true] rfl rfl (any_of HT_.out (by kernel_rfl)) (fun _ _ _ h => h) (Or.inl ⟨by rfl, ?_⟩) ?_ ?_
  rotate_left
  ·
   intro w'
   go_simp
   with_reducible rfl
  rotate_left
  ·
   simp only [Act.put, List.setIfInBounds_toArray, List.set_cons_zero, List.set_cons_succ, i64_w, i32_w]
   rfl
  refine done_ (done_of HT_.out (by kernel_rfl)) ?_
  have Yk := qw.out
  have Yl := qV.out
  have Z6 : jm.cell? ⟨qo, 0, none⟩ = some (.slice A0_0 l0_0.length c0_0) := bc_ qa 0
  have Z7 : jm.cell? ⟨qo, 1, none⟩ = some (.int .i64 a0_1) := bc_ qa 1
  have Z8 : jm.cell? ⟨qo, 2, none⟩ = some (.bool a0_2) := bc_ qa 2
  have Z9 := blk_frozen qa.out 0
  have Ja := blk_frozen qa.out 1
  have Jb := blk_frozen qa.out 2
  try go_wp2_with (first | ((with_reducible refine gate_callee (f := 15) rfl ?_); refine goesL_ (some 33) rfl rfl Try.func15 (by kernel_rfl) rfl #[.agg #[.slice A0_0 l0_0.length c0_0, .int .i64 a0_1, .bool a0_2]] rfl (by (try simp only [List.map_toArray, List.map_cons, List.map_nil]); first | done | rfl | (simp only [List.length_drop, List.length_take]; rfl)) ?_; (with_reducible refine (laws_toAtom.calls k _ _ l0_0 a0_1 a0_2 qB qX qY _ ?side1 ?side2 A14.out).mono ?_); (case side1 => exact Kd.C_below zH.out (bb_ HB)); (case side2 => exact zI.out); rintro e DE ⟨Dj, rfl, ho0, hb⟩; refine ⟨_, rfl, ?_⟩; have qU := Aside0.mk (Kd.R_lower (Kd.R_new' (Kd.R_new' ho0 (Kd.R_lt (by (with_reducible repeat (first | apply Kd.R_alloc | apply Kd.R_drewN | apply Kd.R_drew)); exact (rt3_ qq qg (by decide) 0 1 2 (.slice qP qn.length qM) (.int .i64 qA) (.bool qD))))) (Kd.R_lt (by (with_reducible repeat (first | apply Kd.R_alloc | apply Kd.R_drewN | apply Kd.R_drew)); exact (rt3_ qH qg (by decide) 0 1 2 (.slice qP qn.length qM) (.int .i64 qA) (.bool qD))))) (bz_ HB)); replace qq := Aside0.mk (Kd.R_elder' (by (with_reducible repeat (first | apply Kd.R_alloc | apply Kd.R_drewN | apply Kd.R_drew)); exact (rt3_ qq qg (by decide) 0 1 2 (.slice qP qn.length qM) (.int .i64 qA) (.bool qD))) (Kd.R_base ho0) hb); replace qH := Aside0.mk (Kd.R_elder' (by (with_reducible repeat (first | apply Kd.R_alloc | apply Kd.R_drewN | apply Kd.R_drew)); exact (rt3_ qH qg (by decide) 0 1 2 (.slice qP qn.length qM) (.int .i64 qA) (.bool qD))) (Kd.R_base ho0) hb); replace qa := Aside0.mk (blk_below (g := qo) (o := .cells #[.slice A0_0 l0_0.length c0_0, .int .i64 a0_1, .bool a0_2] 24 (0, 0)) (kf_ qa) hb); replace qc := Aside0.mk (blk_below (g := qs) (o := .cells #[.int .i64 a2_0, .int .i64 a2_1] 54 (0, 0)) (kf_ qc) hb); replace qg := Aside0.mk (blk_below (g := qj) (o := .cells #[.slice qP qn.length qM, .int .i64 qA, .bool qD] 26 (0, 0)) (by (with_reducible repeat (first | refine blk_drewN ?_ _ | refine blk_drew ?_ | refine blk_alloc ?_ _)); refine blk_put (cs := #[.slice qP qn.length qM, .int .i64 qA, .bool false]) ?_ 2 _ rfl; (with_reducible repeat (first | refine blk_drewN ?_ _ | refine blk_drew ?_ | refine blk_alloc ?_ _)); refine blk_put (cs := #[.slice qP qn.length qM, .int .i64 0, .bool false]) ?_ 1 _ rfl; (with_reducible repeat (first | refine blk_drewN ?_ _ | refine blk_drew ?_ | refine blk_alloc ?_ _)); refine blk_put (cs := #[.slice none 0 0, .int .i64 0, .bool false]) ?_ 0 _ rfl; (with_reducible repeat (first | refine blk_drewN ?_ _ | refine blk_drew ?_ | refine blk_alloc ?_ _)); exact qg.out) hb); replace HB := bS_ HB hb; (try clear hb); (try clear hb2); (try clear hk); (try clear hi); (try clear ho0)) | ((with_reducible refine gate_dst (N := 10) rfl ?_); refine box_event ?hg (N := 10) ?hd (cs := #[.slice none 0 0, .int .i64 0, .bool false]) (t := 26) ?hr ?_; (case hd => rfl); (case hg => rfl); (case hr => first | (go_simp; done) | (go_simp; rfl)); intro ql hg jO hbox hb; replace qq := rB_ qq hb; replace qH := rB_ qH hb; replace qU := rB_ qU hb; have qh := Aside0.mk (hbox); have Ym := Aside0.mk ((by rw [hg]; exact (bz_ HB) : w.heap.size ≤ ql)); have jp := Aside0.mk ((by rw [hg]; exact (bz_ HB) : w.heap.size ≤ ql)); replace HB := bS_ HB hb; have z8 := Aside0.mk ((nl_ qa hg : qo ≠ ql)); have z9 := Aside0.mk ((ng_ qa hg : ql ≠ qo)); replace qa := kB_ qa hb; have ja := Aside0.mk ((nl_ qc hg : qs ≠ ql)); have jb := Aside0.mk ((ng_ qc hg : ql ≠ qs)); replace qc := kB_ qc hb; have zj := Aside0.mk ((nl_ qg hg : qj ≠ ql)); have zk := Aside0.mk ((ng_ qg hg : ql ≠ qj)); replace qg := kB_ qg hb; clear hb hbox hg; obtain ⟨qF, qG, eo38⟩ := Kd.R_slice qU.out; subst eo38; have Yn := z9.out; have Yo := z8.out; have Yp := jb.out; have Yq := ja.out; have Yr := zk.out; have Ys := zj.out; have Jc : jO.cell? ⟨ql, 0, none⟩ = some (.slice none 0 0) := bc_ qh 0; have Jd : jO.cell? ⟨ql, 1, none⟩ = some (.int .i64 0) := bc_ qh 1; have Je : jO.cell? ⟨ql, 2, none⟩ = some (.bool false) := bc_ qh 2; have Jf := blk_frozen qh.out 0; have Jg := blk_frozen qh.out 1; have Jh := blk_frozen qh.out 2))
  have n0_ : Aside0 (Kd.R (Kd.int .i64) 3 (((jO.setCell ⟨ql, 0, none⟩ (.slice qF qB.length qG)).setCell ⟨ql, 1, none⟩ (.int .i64 qX)).setCell ⟨ql, 2, none⟩ (.bool qY)) w.heap.size (fun k_ => some k_ ≠ (.slice qP qn.length qM : Value).ownBlock ∧ some k_ ≠ (.slice qF qB.length qG : Value).ownBlock) zx zt) := ⟨by (with_reducible repeat (first | apply Kd.R_alloc | apply Kd.R_drewN | apply Kd.R_drew)); exact Kd.R_mono (Kd.R_far (p := ⟨ql, 2, none⟩) (Kd.R_far (p := ⟨ql, 1, none⟩) (Kd.R_far (p := ⟨ql, 0, none⟩) (Kd.R_types qq.out qh.out (by decide)) (fun _ hk => hk.2) (.slice qF qB.length qG)) (fun _ hk => hk.2) (.int .i64 qX)) (fun _ hk => hk.2) (.bool qY)) (fun _ hk => ⟨hk.1.1, hk.1.2⟩)⟩
  have n1_ : Aside0 (Kd.R (Kd.int .i64) 3 (((jO.setCell ⟨ql, 0, none⟩ (.slice qF qB.length qG)).setCell ⟨ql, 1, none⟩ (.int .i64 qX)).setCell ⟨ql, 2, none⟩ (.bool qY)) w.heap.size (fun k_ => some k_ ≠ (zx : Value).ownBlock ∧ some k_ ≠ (.slice qF qB.length qG : Value).ownBlock) (.slice qP qn.length qM) qn) := ⟨by (with_reducible repeat (first | apply Kd.R_alloc | apply Kd.R_drewN | apply Kd.R_drew)); exact Kd.R_mono (Kd.R_far (p := ⟨ql, 2, none⟩) (Kd.R_far (p := ⟨ql, 1, none⟩) (Kd.R_far (p := ⟨ql, 0, none⟩) (Kd.R_types qH.out qh.out (by decide)) (fun _ hk => hk.2) (.slice qF qB.length qG)) (fun _ hk => hk.2) (.int .i64 qX)) (fun _ hk => hk.2) (.bool qY)) (fun _ hk => ⟨hk.1.1, hk.1.2⟩)⟩
  have n2_ : Aside0 (Kd.R (Kd.int .i64) 3 (((jO.setCell ⟨ql, 0, none⟩ (.slice qF qB.length qG)).setCell ⟨ql, 1, none⟩ (.int .i64 qX)).setCell ⟨ql, 2, none⟩ (.bool qY)) w.heap.size (fun k_ => some k_ ≠ (zx : Value).ownBlock ∧ some k_ ≠ (.slice qP qn.length qM : Value).ownBlock) (.slice qF qB.length qG) qB) := ⟨by (with_reducible repeat (first | apply Kd.R_alloc | apply Kd.R_drewN | apply Kd.R_drew)); exact Kd.R_mono (Kd.R_far (p := ⟨ql, 2, none⟩) (Kd.R_far (p := ⟨ql, 1, none⟩) (Kd.R_far (p := ⟨ql, 0, none⟩) (Kd.R_types qU.out qh.out (by decide)) (fun _ hk => hk.2) (.slice qF qB.length qG)) (fun _ hk => hk.2) (.int .i64 qX)) (fun _ hk => hk.2) (.bool qY)) (fun _ hk => ⟨hk.1.1.2, hk.1.2⟩)⟩
  have n3_ : Aside0 ((((jO.setCell ⟨ql, 0, none⟩ (.slice qF qB.length qG)).setCell ⟨ql, 1, none⟩ (.int .i64 qX)).setCell ⟨ql, 2, none⟩ (.bool qY)).heap[qo]? = some (.cells #[.slice A0_0 l0_0.length c0_0, .int .i64 a0_1, .bool a0_2] 24 (0, 0))) := ⟨kf_ qa⟩
  have n4_ : Aside0 ((((jO.setCell ⟨ql, 0, none⟩ (.slice qF qB.length qG)).setCell ⟨ql, 1, none⟩ (.int .i64 qX)).setCell ⟨ql, 2, none⟩ (.bool qY)).heap[qs]? = some (.cells #[.int .i64 a2_0, .int .i64 a2_1] 54 (0, 0))) := ⟨kf_ qc⟩
  have n5_ : Aside0 ((((jO.setCell ⟨ql, 0, none⟩ (.slice qF qB.length qG)).setCell ⟨ql, 1, none⟩ (.int .i64 qX)).setCell ⟨ql, 2, none⟩ (.bool qY)).heap[qj]? = some (.cells #[.slice qP qn.length qM, .int .i64 qA, .bool qD] 26 (0, 0))) := ⟨kf_ qg⟩
  have n6_ : Aside0 ((((jO.setCell ⟨ql, 0, none⟩ (.slice qF qB.length qG)).setCell ⟨ql, 1, none⟩ (.int .i64 qX)).setCell ⟨ql, 2, none⟩ (.bool qY)).heap[ql]? = some (.cells #[.slice qF qB.length qG, .int .i64 qX, .bool qY] 26 (0, 0))) := ⟨by (with_reducible repeat (first | refine blk_drewN ?_ _ | refine blk_drew ?_ | refine blk_alloc ?_ _)); refine blk_put (cs := #[.slice qF qB.length qG, .int .i64 qX, .bool false]) ?_ 2 _ rfl; (with_reducible repeat (first | refine blk_drewN ?_ _ | refine blk_drew ?_ | refine blk_alloc ?_ _)); refine blk_put (cs := #[.slice qF qB.length qG, .int .i64 0, .bool false]) ?_ 1 _ rfl; (with_reducible repeat (first | refine blk_drewN ?_ _ | refine blk_drew ?_ | refine blk_alloc ?_ _)); refine blk_put (cs := #[.slice none 0 0, .int .i64 0, .bool false]) ?_ 0 _ rfl; (with_reducible repeat (first | refine blk_drewN ?_ _ | refine blk_drew ?_ | refine blk_alloc ?_ _)); exact qh.out⟩
  have n7_ : Aside0 (Below w.heap.size w (((jO.setCell ⟨ql, 0, none⟩ (.slice qF qB.length qG)).setCell ⟨ql, 1, none⟩ (.int .i64 qX)).setCell ⟨ql, 2, none⟩ (.bool qY))) := ⟨bb_ HB⟩
  (try clear qq)
  (try clear qH)
  (try clear qU)
  (try clear qa)
  (try clear qc)
  (try clear qg)
  (try clear qh)
  (try clear HB)
  generalize (((jO.setCell ⟨ql, 0, none⟩ (.slice qF qB.length qG)).setCell ⟨ql, 1, none⟩ (.int .i64 qX)).setCell ⟨ql, 2, none⟩ (.bool qY)) = Dk at n0_ n1_ n2_ n3_ n4_ n5_ n6_ n7_ ⊢
  have qq := n0_
  have qH := n1_
  have qU := n2_
  have qa := n3_
  have qc := n4_
  have qg := n5_
  have qh := n6_
  have HB := n7_
  clear n0_ n1_ n2_ n3_ n4_ n5_ n6_ n7_
  replace qq := Aside0.mk (Kd.R_drew qq.out); replace qH := Aside0.mk (Kd.R_drew qH.out); replace qU := Aside0.mk (Kd.R_drew qU.out); replace qa := Aside0.mk (blk_drew qa.out); replace qc := Aside0.mk (blk_drew qc.out); replace qg := Aside0.mk (blk_drew qg.out); replace qh := Aside0.mk (blk_drew qh.out); replace HB := Aside0.mk (below_drew1 HB.out)
  refine start_ (n := 11) (S := fun w' => w'.cell? ⟨ql, 0, none⟩ = some (.slice qF qB.length qG) ∧ w'.cell? ⟨ql, 1, none⟩ = some (.int .i64 qX) ∧ w'.cell? ⟨ql, 2, none⟩ = some (.bool qY) ∧ w'.cell? ⟨qs, 0, none⟩ = some (.int .i64 a2_0) ∧ w'.cell? ⟨qs, 1, none⟩ = some (.int .i64 a2_1)) (ds := []) #[false, false, false, false, false, false, false, false, false, false, false] (by kernel_rfl) rfl rfl ⟨bc_ qh 0, bc_ qh 1, bc_ qh 2, bc_ qc 0, bc_ qc 1⟩ (fun hHeld => ?_); refine with_tabW laws_FnExactFixVariable.tab7 laws_FnExactFixVariable.bits7 (fun HT_ HW_ => ?_)
  generalize Dk.drew = DF at qq qH qU qa qc qg qh HB hHeld ⊢
  refine pure_ (i := 1) (N := some 36) (v := ?_) (a' := ?_) #[false, true, false, false, false, false, false, false, false, false, false] rfl rfl (any_of HT_.out (by kernel_rfl)) (fun _ _ _ h => h) (Or.inl ⟨by rfl, ?_⟩) ?_ ?_
  rotate_left
  ·
   intro w'
   go_simp
   with_reducible rfl
  rotate_left
  ·
   simp only [Act.put, List.setIfInBounds_toArray, List.set_cons_zero, List.set_cons_succ, i64_w, i32_w]
   rfl
  refine take_ (i := 0) (N := some 35) (v := ?_) (a' := ?_) #[true, true, false, false, false, false, false, false, false, false, false] rfl rfl (take_ofW HT_.out HW_.out (by kernel_rfl)) (fun _ _ _ h => h) (Or.inl ⟨by rfl, ?_⟩) hHeld ?_ ?_
  rotate_left
  ·
   rintro w' ⟨s0, s1, s2, s3, s4⟩
   go_simp
   with_reducible rfl
  rotate_left
  ·
   simp only [Act.put, List.setIfInBounds_toArray, List.set_cons_zero, List.set_cons_succ, i64_w, i32_w]
   rfl
  refine take_ (i := 2) (N := some 37) (v := ?_) (a' := ?_) #[true, true, true, false, false, false, false, false, false, false, false] rfl rfl (take_ofW HT_.out HW_.out (by kernel_rfl)) (fun _ _ _ h => h) (Or.inl ⟨by rfl, ?_⟩) hHeld ?_ ?_
  rotate_left
  ·
   rintro w' ⟨s0, s1, s2, s3, s4⟩
   go_simp
   with_reducible rfl
  rotate_left
  ·
   simp only [Act.put, List.setIfInBounds_toArray, List.set_cons_zero, List.set_cons_succ, i64_w, i32_w]
   rfl
  refine join_ (σ := Value × Nat) 2 #[true, true, true, true, true, true, true, true, true, false, false] (fun s_ => [(38, .agg #[.int .i64 z4, .int .i64 z5]), (39, .tuple #[.agg #[s_.1, .int .i64 qr, .bool qt], .bool zp]), (11, .pointer (some ⟨s_.2, 0, none⟩)), (34, .tuple #[.agg #[s_.1, .int .i64 qr, .bool qt], .bool zp]), (40, .agg #[s_.1, .int .i64 qr, .bool qt]), (41, .bool zp)]) (fun s_ w' => (w'.cell? ⟨ql, 0, none⟩ = some (.slice qF qB.length qG) ∧ w'.cell? ⟨ql, 1, none⟩ = some (.int .i64 qX) ∧ w'.cell? ⟨ql, 2, none⟩ = some (.bool qY) ∧ w'.cell? ⟨qs, 0, none⟩ = some (.int .i64 a2_0) ∧ w'.cell? ⟨qs, 1, none⟩ = some (.int .i64 a2_1)) ∧ (Kd.R (Kd.int .i64) 3 w' w.heap.size (fun k_ => some k_ ≠ (.slice qP qn.length qM : Value).ownBlock ∧ some k_ ≠ (.slice qF qB.length qG : Value).ownBlock ∧ some k_ ≠ (s_.1 : Value).ownBlock) zx zt) ∧ (Kd.R (Kd.int .i64) 3 w' w.heap.size (fun k_ => some k_ ≠ (zx : Value).ownBlock ∧ some k_ ≠ (.slice qF qB.length qG : Value).ownBlock ∧ some k_ ≠ (s_.1 : Value).ownBlock) (.slice qP qn.length qM) qn) ∧ (Kd.R (Kd.int .i64) 3 w' w.heap.size (fun k_ => some k_ ≠ (zx : Value).ownBlock ∧ some k_ ≠ (.slice qP qn.length qM : Value).ownBlock ∧ some k_ ≠ (s_.1 : Value).ownBlock) (.slice qF qB.length qG) qB) ∧ (Kd.R (Kd.int .i64) 3 w' w.heap.size (fun k_ => some k_ ≠ (zx : Value).ownBlock ∧ some k_ ≠ (.slice qP qn.length qM : Value).ownBlock ∧ some k_ ≠ (.slice qF qB.length qG : Value).ownBlock) s_.1 qp) ∧ (w'.heap[qo]? = some (.cells #[.slice A0_0 l0_0.length c0_0, .int .i64 a0_1, .bool a0_2] 24 (0, 0))) ∧ (w'.heap[qs]? = some (.cells #[.int .i64 a2_0, .int .i64 a2_1] 54 (0, 0))) ∧ (w'.heap[qj]? = some (.cells #[.slice qP qn.length qM, .int .i64 qA, .bool qD] 26 (0, 0))) ∧ (w'.heap[ql]? = some (.cells #[.slice qF qB.length qG, .int .i64 qX, .bool qY] 26 (0, 0))) ∧ (w'.heap[s_.2]? = some (.cells #[.slice none 0 0, .int .i64 0, .bool false] 26 (0, 0))) ∧ (w.heap.size ≤ s_.2) ∧ (w.heap.size ≤ s_.2) ∧ (qo ≠ s_.2) ∧ (s_.2 ≠ qo) ∧ (qs ≠ s_.2) ∧ (s_.2 ≠ qs) ∧ (qj ≠ s_.2) ∧ (s_.2 ≠ qj) ∧ (ql ≠ s_.2) ∧ (s_.2 ≠ ql) ∧ (Below w.heap.size w w')) ?_ ?_
  rotate_left
  ·
   intro hCont
   refine two_ (i := 3) (j := 8) (Ni := some 38) (Nj := some 11) #[true, true, true, true, false, false, false, false, false, false, false] #[true, true, true, false, false, false, false, false, true, false, false] rfl rfl rfl rfl (two_of HT_.out (by kernel_rfl)) (by decide) (by decide) (fun K hK => ?_) (fun K hK => ?_)
   ·
    skip
    refine goes_ Try.func35 (by kernel_rfl) rfl #[.agg #[.int .i64 a2_0, .int .i64 a2_1]] (by rfl) rfl rfl (by (try simp only [List.map_toArray, List.map_cons, List.map_nil]); first | done | rfl | (simp only [List.length_drop, List.length_take]; rfl)) ?_
    with_reducible refine (laws_toRatio.calls a2_0 a2_1 z4 z5 _ A15.out).mono ?_
    rintro e Dl ⟨rfl, hb⟩
    refine ⟨_, rfl, ?_⟩
    replace qq := rB_ qq hb; replace qH := rB_ qH hb; replace qU := rB_ qU hb; replace qa := kB_ qa hb; replace qc := kB_ qc hb; replace qg := kB_ qg hb; replace qh := kB_ qh hb; replace HB := bS_ HB hb; (try clear hb); (try clear hb2); (try clear hk); (try clear hi)
    refine hK.out _ _ ⟨bc_ qh 0, bc_ qh 1, bc_ qh 2, bc_ qc 0, bc_ qc 1⟩ (fun hHeld => ?_)
    clear hK K
    refine norm_ (a' := ?_) ?_ ?_
    rotate_left
    ·
     show Act.put _ (some 38) _ = _
     simp only [Act.put, List.setIfInBounds_toArray, List.set_cons_zero, List.set_cons_succ, i64_w, i32_w]
     rfl
    refine two_ (i := 4) (j := 8) (Ni := some 39) (Nj := some 11) #[true, true, true, true, true, false, false, false, false, false, false] #[true, true, true, true, false, false, false, false, true, false, false] rfl rfl rfl rfl (two_of HT_.out (by kernel_rfl)) (by decide) (by decide) (fun K hK => ?_) (fun K hK => ?_)
    ·
     skip
     refine goes_ Try.func36 (by kernel_rfl) rfl #[.agg #[.slice qF qB.length qG, .int .i64 qX, .bool qY], .int .i64 a1, .agg #[.int .i64 z4, .int .i64 z5]] (by rfl) rfl rfl (by (try simp only [List.map_toArray, List.map_cons, List.map_nil]); first | done | rfl | (simp only [List.length_drop, List.length_take]; rfl)) ?_
     with_reducible refine (impl_FixVariable.calls k _ _ qB qX qY a1 z4 z5 qp qr qt zp _ ?side1 ?side2 A16.out).mono ?_
     (case side1 => exact cr_ qU)
     (case side2 => exact (Kd.R_reads' qU.out).2.1)
     rintro e Yt ⟨z7, rfl, ho0, hb⟩
     refine ⟨_, rfl, ?_⟩
     have zl := Aside0.mk (Kd.R_lower (Kd.R_new' (Kd.R_new' (Kd.R_new' ho0 (Kd.R_lt (rm_ qq))) (Kd.R_lt (rm_ qH))) (Kd.R_lt (rm_ qU))) (bz_ HB)); replace qq := Aside0.mk (Kd.R_elder' (rm_ qq) (Kd.R_base ho0) hb); replace qH := Aside0.mk (Kd.R_elder' (rm_ qH) (Kd.R_base ho0) hb); replace qU := Aside0.mk (Kd.R_elder' (rm_ qU) (Kd.R_base ho0) hb); replace qa := kB_ qa hb; replace qc := kB_ qc hb; replace qg := kB_ qg hb; replace qh := kB_ qh hb; replace HB := bS_ HB hb; (try clear hb); (try clear hb2); (try clear hk); (try clear hi); (try clear ho0)
     refine hK.out _ _ ⟨bc_ qh 0, bc_ qh 1, bc_ qh 2, bc_ qc 0, bc_ qc 1⟩ (fun hHeld => ?_)
     clear hK K
     refine norm_ (a' := ?_) ?_ ?_
     rotate_left
     ·
      show Act.put _ (some 39) _ = _
      simp only [Act.put, List.setIfInBounds_toArray, List.set_cons_zero, List.set_cons_succ, i64_w, i32_w]
      rfl
     refine pure_ (i := 5) (N := some 34) (v := ?_) (a' := ?_) #[true, true, true, true, true, true, false, false, false, false, false] rfl rfl (any_of HT_.out (by kernel_rfl)) (fun _ _ _ h => h) (Or.inl ⟨by rfl, ?_⟩) ?_ ?_
     rotate_left
     ·
      intro w'
      go_simp
      with_reducible rfl
     rotate_left
     ·
      simp only [Act.put, List.setIfInBounds_toArray, List.set_cons_zero, List.set_cons_succ, i64_w, i32_w]
      rfl
     refine pure_ (i := 6) (N := some 40) (v := ?_) (a' := ?_) #[true, true, true, true, true, true, true, false, false, false, false] rfl rfl (any_of HT_.out (by kernel_rfl)) (fun _ _ _ h => h) (Or.inl ⟨by rfl, ?_⟩) ?_ ?_
     rotate_left
     ·
      intro w'
      go_simp
      with_reducible rfl
     rotate_left
     ·
      simp only [Act.put, List.setIfInBounds_toArray, List.set_cons_zero, List.set_cons_succ, i64_w, i32_w]
      rfl
     refine pure_ (i := 7) (N := some 41) (v := ?_) (a' := ?_) #[true, true, true, true, true, true, true, true, false, false, false] rfl rfl (any_of HT_.out (by kernel_rfl)) (fun _ _ _ h => h) (Or.inl ⟨by rfl, ?_⟩) ?_ ?_
     rotate_left
     ·
      intro w'
      go_simp
      with_reducible rfl
     rotate_left
     ·
      simp only [Act.put, List.setIfInBounds_toArray, List.set_cons_zero, List.set_cons_succ, i64_w, i32_w]
      rfl
     refine one_ (i := 8) (N := some 11) #[true, true, true, true, true, true, true, true, true, false, false] rfl rfl (one_of HT_.out (by kernel_rfl)) (by decide) (fun K hK => ?_)
     refine box_step ?hg (N := 11) ?hd (cs := #[.slice none 0 0, .int .i64 0, .bool false]) (t := 26) ?hr ?_; (case hd => rfl); (case hg => rfl); (case hr => first | (go_simp; done) | (go_simp; rfl))
     intro qi hg Yu hbox hb
     replace qq := rB_ qq hb; replace qH := rB_ qH hb; replace qU := rB_ qU hb; replace zl := rB_ zl hb; have qf := Aside0.mk (hbox); have jc := Aside0.mk ((by rw [hg]; exact (bz_ HB) : w.heap.size ≤ qi)); have zD := Aside0.mk ((by rw [hg]; exact (bz_ HB) : w.heap.size ≤ qi)); replace HB := bS_ HB hb; have qQ := Aside0.mk ((nl_ qa hg : qo ≠ qi)); have qR := Aside0.mk ((ng_ qa hg : qi ≠ qo)); replace qa := kB_ qa hb; have qy := Aside0.mk ((nl_ qc hg : qs ≠ qi)); have qS := Aside0.mk ((ng_ qc hg : qi ≠ qs)); replace qc := kB_ qc hb; have qK := Aside0.mk ((nl_ qg hg : qj ≠ qi)); have qL := Aside0.mk ((ng_ qg hg : qi ≠ qj)); replace qg := kB_ qg hb; have qu := Aside0.mk ((nl_ qh hg : ql ≠ qi)); have qN := Aside0.mk ((ng_ qh hg : qi ≠ ql)); replace qh := kB_ qh hb; clear hb hbox hg
     refine hK.out _ _ ⟨bc_ qh 0, bc_ qh 1, bc_ qh 2, bc_ qc 0, bc_ qc 1⟩ (fun hHeld => ?_)
     clear hK K
     refine norm_ (a' := ?_) ?_ ?_
     rotate_left
     ·
      show Act.put _ (some 11) _ = _
      simp only [Act.put, List.setIfInBounds_toArray, List.set_cons_zero, List.set_cons_succ, i64_w, i32_w]
      rfl
     exact norm_ (by simp only [putAll, Act.put, List.setIfInBounds_toArray, List.set_cons_zero, List.set_cons_succ]) (hCont (z7, qi) _ ⟨hHeld, (by (with_reducible repeat (first | apply Kd.R_alloc | apply Kd.R_drewN | apply Kd.R_drew)); exact Kd.R_mono qq.out (fun _ hk => ⟨hk.1.1, ⟨hk.1.2, hk.2⟩⟩)), (by (with_reducible repeat (first | apply Kd.R_alloc | apply Kd.R_drewN | apply Kd.R_drew)); exact Kd.R_mono qH.out (fun _ hk => ⟨hk.1.1, ⟨hk.1.2, hk.2⟩⟩)), (by (with_reducible repeat (first | apply Kd.R_alloc | apply Kd.R_drewN | apply Kd.R_drew)); exact Kd.R_mono qU.out (fun _ hk => ⟨hk.1.1, ⟨hk.1.2, hk.2⟩⟩)), (by (with_reducible repeat (first | apply Kd.R_alloc | apply Kd.R_drewN | apply Kd.R_drew)); exact Kd.R_mono zl.out (fun _ hk => ⟨hk.1.1.2, ⟨hk.1.2, hk.2⟩⟩)), (kf_ qa), (kf_ qc), (kf_ qg), (kf_ qh), (kf_ qf), jc.out, zD.out, qQ.out, qR.out, qy.out, qS.out, qK.out, qL.out, qu.out, qN.out, (bb_ HB)⟩)
    ·
     skip
     refine box_step ?hg (N := 11) ?hd (cs := #[.slice none 0 0, .int .i64 0, .bool false]) (t := 26) ?hr ?_; (case hd => rfl); (case hg => rfl); (case hr => first | (go_simp; done) | (go_simp; rfl))
     intro qi hg Yt hbox hb
     replace qq := rB_ qq hb; replace qH := rB_ qH hb; replace qU := rB_ qU hb; have qf := Aside0.mk (hbox); have jc := Aside0.mk ((by rw [hg]; exact (bz_ HB) : w.heap.size ≤ qi)); have zD := Aside0.mk ((by rw [hg]; exact (bz_ HB) : w.heap.size ≤ qi)); replace HB := bS_ HB hb; have qQ := Aside0.mk ((nl_ qa hg : qo ≠ qi)); have qR := Aside0.mk ((ng_ qa hg : qi ≠ qo)); replace qa := kB_ qa hb; have qy := Aside0.mk ((nl_ qc hg : qs ≠ qi)); have qS := Aside0.mk ((ng_ qc hg : qi ≠ qs)); replace qc := kB_ qc hb; have qK := Aside0.mk ((nl_ qg hg : qj ≠ qi)); have qL := Aside0.mk ((ng_ qg hg : qi ≠ qj)); replace qg := kB_ qg hb; have qu := Aside0.mk ((nl_ qh hg : ql ≠ qi)); have qN := Aside0.mk ((ng_ qh hg : qi ≠ ql)); replace qh := kB_ qh hb; clear hb hbox hg
     refine hK.out _ _ ⟨bc_ qh 0, bc_ qh 1, bc_ qh 2, bc_ qc 0, bc_ qc 1⟩ (fun hHeld => ?_)
     clear hK K
     refine norm_ (a' := ?_) ?_ ?_
     rotate_left
     ·
      show Act.put _ (some 11) _ = _
      simp only [Act.put, List.setIfInBounds_toArray, List.set_cons_zero, List.set_cons_succ, i64_w, i32_w]
      rfl
     refine one_ (i := 4) (N := some 39) #[true, true, true, true, true, false, false, false, true, false, false] rfl rfl (one_of HT_.out (by kernel_rfl)) (by decide) (fun K hK => ?_)
     refine goes_ Try.func36 (by kernel_rfl) rfl #[.agg #[.slice qF qB.length qG, .int .i64 qX, .bool qY], .int .i64 a1, .agg #[.int .i64 z4, .int .i64 z5]] (by rfl) rfl rfl (by (try simp only [List.map_toArray, List.map_cons, List.map_nil]); first | done | rfl | (simp only [List.length_drop, List.length_take]; rfl)) ?_
     with_reducible refine (impl_FixVariable.calls k _ _ qB qX qY a1 z4 z5 qp qr qt zp _ ?side1 ?side2 A16.out).mono ?_
     (case side1 => exact cr_ qU)
     (case side2 => exact (Kd.R_reads' qU.out).2.1)
     rintro e Yu ⟨z7, rfl, ho0, hb⟩
     refine ⟨_, rfl, ?_⟩
     have zl := Aside0.mk (Kd.R_lower (Kd.R_new' (Kd.R_new' (Kd.R_new' ho0 (Kd.R_lt (rm_ qq))) (Kd.R_lt (rm_ qH))) (Kd.R_lt (rm_ qU))) (bz_ HB)); replace qq := Aside0.mk (Kd.R_elder' (rm_ qq) (Kd.R_base ho0) hb); replace qH := Aside0.mk (Kd.R_elder' (rm_ qH) (Kd.R_base ho0) hb); replace qU := Aside0.mk (Kd.R_elder' (rm_ qU) (Kd.R_base ho0) hb); replace qa := kB_ qa hb; replace qc := kB_ qc hb; replace qg := kB_ qg hb; replace qh := kB_ qh hb; replace qf := kB_ qf hb; replace HB := bS_ HB hb; (try clear hb); (try clear hb2); (try clear hk); (try clear hi); (try clear ho0)
     refine hK.out _ _ ⟨bc_ qh 0, bc_ qh 1, bc_ qh 2, bc_ qc 0, bc_ qc 1⟩ (fun hHeld => ?_)
     clear hK K
     refine norm_ (a' := ?_) ?_ ?_
     rotate_left
     ·
      show Act.put _ (some 39) _ = _
      simp only [Act.put, List.setIfInBounds_toArray, List.set_cons_zero, List.set_cons_succ, i64_w, i32_w]
      rfl
     refine pure_ (i := 5) (N := some 34) (v := ?_) (a' := ?_) #[true, true, true, true, true, true, false, false, true, false, false] rfl rfl (any_of HT_.out (by kernel_rfl)) (fun _ _ _ h => h) (Or.inl ⟨by rfl, ?_⟩) ?_ ?_
     rotate_left
     ·
      intro w'
      go_simp
      with_reducible rfl
     rotate_left
     ·
      simp only [Act.put, List.setIfInBounds_toArray, List.set_cons_zero, List.set_cons_succ, i64_w, i32_w]
      rfl
     refine pure_ (i := 6) (N := some 40) (v := ?_) (a' := ?_) #[true, true, true, true, true, true, true, false, true, false, false] rfl rfl (any_of HT_.out (by kernel_rfl)) (fun _ _ _ h => h) (Or.inl ⟨by rfl, ?_⟩) ?_ ?_
     rotate_left
     ·
      intro w'
      go_simp
      with_reducible rfl
     rotate_left
     ·
      simp only [Act.put, List.setIfInBounds_toArray, List.set_cons_zero, List.set_cons_succ, i64_w, i32_w]
      rfl
     refine pure_ (i := 7) (N := some 41) (v := ?_) (a' := ?_) #[true, true, true, true, true, true, true, true, true, false, false] rfl rfl (any_of HT_.out (by kernel_rfl)) (fun _ _ _ h => h) (Or.inl ⟨by rfl, ?_⟩) ?_ ?_
     rotate_left
     ·
      intro w'
      go_simp
      with_reducible rfl
     rotate_left
     ·
      simp only [Act.put, List.setIfInBounds_toArray, List.set_cons_zero, List.set_cons_succ, i64_w, i32_w]
      rfl
     exact norm_ (by simp only [putAll, Act.put, List.setIfInBounds_toArray, List.set_cons_zero, List.set_cons_succ]) (hCont (z7, qi) _ ⟨hHeld, (by (with_reducible repeat (first | apply Kd.R_alloc | apply Kd.R_drewN | apply Kd.R_drew)); exact Kd.R_mono qq.out (fun _ hk => ⟨hk.1.1, ⟨hk.1.2, hk.2⟩⟩)), (by (with_reducible repeat (first | apply Kd.R_alloc | apply Kd.R_drewN | apply Kd.R_drew)); exact Kd.R_mono qH.out (fun _ hk => ⟨hk.1.1, ⟨hk.1.2, hk.2⟩⟩)), (by (with_reducible repeat (first | apply Kd.R_alloc | apply Kd.R_drewN | apply Kd.R_drew)); exact Kd.R_mono qU.out (fun _ hk => ⟨hk.1.1, ⟨hk.1.2, hk.2⟩⟩)), (by (with_reducible repeat (first | apply Kd.R_alloc | apply Kd.R_drewN | apply Kd.R_drew)); exact Kd.R_mono zl.out (fun _ hk => ⟨hk.1.1.2, ⟨hk.1.2, hk.2⟩⟩)), (kf_ qa), (kf_ qc), (kf_ qg), (kf_ qh), (kf_ qf), jc.out, zD.out, qQ.out, qR.out, qy.out, qS.out, qK.out, qL.out, qu.out, qN.out, (bb_ HB)⟩)
   ·
    skip
    refine box_step ?hg (N := 11) ?hd (cs := #[.slice none 0 0, .int .i64 0, .bool false]) (t := 26) ?hr ?_; (case hd => rfl); (case hg => rfl); (case hr => first | (go_simp; done) | (go_simp; rfl))
    intro qi hg Dl hbox hb
    replace qq := rB_ qq hb; replace qH := rB_ qH hb; replace qU := rB_ qU hb; have qf := Aside0.mk (hbox); have jc := Aside0.mk ((by rw [hg]; exact (bz_ HB) : w.heap.size ≤ qi)); have zD := Aside0.mk ((by rw [hg]; exact (bz_ HB) : w.heap.size ≤ qi)); replace HB := bS_ HB hb; have qQ := Aside0.mk ((nl_ qa hg : qo ≠ qi)); have qR := Aside0.mk ((ng_ qa hg : qi ≠ qo)); replace qa := kB_ qa hb; have qy := Aside0.mk ((nl_ qc hg : qs ≠ qi)); have qS := Aside0.mk ((ng_ qc hg : qi ≠ qs)); replace qc := kB_ qc hb; have qK := Aside0.mk ((nl_ qg hg : qj ≠ qi)); have qL := Aside0.mk ((ng_ qg hg : qi ≠ qj)); replace qg := kB_ qg hb; have qu := Aside0.mk ((nl_ qh hg : ql ≠ qi)); have qN := Aside0.mk ((ng_ qh hg : qi ≠ ql)); replace qh := kB_ qh hb; clear hb hbox hg
    refine hK.out _ _ ⟨bc_ qh 0, bc_ qh 1, bc_ qh 2, bc_ qc 0, bc_ qc 1⟩ (fun hHeld => ?_)
    clear hK K
    refine norm_ (a' := ?_) ?_ ?_
    rotate_left
    ·
     show Act.put _ (some 11) _ = _
     simp only [Act.put, List.setIfInBounds_toArray, List.set_cons_zero, List.set_cons_succ, i64_w, i32_w]
     rfl
    refine one_ (i := 3) (N := some 38) #[true, true, true, true, false, false, false, false, true, false, false] rfl rfl (one_of HT_.out (by kernel_rfl)) (by decide) (fun K hK => ?_)
    refine goes_ Try.func35 (by kernel_rfl) rfl #[.agg #[.int .i64 a2_0, .int .i64 a2_1]] (by rfl) rfl rfl (by (try simp only [List.map_toArray, List.map_cons, List.map_nil]); first | done | rfl | (simp only [List.length_drop, List.length_take]; rfl)) ?_
    with_reducible refine (laws_toRatio.calls a2_0 a2_1 z4 z5 _ A15.out).mono ?_
    rintro e Yt ⟨rfl, hb⟩
    refine ⟨_, rfl, ?_⟩
    replace qq := rB_ qq hb; replace qH := rB_ qH hb; replace qU := rB_ qU hb; replace qa := kB_ qa hb; replace qc := kB_ qc hb; replace qg := kB_ qg hb; replace qh := kB_ qh hb; replace qf := kB_ qf hb; replace HB := bS_ HB hb; (try clear hb); (try clear hb2); (try clear hk); (try clear hi)
    refine hK.out _ _ ⟨bc_ qh 0, bc_ qh 1, bc_ qh 2, bc_ qc 0, bc_ qc 1⟩ (fun hHeld => ?_)
    clear hK K
    refine norm_ (a' := ?_) ?_ ?_
    rotate_left
    ·
     show Act.put _ (some 38) _ = _
     simp only [Act.put, List.setIfInBounds_toArray, List.set_cons_zero, List.set_cons_succ, i64_w, i32_w]
     rfl
    refine one_ (i := 4) (N := some 39) #[true, true, true, true, true, false, false, false, true, false, false] rfl rfl (one_of HT_.out (by kernel_rfl)) (by decide) (fun K hK => ?_)
    refine goes_ Try.func36 (by kernel_rfl) rfl #[.agg #[.slice qF qB.length qG, .int .i64 qX, .bool qY], .int .i64 a1, .agg #[.int .i64 z4, .int .i64 z5]] (by rfl) rfl rfl (by (try simp only [List.map_toArray, List.map_cons, List.map_nil]); first | done | rfl | (simp only [List.length_drop, List.length_take]; rfl)) ?_
    with_reducible refine (impl_FixVariable.calls k _ _ qB qX qY a1 z4 z5 qp qr qt zp _ ?side1 ?side2 A16.out).mono ?_
    (case side1 => exact cr_ qU)
    (case side2 => exact (Kd.R_reads' qU.out).2.1)
    rintro e Yu ⟨z7, rfl, ho0, hb⟩
    refine ⟨_, rfl, ?_⟩
    have zl := Aside0.mk (Kd.R_lower (Kd.R_new' (Kd.R_new' (Kd.R_new' ho0 (Kd.R_lt (rm_ qq))) (Kd.R_lt (rm_ qH))) (Kd.R_lt (rm_ qU))) (bz_ HB)); replace qq := Aside0.mk (Kd.R_elder' (rm_ qq) (Kd.R_base ho0) hb); replace qH := Aside0.mk (Kd.R_elder' (rm_ qH) (Kd.R_base ho0) hb); replace qU := Aside0.mk (Kd.R_elder' (rm_ qU) (Kd.R_base ho0) hb); replace qa := kB_ qa hb; replace qc := kB_ qc hb; replace qg := kB_ qg hb; replace qh := kB_ qh hb; replace qf := kB_ qf hb; replace HB := bS_ HB hb; (try clear hb); (try clear hb2); (try clear hk); (try clear hi); (try clear ho0)
    refine hK.out _ _ ⟨bc_ qh 0, bc_ qh 1, bc_ qh 2, bc_ qc 0, bc_ qc 1⟩ (fun hHeld => ?_)
    clear hK K
    refine norm_ (a' := ?_) ?_ ?_
    rotate_left
    ·
     show Act.put _ (some 39) _ = _
     simp only [Act.put, List.setIfInBounds_toArray, List.set_cons_zero, List.set_cons_succ, i64_w, i32_w]
     rfl
    refine pure_ (i := 5) (N := some 34) (v := ?_) (a' := ?_) #[true, true, true, true, true, true, false, false, true, false, false] rfl rfl (any_of HT_.out (by kernel_rfl)) (fun _ _ _ h => h) (Or.inl ⟨by rfl, ?_⟩) ?_ ?_
    rotate_left
    ·
     intro w'
     go_simp
     with_reducible rfl
    rotate_left
    ·
     simp only [Act.put, List.setIfInBounds_toArray, List.set_cons_zero, List.set_cons_succ, i64_w, i32_w]
     rfl
    refine pure_ (i := 6) (N := some 40) (v := ?_) (a' := ?_) #[true, true, true, true, true, true, true, false, true, false, false] rfl rfl (any_of HT_.out (by kernel_rfl)) (fun _ _ _ h => h) (Or.inl ⟨by rfl, ?_⟩) ?_ ?_
    rotate_left
    ·
     intro w'
     go_simp
     with_reducible rfl
    rotate_left
    ·
     simp only [Act.put, List.setIfInBounds_toArray, List.set_cons_zero, List.set_cons_succ, i64_w, i32_w]
     rfl
    refine pure_ (i := 7) (N := some 41) (v := ?_) (a' := ?_) #[true, true, true, true, true, true, true, true, true, false, false] rfl rfl (any_of HT_.out (by kernel_rfl)) (fun _ _ _ h => h) (Or.inl ⟨by rfl, ?_⟩) ?_ ?_
    rotate_left
    ·
     intro w'
     go_simp
     with_reducible rfl
    rotate_left
    ·
     simp only [Act.put, List.setIfInBounds_toArray, List.set_cons_zero, List.set_cons_succ, i64_w, i32_w]
     rfl
    exact norm_ (by simp only [putAll, Act.put, List.setIfInBounds_toArray, List.set_cons_zero, List.set_cons_succ]) (hCont (z7, qi) _ ⟨hHeld, (by (with_reducible repeat (first | apply Kd.R_alloc | apply Kd.R_drewN | apply Kd.R_drew)); exact Kd.R_mono qq.out (fun _ hk => ⟨hk.1.1, ⟨hk.1.2, hk.2⟩⟩)), (by (with_reducible repeat (first | apply Kd.R_alloc | apply Kd.R_drewN | apply Kd.R_drew)); exact Kd.R_mono qH.out (fun _ hk => ⟨hk.1.1, ⟨hk.1.2, hk.2⟩⟩)), (by (with_reducible repeat (first | apply Kd.R_alloc | apply Kd.R_drewN | apply Kd.R_drew)); exact Kd.R_mono qU.out (fun _ hk => ⟨hk.1.1, ⟨hk.1.2, hk.2⟩⟩)), (by (with_reducible repeat (first | apply Kd.R_alloc | apply Kd.R_drewN | apply Kd.R_drew)); exact Kd.R_mono zl.out (fun _ hk => ⟨hk.1.1.2, ⟨hk.1.2, hk.2⟩⟩)), (kf_ qa), (kf_ qc), (kf_ qg), (kf_ qh), (kf_ qf), jc.out, zD.out, qQ.out, qR.out, qy.out, qS.out, qK.out, qL.out, qu.out, qN.out, (bb_ HB)⟩)
  rintro ⟨z7, qi⟩ zE ⟨hS_, h0_, h1_, h2_, h3_, h4_, h5_, h6_, h7_, h8_, h9_, h10_, h11_, h12_, h13_, h14_, h15_, h16_, h17_, h18_, h19_⟩
  have n0_ : Aside0 (Kd.R (Kd.int .i64) 3 zE w.heap.size (fun k_ => some k_ ≠ (.slice qP qn.length qM : Value).ownBlock ∧ some k_ ≠ (.slice qF qB.length qG : Value).ownBlock ∧ some k_ ≠ (z7 : Value).ownBlock) zx zt) := ⟨h0_⟩
  have n1_ : Aside0 (Kd.R (Kd.int .i64) 3 zE w.heap.size (fun k_ => some k_ ≠ (zx : Value).ownBlock ∧ some k_ ≠ (.slice qF qB.length qG : Value).ownBlock ∧ some k_ ≠ (z7 : Value).ownBlock) (.slice qP qn.length qM) qn) := ⟨h1_⟩
  have n2_ : Aside0 (Kd.R (Kd.int .i64) 3 zE w.heap.size (fun k_ => some k_ ≠ (zx : Value).ownBlock ∧ some k_ ≠ (.slice qP qn.length qM : Value).ownBlock ∧ some k_ ≠ (z7 : Value).ownBlock) (.slice qF qB.length qG) qB) := ⟨h2_⟩
  have n3_ : Aside0 (Kd.R (Kd.int .i64) 3 zE w.heap.size (fun k_ => some k_ ≠ (zx : Value).ownBlock ∧ some k_ ≠ (.slice qP qn.length qM : Value).ownBlock ∧ some k_ ≠ (.slice qF qB.length qG : Value).ownBlock) z7 qp) := ⟨h3_⟩
  have n4_ : Aside0 (zE.heap[qo]? = some (.cells #[.slice A0_0 l0_0.length c0_0, .int .i64 a0_1, .bool a0_2] 24 (0, 0))) := ⟨h4_⟩
  have n5_ : Aside0 (zE.heap[qs]? = some (.cells #[.int .i64 a2_0, .int .i64 a2_1] 54 (0, 0))) := ⟨h5_⟩
  have n6_ : Aside0 (zE.heap[qj]? = some (.cells #[.slice qP qn.length qM, .int .i64 qA, .bool qD] 26 (0, 0))) := ⟨h6_⟩
  have n7_ : Aside0 (zE.heap[ql]? = some (.cells #[.slice qF qB.length qG, .int .i64 qX, .bool qY] 26 (0, 0))) := ⟨h7_⟩
  have n8_ : Aside0 (zE.heap[qi]? = some (.cells #[.slice none 0 0, .int .i64 0, .bool false] 26 (0, 0))) := ⟨h8_⟩
  have n9_ : Aside0 (w.heap.size ≤ qi) := ⟨h9_⟩
  have n10_ : Aside0 (w.heap.size ≤ qi) := ⟨h10_⟩
  have n11_ : Aside0 (qo ≠ qi) := ⟨h11_⟩
  have n12_ : Aside0 (qi ≠ qo) := ⟨h12_⟩
  have n13_ : Aside0 (qs ≠ qi) := ⟨h13_⟩
  have n14_ : Aside0 (qi ≠ qs) := ⟨h14_⟩
  have n15_ : Aside0 (qj ≠ qi) := ⟨h15_⟩
  have n16_ : Aside0 (qi ≠ qj) := ⟨h16_⟩
  have n17_ : Aside0 (ql ≠ qi) := ⟨h17_⟩
  have n18_ : Aside0 (qi ≠ ql) := ⟨h18_⟩
  have n19_ : Aside0 (Below w.heap.size w zE) := ⟨h19_⟩
  clear qq
  clear qH
  clear qU
  clear qa
  clear qc
  clear qg
  clear qh
  clear HB
  clear h0_ h1_ h2_ h3_ h4_ h5_ h6_ h7_ h8_ h9_ h10_ h11_ h12_ h13_ h14_ h15_ h16_ h17_ h18_ h19_
  have qq := n0_
  have qH := n1_
  have qU := n2_
  have zl := n3_
  have qa := n4_
  have qc := n5_
  have qg := n6_
  have qh := n7_
  have qf := n8_
  have jc := n9_
  have zD := n10_
  have qQ := n11_
  have qR := n12_
  have qy := n13_
  have qS := n14_
  have qK := n15_
  have qL := n16_
  have qu := n17_
  have qN := n18_
  have HB := n19_
  clear n0_ n1_ n2_ n3_ n4_ n5_ n6_ n7_ n8_ n9_ n10_ n11_ n12_ n13_ n14_ n15_ n16_ n17_ n18_ n19_
  have hHeld : zE.cell? ⟨ql, 0, none⟩ = some (.slice qF qB.length qG) ∧ zE.cell? ⟨ql, 1, none⟩ = some (.int .i64 qX) ∧ zE.cell? ⟨ql, 2, none⟩ = some (.bool qY) ∧ zE.cell? ⟨qs, 0, none⟩ = some (.int .i64 a2_0) ∧ zE.cell? ⟨qs, 1, none⟩ = some (.int .i64 a2_1) := hS_
  obtain ⟨qE, qC, eo49⟩ := Kd.R_slice zl.out
  (first | subst eo49 | (injection eo49 with f1_ f2_ f3_; have f4_ := f1_.symm; have f5_ := f3_.symm; clear f1_ f2_ f3_; subst f4_; subst f5_))
  refine norm_ (a' := ?_) ?_ ?_
  rotate_left
  ·
   simp only [putAll, Act.put, List.setIfInBounds_toArray, List.set_cons_zero, List.set_cons_succ]
   rfl
  refine one_ (i := 9) (N := none) #[true, true, true, true, true, true, true, true, true, true, false] rfl rfl (one_of HT_.out (by kernel_rfl)) (by decide) (fun K hK => ?_)
  have hs50 : zE.cell? ⟨qi, 0, none⟩ = some (.slice none 0 0) := bc_ qf 0
  have hfs50 := blk_frozen qf.out 0
  have hns50_0 := qQ.out
  have hns50_1 := qy.out
  have hns50_2 := qK.out
  have hns50_3 := qu.out
  have hms50_0 := qR.out
  have hms50_1 := qS.out
  have hms50_2 := qL.out
  have hms50_3 := qN.out
  have hs51 : zE.cell? ⟨qi, 1, none⟩ = some (.int .i64 0) := bc_ qf 1
  have hfs51 := blk_frozen qf.out 1
  have hns51_0 := qQ.out
  have hns51_1 := qy.out
  have hns51_2 := qK.out
  have hns51_3 := qu.out
  have hms51_0 := qR.out
  have hms51_1 := qS.out
  have hms51_2 := qL.out
  have hms51_3 := qN.out
  have hs52 : zE.cell? ⟨qi, 2, none⟩ = some (.bool false) := bc_ qf 2
  have hfs52 := blk_frozen qf.out 2
  have hns52_0 := qQ.out
  have hns52_1 := qy.out
  have hns52_2 := qK.out
  have hns52_3 := qu.out
  have hms52_0 := qR.out
  have hms52_1 := qS.out
  have hms52_2 := qL.out
  have hms52_3 := qN.out
  refine skip_ (w1 := ?_) (by rfl) rfl ?_ ?_
  rotate_left
  ·
   go_simp
   rfl
  refine hK.out _ _ ⟨((cell_far (p := ⟨qi, _, none⟩) qu.out _).trans (((cell_far (p := ⟨qi, _, none⟩) qu.out _).trans (((cell_far (p := ⟨qi, _, none⟩) qu.out _).trans (hHeld.1)))))), ((cell_far (p := ⟨qi, _, none⟩) qu.out _).trans (((cell_far (p := ⟨qi, _, none⟩) qu.out _).trans (((cell_far (p := ⟨qi, _, none⟩) qu.out _).trans (hHeld.2.1)))))), ((cell_far (p := ⟨qi, _, none⟩) qu.out _).trans (((cell_far (p := ⟨qi, _, none⟩) qu.out _).trans (((cell_far (p := ⟨qi, _, none⟩) qu.out _).trans (hHeld.2.2.1)))))), ((cell_far (p := ⟨qi, _, none⟩) qy.out _).trans (((cell_far (p := ⟨qi, _, none⟩) qy.out _).trans (((cell_far (p := ⟨qi, _, none⟩) qy.out _).trans (hHeld.2.2.2.1)))))), ((cell_far (p := ⟨qi, _, none⟩) qy.out _).trans (((cell_far (p := ⟨qi, _, none⟩) qy.out _).trans (((cell_far (p := ⟨qi, _, none⟩) qy.out _).trans (hHeld.2.2.2.2))))))⟩ (fun hHeld => ?_)
  clear hK K
  refine pure_ (i := 10) (N := some 12) (v := ?_) (a' := ?_) #[true, true, true, true, true, true, true, true, true, true, true] rfl rfl (any_of HT_.out (by kernel_rfl)) (fun _ _ _ h => h) (Or.inl ⟨by rfl, ?_⟩) ?_ ?_
  rotate_left
  ·
   intro w'
   go_simp
   with_reducible rfl
  rotate_left
  ·
   simp only [Act.put, List.setIfInBounds_toArray, List.set_cons_zero, List.set_cons_succ, i64_w, i32_w]
   rfl
  refine done_ (done_of HT_.out (by kernel_rfl)) ?_
  go_upto_region 8 with (fail)
  go_cut [50] (fun v50 wc => ∃ (kq : Nat) (je : Bool), v50 = .bool je ∧ Aside0 (laws_FnExactFixVariable.j0 kq a1 qW zp je l0_0 a0_1 a0_2 a2_0 a2_1 qn qA qD qB qX qY qp qr qt = some r) ∧ Aside0 (kq ≤ k) ∧ Aside0 (Kd.R (Kd.int .i64) 3 wc w.heap.size (fun k_ => some k_ ≠ ((.slice qF qB.length qG) : Value).ownBlock ∧ some k_ ≠ ((.slice qE qp.length qC) : Value).ownBlock) (.slice qP qn.length qM) qn) ∧ Aside0 (Kd.R (Kd.int .i64) 3 wc w.heap.size (fun k_ => some k_ ≠ ((.slice qP qn.length qM) : Value).ownBlock ∧ some k_ ≠ ((.slice qE qp.length qC) : Value).ownBlock) (.slice qF qB.length qG) qB) ∧ Aside0 (Kd.R (Kd.int .i64) 3 wc w.heap.size (fun k_ => some k_ ≠ ((.slice qP qn.length qM) : Value).ownBlock ∧ some k_ ≠ ((.slice qF qB.length qG) : Value).ownBlock) (.slice qE qp.length qC) qp) ∧ Aside0 (wc.heap[qo]? = some (.cells #[(.slice A0_0 l0_0.length c0_0), .int .i64 a0_1, .bool a0_2] 24 (0, 0))) ∧ Aside0 (wc.heap[qs]? = some (.cells #[.int .i64 a2_0, .int .i64 a2_1] 54 (0, 0))) ∧ Aside0 (wc.heap[qj]? = some (.cells #[(.slice qP qn.length qM), .int .i64 qA, .bool qD] 26 (0, 0))) ∧ Aside0 (wc.heap[ql]? = some (.cells #[(.slice qF qB.length qG), .int .i64 qX, .bool qY] 26 (0, 0))) ∧ Aside0 (wc.heap[qi]? = some (.cells #[(.slice qE qp.length qC), .int .i64 qr, .bool qt] 26 (0, 0))) ∧ Aside0 (Below w.heap.size w wc))
  case first =>
   have H := HC17.out
   clear HC17
   replace H := Option.bind_eq_some_iff.mp H
   obtain ⟨zv, A530, H⟩ := H
   replace H : (if zv = true then (laws_FnExactFixVariable.j0 k a1 qW zp (zp != qW) l0_0 a0_1 a0_2 a2_0 a2_1 qn qA qD qB qX qY qp qr qt) else (laws_FnExactFixVariable.j0 k a1 qW zp true l0_0 a0_1 a0_2 a2_0 a2_1 qn qA qD qB qX qY qp qr qt)) = some r := H
   have A53 := Aside0.mk A530
   clear A530
   by_cases c54 : zv = true
   ·
    subst c54
    have H1 : (laws_FnExactFixVariable.j0 k a1 qW zp (zp != qW) l0_0 a0_1 a0_2 a2_0 a2_1 qn qA qD qB qX qY qp qr qt) = some r := by rw [if_pos rfl] at H; exact H
    clear H
    have H := H1
    clear H1
    have H' := Aside0.mk H
    clear H
    have Yv := qR.out
    have Yw := qQ.out
    have Yx := qS.out
    have Yy := qy.out
    have Yz := qL.out
    have YA := qK.out
    have YB := qN.out
    have YC := qu.out
    have jq : zE.cell? ⟨qi, 0, none⟩ = some (.slice none 0 0) := bc_ qf 0
    have jr : zE.cell? ⟨qi, 1, none⟩ = some (.int .i64 0) := bc_ qf 1
    have js : zE.cell? ⟨qi, 2, none⟩ = some (.bool false) := bc_ qf 2
    have jt := blk_frozen qf.out 0
    have ju := blk_frozen qf.out 1
    have jv := blk_frozen qf.out 2
    have YD := qV.out
    have YE := qw.out
    have YF := qZ.out
    have YG := qI.out
    have YH := zj.out
    have YI := zk.out
    have jw : zE.cell? ⟨qj, 0, none⟩ = some (.slice qP qn.length qM) := bc_ qg 0
    have jx : zE.cell? ⟨qj, 1, none⟩ = some (.int .i64 qA) := bc_ qg 1
    have jy : zE.cell? ⟨qj, 2, none⟩ = some (.bool qD) := bc_ qg 2
    have jz := blk_frozen qg.out 0
    have jA := blk_frozen qg.out 1
    have jB := blk_frozen qg.out 2
    go_wp2_with (first | ((with_reducible refine gate_callee (f := 17) rfl ?_); refine goesL_ (some 44) rfl rfl Try.func17 (by kernel_rfl) rfl #[.agg #[.slice qE qp.length qC, .int .i64 qr, .bool qt], .agg #[.slice qP qn.length qM, .int .i64 qA, .bool qD]] rfl (by (try simp only [List.map_toArray, List.map_cons, List.map_nil]); first | done | rfl | (simp only [List.length_drop, List.length_take]; rfl)) ?_; (with_reducible refine (laws_eqAtom.calls k _ _ qp qr qt _ _ qn qA qD true _ ?side1 ?side2 ?side3 ?side4 A53.out).mono ?_); (case side1 => refine (Kd.R_reads' (e := 3) (base := w.heap.size) (ok := fun k_ => (some k_ ≠ (zx : Value).ownBlock ∧ (some k_ ≠ (.slice qP qn.length qM : Value).ownBlock ∧ some k_ ≠ (.slice qF qB.length qG : Value).ownBlock))) (n := qp.length) (c := qC) ?_).2.2; exact (by (with_reducible repeat (first | apply Kd.R_alloc | apply Kd.R_drewN | apply Kd.R_drew)); exact (rt3_ zl qf (by decide) 0 1 2 (.slice qE qp.length qC) (.int .i64 qr) (.bool qt)))); (case side2 => exact (Kd.R_reads' zl.out).2.1); (case side3 => refine (Kd.R_reads' (e := 3) (base := w.heap.size) (ok := fun k_ => (some k_ ≠ (zx : Value).ownBlock ∧ (some k_ ≠ (.slice qF qB.length qG : Value).ownBlock ∧ some k_ ≠ (.slice qE qp.length qC : Value).ownBlock))) (n := qn.length) (c := qM) ?_).2.2; exact (by (with_reducible repeat (first | apply Kd.R_alloc | apply Kd.R_drewN | apply Kd.R_drew)); exact (rt3_ qH qf (by decide) 0 1 2 (.slice qE qp.length qC) (.int .i64 qr) (.bool qt)))); (case side4 => exact (Kd.R_reads' qH.out).2.1); rintro e DG ⟨rfl, hb⟩; refine ⟨_, rfl, ?_⟩; replace qq := Aside0.mk (Kd.R_below (by (with_reducible repeat (first | apply Kd.R_alloc | apply Kd.R_drewN | apply Kd.R_drew)); exact (rt3_ qq qf (by decide) 0 1 2 (.slice qE qp.length qC) (.int .i64 qr) (.bool qt))) hb); replace qH := Aside0.mk (Kd.R_below (by (with_reducible repeat (first | apply Kd.R_alloc | apply Kd.R_drewN | apply Kd.R_drew)); exact (rt3_ qH qf (by decide) 0 1 2 (.slice qE qp.length qC) (.int .i64 qr) (.bool qt))) hb); replace qU := Aside0.mk (Kd.R_below (by (with_reducible repeat (first | apply Kd.R_alloc | apply Kd.R_drewN | apply Kd.R_drew)); exact (rt3_ qU qf (by decide) 0 1 2 (.slice qE qp.length qC) (.int .i64 qr) (.bool qt))) hb); replace zl := Aside0.mk (Kd.R_below (by (with_reducible repeat (first | apply Kd.R_alloc | apply Kd.R_drewN | apply Kd.R_drew)); exact (rt3_ zl qf (by decide) 0 1 2 (.slice qE qp.length qC) (.int .i64 qr) (.bool qt))) hb); replace qa := Aside0.mk (blk_below (g := qo) (o := .cells #[.slice A0_0 l0_0.length c0_0, .int .i64 a0_1, .bool a0_2] 24 (0, 0)) (kf_ qa) hb); replace qc := Aside0.mk (blk_below (g := qs) (o := .cells #[.int .i64 a2_0, .int .i64 a2_1] 54 (0, 0)) (kf_ qc) hb); replace qg := Aside0.mk (blk_below (g := qj) (o := .cells #[.slice qP qn.length qM, .int .i64 qA, .bool qD] 26 (0, 0)) (kf_ qg) hb); replace qh := Aside0.mk (blk_below (g := ql) (o := .cells #[.slice qF qB.length qG, .int .i64 qX, .bool qY] 26 (0, 0)) (kf_ qh) hb); replace qf := Aside0.mk (blk_below (g := qi) (o := .cells #[.slice qE qp.length qC, .int .i64 qr, .bool qt] 26 (0, 0)) (by (with_reducible repeat (first | refine blk_drewN ?_ _ | refine blk_drew ?_ | refine blk_alloc ?_ _)); refine blk_put (cs := #[.slice qE qp.length qC, .int .i64 qr, .bool false]) ?_ 2 _ rfl; (with_reducible repeat (first | refine blk_drewN ?_ _ | refine blk_drew ?_ | refine blk_alloc ?_ _)); refine blk_put (cs := #[.slice qE qp.length qC, .int .i64 0, .bool false]) ?_ 1 _ rfl; (with_reducible repeat (first | refine blk_drewN ?_ _ | refine blk_drew ?_ | refine blk_alloc ?_ _)); refine blk_put (cs := #[.slice none 0 0, .int .i64 0, .bool false]) ?_ 0 _ rfl; (with_reducible repeat (first | refine blk_drewN ?_ _ | refine blk_drew ?_ | refine blk_alloc ?_ _)); exact qf.out) hb); replace HB := bS_ HB hb; (try clear hb); (try clear hb2); (try clear hk); (try clear hi)))
    go_meet
    case rel => exact ⟨_, ((zp != qW)), (by first | rfl | (simp; done) | (simp [*]; done)), H', ⟨by first | omega | exact Nat.le_refl _⟩, ⟨by (with_reducible repeat (first | apply Kd.R_alloc | apply Kd.R_drewN | apply Kd.R_drew)); exact Kd.R_mono qH.out (fun _ hk => ⟨hk.2.1, hk.2.2⟩)⟩, ⟨by (with_reducible repeat (first | apply Kd.R_alloc | apply Kd.R_drewN | apply Kd.R_drew)); exact Kd.R_mono qU.out (fun _ hk => ⟨hk.2.1, hk.2.2⟩)⟩, ⟨by (with_reducible repeat (first | apply Kd.R_alloc | apply Kd.R_drewN | apply Kd.R_drew)); exact Kd.R_mono zl.out (fun _ hk => ⟨hk.2.1, hk.2.2⟩)⟩, ⟨kf_ qa⟩, ⟨kf_ qc⟩, ⟨kf_ qg⟩, ⟨kf_ qh⟩, ⟨kf_ qf⟩, ⟨bb_ HB⟩⟩
   ·
    replace c54 := Bool.eq_false_iff.mpr c54
    subst c54
    have H1 : (laws_FnExactFixVariable.j0 k a1 qW zp true l0_0 a0_1 a0_2 a2_0 a2_1 qn qA qD qB qX qY qp qr qt) = some r := by rw [if_neg (show ¬ (false = true) by decide)] at H; exact H
    clear H
    have H := H1
    clear H1
    have H' := Aside0.mk H
    clear H
    have YJ := qR.out
    have YK := qQ.out
    have YL := qS.out
    have YM := qy.out
    have YN := qL.out
    have YO := qK.out
    have YP := qN.out
    have YQ := qu.out
    have jC : zE.cell? ⟨qi, 0, none⟩ = some (.slice none 0 0) := bc_ qf 0
    have jD : zE.cell? ⟨qi, 1, none⟩ = some (.int .i64 0) := bc_ qf 1
    have jE : zE.cell? ⟨qi, 2, none⟩ = some (.bool false) := bc_ qf 2
    have jF := blk_frozen qf.out 0
    have jG := blk_frozen qf.out 1
    have jH := blk_frozen qf.out 2
    have YR := qV.out
    have YS := qw.out
    have YT := qZ.out
    have YU := qI.out
    have YV := zj.out
    have YW := zk.out
    have jI : zE.cell? ⟨qj, 0, none⟩ = some (.slice qP qn.length qM) := bc_ qg 0
    have jJ : zE.cell? ⟨qj, 1, none⟩ = some (.int .i64 qA) := bc_ qg 1
    have jK : zE.cell? ⟨qj, 2, none⟩ = some (.bool qD) := bc_ qg 2
    have jL := blk_frozen qg.out 0
    have jM := blk_frozen qg.out 1
    have jN := blk_frozen qg.out 2
    go_wp2_with (first | ((with_reducible refine gate_callee (f := 17) rfl ?_); refine goesL_ (some 44) rfl rfl Try.func17 (by kernel_rfl) rfl #[.agg #[.slice qE qp.length qC, .int .i64 qr, .bool qt], .agg #[.slice qP qn.length qM, .int .i64 qA, .bool qD]] rfl (by (try simp only [List.map_toArray, List.map_cons, List.map_nil]); first | done | rfl | (simp only [List.length_drop, List.length_take]; rfl)) ?_; (with_reducible refine (laws_eqAtom.calls k _ _ qp qr qt _ _ qn qA qD false _ ?side1 ?side2 ?side3 ?side4 A53.out).mono ?_); (case side1 => refine (Kd.R_reads' (e := 3) (base := w.heap.size) (ok := fun k_ => (some k_ ≠ (zx : Value).ownBlock ∧ (some k_ ≠ (.slice qP qn.length qM : Value).ownBlock ∧ some k_ ≠ (.slice qF qB.length qG : Value).ownBlock))) (n := qp.length) (c := qC) ?_).2.2; exact (by (with_reducible repeat (first | apply Kd.R_alloc | apply Kd.R_drewN | apply Kd.R_drew)); exact (rt3_ zl qf (by decide) 0 1 2 (.slice qE qp.length qC) (.int .i64 qr) (.bool qt)))); (case side2 => exact (Kd.R_reads' zl.out).2.1); (case side3 => refine (Kd.R_reads' (e := 3) (base := w.heap.size) (ok := fun k_ => (some k_ ≠ (zx : Value).ownBlock ∧ (some k_ ≠ (.slice qF qB.length qG : Value).ownBlock ∧ some k_ ≠ (.slice qE qp.length qC : Value).ownBlock))) (n := qn.length) (c := qM) ?_).2.2; exact (by (with_reducible repeat (first | apply Kd.R_alloc | apply Kd.R_drewN | apply Kd.R_drew)); exact (rt3_ qH qf (by decide) 0 1 2 (.slice qE qp.length qC) (.int .i64 qr) (.bool qt)))); (case side4 => exact (Kd.R_reads' qH.out).2.1); rintro e DH ⟨rfl, hb⟩; refine ⟨_, rfl, ?_⟩; replace qq := Aside0.mk (Kd.R_below (by (with_reducible repeat (first | apply Kd.R_alloc | apply Kd.R_drewN | apply Kd.R_drew)); exact (rt3_ qq qf (by decide) 0 1 2 (.slice qE qp.length qC) (.int .i64 qr) (.bool qt))) hb); replace qH := Aside0.mk (Kd.R_below (by (with_reducible repeat (first | apply Kd.R_alloc | apply Kd.R_drewN | apply Kd.R_drew)); exact (rt3_ qH qf (by decide) 0 1 2 (.slice qE qp.length qC) (.int .i64 qr) (.bool qt))) hb); replace qU := Aside0.mk (Kd.R_below (by (with_reducible repeat (first | apply Kd.R_alloc | apply Kd.R_drewN | apply Kd.R_drew)); exact (rt3_ qU qf (by decide) 0 1 2 (.slice qE qp.length qC) (.int .i64 qr) (.bool qt))) hb); replace zl := Aside0.mk (Kd.R_below (by (with_reducible repeat (first | apply Kd.R_alloc | apply Kd.R_drewN | apply Kd.R_drew)); exact (rt3_ zl qf (by decide) 0 1 2 (.slice qE qp.length qC) (.int .i64 qr) (.bool qt))) hb); replace qa := Aside0.mk (blk_below (g := qo) (o := .cells #[.slice A0_0 l0_0.length c0_0, .int .i64 a0_1, .bool a0_2] 24 (0, 0)) (kf_ qa) hb); replace qc := Aside0.mk (blk_below (g := qs) (o := .cells #[.int .i64 a2_0, .int .i64 a2_1] 54 (0, 0)) (kf_ qc) hb); replace qg := Aside0.mk (blk_below (g := qj) (o := .cells #[.slice qP qn.length qM, .int .i64 qA, .bool qD] 26 (0, 0)) (kf_ qg) hb); replace qh := Aside0.mk (blk_below (g := ql) (o := .cells #[.slice qF qB.length qG, .int .i64 qX, .bool qY] 26 (0, 0)) (kf_ qh) hb); replace qf := Aside0.mk (blk_below (g := qi) (o := .cells #[.slice qE qp.length qC, .int .i64 qr, .bool qt] 26 (0, 0)) (by (with_reducible repeat (first | refine blk_drewN ?_ _ | refine blk_drew ?_ | refine blk_alloc ?_ _)); refine blk_put (cs := #[.slice qE qp.length qC, .int .i64 qr, .bool false]) ?_ 2 _ rfl; (with_reducible repeat (first | refine blk_drewN ?_ _ | refine blk_drew ?_ | refine blk_alloc ?_ _)); refine blk_put (cs := #[.slice qE qp.length qC, .int .i64 0, .bool false]) ?_ 1 _ rfl; (with_reducible repeat (first | refine blk_drewN ?_ _ | refine blk_drew ?_ | refine blk_alloc ?_ _)); refine blk_put (cs := #[.slice none 0 0, .int .i64 0, .bool false]) ?_ 0 _ rfl; (with_reducible repeat (first | refine blk_drewN ?_ _ | refine blk_drew ?_ | refine blk_alloc ?_ _)); exact qf.out) hb); replace HB := bS_ HB hb; (try clear hb); (try clear hb2); (try clear hk); (try clear hi)))
    go_meet
    case rel => exact ⟨_, (true), (by first | rfl | (simp; done) | (simp [*]; done)), H', ⟨by first | omega | exact Nat.le_refl _⟩, ⟨by (with_reducible repeat (first | apply Kd.R_alloc | apply Kd.R_drewN | apply Kd.R_drew)); exact Kd.R_mono qH.out (fun _ hk => ⟨hk.2.1, hk.2.2⟩)⟩, ⟨by (with_reducible repeat (first | apply Kd.R_alloc | apply Kd.R_drewN | apply Kd.R_drew)); exact Kd.R_mono qU.out (fun _ hk => ⟨hk.2.1, hk.2.2⟩)⟩, ⟨by (with_reducible repeat (first | apply Kd.R_alloc | apply Kd.R_drewN | apply Kd.R_drew)); exact Kd.R_mono zl.out (fun _ hk => ⟨hk.2.1, hk.2.2⟩)⟩, ⟨kf_ qa⟩, ⟨kf_ qc⟩, ⟨kf_ qg⟩, ⟨kf_ qh⟩, ⟨kf_ qf⟩, ⟨bb_ HB⟩⟩
  case rest =>
   clear HC17
   try clear c1
   try clear p2
   try clear c3
   try clear c5
   try clear c6
   try clear c7
   try clear c17
   try clear c35
   try clear c36
   try clear c54
   try clear c55
   try clear c56
   try clear c57
   try clear c58
   try clear c60
   try clear c61
   try clear c62
   try clear c65
   try clear c66
   try clear c67
   try clear c68
   try clear c70
   try clear c71
   try clear c72
   try clear jq
   try clear jr
   try clear js
   try clear jw
   try clear jx
   try clear jy
   try clear jC
   try clear jD
   try clear jE
   try clear jI
   try clear jJ
   try clear jK
   try clear jt
   try clear ju
   try clear jv
   try clear jz
   try clear jA
   try clear jB
   try clear jF
   try clear jG
   try clear jH
   try clear jL
   try clear jM
   try clear jN
   obtain ⟨kq, je, rfl, HA, HJ16, qe, qd, qb, qa, qc, qg, qh, qf, HB⟩ := hcut
   cases kq with
   | zero => exact absurd HA.out (by simp [laws_FnExactFixVariable.j0])
   | succ kj16 =>
    have H := HA.out
    clear HA
    simp only [laws_FnExactFixVariable.j0] at H
    by_cases c75 : je = true
    ·
     subst c75
     have H1 : (some false) = some r := by rw [if_pos rfl] at H; exact H
     clear H
     have H := H1
     clear H1
     obtain rfl := Option.some.inj H
     go_wp2
     go_ret
     exact ⟨by first | rfl | (simp [errW_none, errW_some] <;> rfl) | (simp [*, errW_none, errW_some] <;> rfl), bb_ HB⟩
    ·
     replace c75 := Bool.eq_false_iff.mpr c75
     subst c75
     have H1 : ((laws_toAtom.f kj16 l0_0 a0_1 a0_2).bind fun z0 => ((laws_eqAtom.f kj16 qB qX qY z0.1 z0.2.1 z0.2.2).bind fun jh => (if jh = true then ((laws_markAtom.f kj16 qB qX qY 1).bind fun zF => (if zF.1 < 0 then (laws_FnExactFixVariable.j1 kj16 a1 qW true l0_0 a0_1 a0_2 a2_0 a2_1 qn qA qD qp qr qt) else ((laws_eqAtom.f kj16 qp qr qt qn qA qD).bind fun zG => (if zG = true then (laws_FnExactFixVariable.j1 kj16 a1 qW (zp != qW) l0_0 a0_1 a0_2 a2_0 a2_1 qn qA qD qp qr qt) else (laws_FnExactFixVariable.j1 kj16 a1 qW true l0_0 a0_1 a0_2 a2_0 a2_1 qn qA qD qp qr qt))))) else (some false)))) = some r := by rw [if_neg (show ¬ (false = true) by decide)] at H; exact H
     clear H
     have H := H1
     clear H1
     replace H := Option.bind_eq_some_iff.mp H
     obtain ⟨⟨jf, jn, jo⟩, A760, H⟩ := H
     replace H : ((laws_eqAtom.f kj16 qB qX qY jf jn jo).bind fun jh => (if jh = true then ((laws_markAtom.f kj16 qB qX qY 1).bind fun zF => (if zF.1 < 0 then (laws_FnExactFixVariable.j1 kj16 a1 qW true l0_0 a0_1 a0_2 a2_0 a2_1 qn qA qD qp qr qt) else ((laws_eqAtom.f kj16 qp qr qt qn qA qD).bind fun zG => (if zG = true then (laws_FnExactFixVariable.j1 kj16 a1 qW (zp != qW) l0_0 a0_1 a0_2 a2_0 a2_1 qn qA qD qp qr qt) else (laws_FnExactFixVariable.j1 kj16 a1 qW true l0_0 a0_1 a0_2 a2_0 a2_1 qn qA qD qp qr qt))))) else (some false))) = some r := H
     have A76 := Aside0.mk A760
     clear A760
     replace H := Option.bind_eq_some_iff.mp H
     obtain ⟨jh, A770, H⟩ := H
     replace H : (if jh = true then ((laws_markAtom.f kj16 qB qX qY 1).bind fun zF => (if zF.1 < 0 then (laws_FnExactFixVariable.j1 kj16 a1 qW true l0_0 a0_1 a0_2 a2_0 a2_1 qn qA qD qp qr qt) else ((laws_eqAtom.f kj16 qp qr qt qn qA qD).bind fun zG => (if zG = true then (laws_FnExactFixVariable.j1 kj16 a1 qW (zp != qW) l0_0 a0_1 a0_2 a2_0 a2_1 qn qA qD qp qr qt) else (laws_FnExactFixVariable.j1 kj16 a1 qW true l0_0 a0_1 a0_2 a2_0 a2_1 qn qA qD qp qr qt))))) else (some false)) = some r := H
     have A77 := Aside0.mk A770
     clear A770
     by_cases c78 : jh = true
     ·
      subst c78
      have H1 : ((laws_markAtom.f kj16 qB qX qY 1).bind fun zF => (if zF.1 < 0 then (laws_FnExactFixVariable.j1 kj16 a1 qW true l0_0 a0_1 a0_2 a2_0 a2_1 qn qA qD qp qr qt) else ((laws_eqAtom.f kj16 qp qr qt qn qA qD).bind fun zG => (if zG = true then (laws_FnExactFixVariable.j1 kj16 a1 qW (zp != qW) l0_0 a0_1 a0_2 a2_0 a2_1 qn qA qD qp qr qt) else (laws_FnExactFixVariable.j1 kj16 a1 qW true l0_0 a0_1 a0_2 a2_0 a2_1 qn qA qD qp qr qt))))) = some r := by rw [if_pos rfl] at H; exact H
      clear H
      have H := H1
      clear H1
      replace H := Option.bind_eq_some_iff.mp H
      obtain ⟨⟨jQ, zg⟩, A790, H⟩ := H
      replace H : (if jQ < 0 then (laws_FnExactFixVariable.j1 kj16 a1 qW true l0_0 a0_1 a0_2 a2_0 a2_1 qn qA qD qp qr qt) else ((laws_eqAtom.f kj16 qp qr qt qn qA qD).bind fun zG => (if zG = true then (laws_FnExactFixVariable.j1 kj16 a1 qW (zp != qW) l0_0 a0_1 a0_2 a2_0 a2_1 qn qA qD qp qr qt) else (laws_FnExactFixVariable.j1 kj16 a1 qW true l0_0 a0_1 a0_2 a2_0 a2_1 qn qA qD qp qr qt)))) = some r := H
      have A79 := Aside0.mk A790
      clear A790
      have HC80 := Aside0.mk H
      clear H
      try go_wp2
      replace qe := Aside0.mk (Kd.R_drew qe.out); replace qd := Aside0.mk (Kd.R_drew qd.out); replace qb := Aside0.mk (Kd.R_drew qb.out); replace qa := Aside0.mk (blk_drew qa.out); replace qc := Aside0.mk (blk_drew qc.out); replace qg := Aside0.mk (blk_drew qg.out); replace qh := Aside0.mk (blk_drew qh.out); replace qf := Aside0.mk (blk_drew qf.out); replace HB := Aside0.mk (below_drew1 HB.out)
      refine start_ (n := 5) (S := fun w' => w'.cell? ⟨ql, 0, none⟩ = some (.slice qF qB.length qG) ∧ w'.cell? ⟨ql, 1, none⟩ = some (.int .i64 qX) ∧ w'.cell? ⟨ql, 2, none⟩ = some (.bool qY) ∧ w'.cell? ⟨qo, 0, none⟩ = some (.slice A0_0 l0_0.length c0_0) ∧ w'.cell? ⟨qo, 1, none⟩ = some (.int .i64 a0_1) ∧ w'.cell? ⟨qo, 2, none⟩ = some (.bool a0_2)) (ds := []) #[false, false, false, false, false] (by kernel_rfl) rfl rfl ⟨bc_ qh 0, bc_ qh 1, bc_ qh 2, bc_ qa 0, bc_ qa 1, bc_ qa 2⟩ (fun hHeld => ?_)
      generalize wc.drew = DI at qe qd qb qa qc qg qh qf HB hHeld ⊢
      refine take_ (i := 0) (N := some 51) (v := ?_) (a' := ?_) #[true, false, false, false, false] rfl rfl (by kernel_rfl) (fun _ _ _ h => h) (Or.inl ⟨by rfl, ?_⟩) hHeld ?_ ?_
      rotate_left
      ·
       rintro w' ⟨s0, s1, s2, s3, s4, s5⟩
       go_simp
       with_reducible rfl
      rotate_left
      ·
       simp only [Act.put, List.setIfInBounds_toArray, List.set_cons_zero, List.set_cons_succ, i64_w, i32_w]
       rfl
      refine take_ (i := 1) (N := some 52) (v := ?_) (a' := ?_) #[true, true, false, false, false] rfl rfl (by kernel_rfl) (fun _ _ _ h => h) (Or.inl ⟨by rfl, ?_⟩) hHeld ?_ ?_
      rotate_left
      ·
       rintro w' ⟨s0, s1, s2, s3, s4, s5⟩
       go_simp
       with_reducible rfl
      rotate_left
      ·
       simp only [Act.put, List.setIfInBounds_toArray, List.set_cons_zero, List.set_cons_succ, i64_w, i32_w]
       rfl
      refine one_ (i := 2) (N := some 53) #[true, true, true, false, false] rfl rfl (by kernel_rfl) (by decide) (fun K hK => ?_)
      refine goes_ Try.func15 (by kernel_rfl) rfl #[.agg #[.slice A0_0 l0_0.length c0_0, .int .i64 a0_1, .bool a0_2]] (by rfl) rfl rfl (by (try simp only [List.map_toArray, List.map_cons, List.map_nil]); first | done | rfl | (simp only [List.length_drop, List.length_take]; rfl)) ?_
      with_reducible refine (laws_toAtom.calls kj16 _ _ l0_0 a0_1 a0_2 jf jn jo _ ?side1 ?side2 A76.out).mono ?_
      (case side1 => exact cb_ zH HB)
      (case side2 => exact zI.out)
      rintro e DJ ⟨Jr, rfl, ho0, hb⟩
      refine ⟨_, rfl, ?_⟩
      have zo := Aside0.mk (Kd.R_lower (Kd.R_new' (Kd.R_new' (Kd.R_new' ho0 (Kd.R_lt (rm_ qe))) (Kd.R_lt (rm_ qd))) (Kd.R_lt (rm_ qb))) (bz_ HB)); replace qe := Aside0.mk (Kd.R_elder' (rm_ qe) (Kd.R_base ho0) hb); replace qd := Aside0.mk (Kd.R_elder' (rm_ qd) (Kd.R_base ho0) hb); replace qb := Aside0.mk (Kd.R_elder' (rm_ qb) (Kd.R_base ho0) hb); replace qa := kB_ qa hb; replace qc := kB_ qc hb; replace qg := kB_ qg hb; replace qh := kB_ qh hb; replace qf := kB_ qf hb; replace HB := bS_ HB hb; (try clear hb); (try clear hb2); (try clear hk); (try clear hi); (try clear ho0)
      obtain ⟨QO, QP, eo83⟩ := Kd.R_slice zo.out
      (first | subst eo83 | (injection eo83 with f1_ f2_ f3_; have f4_ := f1_.symm; have f5_ := f3_.symm; clear f1_ f2_ f3_; subst f4_; subst f5_))
      refine hK.out _ _ ⟨bc_ qh 0, bc_ qh 1, bc_ qh 2, bc_ qa 0, bc_ qa 1, bc_ qa 2⟩ (fun hHeld => ?_)
      clear hK K
      refine norm_ (a' := ?_) ?_ ?_
      rotate_left
      ·
       show Act.put _ (some 53) _ = _
       simp only [Act.put, List.setIfInBounds_toArray, List.set_cons_zero, List.set_cons_succ, i64_w, i32_w]
       rfl
      refine one_ (i := 3) (N := some 54) #[true, true, true, true, false] rfl rfl (by kernel_rfl) (by decide) (fun K hK => ?_)
      refine goes_ Try.func17 (by kernel_rfl) rfl #[.agg #[.slice qF qB.length qG, .int .i64 qX, .bool qY], .agg #[.slice QO jf.length QP, .int .i64 jn, .bool jo]] (by rfl) rfl rfl (by (try simp only [List.map_toArray, List.map_cons, List.map_nil]); first | done | rfl | (simp only [List.length_drop, List.length_take]; rfl)) ?_
      with_reducible refine (laws_eqAtom.calls kj16 _ _ qB qX qY _ _ jf jn jo true _ ?side1 ?side2 ?side3 ?side4 A77.out).mono ?_
      (case side1 => exact cr_ qd)
      (case side2 => exact (Kd.R_reads' qd.out).2.1)
      (case side3 => exact cr_ zo)
      (case side4 => exact (Kd.R_reads' zo.out).2.1)
      rintro e Js ⟨rfl, hb⟩
      refine ⟨_, rfl, ?_⟩
      replace qe := rB_ qe hb; replace qd := rB_ qd hb; replace qb := rB_ qb hb; replace zo := rB_ zo hb; replace qa := kB_ qa hb; replace qc := kB_ qc hb; replace qg := kB_ qg hb; replace qh := kB_ qh hb; replace qf := kB_ qf hb; replace HB := bS_ HB hb; (try clear hb); (try clear hb2); (try clear hk); (try clear hi)
      refine hK.out _ _ ⟨bc_ qh 0, bc_ qh 1, bc_ qh 2, bc_ qa 0, bc_ qa 1, bc_ qa 2⟩ (fun hHeld => ?_)
      clear hK K
      refine norm_ (a' := ?_) ?_ ?_
      rotate_left
      ·
       show Act.put _ (some 54) _ = _
       simp only [Act.put, List.setIfInBounds_toArray, List.set_cons_zero, List.set_cons_succ, i64_w, i32_w]
       rfl
      refine pure_ (i := 4) (N := some 55) (v := ?_) (a' := ?_) #[true, true, true, true, true] rfl rfl (by kernel_rfl) (fun _ _ _ h => h) (Or.inl ⟨by rfl, ?_⟩) ?_ ?_
      rotate_left
      ·
       intro w'
       go_simp
       with_reducible rfl
      rotate_left
      ·
       simp only [Act.put, List.setIfInBounds_toArray, List.set_cons_zero, List.set_cons_succ, i64_w, i32_w]
       rfl
      refine done_ (by kernel_rfl) ?_
      have YX := z9.out
      have YY := z8.out
      have YZ := jb.out
      have Y0 := ja.out
      have Y1 := zk.out
      have Y2 := zj.out
      have Y3 := qu.out
      have Y4 := qN.out
      have QA : Js.cell? ⟨ql, 0, none⟩ = some (.slice qF qB.length qG) := bc_ qh 0
      have QB : Js.cell? ⟨ql, 1, none⟩ = some (.int .i64 qX) := bc_ qh 1
      have QC : Js.cell? ⟨ql, 2, none⟩ = some (.bool qY) := bc_ qh 2
      have QD := blk_frozen qh.out 0
      have QE := blk_frozen qh.out 1
      have QF := blk_frozen qh.out 2
      go_upto_region 14 with (first | ((with_reducible refine gate_callee (f := 18) rfl ?_); refine goesL_ (some 58) rfl rfl Try.func18 (by kernel_rfl) rfl #[.agg #[.slice qF qB.length qG, .int .i64 qX, .bool qY], .int .i64 1] rfl (by (try simp only [List.map_toArray, List.map_cons, List.map_nil]); first | done | rfl | (simp only [List.length_drop, List.length_take]; rfl)) ?_; (with_reducible refine (laws_markAtom.calls kj16 (fun k_ => some k_ = (.slice qF qB.length qG : Value).ownBlock) (.slice qF qB.length qG) qB qX qY 1 jQ zg w _ ?side1 ?side2 A79.out).mono ?_); (case side1 => repeat (first | (with_reducible first | exact HB.out | apply below_alloc | apply pw_below_drewN | apply below_drew1 | refine below_set ?_ ji.out | refine below_set ?_ jj.out | refine below_set ?_ zy.out | refine below_set ?_ jp.out | refine below_set ?_ zD.out) | exact HB.out)); (case side2 => exact Kd.R_tight rfl qd.out); rintro e jP ⟨rfl, hy0, hb, hkp⟩; refine ⟨_, rfl, ?_⟩; replace qe := Aside0.mk (Kd.R_mono (ok' := fun k_ => some k_ ≠ (.slice qF qB.length qG : Value).ownBlock ∧ some k_ ≠ (.slice qE qp.length qC : Value).ownBlock ∧ some k_ ≠ (.slice QO jf.length QP : Value).ownBlock) (Kd.R_keptB (qe.out) hkp (fun k_ hk_ hs_ => (hk_.1.1) hs_)) (fun k_ hk_ => ⟨hk_.1.1.1, hk_.1.1.2, hk_.1.2⟩)); replace qb := Aside0.mk (Kd.R_mono (ok' := fun k_ => some k_ ≠ (.slice qP qn.length qM : Value).ownBlock ∧ some k_ ≠ (.slice qF qB.length qG : Value).ownBlock ∧ some k_ ≠ (.slice QO jf.length QP : Value).ownBlock) (Kd.R_keptB (qb.out) hkp (fun k_ hk_ hs_ => (hk_.1.2) hs_)) (fun k_ hk_ => ⟨hk_.1.1.1, hk_.1.1.2, hk_.1.2⟩)); replace qa := Aside0.mk (blk_kept (kf_ qa) hkp (fun hs_ => (fun e_ => (Kd.R_ne qd.out qa.out (by decide)) e_) hs_)); replace qc := Aside0.mk (blk_kept (kf_ qc) hkp (fun hs_ => (fun e_ => (Kd.R_ne qd.out qc.out (by decide)) e_) hs_)); replace qg := Aside0.mk (blk_kept (kf_ qg) hkp (fun hs_ => (fun e_ => (Kd.R_ne qd.out qg.out (by decide)) e_) hs_)); replace qh := Aside0.mk (blk_kept (kf_ qh) hkp (fun hs_ => (fun e_ => (Kd.R_ne qd.out qh.out (by decide)) e_) hs_)); replace qf := Aside0.mk (blk_kept (kf_ qf) hkp (fun hs_ => (fun e_ => (Kd.R_ne qd.out qf.out (by decide)) e_) hs_)); replace qd := Aside0.mk (Kd.R_reok rfl hy0 (fun k_ e_ => qd.out.1 k_ e_)); replace zo := Aside0.mk (Kd.R_mono (ok' := fun k_ => some k_ ≠ (.slice qP qn.length qM : Value).ownBlock ∧ some k_ ≠ (.slice qF qB.length qG : Value).ownBlock ∧ some k_ ≠ (.slice qE qp.length qC : Value).ownBlock) (Kd.R_keptB (zo.out) hkp (fun k_ hk_ hs_ => (hk_.1.2) hs_)) (fun k_ hk_ => ⟨hk_.1.1.1.2, hk_.1.1.2, hk_.1.2⟩)); replace HB := Aside0.mk (hb); (try clear hb); (try clear hkp); (try clear hy0)))
      (try simp only [Act.put, List.setIfInBounds_toArray, List.set_cons_zero, List.set_cons_succ])
      go_cut [71] (fun v71 wc => ∃ (kq : Nat) (jg : Bool), v71 = .bool jg ∧ Aside0 (laws_FnExactFixVariable.j1 kq a1 qW jg l0_0 a0_1 a0_2 a2_0 a2_1 qn qA qD qp qr qt = some r) ∧ Aside0 (kq ≤ kj16) ∧ Aside0 (Kd.R (Kd.int .i64) 3 wc w.heap.size (fun k_ => some k_ ≠ ((.slice qF qB.length qG) : Value).ownBlock ∧ some k_ ≠ ((.slice qE qp.length qC) : Value).ownBlock) (.slice qP qn.length qM) qn) ∧ Aside0 (Kd.R (Kd.int .i64) 3 wc w.heap.size (fun k_ => some k_ ≠ ((.slice qP qn.length qM) : Value).ownBlock ∧ some k_ ≠ ((.slice qE qp.length qC) : Value).ownBlock) (.slice qF qB.length qG) zg) ∧ Aside0 (Kd.R (Kd.int .i64) 3 wc w.heap.size (fun k_ => some k_ ≠ ((.slice qP qn.length qM) : Value).ownBlock ∧ some k_ ≠ ((.slice qF qB.length qG) : Value).ownBlock) (.slice qE qp.length qC) qp) ∧ Aside0 (wc.heap[qo]? = some (.cells #[(.slice A0_0 l0_0.length c0_0), .int .i64 a0_1, .bool a0_2] 24 (0, 0))) ∧ Aside0 (wc.heap[qs]? = some (.cells #[.int .i64 a2_0, .int .i64 a2_1] 54 (0, 0))) ∧ Aside0 (wc.heap[qj]? = some (.cells #[(.slice qP qn.length qM), .int .i64 qA, .bool qD] 26 (0, 0))) ∧ Aside0 (wc.heap[ql]? = some (.cells #[(.slice qF qB.length qG), .int .i64 qX, .bool qY] 26 (0, 0))) ∧ Aside0 (wc.heap[qi]? = some (.cells #[(.slice qE qp.length qC), .int .i64 qr, .bool qt] 26 (0, 0))) ∧ Aside0 (Below w.heap.size w wc))
      case first =>
       have H := HC80.out
       clear HC80
       by_cases c91 : jQ < 0
       ·
        rw [if_pos c91] at H
        have jd : decide (jQ < 0) = true := decide_eq_true c91
        clear c91
        (first | rw [jd] | (simp only [i64_w, i32_w]; rw [jd]) | skip)
        have H' := Aside0.mk H
        clear H
        go_wp2
        go_meet
        case rel => exact ⟨_, (true), (by first | rfl | (simp; done) | (simp [*]; done)), H', ⟨by have := HJ16.out; first | omega | exact Nat.le_refl _⟩, ⟨by (with_reducible repeat (first | apply Kd.R_alloc | apply Kd.R_drewN | apply Kd.R_drew)); exact Kd.R_mono qe.out (fun _ hk => ⟨hk.1, hk.2.1⟩)⟩, ⟨by (with_reducible repeat (first | apply Kd.R_alloc | apply Kd.R_drewN | apply Kd.R_drew)); exact Kd.R_mono qd.out (fun _ hk => ⟨hk.1.1, hk.1.2⟩)⟩, ⟨by (with_reducible repeat (first | apply Kd.R_alloc | apply Kd.R_drewN | apply Kd.R_drew)); exact Kd.R_mono qb.out (fun _ hk => ⟨hk.1, hk.2.1⟩)⟩, ⟨kf_ qa⟩, ⟨kf_ qc⟩, ⟨kf_ qg⟩, ⟨kf_ qh⟩, ⟨kf_ qf⟩, ⟨bb_ HB⟩⟩
       ·
        rw [if_neg c91] at H
        have jd : decide (jQ < 0) = false := decide_eq_false c91
        clear c91
        (first | rw [jd] | (simp only [i64_w, i32_w]; rw [jd]) | skip)
        replace H := Option.bind_eq_some_iff.mp H
        obtain ⟨zG, A920, H⟩ := H
        replace H : (if zG = true then (laws_FnExactFixVariable.j1 kj16 a1 qW (zp != qW) l0_0 a0_1 a0_2 a2_0 a2_1 qn qA qD qp qr qt) else (laws_FnExactFixVariable.j1 kj16 a1 qW true l0_0 a0_1 a0_2 a2_0 a2_1 qn qA qD qp qr qt)) = some r := H
        have A92 := Aside0.mk A920
        clear A920
        by_cases c93 : zG = true
        ·
         subst c93
         have H1 : (laws_FnExactFixVariable.j1 kj16 a1 qW (zp != qW) l0_0 a0_1 a0_2 a2_0 a2_1 qn qA qD qp qr qt) = some r := by rw [if_pos rfl] at H; exact H
         clear H
         have H := H1
         clear H1
         have H' := Aside0.mk H
         clear H
         have Y5 := qR.out
         have Y6 := qQ.out
         have Y7 := qS.out
         have Y8 := qy.out
         have Y9 := qL.out
         have Da := qK.out
         have Db := qN.out
         have Dc := qu.out
         have QG : jP.cell? ⟨qi, 0, none⟩ = some (.slice qE qp.length qC) := bc_ qf 0
         have QH : jP.cell? ⟨qi, 1, none⟩ = some (.int .i64 qr) := bc_ qf 1
         have QI : jP.cell? ⟨qi, 2, none⟩ = some (.bool qt) := bc_ qf 2
         have QJ := blk_frozen qf.out 0
         have QK := blk_frozen qf.out 1
         have QL := blk_frozen qf.out 2
         have Dd := qV.out
         have De := qw.out
         have Jt := qZ.out
         have Ju := qI.out
         have Jv := zj.out
         have Jw := zk.out
         have jR : jP.cell? ⟨qj, 0, none⟩ = some (.slice qP qn.length qM) := bc_ qg 0
         have jS : jP.cell? ⟨qj, 1, none⟩ = some (.int .i64 qA) := bc_ qg 1
         have jT : jP.cell? ⟨qj, 2, none⟩ = some (.bool qD) := bc_ qg 2
         have jU := blk_frozen qg.out 0
         have jV := blk_frozen qg.out 1
         have jW := blk_frozen qg.out 2
         go_wp2_with (first | (go_at_call 17; (with_reducible refine (laws_eqAtom.calls kj16 _ _ qp qr qt _ _ qn qA qD true _ ?side1 ?side2 ?side3 ?side4 A92.out).mono ?_); (case side1 => exact cr_ qb); (case side2 => exact (Kd.R_reads' qb.out).2.1); (case side3 => exact cr_ qe); (case side4 => exact (Kd.R_reads' qe.out).2.1); rintro e Dm ⟨rfl, hb⟩; replace qe := rB_ qe hb; replace qd := rB_ qd hb; replace qb := rB_ qb hb; replace zo := rB_ zo hb; replace qa := kB_ qa hb; replace qc := kB_ qc hb; replace qg := kB_ qg hb; replace qh := kB_ qh hb; replace qf := kB_ qf hb; replace HB := bS_ HB hb; (try clear hb); (try clear hb2); (try clear hk); (try clear hi)))
         go_meet
         case rel => exact ⟨_, ((zp != qW)), (by first | rfl | (simp; done) | (simp [*]; done)), H', ⟨by have := HJ16.out; first | omega | exact Nat.le_refl _⟩, ⟨by (with_reducible repeat (first | apply Kd.R_alloc | apply Kd.R_drewN | apply Kd.R_drew)); exact Kd.R_mono qe.out (fun _ hk => ⟨hk.1, hk.2.1⟩)⟩, ⟨by (with_reducible repeat (first | apply Kd.R_alloc | apply Kd.R_drewN | apply Kd.R_drew)); exact Kd.R_mono qd.out (fun _ hk => ⟨hk.1.1, hk.1.2⟩)⟩, ⟨by (with_reducible repeat (first | apply Kd.R_alloc | apply Kd.R_drewN | apply Kd.R_drew)); exact Kd.R_mono qb.out (fun _ hk => ⟨hk.1, hk.2.1⟩)⟩, ⟨kf_ qa⟩, ⟨kf_ qc⟩, ⟨kf_ qg⟩, ⟨kf_ qh⟩, ⟨kf_ qf⟩, ⟨bb_ HB⟩⟩
        ·
         replace c93 := Bool.eq_false_iff.mpr c93
         subst c93
         have H1 : (laws_FnExactFixVariable.j1 kj16 a1 qW true l0_0 a0_1 a0_2 a2_0 a2_1 qn qA qD qp qr qt) = some r := by rw [if_neg (show ¬ (false = true) by decide)] at H; exact H
         clear H
         have H := H1
         clear H1
         have H' := Aside0.mk H
         clear H
         have Jx := qR.out
         have Jy := qQ.out
         have Jz := qS.out
         have JA := qy.out
         have JB := qL.out
         have JC := qK.out
         have JD := qN.out
         have JE := qu.out
         have jX : jP.cell? ⟨qi, 0, none⟩ = some (.slice qE qp.length qC) := bc_ qf 0
         have jY : jP.cell? ⟨qi, 1, none⟩ = some (.int .i64 qr) := bc_ qf 1
         have jZ : jP.cell? ⟨qi, 2, none⟩ = some (.bool qt) := bc_ qf 2
         have j3 := blk_frozen qf.out 0
         have j4 := blk_frozen qf.out 1
         have j5 := blk_frozen qf.out 2
         have JF := qV.out
         have JG := qw.out
         have JH := qZ.out
         have JI := qI.out
         have JJ := zj.out
         have JK := zk.out
         have j6 : jP.cell? ⟨qj, 0, none⟩ = some (.slice qP qn.length qM) := bc_ qg 0
         have j7 : jP.cell? ⟨qj, 1, none⟩ = some (.int .i64 qA) := bc_ qg 1
         have j8 : jP.cell? ⟨qj, 2, none⟩ = some (.bool qD) := bc_ qg 2
         have j9 := blk_frozen qg.out 0
         have Qa := blk_frozen qg.out 1
         have Qb := blk_frozen qg.out 2
         go_wp2_with (first | (go_at_call 17; (with_reducible refine (laws_eqAtom.calls kj16 _ _ qp qr qt _ _ qn qA qD false _ ?side1 ?side2 ?side3 ?side4 A92.out).mono ?_); (case side1 => exact cr_ qb); (case side2 => exact (Kd.R_reads' qb.out).2.1); (case side3 => exact cr_ qe); (case side4 => exact (Kd.R_reads' qe.out).2.1); rintro e Dn ⟨rfl, hb⟩; replace qe := rB_ qe hb; replace qd := rB_ qd hb; replace qb := rB_ qb hb; replace zo := rB_ zo hb; replace qa := kB_ qa hb; replace qc := kB_ qc hb; replace qg := kB_ qg hb; replace qh := kB_ qh hb; replace qf := kB_ qf hb; replace HB := bS_ HB hb; (try clear hb); (try clear hb2); (try clear hk); (try clear hi)))
         go_meet
         case rel => exact ⟨_, (true), (by first | rfl | (simp; done) | (simp [*]; done)), H', ⟨by have := HJ16.out; first | omega | exact Nat.le_refl _⟩, ⟨by (with_reducible repeat (first | apply Kd.R_alloc | apply Kd.R_drewN | apply Kd.R_drew)); exact Kd.R_mono qe.out (fun _ hk => ⟨hk.1, hk.2.1⟩)⟩, ⟨by (with_reducible repeat (first | apply Kd.R_alloc | apply Kd.R_drewN | apply Kd.R_drew)); exact Kd.R_mono qd.out (fun _ hk => ⟨hk.1.1, hk.1.2⟩)⟩, ⟨by (with_reducible repeat (first | apply Kd.R_alloc | apply Kd.R_drewN | apply Kd.R_drew)); exact Kd.R_mono qb.out (fun _ hk => ⟨hk.1, hk.2.1⟩)⟩, ⟨kf_ qa⟩, ⟨kf_ qc⟩, ⟨kf_ qg⟩, ⟨kf_ qh⟩, ⟨kf_ qf⟩, ⟨bb_ HB⟩⟩
      case rest =>
       clear HC80
       try clear c1
       try clear p2
       try clear c3
       try clear c5
       try clear c6
       try clear c7
       try clear c8
       try clear c9
       try clear c10
       try clear c11
       try clear c15
       try clear c17
       try clear c18
       try clear c35
       try clear c36
       try clear c54
       try clear c55
       try clear c56
       try clear c57
       try clear c58
       try clear c60
       try clear c61
       try clear c62
       try clear c65
       try clear c66
       try clear c67
       try clear c68
       try clear c70
       try clear c71
       try clear c72
       try clear c75
       try clear c78
       try clear c85
       try clear c86
       try clear c87
       try clear c88
       try clear c91
       try clear jd
       try clear c93
       try clear c94
       try clear c95
       try clear c96
       try clear c97
       try clear c99
       try clear c100
       try clear c101
       try clear c104
       try clear c105
       try clear c106
       try clear c107
       try clear c109
       try clear c110
       try clear c111
       try clear jR
       try clear jS
       try clear jT
       try clear jX
       try clear jY
       try clear jZ
       try clear j6
       try clear j7
       try clear j8
       try clear jq
       try clear jr
       try clear js
       try clear jw
       try clear jx
       try clear jy
       try clear jC
       try clear jD
       try clear jE
       try clear jI
       try clear jJ
       try clear jK
       try clear QA
       try clear QB
       try clear QC
       try clear QG
       try clear QH
       try clear QI
       try clear jU
       try clear jV
       try clear jW
       try clear j3
       try clear j4
       try clear j5
       try clear j9
       try clear Qa
       try clear Qb
       try clear jt
       try clear ju
       try clear jv
       try clear jz
       try clear jA
       try clear jB
       try clear jF
       try clear jG
       try clear jH
       try clear jL
       try clear jM
       try clear jN
       try clear QD
       try clear QE
       try clear QF
       try clear QJ
       try clear QK
       try clear QL
       try clear p2
       obtain ⟨kq, jg, rfl, HA, HJ79, qe, qd, qb, qa, qc, qg, qh, qf, HB⟩ := hcut
       have hl244000_79 := (Kd.R_reads' qd.out).1
       rw [hl244000_79] at qd
       (try simp only [hl244000_79])
       (try simp only [hl244000_79] at qa)
       (try simp only [hl244000_79] at qc)
       (try simp only [hl244000_79] at qg)
       (try simp only [hl244000_79] at qh)
       (try simp only [hl244000_79] at qf)
       (try simp only [hl244000_79] at qe)
       (try simp only [hl244000_79] at qb)
       cases kq with
       | zero => exact absurd HA.out (by simp [laws_FnExactFixVariable.j1])
       | succ kj79 =>
        have H := HA.out
        clear HA
        simp only [laws_FnExactFixVariable.j1] at H
        by_cases c114 : jg = true
        ·
         subst c114
         have H1 : (some false) = some r := by rw [if_pos rfl] at H; exact H
         clear H
         have H := H1
         clear H1
         obtain rfl := Option.some.inj H
         go_wp2
         go_ret
         exact ⟨by first | rfl | (simp [errW_none, errW_some] <;> rfl) | (simp [*, errW_none, errW_some] <;> rfl), bb_ HB⟩
        ·
         replace c114 := Bool.eq_false_iff.mpr c114
         subst c114
         have H1 : ((laws_markAtom.f kj79 qp qr qt 1).bind fun zu => ((laws_heldAtom.f kj79 zu.2 qr qt 1).bind fun zr => (if zr < 0 then (some false) else (if zr = zu.1 then ((laws_toAtom.f kj79 l0_0 a0_1 a0_2).bind fun zq => ((laws_toRatio.f a2_0 a2_1).bind fun zs => ((impl_FixVariable.f kj79 zq.1 zq.2.1 zq.2.2 a1 zs.1 zs.2).bind fun q9 => ((laws_eqAtom.f kj79 q9.1 q9.2.1 q9.2.2.1 qn qA qD).bind fun zC => (if zC = true then (laws_FnExactFixVariable.j2 kj79 zu.1 (q9.2.2.2 != qW) zu.2 qr qt) else (laws_FnExactFixVariable.j2 kj79 zu.1 true zu.2 qr qt)))))) else (some false))))) = some r := by rw [if_neg (show ¬ (false = true) by decide)] at H; exact H
         clear H
         have H := H1
         clear H1
         replace H := Option.bind_eq_some_iff.mp H
         obtain ⟨⟨zd, za⟩, A1150, H⟩ := H
         replace H : ((laws_heldAtom.f kj79 za qr qt 1).bind fun zr => (if zr < 0 then (some false) else (if zr = zd then ((laws_toAtom.f kj79 l0_0 a0_1 a0_2).bind fun zq => ((laws_toRatio.f a2_0 a2_1).bind fun zs => ((impl_FixVariable.f kj79 zq.1 zq.2.1 zq.2.2 a1 zs.1 zs.2).bind fun q9 => ((laws_eqAtom.f kj79 q9.1 q9.2.1 q9.2.2.1 qn qA qD).bind fun zC => (if zC = true then (laws_FnExactFixVariable.j2 kj79 zd (q9.2.2.2 != qW) za qr qt) else (laws_FnExactFixVariable.j2 kj79 zd true za qr qt)))))) else (some false)))) = some r := H
         have A115 := Aside0.mk A1150
         clear A1150
         replace H := Option.bind_eq_some_iff.mp H
         obtain ⟨zr, A1160, H⟩ := H
         replace H : (if zr < 0 then (some false) else (if zr = zd then ((laws_toAtom.f kj79 l0_0 a0_1 a0_2).bind fun zq => ((laws_toRatio.f a2_0 a2_1).bind fun zs => ((impl_FixVariable.f kj79 zq.1 zq.2.1 zq.2.2 a1 zs.1 zs.2).bind fun q9 => ((laws_eqAtom.f kj79 q9.1 q9.2.1 q9.2.2.1 qn qA qD).bind fun zC => (if zC = true then (laws_FnExactFixVariable.j2 kj79 zd (q9.2.2.2 != qW) za qr qt) else (laws_FnExactFixVariable.j2 kj79 zd true za qr qt)))))) else (some false))) = some r := H
         have A116 := Aside0.mk A1160
         clear A1160
         by_cases c117 : zr < 0
         ·
          rw [if_pos c117] at H
          have QQ : decide (zr < 0) = true := decide_eq_true c117
          clear c117
          obtain rfl := Option.some.inj H
          have JL := qR.out
          have JM := qQ.out
          have JN := qS.out
          have JO := qy.out
          have JP := qL.out
          have JQ := qK.out
          have JR := qN.out
          have JS := qu.out
          have Q4 : wc.cell? ⟨qi, 0, none⟩ = some (.slice qE qp.length qC) := bc_ qf 0
          have Q5 : wc.cell? ⟨qi, 1, none⟩ = some (.int .i64 qr) := bc_ qf 1
          have Q6 : wc.cell? ⟨qi, 2, none⟩ = some (.bool qt) := bc_ qf 2
          have Q7 := blk_frozen qf.out 0
          have Q8 := blk_frozen qf.out 1
          have Q9 := blk_frozen qf.out 2
          go_wp2_with (first | ((with_reducible refine gate_callee (f := 18) rfl ?_); refine goesL_ (some 74) rfl rfl Try.func18 (by kernel_rfl) rfl #[.agg #[.slice qE qp.length qC, .int .i64 qr, .bool qt], .int .i64 1] rfl (by (try simp only [List.map_toArray, List.map_cons, List.map_nil]); first | done | rfl | (simp only [List.length_drop, List.length_take]; rfl)) ?_; (with_reducible refine (laws_markAtom.calls kj79 (fun k_ => some k_ = (.slice qE qp.length qC : Value).ownBlock) (.slice qE qp.length qC) qp qr qt 1 zd za w _ ?side1 ?side2 A115.out).mono ?_); (case side1 => repeat (first | (with_reducible first | exact HB.out | apply below_alloc | apply pw_below_drewN | apply below_drew1 | refine below_set ?_ ji.out | refine below_set ?_ jj.out | refine below_set ?_ zy.out | refine below_set ?_ jp.out | refine below_set ?_ zD.out) | exact HB.out)); (case side2 => exact Kd.R_tight rfl qb.out); rintro e QR ⟨rfl, hy0, hb, hkp⟩; refine ⟨_, rfl, ?_⟩; replace qe := Aside0.mk (Kd.R_mono (ok' := fun k_ => some k_ ≠ (.slice qF zg.length qG : Value).ownBlock ∧ some k_ ≠ (.slice qE qp.length qC : Value).ownBlock) (Kd.R_keptB (qe.out) hkp (fun k_ hk_ hs_ => (hk_.2) hs_)) (fun k_ hk_ => ⟨hk_.1.1, hk_.1.2⟩)); replace qd := Aside0.mk (Kd.R_mono (ok' := fun k_ => some k_ ≠ (.slice qP qn.length qM : Value).ownBlock ∧ some k_ ≠ (.slice qE qp.length qC : Value).ownBlock) (Kd.R_keptB (qd.out) hkp (fun k_ hk_ hs_ => (hk_.2) hs_)) (fun k_ hk_ => ⟨hk_.1.1, hk_.1.2⟩)); replace qa := Aside0.mk (blk_kept (kf_ qa) hkp (fun hs_ => (fun e_ => (Kd.R_ne qb.out qa.out (by decide)) e_) hs_)); replace qc := Aside0.mk (blk_kept (kf_ qc) hkp (fun hs_ => (fun e_ => (Kd.R_ne qb.out qc.out (by decide)) e_) hs_)); replace qg := Aside0.mk (blk_kept (kf_ qg) hkp (fun hs_ => (fun e_ => (Kd.R_ne qb.out qg.out (by decide)) e_) hs_)); replace qh := Aside0.mk (blk_kept (kf_ qh) hkp (fun hs_ => (fun e_ => (Kd.R_ne qb.out qh.out (by decide)) e_) hs_)); replace qf := Aside0.mk (blk_kept (kf_ qf) hkp (fun hs_ => (fun e_ => (Kd.R_ne qb.out qf.out (by decide)) e_) hs_)); replace qb := Aside0.mk (Kd.R_reok rfl hy0 (fun k_ e_ => qb.out.1 k_ e_)); replace HB := Aside0.mk (hb); (try clear hb); (try clear hkp); (try clear hy0); have Za : QR.cell? ⟨qi, 0, none⟩ = some (.slice qE qp.length qC) := bc_ qf 0; have Zb : QR.cell? ⟨qi, 1, none⟩ = some (.int .i64 qr) := bc_ qf 1; have Zc : QR.cell? ⟨qi, 2, none⟩ = some (.bool qt) := bc_ qf 2; have Zd := blk_frozen qf.out 0; have Ze := blk_frozen qf.out 1; have Zf := blk_frozen qf.out 2) | ((with_reducible refine gate_callee (f := 19) rfl ?_); refine goesL_ (some 77) rfl rfl Try.func19 (by kernel_rfl) rfl #[.agg #[.slice qE za.length qC, .int .i64 qr, .bool qt], .int .i64 1] rfl (by (try simp only [List.map_toArray, List.map_cons, List.map_nil]); first | done | (rw [show za.length = qp.length from (Kd.R_reads' qb.out).1.symm] <;> rfl) | rfl | (simp only [List.length_drop, List.length_take]; rfl)) ?_; (with_reducible refine (laws_heldAtom.calls kj79 _ _ za qr qt 1 zr _ ?side1 ?side2 A116.out).mono ?_); (case side1 => exact cr_ qb); (case side2 => rw [show za.length = qp.length from (Kd.R_reads' qb.out).1.symm]; exact (Kd.R_reads' qb.out).2.1); rintro e Do ⟨rfl, hb⟩; refine ⟨_, rfl, ?_⟩; replace qe := rB_ qe hb; replace qd := rB_ qd hb; replace qb := rB_ qb hb; replace qa := kB_ qa hb; replace qc := kB_ qc hb; replace qg := kB_ qg hb; replace qh := kB_ qh hb; replace qf := kB_ qf hb; replace HB := bS_ HB hb; (try clear hb); (try clear hb2); (try clear hk); (try clear hi)))
          go_ret
          exact ⟨by first | rfl | (simp [errW_none, errW_some] <;> rfl) | (simp [*, errW_none, errW_some] <;> rfl), bb_ HB⟩
         ·
          rw [if_neg c117] at H
          have QQ : decide (zr < 0) = false := decide_eq_false c117
          clear c117
          by_cases c126 : zr = zd
          ·
           rw [if_pos c126] at H
           have QS : (zr == zd) = true := beq_iff_eq.mpr c126
           have QT : (zr != zd) = false := bne_eq_false_iff_eq.mpr c126
           clear c126
           replace H := Option.bind_eq_some_iff.mp H
           obtain ⟨⟨zz, zQ, zR⟩, A1270, H⟩ := H
           replace H : ((laws_toRatio.f a2_0 a2_1).bind fun zs => ((impl_FixVariable.f kj79 zz zQ zR a1 zs.1 zs.2).bind fun q9 => ((laws_eqAtom.f kj79 q9.1 q9.2.1 q9.2.2.1 qn qA qD).bind fun zC => (if zC = true then (laws_FnExactFixVariable.j2 kj79 zd (q9.2.2.2 != qW) za qr qt) else (laws_FnExactFixVariable.j2 kj79 zd true za qr qt))))) = some r := H
           have A127 := Aside0.mk A1270
           clear A1270
           replace H := Option.bind_eq_some_iff.mp H
           obtain ⟨⟨zS, zT⟩, A1280, H⟩ := H
           replace H : ((impl_FixVariable.f kj79 zz zQ zR a1 zS zT).bind fun q9 => ((laws_eqAtom.f kj79 q9.1 q9.2.1 q9.2.2.1 qn qA qD).bind fun zC => (if zC = true then (laws_FnExactFixVariable.j2 kj79 zd (q9.2.2.2 != qW) za qr qt) else (laws_FnExactFixVariable.j2 kj79 zd true za qr qt)))) = some r := H
           have A128 := Aside0.mk A1280
           clear A1280
           replace H := Option.bind_eq_some_iff.mp H
           obtain ⟨⟨zc, zh, zm, z1⟩, A1290, H⟩ := H
           replace H : ((laws_eqAtom.f kj79 zc zh zm qn qA qD).bind fun zC => (if zC = true then (laws_FnExactFixVariable.j2 kj79 zd (z1 != qW) za qr qt) else (laws_FnExactFixVariable.j2 kj79 zd true za qr qt))) = some r := H
           have A129 := Aside0.mk A1290
           clear A1290
           have HC130 := Aside0.mk H
           clear H
           have JT := qR.out
           have JU := qQ.out
           have JV := qS.out
           have JW := qy.out
           have JX := qL.out
           have JY := qK.out
           have JZ := qN.out
           have J0 := qu.out
           have Zg : wc.cell? ⟨qi, 0, none⟩ = some (.slice qE qp.length qC) := bc_ qf 0
           have Zh : wc.cell? ⟨qi, 1, none⟩ = some (.int .i64 qr) := bc_ qf 1
           have Zi : wc.cell? ⟨qi, 2, none⟩ = some (.bool qt) := bc_ qf 2
           have Zj := blk_frozen qf.out 0
           have Zk := blk_frozen qf.out 1
           have Zl := blk_frozen qf.out 2
           try go_wp2_with (first | ((with_reducible refine gate_callee (f := 18) rfl ?_); refine goesL_ (some 74) rfl rfl Try.func18 (by kernel_rfl) rfl #[.agg #[.slice qE qp.length qC, .int .i64 qr, .bool qt], .int .i64 1] rfl (by (try simp only [List.map_toArray, List.map_cons, List.map_nil]); first | done | rfl | (simp only [List.length_drop, List.length_take]; rfl)) ?_; (with_reducible refine (laws_markAtom.calls kj79 (fun k_ => some k_ = (.slice qE qp.length qC : Value).ownBlock) (.slice qE qp.length qC) qp qr qt 1 zd za w _ ?side1 ?side2 A115.out).mono ?_); (case side1 => repeat (first | (with_reducible first | exact HB.out | apply below_alloc | apply pw_below_drewN | apply below_drew1 | refine below_set ?_ ji.out | refine below_set ?_ jj.out | refine below_set ?_ zy.out | refine below_set ?_ jp.out | refine below_set ?_ zD.out) | exact HB.out)); (case side2 => exact Kd.R_tight rfl qb.out); rintro e QU ⟨rfl, hy0, hb, hkp⟩; refine ⟨_, rfl, ?_⟩; replace qe := Aside0.mk (Kd.R_mono (ok' := fun k_ => some k_ ≠ (.slice qF zg.length qG : Value).ownBlock ∧ some k_ ≠ (.slice qE qp.length qC : Value).ownBlock) (Kd.R_keptB (qe.out) hkp (fun k_ hk_ hs_ => (hk_.2) hs_)) (fun k_ hk_ => ⟨hk_.1.1, hk_.1.2⟩)); replace qd := Aside0.mk (Kd.R_mono (ok' := fun k_ => some k_ ≠ (.slice qP qn.length qM : Value).ownBlock ∧ some k_ ≠ (.slice qE qp.length qC : Value).ownBlock) (Kd.R_keptB (qd.out) hkp (fun k_ hk_ hs_ => (hk_.2) hs_)) (fun k_ hk_ => ⟨hk_.1.1, hk_.1.2⟩)); replace qa := Aside0.mk (blk_kept (kf_ qa) hkp (fun hs_ => (fun e_ => (Kd.R_ne qb.out qa.out (by decide)) e_) hs_)); replace qc := Aside0.mk (blk_kept (kf_ qc) hkp (fun hs_ => (fun e_ => (Kd.R_ne qb.out qc.out (by decide)) e_) hs_)); replace qg := Aside0.mk (blk_kept (kf_ qg) hkp (fun hs_ => (fun e_ => (Kd.R_ne qb.out qg.out (by decide)) e_) hs_)); replace qh := Aside0.mk (blk_kept (kf_ qh) hkp (fun hs_ => (fun e_ => (Kd.R_ne qb.out qh.out (by decide)) e_) hs_)); replace qf := Aside0.mk (blk_kept (kf_ qf) hkp (fun hs_ => (fun e_ => (Kd.R_ne qb.out qf.out (by decide)) e_) hs_)); replace qb := Aside0.mk (Kd.R_reok rfl hy0 (fun k_ e_ => qb.out.1 k_ e_)); replace HB := Aside0.mk (hb); (try clear hb); (try clear hkp); (try clear hy0); have Zm : QU.cell? ⟨qi, 0, none⟩ = some (.slice qE qp.length qC) := bc_ qf 0; have Zn : QU.cell? ⟨qi, 1, none⟩ = some (.int .i64 qr) := bc_ qf 1; have Zo : QU.cell? ⟨qi, 2, none⟩ = some (.bool qt) := bc_ qf 2; have Zp := blk_frozen qf.out 0; have Zq := blk_frozen qf.out 1; have Zr := blk_frozen qf.out 2) | ((with_reducible refine gate_callee (f := 19) rfl ?_); refine goesL_ (some 77) rfl rfl Try.func19 (by kernel_rfl) rfl #[.agg #[.slice qE za.length qC, .int .i64 qr, .bool qt], .int .i64 1] rfl (by (try simp only [List.map_toArray, List.map_cons, List.map_nil]); first | done | (rw [show za.length = qp.length from (Kd.R_reads' qb.out).1.symm] <;> rfl) | rfl | (simp only [List.length_drop, List.length_take]; rfl)) ?_; (with_reducible refine (laws_heldAtom.calls kj79 _ _ za qr qt 1 zr _ ?side1 ?side2 A116.out).mono ?_); (case side1 => exact cr_ qb); (case side2 => rw [show za.length = qp.length from (Kd.R_reads' qb.out).1.symm]; exact (Kd.R_reads' qb.out).2.1); rintro e J1 ⟨rfl, hb⟩; refine ⟨_, rfl, ?_⟩; replace qe := rB_ qe hb; replace qd := rB_ qd hb; replace qb := rB_ qb hb; replace qa := kB_ qa hb; replace qc := kB_ qc hb; replace qg := kB_ qg hb; replace qh := kB_ qh hb; replace qf := kB_ qf hb; replace HB := bS_ HB hb; (try clear hb); (try clear hb2); (try clear hk); (try clear hi)))
           replace qe := Aside0.mk (Kd.R_drew qe.out); replace qd := Aside0.mk (Kd.R_drew qd.out); replace qb := Aside0.mk (Kd.R_drew qb.out); replace qa := Aside0.mk (blk_drew qa.out); replace qc := Aside0.mk (blk_drew qc.out); replace qg := Aside0.mk (blk_drew qg.out); replace qh := Aside0.mk (blk_drew qh.out); replace qf := Aside0.mk (blk_drew qf.out); replace HB := Aside0.mk (below_drew1 HB.out)
           refine start_ (n := 12) (S := fun w' => w'.cell? ⟨qo, 0, none⟩ = some (.slice A0_0 l0_0.length c0_0) ∧ w'.cell? ⟨qo, 1, none⟩ = some (.int .i64 a0_1) ∧ w'.cell? ⟨qo, 2, none⟩ = some (.bool a0_2) ∧ w'.cell? ⟨qs, 0, none⟩ = some (.int .i64 a2_0) ∧ w'.cell? ⟨qs, 1, none⟩ = some (.int .i64 a2_1)) (ds := []) #[false, false, false, false, false, false, false, false, false, false, false, false] (by kernel_rfl) rfl rfl ⟨bc_ qa 0, bc_ qa 1, bc_ qa 2, bc_ qc 0, bc_ qc 1⟩ (fun hHeld => ?_); refine with_tabW laws_FnExactFixVariable.tab24 laws_FnExactFixVariable.bits24 (fun HT_ HW_ => ?_)
           generalize J1.drew = Dp at qe qd qb qa qc qg qh qf HB hHeld ⊢
           refine pure_ (i := 2) (N := some 86) (v := ?_) (a' := ?_) #[false, false, true, false, false, false, false, false, false, false, false, false] rfl rfl (any_of HT_.out (by kernel_rfl)) (fun _ _ _ h => h) (Or.inl ⟨by rfl, ?_⟩) ?_ ?_
           rotate_left
           ·
            intro w'
            go_simp
            with_reducible rfl
           rotate_left
           ·
            simp only [Act.put, List.setIfInBounds_toArray, List.set_cons_zero, List.set_cons_succ, i64_w, i32_w]
            rfl
           refine take_ (i := 0) (N := some 84) (v := ?_) (a' := ?_) #[true, false, true, false, false, false, false, false, false, false, false, false] rfl rfl (take_ofW HT_.out HW_.out (by kernel_rfl)) (fun _ _ _ h => h) (Or.inl ⟨by rfl, ?_⟩) hHeld ?_ ?_
           rotate_left
           ·
            rintro w' ⟨s0, s1, s2, s3, s4⟩
            go_simp
            with_reducible rfl
           rotate_left
           ·
            simp only [Act.put, List.setIfInBounds_toArray, List.set_cons_zero, List.set_cons_succ, i64_w, i32_w]
            rfl
           refine take_ (i := 3) (N := some 87) (v := ?_) (a' := ?_) #[true, false, true, true, false, false, false, false, false, false, false, false] rfl rfl (take_ofW HT_.out HW_.out (by kernel_rfl)) (fun _ _ _ h => h) (Or.inl ⟨by rfl, ?_⟩) hHeld ?_ ?_
           rotate_left
           ·
            rintro w' ⟨s0, s1, s2, s3, s4⟩
            go_simp
            with_reducible rfl
           rotate_left
           ·
            simp only [Act.put, List.setIfInBounds_toArray, List.set_cons_zero, List.set_cons_succ, i64_w, i32_w]
            rfl
           refine join_ (σ := Value × Value × Nat) 2 #[true, true, true, true, true, true, true, true, true, true, false, false] (fun s_ => [(85, .agg #[s_.1, .int .i64 zQ, .bool zR]), (88, .agg #[.int .i64 zS, .int .i64 zT]), (89, .tuple #[.agg #[s_.2.1, .int .i64 zh, .bool zm], .bool z1]), (16, .pointer (some ⟨s_.2.2, 0, none⟩)), (83, .tuple #[.agg #[s_.2.1, .int .i64 zh, .bool zm], .bool z1]), (90, .agg #[s_.2.1, .int .i64 zh, .bool zm]), (91, .bool z1)]) (fun s_ w' => (w'.cell? ⟨qo, 0, none⟩ = some (.slice A0_0 l0_0.length c0_0) ∧ w'.cell? ⟨qo, 1, none⟩ = some (.int .i64 a0_1) ∧ w'.cell? ⟨qo, 2, none⟩ = some (.bool a0_2) ∧ w'.cell? ⟨qs, 0, none⟩ = some (.int .i64 a2_0) ∧ w'.cell? ⟨qs, 1, none⟩ = some (.int .i64 a2_1)) ∧ (Kd.R (Kd.int .i64) 3 w' w.heap.size (fun k_ => some k_ ≠ (s_.2.1 : Value).ownBlock ∧ some k_ ≠ (.slice qP qn.length qM : Value).ownBlock ∧ some k_ ≠ (.slice qF zg.length qG : Value).ownBlock ∧ some k_ ≠ (.slice qE qp.length qC : Value).ownBlock) s_.1 zz) ∧ (Kd.R (Kd.int .i64) 3 w' w.heap.size (fun k_ => some k_ ≠ (s_.1 : Value).ownBlock ∧ some k_ ≠ (.slice qP qn.length qM : Value).ownBlock ∧ some k_ ≠ (.slice qF zg.length qG : Value).ownBlock ∧ some k_ ≠ (.slice qE qp.length qC : Value).ownBlock) s_.2.1 zc) ∧ (Kd.R (Kd.int .i64) 3 w' w.heap.size (fun k_ => some k_ ≠ (s_.1 : Value).ownBlock ∧ some k_ ≠ (s_.2.1 : Value).ownBlock ∧ some k_ ≠ (.slice qF zg.length qG : Value).ownBlock ∧ some k_ ≠ (.slice qE qp.length qC : Value).ownBlock) (.slice qP qn.length qM) qn) ∧ (Kd.R (Kd.int .i64) 3 w' w.heap.size (fun k_ => some k_ ≠ (s_.1 : Value).ownBlock ∧ some k_ ≠ (s_.2.1 : Value).ownBlock ∧ some k_ ≠ (.slice qP qn.length qM : Value).ownBlock ∧ some k_ ≠ (.slice qE qp.length qC : Value).ownBlock) (.slice qF zg.length qG) zg) ∧ (Kd.R (Kd.int .i64) 3 w' w.heap.size (fun k_ => some k_ ≠ (s_.1 : Value).ownBlock ∧ some k_ ≠ (s_.2.1 : Value).ownBlock ∧ some k_ ≠ (.slice qP qn.length qM : Value).ownBlock ∧ some k_ ≠ (.slice qF zg.length qG : Value).ownBlock) (.slice qE qp.length qC) za) ∧ (w'.heap[qo]? = some (.cells #[.slice A0_0 l0_0.length c0_0, .int .i64 a0_1, .bool a0_2] 24 (0, 0))) ∧ (w'.heap[qs]? = some (.cells #[.int .i64 a2_0, .int .i64 a2_1] 54 (0, 0))) ∧ (w'.heap[qj]? = some (.cells #[.slice qP qn.length qM, .int .i64 qA, .bool qD] 26 (0, 0))) ∧ (w'.heap[ql]? = some (.cells #[.slice qF zg.length qG, .int .i64 qX, .bool qY] 26 (0, 0))) ∧ (w'.heap[qi]? = some (.cells #[.slice qE qp.length qC, .int .i64 qr, .bool qt] 26 (0, 0))) ∧ (w'.heap[s_.2.2]? = some (.cells #[.slice none 0 0, .int .i64 0, .bool false] 26 (0, 0))) ∧ (w.heap.size ≤ s_.2.2) ∧ (w.heap.size ≤ s_.2.2) ∧ (qo ≠ s_.2.2) ∧ (s_.2.2 ≠ qo) ∧ (qs ≠ s_.2.2) ∧ (s_.2.2 ≠ qs) ∧ (qj ≠ s_.2.2) ∧ (s_.2.2 ≠ qj) ∧ (ql ≠ s_.2.2) ∧ (s_.2.2 ≠ ql) ∧ (qi ≠ s_.2.2) ∧ (s_.2.2 ≠ qi) ∧ (Below w.heap.size w w')) ?_ ?_
           rotate_left
           ·
            intro hCont
            refine two_ (i := 1) (j := 9) (Ni := some 85) (Nj := some 16) #[true, true, true, true, false, false, false, false, false, false, false, false] #[true, false, true, true, false, false, false, false, false, true, false, false] rfl rfl rfl rfl (two_of HT_.out (by kernel_rfl)) (by decide) (by decide) (fun K hK => ?_) (fun K hK => ?_)
            ·
             skip
             refine goes_ Try.func15 (by kernel_rfl) rfl #[.agg #[.slice A0_0 l0_0.length c0_0, .int .i64 a0_1, .bool a0_2]] (by rfl) rfl rfl (by (try simp only [List.map_toArray, List.map_cons, List.map_nil]); first | done | rfl | (simp only [List.length_drop, List.length_take]; rfl)) ?_
             with_reducible refine (laws_toAtom.calls kj79 _ _ l0_0 a0_1 a0_2 zz zQ zR _ ?side1 ?side2 A127.out).mono ?_
             (case side1 => exact cb_ zH HB)
             (case side2 => exact zI.out)
             rintro e J2 ⟨z2, rfl, ho0, hb⟩
             refine ⟨_, rfl, ?_⟩
             have qO := Aside0.mk (Kd.R_lower (Kd.R_new' (Kd.R_new' (Kd.R_new' ho0 (Kd.R_lt (rm_ qe))) (Kd.R_lt (rm_ qd))) (Kd.R_lt (rm_ qb))) (bz_ HB)); replace qe := Aside0.mk (Kd.R_elder' (rm_ qe) (Kd.R_base ho0) hb); replace qd := Aside0.mk (Kd.R_elder' (rm_ qd) (Kd.R_base ho0) hb); replace qb := Aside0.mk (Kd.R_elder' (rm_ qb) (Kd.R_base ho0) hb); replace qa := kB_ qa hb; replace qc := kB_ qc hb; replace qg := kB_ qg hb; replace qh := kB_ qh hb; replace qf := kB_ qf hb; replace HB := bS_ HB hb; (try clear hb); (try clear hb2); (try clear hk); (try clear hi); (try clear ho0)
             refine hK.out _ _ ⟨bc_ qa 0, bc_ qa 1, bc_ qa 2, bc_ qc 0, bc_ qc 1⟩ (fun hHeld => ?_)
             clear hK K
             refine norm_ (a' := ?_) ?_ ?_
             rotate_left
             ·
              show Act.put _ (some 85) _ = _
              simp only [Act.put, List.setIfInBounds_toArray, List.set_cons_zero, List.set_cons_succ, i64_w, i32_w]
              rfl
             refine two_ (i := 4) (j := 9) (Ni := some 88) (Nj := some 16) #[true, true, true, true, true, false, false, false, false, false, false, false] #[true, true, true, true, false, false, false, false, false, true, false, false] rfl rfl rfl rfl (two_of HT_.out (by kernel_rfl)) (by decide) (by decide) (fun K hK => ?_) (fun K hK => ?_)
             ·
              skip
              refine goes_ Try.func35 (by kernel_rfl) rfl #[.agg #[.int .i64 a2_0, .int .i64 a2_1]] (by rfl) rfl rfl (by (try simp only [List.map_toArray, List.map_cons, List.map_nil]); first | done | rfl | (simp only [List.length_drop, List.length_take]; rfl)) ?_
              with_reducible refine (laws_toRatio.calls a2_0 a2_1 zS zT _ A128.out).mono ?_
              rintro e Zs ⟨rfl, hb⟩
              refine ⟨_, rfl, ?_⟩
              replace qe := rB_ qe hb; replace qd := rB_ qd hb; replace qb := rB_ qb hb; replace qO := rB_ qO hb; replace qa := kB_ qa hb; replace qc := kB_ qc hb; replace qg := kB_ qg hb; replace qh := kB_ qh hb; replace qf := kB_ qf hb; replace HB := bS_ HB hb; (try clear hb); (try clear hb2); (try clear hk); (try clear hi)
              obtain ⟨QM, QN, eo142⟩ := Kd.R_slice qO.out
              (first | subst eo142 | (injection eo142 with f1_ f2_ f3_; have f4_ := f1_.symm; have f5_ := f3_.symm; clear f1_ f2_ f3_; subst f4_; subst f5_))
              refine hK.out _ _ ⟨bc_ qa 0, bc_ qa 1, bc_ qa 2, bc_ qc 0, bc_ qc 1⟩ (fun hHeld => ?_)
              clear hK K
              refine norm_ (a' := ?_) ?_ ?_
              rotate_left
              ·
               show Act.put _ (some 88) _ = _
               simp only [Act.put, List.setIfInBounds_toArray, List.set_cons_zero, List.set_cons_succ, i64_w, i32_w]
               rfl
              refine two_ (i := 5) (j := 9) (Ni := some 89) (Nj := some 16) #[true, true, true, true, true, true, false, false, false, false, false, false] #[true, true, true, true, true, false, false, false, false, true, false, false] rfl rfl rfl rfl (two_of HT_.out (by kernel_rfl)) (by decide) (by decide) (fun K hK => ?_) (fun K hK => ?_)
              ·
               skip
               refine goes_ Try.func36 (by kernel_rfl) rfl #[.agg #[.slice QM zz.length QN, .int .i64 zQ, .bool zR], .int .i64 a1, .agg #[.int .i64 zS, .int .i64 zT]] (by rfl) rfl rfl (by (try simp only [List.map_toArray, List.map_cons, List.map_nil]); first | done | rfl | (simp only [List.length_drop, List.length_take]; rfl)) ?_
               with_reducible refine (impl_FixVariable.calls kj79 _ _ zz zQ zR a1 zS zT zc zh zm z1 _ ?side1 ?side2 A129.out).mono ?_
               (case side1 => exact cr_ qO)
               (case side2 => exact (Kd.R_reads' qO.out).2.1)
               rintro e Dq ⟨zU, rfl, ho0, hb⟩
               refine ⟨_, rfl, ?_⟩
               have ze := Aside0.mk (Kd.R_lower (Kd.R_new' (Kd.R_new' (Kd.R_new' (Kd.R_new' ho0 (Kd.R_lt (rm_ qe))) (Kd.R_lt (rm_ qd))) (Kd.R_lt (rm_ qb))) (Kd.R_lt (rm_ qO))) (bz_ HB)); replace qe := Aside0.mk (Kd.R_elder' (rm_ qe) (Kd.R_base ho0) hb); replace qd := Aside0.mk (Kd.R_elder' (rm_ qd) (Kd.R_base ho0) hb); replace qb := Aside0.mk (Kd.R_elder' (rm_ qb) (Kd.R_base ho0) hb); replace qO := Aside0.mk (Kd.R_elder' (rm_ qO) (Kd.R_base ho0) hb); replace qa := kB_ qa hb; replace qc := kB_ qc hb; replace qg := kB_ qg hb; replace qh := kB_ qh hb; replace qf := kB_ qf hb; replace HB := bS_ HB hb; (try clear hb); (try clear hb2); (try clear hk); (try clear hi); (try clear ho0)
               refine hK.out _ _ ⟨bc_ qa 0, bc_ qa 1, bc_ qa 2, bc_ qc 0, bc_ qc 1⟩ (fun hHeld => ?_)
               clear hK K
               refine norm_ (a' := ?_) ?_ ?_
               rotate_left
               ·
                show Act.put _ (some 89) _ = _
                simp only [Act.put, List.setIfInBounds_toArray, List.set_cons_zero, List.set_cons_succ, i64_w, i32_w]
                rfl
               refine pure_ (i := 6) (N := some 83) (v := ?_) (a' := ?_) #[true, true, true, true, true, true, true, false, false, false, false, false] rfl rfl (any_of HT_.out (by kernel_rfl)) (fun _ _ _ h => h) (Or.inl ⟨by rfl, ?_⟩) ?_ ?_
               rotate_left
               ·
                intro w'
                go_simp
                with_reducible rfl
               rotate_left
               ·
                simp only [Act.put, List.setIfInBounds_toArray, List.set_cons_zero, List.set_cons_succ, i64_w, i32_w]
                rfl
               refine pure_ (i := 7) (N := some 90) (v := ?_) (a' := ?_) #[true, true, true, true, true, true, true, true, false, false, false, false] rfl rfl (any_of HT_.out (by kernel_rfl)) (fun _ _ _ h => h) (Or.inl ⟨by rfl, ?_⟩) ?_ ?_
               rotate_left
               ·
                intro w'
                go_simp
                with_reducible rfl
               rotate_left
               ·
                simp only [Act.put, List.setIfInBounds_toArray, List.set_cons_zero, List.set_cons_succ, i64_w, i32_w]
                rfl
               refine pure_ (i := 8) (N := some 91) (v := ?_) (a' := ?_) #[true, true, true, true, true, true, true, true, true, false, false, false] rfl rfl (any_of HT_.out (by kernel_rfl)) (fun _ _ _ h => h) (Or.inl ⟨by rfl, ?_⟩) ?_ ?_
               rotate_left
               ·
                intro w'
                go_simp
                with_reducible rfl
               rotate_left
               ·
                simp only [Act.put, List.setIfInBounds_toArray, List.set_cons_zero, List.set_cons_succ, i64_w, i32_w]
                rfl
               refine one_ (i := 9) (N := some 16) #[true, true, true, true, true, true, true, true, true, true, false, false] rfl rfl (one_of HT_.out (by kernel_rfl)) (by decide) (fun K hK => ?_)
               refine box_step ?hg (N := 16) ?hd (cs := #[.slice none 0 0, .int .i64 0, .bool false]) (t := 26) ?hr ?_; (case hd => rfl); (case hg => rfl); (case hr => first | (go_simp; done) | (go_simp; rfl))
               intro qm hg QV hbox hb
               replace qe := rB_ qe hb; replace qd := rB_ qd hb; replace qb := rB_ qb hb; replace qO := rB_ qO hb; replace ze := rB_ ze hb; have qv := Aside0.mk (hbox); have zW := Aside0.mk ((by rw [hg]; exact (bz_ HB) : w.heap.size ≤ qm)); have zX := Aside0.mk ((by rw [hg]; exact (bz_ HB) : w.heap.size ≤ qm)); replace HB := bS_ HB hb; have qJ := Aside0.mk ((nl_ qa hg : qo ≠ qm)); have q2 := Aside0.mk ((ng_ qa hg : qm ≠ qo)); replace qa := kB_ qa hb; have qT := Aside0.mk ((nl_ qc hg : qs ≠ qm)); have q3 := Aside0.mk ((ng_ qc hg : qm ≠ qs)); replace qc := kB_ qc hb; have q4 := Aside0.mk ((nl_ qg hg : qj ≠ qm)); have q5 := Aside0.mk ((ng_ qg hg : qm ≠ qj)); replace qg := kB_ qg hb; have q6 := Aside0.mk ((nl_ qh hg : ql ≠ qm)); have q7 := Aside0.mk ((ng_ qh hg : qm ≠ ql)); replace qh := kB_ qh hb; have q0 := Aside0.mk ((nl_ qf hg : qi ≠ qm)); have q1 := Aside0.mk ((ng_ qf hg : qm ≠ qi)); replace qf := kB_ qf hb; clear hb hbox hg
               refine hK.out _ _ ⟨bc_ qa 0, bc_ qa 1, bc_ qa 2, bc_ qc 0, bc_ qc 1⟩ (fun hHeld => ?_)
               clear hK K
               refine norm_ (a' := ?_) ?_ ?_
               rotate_left
               ·
                show Act.put _ (some 16) _ = _
                simp only [Act.put, List.setIfInBounds_toArray, List.set_cons_zero, List.set_cons_succ, i64_w, i32_w]
                rfl
               exact norm_ (by simp only [putAll, Act.put, List.setIfInBounds_toArray, List.set_cons_zero, List.set_cons_succ]) (hCont (.slice QM zz.length QN, zU, qm) _ ⟨hHeld, (by (with_reducible repeat (first | apply Kd.R_alloc | apply Kd.R_drewN | apply Kd.R_drew)); exact Kd.R_mono qO.out (fun _ hk => ⟨hk.2, ⟨hk.1.1.1.2, ⟨hk.1.1.2, hk.1.2⟩⟩⟩)), (by (with_reducible repeat (first | apply Kd.R_alloc | apply Kd.R_drewN | apply Kd.R_drew)); exact Kd.R_mono ze.out (fun _ hk => ⟨hk.2, ⟨hk.1.1.1.2, ⟨hk.1.1.2, hk.1.2⟩⟩⟩)), (by (with_reducible repeat (first | apply Kd.R_alloc | apply Kd.R_drewN | apply Kd.R_drew)); exact Kd.R_mono qe.out (fun _ hk => ⟨hk.1.2, ⟨hk.2, ⟨hk.1.1.1, hk.1.1.2⟩⟩⟩)), (by (with_reducible repeat (first | apply Kd.R_alloc | apply Kd.R_drewN | apply Kd.R_drew)); exact Kd.R_mono qd.out (fun _ hk => ⟨hk.1.2, ⟨hk.2, ⟨hk.1.1.1, hk.1.1.2⟩⟩⟩)), (by (with_reducible repeat (first | apply Kd.R_alloc | apply Kd.R_drewN | apply Kd.R_drew)); exact Kd.R_mono qb.out (fun _ hk => ⟨hk.1.2, ⟨hk.2, ⟨hk.1.1.1, hk.1.1.2⟩⟩⟩)), (kf_ qa), (kf_ qc), (kf_ qg), (kf_ qh), (kf_ qf), (kf_ qv), zW.out, zX.out, qJ.out, q2.out, qT.out, q3.out, q4.out, q5.out, q6.out, q7.out, q0.out, q1.out, (bb_ HB)⟩)
              ·
               skip
               refine box_step ?hg (N := 16) ?hd (cs := #[.slice none 0 0, .int .i64 0, .bool false]) (t := 26) ?hr ?_; (case hd => rfl); (case hg => rfl); (case hr => first | (go_simp; done) | (go_simp; rfl))
               intro qm hg Zt hbox hb
               replace qe := rB_ qe hb; replace qd := rB_ qd hb; replace qb := rB_ qb hb; replace qO := rB_ qO hb; have qv := Aside0.mk (hbox); have zW := Aside0.mk ((by rw [hg]; exact (bz_ HB) : w.heap.size ≤ qm)); have zX := Aside0.mk ((by rw [hg]; exact (bz_ HB) : w.heap.size ≤ qm)); replace HB := bS_ HB hb; have qJ := Aside0.mk ((nl_ qa hg : qo ≠ qm)); have q2 := Aside0.mk ((ng_ qa hg : qm ≠ qo)); replace qa := kB_ qa hb; have qT := Aside0.mk ((nl_ qc hg : qs ≠ qm)); have q3 := Aside0.mk ((ng_ qc hg : qm ≠ qs)); replace qc := kB_ qc hb; have q4 := Aside0.mk ((nl_ qg hg : qj ≠ qm)); have q5 := Aside0.mk ((ng_ qg hg : qm ≠ qj)); replace qg := kB_ qg hb; have q6 := Aside0.mk ((nl_ qh hg : ql ≠ qm)); have q7 := Aside0.mk ((ng_ qh hg : qm ≠ ql)); replace qh := kB_ qh hb; have q0 := Aside0.mk ((nl_ qf hg : qi ≠ qm)); have q1 := Aside0.mk ((ng_ qf hg : qm ≠ qi)); replace qf := kB_ qf hb; clear hb hbox hg
               obtain ⟨zY, zZ, eo143⟩ := Kd.R_slice qO.out
               (first | subst eo143 | (injection eo143 with f1_ f2_ f3_; have f4_ := f1_.symm; have f5_ := f3_.symm; clear f1_ f2_ f3_; subst f4_; subst f5_))
               refine hK.out _ _ ⟨bc_ qa 0, bc_ qa 1, bc_ qa 2, bc_ qc 0, bc_ qc 1⟩ (fun hHeld => ?_)
               clear hK K
               refine norm_ (a' := ?_) ?_ ?_
               rotate_left
               ·
                show Act.put _ (some 16) _ = _
                simp only [Act.put, List.setIfInBounds_toArray, List.set_cons_zero, List.set_cons_succ, i64_w, i32_w]
                rfl
               refine one_ (i := 5) (N := some 89) #[true, true, true, true, true, true, false, false, false, true, false, false] rfl rfl (one_of HT_.out (by kernel_rfl)) (by decide) (fun K hK => ?_)
               refine goes_ Try.func36 (by kernel_rfl) rfl #[.agg #[.slice zY zz.length zZ, .int .i64 zQ, .bool zR], .int .i64 a1, .agg #[.int .i64 zS, .int .i64 zT]] (by rfl) rfl rfl (by (try simp only [List.map_toArray, List.map_cons, List.map_nil]); first | done | rfl | (simp only [List.length_drop, List.length_take]; rfl)) ?_
               with_reducible refine (impl_FixVariable.calls kj79 _ _ zz zQ zR a1 zS zT zc zh zm z1 _ ?side1 ?side2 A129.out).mono ?_
               (case side1 => exact cr_ qO)
               (case side2 => exact (Kd.R_reads' qO.out).2.1)
               rintro e QV ⟨zU, rfl, ho0, hb⟩
               refine ⟨_, rfl, ?_⟩
               have ze := Aside0.mk (Kd.R_lower (Kd.R_new' (Kd.R_new' (Kd.R_new' (Kd.R_new' ho0 (Kd.R_lt (rm_ qe))) (Kd.R_lt (rm_ qd))) (Kd.R_lt (rm_ qb))) (Kd.R_lt (rm_ qO))) (bz_ HB)); replace qe := Aside0.mk (Kd.R_elder' (rm_ qe) (Kd.R_base ho0) hb); replace qd := Aside0.mk (Kd.R_elder' (rm_ qd) (Kd.R_base ho0) hb); replace qb := Aside0.mk (Kd.R_elder' (rm_ qb) (Kd.R_base ho0) hb); replace qO := Aside0.mk (Kd.R_elder' (rm_ qO) (Kd.R_base ho0) hb); replace qa := kB_ qa hb; replace qc := kB_ qc hb; replace qg := kB_ qg hb; replace qh := kB_ qh hb; replace qf := kB_ qf hb; replace qv := kB_ qv hb; replace HB := bS_ HB hb; (try clear hb); (try clear hb2); (try clear hk); (try clear hi); (try clear ho0)
               refine hK.out _ _ ⟨bc_ qa 0, bc_ qa 1, bc_ qa 2, bc_ qc 0, bc_ qc 1⟩ (fun hHeld => ?_)
               clear hK K
               refine norm_ (a' := ?_) ?_ ?_
               rotate_left
               ·
                show Act.put _ (some 89) _ = _
                simp only [Act.put, List.setIfInBounds_toArray, List.set_cons_zero, List.set_cons_succ, i64_w, i32_w]
                rfl
               refine pure_ (i := 6) (N := some 83) (v := ?_) (a' := ?_) #[true, true, true, true, true, true, true, false, false, true, false, false] rfl rfl (any_of HT_.out (by kernel_rfl)) (fun _ _ _ h => h) (Or.inl ⟨by rfl, ?_⟩) ?_ ?_
               rotate_left
               ·
                intro w'
                go_simp
                with_reducible rfl
               rotate_left
               ·
                simp only [Act.put, List.setIfInBounds_toArray, List.set_cons_zero, List.set_cons_succ, i64_w, i32_w]
                rfl
               refine pure_ (i := 7) (N := some 90) (v := ?_) (a' := ?_) #[true, true, true, true, true, true, true, true, false, true, false, false] rfl rfl (any_of HT_.out (by kernel_rfl)) (fun _ _ _ h => h) (Or.inl ⟨by rfl, ?_⟩) ?_ ?_
               rotate_left
               ·
                intro w'
                go_simp
                with_reducible rfl
               rotate_left
               ·
                simp only [Act.put, List.setIfInBounds_toArray, List.set_cons_zero, List.set_cons_succ, i64_w, i32_w]
                rfl
               refine pure_ (i := 8) (N := some 91) (v := ?_) (a' := ?_) #[true, true, true, true, true, true, true, true, true, true, false, false] rfl rfl (any_of HT_.out (by kernel_rfl)) (fun _ _ _ h => h) (Or.inl ⟨by rfl, ?_⟩) ?_ ?_
               rotate_left
               ·
                intro w'
                go_simp
                with_reducible rfl
               rotate_left
               ·
                simp only [Act.put, List.setIfInBounds_toArray, List.set_cons_zero, List.set_cons_succ, i64_w, i32_w]
                rfl
               exact norm_ (by simp only [putAll, Act.put, List.setIfInBounds_toArray, List.set_cons_zero, List.set_cons_succ]) (hCont (.slice zY zz.length zZ, zU, qm) _ ⟨hHeld, (by (with_reducible repeat (first | apply Kd.R_alloc | apply Kd.R_drewN | apply Kd.R_drew)); exact Kd.R_mono qO.out (fun _ hk => ⟨hk.2, ⟨hk.1.1.1.2, ⟨hk.1.1.2, hk.1.2⟩⟩⟩)), (by (with_reducible repeat (first | apply Kd.R_alloc | apply Kd.R_drewN | apply Kd.R_drew)); exact Kd.R_mono ze.out (fun _ hk => ⟨hk.2, ⟨hk.1.1.1.2, ⟨hk.1.1.2, hk.1.2⟩⟩⟩)), (by (with_reducible repeat (first | apply Kd.R_alloc | apply Kd.R_drewN | apply Kd.R_drew)); exact Kd.R_mono qe.out (fun _ hk => ⟨hk.1.2, ⟨hk.2, ⟨hk.1.1.1, hk.1.1.2⟩⟩⟩)), (by (with_reducible repeat (first | apply Kd.R_alloc | apply Kd.R_drewN | apply Kd.R_drew)); exact Kd.R_mono qd.out (fun _ hk => ⟨hk.1.2, ⟨hk.2, ⟨hk.1.1.1, hk.1.1.2⟩⟩⟩)), (by (with_reducible repeat (first | apply Kd.R_alloc | apply Kd.R_drewN | apply Kd.R_drew)); exact Kd.R_mono qb.out (fun _ hk => ⟨hk.1.2, ⟨hk.2, ⟨hk.1.1.1, hk.1.1.2⟩⟩⟩)), (kf_ qa), (kf_ qc), (kf_ qg), (kf_ qh), (kf_ qf), (kf_ qv), zW.out, zX.out, qJ.out, q2.out, qT.out, q3.out, q4.out, q5.out, q6.out, q7.out, q0.out, q1.out, (bb_ HB)⟩)
             ·
              skip
              refine box_step ?hg (N := 16) ?hd (cs := #[.slice none 0 0, .int .i64 0, .bool false]) (t := 26) ?hr ?_; (case hd => rfl); (case hg => rfl); (case hr => first | (go_simp; done) | (go_simp; rfl))
              intro qm hg Zs hbox hb
              replace qe := rB_ qe hb; replace qd := rB_ qd hb; replace qb := rB_ qb hb; replace qO := rB_ qO hb; have qv := Aside0.mk (hbox); have zW := Aside0.mk ((by rw [hg]; exact (bz_ HB) : w.heap.size ≤ qm)); have zX := Aside0.mk ((by rw [hg]; exact (bz_ HB) : w.heap.size ≤ qm)); replace HB := bS_ HB hb; have qJ := Aside0.mk ((nl_ qa hg : qo ≠ qm)); have q2 := Aside0.mk ((ng_ qa hg : qm ≠ qo)); replace qa := kB_ qa hb; have qT := Aside0.mk ((nl_ qc hg : qs ≠ qm)); have q3 := Aside0.mk ((ng_ qc hg : qm ≠ qs)); replace qc := kB_ qc hb; have q4 := Aside0.mk ((nl_ qg hg : qj ≠ qm)); have q5 := Aside0.mk ((ng_ qg hg : qm ≠ qj)); replace qg := kB_ qg hb; have q6 := Aside0.mk ((nl_ qh hg : ql ≠ qm)); have q7 := Aside0.mk ((ng_ qh hg : qm ≠ ql)); replace qh := kB_ qh hb; have q0 := Aside0.mk ((nl_ qf hg : qi ≠ qm)); have q1 := Aside0.mk ((ng_ qf hg : qm ≠ qi)); replace qf := kB_ qf hb; clear hb hbox hg
              refine hK.out _ _ ⟨bc_ qa 0, bc_ qa 1, bc_ qa 2, bc_ qc 0, bc_ qc 1⟩ (fun hHeld => ?_)
              clear hK K
              refine norm_ (a' := ?_) ?_ ?_
              rotate_left
              ·
               show Act.put _ (some 16) _ = _
               simp only [Act.put, List.setIfInBounds_toArray, List.set_cons_zero, List.set_cons_succ, i64_w, i32_w]
               rfl
              refine one_ (i := 4) (N := some 88) #[true, true, true, true, true, false, false, false, false, true, false, false] rfl rfl (one_of HT_.out (by kernel_rfl)) (by decide) (fun K hK => ?_)
              refine goes_ Try.func35 (by kernel_rfl) rfl #[.agg #[.int .i64 a2_0, .int .i64 a2_1]] (by rfl) rfl rfl (by (try simp only [List.map_toArray, List.map_cons, List.map_nil]); first | done | rfl | (simp only [List.length_drop, List.length_take]; rfl)) ?_
              with_reducible refine (laws_toRatio.calls a2_0 a2_1 zS zT _ A128.out).mono ?_
              rintro e Zt ⟨rfl, hb⟩
              refine ⟨_, rfl, ?_⟩
              replace qe := rB_ qe hb; replace qd := rB_ qd hb; replace qb := rB_ qb hb; replace qO := rB_ qO hb; replace qa := kB_ qa hb; replace qc := kB_ qc hb; replace qg := kB_ qg hb; replace qh := kB_ qh hb; replace qf := kB_ qf hb; replace qv := kB_ qv hb; replace HB := bS_ HB hb; (try clear hb); (try clear hb2); (try clear hk); (try clear hi)
              obtain ⟨zY, zZ, eo143⟩ := Kd.R_slice qO.out
              (first | subst eo143 | (injection eo143 with f1_ f2_ f3_; have f4_ := f1_.symm; have f5_ := f3_.symm; clear f1_ f2_ f3_; subst f4_; subst f5_))
              refine hK.out _ _ ⟨bc_ qa 0, bc_ qa 1, bc_ qa 2, bc_ qc 0, bc_ qc 1⟩ (fun hHeld => ?_)
              clear hK K
              refine norm_ (a' := ?_) ?_ ?_
              rotate_left
              ·
               show Act.put _ (some 88) _ = _
               simp only [Act.put, List.setIfInBounds_toArray, List.set_cons_zero, List.set_cons_succ, i64_w, i32_w]
               rfl
              refine one_ (i := 5) (N := some 89) #[true, true, true, true, true, true, false, false, false, true, false, false] rfl rfl (one_of HT_.out (by kernel_rfl)) (by decide) (fun K hK => ?_)
              refine goes_ Try.func36 (by kernel_rfl) rfl #[.agg #[.slice zY zz.length zZ, .int .i64 zQ, .bool zR], .int .i64 a1, .agg #[.int .i64 zS, .int .i64 zT]] (by rfl) rfl rfl (by (try simp only [List.map_toArray, List.map_cons, List.map_nil]); first | done | rfl | (simp only [List.length_drop, List.length_take]; rfl)) ?_
              with_reducible refine (impl_FixVariable.calls kj79 _ _ zz zQ zR a1 zS zT zc zh zm z1 _ ?side1 ?side2 A129.out).mono ?_
              (case side1 => exact cr_ qO)
              (case side2 => exact (Kd.R_reads' qO.out).2.1)
              rintro e QV ⟨zU, rfl, ho0, hb⟩
              refine ⟨_, rfl, ?_⟩
              have ze := Aside0.mk (Kd.R_lower (Kd.R_new' (Kd.R_new' (Kd.R_new' (Kd.R_new' ho0 (Kd.R_lt (rm_ qe))) (Kd.R_lt (rm_ qd))) (Kd.R_lt (rm_ qb))) (Kd.R_lt (rm_ qO))) (bz_ HB)); replace qe := Aside0.mk (Kd.R_elder' (rm_ qe) (Kd.R_base ho0) hb); replace qd := Aside0.mk (Kd.R_elder' (rm_ qd) (Kd.R_base ho0) hb); replace qb := Aside0.mk (Kd.R_elder' (rm_ qb) (Kd.R_base ho0) hb); replace qO := Aside0.mk (Kd.R_elder' (rm_ qO) (Kd.R_base ho0) hb); replace qa := kB_ qa hb; replace qc := kB_ qc hb; replace qg := kB_ qg hb; replace qh := kB_ qh hb; replace qf := kB_ qf hb; replace qv := kB_ qv hb; replace HB := bS_ HB hb; (try clear hb); (try clear hb2); (try clear hk); (try clear hi); (try clear ho0)
              refine hK.out _ _ ⟨bc_ qa 0, bc_ qa 1, bc_ qa 2, bc_ qc 0, bc_ qc 1⟩ (fun hHeld => ?_)
              clear hK K
              refine norm_ (a' := ?_) ?_ ?_
              rotate_left
              ·
               show Act.put _ (some 89) _ = _
               simp only [Act.put, List.setIfInBounds_toArray, List.set_cons_zero, List.set_cons_succ, i64_w, i32_w]
               rfl
              refine pure_ (i := 6) (N := some 83) (v := ?_) (a' := ?_) #[true, true, true, true, true, true, true, false, false, true, false, false] rfl rfl (any_of HT_.out (by kernel_rfl)) (fun _ _ _ h => h) (Or.inl ⟨by rfl, ?_⟩) ?_ ?_
              rotate_left
              ·
               intro w'
               go_simp
               with_reducible rfl
              rotate_left
              ·
               simp only [Act.put, List.setIfInBounds_toArray, List.set_cons_zero, List.set_cons_succ, i64_w, i32_w]
               rfl
              refine pure_ (i := 7) (N := some 90) (v := ?_) (a' := ?_) #[true, true, true, true, true, true, true, true, false, true, false, false] rfl rfl (any_of HT_.out (by kernel_rfl)) (fun _ _ _ h => h) (Or.inl ⟨by rfl, ?_⟩) ?_ ?_
              rotate_left
              ·
               intro w'
               go_simp
               with_reducible rfl
              rotate_left
              ·
               simp only [Act.put, List.setIfInBounds_toArray, List.set_cons_zero, List.set_cons_succ, i64_w, i32_w]
               rfl
              refine pure_ (i := 8) (N := some 91) (v := ?_) (a' := ?_) #[true, true, true, true, true, true, true, true, true, true, false, false] rfl rfl (any_of HT_.out (by kernel_rfl)) (fun _ _ _ h => h) (Or.inl ⟨by rfl, ?_⟩) ?_ ?_
              rotate_left
              ·
               intro w'
               go_simp
               with_reducible rfl
              rotate_left
              ·
               simp only [Act.put, List.setIfInBounds_toArray, List.set_cons_zero, List.set_cons_succ, i64_w, i32_w]
               rfl
              exact norm_ (by simp only [putAll, Act.put, List.setIfInBounds_toArray, List.set_cons_zero, List.set_cons_succ]) (hCont (.slice zY zz.length zZ, zU, qm) _ ⟨hHeld, (by (with_reducible repeat (first | apply Kd.R_alloc | apply Kd.R_drewN | apply Kd.R_drew)); exact Kd.R_mono qO.out (fun _ hk => ⟨hk.2, ⟨hk.1.1.1.2, ⟨hk.1.1.2, hk.1.2⟩⟩⟩)), (by (with_reducible repeat (first | apply Kd.R_alloc | apply Kd.R_drewN | apply Kd.R_drew)); exact Kd.R_mono ze.out (fun _ hk => ⟨hk.2, ⟨hk.1.1.1.2, ⟨hk.1.1.2, hk.1.2⟩⟩⟩)), (by (with_reducible repeat (first | apply Kd.R_alloc | apply Kd.R_drewN | apply Kd.R_drew)); exact Kd.R_mono qe.out (fun _ hk => ⟨hk.1.2, ⟨hk.2, ⟨hk.1.1.1, hk.1.1.2⟩⟩⟩)), (by (with_reducible repeat (first | apply Kd.R_alloc | apply Kd.R_drewN | apply Kd.R_drew)); exact Kd.R_mono qd.out (fun _ hk => ⟨hk.1.2, ⟨hk.2, ⟨hk.1.1.1, hk.1.1.2⟩⟩⟩)), (by (with_reducible repeat (first | apply Kd.R_alloc | apply Kd.R_drewN | apply Kd.R_drew)); exact Kd.R_mono qb.out (fun _ hk => ⟨hk.1.2, ⟨hk.2, ⟨hk.1.1.1, hk.1.1.2⟩⟩⟩)), (kf_ qa), (kf_ qc), (kf_ qg), (kf_ qh), (kf_ qf), (kf_ qv), zW.out, zX.out, qJ.out, q2.out, qT.out, q3.out, q4.out, q5.out, q6.out, q7.out, q0.out, q1.out, (bb_ HB)⟩)
            ·
             skip
             refine box_step ?hg (N := 16) ?hd (cs := #[.slice none 0 0, .int .i64 0, .bool false]) (t := 26) ?hr ?_; (case hd => rfl); (case hg => rfl); (case hr => first | (go_simp; done) | (go_simp; rfl))
             intro qm hg J2 hbox hb
             replace qe := rB_ qe hb; replace qd := rB_ qd hb; replace qb := rB_ qb hb; have qv := Aside0.mk (hbox); have zW := Aside0.mk ((by rw [hg]; exact (bz_ HB) : w.heap.size ≤ qm)); have zX := Aside0.mk ((by rw [hg]; exact (bz_ HB) : w.heap.size ≤ qm)); replace HB := bS_ HB hb; have qJ := Aside0.mk ((nl_ qa hg : qo ≠ qm)); have q2 := Aside0.mk ((ng_ qa hg : qm ≠ qo)); replace qa := kB_ qa hb; have qT := Aside0.mk ((nl_ qc hg : qs ≠ qm)); have q3 := Aside0.mk ((ng_ qc hg : qm ≠ qs)); replace qc := kB_ qc hb; have q4 := Aside0.mk ((nl_ qg hg : qj ≠ qm)); have q5 := Aside0.mk ((ng_ qg hg : qm ≠ qj)); replace qg := kB_ qg hb; have q6 := Aside0.mk ((nl_ qh hg : ql ≠ qm)); have q7 := Aside0.mk ((ng_ qh hg : qm ≠ ql)); replace qh := kB_ qh hb; have q0 := Aside0.mk ((nl_ qf hg : qi ≠ qm)); have q1 := Aside0.mk ((ng_ qf hg : qm ≠ qi)); replace qf := kB_ qf hb; clear hb hbox hg
             refine hK.out _ _ ⟨bc_ qa 0, bc_ qa 1, bc_ qa 2, bc_ qc 0, bc_ qc 1⟩ (fun hHeld => ?_)
             clear hK K
             refine norm_ (a' := ?_) ?_ ?_
             rotate_left
             ·
              show Act.put _ (some 16) _ = _
              simp only [Act.put, List.setIfInBounds_toArray, List.set_cons_zero, List.set_cons_succ, i64_w, i32_w]
              rfl
             refine one_ (i := 1) (N := some 85) #[true, true, true, true, false, false, false, false, false, true, false, false] rfl rfl (one_of HT_.out (by kernel_rfl)) (by decide) (fun K hK => ?_)
             refine goes_ Try.func15 (by kernel_rfl) rfl #[.agg #[.slice A0_0 l0_0.length c0_0, .int .i64 a0_1, .bool a0_2]] (by rfl) rfl rfl (by (try simp only [List.map_toArray, List.map_cons, List.map_nil]); first | done | rfl | (simp only [List.length_drop, List.length_take]; rfl)) ?_
             with_reducible refine (laws_toAtom.calls kj79 _ _ l0_0 a0_1 a0_2 zz zQ zR _ ?side1 ?side2 A127.out).mono ?_
             (case side1 => exact cb_ zH HB)
             (case side2 => exact zI.out)
             rintro e Zs ⟨z2, rfl, ho0, hb⟩
             refine ⟨_, rfl, ?_⟩
             have qO := Aside0.mk (Kd.R_lower (Kd.R_new' (Kd.R_new' (Kd.R_new' ho0 (Kd.R_lt (rm_ qe))) (Kd.R_lt (rm_ qd))) (Kd.R_lt (rm_ qb))) (bz_ HB)); replace qe := Aside0.mk (Kd.R_elder' (rm_ qe) (Kd.R_base ho0) hb); replace qd := Aside0.mk (Kd.R_elder' (rm_ qd) (Kd.R_base ho0) hb); replace qb := Aside0.mk (Kd.R_elder' (rm_ qb) (Kd.R_base ho0) hb); replace qa := kB_ qa hb; replace qc := kB_ qc hb; replace qg := kB_ qg hb; replace qh := kB_ qh hb; replace qf := kB_ qf hb; replace qv := kB_ qv hb; replace HB := bS_ HB hb; (try clear hb); (try clear hb2); (try clear hk); (try clear hi); (try clear ho0)
             refine hK.out _ _ ⟨bc_ qa 0, bc_ qa 1, bc_ qa 2, bc_ qc 0, bc_ qc 1⟩ (fun hHeld => ?_)
             clear hK K
             refine norm_ (a' := ?_) ?_ ?_
             rotate_left
             ·
              show Act.put _ (some 85) _ = _
              simp only [Act.put, List.setIfInBounds_toArray, List.set_cons_zero, List.set_cons_succ, i64_w, i32_w]
              rfl
             refine one_ (i := 4) (N := some 88) #[true, true, true, true, true, false, false, false, false, true, false, false] rfl rfl (one_of HT_.out (by kernel_rfl)) (by decide) (fun K hK => ?_)
             refine goes_ Try.func35 (by kernel_rfl) rfl #[.agg #[.int .i64 a2_0, .int .i64 a2_1]] (by rfl) rfl rfl (by (try simp only [List.map_toArray, List.map_cons, List.map_nil]); first | done | rfl | (simp only [List.length_drop, List.length_take]; rfl)) ?_
             with_reducible refine (laws_toRatio.calls a2_0 a2_1 zS zT _ A128.out).mono ?_
             rintro e Zt ⟨rfl, hb⟩
             refine ⟨_, rfl, ?_⟩
             replace qe := rB_ qe hb; replace qd := rB_ qd hb; replace qb := rB_ qb hb; replace qO := rB_ qO hb; replace qa := kB_ qa hb; replace qc := kB_ qc hb; replace qg := kB_ qg hb; replace qh := kB_ qh hb; replace qf := kB_ qf hb; replace qv := kB_ qv hb; replace HB := bS_ HB hb; (try clear hb); (try clear hb2); (try clear hk); (try clear hi)
             obtain ⟨zY, zZ, eo143⟩ := Kd.R_slice qO.out
             (first | subst eo143 | (injection eo143 with f1_ f2_ f3_; have f4_ := f1_.symm; have f5_ := f3_.symm; clear f1_ f2_ f3_; subst f4_; subst f5_))
             refine hK.out _ _ ⟨bc_ qa 0, bc_ qa 1, bc_ qa 2, bc_ qc 0, bc_ qc 1⟩ (fun hHeld => ?_)
             clear hK K
             refine norm_ (a' := ?_) ?_ ?_
             rotate_left
             ·
              show Act.put _ (some 88) _ = _
              simp only [Act.put, List.setIfInBounds_toArray, List.set_cons_zero, List.set_cons_succ, i64_w, i32_w]
              rfl
             refine one_ (i := 5) (N := some 89) #[true, true, true, true, true, true, false, false, false, true, false, false] rfl rfl (one_of HT_.out (by kernel_rfl)) (by decide) (fun K hK => ?_)
             refine goes_ Try.func36 (by kernel_rfl) rfl #[.agg #[.slice zY zz.length zZ, .int .i64 zQ, .bool zR], .int .i64 a1, .agg #[.int .i64 zS, .int .i64 zT]] (by rfl) rfl rfl (by (try simp only [List.map_toArray, List.map_cons, List.map_nil]); first | done | rfl | (simp only [List.length_drop, List.length_take]; rfl)) ?_
             with_reducible refine (impl_FixVariable.calls kj79 _ _ zz zQ zR a1 zS zT zc zh zm z1 _ ?side1 ?side2 A129.out).mono ?_
             (case side1 => exact cr_ qO)
             (case side2 => exact (Kd.R_reads' qO.out).2.1)
             rintro e QV ⟨zU, rfl, ho0, hb⟩
             refine ⟨_, rfl, ?_⟩
             have ze := Aside0.mk (Kd.R_lower (Kd.R_new' (Kd.R_new' (Kd.R_new' (Kd.R_new' ho0 (Kd.R_lt (rm_ qe))) (Kd.R_lt (rm_ qd))) (Kd.R_lt (rm_ qb))) (Kd.R_lt (rm_ qO))) (bz_ HB)); replace qe := Aside0.mk (Kd.R_elder' (rm_ qe) (Kd.R_base ho0) hb); replace qd := Aside0.mk (Kd.R_elder' (rm_ qd) (Kd.R_base ho0) hb); replace qb := Aside0.mk (Kd.R_elder' (rm_ qb) (Kd.R_base ho0) hb); replace qO := Aside0.mk (Kd.R_elder' (rm_ qO) (Kd.R_base ho0) hb); replace qa := kB_ qa hb; replace qc := kB_ qc hb; replace qg := kB_ qg hb; replace qh := kB_ qh hb; replace qf := kB_ qf hb; replace qv := kB_ qv hb; replace HB := bS_ HB hb; (try clear hb); (try clear hb2); (try clear hk); (try clear hi); (try clear ho0)
             refine hK.out _ _ ⟨bc_ qa 0, bc_ qa 1, bc_ qa 2, bc_ qc 0, bc_ qc 1⟩ (fun hHeld => ?_)
             clear hK K
             refine norm_ (a' := ?_) ?_ ?_
             rotate_left
             ·
              show Act.put _ (some 89) _ = _
              simp only [Act.put, List.setIfInBounds_toArray, List.set_cons_zero, List.set_cons_succ, i64_w, i32_w]
              rfl
             refine pure_ (i := 6) (N := some 83) (v := ?_) (a' := ?_) #[true, true, true, true, true, true, true, false, false, true, false, false] rfl rfl (any_of HT_.out (by kernel_rfl)) (fun _ _ _ h => h) (Or.inl ⟨by rfl, ?_⟩) ?_ ?_
             rotate_left
             ·
              intro w'
              go_simp
              with_reducible rfl
             rotate_left
             ·
              simp only [Act.put, List.setIfInBounds_toArray, List.set_cons_zero, List.set_cons_succ, i64_w, i32_w]
              rfl
             refine pure_ (i := 7) (N := some 90) (v := ?_) (a' := ?_) #[true, true, true, true, true, true, true, true, false, true, false, false] rfl rfl (any_of HT_.out (by kernel_rfl)) (fun _ _ _ h => h) (Or.inl ⟨by rfl, ?_⟩) ?_ ?_
             rotate_left
             ·
              intro w'
              go_simp
              with_reducible rfl
             rotate_left
             ·
              simp only [Act.put, List.setIfInBounds_toArray, List.set_cons_zero, List.set_cons_succ, i64_w, i32_w]
              rfl
             refine pure_ (i := 8) (N := some 91) (v := ?_) (a' := ?_) #[true, true, true, true, true, true, true, true, true, true, false, false] rfl rfl (any_of HT_.out (by kernel_rfl)) (fun _ _ _ h => h) (Or.inl ⟨by rfl, ?_⟩) ?_ ?_
             rotate_left
             ·
              intro w'
              go_simp
              with_reducible rfl
             rotate_left
             ·
              simp only [Act.put, List.setIfInBounds_toArray, List.set_cons_zero, List.set_cons_succ, i64_w, i32_w]
              rfl
             exact norm_ (by simp only [putAll, Act.put, List.setIfInBounds_toArray, List.set_cons_zero, List.set_cons_succ]) (hCont (.slice zY zz.length zZ, zU, qm) _ ⟨hHeld, (by (with_reducible repeat (first | apply Kd.R_alloc | apply Kd.R_drewN | apply Kd.R_drew)); exact Kd.R_mono qO.out (fun _ hk => ⟨hk.2, ⟨hk.1.1.1.2, ⟨hk.1.1.2, hk.1.2⟩⟩⟩)), (by (with_reducible repeat (first | apply Kd.R_alloc | apply Kd.R_drewN | apply Kd.R_drew)); exact Kd.R_mono ze.out (fun _ hk => ⟨hk.2, ⟨hk.1.1.1.2, ⟨hk.1.1.2, hk.1.2⟩⟩⟩)), (by (with_reducible repeat (first | apply Kd.R_alloc | apply Kd.R_drewN | apply Kd.R_drew)); exact Kd.R_mono qe.out (fun _ hk => ⟨hk.1.2, ⟨hk.2, ⟨hk.1.1.1, hk.1.1.2⟩⟩⟩)), (by (with_reducible repeat (first | apply Kd.R_alloc | apply Kd.R_drewN | apply Kd.R_drew)); exact Kd.R_mono qd.out (fun _ hk => ⟨hk.1.2, ⟨hk.2, ⟨hk.1.1.1, hk.1.1.2⟩⟩⟩)), (by (with_reducible repeat (first | apply Kd.R_alloc | apply Kd.R_drewN | apply Kd.R_drew)); exact Kd.R_mono qb.out (fun _ hk => ⟨hk.1.2, ⟨hk.2, ⟨hk.1.1.1, hk.1.1.2⟩⟩⟩)), (kf_ qa), (kf_ qc), (kf_ qg), (kf_ qh), (kf_ qf), (kf_ qv), zW.out, zX.out, qJ.out, q2.out, qT.out, q3.out, q4.out, q5.out, q6.out, q7.out, q0.out, q1.out, (bb_ HB)⟩)
           rintro ⟨z2, zU, qm⟩ zf ⟨hS_, h0_, h1_, h2_, h3_, h4_, h5_, h6_, h7_, h8_, h9_, h10_, h11_, h12_, h13_, h14_, h15_, h16_, h17_, h18_, h19_, h20_, h21_, h22_, h23_⟩
           have n0_ : Aside0 (Kd.R (Kd.int .i64) 3 zf w.heap.size (fun k_ => some k_ ≠ (zU : Value).ownBlock ∧ some k_ ≠ (.slice qP qn.length qM : Value).ownBlock ∧ some k_ ≠ (.slice qF zg.length qG : Value).ownBlock ∧ some k_ ≠ (.slice qE qp.length qC : Value).ownBlock) z2 zz) := ⟨h0_⟩
           have n1_ : Aside0 (Kd.R (Kd.int .i64) 3 zf w.heap.size (fun k_ => some k_ ≠ (z2 : Value).ownBlock ∧ some k_ ≠ (.slice qP qn.length qM : Value).ownBlock ∧ some k_ ≠ (.slice qF zg.length qG : Value).ownBlock ∧ some k_ ≠ (.slice qE qp.length qC : Value).ownBlock) zU zc) := ⟨h1_⟩
           have n2_ : Aside0 (Kd.R (Kd.int .i64) 3 zf w.heap.size (fun k_ => some k_ ≠ (z2 : Value).ownBlock ∧ some k_ ≠ (zU : Value).ownBlock ∧ some k_ ≠ (.slice qF zg.length qG : Value).ownBlock ∧ some k_ ≠ (.slice qE qp.length qC : Value).ownBlock) (.slice qP qn.length qM) qn) := ⟨h2_⟩
           have n3_ : Aside0 (Kd.R (Kd.int .i64) 3 zf w.heap.size (fun k_ => some k_ ≠ (z2 : Value).ownBlock ∧ some k_ ≠ (zU : Value).ownBlock ∧ some k_ ≠ (.slice qP qn.length qM : Value).ownBlock ∧ some k_ ≠ (.slice qE qp.length qC : Value).ownBlock) (.slice qF zg.length qG) zg) := ⟨h3_⟩
           have n4_ : Aside0 (Kd.R (Kd.int .i64) 3 zf w.heap.size (fun k_ => some k_ ≠ (z2 : Value).ownBlock ∧ some k_ ≠ (zU : Value).ownBlock ∧ some k_ ≠ (.slice qP qn.length qM : Value).ownBlock ∧ some k_ ≠ (.slice qF zg.length qG : Value).ownBlock) (.slice qE qp.length qC) za) := ⟨h4_⟩
           have n5_ : Aside0 (zf.heap[qo]? = some (.cells #[.slice A0_0 l0_0.length c0_0, .int .i64 a0_1, .bool a0_2] 24 (0, 0))) := ⟨h5_⟩
           have n6_ : Aside0 (zf.heap[qs]? = some (.cells #[.int .i64 a2_0, .int .i64 a2_1] 54 (0, 0))) := ⟨h6_⟩
           have n7_ : Aside0 (zf.heap[qj]? = some (.cells #[.slice qP qn.length qM, .int .i64 qA, .bool qD] 26 (0, 0))) := ⟨h7_⟩
           have n8_ : Aside0 (zf.heap[ql]? = some (.cells #[.slice qF zg.length qG, .int .i64 qX, .bool qY] 26 (0, 0))) := ⟨h8_⟩
           have n9_ : Aside0 (zf.heap[qi]? = some (.cells #[.slice qE qp.length qC, .int .i64 qr, .bool qt] 26 (0, 0))) := ⟨h9_⟩
           have n10_ : Aside0 (zf.heap[qm]? = some (.cells #[.slice none 0 0, .int .i64 0, .bool false] 26 (0, 0))) := ⟨h10_⟩
           have n11_ : Aside0 (w.heap.size ≤ qm) := ⟨h11_⟩
           have n12_ : Aside0 (w.heap.size ≤ qm) := ⟨h12_⟩
           have n13_ : Aside0 (qo ≠ qm) := ⟨h13_⟩
           have n14_ : Aside0 (qm ≠ qo) := ⟨h14_⟩
           have n15_ : Aside0 (qs ≠ qm) := ⟨h15_⟩
           have n16_ : Aside0 (qm ≠ qs) := ⟨h16_⟩
           have n17_ : Aside0 (qj ≠ qm) := ⟨h17_⟩
           have n18_ : Aside0 (qm ≠ qj) := ⟨h18_⟩
           have n19_ : Aside0 (ql ≠ qm) := ⟨h19_⟩
           have n20_ : Aside0 (qm ≠ ql) := ⟨h20_⟩
           have n21_ : Aside0 (qi ≠ qm) := ⟨h21_⟩
           have n22_ : Aside0 (qm ≠ qi) := ⟨h22_⟩
           have n23_ : Aside0 (Below w.heap.size w zf) := ⟨h23_⟩
           clear qe
           clear qd
           clear qb
           clear qa
           clear qc
           clear qg
           clear qh
           clear qf
           clear HB
           clear h0_ h1_ h2_ h3_ h4_ h5_ h6_ h7_ h8_ h9_ h10_ h11_ h12_ h13_ h14_ h15_ h16_ h17_ h18_ h19_ h20_ h21_ h22_ h23_
           have qO := n0_
           have ze := n1_
           have qe := n2_
           have qd := n3_
           have qb := n4_
           have qa := n5_
           have qc := n6_
           have qg := n7_
           have qh := n8_
           have qf := n9_
           have qv := n10_
           have zW := n11_
           have zX := n12_
           have qJ := n13_
           have q2 := n14_
           have qT := n15_
           have q3 := n16_
           have q4 := n17_
           have q5 := n18_
           have q6 := n19_
           have q7 := n20_
           have q0 := n21_
           have q1 := n22_
           have HB := n23_
           clear n0_ n1_ n2_ n3_ n4_ n5_ n6_ n7_ n8_ n9_ n10_ n11_ n12_ n13_ n14_ n15_ n16_ n17_ n18_ n19_ n20_ n21_ n22_ n23_
           have hHeld : zf.cell? ⟨qo, 0, none⟩ = some (.slice A0_0 l0_0.length c0_0) ∧ zf.cell? ⟨qo, 1, none⟩ = some (.int .i64 a0_1) ∧ zf.cell? ⟨qo, 2, none⟩ = some (.bool a0_2) ∧ zf.cell? ⟨qs, 0, none⟩ = some (.int .i64 a2_0) ∧ zf.cell? ⟨qs, 1, none⟩ = some (.int .i64 a2_1) := hS_
           obtain ⟨zb, q8, eo146⟩ := Kd.R_slice ze.out
           (first | subst eo146 | (injection eo146 with f1_ f2_ f3_; have f4_ := f1_.symm; have f5_ := f3_.symm; clear f1_ f2_ f3_; subst f4_; subst f5_))
           refine norm_ (a' := ?_) ?_ ?_
           rotate_left
           ·
            simp only [putAll, Act.put, List.setIfInBounds_toArray, List.set_cons_zero, List.set_cons_succ]
            rfl
           refine one_ (i := 10) (N := none) #[true, true, true, true, true, true, true, true, true, true, true, false] rfl rfl (one_of HT_.out (by kernel_rfl)) (by decide) (fun K hK => ?_)
           have hs147 : zf.cell? ⟨qm, 0, none⟩ = some (.slice none 0 0) := bc_ qv 0
           have hfs147 := blk_frozen qv.out 0
           have hns147_0 := qJ.out
           have hns147_1 := qT.out
           have hns147_2 := q4.out
           have hns147_3 := q6.out
           have hns147_4 := q0.out
           have hms147_0 := q2.out
           have hms147_1 := q3.out
           have hms147_2 := q5.out
           have hms147_3 := q7.out
           have hms147_4 := q1.out
           have hs148 : zf.cell? ⟨qm, 1, none⟩ = some (.int .i64 0) := bc_ qv 1
           have hfs148 := blk_frozen qv.out 1
           have hns148_0 := qJ.out
           have hns148_1 := qT.out
           have hns148_2 := q4.out
           have hns148_3 := q6.out
           have hns148_4 := q0.out
           have hms148_0 := q2.out
           have hms148_1 := q3.out
           have hms148_2 := q5.out
           have hms148_3 := q7.out
           have hms148_4 := q1.out
           have hs149 : zf.cell? ⟨qm, 2, none⟩ = some (.bool false) := bc_ qv 2
           have hfs149 := blk_frozen qv.out 2
           have hns149_0 := qJ.out
           have hns149_1 := qT.out
           have hns149_2 := q4.out
           have hns149_3 := q6.out
           have hns149_4 := q0.out
           have hms149_0 := q2.out
           have hms149_1 := q3.out
           have hms149_2 := q5.out
           have hms149_3 := q7.out
           have hms149_4 := q1.out
           refine skip_ (w1 := ?_) (by rfl) rfl ?_ ?_
           rotate_left
           ·
            go_simp
            rfl
           refine hK.out _ _ ⟨((cell_far (p := ⟨qm, _, none⟩) qJ.out _).trans (((cell_far (p := ⟨qm, _, none⟩) qJ.out _).trans (((cell_far (p := ⟨qm, _, none⟩) qJ.out _).trans (hHeld.1)))))), ((cell_far (p := ⟨qm, _, none⟩) qJ.out _).trans (((cell_far (p := ⟨qm, _, none⟩) qJ.out _).trans (((cell_far (p := ⟨qm, _, none⟩) qJ.out _).trans (hHeld.2.1)))))), ((cell_far (p := ⟨qm, _, none⟩) qJ.out _).trans (((cell_far (p := ⟨qm, _, none⟩) qJ.out _).trans (((cell_far (p := ⟨qm, _, none⟩) qJ.out _).trans (hHeld.2.2.1)))))), ((cell_far (p := ⟨qm, _, none⟩) qT.out _).trans (((cell_far (p := ⟨qm, _, none⟩) qT.out _).trans (((cell_far (p := ⟨qm, _, none⟩) qT.out _).trans (hHeld.2.2.2.1)))))), ((cell_far (p := ⟨qm, _, none⟩) qT.out _).trans (((cell_far (p := ⟨qm, _, none⟩) qT.out _).trans (((cell_far (p := ⟨qm, _, none⟩) qT.out _).trans (hHeld.2.2.2.2))))))⟩ (fun hHeld => ?_)
           clear hK K
           refine pure_ (i := 11) (N := some 17) (v := ?_) (a' := ?_) #[true, true, true, true, true, true, true, true, true, true, true, true] rfl rfl (any_of HT_.out (by kernel_rfl)) (fun _ _ _ h => h) (Or.inl ⟨by rfl, ?_⟩) ?_ ?_
           rotate_left
           ·
            intro w'
            go_simp
            with_reducible rfl
           rotate_left
           ·
            simp only [Act.put, List.setIfInBounds_toArray, List.set_cons_zero, List.set_cons_succ, i64_w, i32_w]
            rfl
           refine done_ (done_of HT_.out (by kernel_rfl)) ?_
           go_upto_region 25 with (fail)
           go_cut [100] (fun J3 wc => ∃ (kq : Nat) (zJ : Bool), J3 = .bool zJ ∧ Aside0 (laws_FnExactFixVariable.j2 kq zd zJ za qr qt = some r) ∧ Aside0 (kq ≤ kj79) ∧ Aside0 (Kd.R (Kd.int .i64) 3 wc w.heap.size (fun k_ => some k_ ≠ ((.slice qF zg.length qG) : Value).ownBlock ∧ some k_ ≠ ((.slice qE qp.length qC) : Value).ownBlock ∧ some k_ ≠ ((.slice zb zc.length q8) : Value).ownBlock) (.slice qP qn.length qM) qn) ∧ Aside0 (Kd.R (Kd.int .i64) 3 wc w.heap.size (fun k_ => some k_ ≠ ((.slice qP qn.length qM) : Value).ownBlock ∧ some k_ ≠ ((.slice qE qp.length qC) : Value).ownBlock ∧ some k_ ≠ ((.slice zb zc.length q8) : Value).ownBlock) (.slice qF zg.length qG) zg) ∧ Aside0 (Kd.R (Kd.int .i64) 3 wc w.heap.size (fun k_ => some k_ ≠ ((.slice qP qn.length qM) : Value).ownBlock ∧ some k_ ≠ ((.slice qF zg.length qG) : Value).ownBlock ∧ some k_ ≠ ((.slice zb zc.length q8) : Value).ownBlock) (.slice qE qp.length qC) za) ∧ Aside0 (Kd.R (Kd.int .i64) 3 wc w.heap.size (fun k_ => some k_ ≠ ((.slice qP qn.length qM) : Value).ownBlock ∧ some k_ ≠ ((.slice qF zg.length qG) : Value).ownBlock ∧ some k_ ≠ ((.slice qE qp.length qC) : Value).ownBlock) (.slice zb zc.length q8) zc) ∧ Aside0 (wc.heap[qo]? = some (.cells #[(.slice A0_0 l0_0.length c0_0), .int .i64 a0_1, .bool a0_2] 24 (0, 0))) ∧ Aside0 (wc.heap[qs]? = some (.cells #[.int .i64 a2_0, .int .i64 a2_1] 54 (0, 0))) ∧ Aside0 (wc.heap[qj]? = some (.cells #[(.slice qP qn.length qM), .int .i64 qA, .bool qD] 26 (0, 0))) ∧ Aside0 (wc.heap[ql]? = some (.cells #[(.slice qF zg.length qG), .int .i64 qX, .bool qY] 26 (0, 0))) ∧ Aside0 (wc.heap[qi]? = some (.cells #[(.slice qE qp.length qC), .int .i64 qr, .bool qt] 26 (0, 0))) ∧ Aside0 (wc.heap[qm]? = some (.cells #[(.slice zb zc.length q8), .int .i64 zh, .bool zm] 26 (0, 0))) ∧ Aside0 (Below w.heap.size w wc))
           case first =>
            have H := HC130.out
            clear HC130
            replace H := Option.bind_eq_some_iff.mp H
            obtain ⟨zC, A1500, H⟩ := H
            replace H : (if zC = true then (laws_FnExactFixVariable.j2 kj79 zd (z1 != qW) za qr qt) else (laws_FnExactFixVariable.j2 kj79 zd true za qr qt)) = some r := H
            have A150 := Aside0.mk A1500
            clear A1500
            by_cases c151 : zC = true
            ·
             subst c151
             have H1 : (laws_FnExactFixVariable.j2 kj79 zd (z1 != qW) za qr qt) = some r := by rw [if_pos rfl] at H; exact H
             clear H
             have H := H1
             clear H1
             have H' := Aside0.mk H
             clear H
             have J4 := q2.out
             have J5 := qJ.out
             have J6 := q3.out
             have J7 := qT.out
             have J8 := q5.out
             have J9 := q4.out
             have Xa := q7.out
             have Xb := q6.out
             have Xc := q1.out
             have Xd := q0.out
             have Qc : zf.cell? ⟨qm, 0, none⟩ = some (.slice none 0 0) := bc_ qv 0
             have Qd : zf.cell? ⟨qm, 1, none⟩ = some (.int .i64 0) := bc_ qv 1
             have Qe : zf.cell? ⟨qm, 2, none⟩ = some (.bool false) := bc_ qv 2
             have Qf := blk_frozen qv.out 0
             have Qg := blk_frozen qv.out 1
             have Qh := blk_frozen qv.out 2
             have Xe := qV.out
             have Xf := qw.out
             have Xg := qZ.out
             have Xh := qI.out
             have Xi := zj.out
             have Xj := zk.out
             have Xk := qK.out
             have Xl := qL.out
             have Qi : zf.cell? ⟨qj, 0, none⟩ = some (.slice qP qn.length qM) := bc_ qg 0
             have Qj : zf.cell? ⟨qj, 1, none⟩ = some (.int .i64 qA) := bc_ qg 1
             have Qk : zf.cell? ⟨qj, 2, none⟩ = some (.bool qD) := bc_ qg 2
             have Ql := blk_frozen qg.out 0
             have Qm := blk_frozen qg.out 1
             have Qn := blk_frozen qg.out 2
             go_wp2_with (first | ((with_reducible refine gate_callee (f := 17) rfl ?_); refine goesL_ (some 94) rfl rfl Try.func17 (by kernel_rfl) rfl #[.agg #[.slice zb zc.length q8, .int .i64 zh, .bool zm], .agg #[.slice qP qn.length qM, .int .i64 qA, .bool qD]] rfl (by (try simp only [List.map_toArray, List.map_cons, List.map_nil]); first | done | rfl | (simp only [List.length_drop, List.length_take]; rfl)) ?_; (with_reducible refine (laws_eqAtom.calls kj79 _ _ zc zh zm _ _ qn qA qD true _ ?side1 ?side2 ?side3 ?side4 A150.out).mono ?_); (case side1 => refine (Kd.R_reads' (e := 3) (base := w.heap.size) (ok := fun k_ => (some k_ ≠ (z2 : Value).ownBlock ∧ (some k_ ≠ (.slice qP qn.length qM : Value).ownBlock ∧ (some k_ ≠ (.slice qF zg.length qG : Value).ownBlock ∧ some k_ ≠ (.slice qE qp.length qC : Value).ownBlock)))) (n := zc.length) (c := q8) ?_).2.2; exact (by (with_reducible repeat (first | apply Kd.R_alloc | apply Kd.R_drewN | apply Kd.R_drew)); exact (rt3_ ze qv (by decide) 0 1 2 (.slice zb zc.length q8) (.int .i64 zh) (.bool zm)))); (case side2 => exact (Kd.R_reads' ze.out).2.1); (case side3 => refine (Kd.R_reads' (e := 3) (base := w.heap.size) (ok := fun k_ => (some k_ ≠ (z2 : Value).ownBlock ∧ (some k_ ≠ (.slice zb zc.length q8 : Value).ownBlock ∧ (some k_ ≠ (.slice qF zg.length qG : Value).ownBlock ∧ some k_ ≠ (.slice qE qp.length qC : Value).ownBlock)))) (n := qn.length) (c := qM) ?_).2.2; exact (by (with_reducible repeat (first | apply Kd.R_alloc | apply Kd.R_drewN | apply Kd.R_drew)); exact (rt3_ qe qv (by decide) 0 1 2 (.slice zb zc.length q8) (.int .i64 zh) (.bool zm)))); (case side4 => exact (Kd.R_reads' qe.out).2.1); rintro e Dr ⟨rfl, hb⟩; refine ⟨_, rfl, ?_⟩; replace qe := Aside0.mk (Kd.R_below (by (with_reducible repeat (first | apply Kd.R_alloc | apply Kd.R_drewN | apply Kd.R_drew)); exact (rt3_ qe qv (by decide) 0 1 2 (.slice zb zc.length q8) (.int .i64 zh) (.bool zm))) hb); replace qd := Aside0.mk (Kd.R_below (by (with_reducible repeat (first | apply Kd.R_alloc | apply Kd.R_drewN | apply Kd.R_drew)); exact (rt3_ qd qv (by decide) 0 1 2 (.slice zb zc.length q8) (.int .i64 zh) (.bool zm))) hb); replace qb := Aside0.mk (Kd.R_below (by (with_reducible repeat (first | apply Kd.R_alloc | apply Kd.R_drewN | apply Kd.R_drew)); exact (rt3_ qb qv (by decide) 0 1 2 (.slice zb zc.length q8) (.int .i64 zh) (.bool zm))) hb); replace qO := Aside0.mk (Kd.R_below (by (with_reducible repeat (first | apply Kd.R_alloc | apply Kd.R_drewN | apply Kd.R_drew)); exact (rt3_ qO qv (by decide) 0 1 2 (.slice zb zc.length q8) (.int .i64 zh) (.bool zm))) hb); replace ze := Aside0.mk (Kd.R_below (by (with_reducible repeat (first | apply Kd.R_alloc | apply Kd.R_drewN | apply Kd.R_drew)); exact (rt3_ ze qv (by decide) 0 1 2 (.slice zb zc.length q8) (.int .i64 zh) (.bool zm))) hb); replace qa := Aside0.mk (blk_below (g := qo) (o := .cells #[.slice A0_0 l0_0.length c0_0, .int .i64 a0_1, .bool a0_2] 24 (0, 0)) (kf_ qa) hb); replace qc := Aside0.mk (blk_below (g := qs) (o := .cells #[.int .i64 a2_0, .int .i64 a2_1] 54 (0, 0)) (kf_ qc) hb); replace qg := Aside0.mk (blk_below (g := qj) (o := .cells #[.slice qP qn.length qM, .int .i64 qA, .bool qD] 26 (0, 0)) (kf_ qg) hb); replace qh := Aside0.mk (blk_below (g := ql) (o := .cells #[.slice qF zg.length qG, .int .i64 qX, .bool qY] 26 (0, 0)) (kf_ qh) hb); replace qf := Aside0.mk (blk_below (g := qi) (o := .cells #[.slice qE qp.length qC, .int .i64 qr, .bool qt] 26 (0, 0)) (kf_ qf) hb); replace qv := Aside0.mk (blk_below (g := qm) (o := .cells #[.slice zb zc.length q8, .int .i64 zh, .bool zm] 26 (0, 0)) (by (with_reducible repeat (first | refine blk_drewN ?_ _ | refine blk_drew ?_ | refine blk_alloc ?_ _)); refine blk_put (cs := #[.slice zb zc.length q8, .int .i64 zh, .bool false]) ?_ 2 _ rfl; (with_reducible repeat (first | refine blk_drewN ?_ _ | refine blk_drew ?_ | refine blk_alloc ?_ _)); refine blk_put (cs := #[.slice zb zc.length q8, .int .i64 0, .bool false]) ?_ 1 _ rfl; (with_reducible repeat (first | refine blk_drewN ?_ _ | refine blk_drew ?_ | refine blk_alloc ?_ _)); refine blk_put (cs := #[.slice none 0 0, .int .i64 0, .bool false]) ?_ 0 _ rfl; (with_reducible repeat (first | refine blk_drewN ?_ _ | refine blk_drew ?_ | refine blk_alloc ?_ _)); exact qv.out) hb); replace HB := bS_ HB hb; (try clear hb); (try clear hb2); (try clear hk); (try clear hi)))
             go_meet
             case rel => exact ⟨_, ((z1 != qW)), (by first | rfl | (simp; done) | (simp [*]; done)), H', ⟨by have := HJ16.out; have := HJ79.out; first | omega | exact Nat.le_refl _⟩, ⟨by (try simp only [hl244000_79]); (with_reducible repeat (first | apply Kd.R_alloc | apply Kd.R_drewN | apply Kd.R_drew)); exact Kd.R_mono qe.out (fun _ hk => ⟨hk.2.2.1, ⟨hk.2.2.2, hk.2.1⟩⟩)⟩, ⟨by (try simp only [hl244000_79]); (with_reducible repeat (first | apply Kd.R_alloc | apply Kd.R_drewN | apply Kd.R_drew)); exact Kd.R_mono qd.out (fun _ hk => ⟨hk.2.2.1, ⟨hk.2.2.2, hk.2.1⟩⟩)⟩, ⟨by (try simp only [hl244000_79]); (with_reducible repeat (first | apply Kd.R_alloc | apply Kd.R_drewN | apply Kd.R_drew)); exact Kd.R_mono qb.out (fun _ hk => ⟨hk.2.2.1, ⟨hk.2.2.2, hk.2.1⟩⟩)⟩, ⟨by (try simp only [hl244000_79]); (with_reducible repeat (first | apply Kd.R_alloc | apply Kd.R_drewN | apply Kd.R_drew)); exact Kd.R_mono ze.out (fun _ hk => ⟨hk.2.1, ⟨hk.2.2.1, hk.2.2.2⟩⟩)⟩, ⟨by (try simp only [hl244000_79]); (with_reducible repeat (first | refine blk_drewN ?_ _ | refine blk_drew ?_ | refine blk_alloc ?_ _)); exact qa.out⟩, ⟨by (try simp only [hl244000_79]); (with_reducible repeat (first | refine blk_drewN ?_ _ | refine blk_drew ?_ | refine blk_alloc ?_ _)); exact qc.out⟩, ⟨by (try simp only [hl244000_79]); (with_reducible repeat (first | refine blk_drewN ?_ _ | refine blk_drew ?_ | refine blk_alloc ?_ _)); exact qg.out⟩, ⟨by (try simp only [hl244000_79]); (with_reducible repeat (first | refine blk_drewN ?_ _ | refine blk_drew ?_ | refine blk_alloc ?_ _)); exact qh.out⟩, ⟨by (try simp only [hl244000_79]); (with_reducible repeat (first | refine blk_drewN ?_ _ | refine blk_drew ?_ | refine blk_alloc ?_ _)); exact qf.out⟩, ⟨by (try simp only [hl244000_79]); (with_reducible repeat (first | refine blk_drewN ?_ _ | refine blk_drew ?_ | refine blk_alloc ?_ _)); exact qv.out⟩, ⟨bb_ HB⟩⟩
            ·
             replace c151 := Bool.eq_false_iff.mpr c151
             subst c151
             have H1 : (laws_FnExactFixVariable.j2 kj79 zd true za qr qt) = some r := by rw [if_neg (show ¬ (false = true) by decide)] at H; exact H
             clear H
             have H := H1
             clear H1
             have H' := Aside0.mk H
             clear H
             have Xm := q2.out
             have Xn := qJ.out
             have Xo := q3.out
             have Xp := qT.out
             have Xq := q5.out
             have Xr := q4.out
             have Xs := q7.out
             have Xt := q6.out
             have Xu := q1.out
             have Xv := q0.out
             have Qo : zf.cell? ⟨qm, 0, none⟩ = some (.slice none 0 0) := bc_ qv 0
             have Qp : zf.cell? ⟨qm, 1, none⟩ = some (.int .i64 0) := bc_ qv 1
             have Qq : zf.cell? ⟨qm, 2, none⟩ = some (.bool false) := bc_ qv 2
             have Qr := blk_frozen qv.out 0
             have Qs := blk_frozen qv.out 1
             have Qt := blk_frozen qv.out 2
             have Xw := qV.out
             have Xx := qw.out
             have Xy := qZ.out
             have Xz := qI.out
             have XA := zj.out
             have XB := zk.out
             have XC := qK.out
             have XD := qL.out
             have Qu : zf.cell? ⟨qj, 0, none⟩ = some (.slice qP qn.length qM) := bc_ qg 0
             have Qv : zf.cell? ⟨qj, 1, none⟩ = some (.int .i64 qA) := bc_ qg 1
             have Qw : zf.cell? ⟨qj, 2, none⟩ = some (.bool qD) := bc_ qg 2
             have Qx := blk_frozen qg.out 0
             have Qy := blk_frozen qg.out 1
             have Qz := blk_frozen qg.out 2
             go_wp2_with (first | ((with_reducible refine gate_callee (f := 17) rfl ?_); refine goesL_ (some 94) rfl rfl Try.func17 (by kernel_rfl) rfl #[.agg #[.slice zb zc.length q8, .int .i64 zh, .bool zm], .agg #[.slice qP qn.length qM, .int .i64 qA, .bool qD]] rfl (by (try simp only [List.map_toArray, List.map_cons, List.map_nil]); first | done | rfl | (simp only [List.length_drop, List.length_take]; rfl)) ?_; (with_reducible refine (laws_eqAtom.calls kj79 _ _ zc zh zm _ _ qn qA qD false _ ?side1 ?side2 ?side3 ?side4 A150.out).mono ?_); (case side1 => refine (Kd.R_reads' (e := 3) (base := w.heap.size) (ok := fun k_ => (some k_ ≠ (z2 : Value).ownBlock ∧ (some k_ ≠ (.slice qP qn.length qM : Value).ownBlock ∧ (some k_ ≠ (.slice qF zg.length qG : Value).ownBlock ∧ some k_ ≠ (.slice qE qp.length qC : Value).ownBlock)))) (n := zc.length) (c := q8) ?_).2.2; exact (by (with_reducible repeat (first | apply Kd.R_alloc | apply Kd.R_drewN | apply Kd.R_drew)); exact (rt3_ ze qv (by decide) 0 1 2 (.slice zb zc.length q8) (.int .i64 zh) (.bool zm)))); (case side2 => exact (Kd.R_reads' ze.out).2.1); (case side3 => refine (Kd.R_reads' (e := 3) (base := w.heap.size) (ok := fun k_ => (some k_ ≠ (z2 : Value).ownBlock ∧ (some k_ ≠ (.slice zb zc.length q8 : Value).ownBlock ∧ (some k_ ≠ (.slice qF zg.length qG : Value).ownBlock ∧ some k_ ≠ (.slice qE qp.length qC : Value).ownBlock)))) (n := qn.length) (c := qM) ?_).2.2; exact (by (with_reducible repeat (first | apply Kd.R_alloc | apply Kd.R_drewN | apply Kd.R_drew)); exact (rt3_ qe qv (by decide) 0 1 2 (.slice zb zc.length q8) (.int .i64 zh) (.bool zm)))); (case side4 => exact (Kd.R_reads' qe.out).2.1); rintro e Ds ⟨rfl, hb⟩; refine ⟨_, rfl, ?_⟩; replace qe := Aside0.mk (Kd.R_below (by (with_reducible repeat (first | apply Kd.R_alloc | apply Kd.R_drewN | apply Kd.R_drew)); exact (rt3_ qe qv (by decide) 0 1 2 (.slice zb zc.length q8) (.int .i64 zh) (.bool zm))) hb); replace qd := Aside0.mk (Kd.R_below (by (with_reducible repeat (first | apply Kd.R_alloc | apply Kd.R_drewN | apply Kd.R_drew)); exact (rt3_ qd qv (by decide) 0 1 2 (.slice zb zc.length q8) (.int .i64 zh) (.bool zm))) hb); replace qb := Aside0.mk (Kd.R_below (by (with_reducible repeat (first | apply Kd.R_alloc | apply Kd.R_drewN | apply Kd.R_drew)); exact (rt3_ qb qv (by decide) 0 1 2 (.slice zb zc.length q8) (.int .i64 zh) (.bool zm))) hb); replace qO := Aside0.mk (Kd.R_below (by (with_reducible repeat (first | apply Kd.R_alloc | apply Kd.R_drewN | apply Kd.R_drew)); exact (rt3_ qO qv (by decide) 0 1 2 (.slice zb zc.length q8) (.int .i64 zh) (.bool zm))) hb); replace ze := Aside0.mk (Kd.R_below (by (with_reducible repeat (first | apply Kd.R_alloc | apply Kd.R_drewN | apply Kd.R_drew)); exact (rt3_ ze qv (by decide) 0 1 2 (.slice zb zc.length q8) (.int .i64 zh) (.bool zm))) hb); replace qa := Aside0.mk (blk_below (g := qo) (o := .cells #[.slice A0_0 l0_0.length c0_0, .int .i64 a0_1, .bool a0_2] 24 (0, 0)) (kf_ qa) hb); replace qc := Aside0.mk (blk_below (g := qs) (o := .cells #[.int .i64 a2_0, .int .i64 a2_1] 54 (0, 0)) (kf_ qc) hb); replace qg := Aside0.mk (blk_below (g := qj) (o := .cells #[.slice qP qn.length qM, .int .i64 qA, .bool qD] 26 (0, 0)) (kf_ qg) hb); replace qh := Aside0.mk (blk_below (g := ql) (o := .cells #[.slice qF zg.length qG, .int .i64 qX, .bool qY] 26 (0, 0)) (kf_ qh) hb); replace qf := Aside0.mk (blk_below (g := qi) (o := .cells #[.slice qE qp.length qC, .int .i64 qr, .bool qt] 26 (0, 0)) (kf_ qf) hb); replace qv := Aside0.mk (blk_below (g := qm) (o := .cells #[.slice zb zc.length q8, .int .i64 zh, .bool zm] 26 (0, 0)) (by (with_reducible repeat (first | refine blk_drewN ?_ _ | refine blk_drew ?_ | refine blk_alloc ?_ _)); refine blk_put (cs := #[.slice zb zc.length q8, .int .i64 zh, .bool false]) ?_ 2 _ rfl; (with_reducible repeat (first | refine blk_drewN ?_ _ | refine blk_drew ?_ | refine blk_alloc ?_ _)); refine blk_put (cs := #[.slice zb zc.length q8, .int .i64 0, .bool false]) ?_ 1 _ rfl; (with_reducible repeat (first | refine blk_drewN ?_ _ | refine blk_drew ?_ | refine blk_alloc ?_ _)); refine blk_put (cs := #[.slice none 0 0, .int .i64 0, .bool false]) ?_ 0 _ rfl; (with_reducible repeat (first | refine blk_drewN ?_ _ | refine blk_drew ?_ | refine blk_alloc ?_ _)); exact qv.out) hb); replace HB := bS_ HB hb; (try clear hb); (try clear hb2); (try clear hk); (try clear hi)))
             go_meet
             case rel => exact ⟨_, (true), (by first | rfl | (simp; done) | (simp [*]; done)), H', ⟨by have := HJ16.out; have := HJ79.out; first | omega | exact Nat.le_refl _⟩, ⟨by (try simp only [hl244000_79]); (with_reducible repeat (first | apply Kd.R_alloc | apply Kd.R_drewN | apply Kd.R_drew)); exact Kd.R_mono qe.out (fun _ hk => ⟨hk.2.2.1, ⟨hk.2.2.2, hk.2.1⟩⟩)⟩, ⟨by (try simp only [hl244000_79]); (with_reducible repeat (first | apply Kd.R_alloc | apply Kd.R_drewN | apply Kd.R_drew)); exact Kd.R_mono qd.out (fun _ hk => ⟨hk.2.2.1, ⟨hk.2.2.2, hk.2.1⟩⟩)⟩, ⟨by (try simp only [hl244000_79]); (with_reducible repeat (first | apply Kd.R_alloc | apply Kd.R_drewN | apply Kd.R_drew)); exact Kd.R_mono qb.out (fun _ hk => ⟨hk.2.2.1, ⟨hk.2.2.2, hk.2.1⟩⟩)⟩, ⟨by (try simp only [hl244000_79]); (with_reducible repeat (first | apply Kd.R_alloc | apply Kd.R_drewN | apply Kd.R_drew)); exact Kd.R_mono ze.out (fun _ hk => ⟨hk.2.1, ⟨hk.2.2.1, hk.2.2.2⟩⟩)⟩, ⟨by (try simp only [hl244000_79]); (with_reducible repeat (first | refine blk_drewN ?_ _ | refine blk_drew ?_ | refine blk_alloc ?_ _)); exact qa.out⟩, ⟨by (try simp only [hl244000_79]); (with_reducible repeat (first | refine blk_drewN ?_ _ | refine blk_drew ?_ | refine blk_alloc ?_ _)); exact qc.out⟩, ⟨by (try simp only [hl244000_79]); (with_reducible repeat (first | refine blk_drewN ?_ _ | refine blk_drew ?_ | refine blk_alloc ?_ _)); exact qg.out⟩, ⟨by (try simp only [hl244000_79]); (with_reducible repeat (first | refine blk_drewN ?_ _ | refine blk_drew ?_ | refine blk_alloc ?_ _)); exact qh.out⟩, ⟨by (try simp only [hl244000_79]); (with_reducible repeat (first | refine blk_drewN ?_ _ | refine blk_drew ?_ | refine blk_alloc ?_ _)); exact qf.out⟩, ⟨by (try simp only [hl244000_79]); (with_reducible repeat (first | refine blk_drewN ?_ _ | refine blk_drew ?_ | refine blk_alloc ?_ _)); exact qv.out⟩, ⟨bb_ HB⟩⟩
           case rest =>
            clear HC130
            try clear c1
            try clear p2
            try clear c3
            try clear c15
            try clear c16
            try clear c17
            try clear c35
            try clear c36
            try clear c151
            try clear c152
            try clear c153
            try clear c154
            try clear c155
            try clear c156
            try clear c158
            try clear c159
            try clear c160
            try clear c161
            try clear c164
            try clear c165
            try clear c166
            try clear c167
            try clear c168
            try clear c170
            try clear c171
            try clear c172
            try clear c173
            try clear Qc
            try clear Qd
            try clear Qe
            try clear Qi
            try clear Qj
            try clear Qk
            try clear Qo
            try clear Qp
            try clear Qq
            try clear Qu
            try clear Qv
            try clear Qw
            try clear Qf
            try clear Qg
            try clear Qh
            try clear Ql
            try clear Qm
            try clear Qn
            try clear Qr
            try clear Qs
            try clear Qt
            try clear Qx
            try clear Qy
            try clear Qz
            obtain ⟨kq, zJ, rfl, HA, HJ129, qe, qd, qb, zn, qa, qc, qg, qh, qf, qv, HB⟩ := hcut
            have hl253000_129 := (Kd.R_reads' qb.out).1
            rw [hl253000_129] at qb
            (try simp only [hl253000_129])
            (try simp only [hl253000_129] at qa)
            (try simp only [hl253000_129] at qc)
            (try simp only [hl253000_129] at qg)
            (try simp only [hl253000_129] at qh)
            (try simp only [hl253000_129] at qf)
            (try simp only [hl253000_129] at qv)
            (try simp only [hl253000_129] at qe)
            (try simp only [hl253000_129] at qd)
            (try simp only [hl253000_129] at zn)
            cases kq with
            | zero => exact absurd HA.out (by simp [laws_FnExactFixVariable.j2])
            | succ kj129 =>
             have H := HA.out
             clear HA
             simp only [laws_FnExactFixVariable.j2] at H
             by_cases c176 : zJ = true
             ·
              subst c176
              have H1 : (some false) = some r := by rw [if_pos rfl] at H; exact H
              clear H
              have H := H1
              clear H1
              obtain rfl := Option.some.inj H
              go_wp2
              go_ret
              exact ⟨by first | rfl | (simp [errW_none, errW_some] <;> rfl) | (simp [*, errW_none, errW_some] <;> rfl), bb_ HB⟩
             ·
              replace c176 := Bool.eq_false_iff.mpr c176
              subst c176
              have H1 : ((laws_heldAtom.f kj129 za qr qt 1).bind fun zw => (if zw < 0 then (some false) else (if zw = zd then (some true) else (some false)))) = some r := by rw [if_neg (show ¬ (false = true) by decide)] at H; exact H
              clear H
              have H := H1
              clear H1
              replace H := Option.bind_eq_some_iff.mp H
              obtain ⟨zw, A1770, H⟩ := H
              replace H : (if zw < 0 then (some false) else (if zw = zd then (some true) else (some false))) = some r := H
              have A177 := Aside0.mk A1770
              clear A1770
              by_cases c178 : zw < 0
              ·
               rw [if_pos c178] at H
               have QW : decide (zw < 0) = true := decide_eq_true c178
               clear c178
               obtain rfl := Option.some.inj H
               have XE := qR.out
               have XF := qQ.out
               have XG := qS.out
               have XH := qy.out
               have XI := qL.out
               have XJ := qK.out
               have XK := qN.out
               have XL := qu.out
               have XM := q0.out
               have XN := q1.out
               have Zu : wc.cell? ⟨qi, 0, none⟩ = some (.slice qE za.length qC) := bc_ qf 0
               have Zv : wc.cell? ⟨qi, 1, none⟩ = some (.int .i64 qr) := bc_ qf 1
               have Zw : wc.cell? ⟨qi, 2, none⟩ = some (.bool qt) := bc_ qf 2
               have Zx := blk_frozen qf.out 0
               have Zy := blk_frozen qf.out 1
               have Zz := blk_frozen qf.out 2
               go_wp2_with (first | ((with_reducible refine gate_callee (f := 19) rfl ?_); refine goesL_ (some 103) rfl rfl Try.func19 (by kernel_rfl) rfl #[.agg #[.slice qE za.length qC, .int .i64 qr, .bool qt], .int .i64 1] rfl (by (try simp only [List.map_toArray, List.map_cons, List.map_nil]); first | done | rfl | (simp only [List.length_drop, List.length_take]; rfl)) ?_; (with_reducible refine (laws_heldAtom.calls kj129 _ _ za qr qt 1 zw _ ?side1 ?side2 A177.out).mono ?_); (case side1 => exact cr_ qb); (case side2 => exact (Kd.R_reads' qb.out).2.1); rintro e Dt ⟨rfl, hb⟩; refine ⟨_, rfl, ?_⟩; replace qe := rB_ qe hb; replace qd := rB_ qd hb; replace qb := rB_ qb hb; replace zn := rB_ zn hb; replace qa := kB_ qa hb; replace qc := kB_ qc hb; replace qg := kB_ qg hb; replace qh := kB_ qh hb; replace qf := kB_ qf hb; replace qv := kB_ qv hb; replace HB := bS_ HB hb; (try clear hb); (try clear hb2); (try clear hk); (try clear hi)))
               go_ret
               exact ⟨by first | rfl | (simp [errW_none, errW_some] <;> rfl) | (simp [*, errW_none, errW_some] <;> rfl), bb_ HB⟩
              ·
               rw [if_neg c178] at H
               have QW : decide (zw < 0) = false := decide_eq_false c178
               clear c178
               by_cases c186 : zw = zd
               ·
                rw [if_pos c186] at H
                have QX : (zw == zd) = true := beq_iff_eq.mpr c186
                have QY : (zw != zd) = false := bne_eq_false_iff_eq.mpr c186
                clear c186
                obtain rfl := Option.some.inj H
                have XO := qR.out
                have XP := qQ.out
                have XQ := qS.out
                have XR := qy.out
                have XS := qL.out
                have XT := qK.out
                have XU := qN.out
                have XV := qu.out
                have XW := q0.out
                have XX := q1.out
                have ZA : wc.cell? ⟨qi, 0, none⟩ = some (.slice qE za.length qC) := bc_ qf 0
                have ZB : wc.cell? ⟨qi, 1, none⟩ = some (.int .i64 qr) := bc_ qf 1
                have ZC : wc.cell? ⟨qi, 2, none⟩ = some (.bool qt) := bc_ qf 2
                have ZD := blk_frozen qf.out 0
                have ZE := blk_frozen qf.out 1
                have ZF := blk_frozen qf.out 2
                go_wp2_with (first | ((with_reducible refine gate_callee (f := 19) rfl ?_); refine goesL_ (some 103) rfl rfl Try.func19 (by kernel_rfl) rfl #[.agg #[.slice qE za.length qC, .int .i64 qr, .bool qt], .int .i64 1] rfl (by (try simp only [List.map_toArray, List.map_cons, List.map_nil]); first | done | rfl | (simp only [List.length_drop, List.length_take]; rfl)) ?_; (with_reducible refine (laws_heldAtom.calls kj129 _ _ za qr qt 1 zw _ ?side1 ?side2 A177.out).mono ?_); (case side1 => exact cr_ qb); (case side2 => exact (Kd.R_reads' qb.out).2.1); rintro e Du ⟨rfl, hb⟩; refine ⟨_, rfl, ?_⟩; replace qe := rB_ qe hb; replace qd := rB_ qd hb; replace qb := rB_ qb hb; replace zn := rB_ zn hb; replace qa := kB_ qa hb; replace qc := kB_ qc hb; replace qg := kB_ qg hb; replace qh := kB_ qh hb; replace qf := kB_ qf hb; replace qv := kB_ qv hb; replace HB := bS_ HB hb; (try clear hb); (try clear hb2); (try clear hk); (try clear hi)))
                go_ret
                exact ⟨by first | rfl | (simp [errW_none, errW_some] <;> rfl) | (simp [*, errW_none, errW_some] <;> rfl), bb_ HB⟩
               ·
                rw [if_neg c186] at H
                have QX : (zw == zd) = false := beq_eq_false_iff_ne.mpr c186
                have QY : (zw != zd) = true := bne_iff_ne.mpr c186
                obtain rfl := Option.some.inj H
                have XY := qR.out
                have XZ := qQ.out
                have X0 := qS.out
                have X1 := qy.out
                have X2 := qL.out
                have X3 := qK.out
                have X4 := qN.out
                have X5 := qu.out
                have X6 := q0.out
                have X7 := q1.out
                have ZG : wc.cell? ⟨qi, 0, none⟩ = some (.slice qE za.length qC) := bc_ qf 0
                have ZH : wc.cell? ⟨qi, 1, none⟩ = some (.int .i64 qr) := bc_ qf 1
                have ZI : wc.cell? ⟨qi, 2, none⟩ = some (.bool qt) := bc_ qf 2
                have ZJ := blk_frozen qf.out 0
                have ZK := blk_frozen qf.out 1
                have ZL := blk_frozen qf.out 2
                go_wp2_with (first | ((with_reducible refine gate_callee (f := 19) rfl ?_); refine goesL_ (some 103) rfl rfl Try.func19 (by kernel_rfl) rfl #[.agg #[.slice qE za.length qC, .int .i64 qr, .bool qt], .int .i64 1] rfl (by (try simp only [List.map_toArray, List.map_cons, List.map_nil]); first | done | rfl | (simp only [List.length_drop, List.length_take]; rfl)) ?_; (with_reducible refine (laws_heldAtom.calls kj129 _ _ za qr qt 1 zw _ ?side1 ?side2 A177.out).mono ?_); (case side1 => exact cr_ qb); (case side2 => exact (Kd.R_reads' qb.out).2.1); rintro e Dv ⟨rfl, hb⟩; refine ⟨_, rfl, ?_⟩; replace qe := rB_ qe hb; replace qd := rB_ qd hb; replace qb := rB_ qb hb; replace zn := rB_ zn hb; replace qa := kB_ qa hb; replace qc := kB_ qc hb; replace qg := kB_ qg hb; replace qh := kB_ qh hb; replace qf := kB_ qf hb; replace qv := kB_ qv hb; replace HB := bS_ HB hb; (try clear hb); (try clear hb2); (try clear hk); (try clear hi)))
                go_ret
                exact ⟨by first | rfl | (simp [errW_none, errW_some] <;> rfl) | (simp [*, errW_none, errW_some] <;> rfl), bb_ HB⟩
          ·
           rw [if_neg c126] at H
           have QS : (zr == zd) = false := beq_eq_false_iff_ne.mpr c126
           have QT : (zr != zd) = true := bne_iff_ne.mpr c126
           obtain rfl := Option.some.inj H
           have X8 := qR.out
           have X9 := qQ.out
           have Ya := qS.out
           have Yb := qy.out
           have Yc := qL.out
           have Yd := qK.out
           have Ye := qN.out
           have Yf := qu.out
           have ZM : wc.cell? ⟨qi, 0, none⟩ = some (.slice qE qp.length qC) := bc_ qf 0
           have ZN : wc.cell? ⟨qi, 1, none⟩ = some (.int .i64 qr) := bc_ qf 1
           have ZO : wc.cell? ⟨qi, 2, none⟩ = some (.bool qt) := bc_ qf 2
           have ZP := blk_frozen qf.out 0
           have ZQ := blk_frozen qf.out 1
           have ZR := blk_frozen qf.out 2
           go_wp2_with (first | ((with_reducible refine gate_callee (f := 18) rfl ?_); refine goesL_ (some 74) rfl rfl Try.func18 (by kernel_rfl) rfl #[.agg #[.slice qE qp.length qC, .int .i64 qr, .bool qt], .int .i64 1] rfl (by (try simp only [List.map_toArray, List.map_cons, List.map_nil]); first | done | rfl | (simp only [List.length_drop, List.length_take]; rfl)) ?_; (with_reducible refine (laws_markAtom.calls kj79 (fun k_ => some k_ = (.slice qE qp.length qC : Value).ownBlock) (.slice qE qp.length qC) qp qr qt 1 zd za w _ ?side1 ?side2 A115.out).mono ?_); (case side1 => repeat (first | (with_reducible first | exact HB.out | apply below_alloc | apply pw_below_drewN | apply below_drew1 | refine below_set ?_ ji.out | refine below_set ?_ jj.out | refine below_set ?_ zy.out | refine below_set ?_ jp.out | refine below_set ?_ zD.out) | exact HB.out)); (case side2 => exact Kd.R_tight rfl qb.out); rintro e QZ ⟨rfl, hy0, hb, hkp⟩; refine ⟨_, rfl, ?_⟩; replace qe := Aside0.mk (Kd.R_mono (ok' := fun k_ => some k_ ≠ (.slice qF zg.length qG : Value).ownBlock ∧ some k_ ≠ (.slice qE qp.length qC : Value).ownBlock) (Kd.R_keptB (qe.out) hkp (fun k_ hk_ hs_ => (hk_.2) hs_)) (fun k_ hk_ => ⟨hk_.1.1, hk_.1.2⟩)); replace qd := Aside0.mk (Kd.R_mono (ok' := fun k_ => some k_ ≠ (.slice qP qn.length qM : Value).ownBlock ∧ some k_ ≠ (.slice qE qp.length qC : Value).ownBlock) (Kd.R_keptB (qd.out) hkp (fun k_ hk_ hs_ => (hk_.2) hs_)) (fun k_ hk_ => ⟨hk_.1.1, hk_.1.2⟩)); replace qa := Aside0.mk (blk_kept (kf_ qa) hkp (fun hs_ => (fun e_ => (Kd.R_ne qb.out qa.out (by decide)) e_) hs_)); replace qc := Aside0.mk (blk_kept (kf_ qc) hkp (fun hs_ => (fun e_ => (Kd.R_ne qb.out qc.out (by decide)) e_) hs_)); replace qg := Aside0.mk (blk_kept (kf_ qg) hkp (fun hs_ => (fun e_ => (Kd.R_ne qb.out qg.out (by decide)) e_) hs_)); replace qh := Aside0.mk (blk_kept (kf_ qh) hkp (fun hs_ => (fun e_ => (Kd.R_ne qb.out qh.out (by decide)) e_) hs_)); replace qf := Aside0.mk (blk_kept (kf_ qf) hkp (fun hs_ => (fun e_ => (Kd.R_ne qb.out qf.out (by decide)) e_) hs_)); replace qb := Aside0.mk (Kd.R_reok rfl hy0 (fun k_ e_ => qb.out.1 k_ e_)); replace HB := Aside0.mk (hb); (try clear hb); (try clear hkp); (try clear hy0); have ZS : QZ.cell? ⟨qi, 0, none⟩ = some (.slice qE qp.length qC) := bc_ qf 0; have ZT : QZ.cell? ⟨qi, 1, none⟩ = some (.int .i64 qr) := bc_ qf 1; have ZU : QZ.cell? ⟨qi, 2, none⟩ = some (.bool qt) := bc_ qf 2; have ZV := blk_frozen qf.out 0; have ZW := blk_frozen qf.out 1; have ZX := blk_frozen qf.out 2) | ((with_reducible refine gate_callee (f := 19) rfl ?_); refine goesL_ (some 77) rfl rfl Try.func19 (by kernel_rfl) rfl #[.agg #[.slice qE za.length qC, .int .i64 qr, .bool qt], .int .i64 1] rfl (by (try simp only [List.map_toArray, List.map_cons, List.map_nil]); first | done | (rw [show za.length = qp.length from (Kd.R_reads' qb.out).1.symm] <;> rfl) | rfl | (simp only [List.length_drop, List.length_take]; rfl)) ?_; (with_reducible refine (laws_heldAtom.calls kj79 _ _ za qr qt 1 zr _ ?side1 ?side2 A116.out).mono ?_); (case side1 => exact cr_ qb); (case side2 => rw [show za.length = qp.length from (Kd.R_reads' qb.out).1.symm]; exact (Kd.R_reads' qb.out).2.1); rintro e Dw ⟨rfl, hb⟩; refine ⟨_, rfl, ?_⟩; replace qe := rB_ qe hb; replace qd := rB_ qd hb; replace qb := rB_ qb hb; replace qa := kB_ qa hb; replace qc := kB_ qc hb; replace qg := kB_ qg hb; replace qh := kB_ qh hb; replace qf := kB_ qf hb; replace HB := bS_ HB hb; (try clear hb); (try clear hb2); (try clear hk); (try clear hi)))
           go_ret
           exact ⟨by first | rfl | (simp [errW_none, errW_some] <;> rfl) | (simp [*, errW_none, errW_some] <;> rfl), bb_ HB⟩
     ·
      replace c78 := Bool.eq_false_iff.mpr c78
      subst c78
      have H1 : (some false) = some r := by rw [if_neg (show ¬ (false = true) by decide)] at H; exact H
      clear H
      have H := H1
      clear H1
      obtain rfl := Option.some.inj H
      try go_wp2
      replace qe := Aside0.mk (Kd.R_drew qe.out); replace qd := Aside0.mk (Kd.R_drew qd.out); replace qb := Aside0.mk (Kd.R_drew qb.out); replace qa := Aside0.mk (blk_drew qa.out); replace qc := Aside0.mk (blk_drew qc.out); replace qg := Aside0.mk (blk_drew qg.out); replace qh := Aside0.mk (blk_drew qh.out); replace qf := Aside0.mk (blk_drew qf.out); replace HB := Aside0.mk (below_drew1 HB.out)
      refine start_ (n := 5) (S := fun w' => w'.cell? ⟨ql, 0, none⟩ = some (.slice qF qB.length qG) ∧ w'.cell? ⟨ql, 1, none⟩ = some (.int .i64 qX) ∧ w'.cell? ⟨ql, 2, none⟩ = some (.bool qY) ∧ w'.cell? ⟨qo, 0, none⟩ = some (.slice A0_0 l0_0.length c0_0) ∧ w'.cell? ⟨qo, 1, none⟩ = some (.int .i64 a0_1) ∧ w'.cell? ⟨qo, 2, none⟩ = some (.bool a0_2)) (ds := []) #[false, false, false, false, false] (by kernel_rfl) rfl rfl ⟨bc_ qh 0, bc_ qh 1, bc_ qh 2, bc_ qa 0, bc_ qa 1, bc_ qa 2⟩ (fun hHeld => ?_)
      generalize wc.drew = Dx at qe qd qb qa qc qg qh qf HB hHeld ⊢
      refine take_ (i := 0) (N := some 51) (v := ?_) (a' := ?_) #[true, false, false, false, false] rfl rfl (by kernel_rfl) (fun _ _ _ h => h) (Or.inl ⟨by rfl, ?_⟩) hHeld ?_ ?_
      rotate_left
      ·
       rintro w' ⟨s0, s1, s2, s3, s4, s5⟩
       go_simp
       with_reducible rfl
      rotate_left
      ·
       simp only [Act.put, List.setIfInBounds_toArray, List.set_cons_zero, List.set_cons_succ, i64_w, i32_w]
       rfl
      refine take_ (i := 1) (N := some 52) (v := ?_) (a' := ?_) #[true, true, false, false, false] rfl rfl (by kernel_rfl) (fun _ _ _ h => h) (Or.inl ⟨by rfl, ?_⟩) hHeld ?_ ?_
      rotate_left
      ·
       rintro w' ⟨s0, s1, s2, s3, s4, s5⟩
       go_simp
       with_reducible rfl
      rotate_left
      ·
       simp only [Act.put, List.setIfInBounds_toArray, List.set_cons_zero, List.set_cons_succ, i64_w, i32_w]
       rfl
      refine one_ (i := 2) (N := some 53) #[true, true, true, false, false] rfl rfl (by kernel_rfl) (by decide) (fun K hK => ?_)
      refine goes_ Try.func15 (by kernel_rfl) rfl #[.agg #[.slice A0_0 l0_0.length c0_0, .int .i64 a0_1, .bool a0_2]] (by rfl) rfl rfl (by (try simp only [List.map_toArray, List.map_cons, List.map_nil]); first | done | rfl | (simp only [List.length_drop, List.length_take]; rfl)) ?_
      with_reducible refine (laws_toAtom.calls kj16 _ _ l0_0 a0_1 a0_2 jf jn jo _ ?side1 ?side2 A76.out).mono ?_
      (case side1 => exact cb_ zH HB)
      (case side2 => exact zI.out)
      rintro e Dy ⟨Jr, rfl, ho0, hb⟩
      refine ⟨_, rfl, ?_⟩
      have zo := Aside0.mk (Kd.R_lower (Kd.R_new' (Kd.R_new' (Kd.R_new' ho0 (Kd.R_lt (rm_ qe))) (Kd.R_lt (rm_ qd))) (Kd.R_lt (rm_ qb))) (bz_ HB)); replace qe := Aside0.mk (Kd.R_elder' (rm_ qe) (Kd.R_base ho0) hb); replace qd := Aside0.mk (Kd.R_elder' (rm_ qd) (Kd.R_base ho0) hb); replace qb := Aside0.mk (Kd.R_elder' (rm_ qb) (Kd.R_base ho0) hb); replace qa := kB_ qa hb; replace qc := kB_ qc hb; replace qg := kB_ qg hb; replace qh := kB_ qh hb; replace qf := kB_ qf hb; replace HB := bS_ HB hb; (try clear hb); (try clear hb2); (try clear hk); (try clear hi); (try clear ho0)
      obtain ⟨ZY, ZZ, eo211⟩ := Kd.R_slice zo.out
      (first | subst eo211 | (injection eo211 with f1_ f2_ f3_; have f4_ := f1_.symm; have f5_ := f3_.symm; clear f1_ f2_ f3_; subst f4_; subst f5_))
      refine hK.out _ _ ⟨bc_ qh 0, bc_ qh 1, bc_ qh 2, bc_ qa 0, bc_ qa 1, bc_ qa 2⟩ (fun hHeld => ?_)
      clear hK K
      refine norm_ (a' := ?_) ?_ ?_
      rotate_left
      ·
       show Act.put _ (some 53) _ = _
       simp only [Act.put, List.setIfInBounds_toArray, List.set_cons_zero, List.set_cons_succ, i64_w, i32_w]
       rfl
      refine one_ (i := 3) (N := some 54) #[true, true, true, true, false] rfl rfl (by kernel_rfl) (by decide) (fun K hK => ?_)
      refine goes_ Try.func17 (by kernel_rfl) rfl #[.agg #[.slice qF qB.length qG, .int .i64 qX, .bool qY], .agg #[.slice ZY jf.length ZZ, .int .i64 jn, .bool jo]] (by rfl) rfl rfl (by (try simp only [List.map_toArray, List.map_cons, List.map_nil]); first | done | rfl | (simp only [List.length_drop, List.length_take]; rfl)) ?_
      with_reducible refine (laws_eqAtom.calls kj16 _ _ qB qX qY _ _ jf jn jo false _ ?side1 ?side2 ?side3 ?side4 A77.out).mono ?_
      (case side1 => exact cr_ qd)
      (case side2 => exact (Kd.R_reads' qd.out).2.1)
      (case side3 => exact cr_ zo)
      (case side4 => exact (Kd.R_reads' zo.out).2.1)
      rintro e Dz ⟨rfl, hb⟩
      refine ⟨_, rfl, ?_⟩
      replace qe := rB_ qe hb; replace qd := rB_ qd hb; replace qb := rB_ qb hb; replace zo := rB_ zo hb; replace qa := kB_ qa hb; replace qc := kB_ qc hb; replace qg := kB_ qg hb; replace qh := kB_ qh hb; replace qf := kB_ qf hb; replace HB := bS_ HB hb; (try clear hb); (try clear hb2); (try clear hk); (try clear hi)
      refine hK.out _ _ ⟨bc_ qh 0, bc_ qh 1, bc_ qh 2, bc_ qa 0, bc_ qa 1, bc_ qa 2⟩ (fun hHeld => ?_)
      clear hK K
      refine norm_ (a' := ?_) ?_ ?_
      rotate_left
      ·
       show Act.put _ (some 54) _ = _
       simp only [Act.put, List.setIfInBounds_toArray, List.set_cons_zero, List.set_cons_succ, i64_w, i32_w]
       rfl
      refine pure_ (i := 4) (N := some 55) (v := ?_) (a' := ?_) #[true, true, true, true, true] rfl rfl (by kernel_rfl) (fun _ _ _ h => h) (Or.inl ⟨by rfl, ?_⟩) ?_ ?_
      rotate_left
      ·
       intro w'
       go_simp
       with_reducible rfl
      rotate_left
      ·
       simp only [Act.put, List.setIfInBounds_toArray, List.set_cons_zero, List.set_cons_succ, i64_w, i32_w]
       rfl
      refine done_ (by kernel_rfl) ?_
      try go_wp2
      go_ret
      exact ⟨by first | rfl | (simp [errW_none, errW_some] <;> rfl) | (simp [*, errW_none, errW_some] <;> rfl), bb_ HB⟩

end Go.Proofs.Ytaijkhabcidagaa.PFnExactFixVariable
