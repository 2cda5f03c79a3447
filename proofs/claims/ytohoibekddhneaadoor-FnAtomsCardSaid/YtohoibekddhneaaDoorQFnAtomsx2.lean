/- The functions that the law FnAtoms reaches, each as a Lean function with the same answers, and the proof that the call comes to exactly these: turned by program out of the printed texts. No condition but those that each theorem names. -/
import Derived.Test.YtohoibekddhneaaDoorQFnAtomsx0
import Derived.Test.YtohoibekddhneaaDoorQFnAtomsx1
namespace Go.Proofs.YtohoibekddhneaaDoor.PFnAtoms
open Go.RowKit Go.Proofs.YtohoibekddhneaaDoorW.PrintWords Go.Proofs.YtohoibekddhneaaDoorW.PrintLast Go.Proofs.YtohoibekddhneaaDoorW.PrintMore
attribute [local go_sem] max2_int min2_int max_two min_two max_three min_three max_four min_four   -- for this text's walks alone
set_option linter.unusedVariables false
set_option linter.unusedSimpArgs false

/-! ### spec_l2Atom: function 144 -/
def spec_l2Atom.l0 : Nat → List Int → Int → Int → List Int → Int → Bool → Option (List Int × Int × Bool × Bool)
 | 0, _, _, _, _, _, _ => none
 | k + 1, x0, x8, x10, x228000, x228001, x228002 => if x10 < (x0.length : Int) then (if 0 ≤ x10 then (if x8 = 0 then (none) else (if x228000.length < 17592186044416 then (spec_l2Atom.l0 k x0 x8 (wrap64 (x10 + 1)) (x228000 ++ [wrap64 (Int.tdiv (rd x0 x10) x8)]) x228001 x228002) else (none))) else (none)) else ((spec_IsAtom.f k x228000 x228001 x228002).bind fun qn => (if qn = true then (some (x228000, x228001, x228002, true)) else (some (([] : List Int), 0, false, false))))
def spec_l2Atom.f (k : Nat) (l0 : List Int) (a1 : Int) (a2 : Bool) : Option (List Int × Int × Bool × Bool) := (spec_l2Gcd.f k l0 a1).bind fun qh => (if (mx 1 qh) = 0 then (none) else (spec_l2Atom.l0 k l0 (mx 1 qh) 0 ([] : List Int) (wrap64 (Int.tdiv a1 (mx 1 qh))) a2))
theorem spec_l2Atom.mono_l : ∀ k, (∀ y0 y1 y2 y3 y4 y5, LeO (spec_l2Atom.l0 k y0 y1 y2 y3 y4 y5) (spec_l2Atom.l0 (k + 1) y0 y1 y2 y3 y4 y5))
 | 0 => fun _ _ _ _ _ _ r h => by simp [spec_l2Atom.l0] at h
 | k + 1 => by
  have ih0 := spec_l2Atom.mono_l k
  ·
   intro y0 y1 y2 y3 y4 y5
   unfold spec_l2Atom.l0
   repeat' first
   | (with_reducible exact ih0 _ _ _ _ _ _)
   | (with_reducible exact spec_IsAtom.mono _ _ _ _)
   | (with_reducible exact spec_l2Gcd.mono _ _ _)
   | (with_reducible exact LeO.refl _)
   | (with_reducible exact LeO.none _)
   | (with_reducible refine LeO.ite ?_ ?_)
   | (with_reducible refine LeO.bind ?_ (fun _ => ?_))
   | exact ih0 _ _ _ _ _ _
   | exact spec_IsAtom.mono _ _ _ _
   | exact spec_l2Gcd.mono _ _ _
   | exact LeO.none _
   | refine LeO.ite ?_ ?_
   | refine LeO.bind ?_ (fun _ => ?_)
theorem spec_l2Atom.mono : ∀ a0 a1 a2 k, LeO (spec_l2Atom.f k a0 a1 a2) (spec_l2Atom.f (k + 1) a0 a1 a2) := by
 intro a0 a1 a2 k
 have ih0 := spec_l2Atom.mono_l k
 unfold spec_l2Atom.f
 repeat' first
   | (with_reducible exact ih0 _ _ _ _ _ _)
   | (with_reducible exact spec_IsAtom.mono _ _ _ _)
   | (with_reducible exact spec_l2Gcd.mono _ _ _)
   | (with_reducible exact LeO.refl _)
   | (with_reducible exact LeO.none _)
   | (with_reducible refine LeO.ite ?_ ?_)
   | (with_reducible refine LeO.bind ?_ (fun _ => ?_))
   | exact ih0 _ _ _ _ _ _
   | exact spec_IsAtom.mono _ _ _ _
   | exact spec_l2Gcd.mono _ _ _
   | exact LeO.none _
   | refine LeO.ite ?_ ?_
   | refine LeO.bind ?_ (fun _ => ?_)
def spec_l2Atom.T6 : Bool × List (List Nat × List Nat) := (true, [([], []), ([0], [0]), ([], []), ([], []), ([2, 3], [2, 3]), ([4], [4]), ([], []), ([5, 6], [5, 6]), ([7], [7]), ([1, 8], [1, 8]), ([0, 1, 2, 3, 4, 5, 6, 7, 8, 9], []), ([10, 9, 9, 0, 1, 2, 3, 4, 5, 6, 7, 8, 9], [9, 10])])
def spec_l2Atom.B6 : List Nat := [0, 1, 0, 0, 12, 28, 0, 124, 252, 511, 1023, 2047]
theorem spec_l2Atom.tab6 : rtab .any (opsOf Tryd.f144 6) = spec_l2Atom.T6 := by kernel_rfl
theorem spec_l2Atom.bits6 : waitsOk spec_l2Atom.T6.2 spec_l2Atom.B6 = true := by kernel_rfl
set_option maxHeartbeats 8000000 in
set_option maxRecDepth 100000 in
theorem spec_l2Atom.calls (k : Nat) (A0 : Option Addr) (c0 : Nat) (l0 : List Int) (a1 : Int) (a2 : Bool) (r1 : List Int) (r2 : Int) (r3 : Bool) (r4 : Bool) (w : World) (hr0 : Kd.C (Kd.int .i64) w A0 l0.length l0) (hc0 : l0.length ≤ c0) (h : spec_l2Atom.f k l0 a1 a2 = some (r1, r2, r3, r4)) :
  Calls Tryd.prog 144 #[.slice A0 l0.length c0, .int .i64 a1, .bool a2] w fun e w' => ∃ v0_ : Value, e = .returned (.tuple #[.agg #[v0_, .int .i64 r2, .bool r3], .bool r4]) ∧ Kd.R (Kd.int .i64) 3 w' w.heap.size (fun _ => True) v0_ r1 ∧ Below w.heap.size w w' := by
 have hu27 := Tryd.underlying27
 have HR0 := Aside0.mk hr0
 have HC0 := Aside0.mk hc0
 clear hr0 hc0
 have HB := Aside0.mk (Below.refl w.heap.size w)
 have H : ((spec_l2Gcd.f k l0 a1).bind fun qh => (if (mx 1 qh) = 0 then (none) else (spec_l2Atom.l0 k l0 (mx 1 qh) 0 ([] : List Int) (wrap64 (Int.tdiv a1 (mx 1 qh))) a2))) = some (r1, r2, r3, r4) := h
 clear h
 replace H := Option.bind_eq_some_iff.mp H
 obtain ⟨qh, A40, H⟩ := H
 replace H : (if (mx 1 qh) = 0 then (none) else (spec_l2Atom.l0 k l0 (mx 1 qh) 0 ([] : List Int) (wrap64 (Int.tdiv a1 (mx 1 qh))) a2)) = some (r1, r2, r3, r4) := H
 have A4 := Aside0.mk A40
 clear A40
 obtain ⟨ji5, hji5⟩ : ∃ j_ : Int, (mx 1 qh) = j_ := ⟨_, rfl⟩
 replace H : (if (ji5) = 0 then (none) else (spec_l2Atom.l0 k l0 ji5 0 ([] : List Int) (wrap64 (Int.tdiv a1 (ji5))) a2)) = some (r1, r2, r3, r4) := by first | (rw [hji5] at H; exact H) | (simp only [hji5] at H ⊢; exact H)
 (try rw [hji5] at A4)
 (try (have hji5l : 1 ≤ ji5 := by (rw [← hji5]; unfold mx; (repeat' split) <;> omega)))
 (try (have hji5m : 0 ≤ ji5 := by omega))
 have hji5_ : (if 1 < qh then qh else 1) = ji5 := hji5
 by_cases c6 : (ji5) = 0
 ·
  rw [if_pos c6] at H
  exact absurd H (by simp)
 rw [if_neg c6] at H
 have q3 : ((ji5) == 0) = false := beq_eq_false_iff_ne.mpr c6
 have q4 : ((ji5) != 0) = true := bne_iff_ne.mpr c6
 have H' := Aside0.mk H
 clear H
 go_enter Tryd.func144, Tryd.ntmps144
 go_wp2_with (first | ((with_reducible refine gate_dst (N := 6) rfl ?_); refine bx_ (cs := #[.slice none 0 0, .int .i64 0, .bool false]) (t := 27) ?_; intro qj hg w7 hbox hb; have qd := Aside0.mk (hbox); have q7 := hz_ HB hg; have q8 := hz_ HB hg; replace HB := bS_ HB hb; clear hb hbox hg) | ((with_reducible refine gate_callee (f := 87) rfl ?_); refine gL_ (some 13) Tryd.func87 #[.slice A0 l0.length c0, .int .i64 a1] ?_; (with_reducible refine (spec_l2Gcd.calls k _ _ l0 a1 qh _ ?side1 ?side2 A4.out).mono ?_); (case side1 => exact cb_ HR0 HB); (case side2 => exact HC0.out); rintro e w8 ⟨rfl, hb⟩; refine ⟨_, rfl, ?_⟩; replace qd := kB_ qd hb; replace HB := bS_ HB hb; clear hb) | ((with_reducible refine gate_dst (N := 9) rfl ?_); refine bx_ (cs := #[.slice none 0 0, .int .i64 0, .bool false]) (t := 27) ?_; intro qk hg w9 hbox hb; have qc := Aside0.mk (hbox); have q9 := hz_ HB hg; have za := hz_ HB hg; replace HB := bS_ HB hb; have qf := nL_ qd hg; have qg := nG_ qd hg; replace qd := kB_ qd hb; clear hb hbox hg; have zb := qg.out; have zc := qf.out; obtain ⟨qo, qp, qq, qr, qs, qt⟩ := b3_ qc))
 go_loopg [10] k (fun kq v10 w' => ∃ (qe : Int) (qb : List Int) (u228000 : Value), v10 = .int .i64 qe ∧ Aside0 (spec_l2Atom.l0 kq l0 ji5 qe qb (wrap64 (Int.tdiv a1 (ji5))) a2 = some (r1, r2, r3, r4)) ∧ Aside0 (kq ≤ k) ∧ Aside0 (Kd.R (Kd.int .i64) 3 w' w.heap.size (fun _ => True) u228000 qb) ∧ Aside0 (w'.heap[qj]? = some (.cells #[(.slice none 0 0), .int .i64 0, .bool false] 27 (0, 0))) ∧ Aside0 (w'.heap[qk]? = some (.cells #[u228000, .int .i64 (wrap64 (Int.tdiv a1 (ji5))), .bool a2] 27 (0, 0))) ∧ Aside0 (Below w.heap.size w w'))
 case atStart => exact ⟨(0), (([] : List Int)), (.slice none 0 0), (by first | rfl | (simp; done) | (simp [*]; done)), H', ⟨Nat.le_refl _⟩, ⟨by first | exact Kd.R_nil _ _ _ _ _ | exact Kd.N_nil _ _ _ _ _ | exact Kd.V_nil _ _ _ _ _ | exact Kd.Q_nil _ _ _ _ _ | exact Kd.S_nil _ _ _ _ _⟩, ⟨kf_ qd⟩, ⟨by (with_reducible repeat (first | refine blk_drewN ?_ _ | refine blk_drew ?_ | refine blk_alloc ?_ _)); refine blk_put (cs := #[.slice none 0 0, .int .i64 (wrap64 (Int.tdiv a1 (ji5))), .bool false]) ?_ 2 _ rfl; (with_reducible repeat (first | refine blk_drewN ?_ _ | refine blk_drew ?_ | refine blk_alloc ?_ _)); refine blk_put (cs := #[.slice none 0 0, .int .i64 0, .bool false]) ?_ 1 _ rfl; (with_reducible repeat (first | refine blk_drewN ?_ _ | refine blk_drew ?_ | refine blk_alloc ?_ _)); refine blk_put (cs := #[.slice none 0 0, .int .i64 0, .bool false]) ?_ 0 _ rfl; (with_reducible repeat (first | refine blk_drewN ?_ _ | refine blk_drew ?_ | refine blk_alloc ?_ _)); exact qc.out⟩, ⟨bb_ HB⟩⟩
 case round =>
  clear H'
  try clear c1
  try clear p2
  try clear c6
  try clear q3
  try clear q4
  try clear p6
  try clear c8
  try clear c10
  try clear qo
  try clear qp
  try clear qq
  try clear qr
  try clear qs
  try clear qt
  obtain ⟨qe, qb, u228000, rfl, HA, HK1, qa, qd, qc, HB⟩ := hrel
  cases gk with
  | zero => exact absurd HA.out (by simp [spec_l2Atom.l0])
  | succ k1 =>
   have H := HA.out
   clear HA
   simp only [spec_l2Atom.l0] at H
   by_cases c12 : qe < (l0.length : Int)
   rotate_left
   ·
    rw [if_neg c12] at H
    have qv : decide (qe < (l0.length : Int)) = false := decide_eq_false c12
    clear c12
    replace H := Option.bind_eq_some_iff.mp H
    obtain ⟨qn, A200, H⟩ := H
    replace H : (if qn = true then (some (qb, (wrap64 (Int.tdiv a1 (ji5))), a2, true)) else (some (([] : List Int), 0, false, false))) = some (r1, r2, r3, r4) := H
    have A20 := Aside0.mk A200
    clear A200
    by_cases c21 : qn = true
    rotate_left
    ·
     replace c21 := Bool.eq_false_iff.mpr c21
     subst c21
     have H1 : (some (([] : List Int), 0, false, false)) = some (r1, r2, r3, r4) := by rw [if_neg (show ¬ (false = true) by decide)] at H; exact H
     clear H
     have H := H1
     clear H1
     simp only [Option.some.injEq, Prod.mk.injEq] at H
     obtain ⟨rfl, rfl, rfl, rfl⟩ := H
     have zd := qg.out
     have ze := qf.out
     obtain ⟨qz, qA, qB, qC, qD, qE⟩ := b3_ qc
     obtain ⟨q5, q6, eo30⟩ := Kd.R_slice qa.out
     subst eo30
     go_wp2_with (first | ((with_reducible refine gate_callee (f := 46) rfl ?_); refine goesL_ (some 38) rfl rfl Tryd.func46 (by kernel_rfl) rfl #[.agg #[.slice q5 qb.length q6, .int .i64 (wrap64 (Int.tdiv a1 (ji5))), .bool a2]] rfl (by (try simp only [List.map_toArray, List.map_cons, List.map_nil]); first | done | (simp only [hji5]; rfl) | rfl | (simp only [List.length_drop, List.length_take]; rfl)) ?_; (with_reducible refine (spec_IsAtom.calls k1 _ _ qb (wrap64 (Int.tdiv a1 (ji5))) a2 false _ ?side1 ?side2 A20.out).mono ?_); (case side1 => exact cr_ qa); (case side2 => exact (Kd.R_reads' qa.out).2.1); rintro e zm ⟨rfl, hb⟩; refine ⟨_, rfl, ?_⟩; replace qa := rB_ qa hb; replace qd := kB_ qd hb; replace qc := kB_ qc hb; replace HB := bS_ HB hb; clear hb; obtain ⟨qF, qG, qH, qI, qJ, qK⟩ := b3_ qd))
     refine bodyPost_ret (results_ct rfl _ _ qj 27 #[.slice none 0 0, .int .i64 0, .bool false] (0, 0) _ rfl (by (with_reducible repeat (first | refine blk_drewN ?_ _ | refine blk_drew ?_ | refine blk_alloc ?_ _)); refine blk_put (cs := #[.slice none 0 0, .int .i64 0, .bool false]) ?_ 2 _ rfl; (with_reducible repeat (first | refine blk_drewN ?_ _ | refine blk_drew ?_ | refine blk_alloc ?_ _)); refine blk_put (cs := #[.slice none 0 0, .int .i64 0, .bool false]) ?_ 1 _ rfl; (with_reducible repeat (first | refine blk_drewN ?_ _ | refine blk_drew ?_ | refine blk_alloc ?_ _)); refine blk_put (cs := #[.slice none 0 0, .int .i64 0, .bool false]) ?_ 0 _ rfl; (with_reducible repeat (first | refine blk_drewN ?_ _ | refine blk_drew ?_ | refine blk_alloc ?_ _)); exact qd.out) Tryd.underlying27 rfl (by kernel_rfl)) rfl ?_
     exact ⟨_, by first | rfl | (simp [errW_none, errW_some] <;> rfl) | (simp only [← hji5]; first | rfl | (simp [errW_none, errW_some] <;> rfl)) | (simp [*, errW_none, errW_some] <;> rfl), by first | exact Kd.R_nil _ _ _ _ _ | exact Kd.N_nil _ _ _ _ _ | exact Kd.V_nil _ _ _ _ _ | exact Kd.Q_nil _ _ _ _ _ | exact Kd.S_nil _ _ _ _ _, bb_ HB⟩
    subst c21
    have H1 : (some (qb, (wrap64 (Int.tdiv a1 (ji5))), a2, true)) = some (r1, r2, r3, r4) := by rw [if_pos rfl] at H; exact H
    clear H
    have H := H1
    clear H1
    simp only [Option.some.injEq, Prod.mk.injEq] at H
    obtain ⟨rfl, rfl, rfl, rfl⟩ := H
    have zf := qg.out
    have zg := qf.out
    obtain ⟨qL, qM, qN, qO, qP, qQ⟩ := b3_ qc
    obtain ⟨ql, qm, eo24⟩ := Kd.R_slice qa.out
    subst eo24
    go_wp2_with (first | ((with_reducible refine gate_callee (f := 46) rfl ?_); refine goesL_ (some 38) rfl rfl Tryd.func46 (by kernel_rfl) rfl #[.agg #[.slice ql qb.length qm, .int .i64 (wrap64 (Int.tdiv a1 (ji5))), .bool a2]] rfl (by (try simp only [List.map_toArray, List.map_cons, List.map_nil]); first | done | (simp only [hji5]; rfl) | rfl | (simp only [List.length_drop, List.length_take]; rfl)) ?_; (with_reducible refine (spec_IsAtom.calls k1 _ _ qb (wrap64 (Int.tdiv a1 (ji5))) a2 true _ ?side1 ?side2 A20.out).mono ?_); (case side1 => exact cr_ qa); (case side2 => exact (Kd.R_reads' qa.out).2.1); rintro e zn ⟨rfl, hb⟩; refine ⟨_, rfl, ?_⟩; replace qa := rB_ qa hb; replace qd := kB_ qd hb; replace qc := kB_ qc hb; replace HB := bS_ HB hb; clear hb; obtain ⟨qR, qS, qT, qU, qV, qW⟩ := b3_ qc; obtain ⟨qX, qY, qZ, q0, q1, q2⟩ := b3_ qd))
    refine bodyPost_ret (results_ct rfl _ _ qj 27 #[.slice ql qb.length qm, .int .i64 (wrap64 (Int.tdiv a1 (ji5))), .bool a2] (0, 0) _ rfl (by (with_reducible repeat (first | refine blk_drewN ?_ _ | refine blk_drew ?_ | refine blk_alloc ?_ _)); refine blk_put (cs := #[.slice ql qb.length qm, .int .i64 (wrap64 (Int.tdiv a1 (ji5))), .bool false]) ?_ 2 _ rfl; (with_reducible repeat (first | refine blk_drewN ?_ _ | refine blk_drew ?_ | refine blk_alloc ?_ _)); refine blk_put (cs := #[.slice ql qb.length qm, .int .i64 0, .bool false]) ?_ 1 _ rfl; (with_reducible repeat (first | refine blk_drewN ?_ _ | refine blk_drew ?_ | refine blk_alloc ?_ _)); refine blk_put (cs := #[.slice none 0 0, .int .i64 0, .bool false]) ?_ 0 _ rfl; (with_reducible repeat (first | refine blk_drewN ?_ _ | refine blk_drew ?_ | refine blk_alloc ?_ _)); exact qd.out) Tryd.underlying27 rfl (by kernel_rfl)) rfl ?_
    exact ⟨_, by first | rfl | (simp [errW_none, errW_some] <;> rfl) | (simp only [← hji5]; first | rfl | (simp [errW_none, errW_some] <;> rfl)) | (simp [*, errW_none, errW_some] <;> rfl), by (with_reducible repeat (first | apply Kd.R_alloc | apply Kd.R_drewN | apply Kd.R_drew)); exact Kd.R_mono (Kd.R_far (p := ⟨qj, 2, none⟩) (Kd.R_far (p := ⟨qj, 1, none⟩) (Kd.R_far (p := ⟨qj, 0, none⟩) (Kd.R_types qa.out qd.out (by decide)) (fun _ hk => hk.2) (.slice ql qb.length qm)) (fun _ hk => hk.2) (.int .i64 (wrap64 (Int.tdiv a1 (ji5))))) (fun _ hk => hk.2) (.bool a2)) (fun _ hk => trivial), bb_ HB⟩
   rw [if_pos c12] at H
   have qv : decide (qe < (l0.length : Int)) = true := decide_eq_true c12
   clear c12
   by_cases c13 : 0 ≤ qe
   rotate_left
   ·
    rw [if_neg c13] at H
    exact absurd H (by simp)
   rw [if_pos c13] at H
   have zh : decide (0 ≤ qe) = true := decide_eq_true c13
   clear c13
   by_cases c14 : ji5 = 0
   ·
    rw [if_pos c14] at H
    exact absurd H (by simp)
   rw [if_neg c14] at H
   have zi : (ji5 == 0) = false := beq_eq_false_iff_ne.mpr c14
   have zj : (ji5 != 0) = true := bne_iff_ne.mpr c14
   by_cases c15 : qb.length < 17592186044416
   rotate_left
   ·
    rw [if_neg c15] at H
    exact absurd H (by simp)
   rw [if_pos c15] at H
   have LMc15 := Aside0.mk c15
   clear c15
   obtain ⟨y229, hy229⟩ : ∃ y_ : List Int, y_ = (qb ++ [wrap64 (Int.tdiv (rd l0 qe) ji5)]) := ⟨_, rfl⟩
   replace H : (spec_l2Atom.l0 k1 l0 ji5 (wrap64 (qe + 1)) y229 (wrap64 (Int.tdiv a1 (ji5))) a2) = some (r1, r2, r3, r4) := by first | (rw [hy229]; with_reducible exact H) | (have H2_ := (Option.bind_some _ _).symm.trans H; rw [hy229]; with_reducible exact H2_) | (have H2_ := (Option.bind_some _ _).symm.trans H; with_reducible exact H2_) | with_reducible exact H | (rw [hy229]; exact H) | exact H
   have Ny229 := Aside0.mk hy229
   clear hy229
   have H' := Aside0.mk H
   clear H
   try go_wp2
   replace qa := Aside0.mk (Kd.R_drew qa.out); replace qd := Aside0.mk (blk_drew qd.out); replace qc := Aside0.mk (blk_drew qc.out); replace HB := Aside0.mk (below_drew1 HB.out)
   have p228 : 0 ≤ (qe : Int) := of_decide_eq_true (by first | (with_reducible assumption) | assumption)
   have q228 : qe < (l0.length : Int) := of_decide_eq_true (by first | (with_reducible assumption) | assumption)
   obtain ⟨qw, e228, qi⟩ := Kd.at_int HR0.out qe p228 q228
   have hw228_0 := qi
   cases e228
   replace qi := (HB.out.cell (World.block_lt_of_cell? w _ qi)).trans qi
   replace p228 := eq_true p228
   replace q228 := eq_true q228
   refine start_ (n := 12) (S := fun w' => w'.cell? ⟨qk, 0, none⟩ = some (u228000) ∧ w'.cell? ⟨qk, 1, none⟩ = some (.int .i64 (wrap64 (Int.tdiv a1 (ji5)))) ∧ w'.cell? ⟨qk, 2, none⟩ = some (.bool a2) ∧ w'.cell? (qw.add (qe).toNat) = some (.int .i64 (rd l0 qe))) (ds := [11]) #[false, false, false, false, false, false, false, false, false, false, false, false] (by kernel_rfl) rfl rfl ⟨bc_ qc 0, bc_ qc 1, bc_ qc 2, ((HB.out.cell (World.block_lt_of_cell? w _ hw228_0)).trans hw228_0)⟩ (fun hHeld => ?_); refine with_tabW spec_l2Atom.tab6 spec_l2Atom.bits6 (fun HT_ HW_ => ?_)
   generalize wr.drew = zo at qa qd qc HB qi hHeld ⊢
   refine pX_ 0 (some 26) #[true, false, false, false, false, false, false, false, false, false, false, false] HT_ ?_
   refine pX_ 2 (some 28) #[true, false, true, false, false, false, false, false, false, false, false, false] HT_ ?_
   refine pX_ 3 (some 29) #[true, false, true, true, false, false, false, false, false, false, false, false] HT_ ?_
   refine pX_ 4 (some 30) #[true, false, true, true, true, false, false, false, false, false, false, false] HT_ ?_
   refine pX_ 6 (some 32) #[true, false, true, true, true, false, true, false, false, false, false, false] HT_ ?_
   refine take_ (i := 1) (N := some 27) (v := ?_) (a' := ?_) #[true, true, true, true, true, false, true, false, false, false, false, false] rfl rfl (take_ofW HT_.out HW_.out (by kernel_rfl)) (fun _ _ _ h => h) (Or.inl ⟨by rfl, ?_⟩) hHeld ?_ ?_
   rotate_left
   ·
    rintro w' ⟨s0, s1, s2, s3⟩
    go_simp
    with_reducible rfl
   rotate_left
   ·
    simp only [Act.put, List.setIfInBounds_toArray, List.set_cons_zero, List.set_cons_succ, i64_w, i32_w]
    rfl
   refine take_ (i := 5) (N := some 31) (v := ?_) (a' := ?_) #[true, true, true, true, true, true, true, false, false, false, false, false] rfl rfl (take_ofW HT_.out HW_.out (by kernel_rfl)) (fun _ _ _ h => h) (Or.inl ⟨by rfl, ?_⟩) hHeld ?_ ?_
   rotate_left
   ·
    rintro w' ⟨s0, s1, s2, s3⟩
    go_simp
    with_reducible rfl
   rotate_left
   ·
    simp only [Act.put, List.setIfInBounds_toArray, List.set_cons_zero, List.set_cons_succ, i64_w, i32_w]
    rfl
   refine pX_ 7 (some 33) #[true, true, true, true, true, true, true, true, false, false, false, false] HT_ ?_
   refine one_ (i := 8) (N := some 34) #[true, true, true, true, true, true, true, true, true, false, false, false] rfl rfl (one_of HT_.out (by kernel_rfl)) (by decide) (fun K hK => ?_)
   refine value_ (w1 := ?_) (v := ?_) (by rfl) rfl ?_ ?_
   rotate_left 2
   ·
    go_simp
    constructor
    rotate_left
    ·
     rfl
    rfl
   refine hK.out _ _ ⟨(blk_cell (blk_alloc qc.out _) 0).trans rfl, (blk_cell (blk_alloc qc.out _) 1).trans rfl, (blk_cell (blk_alloc qc.out _) 2).trans rfl, (World.cell?_alloc_lt _ _ _ (World.block_lt_of_cell? _ _ (((HB.out.cell (World.block_lt_of_cell? w _ hw228_0)).trans hw228_0)))).trans (((HB.out.cell (World.block_lt_of_cell? w _ hw228_0)).trans hw228_0))⟩ (fun hHeld => ?_)
   clear hK K
   refine norm_ (a' := ?_) ?_ ?_
   rotate_left
   ·
    show Act.put _ (some 34) _ = _
    simp only [Act.put, List.setIfInBounds_toArray, List.set_cons_zero, List.set_cons_succ, i64_w, i32_w]
    rfl
   refine one_ (i := 9) (N := some 35) #[true, true, true, true, true, true, true, true, true, true, false, false] rfl rfl (one_of HT_.out (by kernel_rfl)) (by decide) (fun K hK => ?_)
   refine Kd.R_append_step (Kd.int .i64) (w0 := w) w.heap.size (by rfl) (.tmp 27) (.tmp 34) 22 3 (.int .i64 0) 8 rfl Tryd.underlying22 info3 rfl (by decide) (by omega) u228000 qb (wrap64 (Int.tdiv (rd l0 qe) ji5)) [.int .i64 (wrap64 (Int.tdiv (rd l0 qe) ji5))] (fun _ => True) (fun _ => False) rfl rfl ?aP (fun _ hk => hk.elim) ?aF ?aO ?aB ?aS ?aL ?_
   (case aP => exact rfl)
   (case aB => exact (bb_ HB))
   (case aF => exact (fun _ _ => trivial))
   (case aO => exact (rm_ qa))
   (case aS => exact (bz_ HB))
   (case aL => have := LMc15.out; omega)
   intro zk zl ho hb hg hat
   rw [← Ny229.out] at ho
   replace qd := Aside0.mk (blk_grown (g := qj) (o := .cells #[.slice none 0 0, .int .i64 0, .bool false] 27 (0, 0)) (kf_ qd) hg (Kd.R_ne qa.out qd.out (by decide))); replace qc := Aside0.mk (blk_grown (g := qk) (o := .cells #[u228000, .int .i64 (wrap64 (Int.tdiv a1 (ji5))), .bool a2] 27 (0, 0)) (kf_ qc) hg (Kd.R_ne qa.out qc.out (by decide))); replace HB := Aside0.mk (hb); have qu := Aside0.mk (ho); clear qa; clear ho hb hg hat
   obtain ⟨qx, qy, eo18⟩ := Kd.R_slice qu.out
   (first | subst eo18 | (injection eo18 with f1_ f2_ f3_; have f4_ := f1_.symm; have f5_ := f3_.symm; clear f1_ f2_ f3_; subst f4_; subst f5_))
   refine hK.out _ _ ⟨bc_ qc 0, bc_ qc 1, bc_ qc 2, ((HB.out.cell (World.block_lt_of_cell? w _ hw228_0)).trans hw228_0)⟩ (fun hHeld => ?_)
   clear hK K
   refine norm_ (a' := ?_) ?_ ?_
   rotate_left
   ·
    show Act.put _ (some 35) _ = _
    simp only [Act.put, List.setIfInBounds_toArray, List.set_cons_zero, List.set_cons_succ, i64_w, i32_w]
    rfl
   refine pX_ 10 (some 36) #[true, true, true, true, true, true, true, true, true, true, true, false] HT_ ?_
   refine last_ (i := 11) (N := none) #[true, true, true, true, true, true, true, true, true, true, true, true] rfl rfl (one_of HT_.out (by kernel_rfl)) (by decide) (fun K hK => ?_)
   have hs19 : zl.cell? ⟨qk, 0, none⟩ = some (u228000) := bc_ qc 0
   have hfs19 := blk_frozen qc.out 0
   have hns19_0 := qf.out
   have hms19_0 := qg.out
   refine skip_ (w1 := ?_) (by rfl) rfl ?_ ?_
   rotate_left
   ·
    go_simp
    rfl
   refine hK.out _ _ ?_
   clear hK K
   refine done_ (done_of HT_.out (by kernel_rfl)) ?_
   try go_wp2
   go_roundg k1
   case measure => have := HK1.out; omega
   case rel => exact ⟨(wrap64 (qe + 1)), (y229), (.slice qx y229.length qy), (by first | rfl | (simp; done) | (simp [*]; done)), H', ⟨by have := HK1.out; omega⟩, ⟨by (with_reducible repeat (first | apply Kd.R_alloc | apply Kd.R_drewN | apply Kd.R_drew)); exact Kd.R_mono (Kd.R_far (p := ⟨qk, 0, none⟩) (Kd.R_types qu.out qc.out (by decide)) (fun _ hk => hk.2) (.slice qx y229.length qy)) (fun _ hk => trivial)⟩, ⟨kf_ qd⟩, ⟨by (with_reducible repeat (first | refine blk_drewN ?_ _ | refine blk_drew ?_ | refine blk_alloc ?_ _)); refine blk_put (cs := #[u228000, .int .i64 (wrap64 (Int.tdiv a1 (ji5))), .bool a2]) ?_ 0 _ rfl; (with_reducible repeat (first | refine blk_drewN ?_ _ | refine blk_drew ?_ | refine blk_alloc ?_ _)); exact qc.out⟩, ⟨bb_ HB⟩⟩

/-! ### spec_MakeAtom: function 136 -/
def spec_MakeAtom.l0 : Nat → List Int → Int → Bool → Int → Option (List Int × Int × Bool × Bool)
 | 0, _, _, _, _ => none
 | k + 1, x0, x1, x2, x8 => if x8 < (x0.length : Int) then (if 0 ≤ x8 then ((spec_IsNumber.f (rd x0 x8)).bind fun qq => (if qq = true then (spec_MakeAtom.l0 k x0 x1 x2 (wrap64 (x8 + 1))) else (some (([] : List Int), 0, false, false)))) else (none)) else ((spec_IsNumber.f x1).bind fun qr => (if qr = true then (if (x0.length : Int) > 4 then (some (([] : List Int), 0, false, false)) else ((spec_l2Atom.f k x0 x1 x2).bind fun qd => (some (qd.1, qd.2.1, qd.2.2.1, qd.2.2.2)))) else (some (([] : List Int), 0, false, false))))
def spec_MakeAtom.f (k : Nat) (l0 : List Int) (a1 : Int) (a2 : Bool) : Option (List Int × Int × Bool × Bool) := spec_MakeAtom.l0 k l0 a1 a2 0
theorem spec_MakeAtom.mono_l : ∀ k, (∀ y0 y1 y2 y3, LeO (spec_MakeAtom.l0 k y0 y1 y2 y3) (spec_MakeAtom.l0 (k + 1) y0 y1 y2 y3))
 | 0 => fun _ _ _ _ r h => by simp [spec_MakeAtom.l0] at h
 | k + 1 => by
  have ih0 := spec_MakeAtom.mono_l k
  ·
   intro y0 y1 y2 y3
   unfold spec_MakeAtom.l0
   repeat' first
   | (with_reducible exact ih0 _ _ _ _)
   | (with_reducible exact spec_l2Atom.mono _ _ _ _)
   | (with_reducible exact LeO.refl _)
   | (with_reducible exact LeO.none _)
   | (with_reducible refine LeO.ite ?_ ?_)
   | (with_reducible refine LeO.bind ?_ (fun _ => ?_))
   | exact ih0 _ _ _ _
   | exact spec_l2Atom.mono _ _ _ _
   | exact LeO.none _
   | refine LeO.ite ?_ ?_
   | refine LeO.bind ?_ (fun _ => ?_)
theorem spec_MakeAtom.mono : ∀ a0 a1 a2 k, LeO (spec_MakeAtom.f k a0 a1 a2) (spec_MakeAtom.f (k + 1) a0 a1 a2) := by
 intro a0 a1 a2 k
 have ih0 := spec_MakeAtom.mono_l k
 unfold spec_MakeAtom.f
 repeat' first
   | (with_reducible exact ih0 _ _ _ _)
   | (with_reducible exact spec_l2Atom.mono _ _ _ _)
   | (with_reducible exact LeO.refl _)
   | (with_reducible exact LeO.none _)
   | (with_reducible refine LeO.ite ?_ ?_)
   | (with_reducible refine LeO.bind ?_ (fun _ => ?_))
   | exact ih0 _ _ _ _
   | exact spec_l2Atom.mono _ _ _ _
   | exact LeO.none _
   | refine LeO.ite ?_ ?_
   | refine LeO.bind ?_ (fun _ => ?_)
set_option maxHeartbeats 8000000 in
set_option maxRecDepth 100000 in
theorem spec_MakeAtom.calls (k : Nat) (A0 : Option Addr) (c0 : Nat) (l0 : List Int) (a1 : Int) (a2 : Bool) (r1 : List Int) (r2 : Int) (r3 : Bool) (r4 : Bool) (w : World) (hr0 : Kd.C (Kd.int .i64) w A0 l0.length l0) (hc0 : l0.length ≤ c0) (h : spec_MakeAtom.f k l0 a1 a2 = some (r1, r2, r3, r4)) :
  Calls Tryd.prog 136 #[.slice A0 l0.length c0, .int .i64 a1, .bool a2] w fun e w' => ∃ v0_ : Value, e = .returned (.tuple #[.agg #[v0_, .int .i64 r2, .bool r3], .bool r4]) ∧ Kd.R (Kd.int .i64) 3 w' w.heap.size (fun _ => True) v0_ r1 ∧ Below w.heap.size w w' := by
 have hu27 := Tryd.underlying27
 have HR0 := Aside0.mk hr0
 have HC0 := Aside0.mk hc0
 clear hr0 hc0
 have HB := Aside0.mk (Below.refl w.heap.size w)
 have H : (spec_MakeAtom.l0 k l0 a1 a2 0) = some (r1, r2, r3, r4) := h
 clear h
 have H' := Aside0.mk H
 clear H
 go_enter Tryd.func136, Tryd.ntmps136
 go_wp2_with (first | ((with_reducible refine gate_dst (N := 6) rfl ?_); (try (refine gate_guard (by rfl) ?_; dsimp only)); refine bx_ (cs := #[.slice none 0 0, .int .i64 0, .bool false]) (t := 27) ?_; intro qg hg w4 hbox hb; have qc := Aside0.mk (hbox); have q2 := hz_ HB hg; have q3 := hz_ HB hg; replace HB := bS_ HB hb; clear hb hbox hg))
 go_loopg [8] k (fun kq v8 w' => ∃ (qe : Int) (qb : Int) (qa : Bool), v8 = .int .i64 qe ∧ Aside0 (spec_MakeAtom.l0 kq l0 a1 a2 qe = some (r1, r2, r3, r4)) ∧ Aside0 (kq ≤ k) ∧ Aside0 (w'.heap[qg]? = some (.cells #[(.slice none 0 0), .int .i64 qb, .bool qa] 27 (0, 0))) ∧ Aside0 (Below w.heap.size w w'))
 case atStart => exact ⟨(0), (0), (false), (by first | rfl | (simp; done) | (simp [*]; done)), H', ⟨Nat.le_refl _⟩, ⟨kf_ qc⟩, ⟨bb_ HB⟩⟩
 case round =>
  clear H'
  try clear c1
  try clear p2
  obtain ⟨qe, qb, qa, rfl, HA, HK1, qc, HB⟩ := hrel
  cases gk with
  | zero => exact absurd HA.out (by simp [spec_MakeAtom.l0])
  | succ k1 =>
   have H := HA.out
   clear HA
   simp only [spec_MakeAtom.l0] at H
   by_cases c5 : qe < (l0.length : Int)
   ·
    rw [if_pos c5] at H
    have qV : decide (qe < (l0.length : Int)) = true := decide_eq_true c5
    clear c5
    by_cases c6 : 0 ≤ qe
    rotate_left
    ·
     rw [if_neg c6] at H
     exact absurd H (by simp)
    rw [if_pos c6] at H
    have q8 : decide (0 ≤ qe) = true := decide_eq_true c6
    clear c6
    replace H := Option.bind_eq_some_iff.mp H
    obtain ⟨qq, A70, H⟩ := H
    replace H : (if qq = true then (spec_MakeAtom.l0 k1 l0 a1 a2 (wrap64 (qe + 1))) else (some (([] : List Int), 0, false, false))) = some (r1, r2, r3, r4) := H
    have A7 := Aside0.mk A70
    clear A70
    by_cases c8 : qq = true
    ·
     subst c8
     have H1 : (spec_MakeAtom.l0 k1 l0 a1 a2 (wrap64 (qe + 1))) = some (r1, r2, r3, r4) := by rw [if_pos rfl] at H; exact H
     clear H
     have H := H1
     clear H1
     have H' := Aside0.mk H
     clear H
     have p234 : 0 ≤ (qe : Int) := of_decide_eq_true (by first | (with_reducible assumption) | assumption)
     have q234 : qe < (l0.length : Int) := of_decide_eq_true (by first | (with_reducible assumption) | assumption)
     obtain ⟨qt, e234, qf⟩ := Kd.at_int HR0.out qe p234 q234
     cases e234
     replace qf := (HB.out.cell (World.block_lt_of_cell? w _ qf)).trans qf
     replace p234 := eq_true p234
     replace q234 := eq_true q234
     go_wp2_with (first | ((with_reducible refine gate_callee (f := 59) rfl ?_); refine gL_ (some 21) Tryd.func59 #[.int .i64 (rd l0 qe)] ?_; (with_reducible refine (spec_IsNumber.calls (rd l0 qe) true _ A7.out).mono ?_); rintro e w' ⟨rfl, ⟨nd, rfl⟩⟩; refine ⟨_, rfl, ?_⟩))
     go_roundg k1
     case measure => have := HK1.out; omega
     case rel => exact ⟨(wrap64 (qe + 1)), (qb), (qa), (by first | rfl | (simp; done) | (simp [*]; done)), H', ⟨by have := HK1.out; omega⟩, ⟨kf_ qc⟩, ⟨bb_ HB⟩⟩
    replace c8 := Bool.eq_false_iff.mpr c8
    subst c8
    have H1 : (some (([] : List Int), 0, false, false)) = some (r1, r2, r3, r4) := by rw [if_neg (show ¬ (false = true) by decide)] at H; exact H
    clear H
    have H := H1
    clear H1
    simp only [Option.some.injEq, Prod.mk.injEq] at H
    obtain ⟨rfl, rfl, rfl, rfl⟩ := H
    have p234 : 0 ≤ (qe : Int) := of_decide_eq_true (by first | (with_reducible assumption) | assumption)
    have q234 : qe < (l0.length : Int) := of_decide_eq_true (by first | (with_reducible assumption) | assumption)
    obtain ⟨qt, e234, qf⟩ := Kd.at_int HR0.out qe p234 q234
    cases e234
    replace qf := (HB.out.cell (World.block_lt_of_cell? w _ qf)).trans qf
    replace p234 := eq_true p234
    replace q234 := eq_true q234
    go_wp2_with (first | ((with_reducible refine gate_callee (f := 59) rfl ?_); refine gL_ (some 21) Tryd.func59 #[.int .i64 (rd l0 qe)] ?_; (with_reducible refine (spec_IsNumber.calls (rd l0 qe) false _ A7.out).mono ?_); rintro e w' ⟨rfl, ⟨nd, rfl⟩⟩; refine ⟨_, rfl, ?_⟩; (try (rw [drewN_self wr]; generalize hq_ : World.drewN wr _ = wr; have n0_ : Aside0 (wr.heap[qg]? = some (.cells #[.slice none 0 0, .int .i64 qb, .bool qa] 27 (0, 0))) := ⟨by rw [← hq_]; exact (kf_ qc)⟩; have n1_ : Aside0 (Below w.heap.size w wr) := ⟨by rw [← hq_]; exact (bb_ HB)⟩; clear qc HB hq_; have qc := n0_; have HB := n1_; clear n0_ n1_)); obtain ⟨qW, qX, qY, qZ, q0, q1⟩ := b3_ qc))
    refine bodyPost_ret (results_ct rfl _ _ qg 27 #[.slice none 0 0, .int .i64 0, .bool false] (0, 0) _ rfl (by (with_reducible repeat (first | refine blk_drewN ?_ _ | refine blk_drew ?_ | refine blk_alloc ?_ _)); refine blk_put (cs := #[.slice none 0 0, .int .i64 0, .bool qa]) ?_ 2 _ rfl; (with_reducible repeat (first | refine blk_drewN ?_ _ | refine blk_drew ?_ | refine blk_alloc ?_ _)); refine blk_put (cs := #[.slice none 0 0, .int .i64 qb, .bool qa]) ?_ 1 _ rfl; (with_reducible repeat (first | refine blk_drewN ?_ _ | refine blk_drew ?_ | refine blk_alloc ?_ _)); refine blk_put (cs := #[.slice none 0 0, .int .i64 qb, .bool qa]) ?_ 0 _ rfl; (with_reducible repeat (first | refine blk_drewN ?_ _ | refine blk_drew ?_ | refine blk_alloc ?_ _)); exact qc.out) Tryd.underlying27 rfl (by kernel_rfl)) rfl ?_
    exact ⟨_, by first | rfl | (simp [errW_none, errW_some] <;> rfl) | (simp [*, errW_none, errW_some] <;> rfl), by first | exact Kd.R_nil _ _ _ _ _ | exact Kd.N_nil _ _ _ _ _ | exact Kd.V_nil _ _ _ _ _ | exact Kd.Q_nil _ _ _ _ _ | exact Kd.S_nil _ _ _ _ _, bb_ HB⟩
   rw [if_neg c5] at H
   have qV : decide (qe < (l0.length : Int)) = false := decide_eq_false c5
   clear c5
   replace H := Option.bind_eq_some_iff.mp H
   obtain ⟨qr, A100, H⟩ := H
   replace H : (if qr = true then (if (l0.length : Int) > 4 then (some (([] : List Int), 0, false, false)) else ((spec_l2Atom.f k1 l0 a1 a2).bind fun qd => (some (qd.1, qd.2.1, qd.2.2.1, qd.2.2.2)))) else (some (([] : List Int), 0, false, false))) = some (r1, r2, r3, r4) := H
   have A10 := Aside0.mk A100
   clear A100
   by_cases c11 : qr = true
   rotate_left
   ·
    replace c11 := Bool.eq_false_iff.mpr c11
    subst c11
    have H1 : (some (([] : List Int), 0, false, false)) = some (r1, r2, r3, r4) := by rw [if_neg (show ¬ (false = true) by decide)] at H; exact H
    clear H
    have H := H1
    clear H1
    simp only [Option.some.injEq, Prod.mk.injEq] at H
    obtain ⟨rfl, rfl, rfl, rfl⟩ := H
    go_wp2_with (first | ((with_reducible refine gate_callee (f := 59) rfl ?_); refine gL_ (some 25) Tryd.func59 #[.int .i64 a1] ?_; (with_reducible refine (spec_IsNumber.calls a1 false _ A10.out).mono ?_); rintro e w' ⟨rfl, ⟨nd, rfl⟩⟩; refine ⟨_, rfl, ?_⟩; (try (rw [drewN_self wr]; generalize hq_ : World.drewN wr _ = wr; have n0_ : Aside0 (wr.heap[qg]? = some (.cells #[.slice none 0 0, .int .i64 qb, .bool qa] 27 (0, 0))) := ⟨by rw [← hq_]; exact (kf_ qc)⟩; have n1_ : Aside0 (Below w.heap.size w wr) := ⟨by rw [← hq_]; exact (bb_ HB)⟩; clear qc HB hq_; have qc := n0_; have HB := n1_; clear n0_ n1_)); obtain ⟨qx, qy, qz, qA, qB, qC⟩ := b3_ qc))
    refine bodyPost_ret (results_ct rfl _ _ qg 27 #[.slice none 0 0, .int .i64 0, .bool false] (0, 0) _ rfl (by (with_reducible repeat (first | refine blk_drewN ?_ _ | refine blk_drew ?_ | refine blk_alloc ?_ _)); refine blk_put (cs := #[.slice none 0 0, .int .i64 0, .bool qa]) ?_ 2 _ rfl; (with_reducible repeat (first | refine blk_drewN ?_ _ | refine blk_drew ?_ | refine blk_alloc ?_ _)); refine blk_put (cs := #[.slice none 0 0, .int .i64 qb, .bool qa]) ?_ 1 _ rfl; (with_reducible repeat (first | refine blk_drewN ?_ _ | refine blk_drew ?_ | refine blk_alloc ?_ _)); refine blk_put (cs := #[.slice none 0 0, .int .i64 qb, .bool qa]) ?_ 0 _ rfl; (with_reducible repeat (first | refine blk_drewN ?_ _ | refine blk_drew ?_ | refine blk_alloc ?_ _)); exact qc.out) Tryd.underlying27 rfl (by kernel_rfl)) rfl ?_
    exact ⟨_, by first | rfl | (simp [errW_none, errW_some] <;> rfl) | (simp [*, errW_none, errW_some] <;> rfl), by first | exact Kd.R_nil _ _ _ _ _ | exact Kd.N_nil _ _ _ _ _ | exact Kd.V_nil _ _ _ _ _ | exact Kd.Q_nil _ _ _ _ _ | exact Kd.S_nil _ _ _ _ _, bb_ HB⟩
   subst c11
   have H1 : (if (l0.length : Int) > 4 then (some (([] : List Int), 0, false, false)) else ((spec_l2Atom.f k1 l0 a1 a2).bind fun qd => (some (qd.1, qd.2.1, qd.2.2.1, qd.2.2.2)))) = some (r1, r2, r3, r4) := by rw [if_pos rfl] at H; exact H
   clear H
   have H := H1
   clear H1
   by_cases c12 : (l0.length : Int) > 4
   ·
    rw [if_pos c12] at H
    have qu : decide (4 < (l0.length : Int)) = true := decide_eq_true c12
    have qv : decide (4 < l0.length) = true := decide_eq_true (by omega)
    clear c12
    simp only [Option.some.injEq, Prod.mk.injEq] at H
    obtain ⟨rfl, rfl, rfl, rfl⟩ := H
    go_wp2_with (first | ((with_reducible refine gate_callee (f := 59) rfl ?_); refine gL_ (some 25) Tryd.func59 #[.int .i64 a1] ?_; (with_reducible refine (spec_IsNumber.calls a1 true _ A10.out).mono ?_); rintro e w' ⟨rfl, ⟨nd, rfl⟩⟩; refine ⟨_, rfl, ?_⟩; (try (rw [drewN_self wr]; generalize hq_ : World.drewN wr _ = wr; have n0_ : Aside0 (wr.heap[qg]? = some (.cells #[.slice none 0 0, .int .i64 qb, .bool qa] 27 (0, 0))) := ⟨by rw [← hq_]; exact (kf_ qc)⟩; have n1_ : Aside0 (Below w.heap.size w wr) := ⟨by rw [← hq_]; exact (bb_ HB)⟩; clear qc HB hq_; have qc := n0_; have HB := n1_; clear n0_ n1_)); obtain ⟨qD, qE, qF, qG, qH, qI⟩ := b3_ qc))
    refine bodyPost_ret (results_ct rfl _ _ qg 27 #[.slice none 0 0, .int .i64 0, .bool false] (0, 0) _ rfl (by (with_reducible repeat (first | refine blk_drewN ?_ _ | refine blk_drew ?_ | refine blk_alloc ?_ _)); refine blk_put (cs := #[.slice none 0 0, .int .i64 0, .bool qa]) ?_ 2 _ rfl; (with_reducible repeat (first | refine blk_drewN ?_ _ | refine blk_drew ?_ | refine blk_alloc ?_ _)); refine blk_put (cs := #[.slice none 0 0, .int .i64 qb, .bool qa]) ?_ 1 _ rfl; (with_reducible repeat (first | refine blk_drewN ?_ _ | refine blk_drew ?_ | refine blk_alloc ?_ _)); refine blk_put (cs := #[.slice none 0 0, .int .i64 qb, .bool qa]) ?_ 0 _ rfl; (with_reducible repeat (first | refine blk_drewN ?_ _ | refine blk_drew ?_ | refine blk_alloc ?_ _)); exact qc.out) Tryd.underlying27 rfl (by kernel_rfl)) rfl ?_
    exact ⟨_, by first | rfl | (simp [errW_none, errW_some] <;> rfl) | (simp [*, errW_none, errW_some] <;> rfl), by first | exact Kd.R_nil _ _ _ _ _ | exact Kd.N_nil _ _ _ _ _ | exact Kd.V_nil _ _ _ _ _ | exact Kd.Q_nil _ _ _ _ _ | exact Kd.S_nil _ _ _ _ _, bb_ HB⟩
   rw [if_neg c12] at H
   have qu : decide (4 < (l0.length : Int)) = false := decide_eq_false c12
   have qv : decide (4 < l0.length) = false := decide_eq_false (by omega)
   clear c12
   replace H := Option.bind_eq_some_iff.mp H
   obtain ⟨⟨qi, qk, qm, qw⟩, A140, H⟩ := H
   replace H : (some (qi, qk, qm, qw)) = some (r1, r2, r3, r4) := H
   have A14 := Aside0.mk A140
   clear A140
   simp only [Option.some.injEq, Prod.mk.injEq] at H
   obtain ⟨rfl, rfl, rfl, rfl⟩ := H
   go_wp2_with (first | ((with_reducible refine gate_callee (f := 59) rfl ?_); refine gL_ (some 25) Tryd.func59 #[.int .i64 a1] ?_; (with_reducible refine (spec_IsNumber.calls a1 true _ A10.out).mono ?_); rintro e w' ⟨rfl, ⟨nd, rfl⟩⟩; refine ⟨_, rfl, ?_⟩; (try (rw [drewN_self wr]; generalize hq_ : World.drewN wr _ = wr; have n0_ : Aside0 (wr.heap[qg]? = some (.cells #[.slice none 0 0, .int .i64 qb, .bool qa] 27 (0, 0))) := ⟨by rw [← hq_]; exact (kf_ qc)⟩; have n1_ : Aside0 (Below w.heap.size w wr) := ⟨by rw [← hq_]; exact (bb_ HB)⟩; clear qc HB hq_; have qc := n0_; have HB := n1_; clear n0_ n1_))) | ((with_reducible refine gate_callee (f := 144) rfl ?_); refine gL_ (some 37) Tryd.func144 #[.slice A0 l0.length c0, .int .i64 a1, .bool a2] ?_; (with_reducible refine (spec_l2Atom.calls k1 _ _ l0 a1 a2 qi qk qm qw _ ?side1 ?side2 A14.out).mono ?_); (case side1 => exact cb_ HR0 HB); (case side2 => exact HC0.out); rintro e za ⟨q9, rfl, ho0, hb⟩; refine ⟨_, rfl, ?_⟩; have qj := Aside0.mk (Kd.R_lower ho0 (bz_ HB)); replace qc := kB_ qc hb; replace HB := bS_ HB hb; clear hb ho0) | ((with_reducible refine gate_dst (N := 9) rfl ?_); (try (refine gate_guard (by rfl) ?_; dsimp only)); refine bx_ (cs := #[.slice none 0 0, .int .i64 0, .bool false]) (t := 27) ?_; intro qn hg zb hbox hb; replace qj := rB_ qj hb; have qs := Aside0.mk (hbox); have q4 := hz_ HB hg; have q5 := hz_ HB hg; replace HB := bS_ HB hb; have qh := nL_ qc hg; have ql := nG_ qc hg; replace qc := kB_ qc hb; clear hb hbox hg; obtain ⟨qo, qp, eo17⟩ := Kd.R_slice qj.out; subst eo17; have q6 := ql.out; have q7 := qh.out; obtain ⟨qJ, qK, qL, qM, qN, qO⟩ := b3_ qs; obtain ⟨qP, qQ, qR, qS, qT, qU⟩ := b3_ qc))
   refine bodyPost_ret (results_ct rfl _ _ qg 27 #[.slice qo qi.length qp, .int .i64 qk, .bool qm] (0, 0) _ rfl (by (with_reducible repeat (first | refine blk_drewN ?_ _ | refine blk_drew ?_ | refine blk_alloc ?_ _)); refine blk_put (cs := #[.slice qo qi.length qp, .int .i64 qk, .bool qa]) ?_ 2 _ rfl; (with_reducible repeat (first | refine blk_drewN ?_ _ | refine blk_drew ?_ | refine blk_alloc ?_ _)); refine blk_put (cs := #[.slice qo qi.length qp, .int .i64 qb, .bool qa]) ?_ 1 _ rfl; (with_reducible repeat (first | refine blk_drewN ?_ _ | refine blk_drew ?_ | refine blk_alloc ?_ _)); refine blk_put (cs := #[.slice none 0 0, .int .i64 qb, .bool qa]) ?_ 0 _ rfl; (with_reducible repeat (first | refine blk_drewN ?_ _ | refine blk_drew ?_ | refine blk_alloc ?_ _)); refine blk_far ?_ qh.out _; (with_reducible repeat (first | refine blk_drewN ?_ _ | refine blk_drew ?_ | refine blk_alloc ?_ _)); refine blk_far ?_ qh.out _; (with_reducible repeat (first | refine blk_drewN ?_ _ | refine blk_drew ?_ | refine blk_alloc ?_ _)); refine blk_far ?_ qh.out _; (with_reducible repeat (first | refine blk_drewN ?_ _ | refine blk_drew ?_ | refine blk_alloc ?_ _)); exact qc.out) Tryd.underlying27 rfl (by kernel_rfl)) rfl ?_
   exact ⟨_, by first | rfl | (simp [errW_none, errW_some] <;> rfl) | (simp [*, errW_none, errW_some] <;> rfl), by (with_reducible repeat (first | apply Kd.R_alloc | apply Kd.R_drewN | apply Kd.R_drew)); exact Kd.R_mono (Kd.R_far (p := ⟨qg, 2, none⟩) (Kd.R_far (p := ⟨qg, 1, none⟩) (Kd.R_far (p := ⟨qg, 0, none⟩) (Kd.R_far (p := ⟨qn, 2, none⟩) (Kd.R_far (p := ⟨qn, 1, none⟩) (Kd.R_far (p := ⟨qn, 0, none⟩) (Kd.R_types (Kd.R_types qj.out qs.out (by decide)) qc.out (by decide)) (fun _ hk => hk.1.2) (.slice qo qi.length qp)) (fun _ hk => hk.1.2) (.int .i64 qk)) (fun _ hk => hk.1.2) (.bool qm)) (fun _ hk => hk.2) (.slice qo qi.length qp)) (fun _ hk => hk.2) (.int .i64 qk)) (fun _ hk => hk.2) (.bool qm)) (fun _ hk => trivial), bb_ HB⟩

/-! ### spec_l2Draw: function 126 -/
def spec_l2Draw.l0 : Nat → Int → List Int → Int → List Int → Int → Int → Option (List Int × Int × Bool × Int × Int)
 | 0, _, _, _, _, _, _ => none
 | k + 1, x1, x5, x6, x1000, x1001, x1002 => if x6 < x1 then ((spec_l1Below.f x1000 x1001 x1002 5).bind fun qu => (if x5.length < 17592186044416 then (spec_l2Draw.l0 k x1 (x5 ++ [wrap64 (qu.1 - 2)]) (wrap64 (x6 + 1)) x1000 qu.2.1 qu.2.2) else (none))) else ((spec_l1Below.f x1000 x1001 x1002 13).bind fun qv => ((spec_l1Once.f x1000 qv.2.1 qv.2.2 3).bind fun qn => ((spec_MakeAtom.f k x5 (wrap64 (qv.1 - 6)) qn.1).bind fun qh => (some (qh.1, qh.2.1, qh.2.2.1, qn.2.1, qn.2.2)))))
def spec_l2Draw.f (k : Nat) (s0_0 : List Int) (s0_1 : Int) (s0_2 : Int) (a1 : Int) : Option (List Int × Int × Bool × Int × Int) := spec_l2Draw.l0 k a1 (([] : List Int)) 0 s0_0 s0_1 s0_2
theorem spec_l2Draw.mono_l : ∀ k, (∀ y0 y1 y2 y3 y4 y5, LeO (spec_l2Draw.l0 k y0 y1 y2 y3 y4 y5) (spec_l2Draw.l0 (k + 1) y0 y1 y2 y3 y4 y5))
 | 0 => fun _ _ _ _ _ _ r h => by simp [spec_l2Draw.l0] at h
 | k + 1 => by
  have ih0 := spec_l2Draw.mono_l k
  ·
   intro y0 y1 y2 y3 y4 y5
   unfold spec_l2Draw.l0
   repeat' first
   | (with_reducible exact ih0 _ _ _ _ _ _)
   | (with_reducible exact spec_MakeAtom.mono _ _ _ _)
   | (with_reducible exact LeO.refl _)
   | (with_reducible exact LeO.none _)
   | (with_reducible refine LeO.ite ?_ ?_)
   | (with_reducible refine LeO.bind ?_ (fun _ => ?_))
   | exact ih0 _ _ _ _ _ _
   | exact spec_MakeAtom.mono _ _ _ _
   | exact LeO.none _
   | refine LeO.ite ?_ ?_
   | refine LeO.bind ?_ (fun _ => ?_)
theorem spec_l2Draw.mono : ∀ a0 a1 a2 a3 k, LeO (spec_l2Draw.f k a0 a1 a2 a3) (spec_l2Draw.f (k + 1) a0 a1 a2 a3) := by
 intro a0 a1 a2 a3 k
 have ih0 := spec_l2Draw.mono_l k
 unfold spec_l2Draw.f
 repeat' first
   | (with_reducible exact ih0 _ _ _ _ _ _)
   | (with_reducible exact spec_MakeAtom.mono _ _ _ _)
   | (with_reducible exact LeO.refl _)
   | (with_reducible exact LeO.none _)
   | (with_reducible refine LeO.ite ?_ ?_)
   | (with_reducible refine LeO.bind ?_ (fun _ => ?_))
   | exact ih0 _ _ _ _ _ _
   | exact spec_MakeAtom.mono _ _ _ _
   | exact LeO.none _
   | refine LeO.ite ?_ ?_
   | refine LeO.bind ?_ (fun _ => ?_)
set_option maxHeartbeats 8000000 in
set_option maxRecDepth 100000 in
theorem spec_l2Draw.calls (k : Nat) (g : Nat) (s0_0 : List Int) (s0_1 : Int) (s0_2 : Int) (a1 : Int) (r1 : List Int) (r2 : Int) (r3 : Bool) (r4 : Int) (r5 : Int) (w0 w : World) (hI : IsS139 w0 w g s0_0 s0_1 s0_2) (hB : Below w0.heap.size w0 w) (h : spec_l2Draw.f k s0_0 s0_1 s0_2 a1 = some (r1, r2, r3, r4, r5)) :
  Calls Tryd.prog 126 #[.pointer (some ⟨g, 0, none⟩), .int .i64 a1] w fun e w' => ∃ v0_ : Value, e = .returned (.agg #[v0_, .int .i64 r2, .bool r3]) ∧ Kd.R (Kd.int .i64) 3 w' w.heap.size (fun _ => True) v0_ r1 ∧ IsS139 w0 w' g s0_0 r4 r5 ∧ Below w0.heap.size w0 w' ∧ KeepBut w w' g none := by
 have hu27 := Tryd.underlying27
 have HI0 := Aside0.mk hI
 have HK := Aside0.mk (KeepBut.refl w g none)
 have HL := Aside0.mk hB.size
 clear hI
 have HW0 := Aside0.mk hB.size
 have HB := Aside0.mk hB
 clear hB
 have H : (spec_l2Draw.l0 k a1 (([] : List Int)) 0 s0_0 s0_1 s0_2) = some (r1, r2, r3, r4, r5) := h
 clear h
 obtain ⟨y245, hy245⟩ : ∃ y_ : List Int, y_ = (([] : List Int)) := ⟨_, rfl⟩
 replace H : (spec_l2Draw.l0 k a1 y245 0 s0_0 s0_1 s0_2) = some (r1, r2, r3, r4, r5) := by first | (rw [hy245]; with_reducible exact H) | (have H2_ := (Option.bind_some _ _).symm.trans H; rw [hy245]; with_reducible exact H2_) | (have H2_ := (Option.bind_some _ _).symm.trans H; with_reducible exact H2_) | with_reducible exact H | (rw [hy245]; exact H) | exact H
 have Ny245 := Aside0.mk hy245
 clear hy245
 have H' := Aside0.mk H
 clear H
 go_enter Tryd.func126, Tryd.ntmps126
 go_wp2_with (first | ((with_reducible refine gate_dst (N := 4) rfl ?_); refine bx_ (cs := #[.slice none 0 0, .int .i64 0, .bool false]) (t := 27) ?_; intro qd hg w3 hbox hb; replace HB := Aside0.mk (below_step (by repeat (first | (with_reducible first | exact HB.out | apply below_alloc | apply pw_below_drewN | apply below_drew1 | refine below_set ?_ (IsS139.ge HI0.out)) | exact HB.out)) hb); have qb := Aside0.mk (hbox); have qc := Aside0.mk ((by rw [hg]; exact (keep_size (w := w) (g := g) (row := none) (by repeat (first | (with_reducible first | exact HK.out | apply KeepBut.set_ | apply keep_drewN | apply keep_drew | apply keep_alloc) | exact HK.out))) : w.heap.size ≤ qd)); have qj := Aside0.mk ((Nat.le_trans HW0.out (by rw [hg]; exact (keep_size (w := w) (g := g) (row := none) (by repeat (first | (with_reducible first | exact HK.out | apply KeepBut.set_ | apply keep_drewN | apply keep_drew | apply keep_alloc) | exact HK.out))) : w.heap.size ≤ qd) : w0.heap.size ≤ qd)); replace HK := Aside0.mk (KeepBut.trans (by repeat (first | (with_reducible first | exact HK.out | apply KeepBut.set_ | apply keep_drewN | apply keep_drew | apply keep_alloc) | exact HK.out)) (KeepBut.of_below hb g none) (.inl rfl)); have qa := Aside0.mk ((by rw [hg]; exact Nat.ne_of_lt (IsS139.lt (show IsS139 w0 _ g s0_0 s0_1 s0_2 from by repeat (first | (with_reducible first | exact HI0.out | apply IsS139.alloc | apply IsS139.drewN | apply IsS139.drew | apply IsS139.set_1 | apply IsS139.set_2) | exact HI0.out))) : g ≠ qd)); have qm := Aside0.mk ((by rw [hg]; exact Nat.ne_of_gt (IsS139.lt (show IsS139 w0 _ g s0_0 s0_1 s0_2 from by repeat (first | (with_reducible first | exact HI0.out | apply IsS139.alloc | apply IsS139.drewN | apply IsS139.drew | apply IsS139.set_1 | apply IsS139.set_2) | exact HI0.out))) : qd ≠ g)); replace HI0 := Aside0.mk (IsS139.below (by repeat (first | (with_reducible first | exact HI0.out | apply IsS139.alloc | apply IsS139.drewN | apply IsS139.drew | apply IsS139.set_1 | apply IsS139.set_2) | exact HI0.out)) hb); clear hb hbox hg) | ((with_reducible refine gate_dst (N := 9) rfl ?_); refine Kd.R_lit (Kd.int .i64) _ 3 ?hg (N := 9) ?hd (xs := ([] : List Int)) (inner := []) (ok := fun _ => True) (okp := fun _ => True) ?hr ?hp (fun _ hk => hk) trivial (Below.refl _ _) (Nat.le_refl _) (by simp) ?_; (case hd => rfl); (case hg => rfl); (case hr => first | (go_simp; done) | (go_simp; rfl)); (case hp => exact (Reps.none _ _)); intro za w4 ho5 hb hg_ hnew_; clear hg_ hnew_; (first | rw [← Ny245.out] at ho5 | (simp only [Int.reduceToNat] at ho5; rw [← Ny245.out] at ho5)); have qK := Aside0.mk (Kd.R_lower ho5 (keep_size (w := w) (g := g) (row := none) (by repeat (first | (with_reducible first | exact HK.out | apply KeepBut.set_ | apply keep_drewN | apply keep_drew | apply keep_alloc | refine keep_far ?_ qc.out _) | exact HK.out)))); replace qb := kB_ qb hb; replace HK := Aside0.mk (KeepBut.trans (by repeat (first | (with_reducible first | exact HK.out | apply KeepBut.set_ | apply keep_drewN | apply keep_drew | apply keep_alloc | refine keep_far ?_ qc.out _) | exact HK.out)) (KeepBut.of_below hb g none) (.inl rfl)); replace HB := Aside0.mk (below_step (by repeat (first | (with_reducible first | exact HB.out | apply below_alloc | apply pw_below_drewN | apply below_drew1 | refine below_set ?_ (IsS139.ge HI0.out) | refine below_set ?_ qj.out) | exact HB.out)) hb); replace HI0 := Aside0.mk (IsS139.below (by repeat (first | (with_reducible first | exact HI0.out | apply IsS139.alloc | apply IsS139.drewN | apply IsS139.drew | apply IsS139.set_1 | apply IsS139.set_2 | refine IsS139.far ?_ qa.out _) | exact HI0.out)) hb); clear hb ho5))
 go_loopg [5, 6] k (fun kq v5 v6 w' => ∃ (ql : List Int) (qo : Int) (qe : Int) (qf : Int), v6 = .int .i64 qo ∧ Aside0 (spec_l2Draw.l0 kq a1 ql qo s0_0 qe qf = some (r1, r2, r3, r4, r5)) ∧ Aside0 (kq ≤ k) ∧ Aside0 (Kd.R (Kd.int .i64) 3 w' w.heap.size (fun _ => True) v5 ql) ∧ Aside0 (w'.heap[qd]? = some (.cells #[(.slice none 0 0), .int .i64 0, .bool false] 27 (0, 0))) ∧ Aside0 (IsS139 w0 w' g s0_0 qe qf) ∧ Aside0 (KeepBut w w' g none) ∧ Aside0 (Below w0.heap.size w0 w'))
 case atStart => exact ⟨(y245), (0), (s0_1), (s0_2), (by first | rfl | (simp; done) | (simp [*]; done)), H', ⟨Nat.le_refl _⟩, ⟨by (with_reducible repeat (first | apply Kd.R_alloc | apply Kd.R_drewN | apply Kd.R_drew)); exact qK.out⟩, ⟨kf_ qb⟩, ⟨by repeat (first | (with_reducible first | exact HI0.out | apply IsS139.alloc | apply IsS139.drewN | apply IsS139.drew | apply IsS139.set_1 | apply IsS139.set_2 | refine IsS139.far ?_ qa.out _) | exact HI0.out)⟩, ⟨by repeat (first | (with_reducible first | exact HK.out | apply KeepBut.set_ | apply keep_drewN | apply keep_drew | apply keep_alloc | refine keep_far ?_ qc.out _) | exact HK.out)⟩, ⟨by repeat (first | (with_reducible first | exact HB.out | apply below_alloc | apply pw_below_drewN | apply below_drew1 | refine below_set ?_ (IsS139.ge HI0.out) | refine below_set ?_ qj.out) | exact HB.out)⟩⟩
 case round =>
  clear H'
  try clear c1
  try clear p2
  obtain ⟨ql, qo, qe, qf, rfl, HA, HK1, qg, qb, HI0, HK, HB⟩ := hrel
  cases gk with
  | zero => exact absurd HA.out (by simp [spec_l2Draw.l0])
  | succ k1 =>
   have H := HA.out
   clear HA
   simp only [spec_l2Draw.l0] at H
   by_cases c6 : qo < a1
   ·
    rw [if_pos c6] at H
    have q0 : decide (qo < a1) = true := decide_eq_true c6
    clear c6
    replace H := Option.bind_eq_some_iff.mp H
    obtain ⟨⟨qw, qD, qE⟩, A70, H⟩ := H
    replace H : (if ql.length < 17592186044416 then (spec_l2Draw.l0 k1 a1 (ql ++ [wrap64 (qw - 2)]) (wrap64 (qo + 1)) s0_0 qD qE) else (none)) = some (r1, r2, r3, r4, r5) := H
    have A7 := Aside0.mk A70
    clear A70
    by_cases c8 : ql.length < 17592186044416
    rotate_left
    ·
     rw [if_neg c8] at H
     exact absurd H (by simp)
    rw [if_pos c8] at H
    have LMc8 := Aside0.mk c8
    clear c8
    obtain ⟨y251, hy251⟩ : ∃ y_ : List Int, y_ = (ql ++ [wrap64 (qw - 2)]) := ⟨_, rfl⟩
    replace H : (spec_l2Draw.l0 k1 a1 y251 (wrap64 (qo + 1)) s0_0 qD qE) = some (r1, r2, r3, r4, r5) := by first | (rw [hy251]; with_reducible exact H) | (have H2_ := (Option.bind_some _ _).symm.trans H; rw [hy251]; with_reducible exact H2_) | (have H2_ := (Option.bind_some _ _).symm.trans H; with_reducible exact H2_) | with_reducible exact H | (rw [hy251]; exact H) | exact H
    have Ny251 := Aside0.mk hy251
    clear hy251
    have H' := Aside0.mk H
    clear H
    go_wp2_with (first | ((with_reducible refine gate_callee (f := 119) rfl ?_); refine gL_ (some 17) Tryd.func119 #[.pointer (some ⟨g, 0, none⟩), .int .i64 5] ?_; (with_reducible refine (spec_l1Below.calls g s0_0 qe qf 5 qw qD qE w0 _ ?side1 ?side2 A7.out).mono ?_); (case side1 => repeat (first | (with_reducible first | exact HI0.out | apply IsS139.alloc | apply IsS139.drewN | apply IsS139.drew | apply IsS139.set_1 | apply IsS139.set_2 | refine IsS139.far ?_ qa.out _) | exact HI0.out)); (case side2 => repeat (first | (with_reducible first | exact HB.out | apply below_alloc | apply pw_below_drewN | apply below_drew1 | refine below_set ?_ (IsS139.ge HI0.out) | refine below_set ?_ qj.out) | exact HB.out)); rintro e w9 ⟨rfl, hi, hb, hk⟩; refine ⟨_, rfl, ?_⟩; replace qg := Aside0.mk (Kd.R_mono (Kd.R_keep (IsS139.apart (show IsS139 w0 _ g s0_0 qe qf from by repeat (first | (with_reducible first | exact HI0.out | apply IsS139.alloc | apply IsS139.drewN | apply IsS139.drew | apply IsS139.set_1 | apply IsS139.set_2 | refine IsS139.far ?_ qa.out _) | exact HI0.out)) (rm_ qg) (by decide)) hk (fun _ h => h.2)) (fun _ h => h.1)); replace qb := Aside0.mk (KeepBut.blk hk (g' := qd) (o := .cells #[.slice none 0 0, .int .i64 0, .bool false] 27 (0, 0)) (kf_ qb) qm.out (by simp)); replace HK := Aside0.mk (KeepBut.trans (by repeat (first | (with_reducible first | exact HK.out | apply KeepBut.set_ | apply keep_drewN | apply keep_drew | apply keep_alloc | refine keep_far ?_ qc.out _) | exact HK.out)) hk (.inl rfl)); replace HB := Aside0.mk (hb); replace HI0 := Aside0.mk (hi); clear hb hk hi) | ((with_reducible refine gate_builtin (b := .append) (xs := #[.tmp 15, .tmp 19]) rfl ?_); at_builtin; refine Kd.R_append (Kd.int .i64) w.heap.size rfl (.tmp 15) (.tmp 19) 22 3 (.int .i64 0) 8 rfl Tryd.underlying22 info3 rfl (by decide) (by omega) u5 ql (wrap64 (qw - 2)) [.int .i64 (wrap64 (qw - 2))] (fun _ => True) (fun _ => False) rfl rfl ?aP (fun _ hk => hk.elim) ?aF ?aO (Below.refl _ _) ?aS ?aL ?_; (case aP => exact rfl); (case aF => exact (fun _ _ => trivial)); (case aO => exact (rm_ qg)); (case aS => exact (keep_size (w := w) (g := g) (row := none) (by repeat (first | (with_reducible first | exact HK.out | apply KeepBut.set_ | apply keep_drewN | apply keep_drew | apply keep_alloc | refine keep_far ?_ qc.out _) | exact HK.out)))); (case aL => have := LMc8.out; omega); intro zb zd ho hb hg hat; rw [← Ny251.out] at ho; replace qb := Aside0.mk (blk_grown (g := qd) (o := .cells #[.slice none 0 0, .int .i64 0, .bool false] 27 (0, 0)) (kf_ qb) hg (Kd.R_ne qg.out qb.out (by decide))); replace HB := Aside0.mk (below_weaken (by repeat (first | (with_reducible first | exact HB.out | apply below_alloc | apply pw_below_drewN | apply below_drew1 | refine below_set ?_ (IsS139.ge HI0.out) | refine below_set ?_ qj.out) | exact HB.out)) HL.out hb); replace HI0 := Aside0.mk (IsS139.grown (by repeat (first | (with_reducible first | exact HI0.out | apply IsS139.alloc | apply IsS139.drewN | apply IsS139.drew | apply IsS139.set_1 | apply IsS139.set_2 | refine IsS139.far ?_ qa.out _) | exact HI0.out)) hg (IsS139.own_ne HI0.out qg.out (by decide))); replace HK := Aside0.mk (KeepBut.trans (by repeat (first | (with_reducible first | exact HK.out | apply KeepBut.set_ | apply keep_drewN | apply keep_drew | apply keep_alloc | refine keep_far ?_ qc.out _) | exact HK.out)) (KeepBut.of_grown hg g) (Kd.R_base2 qg.out)); have qL := Aside0.mk (ho); clear qg; clear ho hb hg hat))
    go_roundg k1
    case measure => have := HK1.out; omega
    case rel => exact ⟨(y251), (wrap64 (qo + 1)), (qD), (qE), (by first | rfl | (simp; done) | (simp [*]; done)), H', ⟨by have := HK1.out; omega⟩, ⟨by (with_reducible repeat (first | apply Kd.R_alloc | apply Kd.R_drewN | apply Kd.R_drew)); exact qL.out⟩, ⟨kf_ qb⟩, ⟨by repeat (first | (with_reducible first | exact HI0.out | apply IsS139.alloc | apply IsS139.drewN | apply IsS139.drew | apply IsS139.set_1 | apply IsS139.set_2 | refine IsS139.far ?_ qa.out _) | exact HI0.out)⟩, ⟨by repeat (first | (with_reducible first | exact HK.out | apply KeepBut.set_ | apply keep_drewN | apply keep_drew | apply keep_alloc | refine keep_far ?_ qc.out _) | exact HK.out)⟩, ⟨by repeat (first | (with_reducible first | exact HB.out | apply below_alloc | apply pw_below_drewN | apply below_drew1 | refine below_set ?_ (IsS139.ge HI0.out) | refine below_set ?_ qj.out) | exact HB.out)⟩⟩
   rw [if_neg c6] at H
   have q0 : decide (qo < a1) = false := decide_eq_false c6
   clear c6
   replace H := Option.bind_eq_some_iff.mp H
   obtain ⟨⟨qx, qF, qG⟩, A110, H⟩ := H
   replace H : ((spec_l1Once.f s0_0 qF qG 3).bind fun qn => ((spec_MakeAtom.f k1 ql (wrap64 (qx - 6)) qn.1).bind fun qh => (some (qh.1, qh.2.1, qh.2.2.1, qn.2.1, qn.2.2)))) = some (r1, r2, r3, r4, r5) := H
   have A11 := Aside0.mk A110
   clear A110
   replace H := Option.bind_eq_some_iff.mp H
   obtain ⟨⟨qH, qy, qz⟩, A120, H⟩ := H
   replace H : ((spec_MakeAtom.f k1 ql (wrap64 (qx - 6)) qH).bind fun qh => (some (qh.1, qh.2.1, qh.2.2.1, qy, qz))) = some (r1, r2, r3, r4, r5) := H
   have A12 := Aside0.mk A120
   clear A120
   replace H := Option.bind_eq_some_iff.mp H
   obtain ⟨⟨qp, qs, qA, q1⟩, A130, H⟩ := H
   replace H : (some (qp, qs, qA, qy, qz)) = some (r1, r2, r3, r4, r5) := H
   have A13 := Aside0.mk A130
   clear A130
   simp only [Option.some.injEq, Prod.mk.injEq] at H
   obtain ⟨rfl, rfl, rfl, rfl, rfl⟩ := H
   go_wp2_with (first | ((with_reducible refine gate_callee (f := 119) rfl ?_); refine gL_ (some 24) Tryd.func119 #[.pointer (some ⟨g, 0, none⟩), .int .i64 13] ?_; (with_reducible refine (spec_l1Below.calls g s0_0 qe qf 13 qx qF qG w0 _ ?side1 ?side2 A11.out).mono ?_); (case side1 => repeat (first | (with_reducible first | exact HI0.out | apply IsS139.alloc | apply IsS139.drewN | apply IsS139.drew | apply IsS139.set_1 | apply IsS139.set_2 | refine IsS139.far ?_ qa.out _) | exact HI0.out)); (case side2 => repeat (first | (with_reducible first | exact HB.out | apply below_alloc | apply pw_below_drewN | apply below_drew1 | refine below_set ?_ (IsS139.ge HI0.out) | refine below_set ?_ qj.out) | exact HB.out)); rintro e ze ⟨rfl, hi, hb, hk⟩; refine ⟨_, rfl, ?_⟩; replace qg := Aside0.mk (Kd.R_mono (Kd.R_keep (IsS139.apart (show IsS139 w0 _ g s0_0 qe qf from by repeat (first | (with_reducible first | exact HI0.out | apply IsS139.alloc | apply IsS139.drewN | apply IsS139.drew | apply IsS139.set_1 | apply IsS139.set_2 | refine IsS139.far ?_ qa.out _) | exact HI0.out)) (rm_ qg) (by decide)) hk (fun _ h => h.2)) (fun _ h => h.1)); replace qb := Aside0.mk (KeepBut.blk hk (g' := qd) (o := .cells #[.slice none 0 0, .int .i64 0, .bool false] 27 (0, 0)) (kf_ qb) qm.out (by simp)); replace HK := Aside0.mk (KeepBut.trans (by repeat (first | (with_reducible first | exact HK.out | apply KeepBut.set_ | apply keep_drewN | apply keep_drew | apply keep_alloc | refine keep_far ?_ qc.out _) | exact HK.out)) hk (.inl rfl)); replace HB := Aside0.mk (hb); replace HI0 := Aside0.mk (hi); clear hb hk hi) | ((with_reducible refine gate_callee (f := 127) rfl ?_); refine gL_ (some 27) Tryd.func127 #[.pointer (some ⟨g, 0, none⟩), .int .i64 3] ?_; (with_reducible refine (spec_l1Once.calls g s0_0 qF qG 3 qH qy qz w0 _ ?side1 ?side2 A12.out).mono ?_); (case side1 => repeat (first | (with_reducible first | exact HI0.out | apply IsS139.alloc | apply IsS139.drewN | apply IsS139.drew | apply IsS139.set_1 | apply IsS139.set_2 | refine IsS139.far ?_ qa.out _) | exact HI0.out)); (case side2 => repeat (first | (with_reducible first | exact HB.out | apply below_alloc | apply pw_below_drewN | apply below_drew1 | refine below_set ?_ (IsS139.ge HI0.out) | refine below_set ?_ qj.out) | exact HB.out)); rintro e zf ⟨rfl, hi, hb, hk⟩; refine ⟨_, rfl, ?_⟩; replace qg := Aside0.mk (Kd.R_mono (Kd.R_keep (IsS139.apart (show IsS139 w0 _ g s0_0 qF qG from by repeat (first | (with_reducible first | exact HI0.out | apply IsS139.alloc | apply IsS139.drewN | apply IsS139.drew | apply IsS139.set_1 | apply IsS139.set_2 | refine IsS139.far ?_ qa.out _) | exact HI0.out)) (rm_ qg) (by decide)) hk (fun _ h => h.2)) (fun _ h => h.1)); replace qb := Aside0.mk (KeepBut.blk hk (g' := qd) (o := .cells #[.slice none 0 0, .int .i64 0, .bool false] 27 (0, 0)) (kf_ qb) qm.out (by simp)); replace HK := Aside0.mk (KeepBut.trans (by repeat (first | (with_reducible first | exact HK.out | apply KeepBut.set_ | apply keep_drewN | apply keep_drew | apply keep_alloc | refine keep_far ?_ qc.out _) | exact HK.out)) hk (.inl rfl)); replace HB := Aside0.mk (hb); replace HI0 := Aside0.mk (hi); clear hb hk hi; obtain ⟨q2, q3, eo16⟩ := Kd.R_slice qg.out; subst eo16) | ((with_reducible refine gate_callee (f := 136) rfl ?_); refine gL_ (some 28) Tryd.func136 #[.slice q2 ql.length q3, .int .i64 (wrap64 (qx - 6)), .bool qH] ?_; (with_reducible refine (spec_MakeAtom.calls k1 _ _ ql (wrap64 (qx - 6)) qH qp qs qA q1 _ ?side1 ?side2 A13.out).mono ?_); (case side1 => exact cr_ qg); (case side2 => exact (Kd.R_reads' qg.out).2.1); rintro e zg ⟨zc, rfl, ho0, hb⟩; refine ⟨_, rfl, ?_⟩; have qq := Aside0.mk (Kd.R_lower (Kd.R_new' ho0 (Kd.R_lt (rm_ qg))) (keep_size (w := w) (g := g) (row := none) (by repeat (first | (with_reducible first | exact HK.out | apply KeepBut.set_ | apply keep_drewN | apply keep_drew | apply keep_alloc | refine keep_far ?_ qc.out _) | exact HK.out)))); replace qg := Aside0.mk (Kd.R_elder' (rm_ qg) (Kd.R_base ho0) hb); replace qb := kB_ qb hb; replace HK := Aside0.mk (KeepBut.trans (by repeat (first | (with_reducible first | exact HK.out | apply KeepBut.set_ | apply keep_drewN | apply keep_drew | apply keep_alloc | refine keep_far ?_ qc.out _) | exact HK.out)) (KeepBut.of_below hb g none) (.inl rfl)); replace HB := Aside0.mk (below_step (by repeat (first | (with_reducible first | exact HB.out | apply below_alloc | apply pw_below_drewN | apply below_drew1 | refine below_set ?_ (IsS139.ge HI0.out) | refine below_set ?_ qj.out) | exact HB.out)) hb); replace HI0 := Aside0.mk (IsS139.below (by repeat (first | (with_reducible first | exact HI0.out | apply IsS139.alloc | apply IsS139.drewN | apply IsS139.drew | apply IsS139.set_1 | apply IsS139.set_2 | refine IsS139.far ?_ qa.out _) | exact HI0.out)) hb); clear hb ho0) | ((with_reducible refine gate_dst (N := 7) rfl ?_); refine bx_ (cs := #[.slice none 0 0, .int .i64 0, .bool false]) (t := 27) ?_; intro qk hg zh hbox hb; replace qg := rB_ qg hb; replace qq := rB_ qq hb; replace HB := Aside0.mk (below_step (by repeat (first | (with_reducible first | exact HB.out | apply below_alloc | apply pw_below_drewN | apply below_drew1 | refine below_set ?_ (IsS139.ge HI0.out) | refine below_set ?_ qj.out) | exact HB.out)) hb); have qJ := Aside0.mk (hbox); have qM := Aside0.mk ((by rw [hg]; exact (keep_size (w := w) (g := g) (row := none) (by repeat (first | (with_reducible first | exact HK.out | apply KeepBut.set_ | apply keep_drewN | apply keep_drew | apply keep_alloc | refine keep_far ?_ qc.out _) | exact HK.out))) : w.heap.size ≤ qk)); have qN := Aside0.mk ((Nat.le_trans HW0.out (by rw [hg]; exact (keep_size (w := w) (g := g) (row := none) (by repeat (first | (with_reducible first | exact HK.out | apply KeepBut.set_ | apply keep_drewN | apply keep_drew | apply keep_alloc | refine keep_far ?_ qc.out _) | exact HK.out))) : w.heap.size ≤ qk) : w0.heap.size ≤ qk)); replace HK := Aside0.mk (KeepBut.trans (by repeat (first | (with_reducible first | exact HK.out | apply KeepBut.set_ | apply keep_drewN | apply keep_drew | apply keep_alloc | refine keep_far ?_ qc.out _) | exact HK.out)) (KeepBut.of_below hb g none) (.inl rfl)); have qi := nL_ qb hg; have qt := nG_ qb hg; replace qb := kB_ qb hb; have qr := Aside0.mk ((by rw [hg]; exact Nat.ne_of_lt (IsS139.lt (show IsS139 w0 _ g s0_0 qy qz from by repeat (first | (with_reducible first | exact HI0.out | apply IsS139.alloc | apply IsS139.drewN | apply IsS139.drew | apply IsS139.set_1 | apply IsS139.set_2 | refine IsS139.far ?_ qa.out _) | exact HI0.out))) : g ≠ qk)); have qI := Aside0.mk ((by rw [hg]; exact Nat.ne_of_gt (IsS139.lt (show IsS139 w0 _ g s0_0 qy qz from by repeat (first | (with_reducible first | exact HI0.out | apply IsS139.alloc | apply IsS139.drewN | apply IsS139.drew | apply IsS139.set_1 | apply IsS139.set_2 | refine IsS139.far ?_ qa.out _) | exact HI0.out))) : qk ≠ g)); replace HI0 := Aside0.mk (IsS139.below (by repeat (first | (with_reducible first | exact HI0.out | apply IsS139.alloc | apply IsS139.drewN | apply IsS139.drew | apply IsS139.set_1 | apply IsS139.set_2 | refine IsS139.far ?_ qa.out _) | exact HI0.out)) hb); clear hb hbox hg; obtain ⟨qB, qC, eo19⟩ := Kd.R_slice qq.out; subst eo19; have q4 := qt.out; have q5 := qi.out; have q6 := qI.out; have q7 := qr.out; obtain ⟨qO, qP, qQ, qR, qS, qT⟩ := b3_ qJ; have q8 := qm.out; have q9 := qa.out; obtain ⟨qU, qV, qW, qX, qY, qZ⟩ := b3_ qb))
   refine bodyPost_ret (results_cell_row rfl _ _ qd 27 #[.slice qB qp.length qC, .int .i64 qs, .bool qA] (0, 0) _ rfl (by (with_reducible repeat (first | refine blk_drewN ?_ _ | refine blk_drew ?_ | refine blk_alloc ?_ _)); refine blk_put (cs := #[.slice qB qp.length qC, .int .i64 qs, .bool false]) ?_ 2 _ rfl; (with_reducible repeat (first | refine blk_drewN ?_ _ | refine blk_drew ?_ | refine blk_alloc ?_ _)); refine blk_put (cs := #[.slice qB qp.length qC, .int .i64 0, .bool false]) ?_ 1 _ rfl; (with_reducible repeat (first | refine blk_drewN ?_ _ | refine blk_drew ?_ | refine blk_alloc ?_ _)); refine blk_put (cs := #[.slice none 0 0, .int .i64 0, .bool false]) ?_ 0 _ rfl; (with_reducible repeat (first | refine blk_drewN ?_ _ | refine blk_drew ?_ | refine blk_alloc ?_ _)); refine blk_far ?_ qi.out _; (with_reducible repeat (first | refine blk_drewN ?_ _ | refine blk_drew ?_ | refine blk_alloc ?_ _)); refine blk_far ?_ qi.out _; (with_reducible repeat (first | refine blk_drewN ?_ _ | refine blk_drew ?_ | refine blk_alloc ?_ _)); refine blk_far ?_ qi.out _; (with_reducible repeat (first | refine blk_drewN ?_ _ | refine blk_drew ?_ | refine blk_alloc ?_ _)); exact qb.out) Tryd.underlying27 rfl (by kernel_rfl)) rfl ?_
   exact ⟨_, by first | rfl | (simp [errW_none, errW_some] <;> rfl) | (simp [*, errW_none, errW_some] <;> rfl), by (with_reducible repeat (first | apply Kd.R_alloc | apply Kd.R_drewN | apply Kd.R_drew)); exact Kd.R_mono (Kd.R_far (p := ⟨qd, 2, none⟩) (Kd.R_far (p := ⟨qd, 1, none⟩) (Kd.R_far (p := ⟨qd, 0, none⟩) (Kd.R_far (p := ⟨qk, 2, none⟩) (Kd.R_far (p := ⟨qk, 1, none⟩) (Kd.R_far (p := ⟨qk, 0, none⟩) (Kd.R_types (Kd.R_types qq.out qJ.out (by decide)) qb.out (by decide)) (fun _ hk => hk.1.2) (.slice qB qp.length qC)) (fun _ hk => hk.1.2) (.int .i64 qs)) (fun _ hk => hk.1.2) (.bool qA)) (fun _ hk => hk.2) (.slice qB qp.length qC)) (fun _ hk => hk.2) (.int .i64 qs)) (fun _ hk => hk.2) (.bool qA)) (fun _ hk => trivial), by repeat (first | (with_reducible first | exact HI0.out | apply IsS139.alloc | apply IsS139.drewN | apply IsS139.drew | apply IsS139.set_1 | apply IsS139.set_2 | refine IsS139.far ?_ qa.out _ | refine IsS139.far ?_ qr.out _) | exact HI0.out), by repeat (first | (with_reducible first | exact HB.out | apply below_alloc | apply pw_below_drewN | apply below_drew1 | refine below_set ?_ (IsS139.ge HI0.out) | refine below_set ?_ qj.out | refine below_set ?_ qN.out) | exact HB.out), by repeat (first | (with_reducible first | exact HK.out | apply KeepBut.set_ | apply keep_drewN | apply keep_drew | apply keep_alloc | refine keep_far ?_ qc.out _ | refine keep_far ?_ qM.out _) | exact HK.out)⟩

/-! ### spec_l2Atoms: function 107 -/
def spec_l2Atoms.f (k : Nat) (s0_0 : List Int) (s0_1 : Int) (s0_2 : Int) : Option (List Int × Int × Bool × Int × Int) := (spec_l1Below.f s0_0 s0_1 s0_2 4).bind fun qg => ((spec_l2Draw.f k s0_0 qg.2.1 qg.2.2 qg.1).bind fun qb => ((spec_l2Spoil.f s0_0 qb.2.2.2.1 qb.2.2.2.2 qb.1 qb.2.1 qb.2.2.1).bind fun qa => (some (qa.1, qa.2.1, qa.2.2.1, qa.2.2.2.1, qa.2.2.2.2))))
theorem spec_l2Atoms.mono : ∀ a0 a1 a2 k, LeO (spec_l2Atoms.f k a0 a1 a2) (spec_l2Atoms.f (k + 1) a0 a1 a2) := by
 intro a0 a1 a2 k
 unfold spec_l2Atoms.f
 repeat' first
   | (with_reducible exact spec_l2Draw.mono _ _ _ _ _)
   | (with_reducible exact LeO.refl _)
   | (with_reducible exact LeO.none _)
   | (with_reducible refine LeO.ite ?_ ?_)
   | (with_reducible refine LeO.bind ?_ (fun _ => ?_))
   | exact spec_l2Draw.mono _ _ _ _ _
   | exact LeO.none _
   | refine LeO.ite ?_ ?_
   | refine LeO.bind ?_ (fun _ => ?_)
set_option maxHeartbeats 8000000 in
set_option maxRecDepth 100000 in
theorem spec_l2Atoms.calls (k : Nat) (g : Nat) (s0_0 : List Int) (s0_1 : Int) (s0_2 : Int) (r1 : List Int) (r2 : Int) (r3 : Bool) (r4 : Int) (r5 : Int) (w0 w : World) (hI : IsS139 w0 w g s0_0 s0_1 s0_2) (hB : Below w0.heap.size w0 w) (h : spec_l2Atoms.f k s0_0 s0_1 s0_2 = some (r1, r2, r3, r4, r5)) :
  Calls Tryd.prog 107 #[.pointer (some ⟨g, 0, none⟩)] w fun e w' => ∃ v0_ : Value, e = .returned (.agg #[v0_, .int .i64 r2, .bool r3]) ∧ Kd.R (Kd.int .i64) 3 w' w.heap.size (fun _ => True) v0_ r1 ∧ IsS139 w0 w' g s0_0 r4 r5 ∧ Below w0.heap.size w0 w' ∧ KeepBut w w' g none := by
 have hu27 := Tryd.underlying27
 have HI0 := Aside0.mk hI
 have HK := Aside0.mk (KeepBut.refl w g none)
 have HL := Aside0.mk hB.size
 clear hI
 have HW0 := Aside0.mk hB.size
 have HB := Aside0.mk hB
 clear hB
 have H : ((spec_l1Below.f s0_0 s0_1 s0_2 4).bind fun qg => ((spec_l2Draw.f k s0_0 qg.2.1 qg.2.2 qg.1).bind fun qb => ((spec_l2Spoil.f s0_0 qb.2.2.2.1 qb.2.2.2.2 qb.1 qb.2.1 qb.2.2.1).bind fun qa => (some (qa.1, qa.2.1, qa.2.2.1, qa.2.2.2.1, qa.2.2.2.2))))) = some (r1, r2, r3, r4, r5) := h
 clear h
 replace H := Option.bind_eq_some_iff.mp H
 obtain ⟨⟨qn, qu, qv⟩, A20, H⟩ := H
 replace H : ((spec_l2Draw.f k s0_0 qu qv qn).bind fun qb => ((spec_l2Spoil.f s0_0 qb.2.2.2.1 qb.2.2.2.2 qb.1 qb.2.1 qb.2.2.1).bind fun qa => (some (qa.1, qa.2.1, qa.2.2.1, qa.2.2.2.1, qa.2.2.2.2)))) = some (r1, r2, r3, r4, r5) := H
 have A2 := Aside0.mk A20
 clear A20
 replace H := Option.bind_eq_some_iff.mp H
 obtain ⟨⟨qk, qo, qp, qw, qx⟩, A30, H⟩ := H
 replace H : ((spec_l2Spoil.f s0_0 qw qx qk qo qp).bind fun qa => (some (qa.1, qa.2.1, qa.2.2.1, qa.2.2.2.1, qa.2.2.2.2))) = some (r1, r2, r3, r4, r5) := H
 have A3 := Aside0.mk A30
 clear A30
 replace H := Option.bind_eq_some_iff.mp H
 obtain ⟨⟨ql, qm, qq, qy, qz⟩, A40, H⟩ := H
 replace H : (some (ql, qm, qq, qy, qz)) = some (r1, r2, r3, r4, r5) := H
 have A4 := Aside0.mk A40
 clear A40
 simp only [Option.some.injEq, Prod.mk.injEq] at H
 obtain ⟨rfl, rfl, rfl, rfl, rfl⟩ := H
 go_enter Tryd.func107, Tryd.ntmps107
 go_wp2_with (first | ((with_reducible refine gate_dst (N := 2) rfl ?_); refine bx_ (cs := #[.slice none 0 0, .int .i64 0, .bool false]) (t := 27) ?_; intro qc hg w5 hbox hb; replace HB := Aside0.mk (below_step (by repeat (first | (with_reducible first | exact HB.out | apply below_alloc | apply pw_below_drewN | apply below_drew1 | refine below_set ?_ (IsS139.ge HI0.out)) | exact HB.out)) hb); have qd := Aside0.mk (hbox); have qh := Aside0.mk ((by rw [hg]; exact (keep_size (w := w) (g := g) (row := none) (by repeat (first | (with_reducible first | exact HK.out | apply KeepBut.set_ | apply keep_drewN | apply keep_drew | apply keep_alloc) | exact HK.out))) : w.heap.size ≤ qc)); have qj := Aside0.mk ((Nat.le_trans HW0.out (by rw [hg]; exact (keep_size (w := w) (g := g) (row := none) (by repeat (first | (with_reducible first | exact HK.out | apply KeepBut.set_ | apply keep_drewN | apply keep_drew | apply keep_alloc) | exact HK.out))) : w.heap.size ≤ qc) : w0.heap.size ≤ qc)); replace HK := Aside0.mk (KeepBut.trans (by repeat (first | (with_reducible first | exact HK.out | apply KeepBut.set_ | apply keep_drewN | apply keep_drew | apply keep_alloc) | exact HK.out)) (KeepBut.of_below hb g none) (.inl rfl)); have qe := Aside0.mk ((by rw [hg]; exact Nat.ne_of_lt (IsS139.lt (show IsS139 w0 _ g s0_0 s0_1 s0_2 from by repeat (first | (with_reducible first | exact HI0.out | apply IsS139.alloc | apply IsS139.drewN | apply IsS139.drew | apply IsS139.set_1 | apply IsS139.set_2) | exact HI0.out))) : g ≠ qc)); have qf := Aside0.mk ((by rw [hg]; exact Nat.ne_of_gt (IsS139.lt (show IsS139 w0 _ g s0_0 s0_1 s0_2 from by repeat (first | (with_reducible first | exact HI0.out | apply IsS139.alloc | apply IsS139.drewN | apply IsS139.drew | apply IsS139.set_1 | apply IsS139.set_2) | exact HI0.out))) : qc ≠ g)); replace HI0 := Aside0.mk (IsS139.below (by repeat (first | (with_reducible first | exact HI0.out | apply IsS139.alloc | apply IsS139.drewN | apply IsS139.drew | apply IsS139.set_1 | apply IsS139.set_2) | exact HI0.out)) hb); clear hb hbox hg) | ((with_reducible refine gate_callee (f := 119) rfl ?_); refine gL_ (some 6) Tryd.func119 #[.pointer (some ⟨g, 0, none⟩), .int .i64 4] ?_; (with_reducible refine (spec_l1Below.calls g s0_0 s0_1 s0_2 4 qn qu qv w0 _ ?side1 ?side2 A2.out).mono ?_); (case side1 => repeat (first | (with_reducible first | exact HI0.out | apply IsS139.alloc | apply IsS139.drewN | apply IsS139.drew | apply IsS139.set_1 | apply IsS139.set_2 | refine IsS139.far ?_ qe.out _) | exact HI0.out)); (case side2 => repeat (first | (with_reducible first | exact HB.out | apply below_alloc | apply pw_below_drewN | apply below_drew1 | refine below_set ?_ (IsS139.ge HI0.out) | refine below_set ?_ qj.out) | exact HB.out)); rintro e w6 ⟨rfl, hi, hb, hk⟩; refine ⟨_, rfl, ?_⟩; replace qd := Aside0.mk (KeepBut.blk hk (g' := qc) (o := .cells #[.slice none 0 0, .int .i64 0, .bool false] 27 (0, 0)) (kf_ qd) qf.out (by simp)); replace HK := Aside0.mk (KeepBut.trans (by repeat (first | (with_reducible first | exact HK.out | apply KeepBut.set_ | apply keep_drewN | apply keep_drew | apply keep_alloc | refine keep_far ?_ qh.out _) | exact HK.out)) hk (.inl rfl)); replace HB := Aside0.mk (hb); replace HI0 := Aside0.mk (hi); clear hb hk hi) | ((with_reducible refine gate_callee (f := 126) rfl ?_); refine gL_ (some 7) Tryd.func126 #[.pointer (some ⟨g, 0, none⟩), .int .i64 qn] ?_; (with_reducible refine (spec_l2Draw.calls k g s0_0 qu qv qn qk qo qp qw qx w0 _ ?side1 ?side2 A3.out).mono ?_); (case side1 => repeat (first | (with_reducible first | exact HI0.out | apply IsS139.alloc | apply IsS139.drewN | apply IsS139.drew | apply IsS139.set_1 | apply IsS139.set_2 | refine IsS139.far ?_ qe.out _) | exact HI0.out)); (case side2 => repeat (first | (with_reducible first | exact HB.out | apply below_alloc | apply pw_below_drewN | apply below_drew1 | refine below_set ?_ (IsS139.ge HI0.out) | refine below_set ?_ qj.out) | exact HB.out)); rintro e w7 ⟨qK, rfl, ho0, hi, hb, hk⟩; refine ⟨_, rfl, ?_⟩; replace qd := Aside0.mk (KeepBut.blk hk (g' := qc) (o := .cells #[.slice none 0 0, .int .i64 0, .bool false] 27 (0, 0)) (kf_ qd) qf.out (by simp)); have qi := Aside0.mk (Kd.R_lower ho0 (keep_size (w := w) (g := g) (row := none) (by repeat (first | (with_reducible first | exact HK.out | apply KeepBut.set_ | apply keep_drewN | apply keep_drew | apply keep_alloc | refine keep_far ?_ qh.out _) | exact HK.out)))); replace HK := Aside0.mk (KeepBut.trans (by repeat (first | (with_reducible first | exact HK.out | apply KeepBut.set_ | apply keep_drewN | apply keep_drew | apply keep_alloc | refine keep_far ?_ qh.out _) | exact HK.out)) hk (.inl rfl)); replace HB := Aside0.mk (hb); replace HI0 := Aside0.mk (hi); clear hb hk hi ho0; obtain ⟨qG, qH, eo8⟩ := Kd.R_slice qi.out; subst eo8) | ((with_reducible refine gate_callee (f := 125) rfl ?_); refine gL_ (some 8) Tryd.func125 #[.pointer (some ⟨g, 0, none⟩), .agg #[.slice qG qk.length qH, .int .i64 qo, .bool qp]] ?_; (with_reducible refine (spec_l2Spoil.calls g s0_0 qw qx (fun k_ => some k_ = (.slice qG qk.length qH : Value).ownBlock) (.slice qG qk.length qH) qk qo qp ql qm qq qy qz w0 _ ?side1 ?side2 ?side3 A4.out).mono ?_); (case side1 => repeat (first | (with_reducible first | exact HI0.out | apply IsS139.alloc | apply IsS139.drewN | apply IsS139.drew | apply IsS139.set_1 | apply IsS139.set_2 | refine IsS139.far ?_ qe.out _) | exact HI0.out)); (case side2 => repeat (first | (with_reducible first | exact HB.out | apply below_alloc | apply pw_below_drewN | apply below_drew1 | refine below_set ?_ (IsS139.ge HI0.out) | refine below_set ?_ qj.out) | exact HB.out)); (case side3 => exact Kd.R_lower (Kd.R_tight rfl qi.out) HL.out); rintro e w9 ⟨qL, rfl, ho0, hi, hb, hkp⟩; refine ⟨_, rfl, ?_⟩; replace HI0 := Aside0.mk (hi); replace qd := Aside0.mk (blk_kept (kf_ qd) hkp (fun hs_ => Or.elim hs_ (fun hs_ => (fun e_ => (Kd.R_ne qi.out qd.out (by decide)) e_) hs_) (fun e_ => qf.out e_))); have qt := Aside0.mk (Kd.R_mono (ok' := fun k_ => True) (Kd.R_raise (d := (Kd.int .i64)) (b := w0.heap.size) (b' := w.heap.size) (fun _ _ _ _ h_ => h_) ho0 (fun k_ e_ => Or.elim (ho0.1 k_ e_) (fun hs_ => (fun e_ => Kd.R_base qi.out k_ e_.symm) hs_) (fun hn_ => Nat.le_trans (keep_size (w := w) (g := g) (row := none) (by repeat (first | (with_reducible first | exact HK.out | apply KeepBut.set_ | apply keep_drewN | apply keep_drew | apply keep_alloc | refine keep_far ?_ qh.out _) | exact HK.out))) hn_))) (fun k_ hk_ => trivial)); replace HK := Aside0.mk (Kept.keepG (by repeat (first | (with_reducible first | exact HK.out | apply KeepBut.set_ | apply keep_drewN | apply keep_drew | apply keep_alloc | refine keep_far ?_ qh.out _) | exact HK.out)) hkp (fun k_ hs_ => Or.elim hs_ (fun hs_ => (fun e_ => .inr (Kd.R_base qi.out k_ e_.symm)) hs_) (fun e_ => .inl e_))); replace HB := Aside0.mk (hb); clear qi; clear hb hkp ho0; obtain ⟨qr, qs, eo10⟩ := Kd.R_slice qt.out; subst eo10; have qI := qf.out; have qJ := qe.out; obtain ⟨qA, qB, qC, qD, qE, qF⟩ := b3_ qd))
 refine bodyPost_ret (results_cell_row rfl _ _ qc 27 #[.slice qr ql.length qs, .int .i64 qm, .bool qq] (0, 0) _ rfl (by (with_reducible repeat (first | refine blk_drewN ?_ _ | refine blk_drew ?_ | refine blk_alloc ?_ _)); refine blk_put (cs := #[.slice qr ql.length qs, .int .i64 qm, .bool false]) ?_ 2 _ rfl; (with_reducible repeat (first | refine blk_drewN ?_ _ | refine blk_drew ?_ | refine blk_alloc ?_ _)); refine blk_put (cs := #[.slice qr ql.length qs, .int .i64 0, .bool false]) ?_ 1 _ rfl; (with_reducible repeat (first | refine blk_drewN ?_ _ | refine blk_drew ?_ | refine blk_alloc ?_ _)); refine blk_put (cs := #[.slice none 0 0, .int .i64 0, .bool false]) ?_ 0 _ rfl; (with_reducible repeat (first | refine blk_drewN ?_ _ | refine blk_drew ?_ | refine blk_alloc ?_ _)); exact qd.out) Tryd.underlying27 rfl (by kernel_rfl)) rfl ?_
 exact ⟨_, by first | rfl | (simp [errW_none, errW_some] <;> rfl) | (simp [*, errW_none, errW_some] <;> rfl), by (with_reducible repeat (first | apply Kd.R_alloc | apply Kd.R_drewN | apply Kd.R_drew)); exact Kd.R_mono (Kd.R_far (p := ⟨qc, 2, none⟩) (Kd.R_far (p := ⟨qc, 1, none⟩) (Kd.R_far (p := ⟨qc, 0, none⟩) (Kd.R_types qt.out qd.out (by decide)) (fun _ hk => hk.2) (.slice qr ql.length qs)) (fun _ hk => hk.2) (.int .i64 qm)) (fun _ hk => hk.2) (.bool qq)) (fun _ hk => trivial), by repeat (first | (with_reducible first | exact HI0.out | apply IsS139.alloc | apply IsS139.drewN | apply IsS139.drew | apply IsS139.set_1 | apply IsS139.set_2 | refine IsS139.far ?_ qe.out _) | exact HI0.out), by repeat (first | (with_reducible first | exact HB.out | apply below_alloc | apply pw_below_drewN | apply below_drew1 | refine below_set ?_ (IsS139.ge HI0.out) | refine below_set ?_ qj.out) | exact HB.out), by repeat (first | (with_reducible first | exact HK.out | apply KeepBut.set_ | apply keep_drewN | apply keep_drew | apply keep_alloc | refine keep_far ?_ qh.out _) | exact HK.out)⟩

/-! ### spec_GcdOf: function 81 -/
mutual
def spec_GcdOf.j0 : Nat → Int → Int → Bool → Option (Int)
 | 0, _, _, _ => none
 | k + 1, x0, x1, x12 => if x12 = true then (some 0) else (spec_GcdOf.l0 k x0 x1)
def spec_GcdOf.l0 : Nat → Int → Int → Option (Int)
 | 0, _, _ => none
 | k + 1, x0, x1 => if x1 = 0 then ((spec_l1Abs.f x0).bind fun qe => (some qe)) else (spec_GcdOf.l0 k x1 (Int.tmod x0 x1))
end
def spec_GcdOf.f (k : Nat) (a0 : Int) (a1 : Int) : Option (Int) := (spec_IsNumber.f a0).bind fun qf => (if qf = true then ((spec_IsNumber.f a1).bind fun qa => (spec_GcdOf.j0 k a0 a1 (!qa))) else (spec_GcdOf.j0 k a0 a1 true))
theorem spec_GcdOf.mono_l : ∀ k, (∀ y0 y1 y2, LeO (spec_GcdOf.j0 k y0 y1 y2) (spec_GcdOf.j0 (k + 1) y0 y1 y2)) ∧ (∀ y0 y1, LeO (spec_GcdOf.l0 k y0 y1) (spec_GcdOf.l0 (k + 1) y0 y1))
 | 0 => ⟨fun _ _ _ r h => by simp [spec_GcdOf.j0] at h, fun _ _ r h => by simp [spec_GcdOf.l0] at h⟩
 | k + 1 => by
  obtain ⟨ih0, ih1⟩ := spec_GcdOf.mono_l k
  refine ⟨?_, ?_⟩ <;> (intros; first | unfold spec_GcdOf.j0 | unfold spec_GcdOf.l0)
  all_goals
   repeat' first
   | (with_reducible exact ih0 _ _ _)
   | (with_reducible exact ih1 _ _)
   | (with_reducible exact LeO.refl _)
   | (with_reducible exact LeO.none _)
   | (with_reducible refine LeO.ite ?_ ?_)
   | (with_reducible refine LeO.bind ?_ (fun _ => ?_))
   | exact ih0 _ _ _
   | exact ih1 _ _
   | exact LeO.none _
   | refine LeO.ite ?_ ?_
   | refine LeO.bind ?_ (fun _ => ?_)
theorem spec_GcdOf.mono : ∀ a0 a1 k, LeO (spec_GcdOf.f k a0 a1) (spec_GcdOf.f (k + 1) a0 a1) := by
 intro a0 a1 k
 obtain ⟨ih0, ih1⟩ := spec_GcdOf.mono_l k
 unfold spec_GcdOf.f
 repeat' first
   | (with_reducible exact ih0 _ _ _)
   | (with_reducible exact ih1 _ _)
   | (with_reducible exact LeO.refl _)
   | (with_reducible exact LeO.none _)
   | (with_reducible refine LeO.ite ?_ ?_)
   | (with_reducible refine LeO.bind ?_ (fun _ => ?_))
   | exact ih0 _ _ _
   | exact ih1 _ _
   | exact LeO.none _
   | refine LeO.ite ?_ ?_
   | refine LeO.bind ?_ (fun _ => ?_)
set_option maxHeartbeats 8000000 in
set_option maxRecDepth 100000 in
theorem spec_GcdOf.calls (k : Nat) (a0 : Int) (a1 : Int) (r : Int) (w : World) (h : spec_GcdOf.f k a0 a1 = some r) :
  Calls Tryd.prog 81 #[.int .i64 a0, .int .i64 a1] w fun e w' => e = .returned (.int .i64 r) ∧ Below w.heap.size w w' := by
 have HB := Aside0.mk (Below.refl w.heap.size w)
 have H : ((spec_IsNumber.f a0).bind fun qf => (if qf = true then ((spec_IsNumber.f a1).bind fun qa => (spec_GcdOf.j0 k a0 a1 (!qa))) else (spec_GcdOf.j0 k a0 a1 true))) = some r := h
 clear h
 have HC3 := Aside0.mk H
 clear H
 go_enter Tryd.func81, Tryd.ntmps81
 go_upto_region 1 with (fail)
 repeat (go_quiet (fail); go_upto_region 1 with (fail))
 go_cut [12] (fun v12 wc => ∃ (kq : Nat) (qd : Bool), v12 = .bool qd ∧ Aside0 (spec_GcdOf.j0 kq a0 a1 qd = some r) ∧ Aside0 (kq ≤ k) ∧ Aside0 (Below w.heap.size w wc))
 case first =>
  have H := HC3.out
  clear HC3
  replace H := Option.bind_eq_some_iff.mp H
  obtain ⟨qf, A40, H⟩ := H
  replace H : (if qf = true then ((spec_IsNumber.f a1).bind fun qa => (spec_GcdOf.j0 k a0 a1 (!qa))) else (spec_GcdOf.j0 k a0 a1 true)) = some r := H
  have A4 := Aside0.mk A40
  clear A40
  by_cases c5 : qf = true
  rotate_left
  ·
   replace c5 := Bool.eq_false_iff.mpr c5
   subst c5
   have H1 : (spec_GcdOf.j0 k a0 a1 true) = some r := by rw [if_neg (show ¬ (false = true) by decide)] at H; exact H
   clear H
   have H := H1
   clear H1
   have H' := Aside0.mk H
   clear H
   go_wp2_with (first | (go_at_call 59; (with_reducible refine (spec_IsNumber.calls a0 false _ A4.out).mono ?_); rintro e w' ⟨rfl, ⟨nd, rfl⟩⟩; (try first | exact ⟨rfl, _, World.drewN_drewN _ _ _⟩ | exact ⟨rfl, _, Eq.trans (World.drewN_drewN _ _ _) (congrArg (World.drewN _) (Nat.add_assoc _ _ _))⟩)))
   repeat (go_quiet (first | (go_at_call 59; (with_reducible refine (spec_IsNumber.calls a0 false _ A4.out).mono ?_); rintro e w' ⟨rfl, ⟨nd, rfl⟩⟩; (try first | exact ⟨rfl, _, World.drewN_drewN _ _ _⟩ | exact ⟨rfl, _, Eq.trans (World.drewN_drewN _ _ _) (congrArg (World.drewN _) (Nat.add_assoc _ _ _))⟩))); try go_wp2_with (first | (go_at_call 59; (with_reducible refine (spec_IsNumber.calls a0 false _ A4.out).mono ?_); rintro e w' ⟨rfl, ⟨nd, rfl⟩⟩; (try first | exact ⟨rfl, _, World.drewN_drewN _ _ _⟩ | exact ⟨rfl, _, Eq.trans (World.drewN_drewN _ _ _) (congrArg (World.drewN _) (Nat.add_assoc _ _ _))⟩))))
   go_meet
   case rel => exact ⟨_, (true), (by first | rfl | (simp; done) | (simp [*]; done)), H', ⟨by first | omega | exact Nat.le_refl _⟩, ⟨bb_ HB⟩⟩
  subst c5
  have H1 : ((spec_IsNumber.f a1).bind fun qa => (spec_GcdOf.j0 k a0 a1 (!qa))) = some r := by rw [if_pos rfl] at H; exact H
  clear H
  have H := H1
  clear H1
  replace H := Option.bind_eq_some_iff.mp H
  obtain ⟨qa, A60, H⟩ := H
  replace H : (spec_GcdOf.j0 k a0 a1 (!qa)) = some r := H
  have A6 := Aside0.mk A60
  clear A60
  have H' := Aside0.mk H
  clear H
  go_wp2_with (first | (go_at_call 59; (with_reducible refine (spec_IsNumber.calls a0 true _ A4.out).mono ?_); rintro e w' ⟨rfl, ⟨nd, rfl⟩⟩; (try first | exact ⟨rfl, _, World.drewN_drewN _ _ _⟩ | exact ⟨rfl, _, Eq.trans (World.drewN_drewN _ _ _) (congrArg (World.drewN _) (Nat.add_assoc _ _ _))⟩)) | (go_at_call 59; (with_reducible refine (spec_IsNumber.calls a1 qa _ A6.out).mono ?_); rintro e w' ⟨rfl, ⟨nd, rfl⟩⟩; (try first | exact ⟨rfl, _, World.drewN_drewN _ _ _⟩ | exact ⟨rfl, _, Eq.trans (World.drewN_drewN _ _ _) (congrArg (World.drewN _) (Nat.add_assoc _ _ _))⟩)))
  repeat (go_quiet (first | (go_at_call 59; (with_reducible refine (spec_IsNumber.calls a0 true _ A4.out).mono ?_); rintro e w' ⟨rfl, ⟨nd, rfl⟩⟩; (try first | exact ⟨rfl, _, World.drewN_drewN _ _ _⟩ | exact ⟨rfl, _, Eq.trans (World.drewN_drewN _ _ _) (congrArg (World.drewN _) (Nat.add_assoc _ _ _))⟩)) | (go_at_call 59; (with_reducible refine (spec_IsNumber.calls a1 qa _ A6.out).mono ?_); rintro e w' ⟨rfl, ⟨nd, rfl⟩⟩; (try first | exact ⟨rfl, _, World.drewN_drewN _ _ _⟩ | exact ⟨rfl, _, Eq.trans (World.drewN_drewN _ _ _) (congrArg (World.drewN _) (Nat.add_assoc _ _ _))⟩))); try go_wp2_with (first | (go_at_call 59; (with_reducible refine (spec_IsNumber.calls a0 true _ A4.out).mono ?_); rintro e w' ⟨rfl, ⟨nd, rfl⟩⟩; (try first | exact ⟨rfl, _, World.drewN_drewN _ _ _⟩ | exact ⟨rfl, _, Eq.trans (World.drewN_drewN _ _ _) (congrArg (World.drewN _) (Nat.add_assoc _ _ _))⟩)) | (go_at_call 59; (with_reducible refine (spec_IsNumber.calls a1 qa _ A6.out).mono ?_); rintro e w' ⟨rfl, ⟨nd, rfl⟩⟩; (try first | exact ⟨rfl, _, World.drewN_drewN _ _ _⟩ | exact ⟨rfl, _, Eq.trans (World.drewN_drewN _ _ _) (congrArg (World.drewN _) (Nat.add_assoc _ _ _))⟩))))
  go_meet
  case rel => exact ⟨_, (!qa), (by first | rfl | (simp; done) | (simp [*]; done)), H', ⟨by first | omega | exact Nat.le_refl _⟩, ⟨bb_ HB⟩⟩
 case rest =>
  clear HC3
  try clear p2
  try clear c5
  obtain ⟨kq, qd, rfl, HA, HJ2, HB⟩ := hcut
  cases kq with
  | zero => exact absurd HA.out (by simp [spec_GcdOf.j0])
  | succ kj2 =>
   have H := HA.out
   clear HA
   simp only [spec_GcdOf.j0] at H
   by_cases c7 : qd = true
   ·
    subst c7
    have H1 : (some 0) = some r := by rw [if_pos rfl] at H; exact H
    clear H
    have H := H1
    clear H1
    obtain rfl := Option.some.inj H
    go_wp2
    repeat (go_quiet (fail); try go_wp2)
    go_ret
    exact ⟨by first | rfl | (simp [errW_none, errW_some] <;> rfl) | (simp [*, errW_none, errW_some] <;> rfl), bb_ HB⟩
   replace c7 := Bool.eq_false_iff.mpr c7
   subst c7
   have H1 : (spec_GcdOf.l0 kj2 a0 a1) = some r := by rw [if_neg (show ¬ (false = true) by decide)] at H; exact H
   clear H
   have H := H1
   clear H1
   have H' := Aside0.mk H
   clear H
   go_wp2
   repeat (go_quiet (fail); try go_wp2)
   go_loopg [0, 1] kj2 (fun kq v0 v1 w' => ∃ (qc : Int) (qb : Int), v0 = .int .i64 qc ∧ v1 = .int .i64 qb ∧ Aside0 (spec_GcdOf.l0 kq qc qb = some r) ∧ Aside0 (kq ≤ kj2) ∧ Aside0 (Below w.heap.size w w'))
   case atStart => exact ⟨(a0), (a1), (by first | rfl | (simp; done) | (simp [*]; done)), (by first | rfl | (simp; done) | (simp [*]; done)), H', ⟨Nat.le_refl _⟩, ⟨bb_ HB⟩⟩
   case round =>
    clear H'
    try clear p2
    try clear c5
    try clear c7
    try clear p2
    obtain ⟨qc, qb, rfl, rfl, HA, HK2, HB⟩ := hrel
    cases gk with
    | zero => exact absurd HA.out (by simp [spec_GcdOf.l0])
    | succ k2 =>
     have H := HA.out
     clear HA
     simp only [spec_GcdOf.l0] at H
     by_cases c8 : qb = 0
     rotate_left
     ·
      rw [if_neg c8] at H
      have qg : (qb == 0) = false := beq_eq_false_iff_ne.mpr c8
      have qh : (qb != 0) = true := bne_iff_ne.mpr c8
      have H' := Aside0.mk H
      clear H
      go_wp2
      repeat (go_quiet (fail); try go_wp2)
      go_roundg k2
      case measure => have := HJ2.out; have := HK2.out; omega
      case rel => exact ⟨(qb), (Int.tmod qc qb), (by first | rfl | (simp; done) | (simp [*]; done)), (by first | rfl | (simp; done) | (simp [*]; done)), H', ⟨by have := HJ2.out; have := HK2.out; omega⟩, ⟨bb_ HB⟩⟩
     rw [if_pos c8] at H
     have qg : (qb == 0) = true := beq_iff_eq.mpr c8
     have qh : (qb != 0) = false := bne_eq_false_iff_eq.mpr c8
     clear c8
     replace H := Option.bind_eq_some_iff.mp H
     obtain ⟨qe, A90, H⟩ := H
     replace H : (some qe) = some r := H
     have A9 := Aside0.mk A90
     clear A90
     obtain rfl := Option.some.inj H
     go_wp2_with (first | (go_at_call 103; (with_reducible refine (spec_l1Abs.calls qc qe _ A9.out).mono ?_); rintro e qi ⟨rfl, hb⟩; replace HB := bS_ HB hb; clear hb))
     repeat (go_quiet (first | (go_at_call 103; (with_reducible refine (spec_l1Abs.calls qc qe _ A9.out).mono ?_); rintro e qi ⟨rfl, hb⟩; replace HB := bS_ HB hb; clear hb)); try go_wp2_with (first | (go_at_call 103; (with_reducible refine (spec_l1Abs.calls qc qe _ A9.out).mono ?_); rintro e qi ⟨rfl, hb⟩; replace HB := bS_ HB hb; clear hb)))
     go_ret
     exact ⟨by first | rfl | (simp [errW_none, errW_some] <;> rfl) | (simp [*, errW_none, errW_some] <;> rfl), bb_ HB⟩

/-! ### spec_IsRatio: function 36 -/
def spec_IsRatio.f (k : Nat) (a0_0 : Int) (a0_1 : Int) : Option (Bool) := (spec_l1In.f a0_1 1 400000000).bind fun qd => (if qd = true then ((spec_IsNumber.f a0_0).bind fun qc => (if qc = true then ((spec_GcdOf.f k a0_0 a0_1).bind fun qa => (some (qa == 1))) else (some false))) else (some false))
theorem spec_IsRatio.mono : ∀ a0 a1 k, LeO (spec_IsRatio.f k a0 a1) (spec_IsRatio.f (k + 1) a0 a1) := by
 intro a0 a1 k
 unfold spec_IsRatio.f
 repeat' first
   | (with_reducible exact spec_GcdOf.mono _ _ _)
   | (with_reducible exact LeO.refl _)
   | (with_reducible exact LeO.none _)
   | (with_reducible refine LeO.ite ?_ ?_)
   | (with_reducible refine LeO.bind ?_ (fun _ => ?_))
   | exact spec_GcdOf.mono _ _ _
   | exact LeO.none _
   | refine LeO.ite ?_ ?_
   | refine LeO.bind ?_ (fun _ => ?_)
set_option maxHeartbeats 8000000 in
set_option maxRecDepth 100000 in
theorem spec_IsRatio.calls (k : Nat) (a0_0 : Int) (a0_1 : Int) (r : Bool) (w : World) (h : spec_IsRatio.f k a0_0 a0_1 = some r) :
  Calls Tryd.prog 36 #[.agg #[.int .i64 a0_0, .int .i64 a0_1]] w fun e w' => e = .returned (.bool r) ∧ Below w.heap.size w w' := by
 have hu46 := Tryd.underlying46
 have HB := Aside0.mk (Below.refl w.heap.size w)
 have H : ((spec_l1In.f a0_1 1 400000000).bind fun qd => (if qd = true then ((spec_IsNumber.f a0_0).bind fun qc => (if qc = true then ((spec_GcdOf.f k a0_0 a0_1).bind fun qa => (some (qa == 1))) else (some false))) else (some false))) = some r := h
 clear h
 replace H := Option.bind_eq_some_iff.mp H
 obtain ⟨qd, A20, H⟩ := H
 replace H : (if qd = true then ((spec_IsNumber.f a0_0).bind fun qc => (if qc = true then ((spec_GcdOf.f k a0_0 a0_1).bind fun qa => (some (qa == 1))) else (some false))) else (some false)) = some r := H
 have A2 := Aside0.mk A20
 clear A20
 by_cases c3 : qd = true
 rotate_left
 ·
  replace c3 := Bool.eq_false_iff.mpr c3
  subst c3
  have H1 : (some false) = some r := by rw [if_neg (show ¬ (false = true) by decide)] at H; exact H
  clear H
  have H := H1
  clear H1
  obtain rfl := Option.some.inj H
  go_enter Tryd.func36, Tryd.ntmps36
  go_wp2_with (first | ((with_reducible refine gate_dst (N := 1) rfl ?_); refine bx_ (cs := #[.int .i64 a0_0, .int .i64 a0_1]) (t := 46) ?_; intro qe hg qt hbox hb; have qb := Aside0.mk (hbox); have qf := hz_ HB hg; have qg := hz_ HB hg; replace HB := bS_ HB hb; clear hb hbox hg; obtain ⟨qh, qi, qj, qk⟩ := b2_ qb) | ((with_reducible refine gate_callee (f := 80) rfl ?_); refine gL_ (some 5) Tryd.func80 #[.int .i64 a0_1, .int .i64 1, .int .i64 400000000] ?_; (with_reducible refine (spec_l1In.calls a0_1 1 400000000 false _ A2.out).mono ?_); rintro e w' ⟨rfl, ⟨nd, rfl⟩⟩; refine ⟨_, rfl, ?_⟩))
  go_ret
  exact ⟨by first | rfl | (simp [errW_none, errW_some] <;> rfl) | (simp [*, errW_none, errW_some] <;> rfl), bb_ HB⟩
 subst c3
 have H1 : ((spec_IsNumber.f a0_0).bind fun qc => (if qc = true then ((spec_GcdOf.f k a0_0 a0_1).bind fun qa => (some (qa == 1))) else (some false))) = some r := by rw [if_pos rfl] at H; exact H
 clear H
 have H := H1
 clear H1
 replace H := Option.bind_eq_some_iff.mp H
 obtain ⟨qc, A40, H⟩ := H
 replace H : (if qc = true then ((spec_GcdOf.f k a0_0 a0_1).bind fun qa => (some (qa == 1))) else (some false)) = some r := H
 have A4 := Aside0.mk A40
 clear A40
 by_cases c5 : qc = true
 rotate_left
 ·
  replace c5 := Bool.eq_false_iff.mpr c5
  subst c5
  have H1 : (some false) = some r := by rw [if_neg (show ¬ (false = true) by decide)] at H; exact H
  clear H
  have H := H1
  clear H1
  obtain rfl := Option.some.inj H
  go_enter Tryd.func36, Tryd.ntmps36
  go_wp2_with (first | ((with_reducible refine gate_dst (N := 1) rfl ?_); refine bx_ (cs := #[.int .i64 a0_0, .int .i64 a0_1]) (t := 46) ?_; intro qe hg qu hbox hb; have qb := Aside0.mk (hbox); have qf := hz_ HB hg; have qg := hz_ HB hg; replace HB := bS_ HB hb; clear hb hbox hg; obtain ⟨ql, qm, qn, qo⟩ := b2_ qb) | ((with_reducible refine gate_callee (f := 80) rfl ?_); refine gL_ (some 5) Tryd.func80 #[.int .i64 a0_1, .int .i64 1, .int .i64 400000000] ?_; (with_reducible refine (spec_l1In.calls a0_1 1 400000000 true _ A2.out).mono ?_); rintro e w' ⟨rfl, ⟨nd, rfl⟩⟩; refine ⟨_, rfl, ?_⟩) | (go_at_call 59; (with_reducible refine (spec_IsNumber.calls a0_0 false _ A4.out).mono ?_); rintro e w' ⟨rfl, ⟨nd, rfl⟩⟩))
  go_ret
  exact ⟨by first | rfl | (simp [errW_none, errW_some] <;> rfl) | (simp [*, errW_none, errW_some] <;> rfl), bb_ HB⟩
 subst c5
 have H1 : ((spec_GcdOf.f k a0_0 a0_1).bind fun qa => (some (qa == 1))) = some r := by rw [if_pos rfl] at H; exact H
 clear H
 have H := H1
 clear H1
 replace H := Option.bind_eq_some_iff.mp H
 obtain ⟨qa, A60, H⟩ := H
 replace H : (some (qa == 1)) = some r := H
 have A6 := Aside0.mk A60
 clear A60
 obtain rfl := Option.some.inj H
 go_enter Tryd.func36, Tryd.ntmps36
 go_wp2_with (first | ((with_reducible refine gate_dst (N := 1) rfl ?_); refine bx_ (cs := #[.int .i64 a0_0, .int .i64 a0_1]) (t := 46) ?_; intro qe hg w7 hbox hb; have qb := Aside0.mk (hbox); have qf := hz_ HB hg; have qg := hz_ HB hg; replace HB := bS_ HB hb; clear hb hbox hg; obtain ⟨qp, qq, qr, qs⟩ := b2_ qb) | ((with_reducible refine gate_callee (f := 80) rfl ?_); refine gL_ (some 5) Tryd.func80 #[.int .i64 a0_1, .int .i64 1, .int .i64 400000000] ?_; (with_reducible refine (spec_l1In.calls a0_1 1 400000000 true _ A2.out).mono ?_); rintro e w' ⟨rfl, ⟨nd, rfl⟩⟩; refine ⟨_, rfl, ?_⟩) | (go_at_call 59; (with_reducible refine (spec_IsNumber.calls a0_0 true _ A4.out).mono ?_); rintro e w' ⟨rfl, ⟨nd, rfl⟩⟩) | (go_at_call 81; (with_reducible refine (spec_GcdOf.calls k a0_0 a0_1 qa _ A6.out).mono ?_); rintro e w9 ⟨rfl, hb⟩; replace qb := kB_ qb hb; replace HB := bS_ HB hb; clear hb))
 go_ret
 exact ⟨by first | rfl | (simp [errW_none, errW_some] <;> rfl) | (simp [*, errW_none, errW_some] <;> rfl), bb_ HB⟩

/-! ### spec_l2Make: function 99 -/
mutual
def spec_l2Make.j0 : Nat → Int → Int → Option (Int × Int)
 | 0, _, _ => none
 | k + 1, x0, x1 => spec_l2Make.l0 k x0 x1 x0 x1
def spec_l2Make.l0 : Nat → Int → Int → Int → Int → Option (Int × Int)
 | 0, _, _, _, _ => none
 | k + 1, x0, x1, x5, x6 => if x6 = 0 then ((spec_l1Abs.f x5).bind fun qb => (if qb = 0 then (none) else ((spec_IsRatio.f k (wrap64 (Int.tdiv x0 qb)) (wrap64 (Int.tdiv x1 qb))).bind fun qm => (if qm = true then (some (wrap64 (Int.tdiv x0 qb), wrap64 (Int.tdiv x1 qb))) else (some (0, 0)))))) else (spec_l2Make.l0 k x0 x1 x6 (Int.tmod x5 x6))
end
def spec_l2Make.f (k : Nat) (a0 : Int) (a1 : Int) : Option (Int × Int) := if a1 = 0 then (some (0, 0)) else (if a1 < 0 then (spec_l2Make.j0 k (wrap64 (-a0)) (wrap64 (-a1))) else (spec_l2Make.j0 k a0 a1))
theorem spec_l2Make.mono_l : ∀ k, (∀ y0 y1, LeO (spec_l2Make.j0 k y0 y1) (spec_l2Make.j0 (k + 1) y0 y1)) ∧ (∀ y0 y1 y2 y3, LeO (spec_l2Make.l0 k y0 y1 y2 y3) (spec_l2Make.l0 (k + 1) y0 y1 y2 y3))
 | 0 => ⟨fun _ _ r h => by simp [spec_l2Make.j0] at h, fun _ _ _ _ r h => by simp [spec_l2Make.l0] at h⟩
 | k + 1 => by
  obtain ⟨ih0, ih1⟩ := spec_l2Make.mono_l k
  refine ⟨?_, ?_⟩ <;> (intros; first | unfold spec_l2Make.j0 | unfold spec_l2Make.l0)
  all_goals
   repeat' first
   | (with_reducible exact ih0 _ _)
   | (with_reducible exact ih1 _ _ _ _)
   | (with_reducible exact spec_IsRatio.mono _ _ _)
   | (with_reducible exact LeO.refl _)
   | (with_reducible exact LeO.none _)
   | (with_reducible refine LeO.ite ?_ ?_)
   | (with_reducible refine LeO.bind ?_ (fun _ => ?_))
   | exact ih0 _ _
   | exact ih1 _ _ _ _
   | exact spec_IsRatio.mono _ _ _
   | exact LeO.none _
   | refine LeO.ite ?_ ?_
   | refine LeO.bind ?_ (fun _ => ?_)
theorem spec_l2Make.mono : ∀ a0 a1 k, LeO (spec_l2Make.f k a0 a1) (spec_l2Make.f (k + 1) a0 a1) := by
 intro a0 a1 k
 obtain ⟨ih0, ih1⟩ := spec_l2Make.mono_l k
 unfold spec_l2Make.f
 repeat' first
   | (with_reducible exact ih0 _ _)
   | (with_reducible exact ih1 _ _ _ _)
   | (with_reducible exact spec_IsRatio.mono _ _ _)
   | (with_reducible exact LeO.refl _)
   | (with_reducible exact LeO.none _)
   | (with_reducible refine LeO.ite ?_ ?_)
   | (with_reducible refine LeO.bind ?_ (fun _ => ?_))
   | exact ih0 _ _
   | exact ih1 _ _ _ _
   | exact spec_IsRatio.mono _ _ _
   | exact LeO.none _
   | refine LeO.ite ?_ ?_
   | refine LeO.bind ?_ (fun _ => ?_)
def spec_l2Make.T10 : Bool × List (List Nat × List Nat) := (true, [([], []), ([], []), ([0, 1], [0, 1]), ([], []), ([], []), ([3, 4], [3, 4]), ([2, 5], [2, 5]), ([], []), ([7, 6, 0, 1, 2, 3, 4, 5, 6, 7], [6, 7])])
def spec_l2Make.B10 : List Nat := [0, 0, 3, 0, 0, 24, 63, 0, 255]
theorem spec_l2Make.tab10 : rtab .any (opsOf Tryd.f99 10) = spec_l2Make.T10 := by kernel_rfl
theorem spec_l2Make.bits10 : waitsOk spec_l2Make.T10.2 spec_l2Make.B10 = true := by kernel_rfl
set_option maxHeartbeats 8000000 in
set_option maxRecDepth 100000 in
theorem spec_l2Make.calls (k : Nat) (a0 : Int) (a1 : Int) (r1 : Int) (r2 : Int) (w : World) (h : spec_l2Make.f k a0 a1 = some (r1, r2)) :
  Calls Tryd.prog 99 #[.int .i64 a0, .int .i64 a1] w fun e w' => e = .returned (.agg #[.int .i64 r1, .int .i64 r2]) ∧ Below w.heap.size w w' := by
 have hu46 := Tryd.underlying46
 have HB := Aside0.mk (Below.refl w.heap.size w)
 have H : (if a1 = 0 then (some (0, 0)) else (if a1 < 0 then (spec_l2Make.j0 k (wrap64 (-a0)) (wrap64 (-a1))) else (spec_l2Make.j0 k a0 a1))) = some (r1, r2) := h
 clear h
 by_cases c3 : a1 = 0
 ·
  rw [if_pos c3] at H
  have qr : (a1 == 0) = true := beq_iff_eq.mpr c3
  have qs : (a1 != 0) = false := bne_eq_false_iff_eq.mpr c3
  clear c3
  simp only [Option.some.injEq, Prod.mk.injEq] at H
  obtain ⟨rfl, rfl⟩ := H
  go_enter Tryd.func99, Tryd.ntmps99
  go_wp2_with (first | ((with_reducible refine gate_dst (N := 4) rfl ?_); refine bx_ (cs := #[.int .i64 0, .int .i64 0]) (t := 46) ?_; intro qi hg w4 hbox hb; have qa := Aside0.mk (hbox); have qt := hz_ HB hg; have qu := hz_ HB hg; replace HB := bS_ HB hb; clear hb hbox hg; obtain ⟨qn, qo, qp, qq⟩ := b2_ qa))
  refine bodyPost_ret (results_cell_row rfl _ _ qi 46 #[.int .i64 0, .int .i64 0] (0, 0) _ rfl (by (with_reducible repeat (first | refine blk_drewN ?_ _ | refine blk_drew ?_ | refine blk_alloc ?_ _)); refine blk_put (cs := #[.int .i64 0, .int .i64 0]) ?_ 1 _ rfl; (with_reducible repeat (first | refine blk_drewN ?_ _ | refine blk_drew ?_ | refine blk_alloc ?_ _)); refine blk_put (cs := #[.int .i64 0, .int .i64 0]) ?_ 0 _ rfl; (with_reducible repeat (first | refine blk_drewN ?_ _ | refine blk_drew ?_ | refine blk_alloc ?_ _)); exact qa.out) Tryd.underlying46 rfl (by kernel_rfl)) rfl ?_
  exact ⟨by first | rfl | (simp [errW_none, errW_some] <;> rfl) | (simp [*, errW_none, errW_some] <;> rfl), bb_ HB⟩
 rw [if_neg c3] at H
 have qr : (a1 == 0) = false := beq_eq_false_iff_ne.mpr c3
 have qs : (a1 != 0) = true := bne_iff_ne.mpr c3
 have HC6 := Aside0.mk H
 clear H
 go_enter Tryd.func99, Tryd.ntmps99
 go_upto_if 13 with (first | ((with_reducible refine gate_dst (N := 4) rfl ?_); refine bx_ (cs := #[.int .i64 0, .int .i64 0]) (t := 46) ?_; intro qi hg w7 hbox hb; have qa := Aside0.mk (hbox); have qt := hz_ HB hg; have qu := hz_ HB hg; replace HB := bS_ HB hb; clear hb hbox hg))
 (try simp only [Act.put, List.setIfInBounds_toArray, List.set_cons_zero, List.set_cons_succ])
 go_cut [0, 1] (fun v0 v1 wc => ∃ (kq : Nat) (qf : Int) (qg : Int), v0 = .int .i64 qf ∧ v1 = .int .i64 qg ∧ Aside0 (spec_l2Make.j0 kq qf qg = some (r1, r2)) ∧ Aside0 (kq ≤ k) ∧ Aside0 (wc.heap[qi]? = some (.cells #[.int .i64 0, .int .i64 0] 46 (0, 0))) ∧ Aside0 (Below w.heap.size w wc))
 case first =>
  have H := HC6.out
  clear HC6
  by_cases c8 : a1 < 0
  rotate_left
  ·
   rw [if_neg c8] at H
   have ql : decide (a1 < 0) = false := decide_eq_false c8
   clear c8
   (first | rw [ql] | (simp only [i64_w, i32_w]; rw [ql]) | skip)
   have H' := Aside0.mk H
   clear H
   go_wp2
   go_meet
   case rel => exact ⟨_, (a0), (a1), (by first | rfl | (simp; done) | (simp [*]; done)), (by first | rfl | (simp; done) | (simp [*]; done)), H', ⟨by first | omega | exact Nat.le_refl _⟩, ⟨kf_ qa⟩, ⟨bb_ HB⟩⟩
  rw [if_pos c8] at H
  have ql : decide (a1 < 0) = true := decide_eq_true c8
  clear c8
  (first | rw [ql] | (simp only [i64_w, i32_w]; rw [ql]) | skip)
  have H' := Aside0.mk H
  clear H
  go_wp2
  go_meet
  case rel => exact ⟨_, (wrap64 (-a0)), (wrap64 (-a1)), (by first | rfl | (simp; done) | (simp [*]; done)), (by first | rfl | (simp; done) | (simp [*]; done)), H', ⟨by first | omega | exact Nat.le_refl _⟩, ⟨kf_ qa⟩, ⟨bb_ HB⟩⟩
 case rest =>
  clear HC6
  try clear p2
  try clear c3
  try clear qr
  try clear qs
  try clear p6
  try clear c8
  try clear ql
  try clear qn
  try clear qo
  try clear qp
  try clear qq
  obtain ⟨kq, qf, qg, rfl, rfl, HA, HJ5, qa, HB⟩ := hcut
  cases kq with
  | zero => exact absurd HA.out (by simp [spec_l2Make.j0])
  | succ kj5 =>
   have H := HA.out
   clear HA
   simp only [spec_l2Make.j0] at H
   have H' := Aside0.mk H
   clear H
   go_wp2
   go_loopg [5, 6] kj5 (fun kq v5 v6 w' => ∃ (qj : Int) (qh : Int), v5 = .int .i64 qj ∧ v6 = .int .i64 qh ∧ Aside0 (spec_l2Make.l0 kq qf qg qj qh = some (r1, r2)) ∧ Aside0 (kq ≤ kj5) ∧ Aside0 (w'.heap[qi]? = some (.cells #[.int .i64 0, .int .i64 0] 46 (0, 0))) ∧ Aside0 (Below w.heap.size w w'))
   case atStart => exact ⟨(qf), (qg), (by first | rfl | (simp; done) | (simp [*]; done)), (by first | rfl | (simp; done) | (simp [*]; done)), H', ⟨Nat.le_refl _⟩, ⟨kf_ qa⟩, ⟨bb_ HB⟩⟩
   case round =>
    clear H'
    try clear p2
    try clear c3
    try clear qr
    try clear qs
    try clear p6
    try clear c8
    try clear ql
    try clear qn
    try clear qo
    try clear qp
    try clear qq
    try clear p2
    try clear p6
    obtain ⟨qj, qh, rfl, rfl, HA, HK2, qa, HB⟩ := hrel
    cases gk with
    | zero => exact absurd HA.out (by simp [spec_l2Make.l0])
    | succ k2 =>
     have H := HA.out
     clear HA
     simp only [spec_l2Make.l0] at H
     by_cases c9 : qh = 0
     rotate_left
     ·
      rw [if_neg c9] at H
      have qR : (qh == 0) = false := beq_eq_false_iff_ne.mpr c9
      have qS : (qh != 0) = true := bne_iff_ne.mpr c9
      have H' := Aside0.mk H
      clear H
      try go_wp2
      replace qa := Aside0.mk (blk_drew qa.out); replace HB := Aside0.mk (below_drew1 HB.out)
      refine start_ (n := 6) (S := fun w' => True) (ds := []) #[false, false, false, false, false, false] (by kernel_rfl) rfl rfl trivial (fun hHeld => ?_)
      generalize wr.drew = q3 at qa HB hHeld ⊢
      refine pure_ (i := 0) (N := some 22) (v := ?_) (a' := ?_) #[true, false, false, false, false, false] rfl rfl (by kernel_rfl) (fun _ _ _ h => h) (Or.inl ⟨by rfl, ?_⟩) ?_ ?_
      rotate_left
      ·
       intro w'
       go_simp
       with_reducible rfl
      rotate_left
      ·
       simp only [Act.put, List.setIfInBounds_toArray, List.set_cons_zero, List.set_cons_succ, i64_w, i32_w]
       rfl
      refine pure_ (i := 1) (N := some 23) (v := ?_) (a' := ?_) #[true, true, false, false, false, false] rfl rfl (by kernel_rfl) (fun _ _ _ h => h) (Or.inl ⟨by rfl, ?_⟩) ?_ ?_
      rotate_left
      ·
       intro w'
       go_simp
       with_reducible rfl
      rotate_left
      ·
       simp only [Act.put, List.setIfInBounds_toArray, List.set_cons_zero, List.set_cons_succ, i64_w, i32_w]
       rfl
      refine pure_ (i := 2) (N := some 24) (v := ?_) (a' := ?_) #[true, true, true, false, false, false] rfl rfl (by kernel_rfl) (fun _ _ _ h => h) (Or.inl ⟨by rfl, ?_⟩) ?_ ?_
      rotate_left
      ·
       intro w'
       go_simp
       with_reducible rfl
      rotate_left
      ·
       simp only [Act.put, List.setIfInBounds_toArray, List.set_cons_zero, List.set_cons_succ, i64_w, i32_w]
       rfl
      refine pure_ (i := 3) (N := some 25) (v := ?_) (a' := ?_) #[true, true, true, true, false, false] rfl rfl (by kernel_rfl) (fun _ _ _ h => h) (Or.inl ⟨by rfl, ?_⟩) ?_ ?_
      rotate_left
      ·
       intro w'
       go_simp
       with_reducible rfl
      rotate_left
      ·
       simp only [Act.put, List.setIfInBounds_toArray, List.set_cons_zero, List.set_cons_succ, i64_w, i32_w]
       rfl
      refine pure_ (i := 4) (N := some 5) (v := ?_) (a' := ?_) #[true, true, true, true, true, false] rfl rfl (by kernel_rfl) (fun _ _ _ h => h) (Or.inl ⟨by rfl, ?_⟩) ?_ ?_
      rotate_left
      ·
       intro w'
       go_simp
       with_reducible rfl
      rotate_left
      ·
       simp only [Act.put, List.setIfInBounds_toArray, List.set_cons_zero, List.set_cons_succ, i64_w, i32_w]
       rfl
      refine pure_ (i := 5) (N := some 6) (v := ?_) (a' := ?_) #[true, true, true, true, true, true] rfl rfl (by kernel_rfl) (fun _ _ _ h => h) (Or.inl ⟨by rfl, ?_⟩) ?_ ?_
      rotate_left
      ·
       intro w'
       go_simp
       with_reducible rfl
      rotate_left
      ·
       simp only [Act.put, List.setIfInBounds_toArray, List.set_cons_zero, List.set_cons_succ, i64_w, i32_w]
       rfl
      refine done_ (by kernel_rfl) ?_
      try go_wp2
      go_roundg k2
      case measure => have := HJ5.out; have := HK2.out; omega
      case rel => exact ⟨(qh), (Int.tmod qj qh), (by first | rfl | (simp; done) | (simp [*]; done)), (by first | rfl | (simp; done) | (simp [*]; done)), H', ⟨by have := HJ5.out; have := HK2.out; omega⟩, ⟨kf_ qa⟩, ⟨bb_ HB⟩⟩
     rw [if_pos c9] at H
     have qR : (qh == 0) = true := beq_iff_eq.mpr c9
     have qS : (qh != 0) = false := bne_eq_false_iff_eq.mpr c9
     clear c9
     replace H := Option.bind_eq_some_iff.mp H
     obtain ⟨qb, A100, H⟩ := H
     replace H : (if qb = 0 then (none) else ((spec_IsRatio.f k2 (wrap64 (Int.tdiv qf qb)) (wrap64 (Int.tdiv qg qb))).bind fun qm => (if qm = true then (some (wrap64 (Int.tdiv qf qb), wrap64 (Int.tdiv qg qb))) else (some (0, 0))))) = some (r1, r2) := H
     have A10 := Aside0.mk A100
     clear A100
     by_cases c11 : qb = 0
     ·
      rw [if_pos c11] at H
      exact absurd H (by simp)
     rw [if_neg c11] at H
     have qT : (qb == 0) = false := beq_eq_false_iff_ne.mpr c11
     have qU : (qb != 0) = true := bne_iff_ne.mpr c11
     replace H := Option.bind_eq_some_iff.mp H
     obtain ⟨qm, A120, H⟩ := H
     replace H : (if qm = true then (some (wrap64 (Int.tdiv qf qb), wrap64 (Int.tdiv qg qb))) else (some (0, 0))) = some (r1, r2) := H
     have A12 := Aside0.mk A120
     clear A120
     by_cases c13 : qm = true
     rotate_left
     ·
      replace c13 := Bool.eq_false_iff.mpr c13
      subst c13
      have H1 : (some (0, 0)) = some (r1, r2) := by rw [if_neg (show ¬ (false = true) by decide)] at H; exact H
      clear H
      have H := H1
      clear H1
      simp only [Option.some.injEq, Prod.mk.injEq] at H
      obtain ⟨rfl, rfl⟩ := H
      try go_wp2_with (first | ((with_reducible refine gate_callee (f := 103) rfl ?_); refine gL_ (some 27) Tryd.func103 #[.int .i64 qj] ?_; (with_reducible refine (spec_l1Abs.calls qj qb _ A10.out).mono ?_); rintro e q1 ⟨rfl, hb⟩; refine ⟨_, rfl, ?_⟩; replace qa := kB_ qa hb; replace HB := bS_ HB hb; clear hb))
      replace qa := Aside0.mk (blk_drew qa.out); replace HB := Aside0.mk (below_drew1 HB.out)
      refine start_ (n := 9) (S := fun w' => True) (ds := []) #[false, false, false, false, false, false, false, false, false] (by kernel_rfl) rfl rfl trivial (fun hHeld => ?_); refine with_tabW spec_l2Make.tab10 spec_l2Make.bits10 (fun HT_ HW_ => ?_)
      generalize q1.drew = q4 at qa HB hHeld ⊢
      refine pX_ 0 (some 28) #[true, false, false, false, false, false, false, false, false] HT_ ?_
      refine pX_ 1 (some 29) #[true, true, false, false, false, false, false, false, false] HT_ ?_
      refine pX_ 2 (some 30) #[true, true, true, false, false, false, false, false, false] HT_ ?_
      refine pX_ 3 (some 31) #[true, true, true, true, false, false, false, false, false] HT_ ?_
      refine pX_ 4 (some 32) #[true, true, true, true, true, false, false, false, false] HT_ ?_
      refine pX_ 5 (some 33) #[true, true, true, true, true, true, false, false, false] HT_ ?_
      refine pX_ 6 (some 34) #[true, true, true, true, true, true, true, false, false] HT_ ?_
      refine one_ (i := 7) (N := some 8) #[true, true, true, true, true, true, true, true, false] rfl rfl (one_of HT_.out (by kernel_rfl)) (by decide) (fun K hK => ?_)
      refine box_step ?hg (N := 8) ?hd (cs := #[.int .i64 0, .int .i64 0]) (t := 46) ?hr ?_; (case hd => rfl); (case hg => rfl); (case hr => first | (go_simp; done) | (go_simp; rfl))
      intro qk hg qV hbox hb
      have qe := Aside0.mk (hbox); have qv := hz_ HB hg; have qw := hz_ HB hg; replace HB := bS_ HB hb; have qc := nL_ qa hg; have qd := nG_ qa hg; replace qa := kB_ qa hb; clear hb hbox hg
      refine hK.out _ _ trivial (fun hHeld => ?_)
      clear hK K
      refine norm_ (a' := ?_) ?_ ?_
      rotate_left
      ·
       show Act.put _ (some 8) _ = _
       simp only [Act.put, List.setIfInBounds_toArray, List.set_cons_zero, List.set_cons_succ, i64_w, i32_w]
       rfl
      refine one_ (i := 8) (N := none) #[true, true, true, true, true, true, true, true, true] rfl rfl (one_of HT_.out (by kernel_rfl)) (by decide) (fun K hK => ?_)
      have hs27 : qV.cell? ⟨qk, 0, none⟩ = some (.int .i64 0) := bc_ qe 0
      have hfs27 := blk_frozen qe.out 0
      have hns27_0 := qc.out
      have hms27_0 := qd.out
      have hs28 : qV.cell? ⟨qk, 1, none⟩ = some (.int .i64 0) := bc_ qe 1
      have hfs28 := blk_frozen qe.out 1
      have hns28_0 := qc.out
      have hms28_0 := qd.out
      refine skip_ (w1 := ?_) (by rfl) rfl ?_ ?_
      rotate_left
      ·
       go_simp
       rfl
      refine hK.out _ _ trivial (fun hHeld => ?_)
      clear hK K
      refine done_ (done_of HT_.out (by kernel_rfl)) ?_
      have qW := qd.out
      have qX := qc.out
      obtain ⟨qx, qy, qz, qA⟩ := b2_ qe
      try go_wp2_with (first | ((with_reducible refine gate_callee (f := 36) rfl ?_); refine gL_ (some 36) Tryd.func36 #[.agg #[.int .i64 (wrap64 (Int.tdiv qf qb)), .int .i64 (wrap64 (Int.tdiv qg qb))]] ?_; (with_reducible refine (spec_IsRatio.calls k2 (wrap64 (Int.tdiv qf qb)) (wrap64 (Int.tdiv qg qb)) false _ A12.out).mono ?_); rintro e q5 ⟨rfl, hb⟩; refine ⟨_, rfl, ?_⟩; replace qa := kF_ qa hb; replace qe := kP_ (cs' := #[.int .i64 (wrap64 (Int.tdiv qf qb)), .int .i64 (wrap64 (Int.tdiv qg qb))]) qe hb; replace HB := bS_ HB hb; clear hb; obtain ⟨qB, qC, qD, qE⟩ := b2_ qa))
      refine bodyPost_ret (results_cell_row rfl _ _ qi 46 #[.int .i64 0, .int .i64 0] (0, 0) _ rfl (by (with_reducible repeat (first | refine blk_drewN ?_ _ | refine blk_drew ?_ | refine blk_alloc ?_ _)); refine blk_put (cs := #[.int .i64 0, .int .i64 0]) ?_ 1 _ rfl; (with_reducible repeat (first | refine blk_drewN ?_ _ | refine blk_drew ?_ | refine blk_alloc ?_ _)); refine blk_put (cs := #[.int .i64 0, .int .i64 0]) ?_ 0 _ rfl; (with_reducible repeat (first | refine blk_drewN ?_ _ | refine blk_drew ?_ | refine blk_alloc ?_ _)); exact qa.out) Tryd.underlying46 rfl (by kernel_rfl)) rfl ?_
      exact ⟨by first | rfl | (simp [errW_none, errW_some] <;> rfl) | (simp [*, errW_none, errW_some] <;> rfl), bb_ HB⟩
     subst c13
     have H1 : (some (wrap64 (Int.tdiv qf qb), wrap64 (Int.tdiv qg qb))) = some (r1, r2) := by rw [if_pos rfl] at H; exact H
     clear H
     have H := H1
     clear H1
     simp only [Option.some.injEq, Prod.mk.injEq] at H
     obtain ⟨rfl, rfl⟩ := H
     try go_wp2_with (first | ((with_reducible refine gate_callee (f := 103) rfl ?_); refine gL_ (some 27) Tryd.func103 #[.int .i64 qj] ?_; (with_reducible refine (spec_l1Abs.calls qj qb _ A10.out).mono ?_); rintro e q2 ⟨rfl, hb⟩; refine ⟨_, rfl, ?_⟩; replace qa := kB_ qa hb; replace HB := bS_ HB hb; clear hb))
     replace qa := Aside0.mk (blk_drew qa.out); replace HB := Aside0.mk (below_drew1 HB.out)
     refine start_ (n := 9) (S := fun w' => True) (ds := []) #[false, false, false, false, false, false, false, false, false] (by kernel_rfl) rfl rfl trivial (fun hHeld => ?_); refine with_tabW spec_l2Make.tab10 spec_l2Make.bits10 (fun HT_ HW_ => ?_)
     generalize q2.drew = q6 at qa HB hHeld ⊢
     refine pX_ 0 (some 28) #[true, false, false, false, false, false, false, false, false] HT_ ?_
     refine pX_ 1 (some 29) #[true, true, false, false, false, false, false, false, false] HT_ ?_
     refine pX_ 2 (some 30) #[true, true, true, false, false, false, false, false, false] HT_ ?_
     refine pX_ 3 (some 31) #[true, true, true, true, false, false, false, false, false] HT_ ?_
     refine pX_ 4 (some 32) #[true, true, true, true, true, false, false, false, false] HT_ ?_
     refine pX_ 5 (some 33) #[true, true, true, true, true, true, false, false, false] HT_ ?_
     refine pX_ 6 (some 34) #[true, true, true, true, true, true, true, false, false] HT_ ?_
     refine one_ (i := 7) (N := some 8) #[true, true, true, true, true, true, true, true, false] rfl rfl (one_of HT_.out (by kernel_rfl)) (by decide) (fun K hK => ?_)
     refine box_step ?hg (N := 8) ?hd (cs := #[.int .i64 0, .int .i64 0]) (t := 46) ?hr ?_; (case hd => rfl); (case hg => rfl); (case hr => first | (go_simp; done) | (go_simp; rfl))
     intro qk hg qY hbox hb
     have qe := Aside0.mk (hbox); have qv := hz_ HB hg; have qw := hz_ HB hg; replace HB := bS_ HB hb; have qc := nL_ qa hg; have qd := nG_ qa hg; replace qa := kB_ qa hb; clear hb hbox hg
     refine hK.out _ _ trivial (fun hHeld => ?_)
     clear hK K
     refine norm_ (a' := ?_) ?_ ?_
     rotate_left
     ·
      show Act.put _ (some 8) _ = _
      simp only [Act.put, List.setIfInBounds_toArray, List.set_cons_zero, List.set_cons_succ, i64_w, i32_w]
      rfl
     refine one_ (i := 8) (N := none) #[true, true, true, true, true, true, true, true, true] rfl rfl (one_of HT_.out (by kernel_rfl)) (by decide) (fun K hK => ?_)
     have hs17 : qY.cell? ⟨qk, 0, none⟩ = some (.int .i64 0) := bc_ qe 0
     have hfs17 := blk_frozen qe.out 0
     have hns17_0 := qc.out
     have hms17_0 := qd.out
     have hs18 : qY.cell? ⟨qk, 1, none⟩ = some (.int .i64 0) := bc_ qe 1
     have hfs18 := blk_frozen qe.out 1
     have hns18_0 := qc.out
     have hms18_0 := qd.out
     refine skip_ (w1 := ?_) (by rfl) rfl ?_ ?_
     rotate_left
     ·
      go_simp
      rfl
     refine hK.out _ _ trivial (fun hHeld => ?_)
     clear hK K
     refine done_ (done_of HT_.out (by kernel_rfl)) ?_
     have qZ := qd.out
     have q0 := qc.out
     obtain ⟨qF, qG, qH, qI⟩ := b2_ qe
     try go_wp2_with (first | ((with_reducible refine gate_callee (f := 36) rfl ?_); refine gL_ (some 36) Tryd.func36 #[.agg #[.int .i64 (wrap64 (Int.tdiv qf qb)), .int .i64 (wrap64 (Int.tdiv qg qb))]] ?_; (with_reducible refine (spec_IsRatio.calls k2 (wrap64 (Int.tdiv qf qb)) (wrap64 (Int.tdiv qg qb)) true _ A12.out).mono ?_); rintro e q7 ⟨rfl, hb⟩; refine ⟨_, rfl, ?_⟩; replace qa := kF_ qa hb; replace qe := kP_ (cs' := #[.int .i64 (wrap64 (Int.tdiv qf qb)), .int .i64 (wrap64 (Int.tdiv qg qb))]) qe hb; replace HB := bS_ HB hb; clear hb; obtain ⟨qJ, qK, qL, qM⟩ := b2_ qe; obtain ⟨qN, qO, qP, qQ⟩ := b2_ qa))
     refine bodyPost_ret (results_cell_row rfl _ _ qi 46 #[.int .i64 (wrap64 (Int.tdiv qf qb)), .int .i64 (wrap64 (Int.tdiv qg qb))] (0, 0) _ rfl (by (with_reducible repeat (first | refine blk_drewN ?_ _ | refine blk_drew ?_ | refine blk_alloc ?_ _)); refine blk_put (cs := #[.int .i64 (wrap64 (Int.tdiv qf qb)), .int .i64 0]) ?_ 1 _ rfl; (with_reducible repeat (first | refine blk_drewN ?_ _ | refine blk_drew ?_ | refine blk_alloc ?_ _)); refine blk_put (cs := #[.int .i64 0, .int .i64 0]) ?_ 0 _ rfl; (with_reducible repeat (first | refine blk_drewN ?_ _ | refine blk_drew ?_ | refine blk_alloc ?_ _)); exact qa.out) Tryd.underlying46 rfl (by kernel_rfl)) rfl ?_
     exact ⟨by first | rfl | (simp [errW_none, errW_some] <;> rfl) | (simp [*, errW_none, errW_some] <;> rfl), bb_ HB⟩

/-! ### spec_MakeRatio: function 70 -/
def spec_MakeRatio.f (k : Nat) (a0 : Int) (a1 : Int) : Option (Int × Int) := (spec_IsNumber.f a0).bind fun qe => (if qe = true then ((spec_IsNumber.f a1).bind fun qd => (if qd = true then ((spec_l2Make.f k a0 a1).bind fun qb => (some (qb.1, qb.2))) else (some (0, 0)))) else (some (0, 0)))
theorem spec_MakeRatio.mono : ∀ a0 a1 k, LeO (spec_MakeRatio.f k a0 a1) (spec_MakeRatio.f (k + 1) a0 a1) := by
 intro a0 a1 k
 unfold spec_MakeRatio.f
 repeat' first
   | (with_reducible exact spec_l2Make.mono _ _ _)
   | (with_reducible exact LeO.refl _)
   | (with_reducible exact LeO.none _)
   | (with_reducible refine LeO.ite ?_ ?_)
   | (with_reducible refine LeO.bind ?_ (fun _ => ?_))
   | exact spec_l2Make.mono _ _ _
   | exact LeO.none _
   | refine LeO.ite ?_ ?_
   | refine LeO.bind ?_ (fun _ => ?_)
set_option maxHeartbeats 8000000 in
set_option maxRecDepth 100000 in
theorem spec_MakeRatio.calls (k : Nat) (a0 : Int) (a1 : Int) (r1 : Int) (r2 : Int) (w : World) (h : spec_MakeRatio.f k a0 a1 = some (r1, r2)) :
  Calls Tryd.prog 70 #[.int .i64 a0, .int .i64 a1] w fun e w' => e = .returned (.agg #[.int .i64 r1, .int .i64 r2]) ∧ Below w.heap.size w w' := by
 have hu46 := Tryd.underlying46
 have HB := Aside0.mk (Below.refl w.heap.size w)
 have H : ((spec_IsNumber.f a0).bind fun qe => (if qe = true then ((spec_IsNumber.f a1).bind fun qd => (if qd = true then ((spec_l2Make.f k a0 a1).bind fun qb => (some (qb.1, qb.2))) else (some (0, 0)))) else (some (0, 0)))) = some (r1, r2) := h
 clear h
 replace H := Option.bind_eq_some_iff.mp H
 obtain ⟨qe, A30, H⟩ := H
 replace H : (if qe = true then ((spec_IsNumber.f a1).bind fun qd => (if qd = true then ((spec_l2Make.f k a0 a1).bind fun qb => (some (qb.1, qb.2))) else (some (0, 0)))) else (some (0, 0))) = some (r1, r2) := H
 have A3 := Aside0.mk A30
 clear A30
 by_cases c4 : qe = true
 rotate_left
 ·
  replace c4 := Bool.eq_false_iff.mpr c4
  subst c4
  have H1 : (some (0, 0)) = some (r1, r2) := by rw [if_neg (show ¬ (false = true) by decide)] at H; exact H
  clear H
  have H := H1
  clear H1
  simp only [Option.some.injEq, Prod.mk.injEq] at H
  obtain ⟨rfl, rfl⟩ := H
  go_enter Tryd.func70, Tryd.ntmps70
  go_wp2_with (first | ((with_reducible refine gate_dst (N := 4) rfl ?_); refine bx_ (cs := #[.int .i64 0, .int .i64 0]) (t := 46) ?_; intro qc hg qk hbox hb; have qa := Aside0.mk (hbox); have qh := hz_ HB hg; have qi := hz_ HB hg; replace HB := bS_ HB hb; clear hb hbox hg) | ((with_reducible refine gate_callee (f := 59) rfl ?_); refine gL_ (some 6) Tryd.func59 #[.int .i64 a0] ?_; (with_reducible refine (spec_IsNumber.calls a0 false _ A3.out).mono ?_); rintro e w' ⟨rfl, ⟨nd, rfl⟩⟩; refine ⟨_, rfl, ?_⟩; (try (rw [drewN_self qk]; generalize hq_ : World.drewN qk _ = qk; have n0_ : Aside0 (qk.heap[qc]? = some (.cells #[.int .i64 0, .int .i64 0] 46 (0, 0))) := ⟨by rw [← hq_]; exact (kf_ qa)⟩; have n1_ : Aside0 (Below w.heap.size w qk) := ⟨by rw [← hq_]; exact (bb_ HB)⟩; clear qa HB hq_; have qa := n0_; have HB := n1_; clear n0_ n1_)); obtain ⟨ql, qm, qn, qo⟩ := b2_ qa))
  refine bodyPost_ret (results_cell_row rfl _ _ qc 46 #[.int .i64 0, .int .i64 0] (0, 0) _ rfl (by (with_reducible repeat (first | refine blk_drewN ?_ _ | refine blk_drew ?_ | refine blk_alloc ?_ _)); refine blk_put (cs := #[.int .i64 0, .int .i64 0]) ?_ 1 _ rfl; (with_reducible repeat (first | refine blk_drewN ?_ _ | refine blk_drew ?_ | refine blk_alloc ?_ _)); refine blk_put (cs := #[.int .i64 0, .int .i64 0]) ?_ 0 _ rfl; (with_reducible repeat (first | refine blk_drewN ?_ _ | refine blk_drew ?_ | refine blk_alloc ?_ _)); exact qa.out) Tryd.underlying46 rfl (by kernel_rfl)) rfl ?_
  exact ⟨by first | rfl | (simp [errW_none, errW_some] <;> rfl) | (simp [*, errW_none, errW_some] <;> rfl), bb_ HB⟩
 subst c4
 have H1 : ((spec_IsNumber.f a1).bind fun qd => (if qd = true then ((spec_l2Make.f k a0 a1).bind fun qb => (some (qb.1, qb.2))) else (some (0, 0)))) = some (r1, r2) := by rw [if_pos rfl] at H; exact H
 clear H
 have H := H1
 clear H1
 replace H := Option.bind_eq_some_iff.mp H
 obtain ⟨qd, A50, H⟩ := H
 replace H : (if qd = true then ((spec_l2Make.f k a0 a1).bind fun qb => (some (qb.1, qb.2))) else (some (0, 0))) = some (r1, r2) := H
 have A5 := Aside0.mk A50
 clear A50
 by_cases c6 : qd = true
 rotate_left
 ·
  replace c6 := Bool.eq_false_iff.mpr c6
  subst c6
  have H1 : (some (0, 0)) = some (r1, r2) := by rw [if_neg (show ¬ (false = true) by decide)] at H; exact H
  clear H
  have H := H1
  clear H1
  simp only [Option.some.injEq, Prod.mk.injEq] at H
  obtain ⟨rfl, rfl⟩ := H
  go_enter Tryd.func70, Tryd.ntmps70
  go_wp2_with (first | ((with_reducible refine gate_dst (N := 4) rfl ?_); refine bx_ (cs := #[.int .i64 0, .int .i64 0]) (t := 46) ?_; intro qc hg qf hbox hb; have qa := Aside0.mk (hbox); have qh := hz_ HB hg; have qi := hz_ HB hg; replace HB := bS_ HB hb; clear hb hbox hg) | ((with_reducible refine gate_callee (f := 59) rfl ?_); refine gL_ (some 6) Tryd.func59 #[.int .i64 a0] ?_; (with_reducible refine (spec_IsNumber.calls a0 true _ A3.out).mono ?_); rintro e w' ⟨rfl, ⟨nd, rfl⟩⟩; refine ⟨_, rfl, ?_⟩; (try (rw [drewN_self qf]; generalize hq_ : World.drewN qf _ = qf; have n0_ : Aside0 (qf.heap[qc]? = some (.cells #[.int .i64 0, .int .i64 0] 46 (0, 0))) := ⟨by rw [← hq_]; exact (kf_ qa)⟩; have n1_ : Aside0 (Below w.heap.size w qf) := ⟨by rw [← hq_]; exact (bb_ HB)⟩; clear qa HB hq_; have qa := n0_; have HB := n1_; clear n0_ n1_))) | (go_at_call 59; (with_reducible refine (spec_IsNumber.calls a1 false _ A5.out).mono ?_); rintro e w' ⟨rfl, ⟨nd, rfl⟩⟩; (try (rw [drewN_self qf]; generalize hq_ : World.drewN qf _ = qf; have n0_ : Aside0 (qf.heap[qc]? = some (.cells #[.int .i64 0, .int .i64 0] 46 (0, 0))) := ⟨by rw [← hq_]; exact (kf_ qa)⟩; have n1_ : Aside0 (Below w.heap.size w qf) := ⟨by rw [← hq_]; exact (bb_ HB)⟩; clear qa HB hq_; have qa := n0_; have HB := n1_; clear n0_ n1_)); obtain ⟨qp, qq, qr, qs⟩ := b2_ qa))
  refine bodyPost_ret (results_cell_row rfl _ _ qc 46 #[.int .i64 0, .int .i64 0] (0, 0) _ rfl (by (with_reducible repeat (first | refine blk_drewN ?_ _ | refine blk_drew ?_ | refine blk_alloc ?_ _)); refine blk_put (cs := #[.int .i64 0, .int .i64 0]) ?_ 1 _ rfl; (with_reducible repeat (first | refine blk_drewN ?_ _ | refine blk_drew ?_ | refine blk_alloc ?_ _)); refine blk_put (cs := #[.int .i64 0, .int .i64 0]) ?_ 0 _ rfl; (with_reducible repeat (first | refine blk_drewN ?_ _ | refine blk_drew ?_ | refine blk_alloc ?_ _)); exact qa.out) Tryd.underlying46 rfl (by kernel_rfl)) rfl ?_
  exact ⟨by first | rfl | (simp [errW_none, errW_some] <;> rfl) | (simp [*, errW_none, errW_some] <;> rfl), bb_ HB⟩
 subst c6
 have H1 : ((spec_l2Make.f k a0 a1).bind fun qb => (some (qb.1, qb.2))) = some (r1, r2) := by rw [if_pos rfl] at H; exact H
 clear H
 have H := H1
 clear H1
 replace H := Option.bind_eq_some_iff.mp H
 obtain ⟨⟨qg, qj⟩, A70, H⟩ := H
 replace H : (some (qg, qj)) = some (r1, r2) := H
 have A7 := Aside0.mk A70
 clear A70
 simp only [Option.some.injEq, Prod.mk.injEq] at H
 obtain ⟨rfl, rfl⟩ := H
 go_enter Tryd.func70, Tryd.ntmps70
 go_wp2_with (first | ((with_reducible refine gate_dst (N := 4) rfl ?_); refine bx_ (cs := #[.int .i64 0, .int .i64 0]) (t := 46) ?_; intro qc hg w8 hbox hb; have qa := Aside0.mk (hbox); have qh := hz_ HB hg; have qi := hz_ HB hg; replace HB := bS_ HB hb; clear hb hbox hg) | ((with_reducible refine gate_callee (f := 59) rfl ?_); refine gL_ (some 6) Tryd.func59 #[.int .i64 a0] ?_; (with_reducible refine (spec_IsNumber.calls a0 true _ A3.out).mono ?_); rintro e w' ⟨rfl, ⟨nd, rfl⟩⟩; refine ⟨_, rfl, ?_⟩; (try (rw [drewN_self w8]; generalize hq_ : World.drewN w8 _ = w8; have n0_ : Aside0 (w8.heap[qc]? = some (.cells #[.int .i64 0, .int .i64 0] 46 (0, 0))) := ⟨by rw [← hq_]; exact (kf_ qa)⟩; have n1_ : Aside0 (Below w.heap.size w w8) := ⟨by rw [← hq_]; exact (bb_ HB)⟩; clear qa HB hq_; have qa := n0_; have HB := n1_; clear n0_ n1_))) | (go_at_call 59; (with_reducible refine (spec_IsNumber.calls a1 true _ A5.out).mono ?_); rintro e w' ⟨rfl, ⟨nd, rfl⟩⟩; (try (rw [drewN_self w8]; generalize hq_ : World.drewN w8 _ = w8; have n0_ : Aside0 (w8.heap[qc]? = some (.cells #[.int .i64 0, .int .i64 0] 46 (0, 0))) := ⟨by rw [← hq_]; exact (kf_ qa)⟩; have n1_ : Aside0 (Below w.heap.size w w8) := ⟨by rw [← hq_]; exact (bb_ HB)⟩; clear qa HB hq_; have qa := n0_; have HB := n1_; clear n0_ n1_))) | ((with_reducible refine gate_callee (f := 99) rfl ?_); refine gL_ (some 16) Tryd.func99 #[.int .i64 a0, .int .i64 a1] ?_; (with_reducible refine (spec_l2Make.calls k a0 a1 qg qj _ A7.out).mono ?_); rintro e w9 ⟨rfl, hb⟩; refine ⟨_, rfl, ?_⟩; replace qa := kB_ qa hb; replace HB := bS_ HB hb; clear hb; obtain ⟨qt, qu, qv, qw⟩ := b2_ qa))
 refine bodyPost_ret (results_cell_row rfl _ _ qc 46 #[.int .i64 qg, .int .i64 qj] (0, 0) _ rfl (by (with_reducible repeat (first | refine blk_drewN ?_ _ | refine blk_drew ?_ | refine blk_alloc ?_ _)); refine blk_put (cs := #[.int .i64 qg, .int .i64 0]) ?_ 1 _ rfl; (with_reducible repeat (first | refine blk_drewN ?_ _ | refine blk_drew ?_ | refine blk_alloc ?_ _)); refine blk_put (cs := #[.int .i64 0, .int .i64 0]) ?_ 0 _ rfl; (with_reducible repeat (first | refine blk_drewN ?_ _ | refine blk_drew ?_ | refine blk_alloc ?_ _)); exact qa.out) Tryd.underlying46 rfl (by kernel_rfl)) rfl ?_
 exact ⟨by first | rfl | (simp [errW_none, errW_some] <;> rfl) | (simp [*, errW_none, errW_some] <;> rfl), bb_ HB⟩

/-! ### spec_l2Any: function 102 -/
def spec_l2Any.f (k : Nat) (s0_0 : List Int) (s0_1 : Int) (s0_2 : Int) : Option (Int × Int × Int × Int) := (spec_l1Below.f s0_0 s0_1 s0_2 12).bind fun qe => (if qe.1 = 0 then (some (0, 0, qe.2.1, qe.2.2)) else (if qe.1 = 1 then ((spec_l1Odd.f s0_0 qe.2.1 qe.2.2).bind fun qn => ((spec_l1PickInt.f s0_0 qn.2.1 qn.2.2 (([1, 2, 400000000, (-1), 4] : List Int))).bind fun qh => (some (qn.1, qh.1, qh.2.1, qh.2.2)))) else (if qe.1 = 2 then ((spec_l1Below.f s0_0 qe.2.1 qe.2.2 400000000).bind fun qo => ((spec_l1Below.f s0_0 qo.2.1 qo.2.2 400000000).bind fun qi => ((spec_MakeRatio.f k qo.1 (wrap64 (1 + qi.1))).bind fun ql => (some (ql.1, ql.2, qi.2.1, qi.2.2))))) else ((spec_l1Below.f s0_0 qe.2.1 qe.2.2 41).bind fun qp => ((spec_l1Below.f s0_0 qp.2.1 qp.2.2 12).bind fun qj => ((spec_MakeRatio.f k (wrap64 (qp.1 - 20)) (wrap64 (1 + qj.1))).bind fun qm => (some (qm.1, qm.2, qj.2.1, qj.2.2))))))))
theorem spec_l2Any.mono : ∀ a0 a1 a2 k, LeO (spec_l2Any.f k a0 a1 a2) (spec_l2Any.f (k + 1) a0 a1 a2) := by
 intro a0 a1 a2 k
 unfold spec_l2Any.f
 repeat' first
   | (with_reducible exact spec_MakeRatio.mono _ _ _)
   | (with_reducible exact LeO.refl _)
   | (with_reducible exact LeO.none _)
   | (with_reducible refine LeO.ite ?_ ?_)
   | (with_reducible refine LeO.bind ?_ (fun _ => ?_))
   | exact spec_MakeRatio.mono _ _ _
   | exact LeO.none _
   | refine LeO.ite ?_ ?_
   | refine LeO.bind ?_ (fun _ => ?_)
set_option maxHeartbeats 8000000 in
set_option maxRecDepth 100000 in
theorem spec_l2Any.calls (k : Nat) (g : Nat) (s0_0 : List Int) (s0_1 : Int) (s0_2 : Int) (r1 : Int) (r2 : Int) (r3 : Int) (r4 : Int) (w0 w : World) (hI : IsS139 w0 w g s0_0 s0_1 s0_2) (hB : Below w0.heap.size w0 w) (h : spec_l2Any.f k s0_0 s0_1 s0_2 = some (r1, r2, r3, r4)) :
  Calls Tryd.prog 102 #[.pointer (some ⟨g, 0, none⟩)] w fun e w' => e = .returned (.agg #[.int .i64 r1, .int .i64 r2]) ∧ IsS139 w0 w' g s0_0 r3 r4 ∧ Below w0.heap.size w0 w' ∧ KeepBut w w' g none := by
 have hu46 := Tryd.underlying46
 have HI0 := Aside0.mk hI
 have HK := Aside0.mk (KeepBut.refl w g none)
 have HL := Aside0.mk hB.size
 clear hI
 have HW0 := Aside0.mk hB.size
 have HB := Aside0.mk hB
 clear hB
 have H : ((spec_l1Below.f s0_0 s0_1 s0_2 12).bind fun qe => (if qe.1 = 0 then (some (0, 0, qe.2.1, qe.2.2)) else (if qe.1 = 1 then ((spec_l1Odd.f s0_0 qe.2.1 qe.2.2).bind fun qn => ((spec_l1PickInt.f s0_0 qn.2.1 qn.2.2 (([1, 2, 400000000, (-1), 4] : List Int))).bind fun qh => (some (qn.1, qh.1, qh.2.1, qh.2.2)))) else (if qe.1 = 2 then ((spec_l1Below.f s0_0 qe.2.1 qe.2.2 400000000).bind fun qo => ((spec_l1Below.f s0_0 qo.2.1 qo.2.2 400000000).bind fun qi => ((spec_MakeRatio.f k qo.1 (wrap64 (1 + qi.1))).bind fun ql => (some (ql.1, ql.2, qi.2.1, qi.2.2))))) else ((spec_l1Below.f s0_0 qe.2.1 qe.2.2 41).bind fun qp => ((spec_l1Below.f s0_0 qp.2.1 qp.2.2 12).bind fun qj => ((spec_MakeRatio.f k (wrap64 (qp.1 - 20)) (wrap64 (1 + qj.1))).bind fun qm => (some (qm.1, qm.2, qj.2.1, qj.2.2))))))))) = some (r1, r2, r3, r4) := h
 clear h
 replace H := Option.bind_eq_some_iff.mp H
 obtain ⟨⟨qk, qq, qr⟩, A20, H⟩ := H
 replace H : (if qk = 0 then (some (0, 0, qq, qr)) else (if qk = 1 then ((spec_l1Odd.f s0_0 qq qr).bind fun qn => ((spec_l1PickInt.f s0_0 qn.2.1 qn.2.2 (([1, 2, 400000000, (-1), 4] : List Int))).bind fun qh => (some (qn.1, qh.1, qh.2.1, qh.2.2)))) else (if qk = 2 then ((spec_l1Below.f s0_0 qq qr 400000000).bind fun qo => ((spec_l1Below.f s0_0 qo.2.1 qo.2.2 400000000).bind fun qi => ((spec_MakeRatio.f k qo.1 (wrap64 (1 + qi.1))).bind fun ql => (some (ql.1, ql.2, qi.2.1, qi.2.2))))) else ((spec_l1Below.f s0_0 qq qr 41).bind fun qp => ((spec_l1Below.f s0_0 qp.2.1 qp.2.2 12).bind fun qj => ((spec_MakeRatio.f k (wrap64 (qp.1 - 20)) (wrap64 (1 + qj.1))).bind fun qm => (some (qm.1, qm.2, qj.2.1, qj.2.2)))))))) = some (r1, r2, r3, r4) := H
 have A2 := Aside0.mk A20
 clear A20
 by_cases c3 : qk = 0
 ·
  rw [if_pos c3] at H
  have q3 : (qk == 0) = true := beq_iff_eq.mpr c3
  have q4 : (qk != 0) = false := bne_eq_false_iff_eq.mpr c3
  clear c3
  simp only [Option.some.injEq, Prod.mk.injEq] at H
  obtain ⟨rfl, rfl, rfl, rfl⟩ := H
  go_enter Tryd.func102, Tryd.ntmps102
  go_wp2_with (first | ((with_reducible refine gate_dst (N := 2) rfl ?_); refine bx_ (cs := #[.int .i64 0, .int .i64 0]) (t := 46) ?_; intro qb hg w4 hbox hb; replace HB := Aside0.mk (below_step (by repeat (first | (with_reducible first | exact HB.out | apply below_alloc | apply pw_below_drewN | apply below_drew1 | refine below_set ?_ (IsS139.ge HI0.out)) | exact HB.out)) hb); have qc := Aside0.mk (hbox); have qf := Aside0.mk ((by rw [hg]; exact (keep_size (w := w) (g := g) (row := none) (by repeat (first | (with_reducible first | exact HK.out | apply KeepBut.set_ | apply keep_drewN | apply keep_drew | apply keep_alloc) | exact HK.out))) : w.heap.size ≤ qb)); have qg := Aside0.mk ((Nat.le_trans HW0.out (by rw [hg]; exact (keep_size (w := w) (g := g) (row := none) (by repeat (first | (with_reducible first | exact HK.out | apply KeepBut.set_ | apply keep_drewN | apply keep_drew | apply keep_alloc) | exact HK.out))) : w.heap.size ≤ qb) : w0.heap.size ≤ qb)); replace HK := Aside0.mk (KeepBut.trans (by repeat (first | (with_reducible first | exact HK.out | apply KeepBut.set_ | apply keep_drewN | apply keep_drew | apply keep_alloc) | exact HK.out)) (KeepBut.of_below hb g none) (.inl rfl)); have qa := Aside0.mk ((by rw [hg]; exact Nat.ne_of_lt (IsS139.lt (show IsS139 w0 _ g s0_0 s0_1 s0_2 from by repeat (first | (with_reducible first | exact HI0.out | apply IsS139.alloc | apply IsS139.drewN | apply IsS139.drew | apply IsS139.set_1 | apply IsS139.set_2) | exact HI0.out))) : g ≠ qb)); have qd := Aside0.mk ((by rw [hg]; exact Nat.ne_of_gt (IsS139.lt (show IsS139 w0 _ g s0_0 s0_1 s0_2 from by repeat (first | (with_reducible first | exact HI0.out | apply IsS139.alloc | apply IsS139.drewN | apply IsS139.drew | apply IsS139.set_1 | apply IsS139.set_2) | exact HI0.out))) : qb ≠ g)); replace HI0 := Aside0.mk (IsS139.below (by repeat (first | (with_reducible first | exact HI0.out | apply IsS139.alloc | apply IsS139.drewN | apply IsS139.drew | apply IsS139.set_1 | apply IsS139.set_2) | exact HI0.out)) hb); clear hb hbox hg) | ((with_reducible refine gate_callee (f := 119) rfl ?_); refine gL_ (some 4) Tryd.func119 #[.pointer (some ⟨g, 0, none⟩), .int .i64 12] ?_; (with_reducible refine (spec_l1Below.calls g s0_0 s0_1 s0_2 12 qk qq qr w0 _ ?side1 ?side2 A2.out).mono ?_); (case side1 => repeat (first | (with_reducible first | exact HI0.out | apply IsS139.alloc | apply IsS139.drewN | apply IsS139.drew | apply IsS139.set_1 | apply IsS139.set_2 | refine IsS139.far ?_ qa.out _) | exact HI0.out)); (case side2 => repeat (first | (with_reducible first | exact HB.out | apply below_alloc | apply pw_below_drewN | apply below_drew1 | refine below_set ?_ (IsS139.ge HI0.out) | refine below_set ?_ qg.out) | exact HB.out)); rintro e w5 ⟨rfl, hi, hb, hk⟩; refine ⟨_, rfl, ?_⟩; replace qc := Aside0.mk (KeepBut.blk hk (g' := qb) (o := .cells #[.int .i64 0, .int .i64 0] 46 (0, 0)) (kf_ qc) qd.out (by simp)); replace HK := Aside0.mk (KeepBut.trans (by repeat (first | (with_reducible first | exact HK.out | apply KeepBut.set_ | apply keep_drewN | apply keep_drew | apply keep_alloc | refine keep_far ?_ qf.out _) | exact HK.out)) hk (.inl rfl)); replace HB := Aside0.mk (hb); replace HI0 := Aside0.mk (hi); clear hb hk hi; have zj := qd.out; have zk := qa.out; obtain ⟨q5, q6, q7, q8⟩ := b2_ qc))
  refine bodyPost_ret (results_cell_row rfl _ _ qb 46 #[.int .i64 0, .int .i64 0] (0, 0) _ rfl (by (with_reducible repeat (first | refine blk_drewN ?_ _ | refine blk_drew ?_ | refine blk_alloc ?_ _)); refine blk_put (cs := #[.int .i64 0, .int .i64 0]) ?_ 1 _ rfl; (with_reducible repeat (first | refine blk_drewN ?_ _ | refine blk_drew ?_ | refine blk_alloc ?_ _)); refine blk_put (cs := #[.int .i64 0, .int .i64 0]) ?_ 0 _ rfl; (with_reducible repeat (first | refine blk_drewN ?_ _ | refine blk_drew ?_ | refine blk_alloc ?_ _)); exact qc.out) Tryd.underlying46 rfl (by kernel_rfl)) rfl ?_
  exact ⟨by first | rfl | (simp [errW_none, errW_some] <;> rfl) | (simp [*, errW_none, errW_some] <;> rfl), by repeat (first | (with_reducible first | exact HI0.out | apply IsS139.alloc | apply IsS139.drewN | apply IsS139.drew | apply IsS139.set_1 | apply IsS139.set_2 | refine IsS139.far ?_ qa.out _) | exact HI0.out), by repeat (first | (with_reducible first | exact HB.out | apply below_alloc | apply pw_below_drewN | apply below_drew1 | refine below_set ?_ (IsS139.ge HI0.out) | refine below_set ?_ qg.out) | exact HB.out), by repeat (first | (with_reducible first | exact HK.out | apply KeepBut.set_ | apply keep_drewN | apply keep_drew | apply keep_alloc | refine keep_far ?_ qf.out _) | exact HK.out)⟩
 rw [if_neg c3] at H
 have q3 : (qk == 0) = false := beq_eq_false_iff_ne.mpr c3
 have q4 : (qk != 0) = true := bne_iff_ne.mpr c3
 by_cases c8 : qk = 1
 ·
  rw [if_pos c8] at H
  have q9 : (qk == 1) = true := beq_iff_eq.mpr c8
  have za : (qk != 1) = false := bne_eq_false_iff_eq.mpr c8
  clear c8
  replace H := Option.bind_eq_some_iff.mp H
  obtain ⟨⟨qt, qu, qv⟩, A90, H⟩ := H
  replace H : ((spec_l1PickInt.f s0_0 qu qv (([1, 2, 400000000, (-1), 4] : List Int))).bind fun qh => (some (qt, qh.1, qh.2.1, qh.2.2))) = some (r1, r2, r3, r4) := H
  have A9 := Aside0.mk A90
  clear A90
  obtain ⟨y308, hy308⟩ : ∃ y_ : List Int, y_ = (([1, 2, 400000000, (-1), 4] : List Int)) := ⟨_, rfl⟩
  replace H : ((spec_l1PickInt.f s0_0 qu qv y308).bind fun qh => (some (qt, qh.1, qh.2.1, qh.2.2))) = some (r1, r2, r3, r4) := by first | (rw [hy308]; with_reducible exact H) | (have H2_ := (Option.bind_some _ _).symm.trans H; rw [hy308]; with_reducible exact H2_) | (have H2_ := (Option.bind_some _ _).symm.trans H; with_reducible exact H2_) | with_reducible exact H | (rw [hy308]; exact H) | exact H
  have Ny308 := Aside0.mk hy308
  clear hy308
  replace H := Option.bind_eq_some_iff.mp H
  obtain ⟨⟨qC, qN, qO⟩, A100, H⟩ := H
  replace H : (some (qt, qC, qN, qO)) = some (r1, r2, r3, r4) := H
  have A10 := Aside0.mk A100
  clear A100
  simp only [Option.some.injEq, Prod.mk.injEq] at H
  obtain ⟨rfl, rfl, rfl, rfl⟩ := H
  go_enter Tryd.func102, Tryd.ntmps102
  go_wp2_with (first | ((with_reducible refine gate_dst (N := 2) rfl ?_); refine bx_ (cs := #[.int .i64 0, .int .i64 0]) (t := 46) ?_; intro qb hg zm hbox hb; replace HB := Aside0.mk (below_step (by repeat (first | (with_reducible first | exact HB.out | apply below_alloc | apply pw_below_drewN | apply below_drew1 | refine below_set ?_ (IsS139.ge HI0.out)) | exact HB.out)) hb); have qc := Aside0.mk (hbox); have qf := Aside0.mk ((by rw [hg]; exact (keep_size (w := w) (g := g) (row := none) (by repeat (first | (with_reducible first | exact HK.out | apply KeepBut.set_ | apply keep_drewN | apply keep_drew | apply keep_alloc) | exact HK.out))) : w.heap.size ≤ qb)); have qg := Aside0.mk ((Nat.le_trans HW0.out (by rw [hg]; exact (keep_size (w := w) (g := g) (row := none) (by repeat (first | (with_reducible first | exact HK.out | apply KeepBut.set_ | apply keep_drewN | apply keep_drew | apply keep_alloc) | exact HK.out))) : w.heap.size ≤ qb) : w0.heap.size ≤ qb)); replace HK := Aside0.mk (KeepBut.trans (by repeat (first | (with_reducible first | exact HK.out | apply KeepBut.set_ | apply keep_drewN | apply keep_drew | apply keep_alloc) | exact HK.out)) (KeepBut.of_below hb g none) (.inl rfl)); have qa := Aside0.mk ((by rw [hg]; exact Nat.ne_of_lt (IsS139.lt (show IsS139 w0 _ g s0_0 s0_1 s0_2 from by repeat (first | (with_reducible first | exact HI0.out | apply IsS139.alloc | apply IsS139.drewN | apply IsS139.drew | apply IsS139.set_1 | apply IsS139.set_2) | exact HI0.out))) : g ≠ qb)); have qd := Aside0.mk ((by rw [hg]; exact Nat.ne_of_gt (IsS139.lt (show IsS139 w0 _ g s0_0 s0_1 s0_2 from by repeat (first | (with_reducible first | exact HI0.out | apply IsS139.alloc | apply IsS139.drewN | apply IsS139.drew | apply IsS139.set_1 | apply IsS139.set_2) | exact HI0.out))) : qb ≠ g)); replace HI0 := Aside0.mk (IsS139.below (by repeat (first | (with_reducible first | exact HI0.out | apply IsS139.alloc | apply IsS139.drewN | apply IsS139.drew | apply IsS139.set_1 | apply IsS139.set_2) | exact HI0.out)) hb); clear hb hbox hg) | ((with_reducible refine gate_callee (f := 119) rfl ?_); refine gL_ (some 4) Tryd.func119 #[.pointer (some ⟨g, 0, none⟩), .int .i64 12] ?_; (with_reducible refine (spec_l1Below.calls g s0_0 s0_1 s0_2 12 qk qq qr w0 _ ?side1 ?side2 A2.out).mono ?_); (case side1 => repeat (first | (with_reducible first | exact HI0.out | apply IsS139.alloc | apply IsS139.drewN | apply IsS139.drew | apply IsS139.set_1 | apply IsS139.set_2 | refine IsS139.far ?_ qa.out _) | exact HI0.out)); (case side2 => repeat (first | (with_reducible first | exact HB.out | apply below_alloc | apply pw_below_drewN | apply below_drew1 | refine below_set ?_ (IsS139.ge HI0.out) | refine below_set ?_ qg.out) | exact HB.out)); rintro e zn ⟨rfl, hi, hb, hk⟩; refine ⟨_, rfl, ?_⟩; replace qc := Aside0.mk (KeepBut.blk hk (g' := qb) (o := .cells #[.int .i64 0, .int .i64 0] 46 (0, 0)) (kf_ qc) qd.out (by simp)); replace HK := Aside0.mk (KeepBut.trans (by repeat (first | (with_reducible first | exact HK.out | apply KeepBut.set_ | apply keep_drewN | apply keep_drew | apply keep_alloc | refine keep_far ?_ qf.out _) | exact HK.out)) hk (.inl rfl)); replace HB := Aside0.mk (hb); replace HI0 := Aside0.mk (hi); clear hb hk hi) | ((with_reducible refine gate_callee (f := 120) rfl ?_); refine gL_ (some 11) Tryd.func120 #[.pointer (some ⟨g, 0, none⟩)] ?_; (with_reducible refine (spec_l1Odd.calls g s0_0 qq qr qt qu qv w0 _ ?side1 ?side2 A9.out).mono ?_); (case side1 => repeat (first | (with_reducible first | exact HI0.out | apply IsS139.alloc | apply IsS139.drewN | apply IsS139.drew | apply IsS139.set_1 | apply IsS139.set_2 | refine IsS139.far ?_ qa.out _) | exact HI0.out)); (case side2 => repeat (first | (with_reducible first | exact HB.out | apply below_alloc | apply pw_below_drewN | apply below_drew1 | refine below_set ?_ (IsS139.ge HI0.out) | refine below_set ?_ qg.out) | exact HB.out)); rintro e zo ⟨rfl, hi, hb, hk⟩; refine ⟨_, rfl, ?_⟩; replace qc := Aside0.mk (KeepBut.blk hk (g' := qb) (o := .cells #[.int .i64 0, .int .i64 0] 46 (0, 0)) (kf_ qc) qd.out (by simp)); replace HK := Aside0.mk (KeepBut.trans (by repeat (first | (with_reducible first | exact HK.out | apply KeepBut.set_ | apply keep_drewN | apply keep_drew | apply keep_alloc | refine keep_far ?_ qf.out _) | exact HK.out)) hk (.inl rfl)); replace HB := Aside0.mk (hb); replace HI0 := Aside0.mk (hi); clear hb hk hi) | ((with_reducible refine gate_dst (N := 13) rfl ?_); refine Kd.R_lit (Kd.int .i64) _ 3 ?hg (N := 13) ?hd (xs := ([1, 2, 400000000, (-1), 4] : List Int)) (inner := [.int .i64 1, .int .i64 2, .int .i64 400000000, .int .i64 (-1), .int .i64 4]) (ok := fun _ => True) (okp := fun _ => True) ?hr ?hp (fun _ hk => hk) trivial (Below.refl _ _) (Nat.le_refl _) (by simp) ?_; (case hd => rfl); (case hg => rfl); (case hr => first | (go_simp; done) | (go_simp; rfl)); (case hp => exact (Reps.one (show Kd.M (Kd.int .i64) _ _ _ 1 [.int .i64 1] from rfl) (Reps.one (show Kd.M (Kd.int .i64) _ _ _ 2 [.int .i64 2] from rfl) (Reps.one (show Kd.M (Kd.int .i64) _ _ _ 400000000 [.int .i64 400000000] from rfl) (Reps.one (show Kd.M (Kd.int .i64) _ _ _ (-1) [.int .i64 (-1)] from rfl) (Reps.one (show Kd.M (Kd.int .i64) _ _ _ 4 [.int .i64 4] from rfl) (Reps.none _ _))))))); intro zl zp ho15 hb hg_ hnew_; clear hg_ hnew_; (first | rw [← Ny308.out] at ho15 | (simp only [Int.reduceToNat] at ho15; rw [← Ny308.out] at ho15)); have qs := Aside0.mk (Kd.R_lower ho15 (keep_size (w := w) (g := g) (row := none) (by repeat (first | (with_reducible first | exact HK.out | apply KeepBut.set_ | apply keep_drewN | apply keep_drew | apply keep_alloc | refine keep_far ?_ qf.out _) | exact HK.out)))); replace qc := kB_ qc hb; replace HK := Aside0.mk (KeepBut.trans (by repeat (first | (with_reducible first | exact HK.out | apply KeepBut.set_ | apply keep_drewN | apply keep_drew | apply keep_alloc | refine keep_far ?_ qf.out _) | exact HK.out)) (KeepBut.of_below hb g none) (.inl rfl)); replace HB := Aside0.mk (below_step (by repeat (first | (with_reducible first | exact HB.out | apply below_alloc | apply pw_below_drewN | apply below_drew1 | refine below_set ?_ (IsS139.ge HI0.out) | refine below_set ?_ qg.out) | exact HB.out)) hb); replace HI0 := Aside0.mk (IsS139.below (by repeat (first | (with_reducible first | exact HI0.out | apply IsS139.alloc | apply IsS139.drewN | apply IsS139.drew | apply IsS139.set_1 | apply IsS139.set_2 | refine IsS139.far ?_ qa.out _) | exact HI0.out)) hb); clear hb ho15; obtain ⟨zb, zc, eo16⟩ := Kd.R_slice qs.out; subst eo16) | ((with_reducible refine gate_callee (f := 121) rfl ?_); refine gL_ (some 14) Tryd.func121 #[.pointer (some ⟨g, 0, none⟩), .slice zb y308.length zc] ?_; (with_reducible refine (spec_l1PickInt.calls g s0_0 qu qv _ _ y308 qC qN qO w0 _ ?side1 ?side2 ?side3 ?side4 ?side5 A10.out).mono ?_); (case side1 => repeat (first | (with_reducible first | exact HI0.out | apply IsS139.alloc | apply IsS139.drewN | apply IsS139.drew | apply IsS139.set_1 | apply IsS139.set_2 | refine IsS139.far ?_ qa.out _) | exact HI0.out)); (case side2 => repeat (first | (with_reducible first | exact HB.out | apply below_alloc | apply pw_below_drewN | apply below_drew1 | refine below_set ?_ (IsS139.ge HI0.out) | refine below_set ?_ qg.out) | exact HB.out)); (case side3 => exact cr_ qs); (case side4 => exact (Kd.R_reads' qs.out).2.1); (case side5 => exact far_slice (IsS139.own_ne HI0.out qs.out (by decide))); rintro e zq ⟨rfl, hi, hb, hk⟩; refine ⟨_, rfl, ?_⟩; replace qc := Aside0.mk (KeepBut.blk hk (g' := qb) (o := .cells #[.int .i64 0, .int .i64 0] 46 (0, 0)) (kf_ qc) qd.out (by simp)); replace qs := Aside0.mk (Kd.R_mono (Kd.R_keep (IsS139.apart (show IsS139 w0 _ g s0_0 qu qv from by repeat (first | (with_reducible first | exact HI0.out | apply IsS139.alloc | apply IsS139.drewN | apply IsS139.drew | apply IsS139.set_1 | apply IsS139.set_2 | refine IsS139.far ?_ qa.out _) | exact HI0.out)) (rm_ qs) (by decide)) hk (fun _ h => h.2)) (fun _ h => h.1)); replace HK := Aside0.mk (KeepBut.trans (by repeat (first | (with_reducible first | exact HK.out | apply KeepBut.set_ | apply keep_drewN | apply keep_drew | apply keep_alloc | refine keep_far ?_ qf.out _) | exact HK.out)) hk (.inl rfl)); replace HB := Aside0.mk (hb); replace HI0 := Aside0.mk (hi); clear hb hk hi; have zd := qd.out; have ze := qa.out; obtain ⟨qR, qS, qT, qU⟩ := b2_ qc))
  refine bodyPost_ret (results_cell_row rfl _ _ qb 46 #[.int .i64 qt, .int .i64 qC] (0, 0) _ rfl (by (with_reducible repeat (first | refine blk_drewN ?_ _ | refine blk_drew ?_ | refine blk_alloc ?_ _)); refine blk_put (cs := #[.int .i64 qt, .int .i64 0]) ?_ 1 _ rfl; (with_reducible repeat (first | refine blk_drewN ?_ _ | refine blk_drew ?_ | refine blk_alloc ?_ _)); refine blk_put (cs := #[.int .i64 0, .int .i64 0]) ?_ 0 _ rfl; (with_reducible repeat (first | refine blk_drewN ?_ _ | refine blk_drew ?_ | refine blk_alloc ?_ _)); exact qc.out) Tryd.underlying46 rfl (by kernel_rfl)) rfl ?_
  exact ⟨by first | rfl | (simp [errW_none, errW_some] <;> rfl) | (simp [*, errW_none, errW_some] <;> rfl), by repeat (first | (with_reducible first | exact HI0.out | apply IsS139.alloc | apply IsS139.drewN | apply IsS139.drew | apply IsS139.set_1 | apply IsS139.set_2 | refine IsS139.far ?_ qa.out _) | exact HI0.out), by repeat (first | (with_reducible first | exact HB.out | apply below_alloc | apply pw_below_drewN | apply below_drew1 | refine below_set ?_ (IsS139.ge HI0.out) | refine below_set ?_ qg.out) | exact HB.out), by repeat (first | (with_reducible first | exact HK.out | apply KeepBut.set_ | apply keep_drewN | apply keep_drew | apply keep_alloc | refine keep_far ?_ qf.out _) | exact HK.out)⟩
 rw [if_neg c8] at H
 have q9 : (qk == 1) = false := beq_eq_false_iff_ne.mpr c8
 have za : (qk != 1) = true := bne_iff_ne.mpr c8
 by_cases c20 : qk = 2
 rotate_left
 ·
  rw [if_neg c20] at H
  have qP : (qk == 2) = false := beq_eq_false_iff_ne.mpr c20
  have qQ : (qk != 2) = true := bne_iff_ne.mpr c20
  replace H := Option.bind_eq_some_iff.mp H
  obtain ⟨⟨qw, qD, qE⟩, A310, H⟩ := H
  replace H : ((spec_l1Below.f s0_0 qD qE 12).bind fun qj => ((spec_MakeRatio.f k (wrap64 (qw - 20)) (wrap64 (1 + qj.1))).bind fun qm => (some (qm.1, qm.2, qj.2.1, qj.2.2)))) = some (r1, r2, r3, r4) := H
  have A31 := Aside0.mk A310
  clear A310
  replace H := Option.bind_eq_some_iff.mp H
  obtain ⟨⟨qy, qF, qG⟩, A320, H⟩ := H
  replace H : ((spec_MakeRatio.f k (wrap64 (qw - 20)) (wrap64 (1 + qy))).bind fun qm => (some (qm.1, qm.2, qF, qG))) = some (r1, r2, r3, r4) := H
  have A32 := Aside0.mk A320
  clear A320
  replace H := Option.bind_eq_some_iff.mp H
  obtain ⟨⟨qz, qH⟩, A330, H⟩ := H
  replace H : (some (qz, qH, qF, qG)) = some (r1, r2, r3, r4) := H
  have A33 := Aside0.mk A330
  clear A330
  simp only [Option.some.injEq, Prod.mk.injEq] at H
  obtain ⟨rfl, rfl, rfl, rfl⟩ := H
  go_enter Tryd.func102, Tryd.ntmps102
  go_wp2_with (first | ((with_reducible refine gate_dst (N := 2) rfl ?_); refine bx_ (cs := #[.int .i64 0, .int .i64 0]) (t := 46) ?_; intro qb hg zr hbox hb; replace HB := Aside0.mk (below_step (by repeat (first | (with_reducible first | exact HB.out | apply below_alloc | apply pw_below_drewN | apply below_drew1 | refine below_set ?_ (IsS139.ge HI0.out)) | exact HB.out)) hb); have qc := Aside0.mk (hbox); have qf := Aside0.mk ((by rw [hg]; exact (keep_size (w := w) (g := g) (row := none) (by repeat (first | (with_reducible first | exact HK.out | apply KeepBut.set_ | apply keep_drewN | apply keep_drew | apply keep_alloc) | exact HK.out))) : w.heap.size ≤ qb)); have qg := Aside0.mk ((Nat.le_trans HW0.out (by rw [hg]; exact (keep_size (w := w) (g := g) (row := none) (by repeat (first | (with_reducible first | exact HK.out | apply KeepBut.set_ | apply keep_drewN | apply keep_drew | apply keep_alloc) | exact HK.out))) : w.heap.size ≤ qb) : w0.heap.size ≤ qb)); replace HK := Aside0.mk (KeepBut.trans (by repeat (first | (with_reducible first | exact HK.out | apply KeepBut.set_ | apply keep_drewN | apply keep_drew | apply keep_alloc) | exact HK.out)) (KeepBut.of_below hb g none) (.inl rfl)); have qa := Aside0.mk ((by rw [hg]; exact Nat.ne_of_lt (IsS139.lt (show IsS139 w0 _ g s0_0 s0_1 s0_2 from by repeat (first | (with_reducible first | exact HI0.out | apply IsS139.alloc | apply IsS139.drewN | apply IsS139.drew | apply IsS139.set_1 | apply IsS139.set_2) | exact HI0.out))) : g ≠ qb)); have qd := Aside0.mk ((by rw [hg]; exact Nat.ne_of_gt (IsS139.lt (show IsS139 w0 _ g s0_0 s0_1 s0_2 from by repeat (first | (with_reducible first | exact HI0.out | apply IsS139.alloc | apply IsS139.drewN | apply IsS139.drew | apply IsS139.set_1 | apply IsS139.set_2) | exact HI0.out))) : qb ≠ g)); replace HI0 := Aside0.mk (IsS139.below (by repeat (first | (with_reducible first | exact HI0.out | apply IsS139.alloc | apply IsS139.drewN | apply IsS139.drew | apply IsS139.set_1 | apply IsS139.set_2) | exact HI0.out)) hb); clear hb hbox hg) | ((with_reducible refine gate_callee (f := 119) rfl ?_); refine gL_ (some 4) Tryd.func119 #[.pointer (some ⟨g, 0, none⟩), .int .i64 12] ?_; (with_reducible refine (spec_l1Below.calls g s0_0 s0_1 s0_2 12 qk qq qr w0 _ ?side1 ?side2 A2.out).mono ?_); (case side1 => repeat (first | (with_reducible first | exact HI0.out | apply IsS139.alloc | apply IsS139.drewN | apply IsS139.drew | apply IsS139.set_1 | apply IsS139.set_2 | refine IsS139.far ?_ qa.out _) | exact HI0.out)); (case side2 => repeat (first | (with_reducible first | exact HB.out | apply below_alloc | apply pw_below_drewN | apply below_drew1 | refine below_set ?_ (IsS139.ge HI0.out) | refine below_set ?_ qg.out) | exact HB.out)); rintro e zs ⟨rfl, hi, hb, hk⟩; refine ⟨_, rfl, ?_⟩; replace qc := Aside0.mk (KeepBut.blk hk (g' := qb) (o := .cells #[.int .i64 0, .int .i64 0] 46 (0, 0)) (kf_ qc) qd.out (by simp)); replace HK := Aside0.mk (KeepBut.trans (by repeat (first | (with_reducible first | exact HK.out | apply KeepBut.set_ | apply keep_drewN | apply keep_drew | apply keep_alloc | refine keep_far ?_ qf.out _) | exact HK.out)) hk (.inl rfl)); replace HB := Aside0.mk (hb); replace HI0 := Aside0.mk (hi); clear hb hk hi) | ((with_reducible refine gate_callee (f := 119) rfl ?_); refine gL_ (some 25) Tryd.func119 #[.pointer (some ⟨g, 0, none⟩), .int .i64 41] ?_; (with_reducible refine (spec_l1Below.calls g s0_0 qq qr 41 qw qD qE w0 _ ?side1 ?side2 A31.out).mono ?_); (case side1 => repeat (first | (with_reducible first | exact HI0.out | apply IsS139.alloc | apply IsS139.drewN | apply IsS139.drew | apply IsS139.set_1 | apply IsS139.set_2 | refine IsS139.far ?_ qa.out _) | exact HI0.out)); (case side2 => repeat (first | (with_reducible first | exact HB.out | apply below_alloc | apply pw_below_drewN | apply below_drew1 | refine below_set ?_ (IsS139.ge HI0.out) | refine below_set ?_ qg.out) | exact HB.out)); rintro e zt ⟨rfl, hi, hb, hk⟩; refine ⟨_, rfl, ?_⟩; replace qc := Aside0.mk (KeepBut.blk hk (g' := qb) (o := .cells #[.int .i64 0, .int .i64 0] 46 (0, 0)) (kf_ qc) qd.out (by simp)); replace HK := Aside0.mk (KeepBut.trans (by repeat (first | (with_reducible first | exact HK.out | apply KeepBut.set_ | apply keep_drewN | apply keep_drew | apply keep_alloc | refine keep_far ?_ qf.out _) | exact HK.out)) hk (.inl rfl)); replace HB := Aside0.mk (hb); replace HI0 := Aside0.mk (hi); clear hb hk hi) | ((with_reducible refine gate_callee (f := 119) rfl ?_); refine gL_ (some 28) Tryd.func119 #[.pointer (some ⟨g, 0, none⟩), .int .i64 12] ?_; (with_reducible refine (spec_l1Below.calls g s0_0 qD qE 12 qy qF qG w0 _ ?side1 ?side2 A32.out).mono ?_); (case side1 => repeat (first | (with_reducible first | exact HI0.out | apply IsS139.alloc | apply IsS139.drewN | apply IsS139.drew | apply IsS139.set_1 | apply IsS139.set_2 | refine IsS139.far ?_ qa.out _) | exact HI0.out)); (case side2 => repeat (first | (with_reducible first | exact HB.out | apply below_alloc | apply pw_below_drewN | apply below_drew1 | refine below_set ?_ (IsS139.ge HI0.out) | refine below_set ?_ qg.out) | exact HB.out)); rintro e zu ⟨rfl, hi, hb, hk⟩; refine ⟨_, rfl, ?_⟩; replace qc := Aside0.mk (KeepBut.blk hk (g' := qb) (o := .cells #[.int .i64 0, .int .i64 0] 46 (0, 0)) (kf_ qc) qd.out (by simp)); replace HK := Aside0.mk (KeepBut.trans (by repeat (first | (with_reducible first | exact HK.out | apply KeepBut.set_ | apply keep_drewN | apply keep_drew | apply keep_alloc | refine keep_far ?_ qf.out _) | exact HK.out)) hk (.inl rfl)); replace HB := Aside0.mk (hb); replace HI0 := Aside0.mk (hi); clear hb hk hi) | ((with_reducible refine gate_callee (f := 70) rfl ?_); refine gL_ (some 30) Tryd.func70 #[.int .i64 (wrap64 (qw - 20)), .int .i64 (wrap64 (1 + qy))] ?_; (with_reducible refine (spec_MakeRatio.calls k (wrap64 (qw - 20)) (wrap64 (1 + qy)) qz qH _ A33.out).mono ?_); rintro e zv ⟨rfl, hb⟩; refine ⟨_, rfl, ?_⟩; replace qc := kB_ qc hb; replace HK := Aside0.mk (KeepBut.trans (by repeat (first | (with_reducible first | exact HK.out | apply KeepBut.set_ | apply keep_drewN | apply keep_drew | apply keep_alloc | refine keep_far ?_ qf.out _) | exact HK.out)) (KeepBut.of_below hb g none) (.inl rfl)); replace HB := Aside0.mk (below_step (by repeat (first | (with_reducible first | exact HB.out | apply below_alloc | apply pw_below_drewN | apply below_drew1 | refine below_set ?_ (IsS139.ge HI0.out) | refine below_set ?_ qg.out) | exact HB.out)) hb); replace HI0 := Aside0.mk (IsS139.below (by repeat (first | (with_reducible first | exact HI0.out | apply IsS139.alloc | apply IsS139.drewN | apply IsS139.drew | apply IsS139.set_1 | apply IsS139.set_2 | refine IsS139.far ?_ qa.out _) | exact HI0.out)) hb); clear hb; have zf := qd.out; have zg := qa.out; obtain ⟨qV, qW, qX, qY⟩ := b2_ qc))
  refine bodyPost_ret (results_cell_row rfl _ _ qb 46 #[.int .i64 qz, .int .i64 qH] (0, 0) _ rfl (by (with_reducible repeat (first | refine blk_drewN ?_ _ | refine blk_drew ?_ | refine blk_alloc ?_ _)); refine blk_put (cs := #[.int .i64 qz, .int .i64 0]) ?_ 1 _ rfl; (with_reducible repeat (first | refine blk_drewN ?_ _ | refine blk_drew ?_ | refine blk_alloc ?_ _)); refine blk_put (cs := #[.int .i64 0, .int .i64 0]) ?_ 0 _ rfl; (with_reducible repeat (first | refine blk_drewN ?_ _ | refine blk_drew ?_ | refine blk_alloc ?_ _)); exact qc.out) Tryd.underlying46 rfl (by kernel_rfl)) rfl ?_
  exact ⟨by first | rfl | (simp [errW_none, errW_some] <;> rfl) | (simp [*, errW_none, errW_some] <;> rfl), by repeat (first | (with_reducible first | exact HI0.out | apply IsS139.alloc | apply IsS139.drewN | apply IsS139.drew | apply IsS139.set_1 | apply IsS139.set_2 | refine IsS139.far ?_ qa.out _) | exact HI0.out), by repeat (first | (with_reducible first | exact HB.out | apply below_alloc | apply pw_below_drewN | apply below_drew1 | refine below_set ?_ (IsS139.ge HI0.out) | refine below_set ?_ qg.out) | exact HB.out), by repeat (first | (with_reducible first | exact HK.out | apply KeepBut.set_ | apply keep_drewN | apply keep_drew | apply keep_alloc | refine keep_far ?_ qf.out _) | exact HK.out)⟩
 rw [if_pos c20] at H
 have qP : (qk == 2) = true := beq_iff_eq.mpr c20
 have qQ : (qk != 2) = false := bne_eq_false_iff_eq.mpr c20
 clear c20
 replace H := Option.bind_eq_some_iff.mp H
 obtain ⟨⟨qx, qI, qJ⟩, A210, H⟩ := H
 replace H : ((spec_l1Below.f s0_0 qI qJ 400000000).bind fun qi => ((spec_MakeRatio.f k qx (wrap64 (1 + qi.1))).bind fun ql => (some (ql.1, ql.2, qi.2.1, qi.2.2)))) = some (r1, r2, r3, r4) := H
 have A21 := Aside0.mk A210
 clear A210
 replace H := Option.bind_eq_some_iff.mp H
 obtain ⟨⟨qA, qK, qL⟩, A220, H⟩ := H
 replace H : ((spec_MakeRatio.f k qx (wrap64 (1 + qA))).bind fun ql => (some (ql.1, ql.2, qK, qL))) = some (r1, r2, r3, r4) := H
 have A22 := Aside0.mk A220
 clear A220
 replace H := Option.bind_eq_some_iff.mp H
 obtain ⟨⟨qB, qM⟩, A230, H⟩ := H
 replace H : (some (qB, qM, qK, qL)) = some (r1, r2, r3, r4) := H
 have A23 := Aside0.mk A230
 clear A230
 simp only [Option.some.injEq, Prod.mk.injEq] at H
 obtain ⟨rfl, rfl, rfl, rfl⟩ := H
 go_enter Tryd.func102, Tryd.ntmps102
 go_wp2_with (first | ((with_reducible refine gate_dst (N := 2) rfl ?_); refine bx_ (cs := #[.int .i64 0, .int .i64 0]) (t := 46) ?_; intro qb hg zw hbox hb; replace HB := Aside0.mk (below_step (by repeat (first | (with_reducible first | exact HB.out | apply below_alloc | apply pw_below_drewN | apply below_drew1 | refine below_set ?_ (IsS139.ge HI0.out)) | exact HB.out)) hb); have qc := Aside0.mk (hbox); have qf := Aside0.mk ((by rw [hg]; exact (keep_size (w := w) (g := g) (row := none) (by repeat (first | (with_reducible first | exact HK.out | apply KeepBut.set_ | apply keep_drewN | apply keep_drew | apply keep_alloc) | exact HK.out))) : w.heap.size ≤ qb)); have qg := Aside0.mk ((Nat.le_trans HW0.out (by rw [hg]; exact (keep_size (w := w) (g := g) (row := none) (by repeat (first | (with_reducible first | exact HK.out | apply KeepBut.set_ | apply keep_drewN | apply keep_drew | apply keep_alloc) | exact HK.out))) : w.heap.size ≤ qb) : w0.heap.size ≤ qb)); replace HK := Aside0.mk (KeepBut.trans (by repeat (first | (with_reducible first | exact HK.out | apply KeepBut.set_ | apply keep_drewN | apply keep_drew | apply keep_alloc) | exact HK.out)) (KeepBut.of_below hb g none) (.inl rfl)); have qa := Aside0.mk ((by rw [hg]; exact Nat.ne_of_lt (IsS139.lt (show IsS139 w0 _ g s0_0 s0_1 s0_2 from by repeat (first | (with_reducible first | exact HI0.out | apply IsS139.alloc | apply IsS139.drewN | apply IsS139.drew | apply IsS139.set_1 | apply IsS139.set_2) | exact HI0.out))) : g ≠ qb)); have qd := Aside0.mk ((by rw [hg]; exact Nat.ne_of_gt (IsS139.lt (show IsS139 w0 _ g s0_0 s0_1 s0_2 from by repeat (first | (with_reducible first | exact HI0.out | apply IsS139.alloc | apply IsS139.drewN | apply IsS139.drew | apply IsS139.set_1 | apply IsS139.set_2) | exact HI0.out))) : qb ≠ g)); replace HI0 := Aside0.mk (IsS139.below (by repeat (first | (with_reducible first | exact HI0.out | apply IsS139.alloc | apply IsS139.drewN | apply IsS139.drew | apply IsS139.set_1 | apply IsS139.set_2) | exact HI0.out)) hb); clear hb hbox hg) | ((with_reducible refine gate_callee (f := 119) rfl ?_); refine gL_ (some 4) Tryd.func119 #[.pointer (some ⟨g, 0, none⟩), .int .i64 12] ?_; (with_reducible refine (spec_l1Below.calls g s0_0 s0_1 s0_2 12 qk qq qr w0 _ ?side1 ?side2 A2.out).mono ?_); (case side1 => repeat (first | (with_reducible first | exact HI0.out | apply IsS139.alloc | apply IsS139.drewN | apply IsS139.drew | apply IsS139.set_1 | apply IsS139.set_2 | refine IsS139.far ?_ qa.out _) | exact HI0.out)); (case side2 => repeat (first | (with_reducible first | exact HB.out | apply below_alloc | apply pw_below_drewN | apply below_drew1 | refine below_set ?_ (IsS139.ge HI0.out) | refine below_set ?_ qg.out) | exact HB.out)); rintro e zx ⟨rfl, hi, hb, hk⟩; refine ⟨_, rfl, ?_⟩; replace qc := Aside0.mk (KeepBut.blk hk (g' := qb) (o := .cells #[.int .i64 0, .int .i64 0] 46 (0, 0)) (kf_ qc) qd.out (by simp)); replace HK := Aside0.mk (KeepBut.trans (by repeat (first | (with_reducible first | exact HK.out | apply KeepBut.set_ | apply keep_drewN | apply keep_drew | apply keep_alloc | refine keep_far ?_ qf.out _) | exact HK.out)) hk (.inl rfl)); replace HB := Aside0.mk (hb); replace HI0 := Aside0.mk (hi); clear hb hk hi) | ((with_reducible refine gate_callee (f := 119) rfl ?_); refine gL_ (some 19) Tryd.func119 #[.pointer (some ⟨g, 0, none⟩), .int .i64 400000000] ?_; (with_reducible refine (spec_l1Below.calls g s0_0 qq qr 400000000 qx qI qJ w0 _ ?side1 ?side2 A21.out).mono ?_); (case side1 => repeat (first | (with_reducible first | exact HI0.out | apply IsS139.alloc | apply IsS139.drewN | apply IsS139.drew | apply IsS139.set_1 | apply IsS139.set_2 | refine IsS139.far ?_ qa.out _) | exact HI0.out)); (case side2 => repeat (first | (with_reducible first | exact HB.out | apply below_alloc | apply pw_below_drewN | apply below_drew1 | refine below_set ?_ (IsS139.ge HI0.out) | refine below_set ?_ qg.out) | exact HB.out)); rintro e zy ⟨rfl, hi, hb, hk⟩; refine ⟨_, rfl, ?_⟩; replace qc := Aside0.mk (KeepBut.blk hk (g' := qb) (o := .cells #[.int .i64 0, .int .i64 0] 46 (0, 0)) (kf_ qc) qd.out (by simp)); replace HK := Aside0.mk (KeepBut.trans (by repeat (first | (with_reducible first | exact HK.out | apply KeepBut.set_ | apply keep_drewN | apply keep_drew | apply keep_alloc | refine keep_far ?_ qf.out _) | exact HK.out)) hk (.inl rfl)); replace HB := Aside0.mk (hb); replace HI0 := Aside0.mk (hi); clear hb hk hi) | ((with_reducible refine gate_callee (f := 119) rfl ?_); refine gL_ (some 21) Tryd.func119 #[.pointer (some ⟨g, 0, none⟩), .int .i64 400000000] ?_; (with_reducible refine (spec_l1Below.calls g s0_0 qI qJ 400000000 qA qK qL w0 _ ?side1 ?side2 A22.out).mono ?_); (case side1 => repeat (first | (with_reducible first | exact HI0.out | apply IsS139.alloc | apply IsS139.drewN | apply IsS139.drew | apply IsS139.set_1 | apply IsS139.set_2 | refine IsS139.far ?_ qa.out _) | exact HI0.out)); (case side2 => repeat (first | (with_reducible first | exact HB.out | apply below_alloc | apply pw_below_drewN | apply below_drew1 | refine below_set ?_ (IsS139.ge HI0.out) | refine below_set ?_ qg.out) | exact HB.out)); rintro e zz ⟨rfl, hi, hb, hk⟩; refine ⟨_, rfl, ?_⟩; replace qc := Aside0.mk (KeepBut.blk hk (g' := qb) (o := .cells #[.int .i64 0, .int .i64 0] 46 (0, 0)) (kf_ qc) qd.out (by simp)); replace HK := Aside0.mk (KeepBut.trans (by repeat (first | (with_reducible first | exact HK.out | apply KeepBut.set_ | apply keep_drewN | apply keep_drew | apply keep_alloc | refine keep_far ?_ qf.out _) | exact HK.out)) hk (.inl rfl)); replace HB := Aside0.mk (hb); replace HI0 := Aside0.mk (hi); clear hb hk hi) | ((with_reducible refine gate_callee (f := 70) rfl ?_); refine gL_ (some 23) Tryd.func70 #[.int .i64 qx, .int .i64 (wrap64 (1 + qA))] ?_; (with_reducible refine (spec_MakeRatio.calls k qx (wrap64 (1 + qA)) qB qM _ A23.out).mono ?_); rintro e zA ⟨rfl, hb⟩; refine ⟨_, rfl, ?_⟩; replace qc := kB_ qc hb; replace HK := Aside0.mk (KeepBut.trans (by repeat (first | (with_reducible first | exact HK.out | apply KeepBut.set_ | apply keep_drewN | apply keep_drew | apply keep_alloc | refine keep_far ?_ qf.out _) | exact HK.out)) (KeepBut.of_below hb g none) (.inl rfl)); replace HB := Aside0.mk (below_step (by repeat (first | (with_reducible first | exact HB.out | apply below_alloc | apply pw_below_drewN | apply below_drew1 | refine below_set ?_ (IsS139.ge HI0.out) | refine below_set ?_ qg.out) | exact HB.out)) hb); replace HI0 := Aside0.mk (IsS139.below (by repeat (first | (with_reducible first | exact HI0.out | apply IsS139.alloc | apply IsS139.drewN | apply IsS139.drew | apply IsS139.set_1 | apply IsS139.set_2 | refine IsS139.far ?_ qa.out _) | exact HI0.out)) hb); clear hb; have zh := qd.out; have zi := qa.out; obtain ⟨qZ, q0, q1, q2⟩ := b2_ qc))
 refine bodyPost_ret (results_cell_row rfl _ _ qb 46 #[.int .i64 qB, .int .i64 qM] (0, 0) _ rfl (by (with_reducible repeat (first | refine blk_drewN ?_ _ | refine blk_drew ?_ | refine blk_alloc ?_ _)); refine blk_put (cs := #[.int .i64 qB, .int .i64 0]) ?_ 1 _ rfl; (with_reducible repeat (first | refine blk_drewN ?_ _ | refine blk_drew ?_ | refine blk_alloc ?_ _)); refine blk_put (cs := #[.int .i64 0, .int .i64 0]) ?_ 0 _ rfl; (with_reducible repeat (first | refine blk_drewN ?_ _ | refine blk_drew ?_ | refine blk_alloc ?_ _)); exact qc.out) Tryd.underlying46 rfl (by kernel_rfl)) rfl ?_
 exact ⟨by first | rfl | (simp [errW_none, errW_some] <;> rfl) | (simp [*, errW_none, errW_some] <;> rfl), by repeat (first | (with_reducible first | exact HI0.out | apply IsS139.alloc | apply IsS139.drewN | apply IsS139.drew | apply IsS139.set_1 | apply IsS139.set_2 | refine IsS139.far ?_ qa.out _) | exact HI0.out), by repeat (first | (with_reducible first | exact HB.out | apply below_alloc | apply pw_below_drewN | apply below_drew1 | refine below_set ?_ (IsS139.ge HI0.out) | refine below_set ?_ qg.out) | exact HB.out), by repeat (first | (with_reducible first | exact HK.out | apply KeepBut.set_ | apply keep_drewN | apply keep_drew | apply keep_alloc | refine keep_far ?_ qf.out _) | exact HK.out)⟩

/-! ### spec_l2Point: function 108 -/
def spec_l2Point.l0 : Nat → Int → List (S46) → Int → List Int → Int → Int → Option ((List (S46)) × Int × Int)
 | 0, _, _, _, _, _, _ => none
 | k + 1, x1, x5, x6, x1000, x1001, x1002 => if x6 < x1 then ((spec_l1Below.f x1000 x1001 x1002 17).bind fun qr => ((spec_l1Below.f x1000 qr.2.1 qr.2.2 3).bind fun qg => ((spec_MakeRatio.f k (wrap64 (qr.1 - 8)) (wrap64 (1 + qg.1))).bind fun qf => (if x5.length < 8796093022208 then (spec_l2Point.l0 k x1 (x5 ++ [(⟨qf.1, qf.2⟩ : S46)]) (wrap64 (x6 + 1)) x1000 qg.2.1 qg.2.2) else (none))))) else (if (x5.length : Int) > 0 then ((spec_l1Once.f x1000 x1001 x1002 30).bind fun qi => (if qi.1 = true then ((spec_l2Any.f k x1000 qi.2.1 qi.2.2).bind fun qe => (if 0 < (x5.length : Int) then (some ((x5.set (0 : Int).toNat (⟨qe.1, qe.2.1⟩ : S46)), qe.2.2.1, qe.2.2.2)) else (none))) else (some (x5, qi.2.1, qi.2.2)))) else (some (x5, x1001, x1002)))
def spec_l2Point.f (k : Nat) (s0_0 : List Int) (s0_1 : Int) (s0_2 : Int) (a1 : Int) : Option ((List (S46)) × Int × Int) := spec_l2Point.l0 k a1 (([] : List (S46))) 0 s0_0 s0_1 s0_2
theorem spec_l2Point.mono_l : ∀ k, (∀ y0 y1 y2 y3 y4 y5, LeO (spec_l2Point.l0 k y0 y1 y2 y3 y4 y5) (spec_l2Point.l0 (k + 1) y0 y1 y2 y3 y4 y5))
 | 0 => fun _ _ _ _ _ _ r h => by simp [spec_l2Point.l0] at h
 | k + 1 => by
  have ih0 := spec_l2Point.mono_l k
  ·
   intro y0 y1 y2 y3 y4 y5
   unfold spec_l2Point.l0
   repeat' first
   | (with_reducible exact ih0 _ _ _ _ _ _)
   | (with_reducible exact spec_MakeRatio.mono _ _ _)
   | (with_reducible exact spec_l2Any.mono _ _ _ _)
   | (with_reducible exact LeO.refl _)
   | (with_reducible exact LeO.none _)
   | (with_reducible refine LeO.ite ?_ ?_)
   | (with_reducible refine LeO.bind ?_ (fun _ => ?_))
   | exact ih0 _ _ _ _ _ _
   | exact spec_MakeRatio.mono _ _ _
   | exact spec_l2Any.mono _ _ _ _
   | exact LeO.none _
   | refine LeO.ite ?_ ?_
   | refine LeO.bind ?_ (fun _ => ?_)
theorem spec_l2Point.mono : ∀ a0 a1 a2 a3 k, LeO (spec_l2Point.f k a0 a1 a2 a3) (spec_l2Point.f (k + 1) a0 a1 a2 a3) := by
 intro a0 a1 a2 a3 k
 have ih0 := spec_l2Point.mono_l k
 unfold spec_l2Point.f
 repeat' first
   | (with_reducible exact ih0 _ _ _ _ _ _)
   | (with_reducible exact spec_MakeRatio.mono _ _ _)
   | (with_reducible exact spec_l2Any.mono _ _ _ _)
   | (with_reducible exact LeO.refl _)
   | (with_reducible exact LeO.none _)
   | (with_reducible refine LeO.ite ?_ ?_)
   | (with_reducible refine LeO.bind ?_ (fun _ => ?_))
   | exact ih0 _ _ _ _ _ _
   | exact spec_MakeRatio.mono _ _ _
   | exact spec_l2Any.mono _ _ _ _
   | exact LeO.none _
   | refine LeO.ite ?_ ?_
   | refine LeO.bind ?_ (fun _ => ?_)
set_option maxHeartbeats 8000000 in
set_option maxRecDepth 100000 in
theorem spec_l2Point.calls (k : Nat) (g : Nat) (s0_0 : List Int) (s0_1 : Int) (s0_2 : Int) (a1 : Int) (r1 : List (S46)) (r2 : Int) (r3 : Int) (w0 w : World) (hI : IsS139 w0 w g s0_0 s0_1 s0_2) (hB : Below w0.heap.size w0 w) (h : spec_l2Point.f k s0_0 s0_1 s0_2 a1 = some (r1, r2, r3)) :
  Calls Tryd.prog 108 #[.pointer (some ⟨g, 0, none⟩), .int .i64 a1] w fun e w' => ∃ v0_ : Value, e = .returned (v0_) ∧ Kd.R k46 46 w' w.heap.size (fun _ => True) v0_ r1 ∧ IsS139 w0 w' g s0_0 r2 r3 ∧ Below w0.heap.size w0 w' ∧ KeepBut w w' g none := by
 have hu46 := Tryd.underlying46
 have HI0 := Aside0.mk hI
 have HK := Aside0.mk (KeepBut.refl w g none)
 have HL := Aside0.mk hB.size
 clear hI
 have HW0 := Aside0.mk hB.size
 have HB := Aside0.mk hB
 clear hB
 have H : (spec_l2Point.l0 k a1 (([] : List (S46))) 0 s0_0 s0_1 s0_2) = some (r1, r2, r3) := h
 clear h
 obtain ⟨y330, hy330⟩ : ∃ y_ : List (S46), y_ = (([] : List (S46))) := ⟨_, rfl⟩
 replace H : (spec_l2Point.l0 k a1 y330 0 s0_0 s0_1 s0_2) = some (r1, r2, r3) := by first | (rw [hy330]; with_reducible exact H) | (have H2_ := (Option.bind_some _ _).symm.trans H; rw [hy330]; with_reducible exact H2_) | (have H2_ := (Option.bind_some _ _).symm.trans H; with_reducible exact H2_) | with_reducible exact H | (rw [hy330]; exact H) | exact H
 have Ny330 := Aside0.mk hy330
 clear hy330
 have H' := Aside0.mk H
 clear H
 go_enter Tryd.func108, Tryd.ntmps108
 go_wp2_with (first | ((with_reducible refine gate_dst (N := 7) rfl ?_); refine Kd.R_lit k46 _ 46 ?hg (N := 7) ?hd (xs := ([] : List (S46))) (inner := []) (ok := fun _ => True) (okp := fun _ => True) ?hr ?hp (fun _ hk => hk) trivial (Below.refl _ _) (Nat.le_refl _) (by simp) ?_; (case hd => rfl); (case hg => rfl); (case hr => first | (go_simp; done) | (go_simp; rfl)); (case hp => exact (Reps.none _ _)); intro qR w3 ho4 hb hg_ hnew_; clear hg_ hnew_; (first | rw [← Ny330.out] at ho4 | (simp only [Int.reduceToNat] at ho4; rw [← Ny330.out] at ho4)); have qE := Aside0.mk (Kd.R_lower ho4 (keep_size (w := w) (g := g) (row := none) (by repeat (first | (with_reducible first | exact HK.out | apply KeepBut.set_ | apply keep_drewN | apply keep_drew | apply keep_alloc) | exact HK.out)))); replace HK := Aside0.mk (KeepBut.trans (by repeat (first | (with_reducible first | exact HK.out | apply KeepBut.set_ | apply keep_drewN | apply keep_drew | apply keep_alloc) | exact HK.out)) (KeepBut.of_below hb g none) (.inl rfl)); replace HB := Aside0.mk (below_step (by repeat (first | (with_reducible first | exact HB.out | apply below_alloc | apply pw_below_drewN | apply below_drew1 | refine below_set ?_ (IsS139.ge HI0.out)) | exact HB.out)) hb); replace HI0 := Aside0.mk (IsS139.below (by repeat (first | (with_reducible first | exact HI0.out | apply IsS139.alloc | apply IsS139.drewN | apply IsS139.drew | apply IsS139.set_1 | apply IsS139.set_2) | exact HI0.out)) hb); clear hb ho4))
 go_loopg [5, 6] k (fun kq v5 v6 w' => ∃ (qa : List (S46)) (qh : Int) (qc : Int) (qd : Int), v6 = .int .i64 qh ∧ Aside0 (spec_l2Point.l0 kq a1 qa qh s0_0 qc qd = some (r1, r2, r3)) ∧ Aside0 (kq ≤ k) ∧ Aside0 (Kd.R k46 46 w' w.heap.size (fun _ => True) v5 qa) ∧ Aside0 (IsS139 w0 w' g s0_0 qc qd) ∧ Aside0 (KeepBut w w' g none) ∧ Aside0 (Below w0.heap.size w0 w'))
 case atStart => exact ⟨(y330), (0), (s0_1), (s0_2), (by first | rfl | (simp; done) | (simp [*]; done)), H', ⟨Nat.le_refl _⟩, ⟨by (with_reducible repeat (first | apply Kd.R_alloc | apply Kd.R_drewN | apply Kd.R_drew)); exact qE.out⟩, ⟨by repeat (first | (with_reducible first | exact HI0.out | apply IsS139.alloc | apply IsS139.drewN | apply IsS139.drew | apply IsS139.set_1 | apply IsS139.set_2) | exact HI0.out)⟩, ⟨by repeat (first | (with_reducible first | exact HK.out | apply KeepBut.set_ | apply keep_drewN | apply keep_drew | apply keep_alloc) | exact HK.out)⟩, ⟨by repeat (first | (with_reducible first | exact HB.out | apply below_alloc | apply pw_below_drewN | apply below_drew1 | refine below_set ?_ (IsS139.ge HI0.out)) | exact HB.out)⟩⟩
 case round =>
  clear H'
  try clear c1
  try clear p2
  obtain ⟨qa, qh, qc, qd, rfl, HA, HK1, qb, HI0, HK, HB⟩ := hrel
  cases gk with
  | zero => exact absurd HA.out (by simp [spec_l2Point.l0])
  | succ k1 =>
   have H := HA.out
   clear HA
   simp only [spec_l2Point.l0] at H
   by_cases c5 : qh < a1
   ·
    rw [if_pos c5] at H
    have qN : decide (qh < a1) = true := decide_eq_true c5
    clear c5
    replace H := Option.bind_eq_some_iff.mp H
    obtain ⟨⟨qs, qx, qy⟩, A60, H⟩ := H
    replace H : ((spec_l1Below.f s0_0 qx qy 3).bind fun qg => ((spec_MakeRatio.f k1 (wrap64 (qs - 8)) (wrap64 (1 + qg.1))).bind fun qf => (if qa.length < 8796093022208 then (spec_l2Point.l0 k1 a1 (qa ++ [(⟨qf.1, qf.2⟩ : S46)]) (wrap64 (qh + 1)) s0_0 qg.2.1 qg.2.2) else (none)))) = some (r1, r2, r3) := H
    have A6 := Aside0.mk A60
    clear A60
    replace H := Option.bind_eq_some_iff.mp H
    obtain ⟨⟨qz, qt, qu⟩, A70, H⟩ := H
    replace H : ((spec_MakeRatio.f k1 (wrap64 (qs - 8)) (wrap64 (1 + qz))).bind fun qf => (if qa.length < 8796093022208 then (spec_l2Point.l0 k1 a1 (qa ++ [(⟨qf.1, qf.2⟩ : S46)]) (wrap64 (qh + 1)) s0_0 qt qu) else (none))) = some (r1, r2, r3) := H
    have A7 := Aside0.mk A70
    clear A70
    replace H := Option.bind_eq_some_iff.mp H
    obtain ⟨⟨qp, qq⟩, A80, H⟩ := H
    replace H : (if qa.length < 8796093022208 then (spec_l2Point.l0 k1 a1 (qa ++ [(⟨qp, qq⟩ : S46)]) (wrap64 (qh + 1)) s0_0 qt qu) else (none)) = some (r1, r2, r3) := H
    have A8 := Aside0.mk A80
    clear A80
    by_cases c9 : qa.length < 8796093022208
    rotate_left
    ·
     rw [if_neg c9] at H
     exact absurd H (by simp)
    rw [if_pos c9] at H
    have LMc9 := Aside0.mk c9
    clear c9
    obtain ⟨y341, hy341⟩ : ∃ y_ : List (S46), y_ = (qa ++ [(⟨qp, qq⟩ : S46)]) := ⟨_, rfl⟩
    replace H : (spec_l2Point.l0 k1 a1 y341 (wrap64 (qh + 1)) s0_0 qt qu) = some (r1, r2, r3) := by first | (rw [hy341]; with_reducible exact H) | (have H2_ := (Option.bind_some _ _).symm.trans H; rw [hy341]; with_reducible exact H2_) | (have H2_ := (Option.bind_some _ _).symm.trans H; with_reducible exact H2_) | with_reducible exact H | (rw [hy341]; exact H) | exact H
    have Ny341 := Aside0.mk hy341
    clear hy341
    have H' := Aside0.mk H
    clear H
    go_wp2_with (first | ((with_reducible refine gate_callee (f := 119) rfl ?_); refine gL_ (some 15) Tryd.func119 #[.pointer (some ⟨g, 0, none⟩), .int .i64 17] ?_; (with_reducible refine (spec_l1Below.calls g s0_0 qc qd 17 qs qx qy w0 _ ?side1 ?side2 A6.out).mono ?_); (case side1 => repeat (first | (with_reducible first | exact HI0.out | apply IsS139.alloc | apply IsS139.drewN | apply IsS139.drew | apply IsS139.set_1 | apply IsS139.set_2) | exact HI0.out)); (case side2 => repeat (first | (with_reducible first | exact HB.out | apply below_alloc | apply pw_below_drewN | apply below_drew1 | refine below_set ?_ (IsS139.ge HI0.out)) | exact HB.out)); rintro e q0 ⟨rfl, hi, hb, hk⟩; refine ⟨_, rfl, ?_⟩; replace qb := Aside0.mk (Kd.R_mono (Kd.R_keep (IsS139.apart (show IsS139 w0 _ g s0_0 qc qd from by repeat (first | (with_reducible first | exact HI0.out | apply IsS139.alloc | apply IsS139.drewN | apply IsS139.drew | apply IsS139.set_1 | apply IsS139.set_2) | exact HI0.out)) (rm_ qb) (by decide)) hk (fun _ h => h.2)) (fun _ h => h.1)); replace HK := Aside0.mk (KeepBut.trans (by repeat (first | (with_reducible first | exact HK.out | apply KeepBut.set_ | apply keep_drewN | apply keep_drew | apply keep_alloc) | exact HK.out)) hk (.inl rfl)); replace HB := Aside0.mk (hb); replace HI0 := Aside0.mk (hi); clear hb hk hi) | ((with_reducible refine gate_callee (f := 119) rfl ?_); refine gL_ (some 18) Tryd.func119 #[.pointer (some ⟨g, 0, none⟩), .int .i64 3] ?_; (with_reducible refine (spec_l1Below.calls g s0_0 qx qy 3 qz qt qu w0 _ ?side1 ?side2 A7.out).mono ?_); (case side1 => repeat (first | (with_reducible first | exact HI0.out | apply IsS139.alloc | apply IsS139.drewN | apply IsS139.drew | apply IsS139.set_1 | apply IsS139.set_2) | exact HI0.out)); (case side2 => repeat (first | (with_reducible first | exact HB.out | apply below_alloc | apply pw_below_drewN | apply below_drew1 | refine below_set ?_ (IsS139.ge HI0.out)) | exact HB.out)); rintro e q1 ⟨rfl, hi, hb, hk⟩; refine ⟨_, rfl, ?_⟩; replace qb := Aside0.mk (Kd.R_mono (Kd.R_keep (IsS139.apart (show IsS139 w0 _ g s0_0 qx qy from by repeat (first | (with_reducible first | exact HI0.out | apply IsS139.alloc | apply IsS139.drewN | apply IsS139.drew | apply IsS139.set_1 | apply IsS139.set_2) | exact HI0.out)) (rm_ qb) (by decide)) hk (fun _ h => h.2)) (fun _ h => h.1)); replace HK := Aside0.mk (KeepBut.trans (by repeat (first | (with_reducible first | exact HK.out | apply KeepBut.set_ | apply keep_drewN | apply keep_drew | apply keep_alloc) | exact HK.out)) hk (.inl rfl)); replace HB := Aside0.mk (hb); replace HI0 := Aside0.mk (hi); clear hb hk hi) | ((with_reducible refine gate_callee (f := 70) rfl ?_); refine gL_ (some 20) Tryd.func70 #[.int .i64 (wrap64 (qs - 8)), .int .i64 (wrap64 (1 + qz))] ?_; (with_reducible refine (spec_MakeRatio.calls k1 (wrap64 (qs - 8)) (wrap64 (1 + qz)) qp qq _ A8.out).mono ?_); rintro e q2 ⟨rfl, hb⟩; refine ⟨_, rfl, ?_⟩; replace qb := rB_ qb hb; replace HK := Aside0.mk (KeepBut.trans (by repeat (first | (with_reducible first | exact HK.out | apply KeepBut.set_ | apply keep_drewN | apply keep_drew | apply keep_alloc) | exact HK.out)) (KeepBut.of_below hb g none) (.inl rfl)); replace HB := Aside0.mk (below_step (by repeat (first | (with_reducible first | exact HB.out | apply below_alloc | apply pw_below_drewN | apply below_drew1 | refine below_set ?_ (IsS139.ge HI0.out)) | exact HB.out)) hb); replace HI0 := Aside0.mk (IsS139.below (by repeat (first | (with_reducible first | exact HI0.out | apply IsS139.alloc | apply IsS139.drewN | apply IsS139.drew | apply IsS139.set_1 | apply IsS139.set_2) | exact HI0.out)) hb); clear hb) | ((with_reducible refine gate_builtin (b := .append) (xs := #[.tmp 13, .tmp 21]) rfl ?_); at_builtin; refine Kd.R_append k46 w.heap.size rfl (.tmp 13) (.tmp 21) 74 46 (.agg #[(.int .i64 0), (.int .i64 0)]) 16 rfl Tryd.underlying74 info46 rfl (by decide) (by omega) u5 qa (⟨qp, qq⟩ : S46) [.int .i64 qp, .int .i64 qq] (fun _ => True) (fun _ => False) rfl rfl ?aP (fun _ hk => hk.elim) ?aF ?aO (Below.refl _ _) ?aS ?aL ?_; (case aP => exact k46_mkM _ _ _ (⟨qp, qq⟩ : S46)); (case aF => exact (fun _ _ => trivial)); (case aO => exact (rm_ qb)); (case aS => exact (keep_size (w := w) (g := g) (row := none) (by repeat (first | (with_reducible first | exact HK.out | apply KeepBut.set_ | apply keep_drewN | apply keep_drew | apply keep_alloc) | exact HK.out)))); (case aL => have := LMc9.out; omega); intro qS q3 ho hb hg hat; rw [← Ny341.out] at ho; replace HB := Aside0.mk (below_weaken (by repeat (first | (with_reducible first | exact HB.out | apply below_alloc | apply pw_below_drewN | apply below_drew1 | refine below_set ?_ (IsS139.ge HI0.out)) | exact HB.out)) HL.out hb); replace HI0 := Aside0.mk (IsS139.grown (by repeat (first | (with_reducible first | exact HI0.out | apply IsS139.alloc | apply IsS139.drewN | apply IsS139.drew | apply IsS139.set_1 | apply IsS139.set_2) | exact HI0.out)) hg (IsS139.own_ne HI0.out qb.out (by decide))); replace HK := Aside0.mk (KeepBut.trans (by repeat (first | (with_reducible first | exact HK.out | apply KeepBut.set_ | apply keep_drewN | apply keep_drew | apply keep_alloc) | exact HK.out)) (KeepBut.of_grown hg g) (Kd.R_base2 qb.out)); have qF := Aside0.mk (ho); clear qb; clear ho hb hg hat))
    go_roundg k1
    case measure => have := HK1.out; omega
    case rel => exact ⟨(y341), (wrap64 (qh + 1)), (qt), (qu), (by first | rfl | (simp; done) | (simp [*]; done)), H', ⟨by have := HK1.out; omega⟩, ⟨by (with_reducible repeat (first | apply Kd.R_alloc | apply Kd.R_drewN | apply Kd.R_drew)); exact qF.out⟩, ⟨by repeat (first | (with_reducible first | exact HI0.out | apply IsS139.alloc | apply IsS139.drewN | apply IsS139.drew | apply IsS139.set_1 | apply IsS139.set_2) | exact HI0.out)⟩, ⟨by repeat (first | (with_reducible first | exact HK.out | apply KeepBut.set_ | apply keep_drewN | apply keep_drew | apply keep_alloc) | exact HK.out)⟩, ⟨by repeat (first | (with_reducible first | exact HB.out | apply below_alloc | apply pw_below_drewN | apply below_drew1 | refine below_set ?_ (IsS139.ge HI0.out)) | exact HB.out)⟩⟩
   rw [if_neg c5] at H
   have qN : decide (qh < a1) = false := decide_eq_false c5
   clear c5
   by_cases c14 : (qa.length : Int) > 0
   rotate_left
   ·
    rw [if_neg c14] at H
    have qG : decide (0 < (qa.length : Int)) = false := decide_eq_false c14
    have qH : decide (0 < qa.length) = false := decide_eq_false (by omega)
    clear c14
    simp only [Option.some.injEq, Prod.mk.injEq] at H
    obtain ⟨rfl, rfl, rfl⟩ := H
    obtain ⟨qT, qU, eo27⟩ := Kd.R_slice qb.out
    subst eo27
    go_wp2
    go_ret
    exact ⟨_, by first | rfl | (simp [errW_none, errW_some] <;> rfl) | (simp [*, errW_none, errW_some] <;> rfl), by (with_reducible repeat (first | apply Kd.R_alloc | apply Kd.R_drewN | apply Kd.R_drew)); exact qb.out, by repeat (first | (with_reducible first | exact HI0.out | apply IsS139.alloc | apply IsS139.drewN | apply IsS139.drew | apply IsS139.set_1 | apply IsS139.set_2) | exact HI0.out), by repeat (first | (with_reducible first | exact HB.out | apply below_alloc | apply pw_below_drewN | apply below_drew1 | refine below_set ?_ (IsS139.ge HI0.out)) | exact HB.out), by repeat (first | (with_reducible first | exact HK.out | apply KeepBut.set_ | apply keep_drewN | apply keep_drew | apply keep_alloc) | exact HK.out)⟩
   rw [if_pos c14] at H
   have qG : decide (0 < (qa.length : Int)) = true := decide_eq_true c14
   have qH : decide (0 < qa.length) = true := decide_eq_true (by omega)
   clear c14
   replace H := Option.bind_eq_some_iff.mp H
   obtain ⟨⟨qI, qj, qk⟩, A150, H⟩ := H
   replace H : (if qI = true then ((spec_l2Any.f k1 s0_0 qj qk).bind fun qe => (if 0 < (qa.length : Int) then (some ((qa.set (0 : Int).toNat (⟨qe.1, qe.2.1⟩ : S46)), qe.2.2.1, qe.2.2.2)) else (none))) else (some (qa, qj, qk))) = some (r1, r2, r3) := H
   have A15 := Aside0.mk A150
   clear A150
   by_cases c16 : qI = true
   rotate_left
   ·
    replace c16 := Bool.eq_false_iff.mpr c16
    subst c16
    have H1 : (some (qa, qj, qk)) = some (r1, r2, r3) := by rw [if_neg (show ¬ (false = true) by decide)] at H; exact H
    clear H
    have H := H1
    clear H1
    simp only [Option.some.injEq, Prod.mk.injEq] at H
    obtain ⟨rfl, rfl, rfl⟩ := H
    obtain ⟨qV, qW, eo25⟩ := Kd.R_slice qb.out
    subst eo25
    go_wp2_with (first | (go_at_call 127; (with_reducible refine (spec_l1Once.calls g s0_0 qc qd 30 false qj qk w0 _ ?side1 ?side2 A15.out).mono ?_); (case side1 => repeat (first | (with_reducible first | exact HI0.out | apply IsS139.alloc | apply IsS139.drewN | apply IsS139.drew | apply IsS139.set_1 | apply IsS139.set_2) | exact HI0.out)); (case side2 => repeat (first | (with_reducible first | exact HB.out | apply below_alloc | apply pw_below_drewN | apply below_drew1 | refine below_set ?_ (IsS139.ge HI0.out)) | exact HB.out)); rintro e q4 ⟨rfl, hi, hb, hk⟩; replace qb := Aside0.mk (Kd.R_mono (Kd.R_keep (IsS139.apart (show IsS139 w0 _ g s0_0 qc qd from by repeat (first | (with_reducible first | exact HI0.out | apply IsS139.alloc | apply IsS139.drewN | apply IsS139.drew | apply IsS139.set_1 | apply IsS139.set_2) | exact HI0.out)) (rm_ qb) (by decide)) hk (fun _ h => h.2)) (fun _ h => h.1)); replace HK := Aside0.mk (KeepBut.trans (by repeat (first | (with_reducible first | exact HK.out | apply KeepBut.set_ | apply keep_drewN | apply keep_drew | apply keep_alloc) | exact HK.out)) hk (.inl rfl)); replace HB := Aside0.mk (hb); replace HI0 := Aside0.mk (hi); clear hb hk hi))
    go_ret
    exact ⟨_, by first | rfl | (simp [errW_none, errW_some] <;> rfl) | (simp [*, errW_none, errW_some] <;> rfl), by (with_reducible repeat (first | apply Kd.R_alloc | apply Kd.R_drewN | apply Kd.R_drew)); exact qb.out, by repeat (first | (with_reducible first | exact HI0.out | apply IsS139.alloc | apply IsS139.drewN | apply IsS139.drew | apply IsS139.set_1 | apply IsS139.set_2) | exact HI0.out), by repeat (first | (with_reducible first | exact HB.out | apply below_alloc | apply pw_below_drewN | apply below_drew1 | refine below_set ?_ (IsS139.ge HI0.out)) | exact HB.out), by repeat (first | (with_reducible first | exact HK.out | apply KeepBut.set_ | apply keep_drewN | apply keep_drew | apply keep_alloc) | exact HK.out)⟩
   subst c16
   have H1 : ((spec_l2Any.f k1 s0_0 qj qk).bind fun qe => (if 0 < (qa.length : Int) then (some ((qa.set (0 : Int).toNat (⟨qe.1, qe.2.1⟩ : S46)), qe.2.2.1, qe.2.2.2)) else (none))) = some (r1, r2, r3) := by rw [if_pos rfl] at H; exact H
   clear H
   have H := H1
   clear H1
   replace H := Option.bind_eq_some_iff.mp H
   obtain ⟨⟨ql, qm, qA, qB⟩, A170, H⟩ := H
   replace H : (if 0 < (qa.length : Int) then (some ((qa.set (0 : Int).toNat (⟨ql, qm⟩ : S46)), qA, qB)) else (none)) = some (r1, r2, r3) := H
   have A17 := Aside0.mk A170
   clear A170
   by_cases c18 : 0 < (qa.length : Int)
   rotate_left
   ·
    rw [if_neg c18] at H
    exact absurd H (by simp)
   rw [if_pos c18] at H
   have qP : decide (0 < (qa.length : Int)) = true := decide_eq_true c18
   have qQ : decide (0 < qa.length) = true := decide_eq_true (by omega)
   clear c18
   obtain ⟨y351, hy351⟩ : ∃ y_ : List (S46), y_ = (qa.set (0 : Int).toNat (⟨ql, qm⟩ : S46)) := ⟨_, rfl⟩
   replace H : (some (y351, qA, qB)) = some (r1, r2, r3) := by first | (rw [hy351]; with_reducible exact H) | (have H2_ := (Option.bind_some _ _).symm.trans H; rw [hy351]; with_reducible exact H2_) | (have H2_ := (Option.bind_some _ _).symm.trans H; with_reducible exact H2_) | with_reducible exact H | (rw [hy351]; exact H) | exact H
   have Ny351 := Aside0.mk hy351
   clear hy351
   simp only [Option.some.injEq, Prod.mk.injEq] at H
   obtain ⟨rfl, rfl, rfl⟩ := H
   obtain ⟨qX, qJ, eo20⟩ := Kd.R_slice qb.out
   subst eo20
   go_wp2_with (first | (go_at_call 127; (with_reducible refine (spec_l1Once.calls g s0_0 qc qd 30 true qj qk w0 _ ?side1 ?side2 A15.out).mono ?_); (case side1 => repeat (first | (with_reducible first | exact HI0.out | apply IsS139.alloc | apply IsS139.drewN | apply IsS139.drew | apply IsS139.set_1 | apply IsS139.set_2) | exact HI0.out)); (case side2 => repeat (first | (with_reducible first | exact HB.out | apply below_alloc | apply pw_below_drewN | apply below_drew1 | refine below_set ?_ (IsS139.ge HI0.out)) | exact HB.out)); rintro e q5 ⟨rfl, hi, hb, hk⟩; replace qb := Aside0.mk (Kd.R_mono (Kd.R_keep (IsS139.apart (show IsS139 w0 _ g s0_0 qc qd from by repeat (first | (with_reducible first | exact HI0.out | apply IsS139.alloc | apply IsS139.drewN | apply IsS139.drew | apply IsS139.set_1 | apply IsS139.set_2) | exact HI0.out)) (rm_ qb) (by decide)) hk (fun _ h => h.2)) (fun _ h => h.1)); replace HK := Aside0.mk (KeepBut.trans (by repeat (first | (with_reducible first | exact HK.out | apply KeepBut.set_ | apply keep_drewN | apply keep_drew | apply keep_alloc) | exact HK.out)) hk (.inl rfl)); replace HB := Aside0.mk (hb); replace HI0 := Aside0.mk (hi); clear hb hk hi) | ((with_reducible refine gate_callee (f := 102) rfl ?_); refine gL_ (some 32) Tryd.func102 #[.pointer (some ⟨g, 0, none⟩)] ?_; (with_reducible refine (spec_l2Any.calls k1 g s0_0 qj qk ql qm qA qB w0 _ ?side1 ?side2 A17.out).mono ?_); (case side1 => repeat (first | (with_reducible first | exact HI0.out | apply IsS139.alloc | apply IsS139.drewN | apply IsS139.drew | apply IsS139.set_1 | apply IsS139.set_2) | exact HI0.out)); (case side2 => repeat (first | (with_reducible first | exact HB.out | apply below_alloc | apply pw_below_drewN | apply below_drew1 | refine below_set ?_ (IsS139.ge HI0.out)) | exact HB.out)); rintro e qC ⟨rfl, hi, hb, hk⟩; refine ⟨_, rfl, ?_⟩; replace qb := Aside0.mk (Kd.R_mono (Kd.R_keep (IsS139.apart (show IsS139 w0 _ g s0_0 qj qk from by repeat (first | (with_reducible first | exact HI0.out | apply IsS139.alloc | apply IsS139.drewN | apply IsS139.drew | apply IsS139.set_1 | apply IsS139.set_2) | exact HI0.out)) (rm_ qb) (by decide)) hk (fun _ h => h.2)) (fun _ h => h.1)); replace HK := Aside0.mk (KeepBut.trans (by repeat (first | (with_reducible first | exact HK.out | apply KeepBut.set_ | apply keep_drewN | apply keep_drew | apply keep_alloc) | exact HK.out)) hk (.inl rfl)); replace HB := Aside0.mk (hb); replace HI0 := Aside0.mk (hi); clear hb hk hi; have p19 : 0 ≤ (0 : Int) := (by omega); have q19 : (0 : Int) < ((qa.length : Int) : Int) := of_decide_eq_true (by first | (with_reducible assumption) | assumption); have qi19 : (0 < qa.length) = True := eq_true (by omega); obtain ⟨go19, qY, eo19, qK, gl19, cl19, HG19⟩ := Kd.R_form qb.out (by omega); (first | cases eo19 | (injection eo19 with ea_ en_ ec_; (first | subst ea_ | (injection ea_ with ea_; subst ea_)); subst ec_; clear en_)); have qL := Aside0.mk qK; have qZ := Aside0.mk HG19; clear qK gl19 HG19; obtain ⟨ce19, hcl19, hM19, hcc19, hfr19⟩ := Kd.R_elem qb.out z46 (0 : Int) p19 q19; obtain rfl := k46_openM hM19; have qv : qC.cell? ⟨go19, (0 : Int).toNat * 2, none⟩ = some (.int .i64 ((rd_T46 qa 0).f0)) := hcc19 0 _ rfl; have qw : qC.cell? ⟨go19, (0 : Int).toNat * 2 + 1, none⟩ = some (.int .i64 ((rd_T46 qa 0).f1)) := hcc19 1 _ rfl; have hf19_0 : qC.frozen? ⟨go19, (0 : Int).toNat * 2, none⟩ = false := hfr19 0; have hf19_1 : qC.frozen? ⟨go19, (0 : Int).toNat * 2 + 1, none⟩ = false := hfr19 1; clear hcl19 hcc19 hfr19 hM19; (try rw [show ((0 : Int)).toNat = 0 from rfl] at qv); (try simp only [Nat.reduceMul, Nat.zero_mul, Nat.zero_add, Nat.reduceAdd] at qv); (try rw [show ((0 : Int)).toNat = 0 from rfl] at hf19_0); (try simp only [Nat.reduceMul, Nat.zero_mul, Nat.zero_add, Nat.reduceAdd] at hf19_0); (try rw [show ((0 : Int)).toNat = 0 from rfl] at qw); (try simp only [Nat.reduceMul, Nat.zero_mul, Nat.zero_add, Nat.reduceAdd] at qw); (try rw [show ((0 : Int)).toNat = 0 from rfl] at hf19_1); (try simp only [Nat.reduceMul, Nat.zero_mul, Nat.zero_add, Nat.reduceAdd] at hf19_1); replace p19 := eq_true p19; replace q19 := eq_true q19; have qM := Aside0.mk (show Kd.R k46 46 qC w.heap.size (fun _ => True) (.slice (some ⟨go19, 0, none⟩) qa.length qJ) qa from (rm_ qb)); obtain ⟨ce23, hcl23, hM23, hcc23, hfr23⟩ := Kd.R_elem qM.out z46 (0 : Int) (by omega) (by have h_ : (0 : Int) < ((qa.length : Int) : Int) := of_decide_eq_true (by first | (with_reducible assumption) | assumption); first | exact h_ | (have e_ := (Kd.R_reads' qb.out).1; omega) | simpa using h_); obtain rfl := k46_openM hM23; have qD := Kd.R_seg qM.out (0 : Int) (by omega) (by have h_ : (0 : Int) < ((qa.length : Int) : Int) := of_decide_eq_true (by first | (with_reducible assumption) | assumption); first | exact h_ | (have e_ := (Kd.R_reads' qb.out).1; omega) | simpa using h_) (seg := [.int .i64 ql, .int .i64 qm]) (j := 0) hcl23 hcc23 (show 2 ≤ 2 from by decide) (x' := (⟨ql, qm⟩ : S46)) (k46_mkM _ _ _ (⟨ql, qm⟩ : S46) ) (fun _ hk => hk); have qn := hcc23 0 _ rfl; (try simp only [show (k46).sz = 2 from rfl, Nat.mul_one, Nat.add_zero] at qn); (try rw [show ((0 : Int)).toNat = 0 from rfl] at qn); (try simp only [Nat.reduceMul, Nat.zero_mul, Nat.zero_add, Nat.reduceAdd] at qn); have hf23_0 := hfr23 0; (try simp only [show (k46).sz = 2 from rfl, Nat.mul_one, Nat.add_zero] at hf23_0); (try rw [show ((0 : Int)).toNat = 0 from rfl] at hf23_0); (try simp only [Nat.reduceMul, Nat.zero_mul, Nat.zero_add, Nat.reduceAdd] at hf23_0); have qo := hcc23 1 _ rfl; (try simp only [show (k46).sz = 2 from rfl, Nat.mul_one, Nat.add_zero] at qo); (try rw [show ((0 : Int)).toNat = 0 from rfl] at qo); (try simp only [Nat.reduceMul, Nat.zero_mul, Nat.zero_add, Nat.reduceAdd] at qo); have hf23_1 := hfr23 1; (try simp only [show (k46).sz = 2 from rfl, Nat.mul_one, Nat.add_zero] at hf23_1); (try rw [show ((0 : Int)).toNat = 0 from rfl] at hf23_1); (try simp only [Nat.reduceMul, Nat.zero_mul, Nat.zero_add, Nat.reduceAdd] at hf23_1); clear hcl23 hcc23 hfr23 hM23) | ((with_reducible refine gate_store (t := 46) (p := 33) rfl ?_); refine store_event (t := 46) (p := 33) (v := ?vo_w24) (w1 := ((qC.setCell ⟨go19, 0, none⟩ (.int .i64 ql)).setCell ⟨go19, 1, none⟩ (.int .i64 qm))) ?hg ?ho ?hn ?hr ?_; (case ho => rfl); (case hg => rfl); (case hn => rfl); (case hr => first | (go_simp; done) | (go_simp; rfl)); intro qO hw; have hg : qC.grownBy qO (some go19) := (by rw [hw]; exact qD.2); have hp_ : Kd.R k46 46 qO w.heap.size (fun _ => True) (.slice (some ⟨go19, 0, none⟩) qa.length qJ) y351 := (by rw [hw, Ny351.out]; exact qD.1); clear qD; replace HI0 := Aside0.mk (IsS139.grown (by repeat (first | (with_reducible first | exact HI0.out | apply IsS139.alloc | apply IsS139.drewN | apply IsS139.drew | apply IsS139.set_1 | apply IsS139.set_2) | exact HI0.out)) hg (IsS139.own_ne HI0.out qb.out (by decide))); replace HB := Aside0.mk ((by rw [hw]; exact below_set (below_set (HB.out) (Nat.le_trans HL.out qL.out)) (Nat.le_trans HL.out qL.out) : Below w0.heap.size w0 qO)); replace HK := Aside0.mk (KeepBut.trans (by repeat (first | (with_reducible first | exact HK.out | apply KeepBut.set_ | apply keep_drewN | apply keep_drew | apply keep_alloc) | exact HK.out)) (KeepBut.of_grown hg g) (Kd.R_base2 qb.out)); replace qb := Aside0.mk (hp_); clear hg hw hp_))
   go_ret
   exact ⟨_, by first | rfl | (simp [errW_none, errW_some] <;> rfl) | (simp [*, errW_none, errW_some] <;> rfl), by (with_reducible repeat (first | apply Kd.R_alloc | apply Kd.R_drewN | apply Kd.R_drew)); exact qb.out, by repeat (first | (with_reducible first | exact HI0.out | apply IsS139.alloc | apply IsS139.drewN | apply IsS139.drew | apply IsS139.set_1 | apply IsS139.set_2) | exact HI0.out), by repeat (first | (with_reducible first | exact HB.out | apply below_alloc | apply pw_below_drewN | apply below_drew1 | refine below_set ?_ (IsS139.ge HI0.out)) | exact HB.out), by repeat (first | (with_reducible first | exact HK.out | apply KeepBut.set_ | apply keep_drewN | apply keep_drew | apply keep_alloc) | exact HK.out)⟩

/-! ### spec_l2At: function 86 -/
def spec_l2At.f (k : Nat) (l0 : List Int) : Option (List Int × Int × Bool × (List (S46))) := (spec_l1New.f k l0).bind fun qo => ((spec_l2Atoms.f k qo.1 qo.2.1 qo.2.2).bind fun qc => ((spec_l2Point.f k qo.1 qc.2.2.2.1 qc.2.2.2.2 (qc.1.length : Int)).bind fun qp => (some (qc.1, qc.2.1, qc.2.2.1, qp.1))))
theorem spec_l2At.mono : ∀ a0 k, LeO (spec_l2At.f k a0) (spec_l2At.f (k + 1) a0) := by
 intro a0 k
 unfold spec_l2At.f
 repeat' first
   | (with_reducible exact spec_l1New.mono _ _)
   | (with_reducible exact spec_l2Atoms.mono _ _ _ _)
   | (with_reducible exact spec_l2Point.mono _ _ _ _ _)
   | (with_reducible exact LeO.refl _)
   | (with_reducible exact LeO.none _)
   | (with_reducible refine LeO.ite ?_ ?_)
   | (with_reducible refine LeO.bind ?_ (fun _ => ?_))
   | exact spec_l1New.mono _ _
   | exact spec_l2Atoms.mono _ _ _ _
   | exact spec_l2Point.mono _ _ _ _ _
   | exact LeO.none _
   | refine LeO.ite ?_ ?_
   | refine LeO.bind ?_ (fun _ => ?_)
def spec_l2At.T3 : Bool × List (List Nat × List Nat) := (true, [([], []), ([], []), ([], []), ([2], [2]), ([3], [3]), ([1, 4], [1, 4]), ([0, 5, 0], [0]), ([5, 6, 0, 1, 2, 3, 4, 5, 6], [5])])
def spec_l2At.B3 : List Nat := [0, 0, 0, 4, 12, 30, 63, 127]
theorem spec_l2At.tab3 : rtab .any (opsOf Tryd.f86 3) = spec_l2At.T3 := by kernel_rfl
theorem spec_l2At.bits3 : waitsOk spec_l2At.T3.2 spec_l2At.B3 = true := by kernel_rfl
set_option maxHeartbeats 8000000 in
set_option maxRecDepth 100000 in
theorem spec_l2At.calls (k : Nat) (A0 : Option Addr) (c0 : Nat) (l0 : List Int) (r1 : List Int) (r2 : Int) (r3 : Bool) (r4 : List (S46)) (w : World) (hr0 : Kd.C (Kd.int .u8) w A0 l0.length l0) (hc0 : l0.length ≤ c0) (h : spec_l2At.f k l0 = some (r1, r2, r3, r4)) :
  Calls Tryd.prog 86 #[.slice A0 l0.length c0] w fun e w' => ∃ v0_ v3_ : Value, e = .returned (.tuple #[.agg #[v0_, .int .i64 r2, .bool r3], v3_]) ∧ Kd.R (Kd.int .i64) 3 w' w.heap.size (fun _ => True) v0_ r1 ∧ Kd.R k46 46 w' w.heap.size (fun _ => True) v3_ r4 ∧ Below w.heap.size w w' := by
 have hu27 := Tryd.underlying27
 have HR0 := Aside0.mk hr0
 have HC0 := Aside0.mk hc0
 clear hr0 hc0
 have HB := Aside0.mk (Below.refl w.heap.size w)
 have H : ((spec_l1New.f k l0).bind fun qo => ((spec_l2Atoms.f k qo.1 qo.2.1 qo.2.2).bind fun qc => ((spec_l2Point.f k qo.1 qc.2.2.2.1 qc.2.2.2.2 (qc.1.length : Int)).bind fun qp => (some (qc.1, qc.2.1, qc.2.2.1, qp.1))))) = some (r1, r2, r3, r4) := h
 clear h
 replace H := Option.bind_eq_some_iff.mp H
 obtain ⟨⟨qq, qy, qz⟩, A20, H⟩ := H
 replace H : ((spec_l2Atoms.f k qq qy qz).bind fun qc => ((spec_l2Point.f k qq qc.2.2.2.1 qc.2.2.2.2 (qc.1.length : Int)).bind fun qp => (some (qc.1, qc.2.1, qc.2.2.1, qp.1)))) = some (r1, r2, r3, r4) := H
 have A2 := Aside0.mk A20
 clear A20
 replace H := Option.bind_eq_some_iff.mp H
 obtain ⟨⟨qf, qj, qm, qv, qw⟩, A30, H⟩ := H
 replace H : ((spec_l2Point.f k qq qv qw (qf.length : Int)).bind fun qp => (some (qf, qj, qm, qp.1))) = some (r1, r2, r3, r4) := H
 have A3 := Aside0.mk A30
 clear A30
 replace H := Option.bind_eq_some_iff.mp H
 obtain ⟨⟨qA, qI, qJ⟩, A40, H⟩ := H
 replace H : (some (qf, qj, qm, qA)) = some (r1, r2, r3, r4) := H
 have A4 := Aside0.mk A40
 clear A40
 simp only [Option.some.injEq, Prod.mk.injEq] at H
 obtain ⟨rfl, rfl, rfl, rfl⟩ := H
 go_enter Tryd.func86, Tryd.ntmps86
 try go_wp2_with (first | ((with_reducible refine gate_dst (N := 2) rfl ?_); refine bx_ (cs := #[.slice none 0 0, .int .i64 0, .bool false]) (t := 27) ?_; intro qg hg w5 hbox hb; have qb := Aside0.mk (hbox); have qL := hz_ HB hg; have qn := hz_ HB hg; replace HB := bS_ HB hb; clear hb hbox hg) | ((with_reducible refine gate_callee (f := 101) rfl ?_); refine gL_ (some 7) Tryd.func101 #[.slice A0 l0.length c0] ?_; (with_reducible refine (spec_l1New.calls k _ _ l0 qq qy qz w _ ?side1 ?side2 ?side3 A2.out).mono ?_); (case side1 => repeat (first | (with_reducible first | exact HB.out | apply below_alloc | apply pw_below_drewN | apply below_drew1 | refine below_set ?_ qn.out) | exact HB.out)); (case side2 => exact HR0.out); (case side3 => exact HC0.out); rintro e w6 ⟨g356, rfl, hi, hb, hb2⟩; refine ⟨_, rfl, ?_⟩; replace HB := Aside0.mk (hb); have HI356 := Aside0.mk (hi); have qd := Aside0.mk (IsS139.ne_blk hi (kb_ qb hb2) (by decide)); have qr := Aside0.mk (Ne.symm (IsS139.ne_blk hi (kb_ qb hb2) (by decide))); replace qb := Aside0.mk (kb_ qb hb2); clear hb hb2 hi) | ((with_reducible refine gate_callee (f := 107) rfl ?_); refine gL_ (some 9) Tryd.func107 #[.pointer (some ⟨g356, 0, none⟩)] ?_; (with_reducible refine (spec_l2Atoms.calls k g356 qq qy qz qf qj qm qv qw w _ ?side1 ?side2 A3.out).mono ?_); (case side1 => repeat (first | (with_reducible first | exact HI356.out | apply IsS139.alloc | apply IsS139.drewN | apply IsS139.drew | apply IsS139.set_1 | apply IsS139.set_2 | refine IsS139.far ?_ qd.out _) | exact HI356.out)); (case side2 => repeat (first | (with_reducible first | exact HB.out | apply below_alloc | apply pw_below_drewN | apply below_drew1 | refine below_set ?_ (IsS139.ge HI356.out) | refine below_set ?_ qn.out) | exact HB.out)); rintro e w7 ⟨qR, rfl, ho0, hi, hb, hk⟩; refine ⟨_, rfl, ?_⟩; replace qb := Aside0.mk (KeepBut.blk hk (g' := qg) (o := .cells #[.slice none 0 0, .int .i64 0, .bool false] 27 (0, 0)) (kf_ qb) qr.out (by simp)); have qi := Aside0.mk (Kd.R_lower ho0 (below_size (by repeat (first | (with_reducible first | exact HB.out | apply below_alloc | apply pw_below_drewN | apply below_drew1 | refine below_set ?_ (IsS139.ge HI356.out) | refine below_set ?_ qn.out) | exact HB.out)))); replace HB := Aside0.mk (hb); replace HI356 := Aside0.mk (hi); clear hb hk hi ho0) | ((with_reducible refine gate_dst (N := 5) rfl ?_); refine bx_ (cs := #[.slice none 0 0, .int .i64 0, .bool false]) (t := 27) ?_; intro qa hg w8 hbox hb; replace qi := rB_ qi hb; have qh := Aside0.mk (hbox); have qM := Aside0.mk ((by rw [hg]; exact (below_size (by repeat (first | (with_reducible first | exact HB.out | apply below_alloc | apply pw_below_drewN | apply below_drew1 | refine below_set ?_ (IsS139.ge HI356.out) | refine below_set ?_ qn.out) | exact HB.out))) : w.heap.size ≤ qa)); have qx := Aside0.mk ((by rw [hg]; exact (below_size (by repeat (first | (with_reducible first | exact HB.out | apply below_alloc | apply pw_below_drewN | apply below_drew1 | refine below_set ?_ (IsS139.ge HI356.out) | refine below_set ?_ qn.out) | exact HB.out))) : w.heap.size ≤ qa)); replace HB := Aside0.mk (below_step (by repeat (first | (with_reducible first | exact HB.out | apply below_alloc | apply pw_below_drewN | apply below_drew1 | refine below_set ?_ (IsS139.ge HI356.out) | refine below_set ?_ qn.out) | exact HB.out)) hb); have qk := nL_ qb hg; have qe := nG_ qb hg; replace qb := kB_ qb hb; have ql := Aside0.mk ((by rw [hg]; exact Nat.ne_of_lt (IsS139.lt (show IsS139 w _ g356 qq qv qw from by repeat (first | (with_reducible first | exact HI356.out | apply IsS139.alloc | apply IsS139.drewN | apply IsS139.drew | apply IsS139.set_1 | apply IsS139.set_2 | refine IsS139.far ?_ qd.out _) | exact HI356.out))) : g356 ≠ qa)); have qs := Aside0.mk ((by rw [hg]; exact Nat.ne_of_gt (IsS139.lt (show IsS139 w _ g356 qq qv qw from by repeat (first | (with_reducible first | exact HI356.out | apply IsS139.alloc | apply IsS139.drewN | apply IsS139.drew | apply IsS139.set_1 | apply IsS139.set_2 | refine IsS139.far ?_ qd.out _) | exact HI356.out))) : qa ≠ g356)); replace HI356 := Aside0.mk (IsS139.below (by repeat (first | (with_reducible first | exact HI356.out | apply IsS139.alloc | apply IsS139.drewN | apply IsS139.drew | apply IsS139.set_1 | apply IsS139.set_2 | refine IsS139.far ?_ qd.out _) | exact HI356.out)) hb); clear hb hbox hg; obtain ⟨qt, qu, eo9⟩ := Kd.R_slice qi.out; subst eo9; have qN := qe.out; have qO := qk.out; have qP := qs.out; have qQ := ql.out; obtain ⟨qC, qD, qE, qF, qG, qH⟩ := b3_ qh))
 have n0_ : Aside0 (Kd.R (Kd.int .i64) 3 (((w8.setCell ⟨qa, 0, none⟩ (.slice qt qf.length qu)).setCell ⟨qa, 1, none⟩ (.int .i64 qj)).setCell ⟨qa, 2, none⟩ (.bool qm)) w.heap.size (fun _ => True) (.slice qt qf.length qu) qf) := ⟨by (with_reducible repeat (first | apply Kd.R_alloc | apply Kd.R_drewN | apply Kd.R_drew)); exact Kd.R_mono (Kd.R_far (p := ⟨qa, 2, none⟩) (Kd.R_far (p := ⟨qa, 1, none⟩) (Kd.R_far (p := ⟨qa, 0, none⟩) (Kd.R_types qi.out qh.out (by decide)) (fun _ hk => hk.2) (.slice qt qf.length qu)) (fun _ hk => hk.2) (.int .i64 qj)) (fun _ hk => hk.2) (.bool qm)) (fun _ hk => trivial)⟩
 have n1_ : Aside0 ((((w8.setCell ⟨qa, 0, none⟩ (.slice qt qf.length qu)).setCell ⟨qa, 1, none⟩ (.int .i64 qj)).setCell ⟨qa, 2, none⟩ (.bool qm)).heap[qg]? = some (.cells #[.slice none 0 0, .int .i64 0, .bool false] 27 (0, 0))) := ⟨kf_ qb⟩
 have n2_ : Aside0 ((((w8.setCell ⟨qa, 0, none⟩ (.slice qt qf.length qu)).setCell ⟨qa, 1, none⟩ (.int .i64 qj)).setCell ⟨qa, 2, none⟩ (.bool qm)).heap[qa]? = some (.cells #[.slice qt qf.length qu, .int .i64 qj, .bool qm] 27 (0, 0))) := ⟨by (with_reducible repeat (first | refine blk_drewN ?_ _ | refine blk_drew ?_ | refine blk_alloc ?_ _)); refine blk_put (cs := #[.slice qt qf.length qu, .int .i64 qj, .bool false]) ?_ 2 _ rfl; (with_reducible repeat (first | refine blk_drewN ?_ _ | refine blk_drew ?_ | refine blk_alloc ?_ _)); refine blk_put (cs := #[.slice qt qf.length qu, .int .i64 0, .bool false]) ?_ 1 _ rfl; (with_reducible repeat (first | refine blk_drewN ?_ _ | refine blk_drew ?_ | refine blk_alloc ?_ _)); refine blk_put (cs := #[.slice none 0 0, .int .i64 0, .bool false]) ?_ 0 _ rfl; (with_reducible repeat (first | refine blk_drewN ?_ _ | refine blk_drew ?_ | refine blk_alloc ?_ _)); exact qh.out⟩
 have n3_ : Aside0 (IsS139 w (((w8.setCell ⟨qa, 0, none⟩ (.slice qt qf.length qu)).setCell ⟨qa, 1, none⟩ (.int .i64 qj)).setCell ⟨qa, 2, none⟩ (.bool qm)) g356 qq qv qw) := ⟨by repeat (first | (with_reducible first | exact HI356.out | apply IsS139.alloc | apply IsS139.drewN | apply IsS139.drew | apply IsS139.set_1 | apply IsS139.set_2 | refine IsS139.far ?_ qd.out _ | refine IsS139.far ?_ ql.out _) | exact HI356.out)⟩
 have n4_ : Aside0 (Below w.heap.size w (((w8.setCell ⟨qa, 0, none⟩ (.slice qt qf.length qu)).setCell ⟨qa, 1, none⟩ (.int .i64 qj)).setCell ⟨qa, 2, none⟩ (.bool qm))) := ⟨by repeat (first | (with_reducible first | exact HB.out | apply below_alloc | apply pw_below_drewN | apply below_drew1 | refine below_set ?_ (IsS139.ge HI356.out) | refine below_set ?_ qn.out | refine below_set ?_ qx.out) | exact HB.out)⟩
 (try clear qi)
 (try clear qb)
 (try clear qh)
 (try clear HI356)
 (try clear HB)
 generalize (((w8.setCell ⟨qa, 0, none⟩ (.slice qt qf.length qu)).setCell ⟨qa, 1, none⟩ (.int .i64 qj)).setCell ⟨qa, 2, none⟩ (.bool qm)) = qS at n0_ n1_ n2_ n3_ n4_ ⊢
 have qi := n0_
 have qb := n1_
 have qh := n2_
 have HI356 := n3_
 have HB := n4_
 clear n0_ n1_ n2_ n3_ n4_
 replace qi := Aside0.mk (Kd.R_drew qi.out); replace qb := Aside0.mk (blk_drew qb.out); replace qh := Aside0.mk (blk_drew qh.out); replace HI356 := Aside0.mk (IsS139.drew HI356.out); replace HB := Aside0.mk (below_drew1 HB.out)
 refine start_ (n := 8) (S := fun w' => w'.cell? ⟨qa, 0, none⟩ = some (.slice qt qf.length qu) ∧ w'.cell? ⟨qa, 1, none⟩ = some (.int .i64 qj) ∧ w'.cell? ⟨qa, 2, none⟩ = some (.bool qm)) (ds := []) #[false, false, false, false, false, false, false, false] (by kernel_rfl) rfl rfl ⟨bc_ qh 0, bc_ qh 1, bc_ qh 2⟩ (fun hHeld => ?_); refine with_tabW spec_l2At.tab3 spec_l2At.bits3 (fun HT_ HW_ => ?_)
 generalize qS.drew = qU at qi qb qh HI356 HB hHeld ⊢
 refine pX_ 1 (some 11) #[false, true, false, false, false, false, false, false] HT_ ?_
 refine pX_ 2 (some 12) #[false, true, true, false, false, false, false, false] HT_ ?_
 refine take_ (i := 0) (N := some 10) (v := ?_) (a' := ?_) #[true, true, true, false, false, false, false, false] rfl rfl (take_ofW HT_.out HW_.out (by kernel_rfl)) (fun _ _ _ h => h) (Or.inl ⟨by rfl, ?_⟩) hHeld ?_ ?_
 rotate_left
 ·
  rintro w' ⟨s0, s1, s2⟩
  go_simp
  with_reducible rfl
 rotate_left
 ·
  simp only [Act.put, List.setIfInBounds_toArray, List.set_cons_zero, List.set_cons_succ, i64_w, i32_w]
  rfl
 refine take_ (i := 3) (N := some 13) (v := ?_) (a' := ?_) #[true, true, true, true, false, false, false, false] rfl rfl (take_ofW HT_.out HW_.out (by kernel_rfl)) (fun _ _ _ h => h) (Or.inl ⟨by rfl, ?_⟩) hHeld ?_ ?_
 rotate_left
 ·
  rintro w' ⟨s0, s1, s2⟩
  go_simp
  with_reducible rfl
 rotate_left
 ·
  simp only [Act.put, List.setIfInBounds_toArray, List.set_cons_zero, List.set_cons_succ, i64_w, i32_w]
  rfl
 refine pX_ 4 (some 14) #[true, true, true, true, true, false, false, false] HT_ ?_
 refine one_ (i := 5) (N := some 15) #[true, true, true, true, true, true, false, false] rfl rfl (one_of HT_.out (by kernel_rfl)) (by decide) (fun K hK => ?_)
 refine goes_ Tryd.func108 (by kernel_rfl) rfl #[.pointer (some ⟨g356, 0, none⟩), .int .i64 (qf.length : Int)] (by rfl) rfl rfl (by (try simp only [List.map_toArray, List.map_cons, List.map_nil]); first | done | rfl | (simp only [List.length_drop, List.length_take]; rfl)) ?_
 with_reducible refine (spec_l2Point.calls k g356 qq qv qw (qf.length : Int) qA qI qJ w _ ?side1 ?side2 A4.out).mono ?_
 (case side1 => repeat (first | (with_reducible first | exact HI356.out | apply IsS139.alloc | apply IsS139.drewN | apply IsS139.drew | apply IsS139.set_1 | apply IsS139.set_2 | refine IsS139.far ?_ qd.out _ | refine IsS139.far ?_ ql.out _) | exact HI356.out))
 (case side2 => repeat (first | (with_reducible first | exact HB.out | apply below_alloc | apply pw_below_drewN | apply below_drew1 | refine below_set ?_ (IsS139.ge HI356.out) | refine below_set ?_ qn.out | refine below_set ?_ qx.out) | exact HB.out))
 rintro e qK ⟨qT, rfl, ho0, hi, hb, hk⟩
 refine ⟨_, rfl, ?_⟩
 replace qb := Aside0.mk (KeepBut.blk hk (g' := qg) (o := .cells #[.slice none 0 0, .int .i64 0, .bool false] 27 (0, 0)) (kf_ qb) qr.out (by simp)); replace qi := Aside0.mk (Kd.R_mono (Kd.R_keep (IsS139.apart (show IsS139 w _ g356 qq qv qw from by repeat (first | (with_reducible first | exact HI356.out | apply IsS139.alloc | apply IsS139.drewN | apply IsS139.drew | apply IsS139.set_1 | apply IsS139.set_2 | refine IsS139.far ?_ qd.out _ | refine IsS139.far ?_ ql.out _) | exact HI356.out)) (rm_ qi) (by decide)) hk (fun _ h => h.2)) (fun _ h => h.1)); replace qh := Aside0.mk (KeepBut.blk hk (g' := qa) (o := .cells #[.slice qt qf.length qu, .int .i64 qj, .bool qm] 27 (0, 0)) (kf_ qh) qs.out (by simp)); have qB := Aside0.mk (Kd.R_lower ho0 (below_size (by repeat (first | (with_reducible first | exact HB.out | apply below_alloc | apply pw_below_drewN | apply below_drew1 | refine below_set ?_ (IsS139.ge HI356.out) | refine below_set ?_ qn.out | refine below_set ?_ qx.out) | exact HB.out)))); replace HB := Aside0.mk (hb); replace HI356 := Aside0.mk (hi); (try clear hb); (try clear hb2); (try clear hk); (try clear hi); (try clear ho0)
 refine hK.out _ _ ⟨bc_ qh 0, bc_ qh 1, bc_ qh 2⟩ (fun hHeld => ?_)
 clear hK K
 refine norm_ (a' := ?_) ?_ ?_
 rotate_left
 ·
  show Act.put _ (some 15) _ = _
  simp only [Act.put, List.setIfInBounds_toArray, List.set_cons_zero, List.set_cons_succ, i64_w, i32_w]
  rfl
 refine one_ (i := 6) (N := none) #[true, true, true, true, true, true, true, false] rfl rfl (one_of HT_.out (by kernel_rfl)) (by decide) (fun K hK => ?_)
 have hs16 : qK.cell? ⟨qg, 0, none⟩ = some (.slice none 0 0) := bc_ qb 0
 have hfs16 := blk_frozen qb.out 0
 have hns16_1 := qe.out
 have hms16_1 := qk.out
 have hs17 : qK.cell? ⟨qg, 1, none⟩ = some (.int .i64 0) := bc_ qb 1
 have hfs17 := blk_frozen qb.out 1
 have hns17_1 := qe.out
 have hms17_1 := qk.out
 have hs18 : qK.cell? ⟨qg, 2, none⟩ = some (.bool false) := bc_ qb 2
 have hfs18 := blk_frozen qb.out 2
 have hns18_1 := qe.out
 have hms18_1 := qk.out
 refine skip_ (w1 := ?_) (by rfl) rfl ?_ ?_
 rotate_left
 ·
  go_simp
  rfl
 refine hK.out _ _ ⟨(cf3_ (g := qg) qe.out hHeld.1), (cf3_ (g := qg) qe.out hHeld.2.1), (cf3_ (g := qg) qe.out hHeld.2.2)⟩ (fun hHeld => ?_)
 clear hK K
 refine pX_ 7 (some 3) #[true, true, true, true, true, true, true, true] HT_ ?_
 refine done_ (done_of HT_.out (by kernel_rfl)) ?_
 try go_wp2
 refine bodyPost_ret (results_ct rfl _ _ qg 27 #[.slice qt qf.length qu, .int .i64 qj, .bool qm] (0, 0) _ rfl (by (with_reducible repeat (first | refine blk_drewN ?_ _ | refine blk_drew ?_ | refine blk_alloc ?_ _)); refine blk_put (cs := #[.slice qt qf.length qu, .int .i64 qj, .bool false]) ?_ 2 _ rfl; (with_reducible repeat (first | refine blk_drewN ?_ _ | refine blk_drew ?_ | refine blk_alloc ?_ _)); refine blk_put (cs := #[.slice qt qf.length qu, .int .i64 0, .bool false]) ?_ 1 _ rfl; (with_reducible repeat (first | refine blk_drewN ?_ _ | refine blk_drew ?_ | refine blk_alloc ?_ _)); refine blk_put (cs := #[.slice none 0 0, .int .i64 0, .bool false]) ?_ 0 _ rfl; (with_reducible repeat (first | refine blk_drewN ?_ _ | refine blk_drew ?_ | refine blk_alloc ?_ _)); exact qb.out) Tryd.underlying27 rfl (by kernel_rfl)) rfl ?_
 exact ⟨_, _, by first | rfl | (simp [errW_none, errW_some] <;> rfl) | (simp [*, errW_none, errW_some] <;> rfl), by (with_reducible repeat (first | apply Kd.R_alloc | apply Kd.R_drewN | apply Kd.R_drew)); exact Kd.R_mono (Kd.R_far (p := ⟨qg, 2, none⟩) (Kd.R_far (p := ⟨qg, 1, none⟩) (Kd.R_far (p := ⟨qg, 0, none⟩) (Kd.R_types qi.out qb.out (by decide)) (fun _ hk => hk.2) (.slice qt qf.length qu)) (fun _ hk => hk.2) (.int .i64 qj)) (fun _ hk => hk.2) (.bool qm)) (fun _ hk => trivial), by (with_reducible repeat (first | apply Kd.R_alloc | apply Kd.R_drewN | apply Kd.R_drew)); exact Kd.R_mono (Kd.R_far (p := ⟨qg, 2, none⟩) (Kd.R_far (p := ⟨qg, 1, none⟩) (Kd.R_far (p := ⟨qg, 0, none⟩) (Kd.R_types qB.out qb.out (by decide)) (fun _ hk => hk.2) (.slice qt qf.length qu)) (fun _ hk => hk.2) (.int .i64 qj)) (fun _ hk => hk.2) (.bool qm)) (fun _ hk => trivial), by repeat (first | (with_reducible first | exact HB.out | apply below_alloc | apply pw_below_drewN | apply below_drew1 | refine below_set ?_ (IsS139.ge HI356.out) | refine below_set ?_ qn.out | refine below_set ?_ qx.out) | exact HB.out)⟩

/-! ### spec_DrawHoldsAt: function 44 -/
def spec_DrawHoldsAt.f (k : Nat) (l0 : List Int) : Option (List Int × Int × Bool × (List (S46))) := (spec_l2At.f k l0).bind fun qa => (some (qa.1, qa.2.1, qa.2.2.1, qa.2.2.2))
theorem spec_DrawHoldsAt.mono : ∀ a0 k, LeO (spec_DrawHoldsAt.f k a0) (spec_DrawHoldsAt.f (k + 1) a0) := by
 intro a0 k
 unfold spec_DrawHoldsAt.f
 repeat' first
   | (with_reducible exact spec_l2At.mono _ _)
   | (with_reducible exact LeO.refl _)
   | (with_reducible exact LeO.none _)
   | (with_reducible refine LeO.ite ?_ ?_)
   | (with_reducible refine LeO.bind ?_ (fun _ => ?_))
   | exact spec_l2At.mono _ _
   | exact LeO.none _
   | refine LeO.ite ?_ ?_
   | refine LeO.bind ?_ (fun _ => ?_)
set_option maxHeartbeats 8000000 in
set_option maxRecDepth 100000 in
theorem spec_DrawHoldsAt.calls (k : Nat) (A0 : Option Addr) (c0 : Nat) (l0 : List Int) (r1 : List Int) (r2 : Int) (r3 : Bool) (r4 : List (S46)) (w : World) (hr0 : Kd.C (Kd.int .u8) w A0 l0.length l0) (hc0 : l0.length ≤ c0) (h : spec_DrawHoldsAt.f k l0 = some (r1, r2, r3, r4)) :
  Calls Tryd.prog 44 #[.slice A0 l0.length c0] w fun e w' => ∃ v0_ v3_ : Value, e = .returned (.tuple #[.agg #[v0_, .int .i64 r2, .bool r3], v3_]) ∧ Kd.R (Kd.int .i64) 3 w' w.heap.size (fun _ => True) v0_ r1 ∧ Kd.R k46 46 w' w.heap.size (fun _ => True) v3_ r4 ∧ Below w.heap.size w w' := by
 have hu27 := Tryd.underlying27
 have HR0 := Aside0.mk hr0
 have HC0 := Aside0.mk hc0
 clear hr0 hc0
 have HB := Aside0.mk (Below.refl w.heap.size w)
 have H : ((spec_l2At.f k l0).bind fun qa => (some (qa.1, qa.2.1, qa.2.2.1, qa.2.2.2))) = some (r1, r2, r3, r4) := h
 clear h
 replace H := Option.bind_eq_some_iff.mp H
 obtain ⟨⟨qd, qe, qf, qh⟩, A20, H⟩ := H
 replace H : (some (qd, qe, qf, qh)) = some (r1, r2, r3, r4) := H
 have A2 := Aside0.mk A20
 clear A20
 simp only [Option.some.injEq, Prod.mk.injEq] at H
 obtain ⟨rfl, rfl, rfl, rfl⟩ := H
 go_enter Tryd.func44, Tryd.ntmps44
 go_wp2_with (first | ((with_reducible refine gate_dst (N := 2) rfl ?_); refine bx_ (cs := #[.slice none 0 0, .int .i64 0, .bool false]) (t := 27) ?_; intro qb hg w3 hbox hb; have qc := Aside0.mk (hbox); have qr := hz_ HB hg; have qs := hz_ HB hg; replace HB := bS_ HB hb; clear hb hbox hg) | ((with_reducible refine gate_callee (f := 86) rfl ?_); refine gL_ (some 5) Tryd.func86 #[.slice A0 l0.length c0] ?_; (with_reducible refine (spec_l2At.calls k _ _ l0 qd qe qf qh _ ?side1 ?side2 A2.out).mono ?_); (case side1 => exact cb_ HR0 HB); (case side2 => exact HC0.out); rintro e w4 ⟨qt, qu, rfl, ho0, ho1, hb⟩; refine ⟨_, rfl, ?_⟩; have qg := Aside0.mk (Kd.R_lower ho0 (bz_ HB)); have qi := Aside0.mk (Kd.R_lower ho1 (bz_ HB)); replace qc := kB_ qc hb; replace HB := bS_ HB hb; clear hb ho0 ho1; obtain ⟨qj, qk, eo5⟩ := Kd.R_slice qg.out; subst eo5; obtain ⟨ql, qm, qn, qo, qp, qq⟩ := b3_ qc))
 refine bodyPost_ret (results_ct rfl _ _ qb 27 #[.slice qj qd.length qk, .int .i64 qe, .bool qf] (0, 0) _ rfl (by (with_reducible repeat (first | refine blk_drewN ?_ _ | refine blk_drew ?_ | refine blk_alloc ?_ _)); refine blk_put (cs := #[.slice qj qd.length qk, .int .i64 qe, .bool false]) ?_ 2 _ rfl; (with_reducible repeat (first | refine blk_drewN ?_ _ | refine blk_drew ?_ | refine blk_alloc ?_ _)); refine blk_put (cs := #[.slice qj qd.length qk, .int .i64 0, .bool false]) ?_ 1 _ rfl; (with_reducible repeat (first | refine blk_drewN ?_ _ | refine blk_drew ?_ | refine blk_alloc ?_ _)); refine blk_put (cs := #[.slice none 0 0, .int .i64 0, .bool false]) ?_ 0 _ rfl; (with_reducible repeat (first | refine blk_drewN ?_ _ | refine blk_drew ?_ | refine blk_alloc ?_ _)); exact qc.out) Tryd.underlying27 rfl (by kernel_rfl)) rfl ?_
 exact ⟨_, _, by first | rfl | (simp [errW_none, errW_some] <;> rfl) | (simp [*, errW_none, errW_some] <;> rfl), by (with_reducible repeat (first | apply Kd.R_alloc | apply Kd.R_drewN | apply Kd.R_drew)); exact Kd.R_mono (Kd.R_far (p := ⟨qb, 2, none⟩) (Kd.R_far (p := ⟨qb, 1, none⟩) (Kd.R_far (p := ⟨qb, 0, none⟩) (Kd.R_types qg.out qc.out (by decide)) (fun _ hk => hk.2) (.slice qj qd.length qk)) (fun _ hk => hk.2) (.int .i64 qe)) (fun _ hk => hk.2) (.bool qf)) (fun _ hk => trivial), by (with_reducible repeat (first | apply Kd.R_alloc | apply Kd.R_drewN | apply Kd.R_drew)); exact Kd.R_mono (Kd.R_far (p := ⟨qb, 2, none⟩) (Kd.R_far (p := ⟨qb, 1, none⟩) (Kd.R_far (p := ⟨qb, 0, none⟩) (Kd.R_types qi.out qc.out (by decide)) (fun _ hk => hk.2) (.slice qj qd.length qk)) (fun _ hk => hk.2) (.int .i64 qe)) (fun _ hk => hk.2) (.bool qf)) (fun _ hk => trivial), bb_ HB⟩

/-! ### impl_NegateAtom: function 45 -/
def impl_NegateAtom.l0 : Nat → List Int → Int → Int → List Int → Int → Bool → Option (List Int × Int × Bool × Bool)
 | 0, _, _, _, _, _, _ => none
 | k + 1, x23, x24, x25, x386000, x386001, x386002 => if x25 < x24 then (if 0 ≤ x25 then (if x25 < (x23.length : Int) then (if x25 < (x386000.length : Int) then (impl_NegateAtom.l0 k x23 x24 (wrap64 (x25 + 1)) (x386000.set (x25 : Int).toNat (wrap64 (-(rd x23 x25)))) x386001 x386002) else (none)) else (none)) else (none)) else (some (x386000, x386001, x386002, true))
def impl_NegateAtom.f (k : Nat) (l0_0 : List Int) (a0_1 : Int) (a0_2 : Bool) : Option (List Int × Int × Bool × Bool) := (impl_IsAtom.f k l0_0 a0_1 a0_2).bind fun qt => (if qt = true then (if 0 ≤ (l0_0.length : Int) then (if ((l0_0.length : Int) : Int).toNat ≤ 35184372088832 then (impl_NegateAtom.l0 k l0_0 (l0_0.length : Int) 0 (List.replicate ((l0_0.length : Int) : Int).toNat 0) (wrap64 (-a0_1)) (!a0_2)) else (none)) else (none)) else (some (([] : List Int), 0, false, false)))
theorem impl_NegateAtom.mono_l : ∀ k, (∀ y0 y1 y2 y3 y4 y5, LeO (impl_NegateAtom.l0 k y0 y1 y2 y3 y4 y5) (impl_NegateAtom.l0 (k + 1) y0 y1 y2 y3 y4 y5))
 | 0 => fun _ _ _ _ _ _ r h => by simp [impl_NegateAtom.l0] at h
 | k + 1 => by
  have ih0 := impl_NegateAtom.mono_l k
  ·
   intro y0 y1 y2 y3 y4 y5
   unfold impl_NegateAtom.l0
   repeat' first
   | (with_reducible exact ih0 _ _ _ _ _ _)
   | (with_reducible exact impl_IsAtom.mono _ _ _ _)
   | (with_reducible exact LeO.refl _)
   | (with_reducible exact LeO.none _)
   | (with_reducible refine LeO.ite ?_ ?_)
   | (with_reducible refine LeO.bind ?_ (fun _ => ?_))
   | exact ih0 _ _ _ _ _ _
   | exact impl_IsAtom.mono _ _ _ _
   | exact LeO.none _
   | refine LeO.ite ?_ ?_
   | refine LeO.bind ?_ (fun _ => ?_)
theorem impl_NegateAtom.mono : ∀ a0 a1 a2 k, LeO (impl_NegateAtom.f k a0 a1 a2) (impl_NegateAtom.f (k + 1) a0 a1 a2) := by
 intro a0 a1 a2 k
 have ih0 := impl_NegateAtom.mono_l k
 unfold impl_NegateAtom.f
 repeat' first
   | (with_reducible exact ih0 _ _ _ _ _ _)
   | (with_reducible exact impl_IsAtom.mono _ _ _ _)
   | (with_reducible exact LeO.refl _)
   | (with_reducible exact LeO.none _)
   | (with_reducible refine LeO.ite ?_ ?_)
   | (with_reducible refine LeO.bind ?_ (fun _ => ?_))
   | exact ih0 _ _ _ _ _ _
   | exact impl_IsAtom.mono _ _ _ _
   | exact LeO.none _
   | refine LeO.ite ?_ ?_
   | refine LeO.bind ?_ (fun _ => ?_)
def impl_NegateAtom.T3 : Bool × List (List Nat × List Nat) := (true, [([], []), ([0], [0]), ([1], [1]), ([2, 2], [2]), ([], []), ([4], [4]), ([5], [5]), ([], []), ([7], [7]), ([8], [8]), ([3, 6, 9], [3, 6, 9]), ([], []), ([11, 10, 0, 1, 2, 3, 4, 5, 6, 7, 8, 9, 10, 11], [10, 11])])
def impl_NegateAtom.B3 : List Nat := [0, 1, 3, 7, 0, 16, 48, 0, 128, 384, 1023, 0, 4095]
theorem impl_NegateAtom.tab3 : rtab .any (opsOf Tryd.f45 3) = impl_NegateAtom.T3 := by kernel_rfl
theorem impl_NegateAtom.bits3 : waitsOk impl_NegateAtom.T3.2 impl_NegateAtom.B3 = true := by kernel_rfl
set_option maxHeartbeats 8000000 in
set_option maxRecDepth 100000 in
theorem impl_NegateAtom.calls (k : Nat) (A0_0 : Option Addr) (c0_0 : Nat) (l0_0 : List Int) (a0_1 : Int) (a0_2 : Bool) (r1 : List Int) (r2 : Int) (r3 : Bool) (r4 : Bool) (w : World) (hr0_0 : Kd.C (Kd.int .i64) w A0_0 l0_0.length l0_0) (hc0_0 : l0_0.length ≤ c0_0) (h : impl_NegateAtom.f k l0_0 a0_1 a0_2 = some (r1, r2, r3, r4)) :
  Calls Tryd.prog 45 #[.agg #[.slice A0_0 l0_0.length c0_0, .int .i64 a0_1, .bool a0_2]] w fun e w' => ∃ v0_ : Value, e = .returned (.tuple #[.agg #[v0_, .int .i64 r2, .bool r3], .bool r4]) ∧ Kd.R (Kd.int .i64) 3 w' w.heap.size (fun _ => True) v0_ r1 ∧ Below w.heap.size w w' := by
 have hu27 := Tryd.underlying27
 have qu := Aside0.mk hr0_0
 have qG := Aside0.mk hc0_0
 clear hr0_0 hc0_0
 have HB := Aside0.mk (Below.refl w.heap.size w)
 have H : ((impl_IsAtom.f k l0_0 a0_1 a0_2).bind fun qt => (if qt = true then (if 0 ≤ (l0_0.length : Int) then (if ((l0_0.length : Int) : Int).toNat ≤ 35184372088832 then (impl_NegateAtom.l0 k l0_0 (l0_0.length : Int) 0 (List.replicate ((l0_0.length : Int) : Int).toNat 0) (wrap64 (-a0_1)) (!a0_2)) else (none)) else (none)) else (some (([] : List Int), 0, false, false)))) = some (r1, r2, r3, r4) := h
 clear h
 replace H := Option.bind_eq_some_iff.mp H
 obtain ⟨qt, A20, H⟩ := H
 replace H : (if qt = true then (if 0 ≤ (l0_0.length : Int) then (if ((l0_0.length : Int) : Int).toNat ≤ 35184372088832 then (impl_NegateAtom.l0 k l0_0 (l0_0.length : Int) 0 (List.replicate ((l0_0.length : Int) : Int).toNat 0) (wrap64 (-a0_1)) (!a0_2)) else (none)) else (none)) else (some (([] : List Int), 0, false, false))) = some (r1, r2, r3, r4) := H
 have A2 := Aside0.mk A20
 clear A20
 by_cases c3 : qt = true
 rotate_left
 ·
  replace c3 := Bool.eq_false_iff.mpr c3
  subst c3
  have H1 : (some (([] : List Int), 0, false, false)) = some (r1, r2, r3, r4) := by rw [if_neg (show ¬ (false = true) by decide)] at H; exact H
  clear H
  have H := H1
  clear H1
  simp only [Option.some.injEq, Prod.mk.injEq] at H
  obtain ⟨rfl, rfl, rfl, rfl⟩ := H
  go_enter Tryd.func45, Tryd.ntmps45
  go_wp2_with (first | ((with_reducible refine gate_dst (N := 1) rfl ?_); refine bx_ (cs := #[.slice A0_0 l0_0.length c0_0, .int .i64 a0_1, .bool a0_2]) (t := 27) ?_; intro ql hg zY hbox hb; have qa := Aside0.mk (hbox); have qQ := hz_ HB hg; have qR := hz_ HB hg; replace HB := bS_ HB hb; clear hb hbox hg) | ((with_reducible refine gate_dst (N := 2) rfl ?_); refine bx_ (cs := #[.slice none 0 0, .int .i64 0, .bool false]) (t := 27) ?_; intro qm hg zZ hbox hb; have qb := Aside0.mk (hbox); have qS := hz_ HB hg; have qT := hz_ HB hg; replace HB := bS_ HB hb; have qn := nL_ qa hg; have qo := nG_ qa hg; replace qa := kB_ qa hb; clear hb hbox hg; have zC := qn.out; have zD := qo.out; obtain ⟨qX, qY, qZ, q0, q1, q2⟩ := b3_ qa) | ((with_reducible refine gate_callee (f := 52) rfl ?_); refine gL_ (some 8) Tryd.func52 #[.agg #[.slice A0_0 l0_0.length c0_0, .int .i64 a0_1, .bool a0_2]] ?_; (with_reducible refine (impl_IsAtom.calls k _ _ l0_0 a0_1 a0_2 false _ ?side1 ?side2 A2.out).mono ?_); (case side1 => exact cb_ qu HB); (case side2 => exact qG.out); rintro e z0 ⟨rfl, hb⟩; refine ⟨_, rfl, ?_⟩; replace qa := kB_ qa hb; replace qb := kB_ qb hb; replace HB := bS_ HB hb; clear hb; obtain ⟨q3, q4, q5, q6, q7, q8⟩ := b3_ qb))
  refine bodyPost_ret (results_ct rfl _ _ qm 27 #[.slice none 0 0, .int .i64 0, .bool false] (0, 0) _ rfl (by (with_reducible repeat (first | refine blk_drewN ?_ _ | refine blk_drew ?_ | refine blk_alloc ?_ _)); refine blk_put (cs := #[.slice none 0 0, .int .i64 0, .bool false]) ?_ 2 _ rfl; (with_reducible repeat (first | refine blk_drewN ?_ _ | refine blk_drew ?_ | refine blk_alloc ?_ _)); refine blk_put (cs := #[.slice none 0 0, .int .i64 0, .bool false]) ?_ 1 _ rfl; (with_reducible repeat (first | refine blk_drewN ?_ _ | refine blk_drew ?_ | refine blk_alloc ?_ _)); refine blk_put (cs := #[.slice none 0 0, .int .i64 0, .bool false]) ?_ 0 _ rfl; (with_reducible repeat (first | refine blk_drewN ?_ _ | refine blk_drew ?_ | refine blk_alloc ?_ _)); exact qb.out) Tryd.underlying27 rfl (by kernel_rfl)) rfl ?_
  exact ⟨_, by first | rfl | (simp [errW_none, errW_some] <;> rfl) | (simp [*, errW_none, errW_some] <;> rfl), by first | exact Kd.R_nil _ _ _ _ _ | exact Kd.N_nil _ _ _ _ _ | exact Kd.V_nil _ _ _ _ _ | exact Kd.Q_nil _ _ _ _ _ | exact Kd.S_nil _ _ _ _ _, bb_ HB⟩
 subst c3
 have H1 : (if 0 ≤ (l0_0.length : Int) then (if ((l0_0.length : Int) : Int).toNat ≤ 35184372088832 then (impl_NegateAtom.l0 k l0_0 (l0_0.length : Int) 0 (List.replicate ((l0_0.length : Int) : Int).toNat 0) (wrap64 (-a0_1)) (!a0_2)) else (none)) else (none)) = some (r1, r2, r3, r4) := by rw [if_pos rfl] at H; exact H
 clear H
 have H := H1
 clear H1
 by_cases c4 : 0 ≤ (l0_0.length : Int)
 rotate_left
 ·
  rw [if_neg c4] at H
  exact absurd H (by simp)
 rw [if_pos c4] at H
 have zr := eq_true c4
 have zs : decide (0 ≤ (l0_0.length : Int)) = true := decide_eq_true c4
 clear c4
 by_cases c5 : ((l0_0.length : Int) : Int).toNat ≤ 35184372088832
 rotate_left
 ·
  rw [if_neg c5] at H
  exact absurd H (by simp)
 rw [if_pos c5] at H
 have zt := eq_true c5
 have zu : decide (((l0_0.length : Int) : Int).toNat ≤ 35184372088832) = true := decide_eq_true c5
 clear c5
 obtain ⟨y382, hy382⟩ : ∃ y_ : List Int, y_ = (List.replicate ((l0_0.length : Int) : Int).toNat 0) := ⟨_, rfl⟩
 replace H : (impl_NegateAtom.l0 k l0_0 (l0_0.length : Int) 0 y382 (wrap64 (-a0_1)) (!a0_2)) = some (r1, r2, r3, r4) := by first | (rw [hy382]; with_reducible exact H) | (have H2_ := (Option.bind_some _ _).symm.trans H; rw [hy382]; with_reducible exact H2_) | (have H2_ := (Option.bind_some _ _).symm.trans H; with_reducible exact H2_) | with_reducible exact H | (rw [hy382]; exact H) | exact H
 have Ny382 := Aside0.mk hy382
 clear hy382
 have H' := Aside0.mk H
 clear H
 go_enter Tryd.func45, Tryd.ntmps45
 try go_wp2_with (first | ((with_reducible refine gate_dst (N := 1) rfl ?_); refine bx_ (cs := #[.slice A0_0 l0_0.length c0_0, .int .i64 a0_1, .bool a0_2]) (t := 27) ?_; intro ql hg w6 hbox hb; have qa := Aside0.mk (hbox); have qQ := hz_ HB hg; have qR := hz_ HB hg; replace HB := bS_ HB hb; clear hb hbox hg) | ((with_reducible refine gate_dst (N := 2) rfl ?_); refine bx_ (cs := #[.slice none 0 0, .int .i64 0, .bool false]) (t := 27) ?_; intro qm hg w7 hbox hb; have qb := Aside0.mk (hbox); have qS := hz_ HB hg; have qT := hz_ HB hg; replace HB := bS_ HB hb; have qn := nL_ qa hg; have qo := nG_ qa hg; replace qa := kB_ qa hb; clear hb hbox hg; have zT := qn.out; have zU := qo.out; obtain ⟨qH, qI, qJ, qK, qL, qM⟩ := b3_ qa) | ((with_reducible refine gate_callee (f := 52) rfl ?_); refine gL_ (some 8) Tryd.func52 #[.agg #[.slice A0_0 l0_0.length c0_0, .int .i64 a0_1, .bool a0_2]] ?_; (with_reducible refine (impl_IsAtom.calls k _ _ l0_0 a0_1 a0_2 true _ ?side1 ?side2 A2.out).mono ?_); (case side1 => exact cb_ qu HB); (case side2 => exact qG.out); rintro e zV ⟨rfl, hb⟩; refine ⟨_, rfl, ?_⟩; replace qa := kB_ qa hb; replace qb := kB_ qb hb; replace HB := bS_ HB hb; clear hb))
 replace qa := Aside0.mk (blk_drew qa.out); replace qb := Aside0.mk (blk_drew qb.out); replace HB := Aside0.mk (below_drew1 HB.out)
 refine start_ (n := 13) (S := fun w' => w'.cell? ⟨ql, 0, none⟩ = some (.slice A0_0 l0_0.length c0_0) ∧ w'.cell? ⟨ql, 1, none⟩ = some (.int .i64 a0_1) ∧ w'.cell? ⟨ql, 2, none⟩ = some (.bool a0_2)) (ds := []) #[false, false, false, false, false, false, false, false, false, false, false, false, false] (by kernel_rfl) rfl rfl ⟨bc_ qa 0, bc_ qa 1, bc_ qa 2⟩ (fun hHeld => ?_); refine with_tabW impl_NegateAtom.tab3 impl_NegateAtom.bits3 (fun HT_ HW_ => ?_)
 generalize zV.drew = z1 at qa qb HB hHeld ⊢
 refine pX_ 0 (some 11) #[true, false, false, false, false, false, false, false, false, false, false, false, false] HT_ ?_
 refine pX_ 4 (some 15) #[true, false, false, false, true, false, false, false, false, false, false, false, false] HT_ ?_
 refine pX_ 7 (some 18) #[true, false, false, false, true, false, false, true, false, false, false, false, false] HT_ ?_
 refine take_ (i := 1) (N := some 12) (v := ?_) (a' := ?_) #[true, true, false, false, true, false, false, true, false, false, false, false, false] rfl rfl (take_ofW HT_.out HW_.out (by kernel_rfl)) (fun _ _ _ h => h) (Or.inl ⟨by rfl, ?_⟩) hHeld ?_ ?_
 rotate_left
 ·
  rintro w' ⟨s0, s1, s2⟩
  go_simp
  with_reducible rfl
 rotate_left
 ·
  simp only [Act.put, List.setIfInBounds_toArray, List.set_cons_zero, List.set_cons_succ, i64_w, i32_w]
  rfl
 refine pX_ 2 (some 13) #[true, true, true, false, true, false, false, true, false, false, false, false, false] HT_ ?_
 refine take_ (i := 5) (N := some 16) (v := ?_) (a' := ?_) #[true, true, true, false, true, true, false, true, false, false, false, false, false] rfl rfl (take_ofW HT_.out HW_.out (by kernel_rfl)) (fun _ _ _ h => h) (Or.inl ⟨by rfl, ?_⟩) hHeld ?_ ?_
 rotate_left
 ·
  rintro w' ⟨s0, s1, s2⟩
  go_simp
  with_reducible rfl
 rotate_left
 ·
  simp only [Act.put, List.setIfInBounds_toArray, List.set_cons_zero, List.set_cons_succ, i64_w, i32_w]
  rfl
 refine pX_ 6 (some 17) #[true, true, true, false, true, true, true, true, false, false, false, false, false] HT_ ?_
 refine take_ (i := 8) (N := some 19) (v := ?_) (a' := ?_) #[true, true, true, false, true, true, true, true, true, false, false, false, false] rfl rfl (take_ofW HT_.out HW_.out (by kernel_rfl)) (fun _ _ _ h => h) (Or.inl ⟨by rfl, ?_⟩) hHeld ?_ ?_
 rotate_left
 ·
  rintro w' ⟨s0, s1, s2⟩
  go_simp
  with_reducible rfl
 rotate_left
 ·
  simp only [Act.put, List.setIfInBounds_toArray, List.set_cons_zero, List.set_cons_succ, i64_w, i32_w]
  rfl
 refine pX_ 9 (some 20) #[true, true, true, false, true, true, true, true, true, true, false, false, false] HT_ ?_
 refine join_ (σ := Value × Nat) 1 #[true, true, true, true, true, true, true, true, true, true, true, true, false] (fun s_ => [(14, s_.1), (4, .pointer (some ⟨s_.2, 0, none⟩)), (21, .agg #[s_.1, .int .i64 (wrap64 (-a0_1)), .bool (!a0_2)])]) (fun s_ w' => (w'.cell? ⟨ql, 0, none⟩ = some (.slice A0_0 l0_0.length c0_0) ∧ w'.cell? ⟨ql, 1, none⟩ = some (.int .i64 a0_1) ∧ w'.cell? ⟨ql, 2, none⟩ = some (.bool a0_2)) ∧ (Kd.R (Kd.int .i64) 3 w' w.heap.size (fun _ => True) s_.1 y382) ∧ (w'.heap[ql]? = some (.cells #[.slice A0_0 l0_0.length c0_0, .int .i64 a0_1, .bool a0_2] 27 (0, 0))) ∧ (w'.heap[qm]? = some (.cells #[.slice none 0 0, .int .i64 0, .bool false] 27 (0, 0))) ∧ (w'.heap[s_.2]? = some (.cells #[.slice none 0 0, .int .i64 0, .bool false] 27 (0, 0))) ∧ (w.heap.size ≤ s_.2) ∧ (w.heap.size ≤ s_.2) ∧ (ql ≠ s_.2) ∧ (s_.2 ≠ ql) ∧ (qm ≠ s_.2) ∧ (s_.2 ≠ qm) ∧ (Below w.heap.size w w')) ?_ ?_
 rotate_left
 ·
  intro hCont
  refine two_ (i := 3) (j := 11) (Ni := some 14) (Nj := some 4) #[true, true, true, true, true, true, true, true, true, true, false, false, false] #[true, true, true, false, true, true, true, true, true, true, false, true, false] rfl rfl rfl rfl (two_of HT_.out (by kernel_rfl)) (by decide) (by decide) (fun K hK => ?_) (fun K hK => ?_)
  rotate_left
  ·
   skip
   refine box_step ?hg (N := 4) ?hd (cs := #[.slice none 0 0, .int .i64 0, .bool false]) (t := 27) ?hr ?_; (case hd => rfl); (case hg => rfl); (case hr => first | (go_simp; done) | (go_simp; rfl))
   intro qj hg zW hbox hb
   have qk := Aside0.mk (hbox); have qr := hz_ HB hg; have qs := hz_ HB hg; replace HB := bS_ HB hb; have qd := nL_ qa hg; have qf := nG_ qa hg; replace qa := kB_ qa hb; have qh := nL_ qb hg; have qi := nG_ qb hg; replace qb := kB_ qb hb; clear hb hbox hg
   refine hK.out _ _ ⟨bc_ qa 0, bc_ qa 1, bc_ qa 2⟩ (fun hHeld => ?_)
   clear hK K
   refine norm_ (a' := ?_) ?_ ?_
   rotate_left
   ·
    show Act.put _ (some 4) _ = _
    simp only [Act.put, List.setIfInBounds_toArray, List.set_cons_zero, List.set_cons_succ, i64_w, i32_w]
    rfl
   refine one_ (i := 3) (N := some 14) #[true, true, true, true, true, true, true, true, true, true, false, true, false] rfl rfl (one_of HT_.out (by kernel_rfl)) (by decide) (fun K hK => ?_)
   refine Kd.R_make_step (Kd.int .i64) _ 3 (by rfl) (N := 14) rfl 22 _ _ rfl (l0_0.length : Int) rfl rfl Tryd.underlying22 (.int .i64 0) 8 info3 rfl (by decide) (by omega) 0 (ok := fun _ => True) (okp := fun _ => True) rfl (fun _ hk => hk) trivial (of_decide_eq_true (by first | (with_reducible assumption) | assumption)) (Nat.le_trans (Nat.mul_le_mul_right _ (of_decide_eq_true (by first | (with_reducible assumption) | assumption) : (l0_0.length : Int).toNat ≤ 35184372088832)) (by omega)) (Below.refl _ _) (Nat.le_refl _) ?_
   intro qN z2 ho14 hb hg_ hnew_
   clear hg_ hnew_
   (first | rw [← Ny382.out] at ho14 | (simp only [Int.reduceToNat] at ho14; rw [← Ny382.out] at ho14))
   have qp := Aside0.mk (Kd.R_lower ho14 (bz_ HB)); replace qa := kB_ qa hb; replace qb := kB_ qb hb; replace qk := kB_ qk hb; replace HB := bS_ HB hb; clear hb ho14
   obtain ⟨zv, zw, eo15⟩ := Kd.R_slice qp.out
   (first | subst eo15 | (injection eo15 with f1_ f2_ f3_; have f4_ := f1_.symm; have f5_ := f3_.symm; clear f1_ f2_ f3_; subst f4_; subst f5_))
   refine hK.out _ _ ⟨bc_ qa 0, bc_ qa 1, bc_ qa 2⟩ (fun hHeld => ?_)
   clear hK K
   refine norm_ (a' := ?_) ?_ ?_
   rotate_left
   ·
    show Act.put _ (some 14) _ = _
    simp only [Act.put, List.setIfInBounds_toArray, List.set_cons_zero, List.set_cons_succ, i64_w, i32_w]
    rfl
   refine pX_ 10 (some 21) #[true, true, true, true, true, true, true, true, true, true, true, true, false] HT_ ?_
   exact norm_ (by simp only [putAll, Act.put, List.setIfInBounds_toArray, List.set_cons_zero, List.set_cons_succ]) (hCont (.slice zv y382.length zw, qj) _ ⟨hHeld, (rm_ qp), (kf_ qa), (kf_ qb), (kf_ qk), qr.out, qs.out, qd.out, qf.out, qh.out, qi.out, (bb_ HB)⟩)
  skip
  refine Kd.R_make_step (Kd.int .i64) _ 3 (by rfl) (N := 14) rfl 22 _ _ rfl (l0_0.length : Int) rfl rfl Tryd.underlying22 (.int .i64 0) 8 info3 rfl (by decide) (by omega) 0 (ok := fun _ => True) (okp := fun _ => True) rfl (fun _ hk => hk) trivial (of_decide_eq_true (by first | (with_reducible assumption) | assumption)) (Nat.le_trans (Nat.mul_le_mul_right _ (of_decide_eq_true (by first | (with_reducible assumption) | assumption) : (l0_0.length : Int).toNat ≤ 35184372088832)) (by omega)) (Below.refl _ _) (Nat.le_refl _) ?_
  intro qN zW ho13 hb hg_ hnew_
  clear hg_ hnew_
  (first | rw [← Ny382.out] at ho13 | (simp only [Int.reduceToNat] at ho13; rw [← Ny382.out] at ho13))
  have qp := Aside0.mk (Kd.R_lower ho13 (bz_ HB)); replace qa := kB_ qa hb; replace qb := kB_ qb hb; replace HB := bS_ HB hb; clear hb ho13
  obtain ⟨zx, zy, eo14⟩ := Kd.R_slice qp.out
  (first | subst eo14 | (injection eo14 with f1_ f2_ f3_; have f4_ := f1_.symm; have f5_ := f3_.symm; clear f1_ f2_ f3_; subst f4_; subst f5_))
  refine hK.out _ _ ⟨bc_ qa 0, bc_ qa 1, bc_ qa 2⟩ (fun hHeld => ?_)
  clear hK K
  refine norm_ (a' := ?_) ?_ ?_
  rotate_left
  ·
   show Act.put _ (some 14) _ = _
   simp only [Act.put, List.setIfInBounds_toArray, List.set_cons_zero, List.set_cons_succ, i64_w, i32_w]
   rfl
  refine pX_ 10 (some 21) #[true, true, true, true, true, true, true, true, true, true, true, false, false] HT_ ?_
  refine one_ (i := 11) (N := some 4) #[true, true, true, true, true, true, true, true, true, true, true, true, false] rfl rfl (one_of HT_.out (by kernel_rfl)) (by decide) (fun K hK => ?_)
  refine box_step ?hg (N := 4) ?hd (cs := #[.slice none 0 0, .int .i64 0, .bool false]) (t := 27) ?hr ?_; (case hd => rfl); (case hg => rfl); (case hr => first | (go_simp; done) | (go_simp; rfl))
  intro qj hg z3 hbox hb
  replace qp := rB_ qp hb; have qk := Aside0.mk (hbox); have qr := hz_ HB hg; have qs := hz_ HB hg; replace HB := bS_ HB hb; have qd := nL_ qa hg; have qf := nG_ qa hg; replace qa := kB_ qa hb; have qh := nL_ qb hg; have qi := nG_ qb hg; replace qb := kB_ qb hb; clear hb hbox hg
  refine hK.out _ _ ⟨bc_ qa 0, bc_ qa 1, bc_ qa 2⟩ (fun hHeld => ?_)
  clear hK K
  refine norm_ (a' := ?_) ?_ ?_
  rotate_left
  ·
   show Act.put _ (some 4) _ = _
   simp only [Act.put, List.setIfInBounds_toArray, List.set_cons_zero, List.set_cons_succ, i64_w, i32_w]
   rfl
  exact norm_ (by simp only [putAll, Act.put, List.setIfInBounds_toArray, List.set_cons_zero, List.set_cons_succ]) (hCont (.slice zx y382.length zy, qj) _ ⟨hHeld, (rm_ qp), (kf_ qa), (kf_ qb), (kf_ qk), qr.out, qs.out, qd.out, qf.out, qh.out, qi.out, (bb_ HB)⟩)
 rintro ⟨qN, qj⟩ qv ⟨hS_, h0_, h1_, h2_, h3_, h4_, h5_, h6_, h7_, h8_, h9_, h10_⟩
 have n0_ : Aside0 (Kd.R (Kd.int .i64) 3 qv w.heap.size (fun _ => True) qN y382) := ⟨h0_⟩
 have n1_ : Aside0 (qv.heap[ql]? = some (.cells #[.slice A0_0 l0_0.length c0_0, .int .i64 a0_1, .bool a0_2] 27 (0, 0))) := ⟨h1_⟩
 have n2_ : Aside0 (qv.heap[qm]? = some (.cells #[.slice none 0 0, .int .i64 0, .bool false] 27 (0, 0))) := ⟨h2_⟩
 have n3_ : Aside0 (qv.heap[qj]? = some (.cells #[.slice none 0 0, .int .i64 0, .bool false] 27 (0, 0))) := ⟨h3_⟩
 have n4_ : Aside0 (w.heap.size ≤ qj) := ⟨h4_⟩
 have n5_ : Aside0 (w.heap.size ≤ qj) := ⟨h5_⟩
 have n6_ : Aside0 (ql ≠ qj) := ⟨h6_⟩
 have n7_ : Aside0 (qj ≠ ql) := ⟨h7_⟩
 have n8_ : Aside0 (qm ≠ qj) := ⟨h8_⟩
 have n9_ : Aside0 (qj ≠ qm) := ⟨h9_⟩
 have n10_ : Aside0 (Below w.heap.size w qv) := ⟨h10_⟩
 clear qa
 clear qb
 clear HB
 clear h0_ h1_ h2_ h3_ h4_ h5_ h6_ h7_ h8_ h9_ h10_
 have qp := n0_
 have qa := n1_
 have qb := n2_
 have qk := n3_
 have qr := n4_
 have qs := n5_
 have qd := n6_
 have qf := n7_
 have qh := n8_
 have qi := n9_
 have HB := n10_
 clear n0_ n1_ n2_ n3_ n4_ n5_ n6_ n7_ n8_ n9_ n10_
 have hHeld : qv.cell? ⟨ql, 0, none⟩ = some (.slice A0_0 l0_0.length c0_0) ∧ qv.cell? ⟨ql, 1, none⟩ = some (.int .i64 a0_1) ∧ qv.cell? ⟨ql, 2, none⟩ = some (.bool a0_2) := hS_
 obtain ⟨qw, qx, eo17⟩ := Kd.R_slice qp.out
 (first | subst eo17 | (injection eo17 with f1_ f2_ f3_; have f4_ := f1_.symm; have f5_ := f3_.symm; clear f1_ f2_ f3_; subst f4_; subst f5_))
 refine norm_ (a' := ?_) ?_ ?_
 rotate_left
 ·
  simp only [putAll, Act.put, List.setIfInBounds_toArray, List.set_cons_zero, List.set_cons_succ]
  rfl
 refine one_ (i := 12) (N := none) #[true, true, true, true, true, true, true, true, true, true, true, true, true] rfl rfl (one_of HT_.out (by kernel_rfl)) (by decide) (fun K hK => ?_)
 have hs18 : qv.cell? ⟨qj, 0, none⟩ = some (.slice none 0 0) := bc_ qk 0
 have hfs18 := blk_frozen qk.out 0
 have hns18_0 := qd.out
 have hns18_1 := qh.out
 have hms18_0 := qf.out
 have hms18_1 := qi.out
 have hs19 : qv.cell? ⟨qj, 1, none⟩ = some (.int .i64 0) := bc_ qk 1
 have hfs19 := blk_frozen qk.out 1
 have hns19_0 := qd.out
 have hns19_1 := qh.out
 have hms19_0 := qf.out
 have hms19_1 := qi.out
 have hs20 : qv.cell? ⟨qj, 2, none⟩ = some (.bool false) := bc_ qk 2
 have hfs20 := blk_frozen qk.out 2
 have hns20_0 := qd.out
 have hns20_1 := qh.out
 have hms20_0 := qf.out
 have hms20_1 := qi.out
 refine skip_ (w1 := ?_) (by rfl) rfl ?_ ?_
 rotate_left
 ·
  go_simp
  rfl
 refine hK.out _ _ ⟨(cf3_ (g := qj) qd.out hHeld.1), (cf3_ (g := qj) qd.out hHeld.2.1), (cf3_ (g := qj) qd.out hHeld.2.2)⟩ (fun hHeld => ?_)
 clear hK K
 refine done_ (done_of HT_.out (by kernel_rfl)) ?_
 have zE := qd.out
 have zF := qf.out
 obtain ⟨qy, qz, qA, qB, qC, qD⟩ := b3_ qa
 try go_wp2
 go_loopg [25] k (fun kq v25 w' => ∃ (qe : Int) (qc : List Int) (u386000 : Value), v25 = .int .i64 qe ∧ Aside0 (impl_NegateAtom.l0 kq l0_0 (l0_0.length : Int) qe qc (wrap64 (-a0_1)) (!a0_2) = some (r1, r2, r3, r4)) ∧ Aside0 (kq ≤ k) ∧ Aside0 (Kd.R (Kd.int .i64) 3 w' w.heap.size (fun _ => True) u386000 qc) ∧ Aside0 (w'.heap[ql]? = some (.cells #[(.slice A0_0 l0_0.length c0_0), .int .i64 a0_1, .bool a0_2] 27 (0, 0))) ∧ Aside0 (w'.heap[qm]? = some (.cells #[(.slice none 0 0), .int .i64 0, .bool false] 27 (0, 0))) ∧ Aside0 (w'.heap[qj]? = some (.cells #[u386000, .int .i64 (wrap64 (-a0_1)), .bool (!a0_2)] 27 (0, 0))) ∧ Aside0 (Below w.heap.size w w'))
 case atStart => exact ⟨(0), (y382), (.slice qw y382.length qx), (by first | rfl | (simp; done) | (simp [*]; done)), H', ⟨Nat.le_refl _⟩, ⟨by (with_reducible repeat (first | apply Kd.R_alloc | apply Kd.R_drewN | apply Kd.R_drew)); exact Kd.R_mono (Kd.R_far (p := ⟨qj, 2, none⟩) (Kd.R_far (p := ⟨qj, 1, none⟩) (Kd.R_far (p := ⟨qj, 0, none⟩) (Kd.R_types qp.out qk.out (by decide)) (fun _ hk => hk.2) (.slice qw y382.length qx)) (fun _ hk => hk.2) (.int .i64 (wrap64 (-a0_1)))) (fun _ hk => hk.2) (.bool (!a0_2))) (fun _ hk => trivial)⟩, ⟨kf_ qa⟩, ⟨kf_ qb⟩, ⟨by (with_reducible repeat (first | refine blk_drewN ?_ _ | refine blk_drew ?_ | refine blk_alloc ?_ _)); refine blk_put (cs := #[.slice qw y382.length qx, .int .i64 (wrap64 (-a0_1)), .bool false]) ?_ 2 _ rfl; (with_reducible repeat (first | refine blk_drewN ?_ _ | refine blk_drew ?_ | refine blk_alloc ?_ _)); refine blk_put (cs := #[.slice qw y382.length qx, .int .i64 0, .bool false]) ?_ 1 _ rfl; (with_reducible repeat (first | refine blk_drewN ?_ _ | refine blk_drew ?_ | refine blk_alloc ?_ _)); refine blk_put (cs := #[.slice none 0 0, .int .i64 0, .bool false]) ?_ 0 _ rfl; (with_reducible repeat (first | refine blk_drewN ?_ _ | refine blk_drew ?_ | refine blk_alloc ?_ _)); exact qk.out⟩, ⟨bb_ HB⟩⟩
 case round =>
  clear H'
  try clear c2
  try clear p2
  try clear c3
  try clear c4
  try clear zr
  try clear zs
  try clear c5
  try clear zt
  try clear zu
  try clear p6
  try clear c8
  try clear c21
  try clear qy
  try clear qz
  try clear qA
  try clear qH
  try clear qI
  try clear qJ
  try clear qB
  try clear qC
  try clear qD
  try clear qK
  try clear qL
  try clear qM
  obtain ⟨qe, qc, u386000, rfl, HA, HK1, qg, qa, qb, qk, HB⟩ := hrel
  cases gk with
  | zero => exact absurd HA.out (by simp [impl_NegateAtom.l0])
  | succ k1 =>
   have H := HA.out
   clear HA
   simp only [impl_NegateAtom.l0] at H
   by_cases c23 : qe < (l0_0.length : Int)
   rotate_left
   ·
    rw [if_neg c23] at H
    have qU : decide (qe < (l0_0.length : Int)) = false := decide_eq_false c23
    clear c23
    simp only [Option.some.injEq, Prod.mk.injEq] at H
    obtain ⟨rfl, rfl, rfl, rfl⟩ := H
    have zG := qf.out
    have zH := qd.out
    have zI := qi.out
    have zJ := qh.out
    obtain ⟨q9, za, zb, zc, zd, ze⟩ := b3_ qk
    obtain ⟨qE, qF, eo36⟩ := Kd.R_slice qg.out
    subst eo36
    have zK := qo.out
    have zL := qn.out
    obtain ⟨zf, zg, zh, zi, zj, zk⟩ := b3_ qb
    go_wp2
    refine bodyPost_ret (results_ct rfl _ _ qm 27 #[.slice qE qc.length qF, .int .i64 (wrap64 (-a0_1)), .bool (!a0_2)] (0, 0) _ rfl (by (with_reducible repeat (first | refine blk_drewN ?_ _ | refine blk_drew ?_ | refine blk_alloc ?_ _)); refine blk_put (cs := #[.slice qE qc.length qF, .int .i64 (wrap64 (-a0_1)), .bool false]) ?_ 2 _ rfl; (with_reducible repeat (first | refine blk_drewN ?_ _ | refine blk_drew ?_ | refine blk_alloc ?_ _)); refine blk_put (cs := #[.slice qE qc.length qF, .int .i64 0, .bool false]) ?_ 1 _ rfl; (with_reducible repeat (first | refine blk_drewN ?_ _ | refine blk_drew ?_ | refine blk_alloc ?_ _)); refine blk_put (cs := #[.slice none 0 0, .int .i64 0, .bool false]) ?_ 0 _ rfl; (with_reducible repeat (first | refine blk_drewN ?_ _ | refine blk_drew ?_ | refine blk_alloc ?_ _)); exact qb.out) Tryd.underlying27 rfl (by kernel_rfl)) rfl ?_
    exact ⟨_, by first | rfl | (simp [errW_none, errW_some] <;> rfl) | (simp [*, errW_none, errW_some] <;> rfl), by (with_reducible repeat (first | apply Kd.R_alloc | apply Kd.R_drewN | apply Kd.R_drew)); exact Kd.R_mono (Kd.R_far (p := ⟨qm, 2, none⟩) (Kd.R_far (p := ⟨qm, 1, none⟩) (Kd.R_far (p := ⟨qm, 0, none⟩) (Kd.R_types qg.out qb.out (by decide)) (fun _ hk => hk.2) (.slice qE qc.length qF)) (fun _ hk => hk.2) (.int .i64 (wrap64 (-a0_1)))) (fun _ hk => hk.2) (.bool (!a0_2))) (fun _ hk => trivial), bb_ HB⟩
   rw [if_pos c23] at H
   have qU : decide (qe < (l0_0.length : Int)) = true := decide_eq_true c23
   clear c23
   by_cases c24 : 0 ≤ qe
   rotate_left
   ·
    rw [if_neg c24] at H
    exact absurd H (by simp)
   rw [if_pos c24] at H
   have zM : decide (0 ≤ qe) = true := decide_eq_true c24
   clear c24
   by_cases c25 : qe < (l0_0.length : Int)
   rotate_left
   ·
    rw [if_neg c25] at H
    exact absurd H (by simp)
   rw [if_pos c25] at H
   have zN : decide (qe < (l0_0.length : Int)) = true := decide_eq_true c25
   clear c25
   by_cases c26 : qe < (qc.length : Int)
   rotate_left
   ·
    rw [if_neg c26] at H
    exact absurd H (by simp)
   rw [if_pos c26] at H
   have zO : decide (qe < (qc.length : Int)) = true := decide_eq_true c26
   clear c26
   obtain ⟨y387, hy387⟩ : ∃ y_ : List Int, y_ = (qc.set (qe : Int).toNat (wrap64 (-(rd l0_0 qe)))) := ⟨_, rfl⟩
   replace H : (impl_NegateAtom.l0 k1 l0_0 (l0_0.length : Int) (wrap64 (qe + 1)) y387 (wrap64 (-a0_1)) (!a0_2)) = some (r1, r2, r3, r4) := by first | (rw [hy387]; with_reducible exact H) | (have H2_ := (Option.bind_some _ _).symm.trans H; rw [hy387]; with_reducible exact H2_) | (have H2_ := (Option.bind_some _ _).symm.trans H; with_reducible exact H2_) | with_reducible exact H | (rw [hy387]; exact H) | exact H
   have Ny387 := Aside0.mk hy387
   clear hy387
   have H' := Aside0.mk H
   clear H
   have p386 : 0 ≤ (qe : Int) := of_decide_eq_true (by first | (with_reducible assumption) | assumption)
   have q386 : qe < (l0_0.length : Int) := of_decide_eq_true (by first | (with_reducible assumption) | assumption)
   obtain ⟨qV, e386, qq⟩ := Kd.at_int qu.out qe p386 q386
   cases e386
   replace qq := (HB.out.cell (World.block_lt_of_cell? w _ qq)).trans qq
   replace p386 := eq_true p386
   replace q386 := eq_true q386
   have zP := qf.out
   have zQ := qd.out
   have zR := qi.out
   have zS := qh.out
   obtain ⟨zl, zm, zn, zo, zp, zq⟩ := b3_ qk
   have p27 : 0 ≤ (qe : Int) := of_decide_eq_true (by first | (with_reducible assumption) | assumption)
   have q27 : (qe : Int) < ((qc.length : Int) : Int) := of_decide_eq_true (by first | (with_reducible assumption) | assumption)
   obtain ⟨go27, qO, eo27, qW, gl27, cl27, HG27⟩ := Kd.R_form qg.out (by omega)
   (first | cases eo27 | (injection eo27 with ea_ en_ ec_; (first | subst ea_ | (injection ea_ with ea_; subst ea_)); subst ec_; clear en_))
   have zz := Aside0.mk qW
   have zX := Aside0.mk HG27
   clear qW gl27 HG27
   obtain ⟨zA, hf27_0⟩ := Kd.R_celln 0 qg.out (qe : Int) p27 q27
   replace p27 := eq_true p27
   replace q27 := eq_true q27
   have qP := Kd.R_putg qg.out (qe : Int) (wrap64 (-(rd l0_0 qe)))
   go_wp2_with (first | ((with_reducible refine gate_store (t := 3) (p := 35) rfl ?_); refine store_event (t := 3) (p := 35) (v := ?vo_w32) (w1 := (wr.setCell ⟨go27, (qe : Int).toNat, none⟩ (.int .i64 (wrap64 (-(rd l0_0 qe)))))) ?hg ?ho ?hn ?hr ?_; (case ho => rfl); (case hg => rfl); (case hn => rfl); (case hr => first | (go_simp; done) | (go_simp; rfl)); intro zB hw; have hg : wr.grownBy zB (some go27) := (by rw [hw]; exact qP.2); have hp_ : Kd.R (Kd.int .i64) 3 zB w.heap.size (fun _ => True) (.slice (some ⟨go27, 0, none⟩) qc.length qO) y387 := (by rw [hw, Ny387.out]; exact qP.1); clear qP; replace qa := Aside0.mk (blk_grown (g := ql) (o := .cells #[.slice (some qV) l0_0.length c0_0, .int .i64 a0_1, .bool a0_2] 27 (0, 0)) (kf_ qa) hg (Kd.R_ne qg.out qa.out (by decide))); replace qb := Aside0.mk (blk_grown (g := qm) (o := .cells #[.slice none 0 0, .int .i64 0, .bool false] 27 (0, 0)) (kf_ qb) hg (Kd.R_ne qg.out qb.out (by decide))); replace qk := Aside0.mk (blk_grown (g := qj) (o := .cells #[.slice (some ⟨go27, 0, none⟩) qc.length qO, .int .i64 (wrap64 (-a0_1)), .bool (!a0_2)] 27 (0, 0)) (kf_ qk) hg (Kd.R_ne qg.out qk.out (by decide))); replace qg := Aside0.mk (hp_); replace HB := Aside0.mk ((by rw [hw]; exact below_set (HB.out) zz.out : Below w.heap.size w zB)); clear hg hw hp_))
   go_roundg k1
   case measure => have := HK1.out; omega
   case rel => exact ⟨(wrap64 (qe + 1)), (y387), (.slice (some ⟨go27, 0, none⟩) qc.length qO), (by first | rfl | (simp; done) | (simp [*]; done)), H', ⟨by have := HK1.out; omega⟩, ⟨by (with_reducible repeat (first | apply Kd.R_alloc | apply Kd.R_drewN | apply Kd.R_drew)); exact qg.out⟩, ⟨kf_ qa⟩, ⟨kf_ qb⟩, ⟨kf_ qk⟩, ⟨bb_ HB⟩⟩

/-! ### impl_GcdOf: function 100 -/
def impl_GcdOf.f (k : Nat) (a0 : Int) (a1 : Int) : Option (Int) := (impl_IsNumber.f a0).bind fun qc => (if qc = true then ((impl_IsNumber.f a1).bind fun qb => (if qb = true then ((impl_commonDivisor.f k a0 a1).bind fun qa => (some qa)) else (some 0))) else (some 0))
theorem impl_GcdOf.mono : ∀ a0 a1 k, LeO (impl_GcdOf.f k a0 a1) (impl_GcdOf.f (k + 1) a0 a1) := by
 intro a0 a1 k
 unfold impl_GcdOf.f
 repeat' first
   | (with_reducible exact impl_commonDivisor.mono _ _ _)
   | (with_reducible exact LeO.refl _)
   | (with_reducible exact LeO.none _)
   | (with_reducible refine LeO.ite ?_ ?_)
   | (with_reducible refine LeO.bind ?_ (fun _ => ?_))
   | exact impl_commonDivisor.mono _ _ _
   | exact LeO.none _
   | refine LeO.ite ?_ ?_
   | refine LeO.bind ?_ (fun _ => ?_)
set_option maxHeartbeats 8000000 in
set_option maxRecDepth 100000 in
theorem impl_GcdOf.calls (k : Nat) (a0 : Int) (a1 : Int) (r : Int) (w : World) (h : impl_GcdOf.f k a0 a1 = some r) :
  Calls Tryd.prog 100 #[.int .i64 a0, .int .i64 a1] w fun e w' => e = .returned (.int .i64 r) ∧ Drawn0 w w' := by
 have H : ((impl_IsNumber.f a0).bind fun qc => (if qc = true then ((impl_IsNumber.f a1).bind fun qb => (if qb = true then ((impl_commonDivisor.f k a0 a1).bind fun qa => (some qa)) else (some 0))) else (some 0))) = some r := h
 clear h
 replace H := Option.bind_eq_some_iff.mp H
 obtain ⟨qc, A30, H⟩ := H
 replace H : (if qc = true then ((impl_IsNumber.f a1).bind fun qb => (if qb = true then ((impl_commonDivisor.f k a0 a1).bind fun qa => (some qa)) else (some 0))) else (some 0)) = some r := H
 have A3 := Aside0.mk A30
 clear A30
 by_cases c4 : qc = true
 rotate_left
 ·
  replace c4 := Bool.eq_false_iff.mpr c4
  subst c4
  have H1 : (some 0) = some r := by rw [if_neg (show ¬ (false = true) by decide)] at H; exact H
  clear H
  have H := H1
  clear H1
  obtain rfl := Option.some.inj H
  go_enter Tryd.func100, Tryd.ntmps100
  go_wp2_with (first | ((with_reducible refine gate_callee (f := 61) rfl ?_); refine gL_ (some 6) Tryd.func61 #[.int .i64 a0] ?_; (with_reducible refine (impl_IsNumber.calls a0 false _ A3.out).mono ?_); rintro e w' ⟨rfl, ⟨nd, rfl⟩⟩; refine ⟨_, rfl, ?_⟩))
  go_ret
  exact ⟨by first | rfl | (simp; done) | (simp [*]; done), by repeat (first | exact Drawn0.refl _ | apply Drawn0.step)⟩
 subst c4
 have H1 : ((impl_IsNumber.f a1).bind fun qb => (if qb = true then ((impl_commonDivisor.f k a0 a1).bind fun qa => (some qa)) else (some 0))) = some r := by rw [if_pos rfl] at H; exact H
 clear H
 have H := H1
 clear H1
 replace H := Option.bind_eq_some_iff.mp H
 obtain ⟨qb, A50, H⟩ := H
 replace H : (if qb = true then ((impl_commonDivisor.f k a0 a1).bind fun qa => (some qa)) else (some 0)) = some r := H
 have A5 := Aside0.mk A50
 clear A50
 by_cases c6 : qb = true
 rotate_left
 ·
  replace c6 := Bool.eq_false_iff.mpr c6
  subst c6
  have H1 : (some 0) = some r := by rw [if_neg (show ¬ (false = true) by decide)] at H; exact H
  clear H
  have H := H1
  clear H1
  obtain rfl := Option.some.inj H
  go_enter Tryd.func100, Tryd.ntmps100
  go_wp2_with (first | ((with_reducible refine gate_callee (f := 61) rfl ?_); refine gL_ (some 6) Tryd.func61 #[.int .i64 a0] ?_; (with_reducible refine (impl_IsNumber.calls a0 true _ A3.out).mono ?_); rintro e w' ⟨rfl, ⟨nd, rfl⟩⟩; refine ⟨_, rfl, ?_⟩) | (go_at_call 61; (with_reducible refine (impl_IsNumber.calls a1 false _ A5.out).mono ?_); rintro e w' ⟨rfl, ⟨nd, rfl⟩⟩))
  go_ret
  exact ⟨by first | rfl | (simp; done) | (simp [*]; done), by repeat (first | exact Drawn0.refl _ | apply Drawn0.step)⟩
 subst c6
 have H1 : ((impl_commonDivisor.f k a0 a1).bind fun qa => (some qa)) = some r := by rw [if_pos rfl] at H; exact H
 clear H
 have H := H1
 clear H1
 replace H := Option.bind_eq_some_iff.mp H
 obtain ⟨qa, A70, H⟩ := H
 replace H : (some qa) = some r := H
 have A7 := Aside0.mk A70
 clear A70
 obtain rfl := Option.some.inj H
 go_enter Tryd.func100, Tryd.ntmps100
 go_wp2_with (first | ((with_reducible refine gate_callee (f := 61) rfl ?_); refine gL_ (some 6) Tryd.func61 #[.int .i64 a0] ?_; (with_reducible refine (impl_IsNumber.calls a0 true _ A3.out).mono ?_); rintro e w' ⟨rfl, ⟨nd, rfl⟩⟩; refine ⟨_, rfl, ?_⟩) | (go_at_call 61; (with_reducible refine (impl_IsNumber.calls a1 true _ A5.out).mono ?_); rintro e w' ⟨rfl, ⟨nd, rfl⟩⟩) | ((with_reducible refine gate_callee (f := 92) rfl ?_); refine gL_ (some 15) Tryd.func92 #[.int .i64 a0, .int .i64 a1] ?_; (with_reducible refine (impl_commonDivisor.calls k a0 a1 qa _ A7.out).mono ?_); rintro e w' ⟨rfl, ⟨nd, rfl⟩⟩; refine ⟨_, rfl, ?_⟩))
 go_ret
 exact ⟨by first | rfl | (simp; done) | (simp [*]; done), by repeat (first | exact Drawn0.refl _ | apply Drawn0.step)⟩

/-! ### impl_IsRatio: function 72 -/
def impl_IsRatio.f (k : Nat) (a0_0 : Int) (a0_1 : Int) : Option (Bool) := if a0_1 ≥ 1 then (if a0_1 ≤ 400000000 then ((impl_IsNumber.f a0_0).bind fun qc => (if qc = true then ((impl_GcdOf.f k a0_0 a0_1).bind fun qb => (some (qb == 1))) else (some false))) else (some false)) else (some false)
theorem impl_IsRatio.mono : ∀ a0 a1 k, LeO (impl_IsRatio.f k a0 a1) (impl_IsRatio.f (k + 1) a0 a1) := by
 intro a0 a1 k
 unfold impl_IsRatio.f
 repeat' first
   | (with_reducible exact impl_GcdOf.mono _ _ _)
   | (with_reducible exact LeO.refl _)
   | (with_reducible exact LeO.none _)
   | (with_reducible refine LeO.ite ?_ ?_)
   | (with_reducible refine LeO.bind ?_ (fun _ => ?_))
   | exact impl_GcdOf.mono _ _ _
   | exact LeO.none _
   | refine LeO.ite ?_ ?_
   | refine LeO.bind ?_ (fun _ => ?_)
set_option maxHeartbeats 8000000 in
set_option maxRecDepth 100000 in
theorem impl_IsRatio.calls (k : Nat) (a0_0 : Int) (a0_1 : Int) (r : Bool) (w : World) (h : impl_IsRatio.f k a0_0 a0_1 = some r) :
  Calls Tryd.prog 72 #[.agg #[.int .i64 a0_0, .int .i64 a0_1]] w fun e w' => e = .returned (.bool r) ∧ Below w.heap.size w w' := by
 have hu46 := Tryd.underlying46
 have HB := Aside0.mk (Below.refl w.heap.size w)
 have H : (if a0_1 ≥ 1 then (if a0_1 ≤ 400000000 then ((impl_IsNumber.f a0_0).bind fun qc => (if qc = true then ((impl_GcdOf.f k a0_0 a0_1).bind fun qb => (some (qb == 1))) else (some false))) else (some false)) else (some false)) = some r := h
 clear h
 by_cases c2 : a0_1 ≥ 1
 rotate_left
 ·
  rw [if_neg c2] at H
  have qs : decide (1 ≤ a0_1) = false := decide_eq_false c2
  clear c2
  obtain rfl := Option.some.inj H
  go_enter Tryd.func72, Tryd.ntmps72
  go_wp2_with (first | ((with_reducible refine gate_dst (N := 1) rfl ?_); refine bx_ (cs := #[.int .i64 a0_0, .int .i64 a0_1]) (t := 46) ?_; intro qd hg qy hbox hb; have qa := Aside0.mk (hbox); have qe := hz_ HB hg; have qf := hz_ HB hg; replace HB := bS_ HB hb; clear hb hbox hg; obtain ⟨qg, qh, qi, qj⟩ := b2_ qa))
  go_ret
  exact ⟨by first | rfl | (simp [errW_none, errW_some] <;> rfl) | (simp [*, errW_none, errW_some] <;> rfl), bb_ HB⟩
 rw [if_pos c2] at H
 have qs : decide (1 ≤ a0_1) = true := decide_eq_true c2
 clear c2
 by_cases c3 : a0_1 ≤ 400000000
 rotate_left
 ·
  rw [if_neg c3] at H
  have qt : decide (a0_1 ≤ 400000000) = false := decide_eq_false c3
  clear c3
  obtain rfl := Option.some.inj H
  go_enter Tryd.func72, Tryd.ntmps72
  go_wp2_with (first | ((with_reducible refine gate_dst (N := 1) rfl ?_); refine bx_ (cs := #[.int .i64 a0_0, .int .i64 a0_1]) (t := 46) ?_; intro qd hg qz hbox hb; have qa := Aside0.mk (hbox); have qe := hz_ HB hg; have qf := hz_ HB hg; replace HB := bS_ HB hb; clear hb hbox hg; obtain ⟨qk, ql, qm, qn⟩ := b2_ qa))
  go_ret
  exact ⟨by first | rfl | (simp [errW_none, errW_some] <;> rfl) | (simp [*, errW_none, errW_some] <;> rfl), bb_ HB⟩
 rw [if_pos c3] at H
 have qt : decide (a0_1 ≤ 400000000) = true := decide_eq_true c3
 clear c3
 replace H := Option.bind_eq_some_iff.mp H
 obtain ⟨qc, A40, H⟩ := H
 replace H : (if qc = true then ((impl_GcdOf.f k a0_0 a0_1).bind fun qb => (some (qb == 1))) else (some false)) = some r := H
 have A4 := Aside0.mk A40
 clear A40
 by_cases c5 : qc = true
 rotate_left
 ·
  replace c5 := Bool.eq_false_iff.mpr c5
  subst c5
  have H1 : (some false) = some r := by rw [if_neg (show ¬ (false = true) by decide)] at H; exact H
  clear H
  have H := H1
  clear H1
  obtain rfl := Option.some.inj H
  go_enter Tryd.func72, Tryd.ntmps72
  go_wp2_with (first | ((with_reducible refine gate_dst (N := 1) rfl ?_); refine bx_ (cs := #[.int .i64 a0_0, .int .i64 a0_1]) (t := 46) ?_; intro qd hg w9 hbox hb; have qa := Aside0.mk (hbox); have qe := hz_ HB hg; have qf := hz_ HB hg; replace HB := bS_ HB hb; clear hb hbox hg; obtain ⟨qo, qp, qq, qr⟩ := b2_ qa) | (go_at_call 61; (with_reducible refine (impl_IsNumber.calls a0_0 false _ A4.out).mono ?_); rintro e w' ⟨rfl, ⟨nd, rfl⟩⟩))
  go_ret
  exact ⟨by first | rfl | (simp [errW_none, errW_some] <;> rfl) | (simp [*, errW_none, errW_some] <;> rfl), bb_ HB⟩
 subst c5
 have H1 : ((impl_GcdOf.f k a0_0 a0_1).bind fun qb => (some (qb == 1))) = some r := by rw [if_pos rfl] at H; exact H
 clear H
 have H := H1
 clear H1
 replace H := Option.bind_eq_some_iff.mp H
 obtain ⟨qb, A60, H⟩ := H
 replace H : (some (qb == 1)) = some r := H
 have A6 := Aside0.mk A60
 clear A60
 obtain rfl := Option.some.inj H
 go_enter Tryd.func72, Tryd.ntmps72
 go_wp2_with (first | ((with_reducible refine gate_dst (N := 1) rfl ?_); refine bx_ (cs := #[.int .i64 a0_0, .int .i64 a0_1]) (t := 46) ?_; intro qd hg w7 hbox hb; have qa := Aside0.mk (hbox); have qe := hz_ HB hg; have qf := hz_ HB hg; replace HB := bS_ HB hb; clear hb hbox hg; obtain ⟨qu, qv, qw, qx⟩ := b2_ qa) | (go_at_call 61; (with_reducible refine (impl_IsNumber.calls a0_0 true _ A4.out).mono ?_); rintro e w' ⟨rfl, ⟨nd, rfl⟩⟩) | (go_at_call 100; (with_reducible refine (impl_GcdOf.calls k a0_0 a0_1 qb _ A6.out).mono ?_); rintro e w' ⟨rfl, ⟨nd, rfl⟩⟩))
 go_ret
 exact ⟨by first | rfl | (simp [errW_none, errW_some] <;> rfl) | (simp [*, errW_none, errW_some] <;> rfl), bb_ HB⟩

/-! ### impl_reducedRatio: function 79 -/
def impl_reducedRatio.j0 : Nat → Int → Int → Option (Int × Int)
 | 0, _, _ => none
 | k + 1, x0, x1 => (impl_commonDivisor.f k x0 x1).bind fun qb => (if qb = 0 then (none) else ((impl_IsRatio.f k (wrap64 (Int.tdiv x0 qb)) (wrap64 (Int.tdiv x1 qb))).bind fun qj => (if qj = true then (some (wrap64 (Int.tdiv x0 qb), wrap64 (Int.tdiv x1 qb))) else (some (0, 0)))))
def impl_reducedRatio.f (k : Nat) (a0 : Int) (a1 : Int) : Option (Int × Int) := if a1 = 0 then (some (0, 0)) else (if a1 < 0 then (impl_reducedRatio.j0 k (wrap64 (-a0)) (wrap64 (-a1))) else (impl_reducedRatio.j0 k a0 a1))
theorem impl_reducedRatio.mono_l : ∀ k, (∀ y0 y1, LeO (impl_reducedRatio.j0 k y0 y1) (impl_reducedRatio.j0 (k + 1) y0 y1))
 | 0 => fun _ _ r h => by simp [impl_reducedRatio.j0] at h
 | k + 1 => by
  have ih0 := impl_reducedRatio.mono_l k
  ·
   intro y0 y1
   unfold impl_reducedRatio.j0
   repeat' first
   | (with_reducible exact ih0 _ _)
   | (with_reducible exact impl_IsRatio.mono _ _ _)
   | (with_reducible exact impl_commonDivisor.mono _ _ _)
   | (with_reducible exact LeO.refl _)
   | (with_reducible exact LeO.none _)
   | (with_reducible refine LeO.ite ?_ ?_)
   | (with_reducible refine LeO.bind ?_ (fun _ => ?_))
   | exact ih0 _ _
   | exact impl_IsRatio.mono _ _ _
   | exact impl_commonDivisor.mono _ _ _
   | exact LeO.none _
   | refine LeO.ite ?_ ?_
   | refine LeO.bind ?_ (fun _ => ?_)
theorem impl_reducedRatio.mono : ∀ a0 a1 k, LeO (impl_reducedRatio.f k a0 a1) (impl_reducedRatio.f (k + 1) a0 a1) := by
 intro a0 a1 k
 have ih0 := impl_reducedRatio.mono_l k
 unfold impl_reducedRatio.f
 repeat' first
   | (with_reducible exact ih0 _ _)
   | (with_reducible exact impl_IsRatio.mono _ _ _)
   | (with_reducible exact impl_commonDivisor.mono _ _ _)
   | (with_reducible exact LeO.refl _)
   | (with_reducible exact LeO.none _)
   | (with_reducible refine LeO.ite ?_ ?_)
   | (with_reducible refine LeO.bind ?_ (fun _ => ?_))
   | exact ih0 _ _
   | exact impl_IsRatio.mono _ _ _
   | exact impl_commonDivisor.mono _ _ _
   | exact LeO.none _
   | refine LeO.ite ?_ ?_
   | refine LeO.bind ?_ (fun _ => ?_)
def impl_reducedRatio.T6 : Bool × List (List Nat × List Nat) := (true, [([], []), ([], []), ([0, 1], [0, 1]), ([], []), ([], []), ([3, 4], [3, 4]), ([2, 5], [2, 5]), ([], []), ([7, 6, 0, 1, 2, 3, 4, 5, 6, 7], [6, 7])])
def impl_reducedRatio.B6 : List Nat := [0, 0, 3, 0, 0, 24, 63, 0, 255]
theorem impl_reducedRatio.tab6 : rtab .any (opsOf Tryd.f79 6) = impl_reducedRatio.T6 := by kernel_rfl
theorem impl_reducedRatio.bits6 : waitsOk impl_reducedRatio.T6.2 impl_reducedRatio.B6 = true := by kernel_rfl
set_option maxHeartbeats 8000000 in
set_option maxRecDepth 100000 in
theorem impl_reducedRatio.calls (k : Nat) (a0 : Int) (a1 : Int) (r1 : Int) (r2 : Int) (w : World) (h : impl_reducedRatio.f k a0 a1 = some (r1, r2)) :
  Calls Tryd.prog 79 #[.int .i64 a0, .int .i64 a1] w fun e w' => e = .returned (.agg #[.int .i64 r1, .int .i64 r2]) ∧ Below w.heap.size w w' := by
 have hu46 := Tryd.underlying46
 have HB := Aside0.mk (Below.refl w.heap.size w)
 have H : (if a1 = 0 then (some (0, 0)) else (if a1 < 0 then (impl_reducedRatio.j0 k (wrap64 (-a0)) (wrap64 (-a1))) else (impl_reducedRatio.j0 k a0 a1))) = some (r1, r2) := h
 clear h
 by_cases c3 : a1 = 0
 ·
  rw [if_pos c3] at H
  have qp : (a1 == 0) = true := beq_iff_eq.mpr c3
  have qq : (a1 != 0) = false := bne_eq_false_iff_eq.mpr c3
  clear c3
  simp only [Option.some.injEq, Prod.mk.injEq] at H
  obtain ⟨rfl, rfl⟩ := H
  go_enter Tryd.func79, Tryd.ntmps79
  go_wp2_with (first | ((with_reducible refine gate_dst (N := 4) rfl ?_); refine bx_ (cs := #[.int .i64 0, .int .i64 0]) (t := 46) ?_; intro qh hg w4 hbox hb; have qa := Aside0.mk (hbox); have qr := hz_ HB hg; have qs := hz_ HB hg; replace HB := bS_ HB hb; clear hb hbox hg; obtain ⟨ql, qm, qn, qo⟩ := b2_ qa))
  refine bodyPost_ret (results_cell_row rfl _ _ qh 46 #[.int .i64 0, .int .i64 0] (0, 0) _ rfl (by (with_reducible repeat (first | refine blk_drewN ?_ _ | refine blk_drew ?_ | refine blk_alloc ?_ _)); refine blk_put (cs := #[.int .i64 0, .int .i64 0]) ?_ 1 _ rfl; (with_reducible repeat (first | refine blk_drewN ?_ _ | refine blk_drew ?_ | refine blk_alloc ?_ _)); refine blk_put (cs := #[.int .i64 0, .int .i64 0]) ?_ 0 _ rfl; (with_reducible repeat (first | refine blk_drewN ?_ _ | refine blk_drew ?_ | refine blk_alloc ?_ _)); exact qa.out) Tryd.underlying46 rfl (by kernel_rfl)) rfl ?_
  exact ⟨by first | rfl | (simp [errW_none, errW_some] <;> rfl) | (simp [*, errW_none, errW_some] <;> rfl), bb_ HB⟩
 rw [if_neg c3] at H
 have qp : (a1 == 0) = false := beq_eq_false_iff_ne.mpr c3
 have qq : (a1 != 0) = true := bne_iff_ne.mpr c3
 have HC6 := Aside0.mk H
 clear H
 go_enter Tryd.func79, Tryd.ntmps79
 go_upto_if 11 with (first | ((with_reducible refine gate_dst (N := 4) rfl ?_); refine bx_ (cs := #[.int .i64 0, .int .i64 0]) (t := 46) ?_; intro qh hg w7 hbox hb; have qa := Aside0.mk (hbox); have qr := hz_ HB hg; have qs := hz_ HB hg; replace HB := bS_ HB hb; clear hb hbox hg))
 (try simp only [Act.put, List.setIfInBounds_toArray, List.set_cons_zero, List.set_cons_succ])
 go_cut [0, 1] (fun v0 v1 wc => ∃ (kq : Nat) (qf : Int) (qg : Int), v0 = .int .i64 qf ∧ v1 = .int .i64 qg ∧ Aside0 (impl_reducedRatio.j0 kq qf qg = some (r1, r2)) ∧ Aside0 (kq ≤ k) ∧ Aside0 (wc.heap[qh]? = some (.cells #[.int .i64 0, .int .i64 0] 46 (0, 0))) ∧ Aside0 (Below w.heap.size w wc))
 case first =>
  have H := HC6.out
  clear HC6
  by_cases c8 : a1 < 0
  rotate_left
  ·
   rw [if_neg c8] at H
   have qk : decide (a1 < 0) = false := decide_eq_false c8
   clear c8
   (first | rw [qk] | (simp only [i64_w, i32_w]; rw [qk]) | skip)
   have H' := Aside0.mk H
   clear H
   go_wp2
   go_meet
   case rel => exact ⟨_, (a0), (a1), (by first | rfl | (simp; done) | (simp [*]; done)), (by first | rfl | (simp; done) | (simp [*]; done)), H', ⟨by first | omega | exact Nat.le_refl _⟩, ⟨kf_ qa⟩, ⟨bb_ HB⟩⟩
  rw [if_pos c8] at H
  have qk : decide (a1 < 0) = true := decide_eq_true c8
  clear c8
  (first | rw [qk] | (simp only [i64_w, i32_w]; rw [qk]) | skip)
  have H' := Aside0.mk H
  clear H
  go_wp2
  go_meet
  case rel => exact ⟨_, (wrap64 (-a0)), (wrap64 (-a1)), (by first | rfl | (simp; done) | (simp [*]; done)), (by first | rfl | (simp; done) | (simp [*]; done)), H', ⟨by first | omega | exact Nat.le_refl _⟩, ⟨kf_ qa⟩, ⟨bb_ HB⟩⟩
 case rest =>
  clear HC6
  try clear p2
  try clear c3
  try clear qp
  try clear qq
  try clear p6
  try clear c7
  try clear c8
  try clear qk
  try clear ql
  try clear qm
  try clear qn
  try clear qo
  obtain ⟨kq, qf, qg, rfl, rfl, HA, HJ5, qa, HB⟩ := hcut
  cases kq with
  | zero => exact absurd HA.out (by simp [impl_reducedRatio.j0])
  | succ kj5 =>
   have H := HA.out
   clear HA
   simp only [impl_reducedRatio.j0] at H
   replace H := Option.bind_eq_some_iff.mp H
   obtain ⟨qb, A90, H⟩ := H
   replace H : (if qb = 0 then (none) else ((impl_IsRatio.f kj5 (wrap64 (Int.tdiv qf qb)) (wrap64 (Int.tdiv qg qb))).bind fun qj => (if qj = true then (some (wrap64 (Int.tdiv qf qb), wrap64 (Int.tdiv qg qb))) else (some (0, 0))))) = some (r1, r2) := H
   have A9 := Aside0.mk A90
   clear A90
   by_cases c10 : qb = 0
   ·
    rw [if_pos c10] at H
    exact absurd H (by simp)
   rw [if_neg c10] at H
   have qP : (qb == 0) = false := beq_eq_false_iff_ne.mpr c10
   have qQ : (qb != 0) = true := bne_iff_ne.mpr c10
   replace H := Option.bind_eq_some_iff.mp H
   obtain ⟨qj, A110, H⟩ := H
   replace H : (if qj = true then (some (wrap64 (Int.tdiv qf qb), wrap64 (Int.tdiv qg qb))) else (some (0, 0))) = some (r1, r2) := H
   have A11 := Aside0.mk A110
   clear A110
   by_cases c12 : qj = true
   rotate_left
   ·
    replace c12 := Bool.eq_false_iff.mpr c12
    subst c12
    have H1 : (some (0, 0)) = some (r1, r2) := by rw [if_neg (show ¬ (false = true) by decide)] at H; exact H
    clear H
    have H := H1
    clear H1
    simp only [Option.some.injEq, Prod.mk.injEq] at H
    obtain ⟨rfl, rfl⟩ := H
    try go_wp2_with (first | ((with_reducible refine gate_callee (f := 92) rfl ?_); refine gL_ (some 18) Tryd.func92 #[.int .i64 qf, .int .i64 qg] ?_; (with_reducible refine (impl_commonDivisor.calls kj5 qf qg qb _ A9.out).mono ?_); rintro e w' ⟨rfl, ⟨nd, rfl⟩⟩; refine ⟨_, rfl, ?_⟩; (try (rw [drewN_self wc]; generalize hq_ : World.drewN wc _ = wc; have n0_ : Aside0 (wc.heap[qh]? = some (.cells #[.int .i64 0, .int .i64 0] 46 (0, 0))) := ⟨by rw [← hq_]; exact (kf_ qa)⟩; have n1_ : Aside0 (Below w.heap.size w wc) := ⟨by rw [← hq_]; exact (bb_ HB)⟩; clear qa HB hq_; have qa := n0_; have HB := n1_; clear n0_ n1_))))
    replace qa := Aside0.mk (blk_drew qa.out); replace HB := Aside0.mk (below_drew1 HB.out)
    refine start_ (n := 9) (S := fun w' => True) (ds := []) #[false, false, false, false, false, false, false, false, false] (by kernel_rfl) rfl rfl trivial (fun hHeld => ?_); refine with_tabW impl_reducedRatio.tab6 impl_reducedRatio.bits6 (fun HT_ HW_ => ?_)
    generalize wc.drew = qX at qa HB hHeld ⊢
    refine pX_ 0 (some 19) #[true, false, false, false, false, false, false, false, false] HT_ ?_
    refine pX_ 1 (some 20) #[true, true, false, false, false, false, false, false, false] HT_ ?_
    refine pX_ 2 (some 21) #[true, true, true, false, false, false, false, false, false] HT_ ?_
    refine pX_ 3 (some 22) #[true, true, true, true, false, false, false, false, false] HT_ ?_
    refine pX_ 4 (some 23) #[true, true, true, true, true, false, false, false, false] HT_ ?_
    refine pX_ 5 (some 24) #[true, true, true, true, true, true, false, false, false] HT_ ?_
    refine pX_ 6 (some 25) #[true, true, true, true, true, true, true, false, false] HT_ ?_
    refine one_ (i := 7) (N := some 6) #[true, true, true, true, true, true, true, true, false] rfl rfl (one_of HT_.out (by kernel_rfl)) (by decide) (fun K hK => ?_)
    refine box_step ?hg (N := 6) ?hd (cs := #[.int .i64 0, .int .i64 0]) (t := 46) ?hr ?_; (case hd => rfl); (case hg => rfl); (case hr => first | (go_simp; done) | (go_simp; rfl))
    intro qi hg qR hbox hb
    have qe := Aside0.mk (hbox); have qt := hz_ HB hg; have qu := hz_ HB hg; replace HB := bS_ HB hb; have qc := nL_ qa hg; have qd := nG_ qa hg; replace qa := kB_ qa hb; clear hb hbox hg
    refine hK.out _ _ trivial (fun hHeld => ?_)
    clear hK K
    refine norm_ (a' := ?_) ?_ ?_
    rotate_left
    ·
     show Act.put _ (some 6) _ = _
     simp only [Act.put, List.setIfInBounds_toArray, List.set_cons_zero, List.set_cons_succ, i64_w, i32_w]
     rfl
    refine one_ (i := 8) (N := none) #[true, true, true, true, true, true, true, true, true] rfl rfl (one_of HT_.out (by kernel_rfl)) (by decide) (fun K hK => ?_)
    have hs24 : qR.cell? ⟨qi, 0, none⟩ = some (.int .i64 0) := bc_ qe 0
    have hfs24 := blk_frozen qe.out 0
    have hns24_0 := qc.out
    have hms24_0 := qd.out
    have hs25 : qR.cell? ⟨qi, 1, none⟩ = some (.int .i64 0) := bc_ qe 1
    have hfs25 := blk_frozen qe.out 1
    have hns25_0 := qc.out
    have hms25_0 := qd.out
    refine skip_ (w1 := ?_) (by rfl) rfl ?_ ?_
    rotate_left
    ·
     go_simp
     rfl
    refine hK.out _ _ trivial (fun hHeld => ?_)
    clear hK K
    refine done_ (done_of HT_.out (by kernel_rfl)) ?_
    have qS := qd.out
    have qT := qc.out
    obtain ⟨qv, qw, qx, qy⟩ := b2_ qe
    try go_wp2_with (first | ((with_reducible refine gate_callee (f := 72) rfl ?_); refine gL_ (some 27) Tryd.func72 #[.agg #[.int .i64 (wrap64 (Int.tdiv qf qb)), .int .i64 (wrap64 (Int.tdiv qg qb))]] ?_; (with_reducible refine (impl_IsRatio.calls kj5 (wrap64 (Int.tdiv qf qb)) (wrap64 (Int.tdiv qg qb)) false _ A11.out).mono ?_); rintro e qY ⟨rfl, hb⟩; refine ⟨_, rfl, ?_⟩; replace qa := kF_ qa hb; replace qe := kP_ (cs' := #[.int .i64 (wrap64 (Int.tdiv qf qb)), .int .i64 (wrap64 (Int.tdiv qg qb))]) qe hb; replace HB := bS_ HB hb; clear hb; obtain ⟨qz, qA, qB, qC⟩ := b2_ qa))
    refine bodyPost_ret (results_cell_row rfl _ _ qh 46 #[.int .i64 0, .int .i64 0] (0, 0) _ rfl (by (with_reducible repeat (first | refine blk_drewN ?_ _ | refine blk_drew ?_ | refine blk_alloc ?_ _)); refine blk_put (cs := #[.int .i64 0, .int .i64 0]) ?_ 1 _ rfl; (with_reducible repeat (first | refine blk_drewN ?_ _ | refine blk_drew ?_ | refine blk_alloc ?_ _)); refine blk_put (cs := #[.int .i64 0, .int .i64 0]) ?_ 0 _ rfl; (with_reducible repeat (first | refine blk_drewN ?_ _ | refine blk_drew ?_ | refine blk_alloc ?_ _)); exact qa.out) Tryd.underlying46 rfl (by kernel_rfl)) rfl ?_
    exact ⟨by first | rfl | (simp [errW_none, errW_some] <;> rfl) | (simp [*, errW_none, errW_some] <;> rfl), bb_ HB⟩
   subst c12
   have H1 : (some (wrap64 (Int.tdiv qf qb), wrap64 (Int.tdiv qg qb))) = some (r1, r2) := by rw [if_pos rfl] at H; exact H
   clear H
   have H := H1
   clear H1
   simp only [Option.some.injEq, Prod.mk.injEq] at H
   obtain ⟨rfl, rfl⟩ := H
   try go_wp2_with (first | ((with_reducible refine gate_callee (f := 92) rfl ?_); refine gL_ (some 18) Tryd.func92 #[.int .i64 qf, .int .i64 qg] ?_; (with_reducible refine (impl_commonDivisor.calls kj5 qf qg qb _ A9.out).mono ?_); rintro e w' ⟨rfl, ⟨nd, rfl⟩⟩; refine ⟨_, rfl, ?_⟩; (try (rw [drewN_self wc]; generalize hq_ : World.drewN wc _ = wc; have n0_ : Aside0 (wc.heap[qh]? = some (.cells #[.int .i64 0, .int .i64 0] 46 (0, 0))) := ⟨by rw [← hq_]; exact (kf_ qa)⟩; have n1_ : Aside0 (Below w.heap.size w wc) := ⟨by rw [← hq_]; exact (bb_ HB)⟩; clear qa HB hq_; have qa := n0_; have HB := n1_; clear n0_ n1_))))
   replace qa := Aside0.mk (blk_drew qa.out); replace HB := Aside0.mk (below_drew1 HB.out)
   refine start_ (n := 9) (S := fun w' => True) (ds := []) #[false, false, false, false, false, false, false, false, false] (by kernel_rfl) rfl rfl trivial (fun hHeld => ?_); refine with_tabW impl_reducedRatio.tab6 impl_reducedRatio.bits6 (fun HT_ HW_ => ?_)
   generalize wc.drew = qZ at qa HB hHeld ⊢
   refine pX_ 0 (some 19) #[true, false, false, false, false, false, false, false, false] HT_ ?_
   refine pX_ 1 (some 20) #[true, true, false, false, false, false, false, false, false] HT_ ?_
   refine pX_ 2 (some 21) #[true, true, true, false, false, false, false, false, false] HT_ ?_
   refine pX_ 3 (some 22) #[true, true, true, true, false, false, false, false, false] HT_ ?_
   refine pX_ 4 (some 23) #[true, true, true, true, true, false, false, false, false] HT_ ?_
   refine pX_ 5 (some 24) #[true, true, true, true, true, true, false, false, false] HT_ ?_
   refine pX_ 6 (some 25) #[true, true, true, true, true, true, true, false, false] HT_ ?_
   refine one_ (i := 7) (N := some 6) #[true, true, true, true, true, true, true, true, false] rfl rfl (one_of HT_.out (by kernel_rfl)) (by decide) (fun K hK => ?_)
   refine box_step ?hg (N := 6) ?hd (cs := #[.int .i64 0, .int .i64 0]) (t := 46) ?hr ?_; (case hd => rfl); (case hg => rfl); (case hr => first | (go_simp; done) | (go_simp; rfl))
   intro qi hg qU hbox hb
   have qe := Aside0.mk (hbox); have qt := hz_ HB hg; have qu := hz_ HB hg; replace HB := bS_ HB hb; have qc := nL_ qa hg; have qd := nG_ qa hg; replace qa := kB_ qa hb; clear hb hbox hg
   refine hK.out _ _ trivial (fun hHeld => ?_)
   clear hK K
   refine norm_ (a' := ?_) ?_ ?_
   rotate_left
   ·
    show Act.put _ (some 6) _ = _
    simp only [Act.put, List.setIfInBounds_toArray, List.set_cons_zero, List.set_cons_succ, i64_w, i32_w]
    rfl
   refine one_ (i := 8) (N := none) #[true, true, true, true, true, true, true, true, true] rfl rfl (one_of HT_.out (by kernel_rfl)) (by decide) (fun K hK => ?_)
   have hs15 : qU.cell? ⟨qi, 0, none⟩ = some (.int .i64 0) := bc_ qe 0
   have hfs15 := blk_frozen qe.out 0
   have hns15_0 := qc.out
   have hms15_0 := qd.out
   have hs16 : qU.cell? ⟨qi, 1, none⟩ = some (.int .i64 0) := bc_ qe 1
   have hfs16 := blk_frozen qe.out 1
   have hns16_0 := qc.out
   have hms16_0 := qd.out
   refine skip_ (w1 := ?_) (by rfl) rfl ?_ ?_
   rotate_left
   ·
    go_simp
    rfl
   refine hK.out _ _ trivial (fun hHeld => ?_)
   clear hK K
   refine done_ (done_of HT_.out (by kernel_rfl)) ?_
   have qV := qd.out
   have qW := qc.out
   obtain ⟨qD, qE, qF, qG⟩ := b2_ qe
   try go_wp2_with (first | ((with_reducible refine gate_callee (f := 72) rfl ?_); refine gL_ (some 27) Tryd.func72 #[.agg #[.int .i64 (wrap64 (Int.tdiv qf qb)), .int .i64 (wrap64 (Int.tdiv qg qb))]] ?_; (with_reducible refine (impl_IsRatio.calls kj5 (wrap64 (Int.tdiv qf qb)) (wrap64 (Int.tdiv qg qb)) true _ A11.out).mono ?_); rintro e q0 ⟨rfl, hb⟩; refine ⟨_, rfl, ?_⟩; replace qa := kF_ qa hb; replace qe := kP_ (cs' := #[.int .i64 (wrap64 (Int.tdiv qf qb)), .int .i64 (wrap64 (Int.tdiv qg qb))]) qe hb; replace HB := bS_ HB hb; clear hb; obtain ⟨qH, qI, qJ, qK⟩ := b2_ qe; obtain ⟨qL, qM, qN, qO⟩ := b2_ qa))
   refine bodyPost_ret (results_cell_row rfl _ _ qh 46 #[.int .i64 (wrap64 (Int.tdiv qf qb)), .int .i64 (wrap64 (Int.tdiv qg qb))] (0, 0) _ rfl (by (with_reducible repeat (first | refine blk_drewN ?_ _ | refine blk_drew ?_ | refine blk_alloc ?_ _)); refine blk_put (cs := #[.int .i64 (wrap64 (Int.tdiv qf qb)), .int .i64 0]) ?_ 1 _ rfl; (with_reducible repeat (first | refine blk_drewN ?_ _ | refine blk_drew ?_ | refine blk_alloc ?_ _)); refine blk_put (cs := #[.int .i64 0, .int .i64 0]) ?_ 0 _ rfl; (with_reducible repeat (first | refine blk_drewN ?_ _ | refine blk_drew ?_ | refine blk_alloc ?_ _)); exact qa.out) Tryd.underlying46 rfl (by kernel_rfl)) rfl ?_
   exact ⟨by first | rfl | (simp [errW_none, errW_some] <;> rfl) | (simp [*, errW_none, errW_some] <;> rfl), bb_ HB⟩

end Go.Proofs.YtohoibekddhneaaDoor.PFnAtoms
