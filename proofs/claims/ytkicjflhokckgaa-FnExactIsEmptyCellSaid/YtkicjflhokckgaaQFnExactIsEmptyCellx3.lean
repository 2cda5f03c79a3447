/- The functions that the law FnExactIsEmptyCell reaches, each as a Lean function with the same answers, and the proof that the call comes to exactly these: turned by program out of the printed texts. No condition but those that each theorem names. -/
import Derived.Test.YtkicjflhokckgaaQFnExactIsEmptyCellx0
import Derived.Test.YtkicjflhokckgaaQFnExactIsEmptyCellx2
namespace Go.Proofs.Ytkicjflhokckgaa.PFnExactIsEmptyCell
open Go.RowKit Go.Proofs.YtkicjflhokckgaaW.PrintWords Go.Proofs.YtkicjflhokckgaaW.PrintLast Go.Proofs.YtkicjflhokckgaaW.PrintMore
attribute [local go_sem] max2_int min2_int max_two min_two max_three min_three max_four min_four   -- for this text's walks alone
set_option linter.unusedVariables false
set_option linter.unusedSimpArgs false

/-! ### spec_l3Drop: function 60 -/
mutual
def spec_l3Drop.l0 : Nat → Int → List (S52) → Int → Int → List (S52) → Option (Int × (List (S52)) × Bool)
 | 0, _, _, _, _, _ => none
 | k + 1, x1, x6, x7, x306000, x306001 => if x7 < (x306001.length : Int) then (if 0 ≤ x7 then (if 0 ≤ x1 then (if x1 < (((rd_T52 x306001 x7).f0).length : Int) then (if (rd ((rd_T52 x306001 x7).f0) x1) = 0 then (if x6.length < 3518437208883 then (spec_l3Drop.l0 k x1 (x6 ++ [(⟨(rd_T52 x306001 x7).f0, (rd_T52 x306001 x7).f1, (rd_T52 x306001 x7).f2⟩ : S52)]) (wrap64 (x7 + 1)) x306000 x306001) else (none)) else (spec_l3Drop.l0 k x1 x6 (wrap64 (x7 + 1)) x306000 x306001)) else (none)) else (none)) else (none)) else (spec_l3Drop.l1 k x1 x6 0 x306000 x306001)
def spec_l3Drop.l1 : Nat → Int → List (S52) → Int → Int → List (S52) → Option (Int × (List (S52)) × Bool)
 | 0, _, _, _, _, _ => none
 | k + 1, x1, x6, x8, x306000, x306001 => if x8 < (x306001.length : Int) then (spec_l3Drop.l2 k x1 x6 x8 0 x306000 x306001) else ((spec_l3Normal.f k x306000 x6).bind fun ze => (if (ze.2.length : Int) > 16 then (some (0, ([] : List (S52)), false)) else (some (ze.1, ze.2, true))))
def spec_l3Drop.l2 : Nat → Int → List (S52) → Int → Int → Int → List (S52) → Option (Int × (List (S52)) × Bool)
 | 0, _, _, _, _, _, _ => none
 | k + 1, x1, x6, x8, x9, x306000, x306001 => if x9 < (x306001.length : Int) then (if 0 ≤ x8 then (if x8 < (x306001.length : Int) then (if 0 ≤ x1 then (if x1 < (((rd_T52 x306001 x8).f0).length : Int) then (if 0 ≤ x9 then (if x1 < (((rd_T52 x306001 x9).f0).length : Int) then (if (rd ((rd_T52 x306001 x8).f0) x1) ≤ 0 then (spec_l3Drop.j3 k x1 x6 x8 x9 (rd ((rd_T52 x306001 x8).f0) x1) (rd ((rd_T52 x306001 x9).f0) x1) true x306000 x306001) else (spec_l3Drop.j3 k x1 x6 x8 x9 (rd ((rd_T52 x306001 x8).f0) x1) (rd ((rd_T52 x306001 x9).f0) x1) (decide ((rd ((rd_T52 x306001 x9).f0) x1) ≥ 0)) x306000 x306001)) else (none)) else (none)) else (none)) else (none)) else (none)) else (none)) else (spec_l3Drop.l1 k x1 x6 (wrap64 (x8 + 1)) x306000 x306001)
def spec_l3Drop.j3 : Nat → Int → List (S52) → Int → Int → Int → Int → Bool → Int → List (S52) → Option (Int × (List (S52)) × Bool)
 | 0, _, _, _, _, _, _, _, _, _ => none
 | k + 1, x1, x6, x8, x9, x10, x11, x78, x306000, x306001 => if x78 = true then (spec_l3Drop.l2 k x1 x6 x8 (wrap64 (x9 + 1)) x306000 x306001) else (if 0 ≤ x8 then (if x8 < (x306001.length : Int) then (if 0 ≤ x9 then (if x9 < (x306001.length : Int) then ((spec_MixAtoms.f k ((rd_T52 x306001 x8).f0) ((rd_T52 x306001 x8).f1) ((rd_T52 x306001 x8).f2) (wrap64 (-x11)) ((rd_T52 x306001 x9).f0) ((rd_T52 x306001 x9).f1) ((rd_T52 x306001 x9).f2) x10).bind fun qL => (if qL.2.2.2 = true then (if x6.length < 3518437208883 then (spec_l3Drop.l2 k x1 (x6 ++ [(⟨qL.1, qL.2.1, qL.2.2.1⟩ : S52)]) x8 (wrap64 (x9 + 1)) x306000 x306001) else (none)) else (some (0, ([] : List (S52)), false)))) else (none)) else (none)) else (none)) else (none))
end
def spec_l3Drop.f (k : Nat) (a0_0 : Int) (l0_1 : List (S52)) (a1 : Int) : Option (Int × (List (S52)) × Bool) := spec_l3Drop.l0 k a1 (([] : List (S52))) 0 a0_0 l0_1
theorem spec_l3Drop.mono_l : ∀ k, (∀ y0 y1 y2 y3 y4, LeO (spec_l3Drop.l0 k y0 y1 y2 y3 y4) (spec_l3Drop.l0 (k + 1) y0 y1 y2 y3 y4)) ∧ (∀ y0 y1 y2 y3 y4, LeO (spec_l3Drop.l1 k y0 y1 y2 y3 y4) (spec_l3Drop.l1 (k + 1) y0 y1 y2 y3 y4)) ∧ (∀ y0 y1 y2 y3 y4 y5, LeO (spec_l3Drop.l2 k y0 y1 y2 y3 y4 y5) (spec_l3Drop.l2 (k + 1) y0 y1 y2 y3 y4 y5)) ∧ (∀ y0 y1 y2 y3 y4 y5 y6 y7 y8, LeO (spec_l3Drop.j3 k y0 y1 y2 y3 y4 y5 y6 y7 y8) (spec_l3Drop.j3 (k + 1) y0 y1 y2 y3 y4 y5 y6 y7 y8))
 | 0 => ⟨fun _ _ _ _ _ r h => by simp [spec_l3Drop.l0] at h, fun _ _ _ _ _ r h => by simp [spec_l3Drop.l1] at h, fun _ _ _ _ _ _ r h => by simp [spec_l3Drop.l2] at h, fun _ _ _ _ _ _ _ _ _ r h => by simp [spec_l3Drop.j3] at h⟩
 | k + 1 => by
  obtain ⟨ih0, ih1, ih2, ih3⟩ := spec_l3Drop.mono_l k
  refine ⟨?_, ?_, ?_, ?_⟩ <;> (intros; first | unfold spec_l3Drop.l0 | unfold spec_l3Drop.l1 | unfold spec_l3Drop.l2 | unfold spec_l3Drop.j3)
  all_goals
   repeat' first
   | (with_reducible exact ih0 _ _ _ _ _)
   | (with_reducible exact ih1 _ _ _ _ _)
   | (with_reducible exact ih2 _ _ _ _ _ _)
   | (with_reducible exact ih3 _ _ _ _ _ _ _ _ _)
   | (with_reducible exact spec_MixAtoms.mono _ _ _ _ _ _ _ _ _)
   | (with_reducible exact spec_l3Normal.mono _ _ _)
   | (with_reducible exact LeO.refl _)
   | (with_reducible exact LeO.none _)
   | (with_reducible refine LeO.ite ?_ ?_)
   | (with_reducible refine LeO.bind ?_ (fun _ => ?_))
theorem spec_l3Drop.mono : ∀ a0 a1 a2 k, LeO (spec_l3Drop.f k a0 a1 a2) (spec_l3Drop.f (k + 1) a0 a1 a2) := by
 intro a0 a1 a2 k
 obtain ⟨ih0, ih1, ih2, ih3⟩ := spec_l3Drop.mono_l k
 unfold spec_l3Drop.f
 repeat' first
   | (with_reducible exact ih0 _ _ _ _ _)
   | (with_reducible exact ih1 _ _ _ _ _)
   | (with_reducible exact ih2 _ _ _ _ _ _)
   | (with_reducible exact ih3 _ _ _ _ _ _ _ _ _)
   | (with_reducible exact spec_MixAtoms.mono _ _ _ _ _ _ _ _ _)
   | (with_reducible exact spec_l3Normal.mono _ _ _)
   | (with_reducible exact LeO.refl _)
   | (with_reducible exact LeO.none _)
   | (with_reducible refine LeO.ite ?_ ?_)
   | (with_reducible refine LeO.bind ?_ (fun _ => ?_))
def spec_l3Drop.T16 : Bool × List (List Nat × List Nat) := (true, [([], []), ([0], [0]), ([], []), ([1, 2], [1, 2]), ([3], [3]), ([], []), ([5], [5]), ([], []), ([7], [7]), ([], []), ([8, 9], [8, 9]), ([10], [10]), ([], []), ([4, 6, 11, 12], [4, 6, 11, 12]), ([13], [13]), ([14], [14]), ([14], [14]), ([], []), ([17, 15, 13, 0, 1, 2, 3, 4, 5, 6, 7, 8, 9, 10, 11, 12, 13, 14, 15, 17], [15, 17]), ([16, 18, 0, 1, 2, 3, 4, 5, 6, 7, 8, 9, 10, 11, 12, 13, 14, 15, 16, 17, 18], [16])])
def spec_l3Drop.B16 : List Nat := [0, 1, 0, 7, 15, 0, 32, 0, 128, 0, 896, 1920, 0, 8191, 16383, 32767, 32767, 0, 196607, 524287]
theorem spec_l3Drop.tab16 : rtab .any (opsOf Try.f60 16) = spec_l3Drop.T16 := by kernel_rfl
theorem spec_l3Drop.bits16 : waitsOk spec_l3Drop.T16.2 spec_l3Drop.B16 = true := by kernel_rfl
set_option maxHeartbeats 8000000 in
set_option maxRecDepth 100000 in
theorem spec_l3Drop.calls (k : Nat) (a0_0 : Int) (P0_1_ : Nat → Prop) (A0_1 : Option Addr) (c0_1 : Nat) (l0_1 : List (S52)) (a1 : Int) (r1 : Int) (r2 : List (S52)) (r3 : Bool) (w : World) (hs0_1 : Kd.V k52 52 w w.heap.size (fun k_ => P0_1_ k_) (.slice A0_1 l0_1.length c0_1) l0_1) (h : spec_l3Drop.f k a0_0 l0_1 a1 = some (r1, r2, r3)) :
  Calls Try.prog 60 #[.agg #[.int .i64 a0_0, .slice A0_1 l0_1.length c0_1], .int .i64 a1] w fun e w' => ∃ v1_ : Value, e = .returned (.tuple #[.agg #[.int .i64 r1, v1_], .bool r3]) ∧ Kd.V k52 52 w' w.heap.size (fun k_ => (P0_1_ k_ ∨ w.heap.size ≤ k_)) v1_ r2 ∧ Below w.heap.size w w' := by
 have hu28 := Try.underlying28
 have hu52 := Try.underlying52
 have q2 := Aside0.mk (show Kd.V k52 52 w w.heap.size (fun k_ => (P0_1_ k_ ∨ w.heap.size ≤ k_)) (.slice A0_1 l0_1.length c0_1) l0_1 from Kd.V_mono hs0_1 (fun k_ hk => .inl hk))
 have HB := Aside0.mk (Below.refl w.heap.size w)
 have H : (spec_l3Drop.l0 k a1 (([] : List (S52))) 0 a0_0 l0_1) = some (r1, r2, r3) := h
 clear h
 obtain ⟨y307, hy307⟩ : ∃ y_ : List (S52), y_ = (([] : List (S52))) := ⟨_, rfl⟩
 replace H : (spec_l3Drop.l0 k a1 y307 0 a0_0 l0_1) = some (r1, r2, r3) := by first | (rw [hy307]; with_reducible exact H) | (have H2_ := (Option.bind_some _ _).symm.trans H; rw [hy307]; with_reducible exact H2_) | (have H2_ := (Option.bind_some _ _).symm.trans H; with_reducible exact H2_) | with_reducible exact H | (rw [hy307]; exact H) | exact H
 have Ny307 := Aside0.mk hy307
 clear hy307
 have H' := Aside0.mk H
 clear H
 go_enter Try.func60, Try.ntmps60
 go_wp2_with (first | ((with_reducible refine gate_dst (N := 2) rfl ?_); refine bx_ (cs := #[.int .i64 a0_0, .slice A0_1 l0_1.length c0_1]) (t := 28) ?_; intro qh hg w3 hbox hb; replace q2 := vE_ q2 hg hb; have qc := Aside0.mk (hbox); have jX := hz_ HB hg; have jY := hz_ HB hg; replace HB := bS_ HB hb; clear hb hbox hg) | ((with_reducible refine gate_dst (N := 4) rfl ?_); refine bx_ (cs := #[.int .i64 0, .slice none 0 0]) (t := 28) ?_; intro qi hg w4 hbox hb; replace q2 := vE_ q2 hg hb; have qf := Aside0.mk (hbox); have jZ := hz_ HB hg; have j0 := hz_ HB hg; replace HB := bS_ HB hb; have qw := nL_ qc hg; have qx := nG_ qc hg; replace qc := kB_ qc hb; clear hb hbox hg) | ((with_reducible refine gate_dst (N := 15) rfl ?_); refine Kd.N_lit k52 _ 52 ?hg (N' := 15) ?hd (xs := ([] : List (S52))) (inner := []) (ok := (fun k_ => (P0_1_ k_ ∨ w.heap.size ≤ k_) ∧ k_ ≠ qh ∧ k_ ≠ qi)) (okp := (fun k_ => (P0_1_ k_ ∨ w.heap.size ≤ k_) ∧ k_ ≠ qh ∧ k_ ≠ qi)) ?hr ?hp (fun _ hk => hk) ((show ∀ k_, w4.heap.size ≤ k_ → (fun k_ => (P0_1_ k_ ∨ w.heap.size ≤ k_) ∧ k_ ≠ qh ∧ k_ ≠ qi) k_ from fun k_ hk => ⟨(.inr (Nat.le_trans (bz_ HB) hk)), Kd.freshB (g := qh) (o := .cells #[.int .i64 a0_0, .slice A0_1 l0_1.length c0_1] 28 (0, 0)) (kf_ qc) k_ hk, Kd.freshB (g := qi) (o := .cells #[.int .i64 0, .slice none 0 0] 28 (0, 0)) (kf_ qf) k_ hk⟩) _ (Nat.le_refl _)) (Below.refl _ _) (Nat.le_refl _) (by simp) ?_; (case hd => rfl); (case hg => rfl); (case hr => first | (go_simp; done) | (go_simp; rfl)); (case hp => exact (Reps.none _ _)); intro QJ w5 ho6 hb hg_ hnew_; clear hg_ hnew_; (first | rw [← Ny307.out] at ho6 | (simp only [Int.reduceToNat] at ho6; rw [← Ny307.out] at ho6)); replace q2 := Aside0.mk (Kd.V_elder' (vm_ q2) (Kd.N_base ho6) hb); have zs := Aside0.mk (Kd.N_lower ho6 (bz_ HB)); replace qc := kB_ qc hb; replace qf := kB_ qf hb; replace HB := bS_ HB hb; clear hb ho6))
 go_loopg [6, 7] k (fun kq v6 v7 w' => ∃ (q9 : List (S52)) (qu : Int), v7 = .int .i64 qu ∧ Aside0 (spec_l3Drop.l0 kq a1 q9 qu a0_0 l0_1 = some (r1, r2, r3)) ∧ Aside0 (kq ≤ k) ∧ Aside0 (Kd.N k52 52 w' w.heap.size (fun k_ => (P0_1_ k_ ∨ w.heap.size ≤ k_) ∧ k_ ≠ qh ∧ k_ ≠ qi) v6 q9) ∧ Aside0 (Kd.V k52 52 w' w.heap.size (fun k_ => (P0_1_ k_ ∨ w.heap.size ≤ k_) ∧ some k_ ≠ (v6 : Value).ownBlock ∧ k_ ≠ qh ∧ k_ ≠ qi) (.slice A0_1 l0_1.length c0_1) l0_1) ∧ Aside0 (w'.heap[qh]? = some (.cells #[.int .i64 a0_0, (.slice A0_1 l0_1.length c0_1)] 28 (0, 0))) ∧ Aside0 (w'.heap[qi]? = some (.cells #[.int .i64 0, (.slice none 0 0)] 28 (0, 0))) ∧ Aside0 (Below w.heap.size w w'))
 case atStart => exact ⟨(y307), (0), (by first | rfl | (simp; done) | (simp [*]; done)), H', ⟨Nat.le_refl _⟩, ⟨by (with_reducible repeat (first | apply Kd.N_alloc | apply Kd.N_drewN | apply Kd.N_drew)); exact zs.out⟩, ⟨by (with_reducible repeat (first | apply Kd.V_alloc | apply Kd.V_drewN | apply Kd.V_drew)); exact Kd.V_mono q2.out (fun _ hk => ⟨hk.1.1.1, ⟨hk.2, ⟨hk.1.1.2, hk.1.2⟩⟩⟩)⟩, ⟨kf_ qc⟩, ⟨kf_ qf⟩, ⟨bb_ HB⟩⟩
 clear H'
 obtain ⟨q9, qu, rfl, HA, HK1, qm, qa, qc, qf, HB⟩ := hrel
 cases gk with
 | zero => exact absurd HA.out (by simp [spec_l3Drop.l0])
 | succ k1 =>
  have H := HA.out
  clear HA
  simp only [spec_l3Drop.l0] at H
  by_cases c7 : qu < (l0_1.length : Int)
  ·
   rw [if_pos c7] at H
   have jS : decide (qu < (l0_1.length : Int)) = true := decide_eq_true c7
   clear c7
   replace H := ip_ H
   obtain ⟨c8, H⟩ := H
   have QK : decide (0 ≤ qu) = true := decide_eq_true c8
   clear c8
   replace H := ip_ H
   obtain ⟨c9, H⟩ := H
   have QL : decide (0 ≤ a1) = true := decide_eq_true c9
   clear c9
   replace H := ip_ H
   obtain ⟨c10, H⟩ := H
   have j1 : decide (a1 < (((rd_T52 l0_1 qu).f0).length : Int)) = true := decide_eq_true c10
   clear c10
   by_cases c11 : (rd ((rd_T52 l0_1 qu).f0) a1) = 0
   rotate_left
   ·
    rw [if_neg c11] at H
    have zt : ((rd ((rd_T52 l0_1 qu).f0) a1) == 0) = false := beq_eq_false_iff_ne.mpr c11
    have zu : ((rd ((rd_T52 l0_1 qu).f0) a1) != 0) = true := bne_iff_ne.mpr c11
    have H' := Aside0.mk H
    clear H
    have j2 := qw.out
    have j4 := qx.out
    obtain ⟨zK, zL, zM, zN⟩ := b2_ qc
    have p310 : 0 ≤ (qu : Int) := od_
    have q310 : qu < (l0_1.length : Int) := od_
    obtain ⟨za, zp, c310_0, e310, q1, zi, zj, hl310_0, hi310_0⟩ := at_T52 (Kd.V_reads' qa.out).2.2 qu p310 q310
    cases e310
    obtain ⟨ce310, hce310, hMe310, hcc310⟩ := Kd.V_get qa.out z52 qu p310 (by first | exact q310 | exact od_ | (have e_ := (Kd.V_reads' qa.out).1; omega))
    obtain ⟨ua310_0, uc310_0, rfl, ul310_0, ge310_0⟩ := k52_openF hMe310
    have hv310_0 := hcc310 0 _ rfl
    rw [Nat.add_zero] at hv310_0
    replace hv310_0 := Option.some.inj (hv310_0.symm.trans q1)
    injection hv310_0 with hva_ hvn_ hvc_
    rw [hva_] at ge310_0
    rw [hvc_] at ul310_0
    have HL310_0 := Aside0.mk (show Kd.V (Kd.int .i64) 3 _ w.heap.size _ _ ((rd_T52 l0_1 qu).f0) from Kd.V_mk ul310_0 ge310_0)
    clear hva_ hvn_ hvc_ ge310_0 ul310_0
    clear hcc310 hce310
    have qM := Aside0.mk hi310_0
    have zk := Aside0.mk hl310_0
    clear hi310_0 hl310_0
    replace p310 := eq_true p310
    replace q310 := eq_true q310
    have p311 : 0 ≤ (a1 : Int) := od_
    have q311 : a1 < (((rd_T52 l0_1 qu).f0).length : Int) := od_
    obtain ⟨zo, e311, zl⟩ := Kd.at_int (by repeat (first | (with_reducible exact qM.out) | (with_reducible refine Kd.C_alloc ?_ _) | (with_reducible refine Kd.C_drewN ?_ _) | (with_reducible refine Kd.C_drew ?_) | exact qM.out)) a1 p311 q311
    cases e311
    replace p311 := eq_true p311
    replace q311 := eq_true q311
    go_wp2
    go_roundg k1
    case measure => have := HK1.out; omega
    case rel => exact ⟨(q9), (wrap64 (qu + 1)), (by first | rfl | (simp; done) | (simp [*]; done)), H', ⟨by have := HK1.out; omega⟩, ⟨by (with_reducible repeat (first | apply Kd.N_alloc | apply Kd.N_drewN | apply Kd.N_drew)); exact qm.out⟩, ⟨by (with_reducible repeat (first | apply Kd.V_alloc | apply Kd.V_drewN | apply Kd.V_drew)); exact qa.out⟩, ⟨kf_ qc⟩, ⟨kf_ qf⟩, ⟨bb_ HB⟩⟩
   rw [if_pos c11] at H
   have zt : ((rd ((rd_T52 l0_1 qu).f0) a1) == 0) = true := beq_iff_eq.mpr c11
   have zu : ((rd ((rd_T52 l0_1 qu).f0) a1) != 0) = false := bne_eq_false_iff_eq.mpr c11
   clear c11
   replace H := ip_ H
   obtain ⟨c12, H⟩ := H
   have LMc12 := Aside0.mk c12
   clear c12
   obtain ⟨y313, hy313⟩ : ∃ y_ : List (S52), y_ = (q9 ++ [(⟨(rd_T52 l0_1 qu).f0, (rd_T52 l0_1 qu).f1, (rd_T52 l0_1 qu).f2⟩ : S52)]) := ⟨_, rfl⟩
   replace H : (spec_l3Drop.l0 k1 a1 y313 (wrap64 (qu + 1)) a0_0 l0_1) = some (r1, r2, r3) := by first | (rw [hy313]; with_reducible exact H) | (have H2_ := (Option.bind_some _ _).symm.trans H; rw [hy313]; with_reducible exact H2_) | (have H2_ := (Option.bind_some _ _).symm.trans H; with_reducible exact H2_) | with_reducible exact H | (rw [hy313]; exact H) | exact H
   have Ny313 := Aside0.mk hy313
   clear hy313
   have H' := Aside0.mk H
   clear H
   have j5 := qw.out
   have j6 := qx.out
   obtain ⟨zO, zP, zQ, zR⟩ := b2_ qc
   have p310 : 0 ≤ (qu : Int) := od_
   have q310 : qu < (l0_1.length : Int) := od_
   obtain ⟨za, zp, c310_0, e310, q1, zi, zj, hl310_0, hi310_0⟩ := at_T52 (Kd.V_reads' qa.out).2.2 qu p310 q310
   cases e310
   obtain ⟨ce310, hce310, hMe310, hcc310⟩ := Kd.V_get qa.out z52 qu p310 (by first | exact q310 | exact od_ | (have e_ := (Kd.V_reads' qa.out).1; omega))
   obtain ⟨ua310_0, uc310_0, rfl, ul310_0, ge310_0⟩ := k52_openF hMe310
   have hv310_0 := hcc310 0 _ rfl
   rw [Nat.add_zero] at hv310_0
   replace hv310_0 := Option.some.inj (hv310_0.symm.trans q1)
   injection hv310_0 with hva_ hvn_ hvc_
   rw [hva_] at ge310_0
   rw [hvc_] at ul310_0
   have HL310_0 := Aside0.mk (show Kd.V (Kd.int .i64) 3 _ w.heap.size _ _ ((rd_T52 l0_1 qu).f0) from Kd.V_mk ul310_0 ge310_0)
   clear hva_ hvn_ hvc_ ge310_0 ul310_0
   clear hcc310 hce310
   have qM := Aside0.mk hi310_0
   have zk := Aside0.mk hl310_0
   clear hi310_0 hl310_0
   replace p310 := eq_true p310
   replace q310 := eq_true q310
   have p311 : 0 ≤ (a1 : Int) := od_
   have q311 : a1 < (((rd_T52 l0_1 qu).f0).length : Int) := od_
   obtain ⟨zo, e311, zl⟩ := Kd.at_int (by repeat (first | (with_reducible exact qM.out) | (with_reducible refine Kd.C_alloc ?_ _) | (with_reducible refine Kd.C_drewN ?_ _) | (with_reducible refine Kd.C_drew ?_) | exact qM.out)) a1 p311 q311
   cases e311
   replace p311 := eq_true p311
   replace q311 := eq_true q311
   have p312 : 0 ≤ (qu : Int) := od_
   have q312 : qu < (l0_1.length : Int) := od_
   obtain ⟨zv, jT, c312_0, e312, zb, zS, zT, hl312_0, hi312_0⟩ := at_T52 (Kd.V_reads' qa.out).2.2 qu p312 q312
   obtain rfl : za = zv := (by injection e312)
   obtain ⟨ce312, hce312, hMe312, hcc312⟩ := Kd.V_get qa.out z52 qu p312 (by first | exact q312 | exact od_ | (have e_ := (Kd.V_reads' qa.out).1; omega))
   obtain ⟨ua312_0, uc312_0, rfl, ul312_0, ge312_0⟩ := k52_openF hMe312
   have hv312_0 := hcc312 0 _ rfl
   rw [Nat.add_zero] at hv312_0
   replace hv312_0 := Option.some.inj (hv312_0.symm.trans zb)
   injection hv312_0 with hva_ hvn_ hvc_
   rw [hva_] at ge312_0
   rw [hvc_] at ul312_0
   have HL312_0 := Aside0.mk (show Kd.V (Kd.int .i64) 3 _ w.heap.size _ _ ((rd_T52 l0_1 qu).f0) from Kd.V_mk ul312_0 ge312_0)
   clear hva_ hvn_ hvc_ ge312_0 ul312_0
   clear hcc312 hce312
   have zU := Aside0.mk hi312_0
   have zV := Aside0.mk hl312_0
   clear hi312_0 hl312_0
   replace p312 := eq_true p312
   replace q312 := eq_true q312
   have ea_ := Option.some.inj (q1.symm.trans zb)
   injection ea_ with ea_ en_ ec_
   subst ea_
   subst ec_
   clear en_
   go_wp2_with (first | ((with_reducible refine gate_builtin (b := .append) (xs := #[.tmp 33, .tmp 39]) rfl ?_); at_builtin; refine Kd.N_append k52 (w0 := w) w.heap.size rfl (.tmp 33) (.tmp 39) 26 52 (.agg #[(.slice none 0 0), (.int .i64 0), (.bool false)]) 40 rfl Try.underlying26 info52 rfl (by decide) (by omega) u6 q9 (⟨(rd_T52 l0_1 qu).f0, (rd_T52 l0_1 qu).f1, (rd_T52 l0_1 qu).f2⟩ : S52) [.slice (some zo) ((rd_T52 l0_1 qu).f0).length c310_0, .int .i64 ((rd_T52 l0_1 qu).f1), .bool ((rd_T52 l0_1 qu).f2)] (fun k_ => (P0_1_ k_ ∨ w.heap.size ≤ k_) ∧ k_ ≠ qh ∧ k_ ≠ qi) (fun k_ => ((fun k_ => (P0_1_ k_ ∨ w.heap.size ≤ k_) ∧ k_ ≠ qh ∧ k_ ≠ qi)) k_ ∧ some k_ ≠ (u6 : Value).ownBlock) rfl rfl ?aP (fun _ hk => hk) ?aF ?aO ?aB ?aS ?aL ?_; (case aP => exact (k52_mkF _ _ (⟨(rd_T52 l0_1 qu).f0, (rd_T52 l0_1 qu).f1, (rd_T52 l0_1 qu).f2⟩ : S52) (Kd.V_reads' (Kd.V_mono (ok' := (fun k_ => ((fun k_ => (P0_1_ k_ ∨ w.heap.size ≤ k_) ∧ k_ ≠ qh ∧ k_ ≠ qi)) k_ ∧ some k_ ≠ (u6 : Value).ownBlock)) (HL312_0.out) (fun k_ hk => ⟨⟨hk.1, ⟨hk.2.2.1, hk.2.2.2⟩⟩, hk.2.1⟩))).2.1 (Kd.V_F (Kd.V_mono (ok' := (fun k_ => ((fun k_ => (P0_1_ k_ ∨ w.heap.size ≤ k_) ∧ k_ ≠ qh ∧ k_ ≠ qi)) k_ ∧ some k_ ≠ (u6 : Value).ownBlock)) (HL312_0.out) (fun k_ hk => ⟨⟨hk.1, ⟨hk.2.2.1, hk.2.2.2⟩⟩, hk.2.1⟩))))); (case aB => exact (bb_ HB)); (case aF => exact (fun k_ hk => ⟨(.inr (Nat.le_trans (bz_ HB) hk)), Kd.freshB (g := qh) (o := .cells #[.int .i64 a0_0, .slice (some za) l0_1.length c0_1] 28 (0, 0)) (kf_ qc) k_ hk, Kd.freshB (g := qi) (o := .cells #[.int .i64 0, .slice none 0 0] 28 (0, 0)) (kf_ qf) k_ hk⟩)); (case aO => exact (nm_ qm)); (case aS => exact (bz_ HB)); (case aL => have := LMc12.out; omega); intro QM QW ho hb hg hat; rw [← Ny313.out] at ho; replace qa := Aside0.mk (Kd.V_afterv (ok := (fun k_ => (P0_1_ k_ ∨ w.heap.size ≤ k_) ∧ k_ ≠ qh ∧ k_ ≠ qi)) (by (with_reducible repeat (first | apply Kd.V_alloc | apply Kd.V_drewN | apply Kd.V_drew)); exact Kd.V_mono qa.out (fun _ hk => ⟨⟨hk.1, ⟨hk.2.2.1, hk.2.2.2⟩⟩, hk.2.1⟩)) hg hat); replace qc := Aside0.mk (blk_grown (g := qh) (o := .cells #[.int .i64 a0_0, .slice (some za) l0_1.length c0_1] 28 (0, 0)) (kf_ qc) hg (Kd.N_ne qm.out qc.out (by decide))); replace qf := Aside0.mk (blk_grown (g := qi) (o := .cells #[.int .i64 0, .slice none 0 0] 28 (0, 0)) (kf_ qf) hg (Kd.N_ne qm.out qf.out (by decide))); replace HL310_0 := Aside0.mk (Kd.V_afterv (ok := (fun k_ => (P0_1_ k_ ∨ w.heap.size ≤ k_) ∧ k_ ≠ qh ∧ k_ ≠ qi)) (by (with_reducible repeat (first | apply Kd.V_alloc | apply Kd.V_drewN | apply Kd.V_drew)); exact Kd.V_mono HL310_0.out (fun _ hk => ⟨⟨hk.1, ⟨hk.2.2.1, hk.2.2.2⟩⟩, hk.2.1⟩)) hg hat); replace HL312_0 := Aside0.mk (Kd.V_afterv (ok := (fun k_ => (P0_1_ k_ ∨ w.heap.size ≤ k_) ∧ k_ ≠ qh ∧ k_ ≠ qi)) (by (with_reducible repeat (first | apply Kd.V_alloc | apply Kd.V_drewN | apply Kd.V_drew)); exact Kd.V_mono HL312_0.out (fun _ hk => ⟨⟨hk.1, ⟨hk.2.2.1, hk.2.2.2⟩⟩, hk.2.1⟩)) hg hat); replace HB := Aside0.mk (hb); have zw := Aside0.mk (ho); clear qm; clear ho hb hg hat))
   go_roundg k1
   case measure => have := HK1.out; omega
   case rel => exact ⟨(y313), (wrap64 (qu + 1)), (by first | rfl | (simp; done) | (simp [*]; done)), H', ⟨by have := HK1.out; omega⟩, ⟨by (with_reducible repeat (first | apply Kd.N_alloc | apply Kd.N_drewN | apply Kd.N_drew)); exact zw.out⟩, ⟨by (with_reducible repeat (first | apply Kd.V_alloc | apply Kd.V_drewN | apply Kd.V_drew)); exact Kd.V_mono qa.out (fun _ hk => ⟨hk.1.1, ⟨hk.2, ⟨hk.1.2.1, hk.1.2.2⟩⟩⟩)⟩, ⟨kf_ qc⟩, ⟨kf_ qf⟩, ⟨bb_ HB⟩⟩
  rw [if_neg c7] at H
  have jS : decide (qu < (l0_1.length : Int)) = false := decide_eq_false c7
  clear c7
  have H' := Aside0.mk H
  clear H
  have j7 := qw.out
  have j8 := qx.out
  obtain ⟨zW, zX, zY, zZ⟩ := b2_ qc
  go_wp2
  go_loopg [6, 8] k1 (fun kq v6 v8 w' => ∃ (q6 : List (S52)) (qe : Int) (qH : Int), v8 = .int .i64 qe ∧ Aside0 (spec_l3Drop.l1 kq a1 q6 qe a0_0 l0_1 = some (r1, r2, r3)) ∧ Aside0 (kq ≤ k1) ∧ Aside0 (Kd.N k52 52 w' w.heap.size (fun k_ => (P0_1_ k_ ∨ w.heap.size ≤ k_) ∧ k_ ≠ qh ∧ k_ ≠ qi) v6 q6) ∧ Aside0 (Kd.V k52 52 w' w.heap.size (fun k_ => (P0_1_ k_ ∨ w.heap.size ≤ k_) ∧ some k_ ≠ (v6 : Value).ownBlock ∧ k_ ≠ qh ∧ k_ ≠ qi) (.slice A0_1 l0_1.length c0_1) l0_1) ∧ Aside0 (w'.heap[qh]? = some (.cells #[.int .i64 a0_0, (.slice A0_1 l0_1.length c0_1)] 28 (0, 0))) ∧ Aside0 (w'.heap[qi]? = some (.cells #[.int .i64 qH, (.slice none 0 0)] 28 (0, 0))) ∧ Aside0 (Below w.heap.size w w'))
  case atStart => exact ⟨(q9), (0), (0), (by first | rfl | (simp; done) | (simp [*]; done)), H', ⟨Nat.le_refl _⟩, ⟨by (with_reducible repeat (first | apply Kd.N_alloc | apply Kd.N_drewN | apply Kd.N_drew)); exact qm.out⟩, ⟨by (with_reducible repeat (first | apply Kd.V_alloc | apply Kd.V_drewN | apply Kd.V_drew)); exact qa.out⟩, ⟨kf_ qc⟩, ⟨kf_ qf⟩, ⟨bb_ HB⟩⟩
  clear H'
  obtain ⟨q6, qe, qH, rfl, HA, HK2, qm, qa, qc, qf, HB⟩ := hrel
  cases gk with
  | zero => exact absurd HA.out (by simp [spec_l3Drop.l1])
  | succ k2 =>
   have H := HA.out
   clear HA
   simp only [spec_l3Drop.l1] at H
   by_cases c20 : qe < (l0_1.length : Int)
   rotate_left
   ·
    rw [if_neg c20] at H
    have zx : decide (qe < (l0_1.length : Int)) = false := decide_eq_false c20
    clear c20
    replace H := be_ H
    obtain ⟨⟨zd, q0⟩, A680, H⟩ := H
    replace H : (if (q0.length : Int) > 16 then (some (0, ([] : List (S52)), false)) else (some (zd, q0, true))) = some (r1, r2, r3) := H
    have A68 := Aside0.mk A680
    clear A680
    by_cases c69 : (q0.length : Int) > 16
    ·
     rw [if_pos c69] at H
     have zy : decide (16 < (q0.length : Int)) = true := decide_eq_true c69
     have zz : decide (16 < q0.length) = true := decide_eq_true (by omega)
     clear c69
     simp only [Option.some.injEq, Prod.mk.injEq] at H
     obtain ⟨rfl, rfl, rfl⟩ := H
     have j9 := qw.out
     have Qa := qx.out
     obtain ⟨z0, z1, z2, z3⟩ := b2_ qc
     obtain ⟨zA, zB, eo72⟩ := Kd.N_slice qm.out
     subst eo72
     go_wp2_with (first | ((with_reducible refine gate_callee (f := 51) rfl ?_); refine gL_ (some 106) Try.func51 #[.int .i64 a0_0, .slice zA q6.length zB] ?_; (with_reducible refine (spec_l3Normal.calls k2 a0_0 _ _ q6 zd q0 _ ?side1 ?side2 A68.out).mono ?_); (case side1 => repeat (first | exact (Kd.N_reads' qm.out).2.2 | (with_reducible refine Kd.C_alloc ?_ _) | (with_reducible refine Kd.C_drewN ?_ _) | (with_reducible refine Kd.C_drew ?_))); (case side2 => exact (Kd.N_reads' qm.out).2.1); rintro e QX ⟨jU, rfl, ho0, hb⟩; refine ⟨_, rfl, ?_⟩; replace qa := vB_ qa hb; have qZ := Aside0.mk (Kd.V_lower (Kd.V_mono (ok' := fun k_ => (P0_1_ k_ ∨ w.heap.size ≤ k_) ∧ some k_ ≠ (.slice zA q6.length zB : Value).ownBlock ∧ k_ ≠ qh ∧ k_ ≠ qi) ho0 (fun k_ hk_ => ⟨(.inr (Nat.le_trans (bz_ HB) hk_)), (Kd.fresh' (Kd.N_lt (nm_ qm)) k_ hk_), (Kd.freshB (g := qh) (o := .cells #[.int .i64 a0_0, .slice A0_1 l0_1.length c0_1] 28 (0, 0)) (kf_ qc) k_ hk_), (Kd.freshB (g := qi) (o := .cells #[.int .i64 qH, .slice none 0 0] 28 (0, 0)) (kf_ qf) k_ hk_)⟩)) (bz_ HB)); replace qm := nB_ qm hb; replace qc := kB_ qc hb; replace qf := kB_ qf hb; replace HB := bS_ HB hb; clear hb ho0) | ((with_reducible refine gate_dst (N := 14) rfl ?_); refine bx_ (cs := #[.int .i64 0, .slice none 0 0]) (t := 28) ?_; intro zc hg QY hbox hb; replace qm := nE_ qm hg hb; replace qa := vE_ qa hg hb; replace qZ := vE_ qZ hg hb; have zf := Aside0.mk (hbox); have zC := hz_ HB hg; have zD := hz_ HB hg; replace HB := bS_ HB hb; have qV := nL_ qc hg; have qW := nG_ qc hg; replace qc := kB_ qc hb; have qX := nL_ qf hg; have qY := nG_ qf hg; replace qf := kB_ qf hb; clear hb hbox hg; have Qb := qW.out; have Qc := qV.out; have Qd := qY.out; have Qe := qX.out; obtain ⟨z4, z5, z6, z7⟩ := b2_ zf; obtain ⟨QN, QO, eo78⟩ := Kd.V_slice qZ.out; subst eo78; obtain ⟨z8, z9, ja, jb⟩ := b2_ qf))
     refine bodyPost_ret (results_ct rfl _ _ qi 28 #[.int .i64 0, .slice none 0 0] (0, 0) _ rfl (kp_ qf) Try.underlying28 rfl (by kernel_rfl)) rfl ?_
     exact ⟨_, rt_ ⟨Kd.V_nil _ _ _ _ _, bb_ HB⟩⟩
    rw [if_neg c69] at H
    have zy : decide (16 < (q0.length : Int)) = false := decide_eq_false c69
    have zz : decide (16 < q0.length) = false := decide_eq_false (by omega)
    clear c69
    simp only [Option.some.injEq, Prod.mk.injEq] at H
    obtain ⟨rfl, rfl, rfl⟩ := H
    have Qf := qw.out
    have Qg := qx.out
    obtain ⟨jc, jd, je, jf⟩ := b2_ qc
    obtain ⟨zE, zF, eo82⟩ := Kd.N_slice qm.out
    subst eo82
    go_wp2_with (first | ((with_reducible refine gate_callee (f := 51) rfl ?_); refine gL_ (some 106) Try.func51 #[.int .i64 a0_0, .slice zE q6.length zF] ?_; (with_reducible refine (spec_l3Normal.calls k2 a0_0 _ _ q6 zd q0 _ ?side1 ?side2 A68.out).mono ?_); (case side1 => repeat (first | exact (Kd.N_reads' qm.out).2.2 | (with_reducible refine Kd.C_alloc ?_ _) | (with_reducible refine Kd.C_drewN ?_ _) | (with_reducible refine Kd.C_drew ?_))); (case side2 => exact (Kd.N_reads' qm.out).2.1); rintro e QZ ⟨jU, rfl, ho0, hb⟩; refine ⟨_, rfl, ?_⟩; replace qa := vB_ qa hb; have qZ := Aside0.mk (Kd.V_lower (Kd.V_mono (ok' := fun k_ => (P0_1_ k_ ∨ w.heap.size ≤ k_) ∧ some k_ ≠ (.slice zE q6.length zF : Value).ownBlock ∧ k_ ≠ qh ∧ k_ ≠ qi) ho0 (fun k_ hk_ => ⟨(.inr (Nat.le_trans (bz_ HB) hk_)), (Kd.fresh' (Kd.N_lt (nm_ qm)) k_ hk_), (Kd.freshB (g := qh) (o := .cells #[.int .i64 a0_0, .slice A0_1 l0_1.length c0_1] 28 (0, 0)) (kf_ qc) k_ hk_), (Kd.freshB (g := qi) (o := .cells #[.int .i64 qH, .slice none 0 0] 28 (0, 0)) (kf_ qf) k_ hk_)⟩)) (bz_ HB)); replace qm := nB_ qm hb; replace qc := kB_ qc hb; replace qf := kB_ qf hb; replace HB := bS_ HB hb; clear hb ho0) | ((with_reducible refine gate_dst (N := 14) rfl ?_); refine bx_ (cs := #[.int .i64 0, .slice none 0 0]) (t := 28) ?_; intro zc hg Q0 hbox hb; replace qm := nE_ qm hg hb; replace qa := vE_ qa hg hb; replace qZ := vE_ qZ hg hb; have zf := Aside0.mk (hbox); have zC := hz_ HB hg; have zD := hz_ HB hg; replace HB := bS_ HB hb; have qV := nL_ qc hg; have qW := nG_ qc hg; replace qc := kB_ qc hb; have qX := nL_ qf hg; have qY := nG_ qf hg; replace qf := kB_ qf hb; clear hb hbox hg; have Qh := qW.out; have Qi := qV.out; have Qj := qY.out; have Qk := qX.out; obtain ⟨jg, jh, ji, jj⟩ := b2_ zf; obtain ⟨zq, zr, eo88⟩ := Kd.V_slice qZ.out; subst eo88; obtain ⟨jk, jl, jm, jn⟩ := b2_ qf))
    refine bodyPost_ret (results_ct rfl _ _ qi 28 #[.int .i64 zd, .slice zq q0.length zr] (0, 0) _ rfl (kp_ qf) Try.underlying28 rfl (by kernel_rfl)) rfl ?_
    exact ⟨_, rt_ ⟨by (with_reducible repeat (first | apply Kd.V_alloc | apply Kd.V_drewN | apply Kd.V_drew)); exact Kd.V_mono (Kd.V_far (p := ⟨qi, 1, none⟩) (Kd.V_far (p := ⟨qi, 0, none⟩) (Kd.V_far (p := ⟨zc, 1, none⟩) (Kd.V_far (p := ⟨zc, 0, none⟩) (Kd.V_mono (Kd.V_mono qZ.out (fun k_ hk => (⟨hk, hk.2⟩ : _ ∧ k_ ≠ zc))) (fun k_ hk => (⟨hk, hk.1.1.2.2.2⟩ : _ ∧ k_ ≠ qi))) (fun _ hk => hk.1.2) (.int .i64 zd)) (fun _ hk => hk.1.2) (.slice zq q0.length zr)) (fun _ hk => hk.2) (.int .i64 zd)) (fun _ hk => hk.2) (.slice zq q0.length zr)) (fun _ hk => hk.1.1.1.1), bb_ HB⟩⟩
   rw [if_pos c20] at H
   have zx : decide (qe < (l0_1.length : Int)) = true := decide_eq_true c20
   clear c20
   have H' := Aside0.mk H
   clear H
   have Ql := qw.out
   have Qm := qx.out
   obtain ⟨jo, jp, jq, jr⟩ := b2_ qc
   go_wp2
   go_loopg [6, 9] k2 (fun kq v6 v9 w' => ∃ (qG : List (S52)) (qd : Int) (qt : Int), v9 = .int .i64 qd ∧ Aside0 (spec_l3Drop.l2 kq a1 qG qe qd a0_0 l0_1 = some (r1, r2, r3)) ∧ Aside0 (kq ≤ k2) ∧ Aside0 (Kd.N k52 52 w' w.heap.size (fun k_ => (P0_1_ k_ ∨ w.heap.size ≤ k_) ∧ k_ ≠ qh ∧ k_ ≠ qi) v6 qG) ∧ Aside0 (Kd.V k52 52 w' w.heap.size (fun k_ => (P0_1_ k_ ∨ w.heap.size ≤ k_) ∧ some k_ ≠ (v6 : Value).ownBlock ∧ k_ ≠ qh ∧ k_ ≠ qi) (.slice A0_1 l0_1.length c0_1) l0_1) ∧ Aside0 (w'.heap[qh]? = some (.cells #[.int .i64 a0_0, (.slice A0_1 l0_1.length c0_1)] 28 (0, 0))) ∧ Aside0 (w'.heap[qi]? = some (.cells #[.int .i64 qt, (.slice none 0 0)] 28 (0, 0))) ∧ Aside0 (Below w.heap.size w w'))
   case atStart => exact ⟨(q6), (0), (qH), (by first | rfl | (simp; done) | (simp [*]; done)), H', ⟨Nat.le_refl _⟩, ⟨by (with_reducible repeat (first | apply Kd.N_alloc | apply Kd.N_drewN | apply Kd.N_drew)); exact qm.out⟩, ⟨by (with_reducible repeat (first | apply Kd.V_alloc | apply Kd.V_drewN | apply Kd.V_drew)); exact qa.out⟩, ⟨kf_ qc⟩, ⟨kf_ qf⟩, ⟨bb_ HB⟩⟩
   clear H'
   obtain ⟨qG, qd, qt, rfl, HA, HK3, qm, qa, qc, qf, HB⟩ := hrel
   cases gk with
   | zero => exact absurd HA.out (by simp [spec_l3Drop.l2])
   | succ k3 =>
    have H := HA.out
    clear HA
    simp only [spec_l3Drop.l2] at H
    by_cases c23 : qd < (l0_1.length : Int)
    rotate_left
    ·
     rw [if_neg c23] at H
     have zG : decide (qd < (l0_1.length : Int)) = false := decide_eq_false c23
     clear c23
     have H' := Aside0.mk H
     clear H
     have Qn := qw.out
     have Qo := qx.out
     obtain ⟨js, jt, ju, jv⟩ := b2_ qc
     go_wp2
     go_roundg k3
     case measure => have := HK1.out; have := HK2.out; have := HK3.out; omega
     case rel => exact ⟨(qG), (wrap64 (qe + 1)), (qt), (by first | rfl | (simp; done) | (simp [*]; done)), H', ⟨by have := HK1.out; have := HK2.out; have := HK3.out; omega⟩, ⟨by (with_reducible repeat (first | apply Kd.N_alloc | apply Kd.N_drewN | apply Kd.N_drew)); exact qm.out⟩, ⟨by (with_reducible repeat (first | apply Kd.V_alloc | apply Kd.V_drewN | apply Kd.V_drew)); exact qa.out⟩, ⟨kf_ qc⟩, ⟨kf_ qf⟩, ⟨bb_ HB⟩⟩
    rw [if_pos c23] at H
    have zG : decide (qd < (l0_1.length : Int)) = true := decide_eq_true c23
    clear c23
    replace H := ip_ H
    obtain ⟨c24, H⟩ := H
    have Qp : decide (0 ≤ qe) = true := decide_eq_true c24
    clear c24
    replace H := ip_ H
    obtain ⟨c25, H⟩ := H
    have Qq : decide (qe < (l0_1.length : Int)) = true := decide_eq_true c25
    clear c25
    replace H := ip_ H
    obtain ⟨c26, H⟩ := H
    have Qr : decide (0 ≤ a1) = true := decide_eq_true c26
    clear c26
    replace H := ip_ H
    obtain ⟨c27, H⟩ := H
    have Qs : decide (a1 < (((rd_T52 l0_1 qe).f0).length : Int)) = true := decide_eq_true c27
    clear c27
    replace H := ip_ H
    obtain ⟨c28, H⟩ := H
    have Qt : decide (0 ≤ qd) = true := decide_eq_true c28
    clear c28
    replace H := ip_ H
    obtain ⟨c29, H⟩ := H
    have Qu : decide (a1 < (((rd_T52 l0_1 qd).f0).length : Int)) = true := decide_eq_true c29
    clear c29
    have HC30 := Aside0.mk H
    clear H
    have Qv := qw.out
    have Qw := qx.out
    obtain ⟨jw, jx, jy, jz⟩ := b2_ qc
    have p321 : 0 ≤ (qe : Int) := od_
    have q321 : qe < (l0_1.length : Int) := od_
    obtain ⟨qg, jV, c321_0, e321, zm, jA, jB, hl321_0, hi321_0⟩ := at_T52 (Kd.V_reads' qa.out).2.2 qe p321 q321
    cases e321
    obtain ⟨ce321, hce321, hMe321, hcc321⟩ := Kd.V_get qa.out z52 qe p321 (by first | exact q321 | exact od_ | (have e_ := (Kd.V_reads' qa.out).1; omega))
    obtain ⟨ua321_0, uc321_0, rfl, ul321_0, ge321_0⟩ := k52_openF hMe321
    have hv321_0 := hcc321 0 _ rfl
    rw [Nat.add_zero] at hv321_0
    replace hv321_0 := Option.some.inj (hv321_0.symm.trans zm)
    injection hv321_0 with hva_ hvn_ hvc_
    rw [hva_] at ge321_0
    rw [hvc_] at ul321_0
    have HL321_0 := Aside0.mk (show Kd.V (Kd.int .i64) 3 _ w.heap.size _ _ ((rd_T52 l0_1 qe).f0) from Kd.V_mk ul321_0 ge321_0)
    clear hva_ hvn_ hvc_ ge321_0 ul321_0
    clear hcc321 hce321
    have qj := Aside0.mk hi321_0
    have jC := Aside0.mk hl321_0
    clear hi321_0 hl321_0
    replace p321 := eq_true p321
    replace q321 := eq_true q321
    have p322 : 0 ≤ (a1 : Int) := od_
    have q322 : a1 < (((rd_T52 l0_1 qe).f0).length : Int) := od_
    obtain ⟨q3, e322, jD⟩ := Kd.at_int (by repeat (first | (with_reducible exact qj.out) | (with_reducible refine Kd.C_alloc ?_ _) | (with_reducible refine Kd.C_drewN ?_ _) | (with_reducible refine Kd.C_drew ?_) | exact qj.out)) a1 p322 q322
    cases e322
    replace p322 := eq_true p322
    replace q322 := eq_true q322
    have p323 : 0 ≤ (qd : Int) := od_
    have q323 : qd < (l0_1.length : Int) := od_
    obtain ⟨zH, jW, c323_0, e323, zn, jE, jF, hl323_0, hi323_0⟩ := at_T52 (Kd.V_reads' qa.out).2.2 qd p323 q323
    obtain rfl : qg = zH := (by injection e323)
    obtain ⟨ce323, hce323, hMe323, hcc323⟩ := Kd.V_get qa.out z52 qd p323 (by first | exact q323 | exact od_ | (have e_ := (Kd.V_reads' qa.out).1; omega))
    obtain ⟨ua323_0, uc323_0, rfl, ul323_0, ge323_0⟩ := k52_openF hMe323
    have hv323_0 := hcc323 0 _ rfl
    rw [Nat.add_zero] at hv323_0
    replace hv323_0 := Option.some.inj (hv323_0.symm.trans zn)
    injection hv323_0 with hva_ hvn_ hvc_
    rw [hva_] at ge323_0
    rw [hvc_] at ul323_0
    have HL323_0 := Aside0.mk (show Kd.V (Kd.int .i64) 3 _ w.heap.size _ _ ((rd_T52 l0_1 qd).f0) from Kd.V_mk ul323_0 ge323_0)
    clear hva_ hvn_ hvc_ ge323_0 ul323_0
    clear hcc323 hce323
    have qk := Aside0.mk hi323_0
    have jG := Aside0.mk hl323_0
    clear hi323_0 hl323_0
    replace p323 := eq_true p323
    replace q323 := eq_true q323
    have p324 : 0 ≤ (a1 : Int) := od_
    have q324 : a1 < (((rd_T52 l0_1 qd).f0).length : Int) := od_
    obtain ⟨q4, e324, jH⟩ := Kd.at_int (by repeat (first | (with_reducible exact qk.out) | (with_reducible refine Kd.C_alloc ?_ _) | (with_reducible refine Kd.C_drewN ?_ _) | (with_reducible refine Kd.C_drew ?_) | exact qk.out)) a1 p324 q324
    cases e324
    replace p324 := eq_true p324
    replace q324 := eq_true q324
    go_upto_region 15 with (fail)
    go_cut [78] (fun v78 wc => ∃ (kq : Nat) (q7 : Bool), v78 = .bool q7 ∧ Aside0 (spec_l3Drop.j3 kq a1 qG qe qd (rd ((rd_T52 l0_1 qe).f0) a1) (rd ((rd_T52 l0_1 qd).f0) a1) q7 a0_0 l0_1 = some (r1, r2, r3)) ∧ Aside0 (kq ≤ k3) ∧ Aside0 (Kd.N k52 52 wc w.heap.size (fun k_ => (P0_1_ k_ ∨ w.heap.size ≤ k_) ∧ k_ ≠ qh ∧ k_ ≠ qi) u6 qG) ∧ Aside0 (Kd.V k52 52 wc w.heap.size (fun k_ => (P0_1_ k_ ∨ w.heap.size ≤ k_) ∧ some k_ ≠ (u6 : Value).ownBlock ∧ k_ ≠ qh ∧ k_ ≠ qi) (.slice (some qg) l0_1.length c0_1) l0_1) ∧ Aside0 (wc.heap[qh]? = some (.cells #[.int .i64 a0_0, (.slice (some qg) l0_1.length c0_1)] 28 (0, 0))) ∧ Aside0 (wc.heap[qi]? = some (.cells #[.int .i64 qt, (.slice none 0 0)] 28 (0, 0))) ∧ Aside0 (Kd.C (Kd.int .i64) wc (some q3) ((rd_T52 l0_1 qe).f0).length ((rd_T52 l0_1 qe).f0)) ∧ Aside0 (Kd.C (Kd.int .i64) wc (some q4) ((rd_T52 l0_1 qd).f0).length ((rd_T52 l0_1 qd).f0)) ∧ Aside0 (Kd.V (Kd.int .i64) 3 wc w.heap.size (fun k_ => (P0_1_ k_ ∨ w.heap.size ≤ k_)) (.slice (some q3) ((rd_T52 l0_1 qe).f0).length c321_0) ((rd_T52 l0_1 qe).f0)) ∧ Aside0 (Kd.V (Kd.int .i64) 3 wc w.heap.size (fun k_ => (P0_1_ k_ ∨ w.heap.size ≤ k_)) (.slice (some q4) ((rd_T52 l0_1 qd).f0).length c323_0) ((rd_T52 l0_1 qd).f0)) ∧ Aside0 (Below w.heap.size w wc))
    case first =>
     have H := HC30.out
     clear HC30
     by_cases c33 : (rd ((rd_T52 l0_1 qe).f0) a1) ≤ 0
     ·
      rw [if_pos c33] at H
      have q8 : decide ((rd ((rd_T52 l0_1 qe).f0) a1) ≤ 0) = true := decide_eq_true c33
      clear c33
      (first | rw [q8] | (simp only [i64_w, i32_w]; rw [q8]) | skip)
      have H' := Aside0.mk H
      clear H
      go_wp2
      go_meet
      case rel => exact ⟨_, (true), (by first | rfl | (simp; done) | (simp [*]; done)), H', ⟨by have := HK1.out; have := HK2.out; have := HK3.out; first | omega | exact Nat.le_refl _⟩, ⟨by (with_reducible repeat (first | apply Kd.N_alloc | apply Kd.N_drewN | apply Kd.N_drew)); exact qm.out⟩, ⟨by (with_reducible repeat (first | apply Kd.V_alloc | apply Kd.V_drewN | apply Kd.V_drew)); exact qa.out⟩, ⟨kf_ qc⟩, ⟨kf_ qf⟩, ⟨by repeat (first | (with_reducible exact qj.out) | (with_reducible refine Kd.C_alloc ?_ _) | (with_reducible refine Kd.C_drewN ?_ _) | (with_reducible refine Kd.C_drew ?_) | exact qj.out)⟩, ⟨by repeat (first | (with_reducible exact qk.out) | (with_reducible refine Kd.C_alloc ?_ _) | (with_reducible refine Kd.C_drewN ?_ _) | (with_reducible refine Kd.C_drew ?_) | exact qk.out)⟩, ⟨by (with_reducible repeat (first | apply Kd.V_alloc | apply Kd.V_drewN | apply Kd.V_drew)); exact Kd.V_mono HL321_0.out (fun _ hk => hk.1)⟩, ⟨by (with_reducible repeat (first | apply Kd.V_alloc | apply Kd.V_drewN | apply Kd.V_drew)); exact Kd.V_mono HL323_0.out (fun _ hk => hk.1)⟩, ⟨bb_ HB⟩⟩
     rw [if_neg c33] at H
     have q8 : decide ((rd ((rd_T52 l0_1 qe).f0) a1) ≤ 0) = false := decide_eq_false c33
     clear c33
     (first | rw [q8] | (simp only [i64_w, i32_w]; rw [q8]) | skip)
     have H' := Aside0.mk H
     clear H
     go_wp2
     go_meet
     case rel => exact ⟨_, (decide ((rd ((rd_T52 l0_1 qd).f0) a1) ≥ 0)), (by first | rfl | (simp; done) | (simp [*]; done)), H', ⟨by have := HK1.out; have := HK2.out; have := HK3.out; first | omega | exact Nat.le_refl _⟩, ⟨by (with_reducible repeat (first | apply Kd.N_alloc | apply Kd.N_drewN | apply Kd.N_drew)); exact qm.out⟩, ⟨by (with_reducible repeat (first | apply Kd.V_alloc | apply Kd.V_drewN | apply Kd.V_drew)); exact qa.out⟩, ⟨kf_ qc⟩, ⟨kf_ qf⟩, ⟨by repeat (first | (with_reducible exact qj.out) | (with_reducible refine Kd.C_alloc ?_ _) | (with_reducible refine Kd.C_drewN ?_ _) | (with_reducible refine Kd.C_drew ?_) | exact qj.out)⟩, ⟨by repeat (first | (with_reducible exact qk.out) | (with_reducible refine Kd.C_alloc ?_ _) | (with_reducible refine Kd.C_drewN ?_ _) | (with_reducible refine Kd.C_drew ?_) | exact qk.out)⟩, ⟨by (with_reducible repeat (first | apply Kd.V_alloc | apply Kd.V_drewN | apply Kd.V_drew)); exact Kd.V_mono HL321_0.out (fun _ hk => hk.1)⟩, ⟨by (with_reducible repeat (first | apply Kd.V_alloc | apply Kd.V_drewN | apply Kd.V_drew)); exact Kd.V_mono HL323_0.out (fun _ hk => hk.1)⟩, ⟨bb_ HB⟩⟩
    clear HC30
    obtain ⟨kq, q7, rfl, HA, HJ29, qm, qa, qc, qf, qj, qk, HL321_0, HL323_0, HB⟩ := hcut
    cases kq with
    | zero => exact absurd HA.out (by simp [spec_l3Drop.j3])
    | succ kj29 =>
     have H := HA.out
     clear HA
     simp only [spec_l3Drop.j3] at H
     by_cases c34 : q7 = true
     ·
      subst c34
      have H1 : (spec_l3Drop.l2 kj29 a1 qG qe (wrap64 (qd + 1)) a0_0 l0_1) = some (r1, r2, r3) := by rw [if_pos rfl] at H; exact H
      clear H
      have H := H1
      clear H1
      have H' := Aside0.mk H
      clear H
      go_wp2
      go_roundg kj29
      case measure => have := HK1.out; have := HK2.out; have := HK3.out; have := HJ29.out; omega
      case rel => exact ⟨(qG), (wrap64 (qd + 1)), (qt), (by first | rfl | (simp; done) | (simp [*]; done)), H', ⟨by have := HK1.out; have := HK2.out; have := HK3.out; have := HJ29.out; omega⟩, ⟨by (with_reducible repeat (first | apply Kd.N_alloc | apply Kd.N_drewN | apply Kd.N_drew)); exact qm.out⟩, ⟨by (with_reducible repeat (first | apply Kd.V_alloc | apply Kd.V_drewN | apply Kd.V_drew)); exact qa.out⟩, ⟨kf_ qc⟩, ⟨kf_ qf⟩, ⟨bb_ HB⟩⟩
     replace c34 := Bool.eq_false_iff.mpr c34
     subst c34
     have H1 : (if 0 ≤ qe then (if qe < (l0_1.length : Int) then (if 0 ≤ qd then (if qd < (l0_1.length : Int) then ((spec_MixAtoms.f kj29 ((rd_T52 l0_1 qe).f0) ((rd_T52 l0_1 qe).f1) ((rd_T52 l0_1 qe).f2) (wrap64 (-(rd ((rd_T52 l0_1 qd).f0) a1))) ((rd_T52 l0_1 qd).f0) ((rd_T52 l0_1 qd).f1) ((rd_T52 l0_1 qd).f2) (rd ((rd_T52 l0_1 qe).f0) a1)).bind fun qL => (if qL.2.2.2 = true then (if qG.length < 3518437208883 then (spec_l3Drop.l2 kj29 a1 (qG ++ [(⟨qL.1, qL.2.1, qL.2.2.1⟩ : S52)]) qe (wrap64 (qd + 1)) a0_0 l0_1) else (none)) else (some (0, ([] : List (S52)), false)))) else (none)) else (none)) else (none)) else (none)) = some (r1, r2, r3) := by rw [if_neg (show ¬ (false = true) by decide)] at H; exact H
     clear H
     have H := H1
     clear H1
     replace H := ip_ H
     obtain ⟨c35, H⟩ := H
     have Qx : decide (0 ≤ qe) = true := decide_eq_true c35
     clear c35
     replace H := ip_ H
     obtain ⟨c36, H⟩ := H
     have Qy : decide (qe < (l0_1.length : Int)) = true := decide_eq_true c36
     clear c36
     replace H := ip_ H
     obtain ⟨c37, H⟩ := H
     have Qz : decide (0 ≤ qd) = true := decide_eq_true c37
     clear c37
     replace H := ip_ H
     obtain ⟨c38, H⟩ := H
     have QA : decide (qd < (l0_1.length : Int)) = true := decide_eq_true c38
     clear c38
     replace H := be_ H
     obtain ⟨⟨qv, qA, qB, zI⟩, A390, H⟩ := H
     replace H : (if zI = true then (if qG.length < 3518437208883 then (spec_l3Drop.l2 kj29 a1 (qG ++ [(⟨qv, qA, qB⟩ : S52)]) qe (wrap64 (qd + 1)) a0_0 l0_1) else (none)) else (some (0, ([] : List (S52)), false))) = some (r1, r2, r3) := H
     have A39 := Aside0.mk A390
     clear A390
     by_cases c40 : zI = true
     rotate_left
     ·
      replace c40 := Bool.eq_false_iff.mpr c40
      subst c40
      have H1 : (some (0, ([] : List (S52)), false)) = some (r1, r2, r3) := by rw [if_neg (show ¬ (false = true) by decide)] at H; exact H
      clear H
      have H := H1
      clear H1
      simp only [Option.some.injEq, Prod.mk.injEq] at H
      obtain ⟨rfl, rfl, rfl⟩ := H
      try go_wp2
      replace qm := Aside0.mk (Kd.N_drew qm.out); replace qa := Aside0.mk (Kd.V_drew qa.out); replace HL321_0 := Aside0.mk (Kd.V_drew HL321_0.out); replace HL323_0 := Aside0.mk (Kd.V_drew HL323_0.out); replace qc := Aside0.mk (blk_drew qc.out); replace qf := Aside0.mk (blk_drew qf.out); replace qj := Aside0.mk (Kd.C_drew qj.out); replace qk := Aside0.mk (Kd.C_drew qk.out); replace HB := Aside0.mk (below_drew1 HB.out)
      have p325 : 0 ≤ (qe : Int) := od_
      have q325 : qe < (l0_1.length : Int) := od_
      obtain ⟨zg, qy, c325_0, e325, qI, qN, qO, hl325_0, hi325_0⟩ := at_T52 (Kd.V_reads' qa.out).2.2 qe p325 q325
      obtain rfl : qg = zg := (by injection e325)
      obtain ⟨ce325, hce325, hMe325, hcc325⟩ := Kd.V_get qa.out z52 qe p325 (by first | exact q325 | exact od_ | (have e_ := (Kd.V_reads' qa.out).1; omega))
      obtain ⟨ua325_0, uc325_0, rfl, ul325_0, ge325_0⟩ := k52_openF hMe325
      have hv325_0 := hcc325 0 _ rfl
      rw [Nat.add_zero] at hv325_0
      replace hv325_0 := Option.some.inj (hv325_0.symm.trans qI)
      injection hv325_0 with hva_ hvn_ hvc_
      rw [hva_] at ge325_0
      rw [hvc_] at ul325_0
      have HL325_0 := Aside0.mk (show Kd.V (Kd.int .i64) 3 _ w.heap.size _ _ ((rd_T52 l0_1 qe).f0) from Kd.V_mk ul325_0 ge325_0)
      clear hva_ hvn_ hvc_ ge325_0 ul325_0
      clear hcc325 hce325
      have qn := Aside0.mk hi325_0
      have qP := Aside0.mk hl325_0
      clear hi325_0 hl325_0
      replace p325 := eq_true p325
      replace q325 := eq_true q325
      have p326 : 0 ≤ (qd : Int) := od_
      have q326 : qd < (l0_1.length : Int) := od_
      obtain ⟨zh, qz, c326_0, e326, qJ, qQ, qR, hl326_0, hi326_0⟩ := at_T52 (Kd.V_reads' qa.out).2.2 qd p326 q326
      obtain rfl : qg = zh := (by injection e326)
      obtain ⟨ce326, hce326, hMe326, hcc326⟩ := Kd.V_get qa.out z52 qd p326 (by first | exact q326 | exact od_ | (have e_ := (Kd.V_reads' qa.out).1; omega))
      obtain ⟨ua326_0, uc326_0, rfl, ul326_0, ge326_0⟩ := k52_openF hMe326
      have hv326_0 := hcc326 0 _ rfl
      rw [Nat.add_zero] at hv326_0
      replace hv326_0 := Option.some.inj (hv326_0.symm.trans qJ)
      injection hv326_0 with hva_ hvn_ hvc_
      rw [hva_] at ge326_0
      rw [hvc_] at ul326_0
      have HL326_0 := Aside0.mk (show Kd.V (Kd.int .i64) 3 _ w.heap.size _ _ ((rd_T52 l0_1 qd).f0) from Kd.V_mk ul326_0 ge326_0)
      clear hva_ hvn_ hvc_ ge326_0 ul326_0
      clear hcc326 hce326
      have qo := Aside0.mk hi326_0
      have qS := Aside0.mk hl326_0
      clear hi326_0 hl326_0
      replace p326 := eq_true p326
      replace q326 := eq_true q326
      refine start_ (n := 20) (S := fun w' => w'.cell? ⟨qh, 0, none⟩ = some (.int .i64 a0_0) ∧ w'.cell? ⟨qh, 1, none⟩ = some (.slice (some qg) l0_1.length c0_1) ∧ w'.cell? (qg.add ((qe).toNat * 3)) = some (.slice qy ((rd_T52 l0_1 qe).f0).length c325_0) ∧ w'.cell? ⟨(qg.add ((qe).toNat * 3)).block, (qg.add ((qe).toNat * 3)).off + 1, none⟩ = some (.int .i64 ((rd_T52 l0_1 qe).f1)) ∧ w'.cell? ⟨(qg.add ((qe).toNat * 3)).block, (qg.add ((qe).toNat * 3)).off + 2, none⟩ = some (.bool ((rd_T52 l0_1 qe).f2)) ∧ w'.cell? (qg.add ((qd).toNat * 3)) = some (.slice qz ((rd_T52 l0_1 qd).f0).length c326_0) ∧ w'.cell? ⟨(qg.add ((qd).toNat * 3)).block, (qg.add ((qd).toNat * 3)).off + 1, none⟩ = some (.int .i64 ((rd_T52 l0_1 qd).f1)) ∧ w'.cell? ⟨(qg.add ((qd).toNat * 3)).block, (qg.add ((qd).toNat * 3)).off + 2, none⟩ = some (.bool ((rd_T52 l0_1 qd).f2))) (ds := []) (fl_ 20 0) (by kernel_rfl) rfl rfl ⟨bc_ qc 0, bc_ qc 1, qI, qN, qO, qJ, qQ, qR⟩ (fun hHeld => ?_); refine with_tabW spec_l3Drop.tab16 spec_l3Drop.bits16 (fun HT_ HW_ => ?_)
      generalize wc.drew = Q1 at qm qa HL321_0 HL323_0 qc qf qj qk HB HL325_0 HL326_0 qn qo qI qN qO qJ qQ qR hHeld ⊢
      refine pX_ 0 (some 80) (fl_ 20 1) HT_ ?_
      refine pX_ 2 (some 82) (fl_ 20 5) HT_ ?_
      refine pX_ 5 (some 85) (fl_ 20 37) HT_ ?_
      refine pX_ 6 (some 86) (fl_ 20 101) HT_ ?_
      refine pX_ 7 (some 87) (fl_ 20 229) HT_ ?_
      refine pX_ 9 (some 89) (fl_ 20 741) HT_ ?_
      refine pX_ 12 (some 92) (fl_ 20 4837) HT_ ?_
      refine tX_ 1 (some 81) (fl_ 20 4839) rfl rfl HT_ HW_ hHeld (by rintro w' ⟨s0, s1, s2, s3, s4, s5, s6, s7⟩; go_simp; with_reducible rfl) ?_
      refine pX_ 3 (some 83) (fl_ 20 4847) HT_ ?_
      refine tX_ 4 (some 84) (fl_ 20 4863) rfl rfl HT_ HW_ hHeld (by rintro w' ⟨s0, s1, s2, s3, s4, s5, s6, s7⟩; go_simp; with_reducible rfl) ?_
      refine tX_ 8 (some 88) (fl_ 20 5119) rfl rfl HT_ HW_ hHeld (by rintro w' ⟨s0, s1, s2, s3, s4, s5, s6, s7⟩; go_simp; with_reducible rfl) ?_
      refine pX_ 10 (some 90) (fl_ 20 6143) HT_ ?_
      refine tX_ 11 (some 91) (fl_ 20 8191) rfl rfl HT_ HW_ hHeld (by rintro w' ⟨s0, s1, s2, s3, s4, s5, s6, s7⟩; go_simp; with_reducible rfl) ?_
      refine join_ (σ := Value × Nat) 2 (fl_ 20 262143) (fun s_ => [(93, .tuple #[.agg #[s_.1, .int .i64 qA, .bool qB], .bool false]), (12, .pointer (some ⟨s_.2, 0, none⟩)), (79, .tuple #[.agg #[s_.1, .int .i64 qA, .bool qB], .bool false]), (94, .agg #[s_.1, .int .i64 qA, .bool qB]), (95, .bool false)]) (fun s_ w' => (w'.cell? ⟨qh, 0, none⟩ = some (.int .i64 a0_0) ∧ w'.cell? ⟨qh, 1, none⟩ = some (.slice (some qg) l0_1.length c0_1) ∧ w'.cell? (qg.add ((qe).toNat * 3)) = some (.slice qy ((rd_T52 l0_1 qe).f0).length c325_0) ∧ w'.cell? ⟨(qg.add ((qe).toNat * 3)).block, (qg.add ((qe).toNat * 3)).off + 1, none⟩ = some (.int .i64 ((rd_T52 l0_1 qe).f1)) ∧ w'.cell? ⟨(qg.add ((qe).toNat * 3)).block, (qg.add ((qe).toNat * 3)).off + 2, none⟩ = some (.bool ((rd_T52 l0_1 qe).f2)) ∧ w'.cell? (qg.add ((qd).toNat * 3)) = some (.slice qz ((rd_T52 l0_1 qd).f0).length c326_0) ∧ w'.cell? ⟨(qg.add ((qd).toNat * 3)).block, (qg.add ((qd).toNat * 3)).off + 1, none⟩ = some (.int .i64 ((rd_T52 l0_1 qd).f1)) ∧ w'.cell? ⟨(qg.add ((qd).toNat * 3)).block, (qg.add ((qd).toNat * 3)).off + 2, none⟩ = some (.bool ((rd_T52 l0_1 qd).f2))) ∧ (Kd.V (Kd.int .i64) 3 w' w.heap.size (fun k_ => (P0_1_ k_ ∨ w.heap.size ≤ k_) ∧ some k_ ≠ (s_.1 : Value).ownBlock ∧ k_ ≠ s_.2) (.slice (some q3) ((rd_T52 l0_1 qe).f0).length c321_0) ((rd_T52 l0_1 qe).f0)) ∧ (Kd.V (Kd.int .i64) 3 w' w.heap.size (fun k_ => (P0_1_ k_ ∨ w.heap.size ≤ k_) ∧ some k_ ≠ (s_.1 : Value).ownBlock ∧ k_ ≠ s_.2) (.slice (some q4) ((rd_T52 l0_1 qd).f0).length c323_0) ((rd_T52 l0_1 qd).f0)) ∧ (Kd.V (Kd.int .i64) 3 w' w.heap.size (fun k_ => (P0_1_ k_ ∨ w.heap.size ≤ k_) ∧ some k_ ≠ (s_.1 : Value).ownBlock ∧ some k_ ≠ (u6 : Value).ownBlock ∧ k_ ≠ qh ∧ k_ ≠ qi ∧ k_ ≠ s_.2) (.slice qy ((rd_T52 l0_1 qe).f0).length c325_0) ((rd_T52 l0_1 qe).f0)) ∧ (Kd.V (Kd.int .i64) 3 w' w.heap.size (fun k_ => (P0_1_ k_ ∨ w.heap.size ≤ k_) ∧ some k_ ≠ (s_.1 : Value).ownBlock ∧ some k_ ≠ (u6 : Value).ownBlock ∧ k_ ≠ qh ∧ k_ ≠ qi ∧ k_ ≠ s_.2) (.slice qz ((rd_T52 l0_1 qd).f0).length c326_0) ((rd_T52 l0_1 qd).f0)) ∧ (Kd.R (Kd.int .i64) 3 w' w.heap.size (fun k_ => (w.heap.size ≤ k_)) s_.1 qv) ∧ (Kd.V k52 52 w' w.heap.size (fun k_ => (P0_1_ k_ ∨ w.heap.size ≤ k_) ∧ some k_ ≠ (s_.1 : Value).ownBlock ∧ some k_ ≠ (u6 : Value).ownBlock ∧ k_ ≠ qh ∧ k_ ≠ qi ∧ k_ ≠ s_.2) (.slice (some qg) l0_1.length c0_1) l0_1) ∧ (Kd.N k52 52 w' w.heap.size (fun k_ => (P0_1_ k_ ∨ w.heap.size ≤ k_) ∧ some k_ ≠ (s_.1 : Value).ownBlock ∧ k_ ≠ qh ∧ k_ ≠ qi ∧ k_ ≠ s_.2) u6 qG) ∧ (w'.heap[qh]? = some (.cells #[.int .i64 a0_0, .slice (some qg) l0_1.length c0_1] 28 (0, 0))) ∧ (w'.heap[qi]? = some (.cells #[.int .i64 qt, .slice none 0 0] 28 (0, 0))) ∧ (w'.heap[s_.2]? = some (.cells #[.slice none 0 0, .int .i64 0, .bool false] 52 (0, 0))) ∧ (w.heap.size ≤ s_.2) ∧ (w.heap.size ≤ s_.2) ∧ (qh ≠ s_.2) ∧ (s_.2 ≠ qh) ∧ (qi ≠ s_.2) ∧ (s_.2 ≠ qi) ∧ (Below w.heap.size w w')) ?_ ?_
      rotate_left
      ·
       intro hCont
       refine two_ (i := 13) (j := 17) (Ni := some 93) (Nj := some 12) (fl_ 20 16383) (fl_ 20 139263) rfl rfl rfl rfl (two_of HT_.out (by kernel_rfl)) (by decide) (by decide) (fun K hK => ?_) (fun K hK => ?_)
       ·
        skip
        refine goes_ Try.func102 (by kernel_rfl) rfl #[.agg #[.slice qy ((rd_T52 l0_1 qe).f0).length c325_0, .int .i64 ((rd_T52 l0_1 qe).f1), .bool ((rd_T52 l0_1 qe).f2)], .int .i64 (wrap64 (-(rd ((rd_T52 l0_1 qd).f0) a1))), .agg #[.slice qz ((rd_T52 l0_1 qd).f0).length c326_0, .int .i64 ((rd_T52 l0_1 qd).f1), .bool ((rd_T52 l0_1 qd).f2)], .int .i64 (rd ((rd_T52 l0_1 qe).f0) a1)] (by rfl) rfl rfl (by (try simp only [List.map_toArray, List.map_cons, List.map_nil]); first | done | rfl | (simp only [List.length_drop, List.length_take]; rfl)) ?_
        with_reducible refine (spec_MixAtoms.calls kj29 _ _ ((rd_T52 l0_1 qe).f0) ((rd_T52 l0_1 qe).f1) ((rd_T52 l0_1 qe).f2) (wrap64 (-(rd ((rd_T52 l0_1 qd).f0) a1))) _ _ ((rd_T52 l0_1 qd).f0) ((rd_T52 l0_1 qd).f1) ((rd_T52 l0_1 qd).f2) (rd ((rd_T52 l0_1 qe).f0) a1) qv qA qB false _ ?side1 ?side2 ?side3 ?side4 A39.out).mono ?_
        (case side1 => repeat (first | exact (by repeat (first | (with_reducible exact qn.out) | (with_reducible refine Kd.C_alloc ?_ _) | (with_reducible refine Kd.C_drewN ?_ _) | (with_reducible refine Kd.C_drew ?_) | exact qn.out)) | (with_reducible refine Kd.C_alloc ?_ _) | (with_reducible refine Kd.C_drewN ?_ _) | (with_reducible refine Kd.C_drew ?_)))
        (case side2 => exact qP.out)
        (case side3 => repeat (first | exact (by repeat (first | (with_reducible exact qo.out) | (with_reducible refine Kd.C_alloc ?_ _) | (with_reducible refine Kd.C_drewN ?_ _) | (with_reducible refine Kd.C_drew ?_) | exact qo.out)) | (with_reducible refine Kd.C_alloc ?_ _) | (with_reducible refine Kd.C_drewN ?_ _) | (with_reducible refine Kd.C_drew ?_)))
        (case side4 => exact qS.out)
        rintro e QP ⟨qF, rfl, ho0, hb⟩
        have HS2_ := (hb.cell (World.block_lt_of_cell? _ _ (hHeld.2.2.1))).trans (hHeld.2.2.1)
        have HS3_ := (hb.cell (World.block_lt_of_cell? _ _ (hHeld.2.2.2.1))).trans (hHeld.2.2.2.1)
        have HS4_ := (hb.cell (World.block_lt_of_cell? _ _ (hHeld.2.2.2.2.1))).trans (hHeld.2.2.2.2.1)
        have HS5_ := (hb.cell (World.block_lt_of_cell? _ _ (hHeld.2.2.2.2.2.1))).trans (hHeld.2.2.2.2.2.1)
        have HS6_ := (hb.cell (World.block_lt_of_cell? _ _ (hHeld.2.2.2.2.2.2.1))).trans (hHeld.2.2.2.2.2.2.1)
        have HS7_ := (hb.cell (World.block_lt_of_cell? _ _ (hHeld.2.2.2.2.2.2.2))).trans (hHeld.2.2.2.2.2.2.2)
        refine ⟨_, rfl, ?_⟩
        replace qm := Aside0.mk (Kd.N_elder' (nm_ qm) (Kd.R_base ho0) hb); replace qa := Aside0.mk (Kd.V_elder' (vm_ qa) (Kd.R_base ho0) hb); replace HL321_0 := Aside0.mk (Kd.V_elder' (vm_ HL321_0) (Kd.R_base ho0) hb); replace HL323_0 := Aside0.mk (Kd.V_elder' (vm_ HL323_0) (Kd.R_base ho0) hb); replace HL325_0 := Aside0.mk (Kd.V_elder' (vm_ HL325_0) (Kd.R_base ho0) hb); replace HL326_0 := Aside0.mk (Kd.V_elder' (vm_ HL326_0) (Kd.R_base ho0) hb); have qC := Aside0.mk (Kd.R_lower (Kd.R_newM (M := fun k_ => (w.heap.size ≤ k_)) ho0 (bz_ HB) (fun k_ h_ => h_)) (bz_ HB)); replace qc := kB_ qc hb; replace qf := kB_ qf hb; replace qj := cB_ qj hb; replace qk := cB_ qk hb; replace qn := cB_ qn hb; replace qo := cB_ qo hb; replace HB := bS_ HB hb; (try clear hb); (try clear hb2); (try clear hk); (try clear hi); (try clear ho0)
        refine hK.out _ _ ⟨bc_ qc 0, bc_ qc 1, HS2_, HS3_, HS4_, HS5_, HS6_, HS7_⟩ (fun hHeld => ?_)
        clear hK K
        refine norm_ (a' := ?_) ?_ ?_
        rotate_left
        ·
         show Act.put _ (some 93) _ = _
         simp only [Act.put, sa_, s0_, s1_, i64_w, i32_w]
         rfl
        refine pX_ 14 (some 79) (fl_ 20 32767) HT_ ?_
        refine pX_ 15 (some 94) (fl_ 20 65535) HT_ ?_
        refine pX_ 16 (some 95) (fl_ 20 131071) HT_ ?_
        refine one_ (i := 17) (N := some 12) (fl_ 20 262143) rfl rfl (one_of HT_.out (by kernel_rfl)) (by decide) (fun K hK => ?_)
        refine box_step ?hg (N := 12) ?hd (cs := #[.slice none 0 0, .int .i64 0, .bool false]) (t := 52) ?hr ?_; (case hd => rfl); (case hg => rfl); (case hr => first | (go_simp; done) | (go_simp; rfl))
        intro qb hg QQ hbox hb
        have HS2_ := (hb.cell (World.block_lt_of_cell? _ _ (hHeld.2.2.1))).trans (hHeld.2.2.1)
        have HS3_ := (hb.cell (World.block_lt_of_cell? _ _ (hHeld.2.2.2.1))).trans (hHeld.2.2.2.1)
        have HS4_ := (hb.cell (World.block_lt_of_cell? _ _ (hHeld.2.2.2.2.1))).trans (hHeld.2.2.2.2.1)
        have HS5_ := (hb.cell (World.block_lt_of_cell? _ _ (hHeld.2.2.2.2.2.1))).trans (hHeld.2.2.2.2.2.1)
        have HS6_ := (hb.cell (World.block_lt_of_cell? _ _ (hHeld.2.2.2.2.2.2.1))).trans (hHeld.2.2.2.2.2.2.1)
        have HS7_ := (hb.cell (World.block_lt_of_cell? _ _ (hHeld.2.2.2.2.2.2.2))).trans (hHeld.2.2.2.2.2.2.2)
        replace qm := nE_ qm hg hb; replace qa := vE_ qa hg hb; replace HL321_0 := vE_ HL321_0 hg hb; replace HL323_0 := vE_ HL323_0 hg hb; replace HL325_0 := vE_ HL325_0 hg hb; replace HL326_0 := vE_ HL326_0 hg hb; replace qC := rB_ qC hb; replace qj := cB_ qj hb; replace qk := cB_ qk hb; replace qn := cB_ qn hb; replace qo := cB_ qo hb; have qs := Aside0.mk (hbox); have qT := hz_ HB hg; have qU := hz_ HB hg; replace HB := bS_ HB hb; have ql := nL_ qc hg; have qr := nG_ qc hg; replace qc := kB_ qc hb; have qp := nL_ qf hg; have qq := nG_ qf hg; replace qf := kB_ qf hb; clear hb hbox hg
        refine hK.out _ _ ⟨bc_ qc 0, bc_ qc 1, HS2_, HS3_, HS4_, HS5_, HS6_, HS7_⟩ (fun hHeld => ?_)
        clear hK K
        refine norm_ (a' := ?_) ?_ ?_
        rotate_left
        ·
         show Act.put _ (some 12) _ = _
         simp only [Act.put, sa_, s0_, s1_, i64_w, i32_w]
         rfl
        exact norm_ (by simp only [putAll, Act.put, List.setIfInBounds_toArray, List.set_cons_zero, List.set_cons_succ]) (hCont (qF, qb) _ ⟨hHeld, (by (with_reducible repeat (first | apply Kd.V_alloc | apply Kd.V_drewN | apply Kd.V_drew)); exact Kd.V_mono HL321_0.out (fun _ hk => ⟨hk.1.1, ⟨hk.1.2, hk.2⟩⟩)), (by (with_reducible repeat (first | apply Kd.V_alloc | apply Kd.V_drewN | apply Kd.V_drew)); exact Kd.V_mono HL323_0.out (fun _ hk => ⟨hk.1.1, ⟨hk.1.2, hk.2⟩⟩)), (by (with_reducible repeat (first | apply Kd.V_alloc | apply Kd.V_drewN | apply Kd.V_drew)); exact Kd.V_mono HL325_0.out (fun _ hk => ⟨hk.1.1.1, ⟨hk.1.2, ⟨hk.1.1.2.1, ⟨hk.1.1.2.2.1, ⟨hk.1.1.2.2.2, hk.2⟩⟩⟩⟩⟩)), (by (with_reducible repeat (first | apply Kd.V_alloc | apply Kd.V_drewN | apply Kd.V_drew)); exact Kd.V_mono HL326_0.out (fun _ hk => ⟨hk.1.1.1, ⟨hk.1.2, ⟨hk.1.1.2.1, ⟨hk.1.1.2.2.1, ⟨hk.1.1.2.2.2, hk.2⟩⟩⟩⟩⟩)), (by (with_reducible repeat (first | apply Kd.R_alloc | apply Kd.R_drewN | apply Kd.R_drew)); exact Kd.R_mono qC.out (fun _ hk => hk.1)), (by (with_reducible repeat (first | apply Kd.V_alloc | apply Kd.V_drewN | apply Kd.V_drew)); exact Kd.V_mono qa.out (fun _ hk => ⟨hk.1.1.1, ⟨hk.1.2, ⟨hk.1.1.2.1, ⟨hk.1.1.2.2.1, ⟨hk.1.1.2.2.2, hk.2⟩⟩⟩⟩⟩)), (by (with_reducible repeat (first | apply Kd.N_alloc | apply Kd.N_drewN | apply Kd.N_drew)); exact Kd.N_mono qm.out (fun _ hk => ⟨hk.1.1.1, ⟨hk.1.2, ⟨hk.1.1.2.1, ⟨hk.1.1.2.2, hk.2⟩⟩⟩⟩)), (kf_ qc), (kf_ qf), (kf_ qs), qT.out, qU.out, ql.out, qr.out, qp.out, qq.out, (bb_ HB)⟩)
       skip
       refine box_step ?hg (N := 12) ?hd (cs := #[.slice none 0 0, .int .i64 0, .bool false]) (t := 52) ?hr ?_; (case hd => rfl); (case hg => rfl); (case hr => first | (go_simp; done) | (go_simp; rfl))
       intro qb hg QP hbox hb
       have HS2_ := (hb.cell (World.block_lt_of_cell? _ _ (hHeld.2.2.1))).trans (hHeld.2.2.1)
       have HS3_ := (hb.cell (World.block_lt_of_cell? _ _ (hHeld.2.2.2.1))).trans (hHeld.2.2.2.1)
       have HS4_ := (hb.cell (World.block_lt_of_cell? _ _ (hHeld.2.2.2.2.1))).trans (hHeld.2.2.2.2.1)
       have HS5_ := (hb.cell (World.block_lt_of_cell? _ _ (hHeld.2.2.2.2.2.1))).trans (hHeld.2.2.2.2.2.1)
       have HS6_ := (hb.cell (World.block_lt_of_cell? _ _ (hHeld.2.2.2.2.2.2.1))).trans (hHeld.2.2.2.2.2.2.1)
       have HS7_ := (hb.cell (World.block_lt_of_cell? _ _ (hHeld.2.2.2.2.2.2.2))).trans (hHeld.2.2.2.2.2.2.2)
       replace qm := nE_ qm hg hb; replace qa := vE_ qa hg hb; replace HL321_0 := vE_ HL321_0 hg hb; replace HL323_0 := vE_ HL323_0 hg hb; replace HL325_0 := vE_ HL325_0 hg hb; replace HL326_0 := vE_ HL326_0 hg hb; replace qj := cB_ qj hb; replace qk := cB_ qk hb; replace qn := cB_ qn hb; replace qo := cB_ qo hb; have qs := Aside0.mk (hbox); have qT := hz_ HB hg; have qU := hz_ HB hg; replace HB := bS_ HB hb; have ql := nL_ qc hg; have qr := nG_ qc hg; replace qc := kB_ qc hb; have qp := nL_ qf hg; have qq := nG_ qf hg; replace qf := kB_ qf hb; clear hb hbox hg
       refine hK.out _ _ ⟨bc_ qc 0, bc_ qc 1, HS2_, HS3_, HS4_, HS5_, HS6_, HS7_⟩ (fun hHeld => ?_)
       clear hK K
       refine norm_ (a' := ?_) ?_ ?_
       rotate_left
       ·
        show Act.put _ (some 12) _ = _
        simp only [Act.put, sa_, s0_, s1_, i64_w, i32_w]
        rfl
       refine one_ (i := 13) (N := some 93) (fl_ 20 147455) rfl rfl (one_of HT_.out (by kernel_rfl)) (by decide) (fun K hK => ?_)
       refine goes_ Try.func102 (by kernel_rfl) rfl #[.agg #[.slice qy ((rd_T52 l0_1 qe).f0).length c325_0, .int .i64 ((rd_T52 l0_1 qe).f1), .bool ((rd_T52 l0_1 qe).f2)], .int .i64 (wrap64 (-(rd ((rd_T52 l0_1 qd).f0) a1))), .agg #[.slice qz ((rd_T52 l0_1 qd).f0).length c326_0, .int .i64 ((rd_T52 l0_1 qd).f1), .bool ((rd_T52 l0_1 qd).f2)], .int .i64 (rd ((rd_T52 l0_1 qe).f0) a1)] (by rfl) rfl rfl (by (try simp only [List.map_toArray, List.map_cons, List.map_nil]); first | done | rfl | (simp only [List.length_drop, List.length_take]; rfl)) ?_
       with_reducible refine (spec_MixAtoms.calls kj29 _ _ ((rd_T52 l0_1 qe).f0) ((rd_T52 l0_1 qe).f1) ((rd_T52 l0_1 qe).f2) (wrap64 (-(rd ((rd_T52 l0_1 qd).f0) a1))) _ _ ((rd_T52 l0_1 qd).f0) ((rd_T52 l0_1 qd).f1) ((rd_T52 l0_1 qd).f2) (rd ((rd_T52 l0_1 qe).f0) a1) qv qA qB false _ ?side1 ?side2 ?side3 ?side4 A39.out).mono ?_
       (case side1 => repeat (first | exact (by repeat (first | (with_reducible exact qn.out) | (with_reducible refine Kd.C_alloc ?_ _) | (with_reducible refine Kd.C_drewN ?_ _) | (with_reducible refine Kd.C_drew ?_) | exact qn.out)) | (with_reducible refine Kd.C_alloc ?_ _) | (with_reducible refine Kd.C_drewN ?_ _) | (with_reducible refine Kd.C_drew ?_)))
       (case side2 => exact qP.out)
       (case side3 => repeat (first | exact (by repeat (first | (with_reducible exact qo.out) | (with_reducible refine Kd.C_alloc ?_ _) | (with_reducible refine Kd.C_drewN ?_ _) | (with_reducible refine Kd.C_drew ?_) | exact qo.out)) | (with_reducible refine Kd.C_alloc ?_ _) | (with_reducible refine Kd.C_drewN ?_ _) | (with_reducible refine Kd.C_drew ?_)))
       (case side4 => exact qS.out)
       rintro e QQ ⟨qF, rfl, ho0, hb⟩
       have HS2_ := (hb.cell (World.block_lt_of_cell? _ _ (hHeld.2.2.1))).trans (hHeld.2.2.1)
       have HS3_ := (hb.cell (World.block_lt_of_cell? _ _ (hHeld.2.2.2.1))).trans (hHeld.2.2.2.1)
       have HS4_ := (hb.cell (World.block_lt_of_cell? _ _ (hHeld.2.2.2.2.1))).trans (hHeld.2.2.2.2.1)
       have HS5_ := (hb.cell (World.block_lt_of_cell? _ _ (hHeld.2.2.2.2.2.1))).trans (hHeld.2.2.2.2.2.1)
       have HS6_ := (hb.cell (World.block_lt_of_cell? _ _ (hHeld.2.2.2.2.2.2.1))).trans (hHeld.2.2.2.2.2.2.1)
       have HS7_ := (hb.cell (World.block_lt_of_cell? _ _ (hHeld.2.2.2.2.2.2.2))).trans (hHeld.2.2.2.2.2.2.2)
       refine ⟨_, rfl, ?_⟩
       replace qm := Aside0.mk (Kd.N_elder' (nm_ qm) (Kd.R_base ho0) hb); replace qa := Aside0.mk (Kd.V_elder' (vm_ qa) (Kd.R_base ho0) hb); replace HL321_0 := Aside0.mk (Kd.V_elder' (vm_ HL321_0) (Kd.R_base ho0) hb); replace HL323_0 := Aside0.mk (Kd.V_elder' (vm_ HL323_0) (Kd.R_base ho0) hb); replace HL325_0 := Aside0.mk (Kd.V_elder' (vm_ HL325_0) (Kd.R_base ho0) hb); replace HL326_0 := Aside0.mk (Kd.V_elder' (vm_ HL326_0) (Kd.R_base ho0) hb); have qC := Aside0.mk (Kd.R_lower (Kd.R_newM (M := fun k_ => (w.heap.size ≤ k_)) ho0 (bz_ HB) (fun k_ h_ => h_)) (bz_ HB)); replace qc := kB_ qc hb; replace qf := kB_ qf hb; replace qj := cB_ qj hb; replace qk := cB_ qk hb; replace qn := cB_ qn hb; replace qo := cB_ qo hb; replace qs := kB_ qs hb; replace HB := bS_ HB hb; (try clear hb); (try clear hb2); (try clear hk); (try clear hi); (try clear ho0)
       refine hK.out _ _ ⟨bc_ qc 0, bc_ qc 1, HS2_, HS3_, HS4_, HS5_, HS6_, HS7_⟩ (fun hHeld => ?_)
       clear hK K
       refine norm_ (a' := ?_) ?_ ?_
       rotate_left
       ·
        show Act.put _ (some 93) _ = _
        simp only [Act.put, sa_, s0_, s1_, i64_w, i32_w]
        rfl
       refine pX_ 14 (some 79) (fl_ 20 163839) HT_ ?_
       refine pX_ 15 (some 94) (fl_ 20 196607) HT_ ?_
       refine pX_ 16 (some 95) (fl_ 20 262143) HT_ ?_
       exact norm_ (by simp only [putAll, Act.put, List.setIfInBounds_toArray, List.set_cons_zero, List.set_cons_succ]) (hCont (qF, qb) _ ⟨hHeld, (by (with_reducible repeat (first | apply Kd.V_alloc | apply Kd.V_drewN | apply Kd.V_drew)); exact Kd.V_mono HL321_0.out (fun _ hk => ⟨hk.1.1, ⟨hk.2, hk.1.2⟩⟩)), (by (with_reducible repeat (first | apply Kd.V_alloc | apply Kd.V_drewN | apply Kd.V_drew)); exact Kd.V_mono HL323_0.out (fun _ hk => ⟨hk.1.1, ⟨hk.2, hk.1.2⟩⟩)), (by (with_reducible repeat (first | apply Kd.V_alloc | apply Kd.V_drewN | apply Kd.V_drew)); exact Kd.V_mono HL325_0.out (fun _ hk => ⟨hk.1.1.1, ⟨hk.2, ⟨hk.1.1.2.1, ⟨hk.1.1.2.2.1, ⟨hk.1.1.2.2.2, hk.1.2⟩⟩⟩⟩⟩)), (by (with_reducible repeat (first | apply Kd.V_alloc | apply Kd.V_drewN | apply Kd.V_drew)); exact Kd.V_mono HL326_0.out (fun _ hk => ⟨hk.1.1.1, ⟨hk.2, ⟨hk.1.1.2.1, ⟨hk.1.1.2.2.1, ⟨hk.1.1.2.2.2, hk.1.2⟩⟩⟩⟩⟩)), (by (with_reducible repeat (first | apply Kd.R_alloc | apply Kd.R_drewN | apply Kd.R_drew)); exact Kd.R_mono qC.out (fun _ hk => hk.1)), (by (with_reducible repeat (first | apply Kd.V_alloc | apply Kd.V_drewN | apply Kd.V_drew)); exact Kd.V_mono qa.out (fun _ hk => ⟨hk.1.1.1, ⟨hk.2, ⟨hk.1.1.2.1, ⟨hk.1.1.2.2.1, ⟨hk.1.1.2.2.2, hk.1.2⟩⟩⟩⟩⟩)), (by (with_reducible repeat (first | apply Kd.N_alloc | apply Kd.N_drewN | apply Kd.N_drew)); exact Kd.N_mono qm.out (fun _ hk => ⟨hk.1.1.1, ⟨hk.2, ⟨hk.1.1.2.1, ⟨hk.1.1.2.2, hk.1.2⟩⟩⟩⟩)), (kf_ qc), (kf_ qf), (kf_ qs), qT.out, qU.out, ql.out, qr.out, qp.out, qq.out, (bb_ HB)⟩)
      rintro ⟨qF, qb⟩ q5 ⟨hS_, h0_, h1_, h2_, h3_, h4_, h5_, h6_, h7_, h8_, h9_, h10_, h11_, h12_, h13_, h14_, h15_, h16_⟩
      have n0_ : Aside0 (Kd.V (Kd.int .i64) 3 q5 w.heap.size (fun k_ => (P0_1_ k_ ∨ w.heap.size ≤ k_) ∧ some k_ ≠ (qF : Value).ownBlock ∧ k_ ≠ qb) (.slice (some q3) ((rd_T52 l0_1 qe).f0).length c321_0) ((rd_T52 l0_1 qe).f0)) := ⟨h0_⟩
      have n1_ : Aside0 (Kd.V (Kd.int .i64) 3 q5 w.heap.size (fun k_ => (P0_1_ k_ ∨ w.heap.size ≤ k_) ∧ some k_ ≠ (qF : Value).ownBlock ∧ k_ ≠ qb) (.slice (some q4) ((rd_T52 l0_1 qd).f0).length c323_0) ((rd_T52 l0_1 qd).f0)) := ⟨h1_⟩
      have n2_ : Aside0 (Kd.V (Kd.int .i64) 3 q5 w.heap.size (fun k_ => (P0_1_ k_ ∨ w.heap.size ≤ k_) ∧ some k_ ≠ (qF : Value).ownBlock ∧ some k_ ≠ (u6 : Value).ownBlock ∧ k_ ≠ qh ∧ k_ ≠ qi ∧ k_ ≠ qb) (.slice qy ((rd_T52 l0_1 qe).f0).length c325_0) ((rd_T52 l0_1 qe).f0)) := ⟨h2_⟩
      have n3_ : Aside0 (Kd.V (Kd.int .i64) 3 q5 w.heap.size (fun k_ => (P0_1_ k_ ∨ w.heap.size ≤ k_) ∧ some k_ ≠ (qF : Value).ownBlock ∧ some k_ ≠ (u6 : Value).ownBlock ∧ k_ ≠ qh ∧ k_ ≠ qi ∧ k_ ≠ qb) (.slice qz ((rd_T52 l0_1 qd).f0).length c326_0) ((rd_T52 l0_1 qd).f0)) := ⟨h3_⟩
      have n4_ : Aside0 (Kd.R (Kd.int .i64) 3 q5 w.heap.size (fun k_ => (w.heap.size ≤ k_)) qF qv) := ⟨h4_⟩
      have n5_ : Aside0 (Kd.V k52 52 q5 w.heap.size (fun k_ => (P0_1_ k_ ∨ w.heap.size ≤ k_) ∧ some k_ ≠ (qF : Value).ownBlock ∧ some k_ ≠ (u6 : Value).ownBlock ∧ k_ ≠ qh ∧ k_ ≠ qi ∧ k_ ≠ qb) (.slice (some qg) l0_1.length c0_1) l0_1) := ⟨h5_⟩
      have n6_ : Aside0 (Kd.N k52 52 q5 w.heap.size (fun k_ => (P0_1_ k_ ∨ w.heap.size ≤ k_) ∧ some k_ ≠ (qF : Value).ownBlock ∧ k_ ≠ qh ∧ k_ ≠ qi ∧ k_ ≠ qb) u6 qG) := ⟨h6_⟩
      have n7_ : Aside0 (q5.heap[qh]? = some (.cells #[.int .i64 a0_0, .slice (some qg) l0_1.length c0_1] 28 (0, 0))) := ⟨h7_⟩
      have n8_ : Aside0 (q5.heap[qi]? = some (.cells #[.int .i64 qt, .slice none 0 0] 28 (0, 0))) := ⟨h8_⟩
      have n9_ : Aside0 (q5.heap[qb]? = some (.cells #[.slice none 0 0, .int .i64 0, .bool false] 52 (0, 0))) := ⟨h9_⟩
      have n10_ : Aside0 (w.heap.size ≤ qb) := ⟨h10_⟩
      have n11_ : Aside0 (w.heap.size ≤ qb) := ⟨h11_⟩
      have n12_ : Aside0 (qh ≠ qb) := ⟨h12_⟩
      have n13_ : Aside0 (qb ≠ qh) := ⟨h13_⟩
      have n14_ : Aside0 (qi ≠ qb) := ⟨h14_⟩
      have n15_ : Aside0 (qb ≠ qi) := ⟨h15_⟩
      have n16_ : Aside0 (Below w.heap.size w q5) := ⟨h16_⟩
      clear qm
      clear qa
      clear HL321_0
      clear HL323_0
      clear qc
      clear qf
      clear qj
      clear qk
      clear HB
      clear h0_ h1_ h2_ h3_ h4_ h5_ h6_ h7_ h8_ h9_ h10_ h11_ h12_ h13_ h14_ h15_ h16_
      have HL321_0 := n0_
      have HL323_0 := n1_
      have HL325_0 := n2_
      have HL326_0 := n3_
      have qC := n4_
      have qa := n5_
      have qm := n6_
      have qc := n7_
      have qf := n8_
      have qs := n9_
      have qT := n10_
      have qU := n11_
      have ql := n12_
      have qr := n13_
      have qp := n14_
      have qq := n15_
      have HB := n16_
      clear n0_ n1_ n2_ n3_ n4_ n5_ n6_ n7_ n8_ n9_ n10_ n11_ n12_ n13_ n14_ n15_ n16_
      have hHeld : q5.cell? ⟨qh, 0, none⟩ = some (.int .i64 a0_0) ∧ q5.cell? ⟨qh, 1, none⟩ = some (.slice (some qg) l0_1.length c0_1) ∧ q5.cell? (qg.add ((qe).toNat * 3)) = some (.slice qy ((rd_T52 l0_1 qe).f0).length c325_0) ∧ q5.cell? ⟨(qg.add ((qe).toNat * 3)).block, (qg.add ((qe).toNat * 3)).off + 1, none⟩ = some (.int .i64 ((rd_T52 l0_1 qe).f1)) ∧ q5.cell? ⟨(qg.add ((qe).toNat * 3)).block, (qg.add ((qe).toNat * 3)).off + 2, none⟩ = some (.bool ((rd_T52 l0_1 qe).f2)) ∧ q5.cell? (qg.add ((qd).toNat * 3)) = some (.slice qz ((rd_T52 l0_1 qd).f0).length c326_0) ∧ q5.cell? ⟨(qg.add ((qd).toNat * 3)).block, (qg.add ((qd).toNat * 3)).off + 1, none⟩ = some (.int .i64 ((rd_T52 l0_1 qd).f1)) ∧ q5.cell? ⟨(qg.add ((qd).toNat * 3)).block, (qg.add ((qd).toNat * 3)).off + 2, none⟩ = some (.bool ((rd_T52 l0_1 qd).f2)) := hS_
      obtain ⟨QR, QS, eo59⟩ := Kd.R_slice qC.out
      (first | subst eo59 | (injection eo59 with f1_ f2_ f3_; have f4_ := f1_.symm; have f5_ := f3_.symm; clear f1_ f2_ f3_; subst f4_; subst f5_))
      refine norm_ (a' := ?_) ?_ ?_
      rotate_left
      ·
       simp only [putAll, Act.put, List.setIfInBounds_toArray, List.set_cons_zero, List.set_cons_succ]
       rfl
      refine one_ (i := 18) (N := none) (fl_ 20 524287) rfl rfl (one_of HT_.out (by kernel_rfl)) (by decide) (fun K hK => ?_)
      have hs60 : q5.cell? ⟨qb, 0, none⟩ = some (.slice none 0 0) := bc_ qs 0
      have hfs60 := blk_frozen qs.out 0
      have hns60_0 := ql.out
      have hns60_1 := qp.out
      have hms60_0 := qr.out
      have hms60_1 := qq.out
      have hs61 : q5.cell? ⟨qb, 1, none⟩ = some (.int .i64 0) := bc_ qs 1
      have hfs61 := blk_frozen qs.out 1
      have hns61_0 := ql.out
      have hns61_1 := qp.out
      have hms61_0 := qr.out
      have hms61_1 := qq.out
      have hs62 : q5.cell? ⟨qb, 2, none⟩ = some (.bool false) := bc_ qs 2
      have hfs62 := blk_frozen qs.out 2
      have hns62_0 := ql.out
      have hns62_1 := qp.out
      have hms62_0 := qr.out
      have hms62_1 := qq.out
      refine skip_ (w1 := ?_) (by rfl) rfl ?_ ?_
      rotate_left
      ·
       go_simp
       rfl
      refine hK.out _ _ ⟨(cf3_ (g := qb) ql.out hHeld.1), (cf3_ (g := qb) ql.out hHeld.2.1), (cf3b_ (g := qb) hHeld.2.2.1 (vb_ qa (by have h1_ : 0 ≤ (qd : Int) := od_; have h2_ : qd < (l0_1.length : Int) := od_; omega) (fun _ hk => hk.2.2.2.2.2) (by show 0 < 3; decide)) (by first | rfl | exact add_block _ _)), (cf3b_ (g := qb) hHeld.2.2.2.1 (vb_ qa (by have h1_ : 0 ≤ (qd : Int) := od_; have h2_ : qd < (l0_1.length : Int) := od_; omega) (fun _ hk => hk.2.2.2.2.2) (by show 0 < 3; decide)) (by first | rfl | exact add_block _ _)), (cf3b_ (g := qb) hHeld.2.2.2.2.1 (vb_ qa (by have h1_ : 0 ≤ (qd : Int) := od_; have h2_ : qd < (l0_1.length : Int) := od_; omega) (fun _ hk => hk.2.2.2.2.2) (by show 0 < 3; decide)) (by first | rfl | exact add_block _ _)), (cf3b_ (g := qb) hHeld.2.2.2.2.2.1 (vb_ qa (by have h1_ : 0 ≤ (qd : Int) := od_; have h2_ : qd < (l0_1.length : Int) := od_; omega) (fun _ hk => hk.2.2.2.2.2) (by show 0 < 3; decide)) (by first | rfl | exact add_block _ _)), (cf3b_ (g := qb) hHeld.2.2.2.2.2.2.1 (vb_ qa (by have h1_ : 0 ≤ (qd : Int) := od_; have h2_ : qd < (l0_1.length : Int) := od_; omega) (fun _ hk => hk.2.2.2.2.2) (by show 0 < 3; decide)) (by first | rfl | exact add_block _ _)), (cf3b_ (g := qb) hHeld.2.2.2.2.2.2.2 (vb_ qa (by have h1_ : 0 ≤ (qd : Int) := od_; have h2_ : qd < (l0_1.length : Int) := od_; omega) (fun _ hk => hk.2.2.2.2.2) (by show 0 < 3; decide)) (by first | rfl | exact add_block _ _))⟩ (fun hHeld => ?_)
      clear hK K
      refine pX_ 19 (some 13) (fl_ 20 1048575) HT_ ?_
      refine done_ (done_of HT_.out (by kernel_rfl)) ?_
      have QB := qx.out
      have QC := qw.out
      have QD := qp.out
      have QE := qq.out
      obtain ⟨jI, jJ, jK, jL⟩ := b2_ qf
      try go_wp2
      refine bodyPost_ret (results_ct rfl _ _ qi 28 #[.int .i64 0, .slice none 0 0] (0, 0) _ rfl (kp_ qf) Try.underlying28 rfl (by kernel_rfl)) rfl ?_
      exact ⟨_, rt_ ⟨Kd.V_nil _ _ _ _ _, bb_ HB⟩⟩
     subst c40
     have H1 : (if qG.length < 3518437208883 then (spec_l3Drop.l2 kj29 a1 (qG ++ [(⟨qv, qA, qB⟩ : S52)]) qe (wrap64 (qd + 1)) a0_0 l0_1) else (none)) = some (r1, r2, r3) := by rw [if_pos rfl] at H; exact H
     clear H
     have H := H1
     clear H1
     replace H := ip_ H
     obtain ⟨c41, H⟩ := H
     have LMc41 := Aside0.mk c41
     clear c41
     obtain ⟨y334, hy334⟩ : ∃ y_ : List (S52), y_ = (qG ++ [(⟨qv, qA, qB⟩ : S52)]) := ⟨_, rfl⟩
     replace H : (spec_l3Drop.l2 kj29 a1 y334 qe (wrap64 (qd + 1)) a0_0 l0_1) = some (r1, r2, r3) := by first | (rw [hy334]; with_reducible exact H) | (have H2_ := (Option.bind_some _ _).symm.trans H; rw [hy334]; with_reducible exact H2_) | (have H2_ := (Option.bind_some _ _).symm.trans H; with_reducible exact H2_) | with_reducible exact H | (rw [hy334]; exact H) | exact H
     have Ny334 := Aside0.mk hy334
     clear hy334
     have H' := Aside0.mk H
     clear H
     try go_wp2
     replace qm := Aside0.mk (Kd.N_drew qm.out); replace qa := Aside0.mk (Kd.V_drew qa.out); replace HL321_0 := Aside0.mk (Kd.V_drew HL321_0.out); replace HL323_0 := Aside0.mk (Kd.V_drew HL323_0.out); replace qc := Aside0.mk (blk_drew qc.out); replace qf := Aside0.mk (blk_drew qf.out); replace qj := Aside0.mk (Kd.C_drew qj.out); replace qk := Aside0.mk (Kd.C_drew qk.out); replace HB := Aside0.mk (below_drew1 HB.out)
     have p325 : 0 ≤ (qe : Int) := od_
     have q325 : qe < (l0_1.length : Int) := od_
     obtain ⟨zg, qy, c325_0, e325, qI, qN, qO, hl325_0, hi325_0⟩ := at_T52 (Kd.V_reads' qa.out).2.2 qe p325 q325
     obtain rfl : qg = zg := (by injection e325)
     obtain ⟨ce325, hce325, hMe325, hcc325⟩ := Kd.V_get qa.out z52 qe p325 (by first | exact q325 | exact od_ | (have e_ := (Kd.V_reads' qa.out).1; omega))
     obtain ⟨ua325_0, uc325_0, rfl, ul325_0, ge325_0⟩ := k52_openF hMe325
     have hv325_0 := hcc325 0 _ rfl
     rw [Nat.add_zero] at hv325_0
     replace hv325_0 := Option.some.inj (hv325_0.symm.trans qI)
     injection hv325_0 with hva_ hvn_ hvc_
     rw [hva_] at ge325_0
     rw [hvc_] at ul325_0
     have HL325_0 := Aside0.mk (show Kd.V (Kd.int .i64) 3 _ w.heap.size _ _ ((rd_T52 l0_1 qe).f0) from Kd.V_mk ul325_0 ge325_0)
     clear hva_ hvn_ hvc_ ge325_0 ul325_0
     clear hcc325 hce325
     have qn := Aside0.mk hi325_0
     have qP := Aside0.mk hl325_0
     clear hi325_0 hl325_0
     replace p325 := eq_true p325
     replace q325 := eq_true q325
     have p326 : 0 ≤ (qd : Int) := od_
     have q326 : qd < (l0_1.length : Int) := od_
     obtain ⟨zh, qz, c326_0, e326, qJ, qQ, qR, hl326_0, hi326_0⟩ := at_T52 (Kd.V_reads' qa.out).2.2 qd p326 q326
     obtain rfl : qg = zh := (by injection e326)
     obtain ⟨ce326, hce326, hMe326, hcc326⟩ := Kd.V_get qa.out z52 qd p326 (by first | exact q326 | exact od_ | (have e_ := (Kd.V_reads' qa.out).1; omega))
     obtain ⟨ua326_0, uc326_0, rfl, ul326_0, ge326_0⟩ := k52_openF hMe326
     have hv326_0 := hcc326 0 _ rfl
     rw [Nat.add_zero] at hv326_0
     replace hv326_0 := Option.some.inj (hv326_0.symm.trans qJ)
     injection hv326_0 with hva_ hvn_ hvc_
     rw [hva_] at ge326_0
     rw [hvc_] at ul326_0
     have HL326_0 := Aside0.mk (show Kd.V (Kd.int .i64) 3 _ w.heap.size _ _ ((rd_T52 l0_1 qd).f0) from Kd.V_mk ul326_0 ge326_0)
     clear hva_ hvn_ hvc_ ge326_0 ul326_0
     clear hcc326 hce326
     have qo := Aside0.mk hi326_0
     have qS := Aside0.mk hl326_0
     clear hi326_0 hl326_0
     replace p326 := eq_true p326
     replace q326 := eq_true q326
     refine start_ (n := 20) (S := fun w' => w'.cell? ⟨qh, 0, none⟩ = some (.int .i64 a0_0) ∧ w'.cell? ⟨qh, 1, none⟩ = some (.slice (some qg) l0_1.length c0_1) ∧ w'.cell? (qg.add ((qe).toNat * 3)) = some (.slice qy ((rd_T52 l0_1 qe).f0).length c325_0) ∧ w'.cell? ⟨(qg.add ((qe).toNat * 3)).block, (qg.add ((qe).toNat * 3)).off + 1, none⟩ = some (.int .i64 ((rd_T52 l0_1 qe).f1)) ∧ w'.cell? ⟨(qg.add ((qe).toNat * 3)).block, (qg.add ((qe).toNat * 3)).off + 2, none⟩ = some (.bool ((rd_T52 l0_1 qe).f2)) ∧ w'.cell? (qg.add ((qd).toNat * 3)) = some (.slice qz ((rd_T52 l0_1 qd).f0).length c326_0) ∧ w'.cell? ⟨(qg.add ((qd).toNat * 3)).block, (qg.add ((qd).toNat * 3)).off + 1, none⟩ = some (.int .i64 ((rd_T52 l0_1 qd).f1)) ∧ w'.cell? ⟨(qg.add ((qd).toNat * 3)).block, (qg.add ((qd).toNat * 3)).off + 2, none⟩ = some (.bool ((rd_T52 l0_1 qd).f2))) (ds := []) (fl_ 20 0) (by kernel_rfl) rfl rfl ⟨bc_ qc 0, bc_ qc 1, qI, qN, qO, qJ, qQ, qR⟩ (fun hHeld => ?_); refine with_tabW spec_l3Drop.tab16 spec_l3Drop.bits16 (fun HT_ HW_ => ?_)
     generalize wc.drew = Q2 at qm qa HL321_0 HL323_0 qc qf qj qk HB HL325_0 HL326_0 qn qo qI qN qO qJ qQ qR hHeld ⊢
     refine pX_ 0 (some 80) (fl_ 20 1) HT_ ?_
     refine pX_ 2 (some 82) (fl_ 20 5) HT_ ?_
     refine pX_ 5 (some 85) (fl_ 20 37) HT_ ?_
     refine pX_ 6 (some 86) (fl_ 20 101) HT_ ?_
     refine pX_ 7 (some 87) (fl_ 20 229) HT_ ?_
     refine pX_ 9 (some 89) (fl_ 20 741) HT_ ?_
     refine pX_ 12 (some 92) (fl_ 20 4837) HT_ ?_
     refine tX_ 1 (some 81) (fl_ 20 4839) rfl rfl HT_ HW_ hHeld (by rintro w' ⟨s0, s1, s2, s3, s4, s5, s6, s7⟩; go_simp; with_reducible rfl) ?_
     refine pX_ 3 (some 83) (fl_ 20 4847) HT_ ?_
     refine tX_ 4 (some 84) (fl_ 20 4863) rfl rfl HT_ HW_ hHeld (by rintro w' ⟨s0, s1, s2, s3, s4, s5, s6, s7⟩; go_simp; with_reducible rfl) ?_
     refine tX_ 8 (some 88) (fl_ 20 5119) rfl rfl HT_ HW_ hHeld (by rintro w' ⟨s0, s1, s2, s3, s4, s5, s6, s7⟩; go_simp; with_reducible rfl) ?_
     refine pX_ 10 (some 90) (fl_ 20 6143) HT_ ?_
     refine tX_ 11 (some 91) (fl_ 20 8191) rfl rfl HT_ HW_ hHeld (by rintro w' ⟨s0, s1, s2, s3, s4, s5, s6, s7⟩; go_simp; with_reducible rfl) ?_
     refine join_ (σ := Value × Nat) 2 (fl_ 20 262143) (fun s_ => [(93, .tuple #[.agg #[s_.1, .int .i64 qA, .bool qB], .bool true]), (12, .pointer (some ⟨s_.2, 0, none⟩)), (79, .tuple #[.agg #[s_.1, .int .i64 qA, .bool qB], .bool true]), (94, .agg #[s_.1, .int .i64 qA, .bool qB]), (95, .bool true)]) (fun s_ w' => (w'.cell? ⟨qh, 0, none⟩ = some (.int .i64 a0_0) ∧ w'.cell? ⟨qh, 1, none⟩ = some (.slice (some qg) l0_1.length c0_1) ∧ w'.cell? (qg.add ((qe).toNat * 3)) = some (.slice qy ((rd_T52 l0_1 qe).f0).length c325_0) ∧ w'.cell? ⟨(qg.add ((qe).toNat * 3)).block, (qg.add ((qe).toNat * 3)).off + 1, none⟩ = some (.int .i64 ((rd_T52 l0_1 qe).f1)) ∧ w'.cell? ⟨(qg.add ((qe).toNat * 3)).block, (qg.add ((qe).toNat * 3)).off + 2, none⟩ = some (.bool ((rd_T52 l0_1 qe).f2)) ∧ w'.cell? (qg.add ((qd).toNat * 3)) = some (.slice qz ((rd_T52 l0_1 qd).f0).length c326_0) ∧ w'.cell? ⟨(qg.add ((qd).toNat * 3)).block, (qg.add ((qd).toNat * 3)).off + 1, none⟩ = some (.int .i64 ((rd_T52 l0_1 qd).f1)) ∧ w'.cell? ⟨(qg.add ((qd).toNat * 3)).block, (qg.add ((qd).toNat * 3)).off + 2, none⟩ = some (.bool ((rd_T52 l0_1 qd).f2))) ∧ (Kd.V (Kd.int .i64) 3 w' w.heap.size (fun k_ => (P0_1_ k_ ∨ w.heap.size ≤ k_) ∧ some k_ ≠ (s_.1 : Value).ownBlock ∧ k_ ≠ s_.2) (.slice (some q3) ((rd_T52 l0_1 qe).f0).length c321_0) ((rd_T52 l0_1 qe).f0)) ∧ (Kd.V (Kd.int .i64) 3 w' w.heap.size (fun k_ => (P0_1_ k_ ∨ w.heap.size ≤ k_) ∧ some k_ ≠ (s_.1 : Value).ownBlock ∧ k_ ≠ s_.2) (.slice (some q4) ((rd_T52 l0_1 qd).f0).length c323_0) ((rd_T52 l0_1 qd).f0)) ∧ (Kd.V (Kd.int .i64) 3 w' w.heap.size (fun k_ => (P0_1_ k_ ∨ w.heap.size ≤ k_) ∧ some k_ ≠ (s_.1 : Value).ownBlock ∧ some k_ ≠ (u6 : Value).ownBlock ∧ k_ ≠ qh ∧ k_ ≠ qi ∧ k_ ≠ s_.2) (.slice qy ((rd_T52 l0_1 qe).f0).length c325_0) ((rd_T52 l0_1 qe).f0)) ∧ (Kd.V (Kd.int .i64) 3 w' w.heap.size (fun k_ => (P0_1_ k_ ∨ w.heap.size ≤ k_) ∧ some k_ ≠ (s_.1 : Value).ownBlock ∧ some k_ ≠ (u6 : Value).ownBlock ∧ k_ ≠ qh ∧ k_ ≠ qi ∧ k_ ≠ s_.2) (.slice qz ((rd_T52 l0_1 qd).f0).length c326_0) ((rd_T52 l0_1 qd).f0)) ∧ (Kd.R (Kd.int .i64) 3 w' w.heap.size (fun k_ => (w.heap.size ≤ k_)) s_.1 qv) ∧ (Kd.V k52 52 w' w.heap.size (fun k_ => (P0_1_ k_ ∨ w.heap.size ≤ k_) ∧ some k_ ≠ (s_.1 : Value).ownBlock ∧ some k_ ≠ (u6 : Value).ownBlock ∧ k_ ≠ qh ∧ k_ ≠ qi ∧ k_ ≠ s_.2) (.slice (some qg) l0_1.length c0_1) l0_1) ∧ (Kd.N k52 52 w' w.heap.size (fun k_ => (P0_1_ k_ ∨ w.heap.size ≤ k_) ∧ some k_ ≠ (s_.1 : Value).ownBlock ∧ k_ ≠ qh ∧ k_ ≠ qi ∧ k_ ≠ s_.2) u6 qG) ∧ (w'.heap[qh]? = some (.cells #[.int .i64 a0_0, .slice (some qg) l0_1.length c0_1] 28 (0, 0))) ∧ (w'.heap[qi]? = some (.cells #[.int .i64 qt, .slice none 0 0] 28 (0, 0))) ∧ (w'.heap[s_.2]? = some (.cells #[.slice none 0 0, .int .i64 0, .bool false] 52 (0, 0))) ∧ (w.heap.size ≤ s_.2) ∧ (w.heap.size ≤ s_.2) ∧ (qh ≠ s_.2) ∧ (s_.2 ≠ qh) ∧ (qi ≠ s_.2) ∧ (s_.2 ≠ qi) ∧ (Below w.heap.size w w')) ?_ ?_
     rotate_left
     ·
      intro hCont
      refine two_ (i := 13) (j := 17) (Ni := some 93) (Nj := some 12) (fl_ 20 16383) (fl_ 20 139263) rfl rfl rfl rfl (two_of HT_.out (by kernel_rfl)) (by decide) (by decide) (fun K hK => ?_) (fun K hK => ?_)
      ·
       skip
       refine goes_ Try.func102 (by kernel_rfl) rfl #[.agg #[.slice qy ((rd_T52 l0_1 qe).f0).length c325_0, .int .i64 ((rd_T52 l0_1 qe).f1), .bool ((rd_T52 l0_1 qe).f2)], .int .i64 (wrap64 (-(rd ((rd_T52 l0_1 qd).f0) a1))), .agg #[.slice qz ((rd_T52 l0_1 qd).f0).length c326_0, .int .i64 ((rd_T52 l0_1 qd).f1), .bool ((rd_T52 l0_1 qd).f2)], .int .i64 (rd ((rd_T52 l0_1 qe).f0) a1)] (by rfl) rfl rfl (by (try simp only [List.map_toArray, List.map_cons, List.map_nil]); first | done | rfl | (simp only [List.length_drop, List.length_take]; rfl)) ?_
       with_reducible refine (spec_MixAtoms.calls kj29 _ _ ((rd_T52 l0_1 qe).f0) ((rd_T52 l0_1 qe).f1) ((rd_T52 l0_1 qe).f2) (wrap64 (-(rd ((rd_T52 l0_1 qd).f0) a1))) _ _ ((rd_T52 l0_1 qd).f0) ((rd_T52 l0_1 qd).f1) ((rd_T52 l0_1 qd).f2) (rd ((rd_T52 l0_1 qe).f0) a1) qv qA qB true _ ?side1 ?side2 ?side3 ?side4 A39.out).mono ?_
       (case side1 => repeat (first | exact (by repeat (first | (with_reducible exact qn.out) | (with_reducible refine Kd.C_alloc ?_ _) | (with_reducible refine Kd.C_drewN ?_ _) | (with_reducible refine Kd.C_drew ?_) | exact qn.out)) | (with_reducible refine Kd.C_alloc ?_ _) | (with_reducible refine Kd.C_drewN ?_ _) | (with_reducible refine Kd.C_drew ?_)))
       (case side2 => exact qP.out)
       (case side3 => repeat (first | exact (by repeat (first | (with_reducible exact qo.out) | (with_reducible refine Kd.C_alloc ?_ _) | (with_reducible refine Kd.C_drewN ?_ _) | (with_reducible refine Kd.C_drew ?_) | exact qo.out)) | (with_reducible refine Kd.C_alloc ?_ _) | (with_reducible refine Kd.C_drewN ?_ _) | (with_reducible refine Kd.C_drew ?_)))
       (case side4 => exact qS.out)
       rintro e QT ⟨qF, rfl, ho0, hb⟩
       have HS2_ := (hb.cell (World.block_lt_of_cell? _ _ (hHeld.2.2.1))).trans (hHeld.2.2.1)
       have HS3_ := (hb.cell (World.block_lt_of_cell? _ _ (hHeld.2.2.2.1))).trans (hHeld.2.2.2.1)
       have HS4_ := (hb.cell (World.block_lt_of_cell? _ _ (hHeld.2.2.2.2.1))).trans (hHeld.2.2.2.2.1)
       have HS5_ := (hb.cell (World.block_lt_of_cell? _ _ (hHeld.2.2.2.2.2.1))).trans (hHeld.2.2.2.2.2.1)
       have HS6_ := (hb.cell (World.block_lt_of_cell? _ _ (hHeld.2.2.2.2.2.2.1))).trans (hHeld.2.2.2.2.2.2.1)
       have HS7_ := (hb.cell (World.block_lt_of_cell? _ _ (hHeld.2.2.2.2.2.2.2))).trans (hHeld.2.2.2.2.2.2.2)
       refine ⟨_, rfl, ?_⟩
       replace qm := Aside0.mk (Kd.N_elder' (nm_ qm) (Kd.R_base ho0) hb); replace qa := Aside0.mk (Kd.V_elder' (vm_ qa) (Kd.R_base ho0) hb); replace HL321_0 := Aside0.mk (Kd.V_elder' (vm_ HL321_0) (Kd.R_base ho0) hb); replace HL323_0 := Aside0.mk (Kd.V_elder' (vm_ HL323_0) (Kd.R_base ho0) hb); replace HL325_0 := Aside0.mk (Kd.V_elder' (vm_ HL325_0) (Kd.R_base ho0) hb); replace HL326_0 := Aside0.mk (Kd.V_elder' (vm_ HL326_0) (Kd.R_base ho0) hb); have qC := Aside0.mk (Kd.R_lower (Kd.R_newM (M := fun k_ => (w.heap.size ≤ k_)) ho0 (bz_ HB) (fun k_ h_ => h_)) (bz_ HB)); replace qc := kB_ qc hb; replace qf := kB_ qf hb; replace qj := cB_ qj hb; replace qk := cB_ qk hb; replace qn := cB_ qn hb; replace qo := cB_ qo hb; replace HB := bS_ HB hb; (try clear hb); (try clear hb2); (try clear hk); (try clear hi); (try clear ho0)
       refine hK.out _ _ ⟨bc_ qc 0, bc_ qc 1, HS2_, HS3_, HS4_, HS5_, HS6_, HS7_⟩ (fun hHeld => ?_)
       clear hK K
       refine norm_ (a' := ?_) ?_ ?_
       rotate_left
       ·
        show Act.put _ (some 93) _ = _
        simp only [Act.put, sa_, s0_, s1_, i64_w, i32_w]
        rfl
       refine pX_ 14 (some 79) (fl_ 20 32767) HT_ ?_
       refine pX_ 15 (some 94) (fl_ 20 65535) HT_ ?_
       refine pX_ 16 (some 95) (fl_ 20 131071) HT_ ?_
       refine one_ (i := 17) (N := some 12) (fl_ 20 262143) rfl rfl (one_of HT_.out (by kernel_rfl)) (by decide) (fun K hK => ?_)
       refine box_step ?hg (N := 12) ?hd (cs := #[.slice none 0 0, .int .i64 0, .bool false]) (t := 52) ?hr ?_; (case hd => rfl); (case hg => rfl); (case hr => first | (go_simp; done) | (go_simp; rfl))
       intro qb hg QU hbox hb
       have HS2_ := (hb.cell (World.block_lt_of_cell? _ _ (hHeld.2.2.1))).trans (hHeld.2.2.1)
       have HS3_ := (hb.cell (World.block_lt_of_cell? _ _ (hHeld.2.2.2.1))).trans (hHeld.2.2.2.1)
       have HS4_ := (hb.cell (World.block_lt_of_cell? _ _ (hHeld.2.2.2.2.1))).trans (hHeld.2.2.2.2.1)
       have HS5_ := (hb.cell (World.block_lt_of_cell? _ _ (hHeld.2.2.2.2.2.1))).trans (hHeld.2.2.2.2.2.1)
       have HS6_ := (hb.cell (World.block_lt_of_cell? _ _ (hHeld.2.2.2.2.2.2.1))).trans (hHeld.2.2.2.2.2.2.1)
       have HS7_ := (hb.cell (World.block_lt_of_cell? _ _ (hHeld.2.2.2.2.2.2.2))).trans (hHeld.2.2.2.2.2.2.2)
       replace qm := nE_ qm hg hb; replace qa := vE_ qa hg hb; replace HL321_0 := vE_ HL321_0 hg hb; replace HL323_0 := vE_ HL323_0 hg hb; replace HL325_0 := vE_ HL325_0 hg hb; replace HL326_0 := vE_ HL326_0 hg hb; replace qC := rB_ qC hb; replace qj := cB_ qj hb; replace qk := cB_ qk hb; replace qn := cB_ qn hb; replace qo := cB_ qo hb; have qs := Aside0.mk (hbox); have qT := hz_ HB hg; have qU := hz_ HB hg; replace HB := bS_ HB hb; have ql := nL_ qc hg; have qr := nG_ qc hg; replace qc := kB_ qc hb; have qp := nL_ qf hg; have qq := nG_ qf hg; replace qf := kB_ qf hb; clear hb hbox hg
       refine hK.out _ _ ⟨bc_ qc 0, bc_ qc 1, HS2_, HS3_, HS4_, HS5_, HS6_, HS7_⟩ (fun hHeld => ?_)
       clear hK K
       refine norm_ (a' := ?_) ?_ ?_
       rotate_left
       ·
        show Act.put _ (some 12) _ = _
        simp only [Act.put, sa_, s0_, s1_, i64_w, i32_w]
        rfl
       exact norm_ (by simp only [putAll, Act.put, List.setIfInBounds_toArray, List.set_cons_zero, List.set_cons_succ]) (hCont (qF, qb) _ ⟨hHeld, (by (with_reducible repeat (first | apply Kd.V_alloc | apply Kd.V_drewN | apply Kd.V_drew)); exact Kd.V_mono HL321_0.out (fun _ hk => ⟨hk.1.1, ⟨hk.1.2, hk.2⟩⟩)), (by (with_reducible repeat (first | apply Kd.V_alloc | apply Kd.V_drewN | apply Kd.V_drew)); exact Kd.V_mono HL323_0.out (fun _ hk => ⟨hk.1.1, ⟨hk.1.2, hk.2⟩⟩)), (by (with_reducible repeat (first | apply Kd.V_alloc | apply Kd.V_drewN | apply Kd.V_drew)); exact Kd.V_mono HL325_0.out (fun _ hk => ⟨hk.1.1.1, ⟨hk.1.2, ⟨hk.1.1.2.1, ⟨hk.1.1.2.2.1, ⟨hk.1.1.2.2.2, hk.2⟩⟩⟩⟩⟩)), (by (with_reducible repeat (first | apply Kd.V_alloc | apply Kd.V_drewN | apply Kd.V_drew)); exact Kd.V_mono HL326_0.out (fun _ hk => ⟨hk.1.1.1, ⟨hk.1.2, ⟨hk.1.1.2.1, ⟨hk.1.1.2.2.1, ⟨hk.1.1.2.2.2, hk.2⟩⟩⟩⟩⟩)), (by (with_reducible repeat (first | apply Kd.R_alloc | apply Kd.R_drewN | apply Kd.R_drew)); exact Kd.R_mono qC.out (fun _ hk => hk.1)), (by (with_reducible repeat (first | apply Kd.V_alloc | apply Kd.V_drewN | apply Kd.V_drew)); exact Kd.V_mono qa.out (fun _ hk => ⟨hk.1.1.1, ⟨hk.1.2, ⟨hk.1.1.2.1, ⟨hk.1.1.2.2.1, ⟨hk.1.1.2.2.2, hk.2⟩⟩⟩⟩⟩)), (by (with_reducible repeat (first | apply Kd.N_alloc | apply Kd.N_drewN | apply Kd.N_drew)); exact Kd.N_mono qm.out (fun _ hk => ⟨hk.1.1.1, ⟨hk.1.2, ⟨hk.1.1.2.1, ⟨hk.1.1.2.2, hk.2⟩⟩⟩⟩)), (kf_ qc), (kf_ qf), (kf_ qs), qT.out, qU.out, ql.out, qr.out, qp.out, qq.out, (bb_ HB)⟩)
      skip
      refine box_step ?hg (N := 12) ?hd (cs := #[.slice none 0 0, .int .i64 0, .bool false]) (t := 52) ?hr ?_; (case hd => rfl); (case hg => rfl); (case hr => first | (go_simp; done) | (go_simp; rfl))
      intro qb hg QT hbox hb
      have HS2_ := (hb.cell (World.block_lt_of_cell? _ _ (hHeld.2.2.1))).trans (hHeld.2.2.1)
      have HS3_ := (hb.cell (World.block_lt_of_cell? _ _ (hHeld.2.2.2.1))).trans (hHeld.2.2.2.1)
      have HS4_ := (hb.cell (World.block_lt_of_cell? _ _ (hHeld.2.2.2.2.1))).trans (hHeld.2.2.2.2.1)
      have HS5_ := (hb.cell (World.block_lt_of_cell? _ _ (hHeld.2.2.2.2.2.1))).trans (hHeld.2.2.2.2.2.1)
      have HS6_ := (hb.cell (World.block_lt_of_cell? _ _ (hHeld.2.2.2.2.2.2.1))).trans (hHeld.2.2.2.2.2.2.1)
      have HS7_ := (hb.cell (World.block_lt_of_cell? _ _ (hHeld.2.2.2.2.2.2.2))).trans (hHeld.2.2.2.2.2.2.2)
      replace qm := nE_ qm hg hb; replace qa := vE_ qa hg hb; replace HL321_0 := vE_ HL321_0 hg hb; replace HL323_0 := vE_ HL323_0 hg hb; replace HL325_0 := vE_ HL325_0 hg hb; replace HL326_0 := vE_ HL326_0 hg hb; replace qj := cB_ qj hb; replace qk := cB_ qk hb; replace qn := cB_ qn hb; replace qo := cB_ qo hb; have qs := Aside0.mk (hbox); have qT := hz_ HB hg; have qU := hz_ HB hg; replace HB := bS_ HB hb; have ql := nL_ qc hg; have qr := nG_ qc hg; replace qc := kB_ qc hb; have qp := nL_ qf hg; have qq := nG_ qf hg; replace qf := kB_ qf hb; clear hb hbox hg
      refine hK.out _ _ ⟨bc_ qc 0, bc_ qc 1, HS2_, HS3_, HS4_, HS5_, HS6_, HS7_⟩ (fun hHeld => ?_)
      clear hK K
      refine norm_ (a' := ?_) ?_ ?_
      rotate_left
      ·
       show Act.put _ (some 12) _ = _
       simp only [Act.put, sa_, s0_, s1_, i64_w, i32_w]
       rfl
      refine one_ (i := 13) (N := some 93) (fl_ 20 147455) rfl rfl (one_of HT_.out (by kernel_rfl)) (by decide) (fun K hK => ?_)
      refine goes_ Try.func102 (by kernel_rfl) rfl #[.agg #[.slice qy ((rd_T52 l0_1 qe).f0).length c325_0, .int .i64 ((rd_T52 l0_1 qe).f1), .bool ((rd_T52 l0_1 qe).f2)], .int .i64 (wrap64 (-(rd ((rd_T52 l0_1 qd).f0) a1))), .agg #[.slice qz ((rd_T52 l0_1 qd).f0).length c326_0, .int .i64 ((rd_T52 l0_1 qd).f1), .bool ((rd_T52 l0_1 qd).f2)], .int .i64 (rd ((rd_T52 l0_1 qe).f0) a1)] (by rfl) rfl rfl (by (try simp only [List.map_toArray, List.map_cons, List.map_nil]); first | done | rfl | (simp only [List.length_drop, List.length_take]; rfl)) ?_
      with_reducible refine (spec_MixAtoms.calls kj29 _ _ ((rd_T52 l0_1 qe).f0) ((rd_T52 l0_1 qe).f1) ((rd_T52 l0_1 qe).f2) (wrap64 (-(rd ((rd_T52 l0_1 qd).f0) a1))) _ _ ((rd_T52 l0_1 qd).f0) ((rd_T52 l0_1 qd).f1) ((rd_T52 l0_1 qd).f2) (rd ((rd_T52 l0_1 qe).f0) a1) qv qA qB true _ ?side1 ?side2 ?side3 ?side4 A39.out).mono ?_
      (case side1 => repeat (first | exact (by repeat (first | (with_reducible exact qn.out) | (with_reducible refine Kd.C_alloc ?_ _) | (with_reducible refine Kd.C_drewN ?_ _) | (with_reducible refine Kd.C_drew ?_) | exact qn.out)) | (with_reducible refine Kd.C_alloc ?_ _) | (with_reducible refine Kd.C_drewN ?_ _) | (with_reducible refine Kd.C_drew ?_)))
      (case side2 => exact qP.out)
      (case side3 => repeat (first | exact (by repeat (first | (with_reducible exact qo.out) | (with_reducible refine Kd.C_alloc ?_ _) | (with_reducible refine Kd.C_drewN ?_ _) | (with_reducible refine Kd.C_drew ?_) | exact qo.out)) | (with_reducible refine Kd.C_alloc ?_ _) | (with_reducible refine Kd.C_drewN ?_ _) | (with_reducible refine Kd.C_drew ?_)))
      (case side4 => exact qS.out)
      rintro e QU ⟨qF, rfl, ho0, hb⟩
      have HS2_ := (hb.cell (World.block_lt_of_cell? _ _ (hHeld.2.2.1))).trans (hHeld.2.2.1)
      have HS3_ := (hb.cell (World.block_lt_of_cell? _ _ (hHeld.2.2.2.1))).trans (hHeld.2.2.2.1)
      have HS4_ := (hb.cell (World.block_lt_of_cell? _ _ (hHeld.2.2.2.2.1))).trans (hHeld.2.2.2.2.1)
      have HS5_ := (hb.cell (World.block_lt_of_cell? _ _ (hHeld.2.2.2.2.2.1))).trans (hHeld.2.2.2.2.2.1)
      have HS6_ := (hb.cell (World.block_lt_of_cell? _ _ (hHeld.2.2.2.2.2.2.1))).trans (hHeld.2.2.2.2.2.2.1)
      have HS7_ := (hb.cell (World.block_lt_of_cell? _ _ (hHeld.2.2.2.2.2.2.2))).trans (hHeld.2.2.2.2.2.2.2)
      refine ⟨_, rfl, ?_⟩
      replace qm := Aside0.mk (Kd.N_elder' (nm_ qm) (Kd.R_base ho0) hb); replace qa := Aside0.mk (Kd.V_elder' (vm_ qa) (Kd.R_base ho0) hb); replace HL321_0 := Aside0.mk (Kd.V_elder' (vm_ HL321_0) (Kd.R_base ho0) hb); replace HL323_0 := Aside0.mk (Kd.V_elder' (vm_ HL323_0) (Kd.R_base ho0) hb); replace HL325_0 := Aside0.mk (Kd.V_elder' (vm_ HL325_0) (Kd.R_base ho0) hb); replace HL326_0 := Aside0.mk (Kd.V_elder' (vm_ HL326_0) (Kd.R_base ho0) hb); have qC := Aside0.mk (Kd.R_lower (Kd.R_newM (M := fun k_ => (w.heap.size ≤ k_)) ho0 (bz_ HB) (fun k_ h_ => h_)) (bz_ HB)); replace qc := kB_ qc hb; replace qf := kB_ qf hb; replace qj := cB_ qj hb; replace qk := cB_ qk hb; replace qn := cB_ qn hb; replace qo := cB_ qo hb; replace qs := kB_ qs hb; replace HB := bS_ HB hb; (try clear hb); (try clear hb2); (try clear hk); (try clear hi); (try clear ho0)
      refine hK.out _ _ ⟨bc_ qc 0, bc_ qc 1, HS2_, HS3_, HS4_, HS5_, HS6_, HS7_⟩ (fun hHeld => ?_)
      clear hK K
      refine norm_ (a' := ?_) ?_ ?_
      rotate_left
      ·
       show Act.put _ (some 93) _ = _
       simp only [Act.put, sa_, s0_, s1_, i64_w, i32_w]
       rfl
      refine pX_ 14 (some 79) (fl_ 20 163839) HT_ ?_
      refine pX_ 15 (some 94) (fl_ 20 196607) HT_ ?_
      refine pX_ 16 (some 95) (fl_ 20 262143) HT_ ?_
      exact norm_ (by simp only [putAll, Act.put, List.setIfInBounds_toArray, List.set_cons_zero, List.set_cons_succ]) (hCont (qF, qb) _ ⟨hHeld, (by (with_reducible repeat (first | apply Kd.V_alloc | apply Kd.V_drewN | apply Kd.V_drew)); exact Kd.V_mono HL321_0.out (fun _ hk => ⟨hk.1.1, ⟨hk.2, hk.1.2⟩⟩)), (by (with_reducible repeat (first | apply Kd.V_alloc | apply Kd.V_drewN | apply Kd.V_drew)); exact Kd.V_mono HL323_0.out (fun _ hk => ⟨hk.1.1, ⟨hk.2, hk.1.2⟩⟩)), (by (with_reducible repeat (first | apply Kd.V_alloc | apply Kd.V_drewN | apply Kd.V_drew)); exact Kd.V_mono HL325_0.out (fun _ hk => ⟨hk.1.1.1, ⟨hk.2, ⟨hk.1.1.2.1, ⟨hk.1.1.2.2.1, ⟨hk.1.1.2.2.2, hk.1.2⟩⟩⟩⟩⟩)), (by (with_reducible repeat (first | apply Kd.V_alloc | apply Kd.V_drewN | apply Kd.V_drew)); exact Kd.V_mono HL326_0.out (fun _ hk => ⟨hk.1.1.1, ⟨hk.2, ⟨hk.1.1.2.1, ⟨hk.1.1.2.2.1, ⟨hk.1.1.2.2.2, hk.1.2⟩⟩⟩⟩⟩)), (by (with_reducible repeat (first | apply Kd.R_alloc | apply Kd.R_drewN | apply Kd.R_drew)); exact Kd.R_mono qC.out (fun _ hk => hk.1)), (by (with_reducible repeat (first | apply Kd.V_alloc | apply Kd.V_drewN | apply Kd.V_drew)); exact Kd.V_mono qa.out (fun _ hk => ⟨hk.1.1.1, ⟨hk.2, ⟨hk.1.1.2.1, ⟨hk.1.1.2.2.1, ⟨hk.1.1.2.2.2, hk.1.2⟩⟩⟩⟩⟩)), (by (with_reducible repeat (first | apply Kd.N_alloc | apply Kd.N_drewN | apply Kd.N_drew)); exact Kd.N_mono qm.out (fun _ hk => ⟨hk.1.1.1, ⟨hk.2, ⟨hk.1.1.2.1, ⟨hk.1.1.2.2, hk.1.2⟩⟩⟩⟩)), (kf_ qc), (kf_ qf), (kf_ qs), qT.out, qU.out, ql.out, qr.out, qp.out, qq.out, (bb_ HB)⟩)
     rintro ⟨qF, qb⟩ qK ⟨hS_, h0_, h1_, h2_, h3_, h4_, h5_, h6_, h7_, h8_, h9_, h10_, h11_, h12_, h13_, h14_, h15_, h16_⟩
     have n0_ : Aside0 (Kd.V (Kd.int .i64) 3 qK w.heap.size (fun k_ => (P0_1_ k_ ∨ w.heap.size ≤ k_) ∧ some k_ ≠ (qF : Value).ownBlock ∧ k_ ≠ qb) (.slice (some q3) ((rd_T52 l0_1 qe).f0).length c321_0) ((rd_T52 l0_1 qe).f0)) := ⟨h0_⟩
     have n1_ : Aside0 (Kd.V (Kd.int .i64) 3 qK w.heap.size (fun k_ => (P0_1_ k_ ∨ w.heap.size ≤ k_) ∧ some k_ ≠ (qF : Value).ownBlock ∧ k_ ≠ qb) (.slice (some q4) ((rd_T52 l0_1 qd).f0).length c323_0) ((rd_T52 l0_1 qd).f0)) := ⟨h1_⟩
     have n2_ : Aside0 (Kd.V (Kd.int .i64) 3 qK w.heap.size (fun k_ => (P0_1_ k_ ∨ w.heap.size ≤ k_) ∧ some k_ ≠ (qF : Value).ownBlock ∧ some k_ ≠ (u6 : Value).ownBlock ∧ k_ ≠ qh ∧ k_ ≠ qi ∧ k_ ≠ qb) (.slice qy ((rd_T52 l0_1 qe).f0).length c325_0) ((rd_T52 l0_1 qe).f0)) := ⟨h2_⟩
     have n3_ : Aside0 (Kd.V (Kd.int .i64) 3 qK w.heap.size (fun k_ => (P0_1_ k_ ∨ w.heap.size ≤ k_) ∧ some k_ ≠ (qF : Value).ownBlock ∧ some k_ ≠ (u6 : Value).ownBlock ∧ k_ ≠ qh ∧ k_ ≠ qi ∧ k_ ≠ qb) (.slice qz ((rd_T52 l0_1 qd).f0).length c326_0) ((rd_T52 l0_1 qd).f0)) := ⟨h3_⟩
     have n4_ : Aside0 (Kd.R (Kd.int .i64) 3 qK w.heap.size (fun k_ => (w.heap.size ≤ k_)) qF qv) := ⟨h4_⟩
     have n5_ : Aside0 (Kd.V k52 52 qK w.heap.size (fun k_ => (P0_1_ k_ ∨ w.heap.size ≤ k_) ∧ some k_ ≠ (qF : Value).ownBlock ∧ some k_ ≠ (u6 : Value).ownBlock ∧ k_ ≠ qh ∧ k_ ≠ qi ∧ k_ ≠ qb) (.slice (some qg) l0_1.length c0_1) l0_1) := ⟨h5_⟩
     have n6_ : Aside0 (Kd.N k52 52 qK w.heap.size (fun k_ => (P0_1_ k_ ∨ w.heap.size ≤ k_) ∧ some k_ ≠ (qF : Value).ownBlock ∧ k_ ≠ qh ∧ k_ ≠ qi ∧ k_ ≠ qb) u6 qG) := ⟨h6_⟩
     have n7_ : Aside0 (qK.heap[qh]? = some (.cells #[.int .i64 a0_0, .slice (some qg) l0_1.length c0_1] 28 (0, 0))) := ⟨h7_⟩
     have n8_ : Aside0 (qK.heap[qi]? = some (.cells #[.int .i64 qt, .slice none 0 0] 28 (0, 0))) := ⟨h8_⟩
     have n9_ : Aside0 (qK.heap[qb]? = some (.cells #[.slice none 0 0, .int .i64 0, .bool false] 52 (0, 0))) := ⟨h9_⟩
     have n10_ : Aside0 (w.heap.size ≤ qb) := ⟨h10_⟩
     have n11_ : Aside0 (w.heap.size ≤ qb) := ⟨h11_⟩
     have n12_ : Aside0 (qh ≠ qb) := ⟨h12_⟩
     have n13_ : Aside0 (qb ≠ qh) := ⟨h13_⟩
     have n14_ : Aside0 (qi ≠ qb) := ⟨h14_⟩
     have n15_ : Aside0 (qb ≠ qi) := ⟨h15_⟩
     have n16_ : Aside0 (Below w.heap.size w qK) := ⟨h16_⟩
     clear qm
     clear qa
     clear HL321_0
     clear HL323_0
     clear qc
     clear qf
     clear qj
     clear qk
     clear HB
     clear h0_ h1_ h2_ h3_ h4_ h5_ h6_ h7_ h8_ h9_ h10_ h11_ h12_ h13_ h14_ h15_ h16_
     have HL321_0 := n0_
     have HL323_0 := n1_
     have HL325_0 := n2_
     have HL326_0 := n3_
     have qC := n4_
     have qa := n5_
     have qm := n6_
     have qc := n7_
     have qf := n8_
     have qs := n9_
     have qT := n10_
     have qU := n11_
     have ql := n12_
     have qr := n13_
     have qp := n14_
     have qq := n15_
     have HB := n16_
     clear n0_ n1_ n2_ n3_ n4_ n5_ n6_ n7_ n8_ n9_ n10_ n11_ n12_ n13_ n14_ n15_ n16_
     have hHeld : qK.cell? ⟨qh, 0, none⟩ = some (.int .i64 a0_0) ∧ qK.cell? ⟨qh, 1, none⟩ = some (.slice (some qg) l0_1.length c0_1) ∧ qK.cell? (qg.add ((qe).toNat * 3)) = some (.slice qy ((rd_T52 l0_1 qe).f0).length c325_0) ∧ qK.cell? ⟨(qg.add ((qe).toNat * 3)).block, (qg.add ((qe).toNat * 3)).off + 1, none⟩ = some (.int .i64 ((rd_T52 l0_1 qe).f1)) ∧ qK.cell? ⟨(qg.add ((qe).toNat * 3)).block, (qg.add ((qe).toNat * 3)).off + 2, none⟩ = some (.bool ((rd_T52 l0_1 qe).f2)) ∧ qK.cell? (qg.add ((qd).toNat * 3)) = some (.slice qz ((rd_T52 l0_1 qd).f0).length c326_0) ∧ qK.cell? ⟨(qg.add ((qd).toNat * 3)).block, (qg.add ((qd).toNat * 3)).off + 1, none⟩ = some (.int .i64 ((rd_T52 l0_1 qd).f1)) ∧ qK.cell? ⟨(qg.add ((qd).toNat * 3)).block, (qg.add ((qd).toNat * 3)).off + 2, none⟩ = some (.bool ((rd_T52 l0_1 qd).f2)) := hS_
     obtain ⟨qD, qE, eo46⟩ := Kd.R_slice qC.out
     (first | subst eo46 | (injection eo46 with f1_ f2_ f3_; have f4_ := f1_.symm; have f5_ := f3_.symm; clear f1_ f2_ f3_; subst f4_; subst f5_))
     refine norm_ (a' := ?_) ?_ ?_
     rotate_left
     ·
      simp only [putAll, Act.put, List.setIfInBounds_toArray, List.set_cons_zero, List.set_cons_succ]
      rfl
     refine one_ (i := 18) (N := none) (fl_ 20 524287) rfl rfl (one_of HT_.out (by kernel_rfl)) (by decide) (fun K hK => ?_)
     have hs47 : qK.cell? ⟨qb, 0, none⟩ = some (.slice none 0 0) := bc_ qs 0
     have hfs47 := blk_frozen qs.out 0
     have hns47_0 := ql.out
     have hns47_1 := qp.out
     have hms47_0 := qr.out
     have hms47_1 := qq.out
     have hs48 : qK.cell? ⟨qb, 1, none⟩ = some (.int .i64 0) := bc_ qs 1
     have hfs48 := blk_frozen qs.out 1
     have hns48_0 := ql.out
     have hns48_1 := qp.out
     have hms48_0 := qr.out
     have hms48_1 := qq.out
     have hs49 : qK.cell? ⟨qb, 2, none⟩ = some (.bool false) := bc_ qs 2
     have hfs49 := blk_frozen qs.out 2
     have hns49_0 := ql.out
     have hns49_1 := qp.out
     have hms49_0 := qr.out
     have hms49_1 := qq.out
     refine skip_ (w1 := ?_) (by rfl) rfl ?_ ?_
     rotate_left
     ·
      go_simp
      rfl
     refine hK.out _ _ ⟨(cf3_ (g := qb) ql.out hHeld.1), (cf3_ (g := qb) ql.out hHeld.2.1), (cf3b_ (g := qb) hHeld.2.2.1 (vb_ qa (by have h1_ : 0 ≤ (qd : Int) := od_; have h2_ : qd < (l0_1.length : Int) := od_; omega) (fun _ hk => hk.2.2.2.2.2) (by show 0 < 3; decide)) (by first | rfl | exact add_block _ _)), (cf3b_ (g := qb) hHeld.2.2.2.1 (vb_ qa (by have h1_ : 0 ≤ (qd : Int) := od_; have h2_ : qd < (l0_1.length : Int) := od_; omega) (fun _ hk => hk.2.2.2.2.2) (by show 0 < 3; decide)) (by first | rfl | exact add_block _ _)), (cf3b_ (g := qb) hHeld.2.2.2.2.1 (vb_ qa (by have h1_ : 0 ≤ (qd : Int) := od_; have h2_ : qd < (l0_1.length : Int) := od_; omega) (fun _ hk => hk.2.2.2.2.2) (by show 0 < 3; decide)) (by first | rfl | exact add_block _ _)), (cf3b_ (g := qb) hHeld.2.2.2.2.2.1 (vb_ qa (by have h1_ : 0 ≤ (qd : Int) := od_; have h2_ : qd < (l0_1.length : Int) := od_; omega) (fun _ hk => hk.2.2.2.2.2) (by show 0 < 3; decide)) (by first | rfl | exact add_block _ _)), (cf3b_ (g := qb) hHeld.2.2.2.2.2.2.1 (vb_ qa (by have h1_ : 0 ≤ (qd : Int) := od_; have h2_ : qd < (l0_1.length : Int) := od_; omega) (fun _ hk => hk.2.2.2.2.2) (by show 0 < 3; decide)) (by first | rfl | exact add_block _ _)), (cf3b_ (g := qb) hHeld.2.2.2.2.2.2.2 (vb_ qa (by have h1_ : 0 ≤ (qd : Int) := od_; have h2_ : qd < (l0_1.length : Int) := od_; omega) (fun _ hk => hk.2.2.2.2.2) (by show 0 < 3; decide)) (by first | rfl | exact add_block _ _))⟩ (fun hHeld => ?_)
     clear hK K
     refine pX_ 19 (some 13) (fl_ 20 1048575) HT_ ?_
     refine done_ (done_of HT_.out (by kernel_rfl)) ?_
     have n0_ : Aside0 (Kd.N k52 52 (((qK.setCell ⟨qb, 0, none⟩ (.slice qD qv.length qE)).setCell ⟨qb, 1, none⟩ (.int .i64 qA)).setCell ⟨qb, 2, none⟩ (.bool qB)) w.heap.size (fun k_ => (P0_1_ k_ ∨ w.heap.size ≤ k_) ∧ some k_ ≠ (.slice qD qv.length qE : Value).ownBlock ∧ k_ ≠ qh ∧ k_ ≠ qi ∧ k_ ≠ qb) u6 qG) := ⟨ny_ qm qb (fun _ hk => hk.2.2.2.2) (fun _ hk => ⟨hk.1, ⟨hk.2.1, ⟨hk.2.2.1, ⟨hk.2.2.2.1, hk.2.2.2.2⟩⟩⟩⟩)⟩
     have n1_ : Aside0 (Kd.V k52 52 (((qK.setCell ⟨qb, 0, none⟩ (.slice qD qv.length qE)).setCell ⟨qb, 1, none⟩ (.int .i64 qA)).setCell ⟨qb, 2, none⟩ (.bool qB)) w.heap.size (fun k_ => (P0_1_ k_ ∨ w.heap.size ≤ k_) ∧ some k_ ≠ (u6 : Value).ownBlock ∧ some k_ ≠ (.slice qD qv.length qE : Value).ownBlock ∧ k_ ≠ qh ∧ k_ ≠ qi ∧ k_ ≠ qb) (.slice (some qg) l0_1.length c0_1) l0_1) := ⟨vy_ qa qb (fun _ hk => hk.2.2.2.2.2) (fun _ hk => ⟨hk.1, ⟨hk.2.2.1, ⟨hk.2.1, ⟨hk.2.2.2.1, ⟨hk.2.2.2.2.1, hk.2.2.2.2.2⟩⟩⟩⟩⟩)⟩
     have n2_ : Aside0 (Kd.V (Kd.int .i64) 3 (((qK.setCell ⟨qb, 0, none⟩ (.slice qD qv.length qE)).setCell ⟨qb, 1, none⟩ (.int .i64 qA)).setCell ⟨qb, 2, none⟩ (.bool qB)) w.heap.size (fun k_ => (P0_1_ k_ ∨ w.heap.size ≤ k_) ∧ some k_ ≠ (.slice qD qv.length qE : Value).ownBlock ∧ k_ ≠ qb) (.slice (some q3) ((rd_T52 l0_1 qe).f0).length c321_0) ((rd_T52 l0_1 qe).f0)) := ⟨vy_ HL321_0 qb (fun _ hk => hk.2.2) (fun _ hk => ⟨hk.1, ⟨hk.2.1, hk.2.2⟩⟩)⟩
     have n3_ : Aside0 (Kd.V (Kd.int .i64) 3 (((qK.setCell ⟨qb, 0, none⟩ (.slice qD qv.length qE)).setCell ⟨qb, 1, none⟩ (.int .i64 qA)).setCell ⟨qb, 2, none⟩ (.bool qB)) w.heap.size (fun k_ => (P0_1_ k_ ∨ w.heap.size ≤ k_) ∧ some k_ ≠ (.slice qD qv.length qE : Value).ownBlock ∧ k_ ≠ qb) (.slice (some q4) ((rd_T52 l0_1 qd).f0).length c323_0) ((rd_T52 l0_1 qd).f0)) := ⟨vy_ HL323_0 qb (fun _ hk => hk.2.2) (fun _ hk => ⟨hk.1, ⟨hk.2.1, hk.2.2⟩⟩)⟩
     have n4_ : Aside0 (Kd.V (Kd.int .i64) 3 (((qK.setCell ⟨qb, 0, none⟩ (.slice qD qv.length qE)).setCell ⟨qb, 1, none⟩ (.int .i64 qA)).setCell ⟨qb, 2, none⟩ (.bool qB)) w.heap.size (fun k_ => (P0_1_ k_ ∨ w.heap.size ≤ k_) ∧ some k_ ≠ (u6 : Value).ownBlock ∧ some k_ ≠ (.slice qD qv.length qE : Value).ownBlock ∧ k_ ≠ qh ∧ k_ ≠ qi ∧ k_ ≠ qb) (.slice qy ((rd_T52 l0_1 qe).f0).length c325_0) ((rd_T52 l0_1 qe).f0)) := ⟨vy_ HL325_0 qb (fun _ hk => hk.2.2.2.2.2) (fun _ hk => ⟨hk.1, ⟨hk.2.2.1, ⟨hk.2.1, ⟨hk.2.2.2.1, ⟨hk.2.2.2.2.1, hk.2.2.2.2.2⟩⟩⟩⟩⟩)⟩
     have n5_ : Aside0 (Kd.V (Kd.int .i64) 3 (((qK.setCell ⟨qb, 0, none⟩ (.slice qD qv.length qE)).setCell ⟨qb, 1, none⟩ (.int .i64 qA)).setCell ⟨qb, 2, none⟩ (.bool qB)) w.heap.size (fun k_ => (P0_1_ k_ ∨ w.heap.size ≤ k_) ∧ some k_ ≠ (u6 : Value).ownBlock ∧ some k_ ≠ (.slice qD qv.length qE : Value).ownBlock ∧ k_ ≠ qh ∧ k_ ≠ qi ∧ k_ ≠ qb) (.slice qz ((rd_T52 l0_1 qd).f0).length c326_0) ((rd_T52 l0_1 qd).f0)) := ⟨vy_ HL326_0 qb (fun _ hk => hk.2.2.2.2.2) (fun _ hk => ⟨hk.1, ⟨hk.2.2.1, ⟨hk.2.1, ⟨hk.2.2.2.1, ⟨hk.2.2.2.2.1, hk.2.2.2.2.2⟩⟩⟩⟩⟩)⟩
     have n6_ : Aside0 (Kd.R (Kd.int .i64) 3 (((qK.setCell ⟨qb, 0, none⟩ (.slice qD qv.length qE)).setCell ⟨qb, 1, none⟩ (.int .i64 qA)).setCell ⟨qb, 2, none⟩ (.bool qB)) w.heap.size (fun k_ => (w.heap.size ≤ k_)) (.slice qD qv.length qE) qv) := ⟨by (with_reducible repeat (first | apply Kd.R_alloc | apply Kd.R_drewN | apply Kd.R_drew)); exact Kd.R_mono (Kd.R_far (p := ⟨qb, 2, none⟩) (Kd.R_far (p := ⟨qb, 1, none⟩) (Kd.R_far (p := ⟨qb, 0, none⟩) (Kd.R_types qC.out qs.out (by decide)) (fun _ hk => hk.2) (.slice qD qv.length qE)) (fun _ hk => hk.2) (.int .i64 qA)) (fun _ hk => hk.2) (.bool qB)) (fun _ hk => hk.1)⟩
     have n7_ : Aside0 ((((qK.setCell ⟨qb, 0, none⟩ (.slice qD qv.length qE)).setCell ⟨qb, 1, none⟩ (.int .i64 qA)).setCell ⟨qb, 2, none⟩ (.bool qB)).heap[qh]? = some (.cells #[.int .i64 a0_0, .slice (some qg) l0_1.length c0_1] 28 (0, 0))) := ⟨kf_ qc⟩
     have n8_ : Aside0 ((((qK.setCell ⟨qb, 0, none⟩ (.slice qD qv.length qE)).setCell ⟨qb, 1, none⟩ (.int .i64 qA)).setCell ⟨qb, 2, none⟩ (.bool qB)).heap[qi]? = some (.cells #[.int .i64 qt, .slice none 0 0] 28 (0, 0))) := ⟨kf_ qf⟩
     have n9_ : Aside0 ((((qK.setCell ⟨qb, 0, none⟩ (.slice qD qv.length qE)).setCell ⟨qb, 1, none⟩ (.int .i64 qA)).setCell ⟨qb, 2, none⟩ (.bool qB)).heap[qb]? = some (.cells #[.slice qD qv.length qE, .int .i64 qA, .bool qB] 52 (0, 0))) := ⟨kp_ qs⟩
     have n10_ : Aside0 (Below w.heap.size w (((qK.setCell ⟨qb, 0, none⟩ (.slice qD qv.length qE)).setCell ⟨qb, 1, none⟩ (.int .i64 qA)).setCell ⟨qb, 2, none⟩ (.bool qB))) := ⟨bb_ HB⟩
     generalize (((qK.setCell ⟨qb, 0, none⟩ (.slice qD qv.length qE)).setCell ⟨qb, 1, none⟩ (.int .i64 qA)).setCell ⟨qb, 2, none⟩ (.bool qB)) = Q3 at n0_ n1_ n2_ n3_ n4_ n5_ n6_ n7_ n8_ n9_ n10_ ⊢
     have qm := n0_
     have qa := n1_
     have HL321_0 := n2_
     have HL323_0 := n3_
     have HL325_0 := n4_
     have HL326_0 := n5_
     have qC := n6_
     have qc := n7_
     have qf := n8_
     have qs := n9_
     have HB := n10_
     clear n0_ n1_ n2_ n3_ n4_ n5_ n6_ n7_ n8_ n9_ n10_
     have QF := qr.out
     have QG := ql.out
     have QH := qq.out
     have QI := qp.out
     obtain ⟨jM, jN, jO, jP, jQ, jR⟩ := b3_ qs
     try go_wp2_with (first | ((with_reducible refine gate_builtin (b := .append) (xs := #[.tmp 99, .tmp 101]) rfl ?_); at_builtin; refine Kd.N_append k52 (w0 := w) w.heap.size rfl (.tmp 99) (.tmp 101) 26 52 (.agg #[(.slice none 0 0), (.int .i64 0), (.bool false)]) 40 rfl Try.underlying26 info52 rfl (by decide) (by omega) u6 qG (⟨qv, qA, qB⟩ : S52) [.slice qD qv.length qE, .int .i64 qA, .bool qB] (fun k_ => (P0_1_ k_ ∨ w.heap.size ≤ k_) ∧ k_ ≠ qh ∧ k_ ≠ qi ∧ k_ ≠ qb) (fun k_ => ((fun k_ => (P0_1_ k_ ∨ w.heap.size ≤ k_) ∧ k_ ≠ qh ∧ k_ ≠ qi ∧ k_ ≠ qb)) k_ ∧ some k_ ≠ (u6 : Value).ownBlock) rfl rfl ?aP (fun _ hk => hk) ?aF ?aO ?aB ?aS ?aL ?_; (case aP => exact (k52_mkF _ _ (⟨qv, qA, qB⟩ : S52) (Kd.R_reads' (Kd.R_mono (ok' := (fun k_ => ((fun k_ => (P0_1_ k_ ∨ w.heap.size ≤ k_) ∧ k_ ≠ qh ∧ k_ ≠ qi ∧ k_ ≠ qb)) k_ ∧ some k_ ≠ (u6 : Value).ownBlock)) (Kd.R_types (Kd.R_types (Kd.R_types (Kd.R_apart' (qC.out) (Kd.N_typed qm.out) (by decide)) qc.out (by decide)) qf.out (by decide)) qs.out (by decide)) (fun k_ hk => ⟨⟨(.inr (hk.1.1.1.1)), ⟨hk.1.1.2, ⟨hk.1.2, hk.2⟩⟩⟩, hk.1.1.1.2⟩))).2.1 (Kd.R_F (Kd.R_mono (ok' := (fun k_ => ((fun k_ => (P0_1_ k_ ∨ w.heap.size ≤ k_) ∧ k_ ≠ qh ∧ k_ ≠ qi ∧ k_ ≠ qb)) k_ ∧ some k_ ≠ (u6 : Value).ownBlock)) (Kd.R_types (Kd.R_types (Kd.R_types (Kd.R_apart' (qC.out) (Kd.N_typed qm.out) (by decide)) qc.out (by decide)) qf.out (by decide)) qs.out (by decide)) (fun k_ hk => ⟨⟨(.inr (hk.1.1.1.1)), ⟨hk.1.1.2, ⟨hk.1.2, hk.2⟩⟩⟩, hk.1.1.1.2⟩))))); (case aB => exact (bb_ HB)); (case aF => exact (fun k_ hk => ⟨(.inr (Nat.le_trans (bz_ HB) hk)), Kd.freshB (g := qh) (o := .cells #[.int .i64 a0_0, .slice (some qg) l0_1.length c0_1] 28 (0, 0)) (kf_ qc) k_ hk, Kd.freshB (g := qi) (o := .cells #[.int .i64 qt, .slice none 0 0] 28 (0, 0)) (kf_ qf) k_ hk, Kd.freshB (g := qb) (o := .cells #[.slice qD qv.length qE, .int .i64 qA, .bool qB] 52 (0, 0)) (kf_ qs) k_ hk⟩)); (case aO => exact (by (with_reducible repeat (first | apply Kd.N_alloc | apply Kd.N_drewN | apply Kd.N_drew)); exact Kd.N_mono qm.out (fun _ hk => ⟨hk.1, ⟨hk.2.2.1, ⟨hk.2.2.2.1, hk.2.2.2.2⟩⟩⟩))); (case aS => exact (bz_ HB)); (case aL => have := LMc41.out; omega); intro QV Q4 ho hb hg hat; rw [← Ny334.out] at ho; replace qa := Aside0.mk (Kd.V_afterv (ok := (fun k_ => (P0_1_ k_ ∨ w.heap.size ≤ k_) ∧ some k_ ≠ (.slice qD qv.length qE : Value).ownBlock ∧ k_ ≠ qh ∧ k_ ≠ qi ∧ k_ ≠ qb)) (by (with_reducible repeat (first | apply Kd.V_alloc | apply Kd.V_drewN | apply Kd.V_drew)); exact Kd.V_mono qa.out (fun _ hk => ⟨⟨hk.1, ⟨hk.2.2.1, ⟨hk.2.2.2.1, ⟨hk.2.2.2.2.1, hk.2.2.2.2.2⟩⟩⟩⟩, hk.2.1⟩)) hg hat); replace qc := Aside0.mk (blk_grown (g := qh) (o := .cells #[.int .i64 a0_0, .slice (some qg) l0_1.length c0_1] 28 (0, 0)) (kf_ qc) hg (Kd.N_ne qm.out qc.out (by decide))); replace qf := Aside0.mk (blk_grown (g := qi) (o := .cells #[.int .i64 qt, .slice none 0 0] 28 (0, 0)) (kf_ qf) hg (Kd.N_ne qm.out qf.out (by decide))); replace HL325_0 := Aside0.mk (Kd.V_afterv (ok := (fun k_ => (P0_1_ k_ ∨ w.heap.size ≤ k_) ∧ some k_ ≠ (.slice qD qv.length qE : Value).ownBlock ∧ k_ ≠ qh ∧ k_ ≠ qi ∧ k_ ≠ qb)) (by (with_reducible repeat (first | apply Kd.V_alloc | apply Kd.V_drewN | apply Kd.V_drew)); exact Kd.V_mono HL325_0.out (fun _ hk => ⟨⟨hk.1, ⟨hk.2.2.1, ⟨hk.2.2.2.1, ⟨hk.2.2.2.2.1, hk.2.2.2.2.2⟩⟩⟩⟩, hk.2.1⟩)) hg hat); replace HL326_0 := Aside0.mk (Kd.V_afterv (ok := (fun k_ => (P0_1_ k_ ∨ w.heap.size ≤ k_) ∧ some k_ ≠ (.slice qD qv.length qE : Value).ownBlock ∧ k_ ≠ qh ∧ k_ ≠ qi ∧ k_ ≠ qb)) (by (with_reducible repeat (first | apply Kd.V_alloc | apply Kd.V_drewN | apply Kd.V_drew)); exact Kd.V_mono HL326_0.out (fun _ hk => ⟨⟨hk.1, ⟨hk.2.2.1, ⟨hk.2.2.2.1, ⟨hk.2.2.2.2.1, hk.2.2.2.2.2⟩⟩⟩⟩, hk.2.1⟩)) hg hat); replace qs := Aside0.mk (blk_grown (g := qb) (o := .cells #[.slice qD qv.length qE, .int .i64 qA, .bool qB] 52 (0, 0)) (kf_ qs) hg (Kd.N_away qm.out (fun _ hk => hk.2.2.2.2))); replace HB := Aside0.mk (hb); have zJ := Aside0.mk (ho); clear qm; clear qC; clear ho hb hg hat))
     go_roundg kj29
     case measure => have := HK1.out; have := HK2.out; have := HK3.out; have := HJ29.out; omega
     case rel => exact ⟨(y334), (wrap64 (qd + 1)), (qt), (by first | rfl | (simp; done) | (simp [*]; done)), H', ⟨by have := HK1.out; have := HK2.out; have := HK3.out; have := HJ29.out; omega⟩, ⟨by (with_reducible repeat (first | apply Kd.N_alloc | apply Kd.N_drewN | apply Kd.N_drew)); exact Kd.N_mono zJ.out (fun _ hk => ⟨hk.1, ⟨hk.2.1, hk.2.2.1⟩⟩)⟩, ⟨by (with_reducible repeat (first | apply Kd.V_alloc | apply Kd.V_drewN | apply Kd.V_drew)); exact Kd.V_mono qa.out (fun _ hk => ⟨hk.1.1, ⟨hk.2, ⟨hk.1.2.2.1, hk.1.2.2.2.1⟩⟩⟩)⟩, ⟨kf_ qc⟩, ⟨kf_ qf⟩, ⟨bb_ HB⟩⟩

/-! ### spec_IsEmptyCell: function 23 -/
def spec_IsEmptyCell.l0 : Nat → Int → Int → List (S52) → Option (Bool × Bool)
 | 0, _, _, _ => none
 | k + 1, x5, x344000, x344001 => if x5 ≥ 0 then ((spec_l3Drop.f k x344000 x344001 x5).bind fun qu => (if qu.2.2 = true then (spec_IsEmptyCell.l0 k (wrap64 (x5 - 1)) qu.1 qu.2.1) else (some (false, false)))) else (some (decide ((x344001.length : Int) > 0), true))
def spec_IsEmptyCell.f (k : Nat) (a0_0 : Int) (l0_1 : List (S52)) : Option (Bool × Bool) := (spec_IsCell.f k a0_0 l0_1).bind fun qv => (if qv = true then ((spec_l3Normal.f k a0_0 l0_1).bind fun qo => (spec_IsEmptyCell.l0 k (wrap64 (a0_0 - 1)) qo.1 qo.2)) else (some (false, false)))
theorem spec_IsEmptyCell.mono_l : ∀ k, (∀ y0 y1 y2, LeO (spec_IsEmptyCell.l0 k y0 y1 y2) (spec_IsEmptyCell.l0 (k + 1) y0 y1 y2))
 | 0 => fun _ _ _ r h => by simp [spec_IsEmptyCell.l0] at h
 | k + 1 => by
  have ih0 := spec_IsEmptyCell.mono_l k
  ·
   intro y0 y1 y2
   unfold spec_IsEmptyCell.l0
   repeat' first
   | (with_reducible exact ih0 _ _ _)
   | (with_reducible exact spec_IsCell.mono _ _ _)
   | (with_reducible exact spec_l3Drop.mono _ _ _ _)
   | (with_reducible exact spec_l3Normal.mono _ _ _)
   | (with_reducible exact LeO.refl _)
   | (with_reducible exact LeO.none _)
   | (with_reducible refine LeO.ite ?_ ?_)
   | (with_reducible refine LeO.bind ?_ (fun _ => ?_))
theorem spec_IsEmptyCell.mono : ∀ a0 a1 k, LeO (spec_IsEmptyCell.f k a0 a1) (spec_IsEmptyCell.f (k + 1) a0 a1) := by
 intro a0 a1 k
 have ih0 := spec_IsEmptyCell.mono_l k
 unfold spec_IsEmptyCell.f
 repeat' first
   | (with_reducible exact ih0 _ _ _)
   | (with_reducible exact spec_IsCell.mono _ _ _)
   | (with_reducible exact spec_l3Drop.mono _ _ _ _)
   | (with_reducible exact spec_l3Normal.mono _ _ _)
   | (with_reducible exact LeO.refl _)
   | (with_reducible exact LeO.none _)
   | (with_reducible refine LeO.ite ?_ ?_)
   | (with_reducible refine LeO.bind ?_ (fun _ => ?_))
set_option maxHeartbeats 8000000 in
set_option maxRecDepth 100000 in
theorem spec_IsEmptyCell.calls (k : Nat) (a0_0 : Int) (A0_1 : Option Addr) (c0_1 : Nat) (l0_1 : List (S52)) (r1 : Bool) (r2 : Bool) (w : World) (hr0_1 : Kd.C k52 w A0_1 l0_1.length l0_1) (hc0_1 : l0_1.length ≤ c0_1) (h : spec_IsEmptyCell.f k a0_0 l0_1 = some (r1, r2)) :
  Calls Try.prog 23 #[.agg #[.int .i64 a0_0, .slice A0_1 l0_1.length c0_1]] w fun e w' => e = .returned (.tuple #[.bool r1, .bool r2]) ∧ Below w.heap.size w w' := by
 have hu28 := Try.underlying28
 have qw := Aside0.mk hr0_1
 have qx := Aside0.mk hc0_1
 clear hr0_1 hc0_1
 have HB := Aside0.mk (Below.refl w.heap.size w)
 have H : ((spec_IsCell.f k a0_0 l0_1).bind fun qv => (if qv = true then ((spec_l3Normal.f k a0_0 l0_1).bind fun qo => (spec_IsEmptyCell.l0 k (wrap64 (a0_0 - 1)) qo.1 qo.2)) else (some (false, false)))) = some (r1, r2) := h
 clear h
 replace H := be_ H
 obtain ⟨qv, A20, H⟩ := H
 have A2 := Aside0.mk A20
 clear A20
 by_cases c3 : qv = true
 rotate_left
 ·
  replace c3 := Bool.eq_false_iff.mpr c3
  subst c3
  have H1 : (some (false, false)) = some (r1, r2) := by rw [if_neg (show ¬ (false = true) by decide)] at H; exact H
  clear H
  have H := H1
  clear H1
  simp only [Option.some.injEq, Prod.mk.injEq] at H
  obtain ⟨rfl, rfl⟩ := H
  go_enter Try.func23, Try.ntmps23
  go_wp2_with (first | ((with_reducible refine gate_dst (N := 1) rfl ?_); refine bx_ (cs := #[.int .i64 a0_0, .slice A0_1 l0_1.length c0_1]) (t := 28) ?_; intro qg hg zV hbox hb; have qa := Aside0.mk (hbox); have qD := hz_ HB hg; have qE := hz_ HB hg; replace HB := bS_ HB hb; clear hb hbox hg; obtain ⟨qN, qO, qP, qQ⟩ := b2_ qa) | ((with_reducible refine gate_callee (f := 50) rfl ?_); refine gL_ (some 9) Try.func50 #[.agg #[.int .i64 a0_0, .slice A0_1 l0_1.length c0_1]] ?_; (with_reducible refine (spec_IsCell.calls k a0_0 _ _ l0_1 false _ ?side1 ?side2 A2.out).mono ?_); (case side1 => exact cb_ qw HB); (case side2 => exact qx.out); rintro e zW ⟨rfl, hb⟩; refine ⟨_, rfl, ?_⟩; replace qa := kB_ qa hb; replace HB := bS_ HB hb; clear hb))
  go_ret2
  exact rt_ (bb_ HB)
 subst c3
 have H1 : ((spec_l3Normal.f k a0_0 l0_1).bind fun qo => (spec_IsEmptyCell.l0 k (wrap64 (a0_0 - 1)) qo.1 qo.2)) = some (r1, r2) := by rw [if_pos rfl] at H; exact H
 clear H
 have H := H1
 clear H1
 replace H := be_ H
 obtain ⟨⟨qA, qz⟩, A40, H⟩ := H
 replace H : (spec_IsEmptyCell.l0 k (wrap64 (a0_0 - 1)) qA qz) = some (r1, r2) := H
 have A4 := Aside0.mk A40
 clear A40
 have H' := Aside0.mk H
 clear H
 go_enter Try.func23, Try.ntmps23
 go_wp2_with (first | ((with_reducible refine gate_dst (N := 1) rfl ?_); refine bx_ (cs := #[.int .i64 a0_0, .slice A0_1 l0_1.length c0_1]) (t := 28) ?_; intro qg hg w5 hbox hb; have qa := Aside0.mk (hbox); have qD := hz_ HB hg; have qE := hz_ HB hg; replace HB := bS_ HB hb; clear hb hbox hg; obtain ⟨zn, zo, zp, zq⟩ := b2_ qa) | ((with_reducible refine gate_callee (f := 50) rfl ?_); refine gL_ (some 9) Try.func50 #[.agg #[.int .i64 a0_0, .slice A0_1 l0_1.length c0_1]] ?_; (with_reducible refine (spec_IsCell.calls k a0_0 _ _ l0_1 true _ ?side1 ?side2 A2.out).mono ?_); (case side1 => exact cb_ qw HB); (case side2 => exact qx.out); rintro e w7 ⟨rfl, hb⟩; refine ⟨_, rfl, ?_⟩; replace qa := kB_ qa hb; replace HB := bS_ HB hb; clear hb; obtain ⟨zr, zs, zt, zu⟩ := b2_ qa) | ((with_reducible refine gate_callee (f := 51) rfl ?_); refine gL_ (some 15) Try.func51 #[.int .i64 a0_0, .slice A0_1 l0_1.length c0_1] ?_; (with_reducible refine (spec_l3Normal.calls k a0_0 _ _ l0_1 qA qz _ ?side1 ?side2 A4.out).mono ?_); (case side1 => exact cb_ qw HB); (case side2 => exact qx.out); rintro e w9 ⟨zQ, rfl, ho0, hb⟩; refine ⟨_, rfl, ?_⟩; have qs := Aside0.mk (Kd.V_lower (Kd.V_mono (ok' := fun k_ => k_ ≠ qg) ho0 (fun k_ hk_ => (Kd.freshB (g := qg) (o := .cells #[.int .i64 a0_0, .slice A0_1 l0_1.length c0_1] 28 (0, 0)) (kf_ qa) k_ hk_))) (bz_ HB)); replace qa := kB_ qa hb; replace HB := bS_ HB hb; clear hb ho0) | ((with_reducible refine gate_dst (N := 4) rfl ?_); refine bx_ (cs := #[.int .i64 0, .slice none 0 0]) (t := 28) ?_; intro qf hg zX hbox hb; replace qs := vE_ qs hg hb; have qe := Aside0.mk (hbox); have zy := hz_ HB hg; have zz := hz_ HB hg; replace HB := bS_ HB hb; have qh := nL_ qa hg; have qi := nG_ qa hg; replace qa := kB_ qa hb; clear hb hbox hg; have zA := qi.out; have zB := qh.out; obtain ⟨qR, qS, qT, qU⟩ := b2_ qe; obtain ⟨zv, zw, eo13⟩ := Kd.V_slice qs.out; subst eo13; obtain ⟨qV, qW, qX, qY⟩ := b2_ qa))
 go_loopg [5] k (fun kq v5 w' => ∃ (qj : Int) (qc : Int) (qd : List (S52)) (u344001 : Value), v5 = .int .i64 qj ∧ Aside0 (spec_IsEmptyCell.l0 kq qj qc qd = some (r1, r2)) ∧ Aside0 (kq ≤ k) ∧ Aside0 (Kd.V k52 52 w' w.heap.size (fun k_ => k_ ≠ qg ∧ k_ ≠ qf) u344001 qd) ∧ Aside0 (w'.heap[qg]? = some (.cells #[.int .i64 a0_0, (.slice A0_1 l0_1.length c0_1)] 28 (0, 0))) ∧ Aside0 (w'.heap[qf]? = some (.cells #[.int .i64 qc, u344001] 28 (0, 0))) ∧ Aside0 (Below w.heap.size w w'))
 case atStart => exact ⟨(wrap64 (a0_0 - 1)), (qA), (qz), (.slice zv qz.length zw), (by first | rfl | (simp; done) | (simp [*]; done)), H', ⟨Nat.le_refl _⟩, ⟨vy_ qs qf (fun _ hk => hk.2) (fun _ hk => ⟨hk.1, hk.2⟩)⟩, ⟨kf_ qa⟩, ⟨kp_ qe⟩, ⟨bb_ HB⟩⟩
 clear H'
 obtain ⟨qj, qc, qd, u344001, rfl, HA, HK1, qb, qa, qe, HB⟩ := hrel
 cases gk with
 | zero => exact absurd HA.out (by simp [spec_IsEmptyCell.l0])
 | succ k1 =>
  have H := HA.out
  clear HA
  simp only [spec_IsEmptyCell.l0] at H
  by_cases c15 : qj ≥ 0
  rotate_left
  ·
   rw [if_neg c15] at H
   have qF : decide (0 ≤ qj) = false := decide_eq_false c15
   clear c15
   simp only [Option.some.injEq, Prod.mk.injEq] at H
   obtain ⟨rfl, rfl⟩ := H
   have zC := qi.out
   have zD := qh.out
   obtain ⟨qZ, q0, q1, q2⟩ := b2_ qe
   obtain ⟨zR, zS, eo39⟩ := Kd.V_slice qb.out
   subst eo39
   go_wp2
   go_ret2
   exact rt_ (bb_ HB)
  rw [if_pos c15] at H
  have qF : decide (0 ≤ qj) = true := decide_eq_true c15
  clear c15
  replace H := be_ H
  obtain ⟨⟨qr, qq, qG⟩, A160, H⟩ := H
  replace H : (if qG = true then (spec_IsEmptyCell.l0 k1 (wrap64 (qj - 1)) qr qq) else (some (false, false))) = some (r1, r2) := H
  have A16 := Aside0.mk A160
  clear A160
  by_cases c17 : qG = true
  rotate_left
  ·
   replace c17 := Bool.eq_false_iff.mpr c17
   subst c17
   have H1 : (some (false, false)) = some (r1, r2) := by rw [if_neg (show ¬ (false = true) by decide)] at H; exact H
   clear H
   have H := H1
   clear H1
   simp only [Option.some.injEq, Prod.mk.injEq] at H
   obtain ⟨rfl, rfl⟩ := H
   have zE := qi.out
   have zF := qh.out
   obtain ⟨q3, q4, q5, q6⟩ := b2_ qe
   obtain ⟨qH, qI, eo30⟩ := Kd.V_slice qb.out
   subst eo30
   go_wp2_with (first | ((with_reducible refine gate_callee (f := 60) rfl ?_); refine gL_ (some 26) Try.func60 #[.agg #[.int .i64 qc, .slice qH qd.length qI], .int .i64 qj] ?_; (with_reducible refine (spec_l3Drop.calls k1 qc (fun k_ => (k_ ≠ qg ∧ k_ ≠ qf)) _ _ qd qj qr qq false _ ?side1 A16.out).mono ?_); (case side1 => exact qb.out); rintro e zY ⟨zx, rfl, ho0, hb⟩; refine ⟨_, rfl, ?_⟩; replace qb := vB_ qb hb; have qp := Aside0.mk (Kd.V_lower (Kd.V_mono (ok' := fun k_ => k_ ≠ qg ∧ k_ ≠ qf) ho0 (fun k_ hk_ => ⟨Or.elim hk_ (fun hs_ => hs_.1) (fun hn_ => (Kd.freshB (g := qg) (o := .cells #[.int .i64 a0_0, .slice A0_1 l0_1.length c0_1] 28 (0, 0)) (kf_ qa) k_ hn_)), Or.elim hk_ (fun hs_ => hs_.2) (fun hn_ => (Kd.freshB (g := qf) (o := .cells #[.int .i64 qc, .slice qH qd.length qI] 28 (0, 0)) (kf_ qe) k_ hn_))⟩)) (bz_ HB)); replace qa := kB_ qa hb; replace qe := kB_ qe hb; replace HB := bS_ HB hb; clear hb ho0) | ((with_reducible refine gate_dst (N := 6) rfl ?_); refine bx_ (cs := #[.int .i64 0, .slice none 0 0]) (t := 28) ?_; intro qt hg zZ hbox hb; replace qb := vE_ qb hg hb; replace qp := vE_ qp hg hb; have qy := Aside0.mk (hbox); have qJ := hz_ HB hg; have qK := hz_ HB hg; replace HB := bS_ HB hb; have qk := nL_ qa hg; have ql := nG_ qa hg; replace qa := kB_ qa hb; have qm := nL_ qe hg; have qn := nG_ qe hg; replace qe := kB_ qe hb; clear hb hbox hg; have zG := ql.out; have zH := qk.out; have zI := qn.out; have zJ := qm.out; obtain ⟨q7, q8, q9, za⟩ := b2_ qy; obtain ⟨zT, zU, eo36⟩ := Kd.V_slice qp.out; subst eo36))
   go_ret2
   exact rt_ (bb_ HB)
  subst c17
  have H1 : (spec_IsEmptyCell.l0 k1 (wrap64 (qj - 1)) qr qq) = some (r1, r2) := by rw [if_pos rfl] at H; exact H
  clear H
  have H := H1
  clear H1
  have H' := Aside0.mk H
  clear H
  have zK := qi.out
  have zL := qh.out
  obtain ⟨zb, zc, zd, ze⟩ := b2_ qe
  obtain ⟨qL, qM, eo20⟩ := Kd.V_slice qb.out
  subst eo20
  go_wp2_with (first | ((with_reducible refine gate_callee (f := 60) rfl ?_); refine gL_ (some 26) Try.func60 #[.agg #[.int .i64 qc, .slice qL qd.length qM], .int .i64 qj] ?_; (with_reducible refine (spec_l3Drop.calls k1 qc (fun k_ => (k_ ≠ qg ∧ k_ ≠ qf)) _ _ qd qj qr qq true _ ?side1 A16.out).mono ?_); (case side1 => exact qb.out); rintro e z0 ⟨zx, rfl, ho0, hb⟩; refine ⟨_, rfl, ?_⟩; replace qb := vB_ qb hb; have qp := Aside0.mk (Kd.V_lower (Kd.V_mono (ok' := fun k_ => k_ ≠ qg ∧ k_ ≠ qf) ho0 (fun k_ hk_ => ⟨Or.elim hk_ (fun hs_ => hs_.1) (fun hn_ => (Kd.freshB (g := qg) (o := .cells #[.int .i64 a0_0, .slice A0_1 l0_1.length c0_1] 28 (0, 0)) (kf_ qa) k_ hn_)), Or.elim hk_ (fun hs_ => hs_.2) (fun hn_ => (Kd.freshB (g := qf) (o := .cells #[.int .i64 qc, .slice qL qd.length qM] 28 (0, 0)) (kf_ qe) k_ hn_))⟩)) (bz_ HB)); replace qa := kB_ qa hb; replace qe := kB_ qe hb; replace HB := bS_ HB hb; clear hb ho0) | ((with_reducible refine gate_dst (N := 6) rfl ?_); refine bx_ (cs := #[.int .i64 0, .slice none 0 0]) (t := 28) ?_; intro qt hg z1 hbox hb; replace qb := vE_ qb hg hb; replace qp := vE_ qp hg hb; have qy := Aside0.mk (hbox); have qJ := hz_ HB hg; have qK := hz_ HB hg; replace HB := bS_ HB hb; have qk := nL_ qa hg; have ql := nG_ qa hg; replace qa := kB_ qa hb; have qm := nL_ qe hg; have qn := nG_ qe hg; replace qe := kB_ qe hb; clear hb hbox hg; have zM := ql.out; have zN := qk.out; have zO := qn.out; have zP := qm.out; obtain ⟨zf, zg, zh, zi⟩ := b2_ qy; obtain ⟨qB, qC, eo26⟩ := Kd.V_slice qp.out; subst eo26; obtain ⟨zj, zk, zl, zm⟩ := b2_ qe))
  go_roundg k1
  case measure => have := HK1.out; omega
  case rel => exact ⟨(wrap64 (qj - 1)), (qr), (qq), (.slice qB qq.length qC), (by first | rfl | (simp; done) | (simp [*]; done)), H', ⟨by have := HK1.out; omega⟩, ⟨by (with_reducible repeat (first | apply Kd.V_alloc | apply Kd.V_drewN | apply Kd.V_drew)); exact Kd.V_mono (Kd.V_far (p := ⟨qf, 1, none⟩) (Kd.V_far (p := ⟨qf, 0, none⟩) (Kd.V_far (p := ⟨qt, 1, none⟩) (Kd.V_far (p := ⟨qt, 0, none⟩) (Kd.V_mono (Kd.V_mono qp.out (fun k_ hk => (⟨hk, hk.2⟩ : _ ∧ k_ ≠ qt))) (fun k_ hk => (⟨hk, hk.1.1.2⟩ : _ ∧ k_ ≠ qf))) (fun _ hk => hk.1.2) (.int .i64 qr)) (fun _ hk => hk.1.2) (.slice qB qq.length qC)) (fun _ hk => hk.2) (.int .i64 qr)) (fun _ hk => hk.2) (.slice qB qq.length qC)) (fun _ hk => ⟨hk.1.1.1.1, hk.1.1.1.2⟩)⟩, ⟨kf_ qa⟩, ⟨kp_ qe⟩, ⟨bb_ HB⟩⟩

/-! ### impl_IsNumber: function 106 -/
def impl_IsNumber.f (a0 : Int) : Option (Bool) := if a0 ≥ (-400000000) then (some (decide (a0 ≤ 400000000))) else (some false)
set_option maxHeartbeats 8000000 in
set_option maxRecDepth 100000 in
theorem impl_IsNumber.calls (a0 : Int) (r : Bool) (w : World) (h : impl_IsNumber.f a0 = some r) :
  Calls Try.prog 106 #[.int .i64 a0] w fun e w' => e = .returned (.bool r) ∧ Drawn0 w w' := by
 have H : (if a0 ≥ (-400000000) then (some (decide (a0 ≤ 400000000))) else (some false)) = some r := h
 clear h
 by_cases c2 : a0 ≥ (-400000000)
 ·
  rw [if_pos c2] at H
  have qa : decide ((-400000000) ≤ a0) = true := decide_eq_true c2
  clear c2
  obtain rfl := Option.some.inj H
  go_enter Try.func106, Try.ntmps106
  go_wp2
  go_ret
  exact ⟨by first | rfl | (simp; done) | (simp [*]; done), by repeat (first | exact Drawn0.refl _ | apply Drawn0.step)⟩
 rw [if_neg c2] at H
 have qa : decide ((-400000000) ≤ a0) = false := decide_eq_false c2
 clear c2
 obtain rfl := Option.some.inj H
 go_enter Try.func106, Try.ntmps106
 go_wp2
 go_ret
 exact ⟨by first | rfl | (simp; done) | (simp [*]; done), by repeat (first | exact Drawn0.refl _ | apply Drawn0.step)⟩

/-! ### impl_absolute: function 125 -/
def impl_absolute.f (a0 : Int) : Option (Int) := if a0 < 0 then (some (wrap64 (-a0))) else (some a0)
set_option maxHeartbeats 8000000 in
set_option maxRecDepth 100000 in
theorem impl_absolute.calls (a0 : Int) (r : Int) (w : World) (h : impl_absolute.f a0 = some r) :
  Calls Try.prog 125 #[.int .i64 a0] w fun e w' => e = .returned (.int .i64 r) ∧ Drawn0 w w' := by
 have H : (if a0 < 0 then (some (wrap64 (-a0))) else (some a0)) = some r := h
 clear h
 by_cases c2 : a0 < 0
 ·
  rw [if_pos c2] at H
  have qa : decide (a0 < 0) = true := decide_eq_true c2
  clear c2
  obtain rfl := Option.some.inj H
  go_enter Try.func125, Try.ntmps125
  go_wp2
  go_ret
  exact ⟨by first | rfl | (simp; done) | (simp [*]; done), by repeat (first | exact Drawn0.refl _ | apply Drawn0.step)⟩
 rw [if_neg c2] at H
 have qa : decide (a0 < 0) = false := decide_eq_false c2
 clear c2
 obtain rfl := Option.some.inj H
 go_enter Try.func125, Try.ntmps125
 go_wp2
 go_ret
 exact ⟨by first | rfl | (simp; done) | (simp [*]; done), by repeat (first | exact Drawn0.refl _ | apply Drawn0.step)⟩

/-! ### impl_commonDivisor: function 115 -/
def impl_commonDivisor.l0 : Nat → Int → Int → Option (Int)
 | 0, _, _ => none
 | k + 1, x0, x1 => if x1 = 0 then (some x0) else (impl_commonDivisor.l0 k x1 (Int.tmod x0 x1))
def impl_commonDivisor.f (k : Nat) (a0 : Int) (a1 : Int) : Option (Int) := (impl_absolute.f a0).bind fun qb => ((impl_absolute.f a1).bind fun qc => (impl_commonDivisor.l0 k qb qc))
theorem impl_commonDivisor.mono_l : ∀ k, (∀ y0 y1, LeO (impl_commonDivisor.l0 k y0 y1) (impl_commonDivisor.l0 (k + 1) y0 y1))
 | 0 => fun _ _ r h => by simp [impl_commonDivisor.l0] at h
 | k + 1 => by
  have ih0 := impl_commonDivisor.mono_l k
  ·
   intro y0 y1
   unfold impl_commonDivisor.l0
   repeat' first
   | (with_reducible exact ih0 _ _)
   | (with_reducible exact LeO.refl _)
   | (with_reducible exact LeO.none _)
   | (with_reducible refine LeO.ite ?_ ?_)
   | (with_reducible refine LeO.bind ?_ (fun _ => ?_))
theorem impl_commonDivisor.mono : ∀ a0 a1 k, LeO (impl_commonDivisor.f k a0 a1) (impl_commonDivisor.f (k + 1) a0 a1) := by
 intro a0 a1 k
 have ih0 := impl_commonDivisor.mono_l k
 unfold impl_commonDivisor.f
 repeat' first
   | (with_reducible exact ih0 _ _)
   | (with_reducible exact LeO.refl _)
   | (with_reducible exact LeO.none _)
   | (with_reducible refine LeO.ite ?_ ?_)
   | (with_reducible refine LeO.bind ?_ (fun _ => ?_))
set_option maxHeartbeats 8000000 in
set_option maxRecDepth 100000 in
theorem impl_commonDivisor.calls (k : Nat) (a0 : Int) (a1 : Int) (r : Int) (w : World) (h : impl_commonDivisor.f k a0 a1 = some r) :
  Calls Try.prog 115 #[.int .i64 a0, .int .i64 a1] w fun e w' => e = .returned (.int .i64 r) ∧ Drawn0 w w' := by
 have H : ((impl_absolute.f a0).bind fun qb => ((impl_absolute.f a1).bind fun qc => (impl_commonDivisor.l0 k qb qc))) = some r := h
 clear h
 replace H := be_ H
 obtain ⟨qb, A30, H⟩ := H
 have A3 := Aside0.mk A30
 clear A30
 replace H := be_ H
 obtain ⟨qc, A40, H⟩ := H
 have A4 := Aside0.mk A40
 clear A40
 have H' := Aside0.mk H
 clear H
 go_enter Try.func115, Try.ntmps115
 go_wp2_with (first | (go_at_call 125; (with_reducible refine (impl_absolute.calls a0 qb _ A3.out).mono ?_); rintro e w' ⟨rfl, ⟨nd, rfl⟩⟩; (try first | exact ⟨rfl, _, World.drewN_drewN _ _ _⟩ | exact ⟨rfl, _, Eq.trans (World.drewN_drewN _ _ _) (congrArg (World.drewN _) (Nat.add_assoc _ _ _))⟩)) | (go_at_call 125; (with_reducible refine (impl_absolute.calls a1 qc _ A4.out).mono ?_); rintro e w' ⟨rfl, ⟨nd, rfl⟩⟩; (try first | exact ⟨rfl, _, World.drewN_drewN _ _ _⟩ | exact ⟨rfl, _, Eq.trans (World.drewN_drewN _ _ _) (congrArg (World.drewN _) (Nat.add_assoc _ _ _))⟩)))
 repeat (go_quiet (first | (go_at_call 125; (with_reducible refine (impl_absolute.calls a0 qb _ A3.out).mono ?_); rintro e w' ⟨rfl, ⟨nd, rfl⟩⟩; (try first | exact ⟨rfl, _, World.drewN_drewN _ _ _⟩ | exact ⟨rfl, _, Eq.trans (World.drewN_drewN _ _ _) (congrArg (World.drewN _) (Nat.add_assoc _ _ _))⟩)) | (go_at_call 125; (with_reducible refine (impl_absolute.calls a1 qc _ A4.out).mono ?_); rintro e w' ⟨rfl, ⟨nd, rfl⟩⟩; (try first | exact ⟨rfl, _, World.drewN_drewN _ _ _⟩ | exact ⟨rfl, _, Eq.trans (World.drewN_drewN _ _ _) (congrArg (World.drewN _) (Nat.add_assoc _ _ _))⟩))); try go_wp2_with (first | (go_at_call 125; (with_reducible refine (impl_absolute.calls a0 qb _ A3.out).mono ?_); rintro e w' ⟨rfl, ⟨nd, rfl⟩⟩; (try first | exact ⟨rfl, _, World.drewN_drewN _ _ _⟩ | exact ⟨rfl, _, Eq.trans (World.drewN_drewN _ _ _) (congrArg (World.drewN _) (Nat.add_assoc _ _ _))⟩)) | (go_at_call 125; (with_reducible refine (impl_absolute.calls a1 qc _ A4.out).mono ?_); rintro e w' ⟨rfl, ⟨nd, rfl⟩⟩; (try first | exact ⟨rfl, _, World.drewN_drewN _ _ _⟩ | exact ⟨rfl, _, Eq.trans (World.drewN_drewN _ _ _) (congrArg (World.drewN _) (Nat.add_assoc _ _ _))⟩))))
 go_loopg [0, 1] k (fun kq v0 v1 w' => ∃ (qd : Int) (qa : Int), v0 = .int .i64 qd ∧ v1 = .int .i64 qa ∧ Aside0 (impl_commonDivisor.l0 kq qd qa = some r) ∧ Aside0 (kq ≤ k) ∧ Drawn0 w w')
 case atStart => exact ⟨(qb), (qc), (by first | rfl | (simp; done) | (simp [*]; done)), (by first | rfl | (simp; done) | (simp [*]; done)), H', ⟨Nat.le_refl _⟩, by repeat (first | exact Drawn0.refl _ | apply Drawn0.step)⟩
 clear H'
 obtain ⟨qd, qa, rfl, rfl, HA, HK1, ⟨m1, rfl⟩⟩ := hrel
 cases gk with
 | zero => exact absurd HA.out (by simp [impl_commonDivisor.l0])
 | succ k1 =>
  have H := HA.out
  clear HA
  simp only [impl_commonDivisor.l0] at H
  by_cases c5 : qa = 0
  ·
   rw [if_pos c5] at H
   have qe : (qa == 0) = true := beq_iff_eq.mpr c5
   have qf : (qa != 0) = false := bne_eq_false_iff_eq.mpr c5
   clear c5
   obtain rfl := Option.some.inj H
   go_wp2
   repeat (go_quiet (fail); try go_wp2)
   go_ret
   exact ⟨by first | rfl | (simp; done) | (simp [*]; done), by repeat (first | exact Drawn0.refl _ | apply Drawn0.step)⟩
  rw [if_neg c5] at H
  have qe : (qa == 0) = false := beq_eq_false_iff_ne.mpr c5
  have qf : (qa != 0) = true := bne_iff_ne.mpr c5
  have H' := Aside0.mk H
  clear H
  go_wp2
  repeat (go_quiet (fail); try go_wp2)
  go_roundg k1
  case measure => have := HK1.out; omega
  case rel => exact ⟨(qa), (Int.tmod qd qa), (by first | rfl | (simp; done) | (simp [*]; done)), (by first | rfl | (simp; done) | (simp [*]; done)), H', ⟨by have := HK1.out; omega⟩, by repeat (first | exact Drawn0.refl _ | apply Drawn0.step)⟩

/-! ### impl_divisorOf: function 116 -/
def impl_divisorOf.l0 : Nat → Int → List Int → Int → Int → Option (Int)
 | 0, _, _, _, _ => none
 | k + 1, x3, x6, x7, x8 => if x8 < x7 then (if 0 ≤ x8 then (if x8 < (x6.length : Int) then ((impl_commonDivisor.f k x3 (rd x6 x8)).bind fun qc => (impl_divisorOf.l0 k qc x6 x7 (wrap64 (x8 + 1)))) else (none)) else (none)) else (some x3)
def impl_divisorOf.f (k : Nat) (l0 : List Int) : Option (Int) := impl_divisorOf.l0 k 0 l0 (l0.length : Int) 0
theorem impl_divisorOf.mono_l : ∀ k, (∀ y0 y1 y2 y3, LeO (impl_divisorOf.l0 k y0 y1 y2 y3) (impl_divisorOf.l0 (k + 1) y0 y1 y2 y3))
 | 0 => fun _ _ _ _ r h => by simp [impl_divisorOf.l0] at h
 | k + 1 => by
  have ih0 := impl_divisorOf.mono_l k
  ·
   intro y0 y1 y2 y3
   unfold impl_divisorOf.l0
   repeat' first
   | (with_reducible exact ih0 _ _ _ _)
   | (with_reducible exact impl_commonDivisor.mono _ _ _)
   | (with_reducible exact LeO.refl _)
   | (with_reducible exact LeO.none _)
   | (with_reducible refine LeO.ite ?_ ?_)
   | (with_reducible refine LeO.bind ?_ (fun _ => ?_))
theorem impl_divisorOf.mono : ∀ a0 k, LeO (impl_divisorOf.f k a0) (impl_divisorOf.f (k + 1) a0) := by
 intro a0 k
 have ih0 := impl_divisorOf.mono_l k
 unfold impl_divisorOf.f
 repeat' first
   | (with_reducible exact ih0 _ _ _ _)
   | (with_reducible exact impl_commonDivisor.mono _ _ _)
   | (with_reducible exact LeO.refl _)
   | (with_reducible exact LeO.none _)
   | (with_reducible refine LeO.ite ?_ ?_)
   | (with_reducible refine LeO.bind ?_ (fun _ => ?_))
set_option maxHeartbeats 8000000 in
set_option maxRecDepth 100000 in
theorem impl_divisorOf.calls (k : Nat) (A0 : Option Addr) (c0 : Nat) (l0 : List Int) (r : Int) (w : World) (hr0 : Kd.C (Kd.int .i64) w A0 l0.length l0) (hc0 : l0.length ≤ c0) (h : impl_divisorOf.f k l0 = some r) :
  Calls Try.prog 116 #[.slice A0 l0.length c0] w fun e w' => e = .returned (.int .i64 r) ∧ Drawn0 w w' := by
 have HR0 := Aside0.mk hr0
 have HC0 := Aside0.mk hc0
 clear hr0 hc0
 have H : (impl_divisorOf.l0 k 0 l0 (l0.length : Int) 0) = some r := h
 clear h
 have H' := Aside0.mk H
 clear H
 go_enter Try.func116, Try.ntmps116
 go_wp2
 go_loopg [3, 8] k (fun kq v3 v8 w' => ∃ (qb : Int) (qa : Int), v3 = .int .i64 qb ∧ v8 = .int .i64 qa ∧ Aside0 (impl_divisorOf.l0 kq qb l0 (l0.length : Int) qa = some r) ∧ Aside0 (kq ≤ k) ∧ Drawn0 w w')
 case atStart => exact ⟨(0), (0), (by first | rfl | (simp; done) | (simp [*]; done)), (by first | rfl | (simp; done) | (simp [*]; done)), H', ⟨Nat.le_refl _⟩, by repeat (first | exact Drawn0.refl _ | apply Drawn0.step)⟩
 clear H'
 try clear c1
 obtain ⟨qb, qa, rfl, rfl, HA, HK1, ⟨m1, rfl⟩⟩ := hrel
 cases gk with
 | zero => exact absurd HA.out (by simp [impl_divisorOf.l0])
 | succ k1 =>
  have H := HA.out
  clear HA
  simp only [impl_divisorOf.l0] at H
  by_cases c2 : qa < (l0.length : Int)
  rotate_left
  ·
   rw [if_neg c2] at H
   have qe : decide (qa < (l0.length : Int)) = false := decide_eq_false c2
   clear c2
   obtain rfl := Option.some.inj H
   go_wp2
   go_ret
   exact ⟨by first | rfl | (simp; done) | (simp [*]; done), by repeat (first | exact Drawn0.refl _ | apply Drawn0.step)⟩
  rw [if_pos c2] at H
  have qe : decide (qa < (l0.length : Int)) = true := decide_eq_true c2
  clear c2
  replace H := ip_ H
  obtain ⟨c3, H⟩ := H
  have qg : decide (0 ≤ qa) = true := decide_eq_true c3
  clear c3
  replace H := ip_ H
  obtain ⟨c4, H⟩ := H
  have qh : decide (qa < (l0.length : Int)) = true := decide_eq_true c4
  clear c4
  replace H := be_ H
  obtain ⟨qc, A50, H⟩ := H
  have A5 := Aside0.mk A50
  clear A50
  have H' := Aside0.mk H
  clear H
  have p352 : 0 ≤ (qa : Int) := od_
  have q352 : qa < (l0.length : Int) := od_
  obtain ⟨qf, e352, qd⟩ := Kd.at_int HR0.out qa p352 q352
  cases e352
  replace p352 := eq_true p352
  replace q352 := eq_true q352
  go_wp2_with (first | ((with_reducible refine gate_callee (f := 115) rfl ?_); refine gL_ (some 14) Try.func115 #[.int .i64 qb, .int .i64 (rd l0 qa)] ?_; (with_reducible refine (impl_commonDivisor.calls k1 qb (rd l0 qa) qc _ A5.out).mono ?_); rintro e w' ⟨rfl, ⟨nd, rfl⟩⟩; refine ⟨_, rfl, ?_⟩))
  go_roundg k1
  case measure => have := HK1.out; omega
  case rel => exact ⟨(qc), (wrap64 (qa + 1)), (by first | rfl | (simp; done) | (simp [*]; done)), (by first | rfl | (simp; done) | (simp [*]; done)), H', ⟨by have := HK1.out; omega⟩, by repeat (first | exact Drawn0.refl _ | apply Drawn0.step)⟩

/-! ### CD: function 0 -/
/-- As Below; and the count of draws has not fallen. -/
structure BelowD (w W : World) : Prop extends Below w.heap.size w W where
  dr : w.drawn ≤ W.drawn
theorem BelowD.refl (w : World) : BelowD w w := ⟨Below.refl _ _, Nat.le_refl _⟩
theorem BelowD.grow {w W : World} (h : BelowD w W) : ∃ q os, W = Go.Sort.grow (w.drewN q) os := by
  obtain ⟨hb, hd⟩ := h
  obtain ⟨n, hn⟩ : ∃ n, W.drawn = w.drawn + n := ⟨W.drawn - w.drawn, by omega⟩
  refine ⟨n, W.heap.extract w.heap.size W.heap.size, ?_⟩
  have h1 := hb.os
  have h2 := hb.tape
  have h3 := hb.output
  have hh : W.heap = w.heap ++ W.heap.extract w.heap.size W.heap.size := by
    apply Array.ext_getElem?
    intro i
    by_cases hi : i < w.heap.size
    · rw [Array.getElem?_append_left hi]; exact hb.block i hi
    · rw [Array.getElem?_append_right (by omega), Array.getElem?_extract]
      have := hb.size
      by_cases hi2 : i < W.heap.size
      · rw [if_pos (by omega)]; congr 1; omega
      · rw [if_neg (by omega), Array.getElem?_eq_none (by omega)]
  cases W
  cases w
  simp only [Go.Sort.grow, World.drewN] at *
  subst h1 h2 h3 hn
  rw [← hh]
namespace CD
class LtsD (w W W' : World) : Prop where
  out : BelowD w W → BelowD w W'
instance (w W : World) : LtsD w W W := ⟨fun h => h⟩
instance (w W W' : World) (o : Obj) [k : LtsD w W W'] : LtsD w W (W'.alloc o) := ⟨fun h => ⟨below_alloc (k.out h).1 o, (k.out h).2⟩⟩
instance (w W W' : World) (n : Nat) [k : LtsD w W W'] : LtsD w W (W'.drewN n) := ⟨fun h => ⟨pw_below_drewN (k.out h).1 n, Nat.le_trans (k.out h).2 (Nat.le_add_right _ _)⟩⟩
instance (w W W' : World) [k : LtsD w W W'] : LtsD w W W'.drew := ⟨fun h => ⟨below_drew (k.out h).1, Nat.le_trans (k.out h).2 (Nat.le_succ _)⟩⟩
instance (w W W' : World) (g j : Nat) (v : Value) [k : LtsD w W W'] [h0 : Aside0 (w.heap.size ≤ g)] : LtsD w W (W'.setCell ⟨g, j, none⟩ v) := ⟨fun h => ⟨below_set (k.out h).1 h0.out, (k.out h).2⟩⟩
theorem bb_ {w W W2 : World} (h : Aside0 (BelowD w W)) [k : LtsD w W W2] : BelowD w W2 := k.out h.out
theorem bz_ {w W W2 : World} (h : Aside0 (BelowD w W)) [k : LtsD w W W2] : w.heap.size ≤ W2.heap.size := (bb_ h).1.size
theorem bS_ {w W W2 w2 : World} (h : Aside0 (BelowD w W)) [k : LtsD w W W2] (hb : BelowD W2 w2) : Aside0 (BelowD w w2) := ⟨⟨below_step (bb_ h).1 hb.1, Nat.le_trans (bb_ h).2 hb.2⟩⟩
theorem cb_ {α : Type} {d : Kd α} {w W W2 : World} {A : Option Addr} {n : Nat} {xs : List α} (h : Aside0 (Kd.C d w A n xs)) (hb : Aside0 (BelowD w W)) [k : LtsD w W W2] : Kd.C d W2 A n xs := Kd.C_below h.out (bb_ hb).1
theorem kB_ {W W2 w1 : World} {g : Nat} {o : Obj} (h : Aside0 (W.heap[g]? = some o)) [k : Ltr W W2] (hb : BelowD W2 w1) : Aside0 (w1.heap[g]? = some o) := ⟨kb_ h hb.1⟩
theorem below_drew1 {w W : World} (h : BelowD w W) : BelowD w W.drew := ⟨h.1.drew, Nat.le_trans h.2 (Nat.le_succ _)⟩
theorem box_event {P : Program} {ops : Array Oper} {rest : List Oper} {o : Oper} {a : Act} {Q : Exit → Act → World → Prop} {W : World} (hgd : o.guard = none) {N : Tmp} (_hd : o.dst = some N) {cs : Array Value} {t : TypeId}
    (hrun : (execOp a.eval o).run P W = .ok (.value (.pointer (some ⟨W.heap.size, 0, none⟩))) (W.alloc (.cells cs t (0, 0))))
    (h : ∀ g, g = W.heap.size → ∀ w1, w1.heap[g]? = some (.cells cs t (0, 0)) → BelowD W w1 → wpList P ops Q rest (a.put o.dst (.pointer (some ⟨g, 0, none⟩))) w1) : wpList P ops Q (o :: rest) a W :=
  Kd.event_run hgd hrun (h _ rfl _ (blk_new W _) ⟨below_alloc (Below.refl _ _) _, Nat.le_refl _⟩)
theorem ct_ {w W : World} {a : Addr} {v : Value} (h : Aside0 (BelowD w W)) (hc : w.cell? a = some v) : W.cell? a = some v := (h.out.1.cell (World.block_lt_of_cell? w _ hc)).trans hc
theorem hz_ {w W W2 : World} {g : Nat} (h : Aside0 (BelowD w W)) [k : LtsD w W W2] (e : g = W2.heap.size) : Aside0 (w.heap.size ≤ g) := ⟨e ▸ bz_ h⟩
theorem kF_ {W W2 w1 : World} {g : Nat} {o : Obj} (h : Aside0 (W.heap[g]? = some o)) [k : Blf g W W2] (hb : BelowD W2 w1) : Aside0 (w1.heap[g]? = some o) := ⟨blk_below (kf_ h) hb.1⟩
theorem kP_ {W W2 w1 : World} {g t : Nat} {cs cs0 cs' : Array Value} (h : Aside0 (W.heap[g]? = some (.cells cs t (0, 0)))) [k : Bpt g W W2 cs cs0] (hb : BelowD W2 w1) (e : cs0 = cs' := by rfl) : Aside0 (w1.heap[g]? = some (.cells cs' t (0, 0))) := ⟨blk_below (kp_ h e) hb.1⟩
theorem bx_ {P : Program} {ops : Array Oper} {rest : List Oper} {o : Oper} {a : Act} {Q : Exit → Act → World → Prop} {W : World} {cs : Array Value} {t : TypeId} {N : Tmp}
    (h : ∀ g, g = W.heap.size → ∀ w1, w1.heap[g]? = some (.cells cs t (0, 0)) → BelowD W w1 → wpList P ops Q rest (a.put o.dst (.pointer (some ⟨g, 0, none⟩))) w1)
    (hd : o.dst = some N := by rfl) (hgd : o.guard = none := by rfl)
    (hrun : (execOp a.eval o).run P W = .ok (.value (.pointer (some ⟨W.heap.size, 0, none⟩))) (W.alloc (.cells cs t (0, 0))) := by first | (go_simp; done) | (go_simp; rfl)) : wpList P ops Q (o :: rest) a W := box_event hgd hd hrun h
end CD

/-! ### impl_IsAtom: function 93 -/
mutual
def impl_IsAtom.j0 : Nat → Bool → List Int → Int → Bool → Option (Bool)
 | 0, _, _, _, _ => none
 | k + 1, x14, x355000, x355001, x355002 => if x14 = true then (some false) else (impl_IsAtom.l0 k x355000 (x355000.length : Int) 0 x355000 x355001 x355002)
def impl_IsAtom.l0 : Nat → List Int → Int → Int → List Int → Int → Bool → Option (Bool)
 | 0, _, _, _, _, _, _ => none
 | k + 1, x16, x17, x18, x355000, x355001, x355002 => if x18 < x17 then (if 0 ≤ x18 then (if x18 < (x16.length : Int) then ((impl_IsNumber.f (rd x16 x18)).bind fun qn => (if qn = true then (impl_IsAtom.l0 k x16 x17 (wrap64 (x18 + 1)) x355000 x355001 x355002) else (some false))) else (none)) else (none)) else ((impl_divisorOf.f k x355000).bind fun qd => ((impl_commonDivisor.f k qd x355001).bind fun qi => (some (decide (qi ≤ 1)))))
end
def impl_IsAtom.f (k : Nat) (l0_0 : List Int) (a0_1 : Int) (a0_2 : Bool) : Option (Bool) := if (l0_0.length : Int) > 4 then (impl_IsAtom.j0 k true l0_0 a0_1 a0_2) else ((impl_IsNumber.f a0_1).bind fun qe => (impl_IsAtom.j0 k (!qe) l0_0 a0_1 a0_2))
theorem impl_IsAtom.mono_l : ∀ k, (∀ y0 y1 y2 y3, LeO (impl_IsAtom.j0 k y0 y1 y2 y3) (impl_IsAtom.j0 (k + 1) y0 y1 y2 y3)) ∧ (∀ y0 y1 y2 y3 y4 y5, LeO (impl_IsAtom.l0 k y0 y1 y2 y3 y4 y5) (impl_IsAtom.l0 (k + 1) y0 y1 y2 y3 y4 y5))
 | 0 => ⟨fun _ _ _ _ r h => by simp [impl_IsAtom.j0] at h, fun _ _ _ _ _ _ r h => by simp [impl_IsAtom.l0] at h⟩
 | k + 1 => by
  obtain ⟨ih0, ih1⟩ := impl_IsAtom.mono_l k
  refine ⟨?_, ?_⟩ <;> (intros; first | unfold impl_IsAtom.j0 | unfold impl_IsAtom.l0)
  all_goals
   repeat' first
   | (with_reducible exact ih0 _ _ _ _)
   | (with_reducible exact ih1 _ _ _ _ _ _)
   | (with_reducible exact impl_commonDivisor.mono _ _ _)
   | (with_reducible exact impl_divisorOf.mono _ _)
   | (with_reducible exact LeO.refl _)
   | (with_reducible exact LeO.none _)
   | (with_reducible refine LeO.ite ?_ ?_)
   | (with_reducible refine LeO.bind ?_ (fun _ => ?_))
theorem impl_IsAtom.mono : ∀ a0 a1 a2 k, LeO (impl_IsAtom.f k a0 a1 a2) (impl_IsAtom.f (k + 1) a0 a1 a2) := by
 intro a0 a1 a2 k
 obtain ⟨ih0, ih1⟩ := impl_IsAtom.mono_l k
 unfold impl_IsAtom.f
 repeat' first
   | (with_reducible exact ih0 _ _ _ _)
   | (with_reducible exact ih1 _ _ _ _ _ _)
   | (with_reducible exact impl_commonDivisor.mono _ _ _)
   | (with_reducible exact impl_divisorOf.mono _ _)
   | (with_reducible exact LeO.refl _)
   | (with_reducible exact LeO.none _)
   | (with_reducible refine LeO.ite ?_ ?_)
   | (with_reducible refine LeO.bind ?_ (fun _ => ?_))
namespace CD
set_option maxHeartbeats 8000000 in
set_option maxRecDepth 100000 in
theorem impl_IsAtom.calls (k : Nat) (A0_0 : Option Addr) (c0_0 : Nat) (l0_0 : List Int) (a0_1 : Int) (a0_2 : Bool) (r : Bool) (w : World) (hr0_0 : Kd.C (Kd.int .i64) w A0_0 l0_0.length l0_0) (hc0_0 : l0_0.length ≤ c0_0) (h : impl_IsAtom.f k l0_0 a0_1 a0_2 = some r) :
  Calls Try.prog 93 #[.agg #[.slice A0_0 l0_0.length c0_0, .int .i64 a0_1, .bool a0_2]] w fun e w' => e = .returned (.bool r) ∧ BelowD w w' := by
 have hu52 := Try.underlying52
 have qf := Aside0.mk hr0_0
 have qj := Aside0.mk hc0_0
 clear hr0_0 hc0_0
 have HB := Aside0.mk (BelowD.refl w)
 have H : (if (l0_0.length : Int) > 4 then (impl_IsAtom.j0 k true l0_0 a0_1 a0_2) else ((impl_IsNumber.f a0_1).bind fun qe => (impl_IsAtom.j0 k (!qe) l0_0 a0_1 a0_2))) = some r := h
 clear h
 have HC2 := Aside0.mk H
 clear H
 go_enter Try.func93, Try.ntmps93
 go_upto_region 1 with (first | ((with_reducible refine gate_dst (N := 1) rfl ?_); refine bx_ (cs := #[.slice A0_0 l0_0.length c0_0, .int .i64 a0_1, .bool a0_2]) (t := 52) ?_; intro qg hg w3 hbox hb; have qb := Aside0.mk (hbox); have ql := hz_ HB hg; have qm := hz_ HB hg; replace HB := bS_ HB hb; clear hb hbox hg))
 repeat (go_quiet (first | ((with_reducible refine gate_dst (N := 1) rfl ?_); refine bx_ (cs := #[.slice A0_0 l0_0.length c0_0, .int .i64 a0_1, .bool a0_2]) (t := 52) ?_; intro qg hg w3 hbox hb; have qb := Aside0.mk (hbox); have ql := hz_ HB hg; have qm := hz_ HB hg; replace HB := bS_ HB hb; clear hb hbox hg)); go_upto_region 1 with (first | ((with_reducible refine gate_dst (N := 1) rfl ?_); refine bx_ (cs := #[.slice A0_0 l0_0.length c0_0, .int .i64 a0_1, .bool a0_2]) (t := 52) ?_; intro qg hg w3 hbox hb; have qb := Aside0.mk (hbox); have ql := hz_ HB hg; have qm := hz_ HB hg; replace HB := bS_ HB hb; clear hb hbox hg)))
 (try simp only [Act.put, sa_, s0_, s1_])
 go_cut [14] (fun v14 wc => ∃ (kq : Nat) (qh : Bool), v14 = .bool qh ∧ Aside0 (impl_IsAtom.j0 kq qh l0_0 a0_1 a0_2 = some r) ∧ Aside0 (kq ≤ k) ∧ Aside0 (wc.heap[qg]? = some (.cells #[(.slice A0_0 l0_0.length c0_0), .int .i64 a0_1, .bool a0_2] 52 (0, 0))) ∧ Aside0 (BelowD w wc))
 case first =>
  have H := HC2.out
  clear HC2
  by_cases c4 : (l0_0.length : Int) > 4
  ·
   rw [if_pos c4] at H
   have qk : decide (4 < (l0_0.length : Int)) = true := decide_eq_true c4
   have qw : decide (4 < l0_0.length) = true := decide_eq_true (by omega)
   clear c4
   (first | rw [qk] | (simp only [i64_w, i32_w]; rw [qk]) | skip)
   have H' := Aside0.mk H
   clear H
   obtain ⟨qx, qy, qz, qA, qB, qC⟩ := b3_ qb
   go_wp2
   repeat (go_quiet (fail); try go_wp2)
   go_meet
   case rel => exact ⟨_, (true), (by first | rfl | (simp; done) | (simp [*]; done)), H', ⟨by first | omega | exact Nat.le_refl _⟩, ⟨kf_ qb⟩, ⟨bb_ HB⟩⟩
  rw [if_neg c4] at H
  have qk : decide (4 < (l0_0.length : Int)) = false := decide_eq_false c4
  have qw : decide (4 < l0_0.length) = false := decide_eq_false (by omega)
  clear c4
  (first | rw [qk] | (simp only [i64_w, i32_w]; rw [qk]) | skip)
  replace H := be_ H
  obtain ⟨qe, A60, H⟩ := H
  have A6 := Aside0.mk A60
  clear A60
  have H' := Aside0.mk H
  clear H
  obtain ⟨qD, qE, qF, qG, qH, qI⟩ := b3_ qb
  go_wp2_with (first | (go_at_call 106; (with_reducible refine (impl_IsNumber.calls a0_1 qe _ A6.out).mono ?_); rintro e w' ⟨rfl, ⟨nd, rfl⟩⟩; (try first | exact ⟨rfl, _, World.drewN_drewN _ _ _⟩ | exact ⟨rfl, _, Eq.trans (World.drewN_drewN _ _ _) (congrArg (World.drewN _) (Nat.add_assoc _ _ _))⟩)))
  repeat (go_quiet (first | (go_at_call 106; (with_reducible refine (impl_IsNumber.calls a0_1 qe _ A6.out).mono ?_); rintro e w' ⟨rfl, ⟨nd, rfl⟩⟩; (try first | exact ⟨rfl, _, World.drewN_drewN _ _ _⟩ | exact ⟨rfl, _, Eq.trans (World.drewN_drewN _ _ _) (congrArg (World.drewN _) (Nat.add_assoc _ _ _))⟩))); try go_wp2_with (first | (go_at_call 106; (with_reducible refine (impl_IsNumber.calls a0_1 qe _ A6.out).mono ?_); rintro e w' ⟨rfl, ⟨nd, rfl⟩⟩; (try first | exact ⟨rfl, _, World.drewN_drewN _ _ _⟩ | exact ⟨rfl, _, Eq.trans (World.drewN_drewN _ _ _) (congrArg (World.drewN _) (Nat.add_assoc _ _ _))⟩))))
  go_meet
  case rel => exact ⟨_, (!qe), (by first | rfl | (simp; done) | (simp [*]; done)), H', ⟨by first | omega | exact Nat.le_refl _⟩, ⟨kf_ qb⟩, ⟨bb_ HB⟩⟩
 clear HC2
 obtain ⟨kq, qh, rfl, HA, HJ1, qb, HB⟩ := hcut
 cases kq with
 | zero => exact absurd HA.out (by simp [impl_IsAtom.j0])
 | succ kj1 =>
  have H := HA.out
  clear HA
  simp only [impl_IsAtom.j0] at H
  by_cases c8 : qh = true
  ·
   subst c8
   have H1 : (some false) = some r := by rw [if_pos rfl] at H; exact H
   clear H
   have H := H1
   clear H1
   obtain rfl := Option.some.inj H
   go_wp2
   repeat (go_quiet (fail); try go_wp2)
   go_ret
   exact rt_ (bb_ HB)
  replace c8 := Bool.eq_false_iff.mpr c8
  subst c8
  have H1 : (impl_IsAtom.l0 kj1 l0_0 (l0_0.length : Int) 0 l0_0 a0_1 a0_2) = some r := by rw [if_neg (show ¬ (false = true) by decide)] at H; exact H
  clear H
  have H := H1
  clear H1
  have H' := Aside0.mk H
  clear H
  obtain ⟨qJ, qK, qL, qM, qN, qO⟩ := b3_ qb
  go_wp2
  repeat (go_quiet (fail); try go_wp2)
  go_loopg [18] kj1 (fun kq v18 w' => ∃ (qa : Int), v18 = .int .i64 qa ∧ Aside0 (impl_IsAtom.l0 kq l0_0 (l0_0.length : Int) qa l0_0 a0_1 a0_2 = some r) ∧ Aside0 (kq ≤ kj1) ∧ Aside0 (w'.heap[qg]? = some (.cells #[(.slice A0_0 l0_0.length c0_0), .int .i64 a0_1, .bool a0_2] 52 (0, 0))) ∧ Aside0 (BelowD w w'))
  case atStart => exact ⟨(0), (by first | rfl | (simp; done) | (simp [*]; done)), H', ⟨Nat.le_refl _⟩, ⟨kf_ qb⟩, ⟨bb_ HB⟩⟩
  clear H'
  obtain ⟨qa, rfl, HA, HK2, qb, HB⟩ := hrel
  cases gk with
  | zero => exact absurd HA.out (by simp [impl_IsAtom.l0])
  | succ k2 =>
   have H := HA.out
   clear HA
   simp only [impl_IsAtom.l0] at H
   by_cases c10 : qa < (l0_0.length : Int)
   rotate_left
   ·
    rw [if_neg c10] at H
    have qo : decide (qa < (l0_0.length : Int)) = false := decide_eq_false c10
    clear c10
    replace H := be_ H
    obtain ⟨qd, A150, H⟩ := H
    have A15 := Aside0.mk A150
    clear A150
    replace H := be_ H
    obtain ⟨qi, A160, H⟩ := H
    have A16 := Aside0.mk A160
    clear A160
    obtain rfl := Option.some.inj H
    obtain ⟨qq, qr, qs, qt, qu, qv⟩ := b3_ qb
    go_wp2_with (first | (go_at_call 116; (with_reducible refine (impl_divisorOf.calls k2 _ _ l0_0 qd _ ?side1 ?side2 A15.out).mono ?_); (case side1 => exact cb_ qf HB); (case side2 => exact qj.out); rintro e w' ⟨rfl, ⟨nd, rfl⟩⟩; (try first | exact ⟨rfl, _, World.drewN_drewN _ _ _⟩ | exact ⟨rfl, _, Eq.trans (World.drewN_drewN _ _ _) (congrArg (World.drewN _) (Nat.add_assoc _ _ _))⟩)) | (go_at_call 115; (with_reducible refine (impl_commonDivisor.calls k2 qd a0_1 qi _ A16.out).mono ?_); rintro e w' ⟨rfl, ⟨nd, rfl⟩⟩; (try first | exact ⟨rfl, _, World.drewN_drewN _ _ _⟩ | exact ⟨rfl, _, Eq.trans (World.drewN_drewN _ _ _) (congrArg (World.drewN _) (Nat.add_assoc _ _ _))⟩)))
    repeat (go_quiet (first | (go_at_call 116; (with_reducible refine (impl_divisorOf.calls k2 _ _ l0_0 qd _ ?side1 ?side2 A15.out).mono ?_); (case side1 => exact cb_ qf HB); (case side2 => exact qj.out); rintro e w' ⟨rfl, ⟨nd, rfl⟩⟩; (try first | exact ⟨rfl, _, World.drewN_drewN _ _ _⟩ | exact ⟨rfl, _, Eq.trans (World.drewN_drewN _ _ _) (congrArg (World.drewN _) (Nat.add_assoc _ _ _))⟩)) | (go_at_call 115; (with_reducible refine (impl_commonDivisor.calls k2 qd a0_1 qi _ A16.out).mono ?_); rintro e w' ⟨rfl, ⟨nd, rfl⟩⟩; (try first | exact ⟨rfl, _, World.drewN_drewN _ _ _⟩ | exact ⟨rfl, _, Eq.trans (World.drewN_drewN _ _ _) (congrArg (World.drewN _) (Nat.add_assoc _ _ _))⟩))); try go_wp2_with (first | (go_at_call 116; (with_reducible refine (impl_divisorOf.calls k2 _ _ l0_0 qd _ ?side1 ?side2 A15.out).mono ?_); (case side1 => exact cb_ qf HB); (case side2 => exact qj.out); rintro e w' ⟨rfl, ⟨nd, rfl⟩⟩; (try first | exact ⟨rfl, _, World.drewN_drewN _ _ _⟩ | exact ⟨rfl, _, Eq.trans (World.drewN_drewN _ _ _) (congrArg (World.drewN _) (Nat.add_assoc _ _ _))⟩)) | (go_at_call 115; (with_reducible refine (impl_commonDivisor.calls k2 qd a0_1 qi _ A16.out).mono ?_); rintro e w' ⟨rfl, ⟨nd, rfl⟩⟩; (try first | exact ⟨rfl, _, World.drewN_drewN _ _ _⟩ | exact ⟨rfl, _, Eq.trans (World.drewN_drewN _ _ _) (congrArg (World.drewN _) (Nat.add_assoc _ _ _))⟩))))
    go_ret
    exact rt_ (bb_ HB)
   rw [if_pos c10] at H
   have qo : decide (qa < (l0_0.length : Int)) = true := decide_eq_true c10
   clear c10
   replace H := ip_ H
   obtain ⟨c11, H⟩ := H
   have qP : decide (0 ≤ qa) = true := decide_eq_true c11
   clear c11
   replace H := ip_ H
   obtain ⟨c12, H⟩ := H
   have qQ : decide (qa < (l0_0.length : Int)) = true := decide_eq_true c12
   clear c12
   replace H := be_ H
   obtain ⟨qn, A130, H⟩ := H
   have A13 := Aside0.mk A130
   clear A130
   by_cases c14 : qn = true
   rotate_left
   ·
    replace c14 := Bool.eq_false_iff.mpr c14
    subst c14
    have H1 : (some false) = some r := by rw [if_neg (show ¬ (false = true) by decide)] at H; exact H
    clear H
    have H := H1
    clear H1
    obtain rfl := Option.some.inj H
    have p356 : 0 ≤ (qa : Int) := od_
    have q356 : qa < (l0_0.length : Int) := od_
    obtain ⟨qp, e356, qc⟩ := Kd.at_int qf.out qa p356 q356
    cases e356
    replace qc := ct_ HB qc
    replace p356 := eq_true p356
    replace q356 := eq_true q356
    go_wp2_with (first | (go_at_call 106; (with_reducible refine (impl_IsNumber.calls (rd l0_0 qa) false _ A13.out).mono ?_); rintro e w' ⟨rfl, ⟨nd, rfl⟩⟩; (try first | exact ⟨rfl, _, World.drewN_drewN _ _ _⟩ | exact ⟨rfl, _, Eq.trans (World.drewN_drewN _ _ _) (congrArg (World.drewN _) (Nat.add_assoc _ _ _))⟩)))
    repeat (go_quiet (first | (go_at_call 106; (with_reducible refine (impl_IsNumber.calls (rd l0_0 qa) false _ A13.out).mono ?_); rintro e w' ⟨rfl, ⟨nd, rfl⟩⟩; (try first | exact ⟨rfl, _, World.drewN_drewN _ _ _⟩ | exact ⟨rfl, _, Eq.trans (World.drewN_drewN _ _ _) (congrArg (World.drewN _) (Nat.add_assoc _ _ _))⟩))); try go_wp2_with (first | (go_at_call 106; (with_reducible refine (impl_IsNumber.calls (rd l0_0 qa) false _ A13.out).mono ?_); rintro e w' ⟨rfl, ⟨nd, rfl⟩⟩; (try first | exact ⟨rfl, _, World.drewN_drewN _ _ _⟩ | exact ⟨rfl, _, Eq.trans (World.drewN_drewN _ _ _) (congrArg (World.drewN _) (Nat.add_assoc _ _ _))⟩))))
    go_ret
    exact rt_ (bb_ HB)
   subst c14
   have H1 : (impl_IsAtom.l0 k2 l0_0 (l0_0.length : Int) (wrap64 (qa + 1)) l0_0 a0_1 a0_2) = some r := by rw [if_pos rfl] at H; exact H
   clear H
   have H := H1
   clear H1
   have H' := Aside0.mk H
   clear H
   have p356 : 0 ≤ (qa : Int) := od_
   have q356 : qa < (l0_0.length : Int) := od_
   obtain ⟨qp, e356, qc⟩ := Kd.at_int qf.out qa p356 q356
   cases e356
   replace qc := ct_ HB qc
   replace p356 := eq_true p356
   replace q356 := eq_true q356
   go_wp2_with (first | (go_at_call 106; (with_reducible refine (impl_IsNumber.calls (rd l0_0 qa) true _ A13.out).mono ?_); rintro e w' ⟨rfl, ⟨nd, rfl⟩⟩; (try first | exact ⟨rfl, _, World.drewN_drewN _ _ _⟩ | exact ⟨rfl, _, Eq.trans (World.drewN_drewN _ _ _) (congrArg (World.drewN _) (Nat.add_assoc _ _ _))⟩)))
   repeat (go_quiet (first | (go_at_call 106; (with_reducible refine (impl_IsNumber.calls (rd l0_0 qa) true _ A13.out).mono ?_); rintro e w' ⟨rfl, ⟨nd, rfl⟩⟩; (try first | exact ⟨rfl, _, World.drewN_drewN _ _ _⟩ | exact ⟨rfl, _, Eq.trans (World.drewN_drewN _ _ _) (congrArg (World.drewN _) (Nat.add_assoc _ _ _))⟩))); try go_wp2_with (first | (go_at_call 106; (with_reducible refine (impl_IsNumber.calls (rd l0_0 qa) true _ A13.out).mono ?_); rintro e w' ⟨rfl, ⟨nd, rfl⟩⟩; (try first | exact ⟨rfl, _, World.drewN_drewN _ _ _⟩ | exact ⟨rfl, _, Eq.trans (World.drewN_drewN _ _ _) (congrArg (World.drewN _) (Nat.add_assoc _ _ _))⟩))))
   go_roundg k2
   case measure => have := HJ1.out; have := HK2.out; omega
   case rel => exact ⟨(wrap64 (qa + 1)), (by first | rfl | (simp; done) | (simp [*]; done)), H', ⟨by have := HJ1.out; have := HK2.out; omega⟩, ⟨kf_ qb⟩, ⟨bb_ HB⟩⟩
end CD
theorem impl_IsAtom.calls (k : Nat) (A0_0 : Option Addr) (c0_0 : Nat) (l0_0 : List Int) (a0_1 : Int) (a0_2 : Bool) (r : Bool) (w : World) (hr0_0 : Kd.C (Kd.int .i64) w A0_0 l0_0.length l0_0) (hc0_0 : l0_0.length ≤ c0_0) (h : impl_IsAtom.f k l0_0 a0_1 a0_2 = some r) :
  Calls Try.prog 93 #[.agg #[.slice A0_0 l0_0.length c0_0, .int .i64 a0_1, .bool a0_2]] w fun e w' => e = .returned (.bool r) ∧ Below w.heap.size w w' :=
  (CD.impl_IsAtom.calls k A0_0 c0_0 l0_0 a0_1 a0_2 r w hr0_0 hc0_0 h).mono fun _ _ h_ => ⟨h_.1, h_.2.1⟩
/-! ### impl_IsCell: function 53 -/
mutual
def impl_IsCell.j0 : Nat → Bool → Int → List (S52) → Option (Bool)
 | 0, _, _, _ => none
 | k + 1, x18, x361000, x361001 => if x18 = true then (some false) else (impl_IsCell.l0 k x361001 (x361001.length : Int) 0 x361000 x361001)
def impl_IsCell.l0 : Nat → List (S52) → Int → Int → Int → List (S52) → Option (Bool)
 | 0, _, _, _, _, _ => none
 | k + 1, x20, x21, x22, x361000, x361001 => if x22 < x21 then (if 0 ≤ x22 then (if x22 < (x20.length : Int) then ((impl_IsAtom.f k ((rd_T52 x20 x22).f0) ((rd_T52 x20 x22).f1) ((rd_T52 x20 x22).f2)).bind fun qt => (if qt = true then (if (((rd_T52 x20 x22).f0).length : Int) = x361000 then (impl_IsCell.l0 k x20 x21 (wrap64 (x22 + 1)) x361000 x361001) else (some false)) else (some false))) else (none)) else (none)) else (some true)
end
def impl_IsCell.f (k : Nat) (a0_0 : Int) (l0_1 : List (S52)) : Option (Bool) := if a0_0 < 0 then (impl_IsCell.j0 k true a0_0 l0_1) else (if a0_0 > 4 then (impl_IsCell.j0 k true a0_0 l0_1) else (impl_IsCell.j0 k (decide ((l0_1.length : Int) > 16)) a0_0 l0_1))
theorem impl_IsCell.mono_l : ∀ k, (∀ y0 y1 y2, LeO (impl_IsCell.j0 k y0 y1 y2) (impl_IsCell.j0 (k + 1) y0 y1 y2)) ∧ (∀ y0 y1 y2 y3 y4, LeO (impl_IsCell.l0 k y0 y1 y2 y3 y4) (impl_IsCell.l0 (k + 1) y0 y1 y2 y3 y4))
 | 0 => ⟨fun _ _ _ r h => by simp [impl_IsCell.j0] at h, fun _ _ _ _ _ r h => by simp [impl_IsCell.l0] at h⟩
 | k + 1 => by
  obtain ⟨ih0, ih1⟩ := impl_IsCell.mono_l k
  refine ⟨?_, ?_⟩ <;> (intros; first | unfold impl_IsCell.j0 | unfold impl_IsCell.l0)
  all_goals
   repeat' first
   | (with_reducible exact ih0 _ _ _)
   | (with_reducible exact ih1 _ _ _ _ _)
   | (with_reducible exact impl_IsAtom.mono _ _ _ _)
   | (with_reducible exact LeO.refl _)
   | (with_reducible exact LeO.none _)
   | (with_reducible refine LeO.ite ?_ ?_)
   | (with_reducible refine LeO.bind ?_ (fun _ => ?_))
theorem impl_IsCell.mono : ∀ a0 a1 k, LeO (impl_IsCell.f k a0 a1) (impl_IsCell.f (k + 1) a0 a1) := by
 intro a0 a1 k
 obtain ⟨ih0, ih1⟩ := impl_IsCell.mono_l k
 unfold impl_IsCell.f
 repeat' first
   | (with_reducible exact ih0 _ _ _)
   | (with_reducible exact ih1 _ _ _ _ _)
   | (with_reducible exact impl_IsAtom.mono _ _ _ _)
   | (with_reducible exact LeO.refl _)
   | (with_reducible exact LeO.none _)
   | (with_reducible refine LeO.ite ?_ ?_)
   | (with_reducible refine LeO.bind ?_ (fun _ => ?_))
set_option maxHeartbeats 8000000 in
set_option maxRecDepth 100000 in
theorem impl_IsCell.calls (k : Nat) (a0_0 : Int) (A0_1 : Option Addr) (c0_1 : Nat) (l0_1 : List (S52)) (r : Bool) (w : World) (hr0_1 : Kd.C k52 w A0_1 l0_1.length l0_1) (hc0_1 : l0_1.length ≤ c0_1) (h : impl_IsCell.f k a0_0 l0_1 = some r) :
  Calls Try.prog 53 #[.agg #[.int .i64 a0_0, .slice A0_1 l0_1.length c0_1]] w fun e w' => e = .returned (.bool r) ∧ Below w.heap.size w w' := by
 have hu28 := Try.underlying28
 have hu52 := Try.underlying52
 have qm := Aside0.mk hr0_1
 have zq := Aside0.mk hc0_1
 clear hr0_1 hc0_1
 have HB := Aside0.mk (Below.refl w.heap.size w)
 have H : (if a0_0 < 0 then (impl_IsCell.j0 k true a0_0 l0_1) else (if a0_0 > 4 then (impl_IsCell.j0 k true a0_0 l0_1) else (impl_IsCell.j0 k (decide ((l0_1.length : Int) > 16)) a0_0 l0_1))) = some r := h
 clear h
 have HC2 := Aside0.mk H
 clear H
 go_enter Try.func53, Try.ntmps53
 go_upto_region 1 with (first | ((with_reducible refine gate_dst (N := 1) rfl ?_); (try (refine gate_guard (by rfl) ?_; dsimp only)); refine bx_ (cs := #[.int .i64 a0_0, .slice A0_1 l0_1.length c0_1]) (t := 28) ?_; intro qo hg w3 hbox hb; have qb := Aside0.mk (hbox); have zr := hz_ HB hg; have zs := hz_ HB hg; replace HB := bS_ HB hb; clear hb hbox hg))
 (try simp only [Act.put, sa_, s0_, s1_])
 go_cut [18] (fun v18 wc => ∃ (kq : Nat) (ql : Bool), v18 = .bool ql ∧ Aside0 (impl_IsCell.j0 kq ql a0_0 l0_1 = some r) ∧ Aside0 (kq ≤ k) ∧ Aside0 (wc.heap[qo]? = some (.cells #[.int .i64 a0_0, (.slice A0_1 l0_1.length c0_1)] 28 (0, 0))) ∧ Aside0 (Below w.heap.size w wc))
 case first =>
  have H := HC2.out
  clear HC2
  by_cases c4 : a0_0 < 0
  ·
   rw [if_pos c4] at H
   have qn : decide (a0_0 < 0) = true := decide_eq_true c4
   clear c4
   (first | rw [qn] | (simp only [i64_w, i32_w]; rw [qn]) | skip)
   have H' := Aside0.mk H
   clear H
   obtain ⟨zd, ze, zf, zg⟩ := b2_ qb
   go_wp2
   go_meet
   case rel => exact ⟨_, (true), (by first | rfl | (simp; done) | (simp [*]; done)), H', ⟨by first | omega | exact Nat.le_refl _⟩, ⟨kf_ qb⟩, ⟨bb_ HB⟩⟩
  rw [if_neg c4] at H
  have qn : decide (a0_0 < 0) = false := decide_eq_false c4
  clear c4
  (first | rw [qn] | (simp only [i64_w, i32_w]; rw [qn]) | skip)
  by_cases c6 : a0_0 > 4
  ·
   rw [if_pos c6] at H
   have zh : decide (4 < a0_0) = true := decide_eq_true c6
   clear c6
   have H' := Aside0.mk H
   clear H
   obtain ⟨zi, zj, zk, zl⟩ := b2_ qb
   go_wp2
   go_meet
   case rel => exact ⟨_, (true), (by first | rfl | (simp; done) | (simp [*]; done)), H', ⟨by first | omega | exact Nat.le_refl _⟩, ⟨kf_ qb⟩, ⟨bb_ HB⟩⟩
  rw [if_neg c6] at H
  have zh : decide (4 < a0_0) = false := decide_eq_false c6
  clear c6
  have H' := Aside0.mk H
  clear H
  obtain ⟨zm, zn, zo, zp⟩ := b2_ qb
  go_wp2
  go_meet
  case rel => exact ⟨_, (decide ((l0_1.length : Int) > 16)), (by first | rfl | (simp; done) | (simp [*]; done)), H', ⟨by first | omega | exact Nat.le_refl _⟩, ⟨kf_ qb⟩, ⟨bb_ HB⟩⟩
 clear HC2
 obtain ⟨kq, ql, rfl, HA, HJ1, qb, HB⟩ := hcut
 cases kq with
 | zero => exact absurd HA.out (by simp [impl_IsCell.j0])
 | succ kj1 =>
  have H := HA.out
  clear HA
  simp only [impl_IsCell.j0] at H
  by_cases c9 : ql = true
  ·
   subst c9
   have H1 : (some false) = some r := by rw [if_pos rfl] at H; exact H
   clear H
   have H := H1
   clear H1
   obtain rfl := Option.some.inj H
   go_wp2
   go_ret
   exact rt_ (bb_ HB)
  replace c9 := Bool.eq_false_iff.mpr c9
  subst c9
  have H1 : (impl_IsCell.l0 kj1 l0_1 (l0_1.length : Int) 0 a0_0 l0_1) = some r := by rw [if_neg (show ¬ (false = true) by decide)] at H; exact H
  clear H
  have H := H1
  clear H1
  have H' := Aside0.mk H
  clear H
  obtain ⟨qx, qy, qz, qA⟩ := b2_ qb
  go_wp2
  go_loopg [22] kj1 (fun kq v22 w' => ∃ (qa : Int), v22 = .int .i64 qa ∧ Aside0 (impl_IsCell.l0 kq l0_1 (l0_1.length : Int) qa a0_0 l0_1 = some r) ∧ Aside0 (kq ≤ kj1) ∧ Aside0 (w'.heap[qo]? = some (.cells #[.int .i64 a0_0, (.slice A0_1 l0_1.length c0_1)] 28 (0, 0))) ∧ Aside0 (Below w.heap.size w w'))
  case atStart => exact ⟨(0), (by first | rfl | (simp; done) | (simp [*]; done)), H', ⟨Nat.le_refl _⟩, ⟨kf_ qb⟩, ⟨bb_ HB⟩⟩
  clear H'
  obtain ⟨qa, rfl, HA, HK2, qb, HB⟩ := hrel
  cases gk with
  | zero => exact absurd HA.out (by simp [impl_IsCell.l0])
  | succ k2 =>
   have H := HA.out
   clear HA
   simp only [impl_IsCell.l0] at H
   by_cases c11 : qa < (l0_1.length : Int)
   rotate_left
   ·
    rw [if_neg c11] at H
    have qu : decide (qa < (l0_1.length : Int)) = false := decide_eq_false c11
    clear c11
    obtain rfl := Option.some.inj H
    go_wp2
    go_ret
    exact rt_ (bb_ HB)
   rw [if_pos c11] at H
   have qu : decide (qa < (l0_1.length : Int)) = true := decide_eq_true c11
   clear c11
   replace H := ip_ H
   obtain ⟨c12, H⟩ := H
   have zt : decide (0 ≤ qa) = true := decide_eq_true c12
   clear c12
   replace H := ip_ H
   obtain ⟨c13, H⟩ := H
   have zu : decide (qa < (l0_1.length : Int)) = true := decide_eq_true c13
   clear c13
   replace H := be_ H
   obtain ⟨qt, A140, H⟩ := H
   have A14 := Aside0.mk A140
   clear A140
   by_cases c15 : qt = true
   rotate_left
   ·
    replace c15 := Bool.eq_false_iff.mpr c15
    subst c15
    have H1 : (some false) = some r := by rw [if_neg (show ¬ (false = true) by decide)] at H; exact H
    clear H
    have H := H1
    clear H1
    obtain rfl := Option.some.inj H
    have p361 : 0 ≤ (qa : Int) := od_
    have q361 : qa < (l0_1.length : Int) := od_
    obtain ⟨qp, qi, c361_0, e361, qc, qd, qe, hl361_0, hi361_0⟩ := at_T52 qm.out qa p361 q361
    cases e361
    replace qc := ct_ HB qc
    replace qd := ct_ HB qd
    replace qe := ct_ HB qe
    have qj := Aside0.mk hi361_0
    have qk := Aside0.mk hl361_0
    clear hi361_0 hl361_0
    replace p361 := eq_true p361
    replace q361 := eq_true q361
    go_wp2_with (first | ((with_reducible refine gate_dst (N := 4) rfl ?_); (try (refine gate_guard (by rfl) ?_; dsimp only)); refine bx_ (cs := #[.slice none 0 0, .int .i64 0, .bool false]) (t := 52) ?_; intro qq hg zB hbox hb; have qf := Aside0.mk (hbox); have qr := hz_ HB hg; have qs := hz_ HB hg; replace HB := bS_ HB hb; have qg := nL_ qb hg; have qh := nG_ qb hg; replace qb := kB_ qb hb; clear hb hbox hg; have zv := qh.out; have zw := qg.out; obtain ⟨qB, qC, qD, qE, qF, qG⟩ := b3_ qf) | ((with_reducible refine gate_callee (f := 93) rfl ?_); refine gL_ (some 27) Try.func93 #[.agg #[.slice qi ((rd_T52 l0_1 qa).f0).length c361_0, .int .i64 ((rd_T52 l0_1 qa).f1), .bool ((rd_T52 l0_1 qa).f2)]] ?_; (with_reducible refine (impl_IsAtom.calls k2 _ _ ((rd_T52 l0_1 qa).f0) ((rd_T52 l0_1 qa).f1) ((rd_T52 l0_1 qa).f2) false _ ?side1 ?side2 A14.out).mono ?_); (case side1 => exact Kd.C_below qj.out (bb_ HB)); (case side2 => exact qk.out); rintro e zC ⟨rfl, hb⟩; refine ⟨_, rfl, ?_⟩; replace qb := kF_ qb hb; replace qf := kP_ (cs' := #[.slice qi ((rd_T52 l0_1 qa).f0).length c361_0, .int .i64 ((rd_T52 l0_1 qa).f1), .bool ((rd_T52 l0_1 qa).f2)]) qf hb; replace HB := bS_ HB hb; clear hb))
    go_ret
    exact rt_ (bb_ HB)
   subst c15
   have H1 : (if (((rd_T52 l0_1 qa).f0).length : Int) = a0_0 then (impl_IsCell.l0 k2 l0_1 (l0_1.length : Int) (wrap64 (qa + 1)) a0_0 l0_1) else (some false)) = some r := by rw [if_pos rfl] at H; exact H
   clear H
   have H := H1
   clear H1
   by_cases c16 : (((rd_T52 l0_1 qa).f0).length : Int) = a0_0
   rotate_left
   ·
    rw [if_neg c16] at H
    have qv : ((((rd_T52 l0_1 qa).f0).length : Int) == a0_0) = false := beq_eq_false_iff_ne.mpr c16
    have qw : ((((rd_T52 l0_1 qa).f0).length : Int) != a0_0) = true := bne_iff_ne.mpr c16
    obtain rfl := Option.some.inj H
    have p361 : 0 ≤ (qa : Int) := od_
    have q361 : qa < (l0_1.length : Int) := od_
    obtain ⟨qp, qi, c361_0, e361, qc, qd, qe, hl361_0, hi361_0⟩ := at_T52 qm.out qa p361 q361
    cases e361
    replace qc := ct_ HB qc
    replace qd := ct_ HB qd
    replace qe := ct_ HB qe
    have qj := Aside0.mk hi361_0
    have qk := Aside0.mk hl361_0
    clear hi361_0 hl361_0
    replace p361 := eq_true p361
    replace q361 := eq_true q361
    go_wp2_with (first | ((with_reducible refine gate_dst (N := 4) rfl ?_); (try (refine gate_guard (by rfl) ?_; dsimp only)); refine bx_ (cs := #[.slice none 0 0, .int .i64 0, .bool false]) (t := 52) ?_; intro qq hg zD hbox hb; have qf := Aside0.mk (hbox); have qr := hz_ HB hg; have qs := hz_ HB hg; replace HB := bS_ HB hb; have qg := nL_ qb hg; have qh := nG_ qb hg; replace qb := kB_ qb hb; clear hb hbox hg; have zx := qh.out; have zy := qg.out; obtain ⟨qH, qI, qJ, qK, qL, qM⟩ := b3_ qf) | ((with_reducible refine gate_callee (f := 93) rfl ?_); refine gL_ (some 27) Try.func93 #[.agg #[.slice qi ((rd_T52 l0_1 qa).f0).length c361_0, .int .i64 ((rd_T52 l0_1 qa).f1), .bool ((rd_T52 l0_1 qa).f2)]] ?_; (with_reducible refine (impl_IsAtom.calls k2 _ _ ((rd_T52 l0_1 qa).f0) ((rd_T52 l0_1 qa).f1) ((rd_T52 l0_1 qa).f2) true _ ?side1 ?side2 A14.out).mono ?_); (case side1 => exact Kd.C_below qj.out (bb_ HB)); (case side2 => exact qk.out); rintro e zE ⟨rfl, hb⟩; refine ⟨_, rfl, ?_⟩; replace qb := kF_ qb hb; replace qf := kP_ (cs' := #[.slice qi ((rd_T52 l0_1 qa).f0).length c361_0, .int .i64 ((rd_T52 l0_1 qa).f1), .bool ((rd_T52 l0_1 qa).f2)]) qf hb; replace HB := bS_ HB hb; clear hb; obtain ⟨qN, qO, qP, qQ, qR, qS⟩ := b3_ qf; obtain ⟨qT, qU, qV, qW⟩ := b2_ qb))
    go_ret
    exact rt_ (bb_ HB)
   rw [if_pos c16] at H
   have qv : ((((rd_T52 l0_1 qa).f0).length : Int) == a0_0) = true := beq_iff_eq.mpr c16
   have qw : ((((rd_T52 l0_1 qa).f0).length : Int) != a0_0) = false := bne_eq_false_iff_eq.mpr c16
   clear c16
   have H' := Aside0.mk H
   clear H
   have p361 : 0 ≤ (qa : Int) := od_
   have q361 : qa < (l0_1.length : Int) := od_
   obtain ⟨qp, qi, c361_0, e361, qc, qd, qe, hl361_0, hi361_0⟩ := at_T52 qm.out qa p361 q361
   cases e361
   replace qc := ct_ HB qc
   replace qd := ct_ HB qd
   replace qe := ct_ HB qe
   have qj := Aside0.mk hi361_0
   have qk := Aside0.mk hl361_0
   clear hi361_0 hl361_0
   replace p361 := eq_true p361
   replace q361 := eq_true q361
   go_wp2_with (first | ((with_reducible refine gate_dst (N := 4) rfl ?_); (try (refine gate_guard (by rfl) ?_; dsimp only)); refine bx_ (cs := #[.slice none 0 0, .int .i64 0, .bool false]) (t := 52) ?_; intro qq hg zF hbox hb; have qf := Aside0.mk (hbox); have qr := hz_ HB hg; have qs := hz_ HB hg; replace HB := bS_ HB hb; have qg := nL_ qb hg; have qh := nG_ qb hg; replace qb := kB_ qb hb; clear hb hbox hg; have zz := qh.out; have zA := qg.out; obtain ⟨qX, qY, qZ, q0, q1, q2⟩ := b3_ qf) | ((with_reducible refine gate_callee (f := 93) rfl ?_); refine gL_ (some 27) Try.func93 #[.agg #[.slice qi ((rd_T52 l0_1 qa).f0).length c361_0, .int .i64 ((rd_T52 l0_1 qa).f1), .bool ((rd_T52 l0_1 qa).f2)]] ?_; (with_reducible refine (impl_IsAtom.calls k2 _ _ ((rd_T52 l0_1 qa).f0) ((rd_T52 l0_1 qa).f1) ((rd_T52 l0_1 qa).f2) true _ ?side1 ?side2 A14.out).mono ?_); (case side1 => exact Kd.C_below qj.out (bb_ HB)); (case side2 => exact qk.out); rintro e zG ⟨rfl, hb⟩; refine ⟨_, rfl, ?_⟩; replace qb := kF_ qb hb; replace qf := kP_ (cs' := #[.slice qi ((rd_T52 l0_1 qa).f0).length c361_0, .int .i64 ((rd_T52 l0_1 qa).f1), .bool ((rd_T52 l0_1 qa).f2)]) qf hb; replace HB := bS_ HB hb; clear hb; obtain ⟨q3, q4, q5, q6, q7, q8⟩ := b3_ qf; obtain ⟨q9, za, zb, zc⟩ := b2_ qb))
   go_roundg k2
   case measure => have := HJ1.out; have := HK2.out; omega
   case rel => exact ⟨(wrap64 (qa + 1)), (by first | rfl | (simp; done) | (simp [*]; done)), H', ⟨by have := HJ1.out; have := HK2.out; omega⟩, ⟨kf_ qb⟩, ⟨bb_ HB⟩⟩

/-! ### impl_emptyCell: function 80 -/
def impl_emptyCell.f (a0 : Int) : Option (Int × (List (S52))) := if 0 ≤ a0 then (if (a0 : Int).toNat ≤ 35184372088832 then (some (a0, (([(⟨(List.replicate (a0 : Int).toNat 0), 1, false⟩ : S52)] : List (S52))))) else (none)) else (none)
set_option maxHeartbeats 8000000 in
set_option maxRecDepth 100000 in
theorem impl_emptyCell.calls (a0 : Int) (r1 : Int) (r2 : List (S52)) (w : World) (h : impl_emptyCell.f a0 = some (r1, r2)) :
  Calls Try.prog 80 #[.int .i64 a0] w fun e w' => ∃ v1_ : Value, e = .returned (.agg #[.int .i64 r1, v1_]) ∧ Kd.N k52 52 w' w.heap.size (fun k_ => (w.heap.size ≤ k_)) v1_ r2 ∧ Below w.heap.size w w' := by
 have hu28 := Try.underlying28
 have hu52 := Try.underlying52
 have HB := Aside0.mk (Below.refl w.heap.size w)
 have H : (if 0 ≤ a0 then (if (a0 : Int).toNat ≤ 35184372088832 then (some (a0, (([(⟨(List.replicate (a0 : Int).toNat 0), 1, false⟩ : S52)] : List (S52))))) else (none)) else (none)) = some (r1, r2) := h
 clear h
 replace H := ip_ H
 obtain ⟨c2, H⟩ := H
 have qo := eq_true c2
 have qp : decide (0 ≤ a0) = true := decide_eq_true c2
 clear c2
 replace H := ip_ H
 obtain ⟨c3, H⟩ := H
 have qq := eq_true c3
 have qr : decide ((a0 : Int).toNat ≤ 35184372088832) = true := decide_eq_true c3
 clear c3
 obtain ⟨y365, hy365⟩ : ∃ y_ : List Int, y_ = (List.replicate (a0 : Int).toNat 0) := ⟨_, rfl⟩
 replace H : (some (a0, (([(⟨y365, 1, false⟩ : S52)] : List (S52))))) = some (r1, r2) := by first | (rw [hy365]; with_reducible exact H) | (have H2_ := (Option.bind_some _ _).symm.trans H; rw [hy365]; with_reducible exact H2_) | (have H2_ := (Option.bind_some _ _).symm.trans H; with_reducible exact H2_) | with_reducible exact H | (rw [hy365]; exact H) | exact H
 have Ny365 := Aside0.mk hy365
 clear hy365
 obtain ⟨y368, hy368⟩ : ∃ y_ : List (S52), y_ = (([(⟨y365, 1, false⟩ : S52)] : List (S52))) := ⟨_, rfl⟩
 replace H : (some (a0, y368)) = some (r1, r2) := by first | (rw [hy368]; with_reducible exact H) | (have H2_ := (Option.bind_some _ _).symm.trans H; rw [hy368]; with_reducible exact H2_) | (have H2_ := (Option.bind_some _ _).symm.trans H; with_reducible exact H2_) | with_reducible exact H | (rw [hy368]; exact H) | exact H
 have Ny368 := Aside0.mk hy368
 clear hy368
 simp only [Option.some.injEq, Prod.mk.injEq] at H
 obtain ⟨rfl, rfl⟩ := H
 go_enter Try.func80, Try.ntmps80
 go_wp2_with (first | ((with_reducible refine gate_dst (N := 2) rfl ?_); refine bx_ (cs := #[.int .i64 0, .slice none 0 0]) (t := 28) ?_; intro qb hg w4 hbox hb; have qa := Aside0.mk (hbox); have qk := hz_ HB hg; have ql := hz_ HB hg; replace HB := bS_ HB hb; clear hb hbox hg) | ((with_reducible refine gate_dst (N := 5) rfl ?_); refine Kd.R_make (Kd.int .i64) _ 3 rfl (N := 5) rfl 47 _ _ rfl a0 rfl rfl Try.underlying47 (.int .i64 0) 8 info3 rfl (by decide) (by omega) 0 (ok := fun _ => True) (okp := fun _ => True) rfl (fun _ hk => hk) trivial (od_) (Nat.le_trans (Nat.mul_le_mul_right _ (od_ : a0.toNat ≤ 35184372088832)) (by omega)) (Below.refl _ _) (Nat.le_refl _) ?_; intro qs w5 ho6 hb hg_ hnew_; clear hg_ hnew_; (first | rw [← Ny365.out] at ho6 | (simp only [Int.reduceToNat] at ho6; rw [← Ny365.out] at ho6)); have qc := Aside0.mk (Kd.R_lower (Kd.R_newM (M := fun k_ => (w.heap.size ≤ k_)) ho6 (bz_ HB) (fun k_ h_ => h_)) (bz_ HB)); replace qa := kB_ qa hb; replace HB := bS_ HB hb; clear hb ho6; obtain ⟨qm, qn, eo7⟩ := Kd.R_slice qc.out; subst eo7) | ((with_reducible refine gate_dst (N := 7) rfl ?_); refine Kd.N_lit k52 _ 52 ?hg (N' := 7) ?hd (xs := ([(⟨y365, 1, false⟩ : S52)] : List (S52))) (inner := [.slice qm y365.length qn, .int .i64 1, .bool false]) (ok := (fun k_ => (w.heap.size ≤ k_) ∧ k_ ≠ qb)) (okp := (fun k_ => (w.heap.size ≤ k_) ∧ k_ ≠ qb)) ?hr ?hp (fun _ hk => hk) ((show ∀ k_, w5.heap.size ≤ k_ → (fun k_ => (w.heap.size ≤ k_) ∧ k_ ≠ qb) k_ from fun k_ hk => ⟨(Nat.le_trans (bz_ HB) hk), Kd.freshB (g := qb) (o := .cells #[.int .i64 0, .slice none 0 0] 28 (0, 0)) (kf_ qa) k_ hk⟩) _ (Nat.le_refl _)) (Below.refl _ _) (Nat.le_refl _) (by simp) ?_; (case hd => rfl); (case hg => rfl); (case hr => first | (go_simp; done) | (go_simp; rfl)); (case hp => exact (Reps.c3 (show Kd.FK k52 _ _ (⟨y365, 1, false⟩ : S52) [.slice qm y365.length qn, .int .i64 1, .bool false] from (k52_mkF _ _ (⟨y365, 1, false⟩ : S52) (Kd.R_reads' (Kd.R_mono (ok' := (fun k_ => (w.heap.size ≤ k_) ∧ k_ ≠ qb)) (Kd.R_types (qc.out) qa.out (by decide)) (fun k_ hk => ⟨hk.1.1, hk.2⟩))).2.1 (Kd.R_F (Kd.R_mono (ok' := (fun k_ => (w.heap.size ≤ k_) ∧ k_ ≠ qb)) (Kd.R_types (qc.out) qa.out (by decide)) (fun k_ hk => ⟨hk.1.1, hk.2⟩))))) (Reps.none _ _))); intro qt w8 ho9 hb hg_ hnew_; clear hg_ hnew_; (first | rw [← Ny368.out] at ho9 | (simp only [Int.reduceToNat] at ho9; rw [← Ny368.out] at ho9)); have qd := Aside0.mk (Kd.N_lower ho9 (bz_ HB)); replace qa := kB_ qa hb; replace HB := bS_ HB hb; clear qc; clear hb ho9; obtain ⟨qi, qj, eo10⟩ := Kd.N_slice qd.out; subst eo10; obtain ⟨qe, qf, qg, qh⟩ := b2_ qa))
 refine bodyPost_ret (results_cell_row rfl _ _ qb 28 #[.int .i64 a0, .slice qi y368.length qj] (0, 0) _ rfl (kp_ qa) Try.underlying28 rfl (by kernel_rfl)) rfl ?_
 exact ⟨_, rt_ ⟨ny_ qd qb (fun _ hk => hk.2) (fun _ hk => hk.1), bb_ HB⟩⟩

/-! ### impl_hasVariables: function 94 -/
def impl_hasVariables.f (k : Nat) (l0_0 : List Int) (a0_1 : Int) (a0_2 : Bool) : Option (Bool) := (impl_divisorOf.f k l0_0).bind fun qa => (some (qa != 0))
theorem impl_hasVariables.mono : ∀ a0 a1 a2 k, LeO (impl_hasVariables.f k a0 a1 a2) (impl_hasVariables.f (k + 1) a0 a1 a2) := by
 intro a0 a1 a2 k
 unfold impl_hasVariables.f
 repeat' first
   | (with_reducible exact impl_divisorOf.mono _ _)
   | (with_reducible exact LeO.refl _)
   | (with_reducible exact LeO.none _)
   | (with_reducible refine LeO.ite ?_ ?_)
   | (with_reducible refine LeO.bind ?_ (fun _ => ?_))
set_option maxHeartbeats 8000000 in
set_option maxRecDepth 100000 in
theorem impl_hasVariables.calls (k : Nat) (A0_0 : Option Addr) (c0_0 : Nat) (l0_0 : List Int) (a0_1 : Int) (a0_2 : Bool) (r : Bool) (w : World) (hr0_0 : Kd.C (Kd.int .i64) w A0_0 l0_0.length l0_0) (hc0_0 : l0_0.length ≤ c0_0) (h : impl_hasVariables.f k l0_0 a0_1 a0_2 = some r) :
  Calls Try.prog 94 #[.agg #[.slice A0_0 l0_0.length c0_0, .int .i64 a0_1, .bool a0_2]] w fun e w' => e = .returned (.bool r) ∧ Below w.heap.size w w' := by
 have hu52 := Try.underlying52
 have qb := Aside0.mk hr0_0
 have qc := Aside0.mk hc0_0
 clear hr0_0 hc0_0
 have HB := Aside0.mk (Below.refl w.heap.size w)
 have H : ((impl_divisorOf.f k l0_0).bind fun qa => (some (qa != 0))) = some r := h
 clear h
 replace H := be_ H
 obtain ⟨qa, A20, H⟩ := H
 have A2 := Aside0.mk A20
 clear A20
 obtain rfl := Option.some.inj H
 go_enter Try.func94, Try.ntmps94
 go_wp2_with (first | ((with_reducible refine gate_dst (N := 1) rfl ?_); refine bx_ (cs := #[.slice A0_0 l0_0.length c0_0, .int .i64 a0_1, .bool a0_2]) (t := 52) ?_; intro qk hg w3 hbox hb; have qd := Aside0.mk (hbox); have ql := hz_ HB hg; have qm := hz_ HB hg; replace HB := bS_ HB hb; clear hb hbox hg; obtain ⟨qe, qf, qg, qh, qi, qj⟩ := b3_ qd) | ((with_reducible refine gate_callee (f := 116) rfl ?_); refine gL_ (some 5) Try.func116 #[.slice A0_0 l0_0.length c0_0] ?_; (with_reducible refine (impl_divisorOf.calls k _ _ l0_0 qa _ ?side1 ?side2 A2.out).mono ?_); (case side1 => exact cb_ qb HB); (case side2 => exact qc.out); rintro e w' ⟨rfl, ⟨nd, rfl⟩⟩; refine ⟨_, rfl, ?_⟩))
 go_ret
 exact rt_ (bb_ HB)

/-! ### impl_copyNumbers: function 117 -/
def impl_copyNumbers.f (l0 : List Int) : Option (List Int) := (some (([] : List Int) : List Int)).bind fun y373 => (if y373.length + l0.length < 17592186044416 then (some (y373 ++ l0)) else (none))
set_option maxHeartbeats 8000000 in
set_option maxRecDepth 100000 in
theorem impl_copyNumbers.calls (A0 : Option Addr) (c0 : Nat) (l0 : List Int) (r : List Int) (w : World) (hr0 : Kd.C (Kd.int .i64) w A0 l0.length l0) (hc0 : l0.length ≤ c0) (h : impl_copyNumbers.f l0 = some r) :
  Calls Try.prog 117 #[.slice A0 l0.length c0] w fun e w' => ∃ v0_ : Value, e = .returned (v0_) ∧ Kd.R (Kd.int .i64) 3 w' w.heap.size (fun _ => True) v0_ r ∧ Below w.heap.size w w' := by
 have HR0 := Aside0.mk hr0
 have HC0 := Aside0.mk hc0
 clear hr0 hc0
 have HB := Aside0.mk (Below.refl w.heap.size w)
 have H : ((some (([] : List Int) : List Int)).bind fun y373 => (if y373.length + l0.length < 17592186044416 then (some (y373 ++ l0)) else (none))) = some r := h
 clear h
 obtain ⟨y373, hy373⟩ : ∃ y_ : List Int, y_ = (([] : List Int)) := ⟨_, rfl⟩
 replace H : (if y373.length + l0.length < 17592186044416 then (some (y373 ++ l0)) else (none)) = some r := by first | (rw [hy373]; with_reducible exact H) | (have H2_ := (Option.bind_some _ _).symm.trans H; rw [hy373]; with_reducible exact H2_) | (have H2_ := (Option.bind_some _ _).symm.trans H; with_reducible exact H2_) | with_reducible exact H | (rw [hy373]; exact H) | exact H
 have Ny373 := Aside0.mk hy373
 clear hy373
 replace H := ip_ H
 obtain ⟨c2, H⟩ := H
 have LMc2 := Aside0.mk c2
 clear c2
 obtain ⟨y376, hy376⟩ : ∃ y_ : List Int, y_ = (y373 ++ l0) := ⟨_, rfl⟩
 replace H : (some y376) = some r := by first | (rw [hy376]; with_reducible exact H) | (have H2_ := (Option.bind_some _ _).symm.trans H; rw [hy376]; with_reducible exact H2_) | (have H2_ := (Option.bind_some _ _).symm.trans H; with_reducible exact H2_) | with_reducible exact H | (rw [hy376]; exact H) | exact H
 have Ny376 := Aside0.mk hy376
 clear hy376
 obtain rfl := Option.some.inj H
 go_enter Try.func117, Try.ntmps117
 go_wp2_with (first | ((with_reducible refine gate_dst (N := 3) rfl ?_); refine Kd.R_lit (Kd.int .i64) _ 3 ?hg (N := 3) ?hd (xs := ([] : List Int)) (inner := []) (ok := fun _ => True) (okp := fun _ => True) ?hr ?hp (fun _ hk => hk) trivial (Below.refl _ _) (Nat.le_refl _) (by simp) ?_; (case hd => rfl); (case hg => rfl); (case hr => first | (go_simp; done) | (go_simp; rfl)); (case hp => exact (Reps.none _ _)); intro qc w3 ho4 hb hg_ hnew_; clear hg_ hnew_; (first | rw [← Ny373.out] at ho4 | (simp only [Int.reduceToNat] at ho4; rw [← Ny373.out] at ho4)); have qa := Aside0.mk (Kd.R_lower ho4 (bz_ HB)); replace HB := bS_ HB hb; clear hb ho4) | ((with_reducible refine gate_builtin (b := .append) (xs := #[.tmp 3, .tmp 4]) rfl ?_); at_builtin; refine Kd.R_append_rows (Kd.int .i64) (w0 := w) w.heap.size rfl (.tmp 3) (.tmp 4) 47 3 (.int .i64 0) 8 rfl Try.underlying47 info3 rfl (by decide) (by omega) qc y373 l0 _ _ _ (fun _ => True) (fun _ => False) rfl rfl ?aO ?aR (fun _ _ h => h) (fun _ h => h.elim) ?aF ?aB ?aS ?aL ?_; (case aR => exact cb_ HR0 HB); (case aB => exact (bb_ HB)); (case aF => exact (fun _ _ => trivial)); (case aO => exact (rm_ qa)); (case aS => exact (bz_ HB)); (case aL => have := LMc2.out; omega); intro qd w5 ho hb hg hat; rw [← Ny376.out] at ho; replace HB := Aside0.mk (hb); have qb := Aside0.mk (ho); clear qa; clear ho hb hg hat))
 go_ret
 exact ⟨_, rt_ ⟨by (with_reducible repeat (first | apply Kd.R_alloc | apply Kd.R_drewN | apply Kd.R_drew)); exact qb.out, bb_ HB⟩⟩

/-! ### impl_copyAtom: function 95 -/
def impl_copyAtom.f (l0_0 : List Int) (a0_1 : Int) (a0_2 : Bool) : Option (List Int × Int × Bool) := (impl_copyNumbers.f l0_0).bind fun qf => (some (qf, a0_1, a0_2))
def impl_copyAtom.T1 : Bool × List (List Nat × List Nat) := (true, [([], []), ([0], [0]), ([1], [1]), ([], []), ([3], [3]), ([], []), ([5], [5]), ([2, 4, 6], [2, 4, 6]), ([7, 2, 0, 1, 2, 3, 4, 5, 6, 7], [7])])
def impl_copyAtom.B1 : List Nat := [0, 1, 3, 0, 8, 0, 32, 127, 255]
theorem impl_copyAtom.tab1 : rtab .any (opsOf Try.f95 1) = impl_copyAtom.T1 := by kernel_rfl
theorem impl_copyAtom.bits1 : waitsOk impl_copyAtom.T1.2 impl_copyAtom.B1 = true := by kernel_rfl
set_option maxHeartbeats 8000000 in
set_option maxRecDepth 100000 in
theorem impl_copyAtom.calls (A0_0 : Option Addr) (c0_0 : Nat) (l0_0 : List Int) (a0_1 : Int) (a0_2 : Bool) (r1 : List Int) (r2 : Int) (r3 : Bool) (w : World) (hr0_0 : Kd.C (Kd.int .i64) w A0_0 l0_0.length l0_0) (hc0_0 : l0_0.length ≤ c0_0) (h : impl_copyAtom.f l0_0 a0_1 a0_2 = some (r1, r2, r3)) :
  Calls Try.prog 95 #[.agg #[.slice A0_0 l0_0.length c0_0, .int .i64 a0_1, .bool a0_2]] w fun e w' => ∃ v0_ : Value, e = .returned (.agg #[v0_, .int .i64 r2, .bool r3]) ∧ Kd.R (Kd.int .i64) 3 w' w.heap.size (fun _ => True) v0_ r1 ∧ Below w.heap.size w w' := by
 have hu52 := Try.underlying52
 have qi := Aside0.mk hr0_0
 have qj := Aside0.mk hc0_0
 clear hr0_0 hc0_0
 have HB := Aside0.mk (Below.refl w.heap.size w)
 have H : ((impl_copyNumbers.f l0_0).bind fun qf => (some (qf, a0_1, a0_2))) = some (r1, r2, r3) := h
 clear h
 replace H := be_ H
 obtain ⟨qf, A20, H⟩ := H
 have A2 := Aside0.mk A20
 clear A20
 simp only [Option.some.injEq, Prod.mk.injEq] at H
 obtain ⟨rfl, rfl, rfl⟩ := H
 go_enter Try.func95, Try.ntmps95
 try go_wp2_with (first | ((with_reducible refine gate_dst (N := 1) rfl ?_); refine bx_ (cs := #[.slice A0_0 l0_0.length c0_0, .int .i64 a0_1, .bool a0_2]) (t := 52) ?_; intro qg hg w3 hbox hb; have qb := Aside0.mk (hbox); have qk := hz_ HB hg; have ql := hz_ HB hg; replace HB := bS_ HB hb; clear hb hbox hg) | ((with_reducible refine gate_dst (N := 2) rfl ?_); refine bx_ (cs := #[.slice none 0 0, .int .i64 0, .bool false]) (t := 52) ?_; intro qe hg w4 hbox hb; have qc := Aside0.mk (hbox); have qm := hz_ HB hg; have qn := hz_ HB hg; replace HB := bS_ HB hb; have qa := nL_ qb hg; have qd := nG_ qb hg; replace qb := kB_ qb hb; clear hb hbox hg))
 replace qb := Aside0.mk (blk_drew qb.out); replace qc := Aside0.mk (blk_drew qc.out); replace HB := Aside0.mk (below_drew1 HB.out)
 refine start_ (n := 9) (S := fun w' => w'.cell? ⟨qg, 0, none⟩ = some (.slice A0_0 l0_0.length c0_0) ∧ w'.cell? ⟨qg, 1, none⟩ = some (.int .i64 a0_1) ∧ w'.cell? ⟨qg, 2, none⟩ = some (.bool a0_2)) (ds := []) (fl_ 9 0) (by kernel_rfl) rfl rfl ⟨bc_ qb 0, bc_ qb 1, bc_ qb 2⟩ (fun hHeld => ?_); refine with_tabW impl_copyAtom.tab1 impl_copyAtom.bits1 (fun HT_ HW_ => ?_)
 generalize w4.drew = w5 at qb qc HB hHeld ⊢
 refine pX_ 0 (some 3) (fl_ 9 1) HT_ ?_
 refine pX_ 3 (some 6) (fl_ 9 9) HT_ ?_
 refine pX_ 5 (some 8) (fl_ 9 41) HT_ ?_
 refine tX_ 1 (some 4) (fl_ 9 43) rfl rfl HT_ HW_ hHeld (by rintro w' ⟨s0, s1, s2⟩; go_simp; with_reducible rfl) ?_
 refine tX_ 4 (some 7) (fl_ 9 59) rfl rfl HT_ HW_ hHeld (by rintro w' ⟨s0, s1, s2⟩; go_simp; with_reducible rfl) ?_
 refine tX_ 6 (some 9) (fl_ 9 123) rfl rfl HT_ HW_ hHeld (by rintro w' ⟨s0, s1, s2⟩; go_simp; with_reducible rfl) ?_
 refine one_ (i := 2) (N := some 5) (fl_ 9 127) rfl rfl (one_of HT_.out (by kernel_rfl)) (by decide) (fun K hK => ?_)
 refine goes_ Try.func117 (by kernel_rfl) rfl #[.slice A0_0 l0_0.length c0_0] (by rfl) rfl rfl (by (try simp only [List.map_toArray, List.map_cons, List.map_nil]); first | done | rfl | (simp only [List.length_drop, List.length_take]; rfl)) ?_
 with_reducible refine (impl_copyNumbers.calls _ _ l0_0 qf _ ?side1 ?side2 A2.out).mono ?_
 (case side1 => exact cb_ qi HB)
 (case side2 => exact qj.out)
 rintro e w6 ⟨qo, rfl, ho0, hb⟩
 refine ⟨_, rfl, ?_⟩
 have qh := Aside0.mk (Kd.R_lower ho0 (bz_ HB)); replace qb := kB_ qb hb; replace qc := kB_ qc hb; replace HB := bS_ HB hb; (try clear hb); (try clear hb2); (try clear hk); (try clear hi); (try clear ho0)
 obtain ⟨qp, qq, eo7⟩ := Kd.R_slice qh.out
 (first | subst eo7 | (injection eo7 with f1_ f2_ f3_; have f4_ := f1_.symm; have f5_ := f3_.symm; clear f1_ f2_ f3_; subst f4_; subst f5_))
 refine hK.out _ _ ⟨bc_ qb 0, bc_ qb 1, bc_ qb 2⟩ (fun hHeld => ?_)
 clear hK K
 refine norm_ (a' := ?_) ?_ ?_
 rotate_left
 ·
  show Act.put _ (some 5) _ = _
  simp only [Act.put, sa_, s0_, s1_, i64_w, i32_w]
  rfl
 refine pX_ 7 (some 10) (fl_ 9 255) HT_ ?_
 refine one_ (i := 8) (N := none) (fl_ 9 511) rfl rfl (one_of HT_.out (by kernel_rfl)) (by decide) (fun K hK => ?_)
 have hs8 : w6.cell? ⟨qe, 0, none⟩ = some (.slice none 0 0) := bc_ qc 0
 have hfs8 := blk_frozen qc.out 0
 have hns8_0 := qa.out
 have hms8_0 := qd.out
 have hs9 : w6.cell? ⟨qe, 1, none⟩ = some (.int .i64 0) := bc_ qc 1
 have hfs9 := blk_frozen qc.out 1
 have hns9_0 := qa.out
 have hms9_0 := qd.out
 have hs10 : w6.cell? ⟨qe, 2, none⟩ = some (.bool false) := bc_ qc 2
 have hfs10 := blk_frozen qc.out 2
 have hns10_0 := qa.out
 have hms10_0 := qd.out
 refine skip_ (w1 := ?_) (by rfl) rfl ?_ ?_
 rotate_left
 ·
  go_simp
  rfl
 refine hK.out _ _ ⟨(cf3_ (g := qe) qa.out hHeld.1), (cf3_ (g := qe) qa.out hHeld.2.1), (cf3_ (g := qe) qa.out hHeld.2.2)⟩ (fun hHeld => ?_)
 clear hK K
 refine done_ (done_of HT_.out (by kernel_rfl)) ?_
 try go_wp2
 refine bodyPost_ret (results_cell_row rfl _ _ qe 52 #[.slice qp qf.length qq, .int .i64 a0_1, .bool a0_2] (0, 0) _ rfl (kp_ qc) Try.underlying52 rfl (by kernel_rfl)) rfl ?_
 exact ⟨_, rt_ ⟨Kd.R_mono (rg_ qh qc) (fun _ hk => trivial), bb_ HB⟩⟩

-- NOT PRINTED: function 126 (impl_Atom_126)

-- NOT PRINTED: function 137 (impl_Atom_137)

-- NOT PRINTED: function 127 (impl_Atom_127)

/-! ### impl_sign: function 120 -/
def impl_sign.f (a0 : Int) (a1 : Int) : Option (Int) := if a0 < a1 then (some (-1)) else (if a0 > a1 then (some 1) else (some 0))
set_option maxHeartbeats 8000000 in
set_option maxRecDepth 100000 in
theorem impl_sign.calls (a0 : Int) (a1 : Int) (r : Int) (w : World) (h : impl_sign.f a0 a1 = some r) :
  Calls Try.prog 120 #[.int .i64 a0, .int .i64 a1] w fun e w' => e = .returned (.int .i64 r) ∧ Drawn0 w w' := by
 have H : (if a0 < a1 then (some (-1)) else (if a0 > a1 then (some 1) else (some 0))) = some r := h
 clear h
 by_cases c3 : a0 < a1
 ·
  rw [if_pos c3] at H
  have qa : decide (a0 < a1) = true := decide_eq_true c3
  clear c3
  obtain rfl := Option.some.inj H
  go_enter Try.func120, Try.ntmps120
  go_wp2
  go_ret
  exact ⟨by first | rfl | (simp; done) | (simp [*]; done), by repeat (first | exact Drawn0.refl _ | apply Drawn0.step)⟩
 rw [if_neg c3] at H
 have qa : decide (a0 < a1) = false := decide_eq_false c3
 clear c3
 by_cases c4 : a0 > a1
 ·
  rw [if_pos c4] at H
  have qb : decide (a1 < a0) = true := decide_eq_true c4
  clear c4
  obtain rfl := Option.some.inj H
  go_enter Try.func120, Try.ntmps120
  go_wp2
  go_ret
  exact ⟨by first | rfl | (simp; done) | (simp [*]; done), by repeat (first | exact Drawn0.refl _ | apply Drawn0.step)⟩
 rw [if_neg c4] at H
 have qb : decide (a1 < a0) = false := decide_eq_false c4
 clear c4
 obtain rfl := Option.some.inj H
 go_enter Try.func120, Try.ntmps120
 go_wp2
 go_ret
 exact ⟨by first | rfl | (simp; done) | (simp [*]; done), by repeat (first | exact Drawn0.refl _ | apply Drawn0.step)⟩

/-! ### impl_directionDivisor: function 121 -/
def impl_directionDivisor.f (k : Nat) (l0_0 : List Int) (a0_1 : Int) (a0_2 : Bool) : Option (Int) := (impl_divisorOf.f k l0_0).bind fun qa => (if qa = 0 then (some 1) else (some qa))
theorem impl_directionDivisor.mono : ∀ a0 a1 a2 k, LeO (impl_directionDivisor.f k a0 a1 a2) (impl_directionDivisor.f (k + 1) a0 a1 a2) := by
 intro a0 a1 a2 k
 unfold impl_directionDivisor.f
 repeat' first
   | (with_reducible exact impl_divisorOf.mono _ _)
   | (with_reducible exact LeO.refl _)
   | (with_reducible exact LeO.none _)
   | (with_reducible refine LeO.ite ?_ ?_)
   | (with_reducible refine LeO.bind ?_ (fun _ => ?_))
namespace CD
set_option maxHeartbeats 8000000 in
set_option maxRecDepth 100000 in
theorem impl_directionDivisor.calls (k : Nat) (A0_0 : Option Addr) (c0_0 : Nat) (l0_0 : List Int) (a0_1 : Int) (a0_2 : Bool) (r : Int) (w : World) (hr0_0 : Kd.C (Kd.int .i64) w A0_0 l0_0.length l0_0) (hc0_0 : l0_0.length ≤ c0_0) (h : impl_directionDivisor.f k l0_0 a0_1 a0_2 = some r) :
  Calls Try.prog 121 #[.agg #[.slice A0_0 l0_0.length c0_0, .int .i64 a0_1, .bool a0_2]] w fun e w' => e = .returned (.int .i64 r) ∧ BelowD w w' := by
 have hu52 := Try.underlying52
 have qc := Aside0.mk hr0_0
 have qd := Aside0.mk hc0_0
 clear hr0_0 hc0_0
 have HB := Aside0.mk (BelowD.refl w)
 have H : ((impl_divisorOf.f k l0_0).bind fun qa => (if qa = 0 then (some 1) else (some qa))) = some r := h
 clear h
 replace H := be_ H
 obtain ⟨qa, A20, H⟩ := H
 have A2 := Aside0.mk A20
 clear A20
 by_cases c3 : qa = 0
 rotate_left
 ·
  rw [if_neg c3] at H
  have qh : (qa == 0) = false := beq_eq_false_iff_ne.mpr c3
  have qi : (qa != 0) = true := bne_iff_ne.mpr c3
  obtain rfl := Option.some.inj H
  go_enter Try.func121, Try.ntmps121
  go_wp2_with (first | ((with_reducible refine gate_dst (N := 1) rfl ?_); refine bx_ (cs := #[.slice A0_0 l0_0.length c0_0, .int .i64 a0_1, .bool a0_2]) (t := 52) ?_; intro qe hg w6 hbox hb; have qb := Aside0.mk (hbox); have qf := hz_ HB hg; have qg := hz_ HB hg; replace HB := bS_ HB hb; clear hb hbox hg; obtain ⟨qj, qk, ql, qm, qn, qo⟩ := b3_ qb) | ((with_reducible refine gate_callee (f := 116) rfl ?_); refine gL_ (some 6) Try.func116 #[.slice A0_0 l0_0.length c0_0] ?_; (with_reducible refine (impl_divisorOf.calls k _ _ l0_0 qa _ ?side1 ?side2 A2.out).mono ?_); (case side1 => exact cb_ qc HB); (case side2 => exact qd.out); rintro e w' ⟨rfl, ⟨nd, rfl⟩⟩; refine ⟨_, rfl, ?_⟩))
  go_ret
  exact rt_ (bb_ HB)
 rw [if_pos c3] at H
 have qh : (qa == 0) = true := beq_iff_eq.mpr c3
 have qi : (qa != 0) = false := bne_eq_false_iff_eq.mpr c3
 clear c3
 obtain rfl := Option.some.inj H
 go_enter Try.func121, Try.ntmps121
 go_wp2_with (first | ((with_reducible refine gate_dst (N := 1) rfl ?_); refine bx_ (cs := #[.slice A0_0 l0_0.length c0_0, .int .i64 a0_1, .bool a0_2]) (t := 52) ?_; intro qe hg w4 hbox hb; have qb := Aside0.mk (hbox); have qf := hz_ HB hg; have qg := hz_ HB hg; replace HB := bS_ HB hb; clear hb hbox hg; obtain ⟨qp, qq, qr, qs, qt, qu⟩ := b3_ qb) | ((with_reducible refine gate_callee (f := 116) rfl ?_); refine gL_ (some 6) Try.func116 #[.slice A0_0 l0_0.length c0_0] ?_; (with_reducible refine (impl_divisorOf.calls k _ _ l0_0 qa _ ?side1 ?side2 A2.out).mono ?_); (case side1 => exact cb_ qc HB); (case side2 => exact qd.out); rintro e w' ⟨rfl, ⟨nd, rfl⟩⟩; refine ⟨_, rfl, ?_⟩))
 go_ret
 exact rt_ (bb_ HB)
end CD
theorem impl_directionDivisor.calls (k : Nat) (A0_0 : Option Addr) (c0_0 : Nat) (l0_0 : List Int) (a0_1 : Int) (a0_2 : Bool) (r : Int) (w : World) (hr0_0 : Kd.C (Kd.int .i64) w A0_0 l0_0.length l0_0) (hc0_0 : l0_0.length ≤ c0_0) (h : impl_directionDivisor.f k l0_0 a0_1 a0_2 = some r) :
  Calls Try.prog 121 #[.agg #[.slice A0_0 l0_0.length c0_0, .int .i64 a0_1, .bool a0_2]] w fun e w' => e = .returned (.int .i64 r) ∧ Below w.heap.size w w' :=
  (CD.impl_directionDivisor.calls k A0_0 c0_0 l0_0 a0_1 a0_2 r w hr0_0 hc0_0 h).mono fun _ _ h_ => ⟨h_.1, h_.2.1⟩
/-! ### impl_compareDirections: function 98 -/
def impl_compareDirections.l0 : Nat → Int → Int → Int → Int → List Int → Int → Bool → List Int → Int → Bool → Option (Int)
 | 0, _, _, _, _, _, _, _, _, _, _ => none
 | k + 1, x5, x6, x15, x16, x389000, x389001, x389002, x390000, x390001, x390002 => if x16 < x15 then (if 0 ≤ x16 then (if x16 < (x389000.length : Int) then (if x5 = 0 then (none) else (if x16 < (x390000.length : Int) then (if x6 = 0 then (none) else ((impl_sign.f (wrap64 (Int.tdiv (rd x389000 x16) x5)) (wrap64 (Int.tdiv (rd x390000 x16) x6))).bind fun qj => (if qj = 0 then (impl_compareDirections.l0 k x5 x6 x15 (wrap64 (x16 + 1)) x389000 x389001 x389002 x390000 x390001 x390002) else (some qj)))) else (none))) else (none)) else (none)) else (some 0)
def impl_compareDirections.f (k : Nat) (l0_0 : List Int) (a0_1 : Int) (a0_2 : Bool) (l1_0 : List Int) (a1_1 : Int) (a1_2 : Bool) : Option (Int) := (impl_directionDivisor.f k l0_0 a0_1 a0_2).bind fun qh => ((impl_directionDivisor.f k l1_0 a1_1 a1_2).bind fun qi => (impl_compareDirections.l0 k qh qi (l0_0.length : Int) 0 l0_0 a0_1 a0_2 l1_0 a1_1 a1_2))
theorem impl_compareDirections.mono_l : ∀ k, (∀ y0 y1 y2 y3 y4 y5 y6 y7 y8 y9, LeO (impl_compareDirections.l0 k y0 y1 y2 y3 y4 y5 y6 y7 y8 y9) (impl_compareDirections.l0 (k + 1) y0 y1 y2 y3 y4 y5 y6 y7 y8 y9))
 | 0 => fun _ _ _ _ _ _ _ _ _ _ r h => by simp [impl_compareDirections.l0] at h
 | k + 1 => by
  have ih0 := impl_compareDirections.mono_l k
  ·
   intro y0 y1 y2 y3 y4 y5 y6 y7 y8 y9
   unfold impl_compareDirections.l0
   repeat' first
   | (with_reducible exact ih0 _ _ _ _ _ _ _ _ _ _)
   | (with_reducible exact impl_directionDivisor.mono _ _ _ _)
   | (with_reducible exact LeO.refl _)
   | (with_reducible exact LeO.none _)
   | (with_reducible refine LeO.ite ?_ ?_)
   | (with_reducible refine LeO.bind ?_ (fun _ => ?_))
theorem impl_compareDirections.mono : ∀ a0 a1 a2 a3 a4 a5 k, LeO (impl_compareDirections.f k a0 a1 a2 a3 a4 a5) (impl_compareDirections.f (k + 1) a0 a1 a2 a3 a4 a5) := by
 intro a0 a1 a2 a3 a4 a5 k
 have ih0 := impl_compareDirections.mono_l k
 unfold impl_compareDirections.f
 repeat' first
   | (with_reducible exact ih0 _ _ _ _ _ _ _ _ _ _)
   | (with_reducible exact impl_directionDivisor.mono _ _ _ _)
   | (with_reducible exact LeO.refl _)
   | (with_reducible exact LeO.none _)
   | (with_reducible refine LeO.ite ?_ ?_)
   | (with_reducible refine LeO.bind ?_ (fun _ => ?_))
def impl_compareDirections.T5 : Bool × List (List Nat × List Nat) := (true, [([], []), ([0], [0]), ([], []), ([1, 2], [1, 2]), ([3], [3]), ([], []), ([4, 5], [4, 5]), ([], []), ([7], [7]), ([], []), ([8, 9], [8, 9]), ([10], [10]), ([], []), ([11, 12], [11, 12]), ([6, 13], [6, 13]), ([14, 14, 0, 1, 2, 3, 4, 5, 6, 7, 8, 9, 10, 11, 12, 13, 14], [14])])
def impl_compareDirections.B5 : List Nat := [0, 1, 0, 7, 15, 0, 63, 0, 128, 0, 896, 1920, 0, 8064, 16383, 32767]
theorem impl_compareDirections.tab5 : rtab .any (opsOf Try.f98 5) = impl_compareDirections.T5 := by kernel_rfl
theorem impl_compareDirections.bits5 : waitsOk impl_compareDirections.T5.2 impl_compareDirections.B5 = true := by kernel_rfl
namespace CD
set_option maxHeartbeats 8000000 in
set_option maxRecDepth 100000 in
theorem impl_compareDirections.calls (k : Nat) (A0_0 : Option Addr) (c0_0 : Nat) (l0_0 : List Int) (a0_1 : Int) (a0_2 : Bool) (A1_0 : Option Addr) (c1_0 : Nat) (l1_0 : List Int) (a1_1 : Int) (a1_2 : Bool) (r : Int) (w : World) (hr0_0 : Kd.C (Kd.int .i64) w A0_0 l0_0.length l0_0) (hc0_0 : l0_0.length ≤ c0_0) (hr1_0 : Kd.C (Kd.int .i64) w A1_0 l1_0.length l1_0) (hc1_0 : l1_0.length ≤ c1_0) (h : impl_compareDirections.f k l0_0 a0_1 a0_2 l1_0 a1_1 a1_2 = some r) :
  Calls Try.prog 98 #[.agg #[.slice A0_0 l0_0.length c0_0, .int .i64 a0_1, .bool a0_2], .agg #[.slice A1_0 l1_0.length c1_0, .int .i64 a1_1, .bool a1_2]] w fun e w' => e = .returned (.int .i64 r) ∧ BelowD w w' := by
 have hu52 := Try.underlying52
 have qo := Aside0.mk hr0_0
 have qq := Aside0.mk hc0_0
 clear hr0_0 hc0_0
 have qp := Aside0.mk hr1_0
 have qr := Aside0.mk hc1_0
 clear hr1_0 hc1_0
 have HB := Aside0.mk (BelowD.refl w)
 have H : ((impl_directionDivisor.f k l0_0 a0_1 a0_2).bind fun qh => ((impl_directionDivisor.f k l1_0 a1_1 a1_2).bind fun qi => (impl_compareDirections.l0 k qh qi (l0_0.length : Int) 0 l0_0 a0_1 a0_2 l1_0 a1_1 a1_2))) = some r := h
 clear h
 replace H := be_ H
 obtain ⟨qh, A30, H⟩ := H
 have A3 := Aside0.mk A30
 clear A30
 replace H := be_ H
 obtain ⟨qi, A40, H⟩ := H
 have A4 := Aside0.mk A40
 clear A40
 have H' := Aside0.mk H
 clear H
 go_enter Try.func98, Try.ntmps98
 try go_wp2_with (first | ((with_reducible refine gate_dst (N := 2) rfl ?_); refine bx_ (cs := #[.slice A0_0 l0_0.length c0_0, .int .i64 a0_1, .bool a0_2]) (t := 52) ?_; intro qf hg w5 hbox hb; have qa := Aside0.mk (hbox); have qB := hz_ HB hg; have qC := hz_ HB hg; replace HB := bS_ HB hb; clear hb hbox hg) | ((with_reducible refine gate_dst (N := 3) rfl ?_); refine bx_ (cs := #[.slice A1_0 l1_0.length c1_0, .int .i64 a1_1, .bool a1_2]) (t := 52) ?_; intro qg hg w6 hbox hb; have qc := Aside0.mk (hbox); have qD := hz_ HB hg; have qE := hz_ HB hg; replace HB := bS_ HB hb; have qm := nL_ qa hg; have qn := nG_ qa hg; replace qa := kB_ qa hb; clear hb hbox hg))
 replace qa := Aside0.mk (blk_drew qa.out); replace qc := Aside0.mk (blk_drew qc.out); replace HB := Aside0.mk (below_drew1 HB.out)
 refine start_ (n := 6) (S := fun w' => w'.cell? ⟨qf, 0, none⟩ = some (.slice A0_0 l0_0.length c0_0) ∧ w'.cell? ⟨qf, 1, none⟩ = some (.int .i64 a0_1) ∧ w'.cell? ⟨qf, 2, none⟩ = some (.bool a0_2) ∧ w'.cell? ⟨qg, 0, none⟩ = some (.slice A1_0 l1_0.length c1_0) ∧ w'.cell? ⟨qg, 1, none⟩ = some (.int .i64 a1_1) ∧ w'.cell? ⟨qg, 2, none⟩ = some (.bool a1_2)) (ds := []) (fl_ 6 0) (by kernel_rfl) rfl rfl ⟨bc_ qa 0, bc_ qa 1, bc_ qa 2, bc_ qc 0, bc_ qc 1, bc_ qc 2⟩ (fun hHeld => ?_)
 generalize w6.drew = w7 at qa qc HB hHeld ⊢
 refine take_ (i := 0) (N := some 9) (v := ?_) (a' := ?_) (fl_ 6 1) rfl rfl (by kernel_rfl) (fun _ _ _ h => h) (Or.inl ⟨by rfl, ?_⟩) hHeld ?_ ?_
 rotate_left
 ·
  rintro w' ⟨s0, s1, s2, s3, s4, s5⟩
  go_simp
  with_reducible rfl
 rotate_left
 ·
  simp only [Act.put, sa_, s0_, s1_, i64_w, i32_w]
  rfl
 refine take_ (i := 2) (N := some 11) (v := ?_) (a' := ?_) (fl_ 6 5) rfl rfl (by kernel_rfl) (fun _ _ _ h => h) (Or.inl ⟨by rfl, ?_⟩) hHeld ?_ ?_
 rotate_left
 ·
  rintro w' ⟨s0, s1, s2, s3, s4, s5⟩
  go_simp
  with_reducible rfl
 rotate_left
 ·
  simp only [Act.put, sa_, s0_, s1_, i64_w, i32_w]
  rfl
 refine one_ (i := 1) (N := some 10) (fl_ 6 7) rfl rfl (by kernel_rfl) (by decide) (fun K hK => ?_)
 refine goes_ Try.func121 (by kernel_rfl) rfl #[.agg #[.slice A0_0 l0_0.length c0_0, .int .i64 a0_1, .bool a0_2]] (by rfl) rfl rfl (by (try simp only [List.map_toArray, List.map_cons, List.map_nil]); first | done | rfl | (simp only [List.length_drop, List.length_take]; rfl)) ?_
 with_reducible refine (impl_directionDivisor.calls k _ _ l0_0 a0_1 a0_2 qh _ ?side1 ?side2 A3.out).mono ?_
 (case side1 => exact cb_ qo HB)
 (case side2 => exact qq.out)
 rintro e w8 ⟨rfl, hb⟩
 refine ⟨_, rfl, ?_⟩
 replace qa := kB_ qa hb; replace qc := kB_ qc hb; replace HB := bS_ HB hb; (try clear hb); (try clear hb2); (try clear hk); (try clear hi)
 refine hK.out _ _ ⟨bc_ qa 0, bc_ qa 1, bc_ qa 2, bc_ qc 0, bc_ qc 1, bc_ qc 2⟩ (fun hHeld => ?_)
 clear hK K
 refine norm_ (a' := ?_) ?_ ?_
 rotate_left
 ·
  show Act.put _ (some 10) _ = _
  simp only [Act.put, sa_, s0_, s1_, i64_w, i32_w]
  rfl
 refine one_ (i := 3) (N := some 12) (fl_ 6 15) rfl rfl (by kernel_rfl) (by decide) (fun K hK => ?_)
 refine goes_ Try.func121 (by kernel_rfl) rfl #[.agg #[.slice A1_0 l1_0.length c1_0, .int .i64 a1_1, .bool a1_2]] (by rfl) rfl rfl (by (try simp only [List.map_toArray, List.map_cons, List.map_nil]); first | done | rfl | (simp only [List.length_drop, List.length_take]; rfl)) ?_
 with_reducible refine (impl_directionDivisor.calls k _ _ l1_0 a1_1 a1_2 qi _ ?side1 ?side2 A4.out).mono ?_
 (case side1 => exact cb_ qp HB)
 (case side2 => exact qr.out)
 rintro e w9 ⟨rfl, hb⟩
 refine ⟨_, rfl, ?_⟩
 replace qa := kB_ qa hb; replace qc := kB_ qc hb; replace HB := bS_ HB hb; (try clear hb); (try clear hb2); (try clear hk); (try clear hi)
 refine hK.out _ _ ⟨bc_ qa 0, bc_ qa 1, bc_ qa 2, bc_ qc 0, bc_ qc 1, bc_ qc 2⟩ (fun hHeld => ?_)
 clear hK K
 refine norm_ (a' := ?_) ?_ ?_
 rotate_left
 ·
  show Act.put _ (some 12) _ = _
  simp only [Act.put, sa_, s0_, s1_, i64_w, i32_w]
  rfl
 refine pure_ (i := 4) (N := some 5) (v := ?_) (a' := ?_) (fl_ 6 31) rfl rfl (by kernel_rfl) (fun _ _ _ h => h) (Or.inl ⟨by rfl, ?_⟩) ?_ ?_
 rotate_left
 ·
  intro w'
  go_simp
  with_reducible rfl
 rotate_left
 ·
  simp only [Act.put, sa_, s0_, s1_, i64_w, i32_w]
  rfl
 refine pure_ (i := 5) (N := some 6) (v := ?_) (a' := ?_) (fl_ 6 63) rfl rfl (by kernel_rfl) (fun _ _ _ h => h) (Or.inl ⟨by rfl, ?_⟩) ?_ ?_
 rotate_left
 ·
  intro w'
  go_simp
  with_reducible rfl
 rotate_left
 ·
  simp only [Act.put, sa_, s0_, s1_, i64_w, i32_w]
  rfl
 refine done_ (by kernel_rfl) ?_
 have qF := qm.out
 have qG := qn.out
 obtain ⟨qv, qw, qx, qy, qz, qA⟩ := b3_ qa
 try go_wp2
 go_loopg [16] k (fun kq v16 w' => ∃ (qb : Int), v16 = .int .i64 qb ∧ Aside0 (impl_compareDirections.l0 kq qh qi (l0_0.length : Int) qb l0_0 a0_1 a0_2 l1_0 a1_1 a1_2 = some r) ∧ Aside0 (kq ≤ k) ∧ Aside0 (w'.heap[qf]? = some (.cells #[(.slice A0_0 l0_0.length c0_0), .int .i64 a0_1, .bool a0_2] 52 (0, 0))) ∧ Aside0 (w'.heap[qg]? = some (.cells #[(.slice A1_0 l1_0.length c1_0), .int .i64 a1_1, .bool a1_2] 52 (0, 0))) ∧ Aside0 (BelowD w w'))
 case atStart => exact ⟨(0), (by first | rfl | (simp; done) | (simp [*]; done)), H', ⟨Nat.le_refl _⟩, ⟨kf_ qa⟩, ⟨kf_ qc⟩, ⟨bb_ HB⟩⟩
 clear H'
 obtain ⟨qb, rfl, HA, HK1, qa, qc, HB⟩ := hrel
 cases gk with
 | zero => exact absurd HA.out (by simp [impl_compareDirections.l0])
 | succ k1 =>
  have H := HA.out
  clear HA
  simp only [impl_compareDirections.l0] at H
  by_cases c12 : qb < (l0_0.length : Int)
  rotate_left
  ·
   rw [if_neg c12] at H
   have qs : decide (qb < (l0_0.length : Int)) = false := decide_eq_false c12
   clear c12
   obtain rfl := Option.some.inj H
   go_wp2
   go_ret
   exact rt_ (bb_ HB)
  rw [if_pos c12] at H
  have qs : decide (qb < (l0_0.length : Int)) = true := decide_eq_true c12
  clear c12
  replace H := ip_ H
  obtain ⟨c13, H⟩ := H
  have qH : decide (0 ≤ qb) = true := decide_eq_true c13
  clear c13
  replace H := ip_ H
  obtain ⟨c14, H⟩ := H
  have qI : decide (qb < (l0_0.length : Int)) = true := decide_eq_true c14
  clear c14
  by_cases c15 : qh = 0
  ·
   rw [if_pos c15] at H
   exact absurd H (by simp)
  rw [if_neg c15] at H
  have qJ : (qh == 0) = false := beq_eq_false_iff_ne.mpr c15
  have qK : (qh != 0) = true := bne_iff_ne.mpr c15
  replace H := ip_ H
  obtain ⟨c16, H⟩ := H
  have qL : decide (qb < (l1_0.length : Int)) = true := decide_eq_true c16
  clear c16
  by_cases c17 : qi = 0
  ·
   rw [if_pos c17] at H
   exact absurd H (by simp)
  rw [if_neg c17] at H
  have qM : (qi == 0) = false := beq_eq_false_iff_ne.mpr c17
  have qN : (qi != 0) = true := bne_iff_ne.mpr c17
  replace H := be_ H
  obtain ⟨qj, A180, H⟩ := H
  have A18 := Aside0.mk A180
  clear A180
  by_cases c19 : qj = 0
  rotate_left
  ·
   rw [if_neg c19] at H
   have qt : (qj == 0) = false := beq_eq_false_iff_ne.mpr c19
   have qu : (qj != 0) = true := bne_iff_ne.mpr c19
   obtain rfl := Option.some.inj H
   try go_wp2
   replace qa := Aside0.mk (blk_drew qa.out); replace qc := Aside0.mk (blk_drew qc.out); replace HB := Aside0.mk (below_drew1 HB.out)
   have p392 : 0 ≤ (qb : Int) := od_
   have q392 : qb < (l0_0.length : Int) := od_
   obtain ⟨qk, e392, qd⟩ := Kd.at_int qo.out qb p392 q392
   have hw392_0 := qd
   cases e392
   replace qd := ct_ HB qd
   replace p392 := eq_true p392
   replace q392 := eq_true q392
   have p393 : 0 ≤ (qb : Int) := od_
   have q393 : qb < (l1_0.length : Int) := od_
   obtain ⟨ql, e393, qe⟩ := Kd.at_int qp.out qb p393 q393
   have hw393_0 := qe
   cases e393
   replace qe := ct_ HB qe
   replace p393 := eq_true p393
   replace q393 := eq_true q393
   refine start_ (n := 16) (S := fun w' => w'.cell? ⟨qf, 0, none⟩ = some (.slice (some qk) l0_0.length c0_0) ∧ w'.cell? ⟨qf, 1, none⟩ = some (.int .i64 a0_1) ∧ w'.cell? ⟨qf, 2, none⟩ = some (.bool a0_2) ∧ w'.cell? ⟨qg, 0, none⟩ = some (.slice (some ql) l1_0.length c1_0) ∧ w'.cell? ⟨qg, 1, none⟩ = some (.int .i64 a1_1) ∧ w'.cell? ⟨qg, 2, none⟩ = some (.bool a1_2) ∧ w'.cell? (qk.add (qb).toNat) = some (.int .i64 (rd l0_0 qb)) ∧ w'.cell? (ql.add (qb).toNat) = some (.int .i64 (rd l1_0 qb))) (ds := []) (fl_ 16 0) (by kernel_rfl) rfl rfl ⟨bc_ qa 0, bc_ qa 1, bc_ qa 2, bc_ qc 0, bc_ qc 1, bc_ qc 2, (ct_ HB hw392_0 :), (ct_ HB hw393_0 :)⟩ (fun hHeld => ?_); refine with_tabW impl_compareDirections.tab5 impl_compareDirections.bits5 (fun HT_ HW_ => ?_)
   generalize wr.drew = qO at qa qc HB qd qe hHeld ⊢
   refine pX_ 0 (some 19) (fl_ 16 1) HT_ ?_
   refine pX_ 2 (some 21) (fl_ 16 5) HT_ ?_
   refine pX_ 5 (some 24) (fl_ 16 37) HT_ ?_
   refine pX_ 7 (some 26) (fl_ 16 165) HT_ ?_
   refine pX_ 9 (some 28) (fl_ 16 677) HT_ ?_
   refine pX_ 12 (some 31) (fl_ 16 4773) HT_ ?_
   refine tX_ 1 (some 20) (fl_ 16 4775) rfl rfl HT_ HW_ hHeld (by rintro w' ⟨s0, s1, s2, s3, s4, s5, s6, s7⟩; go_simp; with_reducible rfl) ?_
   refine pX_ 3 (some 22) (fl_ 16 4783) HT_ ?_
   refine tX_ 4 (some 23) (fl_ 16 4799) rfl rfl HT_ HW_ hHeld (by rintro w' ⟨s0, s1, s2, s3, s4, s5, s6, s7⟩; go_simp; with_reducible rfl) ?_
   refine pX_ 6 (some 25) (fl_ 16 4863) HT_ ?_
   refine tX_ 8 (some 27) (fl_ 16 5119) rfl rfl HT_ HW_ hHeld (by rintro w' ⟨s0, s1, s2, s3, s4, s5, s6, s7⟩; go_simp; with_reducible rfl) ?_
   refine pX_ 10 (some 29) (fl_ 16 6143) HT_ ?_
   refine tX_ 11 (some 30) (fl_ 16 8191) rfl rfl HT_ HW_ hHeld (by rintro w' ⟨s0, s1, s2, s3, s4, s5, s6, s7⟩; go_simp; with_reducible rfl) ?_
   refine pX_ 13 (some 32) (fl_ 16 16383) HT_ ?_
   refine one_ (i := 14) (N := some 33) (fl_ 16 32767) rfl rfl (one_of HT_.out (by kernel_rfl)) (by decide) (fun K hK => ?_)
   refine goes_ Try.func120 (by kernel_rfl) rfl #[.int .i64 (wrap64 (Int.tdiv (rd l0_0 qb) qh)), .int .i64 (wrap64 (Int.tdiv (rd l1_0 qb) qi))] (by rfl) rfl rfl (by (try simp only [List.map_toArray, List.map_cons, List.map_nil]); first | done | rfl | (simp only [List.length_drop, List.length_take]; rfl)) ?_
   with_reducible refine (impl_sign.calls (wrap64 (Int.tdiv (rd l0_0 qb) qh)) (wrap64 (Int.tdiv (rd l1_0 qb) qi)) qj _ A18.out).mono ?_
   rintro e w' ⟨rfl, ⟨nd, rfl⟩⟩
   refine ⟨_, rfl, ?_⟩
   refine hK.out _ _ ⟨bc_ qa 0, bc_ qa 1, bc_ qa 2, bc_ qc 0, bc_ qc 1, bc_ qc 2, (ct_ HB hw392_0 :), (ct_ HB hw393_0 :)⟩ (fun hHeld => ?_)
   clear hK K
   refine norm_ (a' := ?_) ?_ ?_
   rotate_left
   ·
    show Act.put _ (some 33) _ = _
    simp only [Act.put, sa_, s0_, s1_, i64_w, i32_w]
    rfl
   refine pX_ 15 (some 8) (fl_ 16 65535) HT_ ?_
   refine done_ (done_of HT_.out (by kernel_rfl)) ?_
   try go_wp2
   go_ret
   exact rt_ (bb_ HB)
  rw [if_pos c19] at H
  have qt : (qj == 0) = true := beq_iff_eq.mpr c19
  have qu : (qj != 0) = false := bne_eq_false_iff_eq.mpr c19
  clear c19
  have H' := Aside0.mk H
  clear H
  try go_wp2
  replace qa := Aside0.mk (blk_drew qa.out); replace qc := Aside0.mk (blk_drew qc.out); replace HB := Aside0.mk (below_drew1 HB.out)
  have p392 : 0 ≤ (qb : Int) := od_
  have q392 : qb < (l0_0.length : Int) := od_
  obtain ⟨qk, e392, qd⟩ := Kd.at_int qo.out qb p392 q392
  have hw392_0 := qd
  cases e392
  replace qd := ct_ HB qd
  replace p392 := eq_true p392
  replace q392 := eq_true q392
  have p393 : 0 ≤ (qb : Int) := od_
  have q393 : qb < (l1_0.length : Int) := od_
  obtain ⟨ql, e393, qe⟩ := Kd.at_int qp.out qb p393 q393
  have hw393_0 := qe
  cases e393
  replace qe := ct_ HB qe
  replace p393 := eq_true p393
  replace q393 := eq_true q393
  refine start_ (n := 16) (S := fun w' => w'.cell? ⟨qf, 0, none⟩ = some (.slice (some qk) l0_0.length c0_0) ∧ w'.cell? ⟨qf, 1, none⟩ = some (.int .i64 a0_1) ∧ w'.cell? ⟨qf, 2, none⟩ = some (.bool a0_2) ∧ w'.cell? ⟨qg, 0, none⟩ = some (.slice (some ql) l1_0.length c1_0) ∧ w'.cell? ⟨qg, 1, none⟩ = some (.int .i64 a1_1) ∧ w'.cell? ⟨qg, 2, none⟩ = some (.bool a1_2) ∧ w'.cell? (qk.add (qb).toNat) = some (.int .i64 (rd l0_0 qb)) ∧ w'.cell? (ql.add (qb).toNat) = some (.int .i64 (rd l1_0 qb))) (ds := []) (fl_ 16 0) (by kernel_rfl) rfl rfl ⟨bc_ qa 0, bc_ qa 1, bc_ qa 2, bc_ qc 0, bc_ qc 1, bc_ qc 2, (ct_ HB hw392_0 :), (ct_ HB hw393_0 :)⟩ (fun hHeld => ?_); refine with_tabW impl_compareDirections.tab5 impl_compareDirections.bits5 (fun HT_ HW_ => ?_)
  generalize wr.drew = qP at qa qc HB qd qe hHeld ⊢
  refine pX_ 0 (some 19) (fl_ 16 1) HT_ ?_
  refine pX_ 2 (some 21) (fl_ 16 5) HT_ ?_
  refine pX_ 5 (some 24) (fl_ 16 37) HT_ ?_
  refine pX_ 7 (some 26) (fl_ 16 165) HT_ ?_
  refine pX_ 9 (some 28) (fl_ 16 677) HT_ ?_
  refine pX_ 12 (some 31) (fl_ 16 4773) HT_ ?_
  refine tX_ 1 (some 20) (fl_ 16 4775) rfl rfl HT_ HW_ hHeld (by rintro w' ⟨s0, s1, s2, s3, s4, s5, s6, s7⟩; go_simp; with_reducible rfl) ?_
  refine pX_ 3 (some 22) (fl_ 16 4783) HT_ ?_
  refine tX_ 4 (some 23) (fl_ 16 4799) rfl rfl HT_ HW_ hHeld (by rintro w' ⟨s0, s1, s2, s3, s4, s5, s6, s7⟩; go_simp; with_reducible rfl) ?_
  refine pX_ 6 (some 25) (fl_ 16 4863) HT_ ?_
  refine tX_ 8 (some 27) (fl_ 16 5119) rfl rfl HT_ HW_ hHeld (by rintro w' ⟨s0, s1, s2, s3, s4, s5, s6, s7⟩; go_simp; with_reducible rfl) ?_
  refine pX_ 10 (some 29) (fl_ 16 6143) HT_ ?_
  refine tX_ 11 (some 30) (fl_ 16 8191) rfl rfl HT_ HW_ hHeld (by rintro w' ⟨s0, s1, s2, s3, s4, s5, s6, s7⟩; go_simp; with_reducible rfl) ?_
  refine pX_ 13 (some 32) (fl_ 16 16383) HT_ ?_
  refine one_ (i := 14) (N := some 33) (fl_ 16 32767) rfl rfl (one_of HT_.out (by kernel_rfl)) (by decide) (fun K hK => ?_)
  refine goes_ Try.func120 (by kernel_rfl) rfl #[.int .i64 (wrap64 (Int.tdiv (rd l0_0 qb) qh)), .int .i64 (wrap64 (Int.tdiv (rd l1_0 qb) qi))] (by rfl) rfl rfl (by (try simp only [List.map_toArray, List.map_cons, List.map_nil]); first | done | rfl | (simp only [List.length_drop, List.length_take]; rfl)) ?_
  with_reducible refine (impl_sign.calls (wrap64 (Int.tdiv (rd l0_0 qb) qh)) (wrap64 (Int.tdiv (rd l1_0 qb) qi)) qj _ A18.out).mono ?_
  rintro e w' ⟨rfl, ⟨nd, rfl⟩⟩
  refine ⟨_, rfl, ?_⟩
  refine hK.out _ _ ⟨bc_ qa 0, bc_ qa 1, bc_ qa 2, bc_ qc 0, bc_ qc 1, bc_ qc 2, (ct_ HB hw392_0 :), (ct_ HB hw393_0 :)⟩ (fun hHeld => ?_)
  clear hK K
  refine norm_ (a' := ?_) ?_ ?_
  rotate_left
  ·
   show Act.put _ (some 33) _ = _
   simp only [Act.put, sa_, s0_, s1_, i64_w, i32_w]
   rfl
  refine pX_ 15 (some 8) (fl_ 16 65535) HT_ ?_
  refine done_ (done_of HT_.out (by kernel_rfl)) ?_
  try go_wp2
  go_roundg k1
  case measure => have := HK1.out; omega
  case rel => exact ⟨(wrap64 (qb + 1)), (by first | rfl | (simp; done) | (simp [*]; done)), H', ⟨by have := HK1.out; omega⟩, ⟨kf_ qa⟩, ⟨kf_ qc⟩, ⟨bb_ HB⟩⟩
end CD
theorem impl_compareDirections.calls (k : Nat) (A0_0 : Option Addr) (c0_0 : Nat) (l0_0 : List Int) (a0_1 : Int) (a0_2 : Bool) (A1_0 : Option Addr) (c1_0 : Nat) (l1_0 : List Int) (a1_1 : Int) (a1_2 : Bool) (r : Int) (w : World) (hr0_0 : Kd.C (Kd.int .i64) w A0_0 l0_0.length l0_0) (hc0_0 : l0_0.length ≤ c0_0) (hr1_0 : Kd.C (Kd.int .i64) w A1_0 l1_0.length l1_0) (hc1_0 : l1_0.length ≤ c1_0) (h : impl_compareDirections.f k l0_0 a0_1 a0_2 l1_0 a1_1 a1_2 = some r) :
  Calls Try.prog 98 #[.agg #[.slice A0_0 l0_0.length c0_0, .int .i64 a0_1, .bool a0_2], .agg #[.slice A1_0 l1_0.length c1_0, .int .i64 a1_1, .bool a1_2]] w fun e w' => e = .returned (.int .i64 r) ∧ Below w.heap.size w w' :=
  (CD.impl_compareDirections.calls k A0_0 c0_0 l0_0 a0_1 a0_2 A1_0 c1_0 l1_0 a1_1 a1_2 r w hr0_0 hc0_0 hr1_0 hc1_0 h).mono fun _ _ h_ => ⟨h_.1, h_.2.1⟩
/-! ### impl_CompareAtoms: function 97 -/
def impl_CompareAtoms.j0 : Nat → Bool → List Int → Int → Bool → List Int → Int → Bool → Option (Int)
 | 0, _, _, _, _, _, _, _ => none
 | k + 1, x23, x396000, x396001, x396002, x397000, x397001, x397002 => if x23 = true then (some 2) else ((impl_compareDirections.f k x396000 x396001 x396002 x397000 x397001 x397002).bind fun qk => (if qk = 0 then ((impl_directionDivisor.f k x397000 x397001 x397002).bind fun ql => ((impl_directionDivisor.f k x396000 x396001 x396002).bind fun qm => ((impl_sign.f (wrap64 (x396001 * ql)) (wrap64 (x397001 * qm))).bind fun qn => (if qn = 0 then (if (x396002 == x397002) = true then (some 0) else (if x396002 = true then (some 1) else (some (-1)))) else (some qn))))) else (some qk)))
def impl_CompareAtoms.f (k : Nat) (l0_0 : List Int) (a0_1 : Int) (a0_2 : Bool) (l1_0 : List Int) (a1_1 : Int) (a1_2 : Bool) : Option (Int) := (impl_IsAtom.f k l0_0 a0_1 a0_2).bind fun qq => (if qq = true then ((impl_IsAtom.f k l1_0 a1_1 a1_2).bind fun qo => (if qo = true then (impl_CompareAtoms.j0 k ((l0_0.length : Int) != (l1_0.length : Int)) l0_0 a0_1 a0_2 l1_0 a1_1 a1_2) else (impl_CompareAtoms.j0 k true l0_0 a0_1 a0_2 l1_0 a1_1 a1_2))) else (impl_CompareAtoms.j0 k true l0_0 a0_1 a0_2 l1_0 a1_1 a1_2))
theorem impl_CompareAtoms.mono_l : ∀ k, (∀ y0 y1 y2 y3 y4 y5 y6, LeO (impl_CompareAtoms.j0 k y0 y1 y2 y3 y4 y5 y6) (impl_CompareAtoms.j0 (k + 1) y0 y1 y2 y3 y4 y5 y6))
 | 0 => fun _ _ _ _ _ _ _ r h => by simp [impl_CompareAtoms.j0] at h
 | k + 1 => by
  have ih0 := impl_CompareAtoms.mono_l k
  ·
   intro y0 y1 y2 y3 y4 y5 y6
   unfold impl_CompareAtoms.j0
   repeat' first
   | (with_reducible exact ih0 _ _ _ _ _ _ _)
   | (with_reducible exact impl_IsAtom.mono _ _ _ _)
   | (with_reducible exact impl_compareDirections.mono _ _ _ _ _ _ _)
   | (with_reducible exact impl_directionDivisor.mono _ _ _ _)
   | (with_reducible exact LeO.refl _)
   | (with_reducible exact LeO.none _)
   | (with_reducible refine LeO.ite ?_ ?_)
   | (with_reducible refine LeO.bind ?_ (fun _ => ?_))
theorem impl_CompareAtoms.mono : ∀ a0 a1 a2 a3 a4 a5 k, LeO (impl_CompareAtoms.f k a0 a1 a2 a3 a4 a5) (impl_CompareAtoms.f (k + 1) a0 a1 a2 a3 a4 a5) := by
 intro a0 a1 a2 a3 a4 a5 k
 have ih0 := impl_CompareAtoms.mono_l k
 unfold impl_CompareAtoms.f
 repeat' first
   | (with_reducible exact ih0 _ _ _ _ _ _ _)
   | (with_reducible exact impl_IsAtom.mono _ _ _ _)
   | (with_reducible exact impl_compareDirections.mono _ _ _ _ _ _ _)
   | (with_reducible exact impl_directionDivisor.mono _ _ _ _)
   | (with_reducible exact LeO.refl _)
   | (with_reducible exact LeO.none _)
   | (with_reducible refine LeO.ite ?_ ?_)
   | (with_reducible refine LeO.bind ?_ (fun _ => ?_))
def impl_CompareAtoms.T6 : Bool × List (List Nat × List Nat) := (true, [([], []), ([0], [0]), ([], []), ([2], [2]), ([1, 3], [1, 3]), ([], []), ([5], [5]), ([], []), ([7, 3], [7]), ([6, 8], [6, 8]), ([4, 9, 8], [4, 9]), ([10, 10, 0, 1, 2, 3, 4, 5, 6, 7, 8, 9, 10], [10])])
def impl_CompareAtoms.B6 : List Nat := [0, 1, 0, 4, 15, 0, 32, 0, 140, 492, 1023, 2047]
theorem impl_CompareAtoms.tab6 : rtab .any (opsOf Try.f97 6) = impl_CompareAtoms.T6 := by kernel_rfl
theorem impl_CompareAtoms.bits6 : waitsOk impl_CompareAtoms.T6.2 impl_CompareAtoms.B6 = true := by kernel_rfl
namespace CD
set_option maxHeartbeats 8000000 in
set_option maxRecDepth 100000 in
theorem impl_CompareAtoms.calls (k : Nat) (A0_0 : Option Addr) (c0_0 : Nat) (l0_0 : List Int) (a0_1 : Int) (a0_2 : Bool) (A1_0 : Option Addr) (c1_0 : Nat) (l1_0 : List Int) (a1_1 : Int) (a1_2 : Bool) (r : Int) (w : World) (hr0_0 : Kd.C (Kd.int .i64) w A0_0 l0_0.length l0_0) (hc0_0 : l0_0.length ≤ c0_0) (hr1_0 : Kd.C (Kd.int .i64) w A1_0 l1_0.length l1_0) (hc1_0 : l1_0.length ≤ c1_0) (h : impl_CompareAtoms.f k l0_0 a0_1 a0_2 l1_0 a1_1 a1_2 = some r) :
  Calls Try.prog 97 #[.agg #[.slice A0_0 l0_0.length c0_0, .int .i64 a0_1, .bool a0_2], .agg #[.slice A1_0 l1_0.length c1_0, .int .i64 a1_1, .bool a1_2]] w fun e w' => e = .returned (.int .i64 r) ∧ BelowD w w' := by
 have hu52 := Try.underlying52
 have qg := Aside0.mk hr0_0
 have qh := Aside0.mk hc0_0
 clear hr0_0 hc0_0
 have qi := Aside0.mk hr1_0
 have qj := Aside0.mk hc1_0
 clear hr1_0 hc1_0
 have HB := Aside0.mk (BelowD.refl w)
 have H : ((impl_IsAtom.f k l0_0 a0_1 a0_2).bind fun qq => (if qq = true then ((impl_IsAtom.f k l1_0 a1_1 a1_2).bind fun qo => (if qo = true then (impl_CompareAtoms.j0 k ((l0_0.length : Int) != (l1_0.length : Int)) l0_0 a0_1 a0_2 l1_0 a1_1 a1_2) else (impl_CompareAtoms.j0 k true l0_0 a0_1 a0_2 l1_0 a1_1 a1_2))) else (impl_CompareAtoms.j0 k true l0_0 a0_1 a0_2 l1_0 a1_1 a1_2))) = some r := h
 clear h
 have HC3 := Aside0.mk H
 clear H
 go_enter Try.func97, Try.ntmps97
 go_upto_region 1 with (first | ((with_reducible refine gate_dst (N := 2) rfl ?_); (try (refine gate_guard (by rfl) ?_; dsimp only)); refine bx_ (cs := #[.slice A0_0 l0_0.length c0_0, .int .i64 a0_1, .bool a0_2]) (t := 52) ?_; intro qe hg w4 hbox hb; have qa := Aside0.mk (hbox); have jM := hz_ HB hg; have jN := hz_ HB hg; replace HB := bS_ HB hb; clear hb hbox hg) | ((with_reducible refine gate_dst (N := 3) rfl ?_); (try (refine gate_guard (by rfl) ?_; dsimp only)); refine bx_ (cs := #[.slice A1_0 l1_0.length c1_0, .int .i64 a1_1, .bool a1_2]) (t := 52) ?_; intro qf hg w5 hbox hb; have qb := Aside0.mk (hbox); have jO := hz_ HB hg; have jP := hz_ HB hg; replace HB := bS_ HB hb; have qc := nL_ qa hg; have qd := nG_ qa hg; replace qa := kB_ qa hb; clear hb hbox hg))
 (try simp only [Act.put, sa_, s0_, s1_])
 go_cut [23] (fun v23 wc => ∃ (kq : Nat) (qp : Bool), v23 = .bool qp ∧ Aside0 (impl_CompareAtoms.j0 kq qp l0_0 a0_1 a0_2 l1_0 a1_1 a1_2 = some r) ∧ Aside0 (kq ≤ k) ∧ Aside0 (wc.heap[qe]? = some (.cells #[(.slice A0_0 l0_0.length c0_0), .int .i64 a0_1, .bool a0_2] 52 (0, 0))) ∧ Aside0 (wc.heap[qf]? = some (.cells #[(.slice A1_0 l1_0.length c1_0), .int .i64 a1_1, .bool a1_2] 52 (0, 0))) ∧ Aside0 (BelowD w wc))
 case first =>
  have H := HC3.out
  clear HC3
  replace H := be_ H
  obtain ⟨qq, A60, H⟩ := H
  have A6 := Aside0.mk A60
  clear A60
  by_cases c7 : qq = true
  rotate_left
  ·
   replace c7 := Bool.eq_false_iff.mpr c7
   subst c7
   have H1 : (impl_CompareAtoms.j0 k true l0_0 a0_1 a0_2 l1_0 a1_1 a1_2) = some r := by rw [if_neg (show ¬ (false = true) by decide)] at H; exact H
   clear H
   have H := H1
   clear H1
   have H' := Aside0.mk H
   clear H
   have jQ := qc.out
   have jR := qd.out
   obtain ⟨qy, qz, qA, qB, qC, qD⟩ := b3_ qa
   go_wp2_with (first | ((with_reducible refine gate_callee (f := 93) rfl ?_); refine gL_ (some 8) Try.func93 #[.agg #[.slice A0_0 l0_0.length c0_0, .int .i64 a0_1, .bool a0_2]] ?_; (with_reducible refine (impl_IsAtom.calls k _ _ l0_0 a0_1 a0_2 false _ ?side1 ?side2 A6.out).mono ?_); (case side1 => exact cb_ qg HB); (case side2 => exact qh.out); rintro e Qc ⟨rfl, hb⟩; refine ⟨_, rfl, ?_⟩; replace qa := kB_ qa hb; replace qb := kB_ qb hb; replace HB := bS_ HB hb; clear hb))
   go_meet
   case rel => exact ⟨_, (true), (by first | rfl | (simp; done) | (simp [*]; done)), H', ⟨by first | omega | exact Nat.le_refl _⟩, ⟨kf_ qa⟩, ⟨kf_ qb⟩, ⟨bb_ HB⟩⟩
  subst c7
  have H1 : ((impl_IsAtom.f k l1_0 a1_1 a1_2).bind fun qo => (if qo = true then (impl_CompareAtoms.j0 k ((l0_0.length : Int) != (l1_0.length : Int)) l0_0 a0_1 a0_2 l1_0 a1_1 a1_2) else (impl_CompareAtoms.j0 k true l0_0 a0_1 a0_2 l1_0 a1_1 a1_2))) = some r := by rw [if_pos rfl] at H; exact H
  clear H
  have H := H1
  clear H1
  replace H := be_ H
  obtain ⟨qo, A80, H⟩ := H
  have A8 := Aside0.mk A80
  clear A80
  by_cases c9 : qo = true
  rotate_left
  ·
   replace c9 := Bool.eq_false_iff.mpr c9
   subst c9
   have H1 : (impl_CompareAtoms.j0 k true l0_0 a0_1 a0_2 l1_0 a1_1 a1_2) = some r := by rw [if_neg (show ¬ (false = true) by decide)] at H; exact H
   clear H
   have H := H1
   clear H1
   have H' := Aside0.mk H
   clear H
   have jS := qc.out
   have jT := qd.out
   obtain ⟨qE, qF, qG, qH, qI, qJ⟩ := b3_ qa
   go_wp2_with (first | ((with_reducible refine gate_callee (f := 93) rfl ?_); refine gL_ (some 8) Try.func93 #[.agg #[.slice A0_0 l0_0.length c0_0, .int .i64 a0_1, .bool a0_2]] ?_; (with_reducible refine (impl_IsAtom.calls k _ _ l0_0 a0_1 a0_2 true _ ?side1 ?side2 A6.out).mono ?_); (case side1 => exact cb_ qg HB); (case side2 => exact qh.out); rintro e Qd ⟨rfl, hb⟩; refine ⟨_, rfl, ?_⟩; replace qa := kB_ qa hb; replace qb := kB_ qb hb; replace HB := bS_ HB hb; clear hb; obtain ⟨qK, qL, qM, qN, qO, qP⟩ := b3_ qb) | (go_at_call 93; (with_reducible refine (impl_IsAtom.calls k _ _ l1_0 a1_1 a1_2 false _ ?side1 ?side2 A8.out).mono ?_); (case side1 => exact cb_ qi HB); (case side2 => exact qj.out); rintro e Qe ⟨rfl, hb⟩; replace qa := kB_ qa hb; replace qb := kB_ qb hb; replace HB := bS_ HB hb; clear hb))
   go_meet
   case rel => exact ⟨_, (true), (by first | rfl | (simp; done) | (simp [*]; done)), H', ⟨by first | omega | exact Nat.le_refl _⟩, ⟨kf_ qa⟩, ⟨kf_ qb⟩, ⟨bb_ HB⟩⟩
  subst c9
  have H1 : (impl_CompareAtoms.j0 k ((l0_0.length : Int) != (l1_0.length : Int)) l0_0 a0_1 a0_2 l1_0 a1_1 a1_2) = some r := by rw [if_pos rfl] at H; exact H
  clear H
  have H := H1
  clear H1
  have H' := Aside0.mk H
  clear H
  have jU := qc.out
  have jV := qd.out
  obtain ⟨qQ, qR, qS, qT, qU, qV⟩ := b3_ qa
  go_wp2_with (first | ((with_reducible refine gate_callee (f := 93) rfl ?_); refine gL_ (some 8) Try.func93 #[.agg #[.slice A0_0 l0_0.length c0_0, .int .i64 a0_1, .bool a0_2]] ?_; (with_reducible refine (impl_IsAtom.calls k _ _ l0_0 a0_1 a0_2 true _ ?side1 ?side2 A6.out).mono ?_); (case side1 => exact cb_ qg HB); (case side2 => exact qh.out); rintro e Qf ⟨rfl, hb⟩; refine ⟨_, rfl, ?_⟩; replace qa := kB_ qa hb; replace qb := kB_ qb hb; replace HB := bS_ HB hb; clear hb; obtain ⟨qW, qX, qY, qZ, q0, q1⟩ := b3_ qb) | (go_at_call 93; (with_reducible refine (impl_IsAtom.calls k _ _ l1_0 a1_1 a1_2 true _ ?side1 ?side2 A8.out).mono ?_); (case side1 => exact cb_ qi HB); (case side2 => exact qj.out); rintro e Qg ⟨rfl, hb⟩; replace qa := kB_ qa hb; replace qb := kB_ qb hb; replace HB := bS_ HB hb; clear hb; obtain ⟨q2, q3, q4, q5, q6, q7⟩ := b3_ qa; obtain ⟨q8, q9, za, zb, zc, zd⟩ := b3_ qb))
  go_meet
  case rel => exact ⟨_, (((l0_0.length : Int) != (l1_0.length : Int))), (by first | rfl | (simp; done) | (simp [*]; done)), H', ⟨by first | omega | exact Nat.le_refl _⟩, ⟨kf_ qa⟩, ⟨kf_ qb⟩, ⟨bb_ HB⟩⟩
 clear HC3
 obtain ⟨kq, qp, rfl, HA, HJ2, qa, qb, HB⟩ := hcut
 cases kq with
 | zero => exact absurd HA.out (by simp [impl_CompareAtoms.j0])
 | succ kj2 =>
  have H := HA.out
  clear HA
  simp only [impl_CompareAtoms.j0] at H
  by_cases c25 : qp = true
  ·
   subst c25
   have H1 : (some 2) = some r := by rw [if_pos rfl] at H; exact H
   clear H
   have H := H1
   clear H1
   obtain rfl := Option.some.inj H
   go_wp2
   go_ret
   exact rt_ (bb_ HB)
  replace c25 := Bool.eq_false_iff.mpr c25
  subst c25
  have H1 : ((impl_compareDirections.f kj2 l0_0 a0_1 a0_2 l1_0 a1_1 a1_2).bind fun qk => (if qk = 0 then ((impl_directionDivisor.f kj2 l1_0 a1_1 a1_2).bind fun ql => ((impl_directionDivisor.f kj2 l0_0 a0_1 a0_2).bind fun qm => ((impl_sign.f (wrap64 (a0_1 * ql)) (wrap64 (a1_1 * qm))).bind fun qn => (if qn = 0 then (if (a0_2 == a1_2) = true then (some 0) else (if a0_2 = true then (some 1) else (some (-1)))) else (some qn))))) else (some qk))) = some r := by rw [if_neg (show ¬ (false = true) by decide)] at H; exact H
  clear H
  have H := H1
  clear H1
  replace H := be_ H
  obtain ⟨qk, A260, H⟩ := H
  have A26 := Aside0.mk A260
  clear A260
  by_cases c27 : qk = 0
  rotate_left
  ·
   rw [if_neg c27] at H
   have qr : (qk == 0) = false := beq_eq_false_iff_ne.mpr c27
   have qs : (qk != 0) = true := bne_iff_ne.mpr c27
   obtain rfl := Option.some.inj H
   have jW := qc.out
   have jX := qd.out
   obtain ⟨ze, zf, zg, zh, zi, zj⟩ := b3_ qa
   obtain ⟨zk, zl, zm, zn, zo, zp⟩ := b3_ qb
   go_wp2_with (first | ((with_reducible refine gate_callee (f := 98) rfl ?_); refine gL_ (some 26) Try.func98 #[.agg #[.slice A0_0 l0_0.length c0_0, .int .i64 a0_1, .bool a0_2], .agg #[.slice A1_0 l1_0.length c1_0, .int .i64 a1_1, .bool a1_2]] ?_; (with_reducible refine (impl_compareDirections.calls kj2 _ _ l0_0 a0_1 a0_2 _ _ l1_0 a1_1 a1_2 qk _ ?side1 ?side2 ?side3 ?side4 A26.out).mono ?_); (case side1 => exact cb_ qg HB); (case side2 => exact qh.out); (case side3 => exact cb_ qi HB); (case side4 => exact qj.out); rintro e Qh ⟨rfl, hb⟩; refine ⟨_, rfl, ?_⟩; replace qa := kB_ qa hb; replace qb := kB_ qb hb; replace HB := bS_ HB hb; clear hb))
   go_ret
   exact rt_ (bb_ HB)
  rw [if_pos c27] at H
  have qr : (qk == 0) = true := beq_iff_eq.mpr c27
  have qs : (qk != 0) = false := bne_eq_false_iff_eq.mpr c27
  clear c27
  replace H := be_ H
  obtain ⟨ql, A280, H⟩ := H
  have A28 := Aside0.mk A280
  clear A280
  replace H := be_ H
  obtain ⟨qm, A290, H⟩ := H
  have A29 := Aside0.mk A290
  clear A290
  replace H := be_ H
  obtain ⟨qn, A300, H⟩ := H
  have A30 := Aside0.mk A300
  clear A300
  by_cases c31 : qn = 0
  rotate_left
  ·
   rw [if_neg c31] at H
   have qt : (qn == 0) = false := beq_eq_false_iff_ne.mpr c31
   have qu : (qn != 0) = true := bne_iff_ne.mpr c31
   obtain rfl := Option.some.inj H
   have jY := qc.out
   have jZ := qd.out
   obtain ⟨zq, zr, zs, zt, zu, zv⟩ := b3_ qa
   obtain ⟨zw, zx, zy, zz, zA, zB⟩ := b3_ qb
   try go_wp2_with (first | ((with_reducible refine gate_callee (f := 98) rfl ?_); refine gL_ (some 26) Try.func98 #[.agg #[.slice A0_0 l0_0.length c0_0, .int .i64 a0_1, .bool a0_2], .agg #[.slice A1_0 l1_0.length c1_0, .int .i64 a1_1, .bool a1_2]] ?_; (with_reducible refine (impl_compareDirections.calls kj2 _ _ l0_0 a0_1 a0_2 _ _ l1_0 a1_1 a1_2 qk _ ?side1 ?side2 ?side3 ?side4 A26.out).mono ?_); (case side1 => exact cb_ qg HB); (case side2 => exact qh.out); (case side3 => exact cb_ qi HB); (case side4 => exact qj.out); rintro e j8 ⟨rfl, hb⟩; refine ⟨_, rfl, ?_⟩; replace qa := kB_ qa hb; replace qb := kB_ qb hb; replace HB := bS_ HB hb; clear hb))
   replace qa := Aside0.mk (blk_drew qa.out); replace qb := Aside0.mk (blk_drew qb.out); replace HB := Aside0.mk (below_drew1 HB.out)
   refine start_ (n := 12) (S := fun w' => w'.cell? ⟨qe, 0, none⟩ = some (.slice A0_0 l0_0.length c0_0) ∧ w'.cell? ⟨qe, 1, none⟩ = some (.int .i64 a0_1) ∧ w'.cell? ⟨qe, 2, none⟩ = some (.bool a0_2) ∧ w'.cell? ⟨qf, 0, none⟩ = some (.slice A1_0 l1_0.length c1_0) ∧ w'.cell? ⟨qf, 1, none⟩ = some (.int .i64 a1_1) ∧ w'.cell? ⟨qf, 2, none⟩ = some (.bool a1_2)) (ds := []) (fl_ 12 0) (by kernel_rfl) rfl rfl ⟨bc_ qa 0, bc_ qa 1, bc_ qa 2, bc_ qb 0, bc_ qb 1, bc_ qb 2⟩ (fun hHeld => ?_); refine with_tabW impl_CompareAtoms.tab6 impl_CompareAtoms.bits6 (fun HT_ HW_ => ?_)
   generalize j8.drew = Qi at qa qb HB hHeld ⊢
   refine pX_ 0 (some 30) (fl_ 12 1) HT_ ?_
   refine pX_ 5 (some 35) (fl_ 12 33) HT_ ?_
   refine tX_ 1 (some 31) (fl_ 12 35) rfl rfl HT_ HW_ hHeld (by rintro w' ⟨s0, s1, s2, s3, s4, s5⟩; go_simp; with_reducible rfl) ?_
   refine tX_ 2 (some 32) (fl_ 12 39) rfl rfl HT_ HW_ hHeld (by rintro w' ⟨s0, s1, s2, s3, s4, s5⟩; go_simp; with_reducible rfl) ?_
   refine tX_ 6 (some 36) (fl_ 12 103) rfl rfl HT_ HW_ hHeld (by rintro w' ⟨s0, s1, s2, s3, s4, s5⟩; go_simp; with_reducible rfl) ?_
   refine tX_ 7 (some 37) (fl_ 12 231) rfl rfl HT_ HW_ hHeld (by rintro w' ⟨s0, s1, s2, s3, s4, s5⟩; go_simp; with_reducible rfl) ?_
   refine one_ (i := 3) (N := some 33) (fl_ 12 239) rfl rfl (one_of HT_.out (by kernel_rfl)) (by decide) (fun K hK => ?_)
   refine goes_ Try.func121 (by kernel_rfl) rfl #[.agg #[.slice A1_0 l1_0.length c1_0, .int .i64 a1_1, .bool a1_2]] (by rfl) rfl rfl (by (try simp only [List.map_toArray, List.map_cons, List.map_nil]); first | done | rfl | (simp only [List.length_drop, List.length_take]; rfl)) ?_
   with_reducible refine (impl_directionDivisor.calls kj2 _ _ l1_0 a1_1 a1_2 ql _ ?side1 ?side2 A28.out).mono ?_
   (case side1 => exact cb_ qi HB)
   (case side2 => exact qj.out)
   rintro e Qj ⟨rfl, hb⟩
   refine ⟨_, rfl, ?_⟩
   replace qa := kB_ qa hb; replace qb := kB_ qb hb; replace HB := bS_ HB hb; (try clear hb); (try clear hb2); (try clear hk); (try clear hi)
   refine hK.out _ _ ⟨bc_ qa 0, bc_ qa 1, bc_ qa 2, bc_ qb 0, bc_ qb 1, bc_ qb 2⟩ (fun hHeld => ?_)
   clear hK K
   refine norm_ (a' := ?_) ?_ ?_
   rotate_left
   ·
    show Act.put _ (some 33) _ = _
    simp only [Act.put, sa_, s0_, s1_, i64_w, i32_w]
    rfl
   refine pX_ 4 (some 34) (fl_ 12 255) HT_ ?_
   refine one_ (i := 8) (N := some 38) (fl_ 12 511) rfl rfl (one_of HT_.out (by kernel_rfl)) (by decide) (fun K hK => ?_)
   refine goes_ Try.func121 (by kernel_rfl) rfl #[.agg #[.slice A0_0 l0_0.length c0_0, .int .i64 a0_1, .bool a0_2]] (by rfl) rfl rfl (by (try simp only [List.map_toArray, List.map_cons, List.map_nil]); first | done | rfl | (simp only [List.length_drop, List.length_take]; rfl)) ?_
   with_reducible refine (impl_directionDivisor.calls kj2 _ _ l0_0 a0_1 a0_2 qm _ ?side1 ?side2 A29.out).mono ?_
   (case side1 => exact cb_ qg HB)
   (case side2 => exact qh.out)
   rintro e Qk ⟨rfl, hb⟩
   refine ⟨_, rfl, ?_⟩
   replace qa := kB_ qa hb; replace qb := kB_ qb hb; replace HB := bS_ HB hb; (try clear hb); (try clear hb2); (try clear hk); (try clear hi)
   refine hK.out _ _ ⟨bc_ qa 0, bc_ qa 1, bc_ qa 2, bc_ qb 0, bc_ qb 1, bc_ qb 2⟩ (fun hHeld => ?_)
   clear hK K
   refine norm_ (a' := ?_) ?_ ?_
   rotate_left
   ·
    show Act.put _ (some 38) _ = _
    simp only [Act.put, sa_, s0_, s1_, i64_w, i32_w]
    rfl
   refine pX_ 9 (some 39) (fl_ 12 1023) HT_ ?_
   refine one_ (i := 10) (N := some 40) (fl_ 12 2047) rfl rfl (one_of HT_.out (by kernel_rfl)) (by decide) (fun K hK => ?_)
   refine goes_ Try.func120 (by kernel_rfl) rfl #[.int .i64 (wrap64 (a0_1 * ql)), .int .i64 (wrap64 (a1_1 * qm))] (by rfl) rfl rfl (by (try simp only [List.map_toArray, List.map_cons, List.map_nil]); first | done | rfl | (simp only [List.length_drop, List.length_take]; rfl)) ?_
   with_reducible refine (impl_sign.calls (wrap64 (a0_1 * ql)) (wrap64 (a1_1 * qm)) qn _ A30.out).mono ?_
   rintro e w' ⟨rfl, ⟨nd, rfl⟩⟩
   refine ⟨_, rfl, ?_⟩
   refine hK.out _ _ ⟨bc_ qa 0, bc_ qa 1, bc_ qa 2, bc_ qb 0, bc_ qb 1, bc_ qb 2⟩ (fun hHeld => ?_)
   clear hK K
   refine norm_ (a' := ?_) ?_ ?_
   rotate_left
   ·
    show Act.put _ (some 40) _ = _
    simp only [Act.put, sa_, s0_, s1_, i64_w, i32_w]
    rfl
   refine pX_ 11 (some 6) (fl_ 12 4095) HT_ ?_
   refine done_ (done_of HT_.out (by kernel_rfl)) ?_
   try go_wp2
   go_ret
   exact rt_ (bb_ HB)
  rw [if_pos c31] at H
  have qt : (qn == 0) = true := beq_iff_eq.mpr c31
  have qu : (qn != 0) = false := bne_eq_false_iff_eq.mpr c31
  clear c31
  by_cases c32 : (a0_2 == a1_2) = true
  ·
   rw [if_pos c32] at H
   have qv : (a0_2 == a1_2) = true := c32
   (try (have qw : decide (a0_2 = a1_2) = true := by simpa using c32))
   (try (have qx : (a0_2 == a1_2) = true := by simpa using c32))
   clear c32
   obtain rfl := Option.some.inj H
   have j1 := qc.out
   have j2 := qd.out
   obtain ⟨zC, zD, zE, zF, zG, zH⟩ := b3_ qa
   obtain ⟨zI, zJ, zK, zL, zM, zN⟩ := b3_ qb
   try go_wp2_with (first | ((with_reducible refine gate_callee (f := 98) rfl ?_); refine gL_ (some 26) Try.func98 #[.agg #[.slice A0_0 l0_0.length c0_0, .int .i64 a0_1, .bool a0_2], .agg #[.slice A1_0 l1_0.length c1_0, .int .i64 a1_1, .bool a1_2]] ?_; (with_reducible refine (impl_compareDirections.calls kj2 _ _ l0_0 a0_1 a0_2 _ _ l1_0 a1_1 a1_2 qk _ ?side1 ?side2 ?side3 ?side4 A26.out).mono ?_); (case side1 => exact cb_ qg HB); (case side2 => exact qh.out); (case side3 => exact cb_ qi HB); (case side4 => exact qj.out); rintro e j9 ⟨rfl, hb⟩; refine ⟨_, rfl, ?_⟩; replace qa := kB_ qa hb; replace qb := kB_ qb hb; replace HB := bS_ HB hb; clear hb))
   replace qa := Aside0.mk (blk_drew qa.out); replace qb := Aside0.mk (blk_drew qb.out); replace HB := Aside0.mk (below_drew1 HB.out)
   refine start_ (n := 12) (S := fun w' => w'.cell? ⟨qe, 0, none⟩ = some (.slice A0_0 l0_0.length c0_0) ∧ w'.cell? ⟨qe, 1, none⟩ = some (.int .i64 a0_1) ∧ w'.cell? ⟨qe, 2, none⟩ = some (.bool a0_2) ∧ w'.cell? ⟨qf, 0, none⟩ = some (.slice A1_0 l1_0.length c1_0) ∧ w'.cell? ⟨qf, 1, none⟩ = some (.int .i64 a1_1) ∧ w'.cell? ⟨qf, 2, none⟩ = some (.bool a1_2)) (ds := []) (fl_ 12 0) (by kernel_rfl) rfl rfl ⟨bc_ qa 0, bc_ qa 1, bc_ qa 2, bc_ qb 0, bc_ qb 1, bc_ qb 2⟩ (fun hHeld => ?_); refine with_tabW impl_CompareAtoms.tab6 impl_CompareAtoms.bits6 (fun HT_ HW_ => ?_)
   generalize j9.drew = Ql at qa qb HB hHeld ⊢
   refine pX_ 0 (some 30) (fl_ 12 1) HT_ ?_
   refine pX_ 5 (some 35) (fl_ 12 33) HT_ ?_
   refine tX_ 1 (some 31) (fl_ 12 35) rfl rfl HT_ HW_ hHeld (by rintro w' ⟨s0, s1, s2, s3, s4, s5⟩; go_simp; with_reducible rfl) ?_
   refine tX_ 2 (some 32) (fl_ 12 39) rfl rfl HT_ HW_ hHeld (by rintro w' ⟨s0, s1, s2, s3, s4, s5⟩; go_simp; with_reducible rfl) ?_
   refine tX_ 6 (some 36) (fl_ 12 103) rfl rfl HT_ HW_ hHeld (by rintro w' ⟨s0, s1, s2, s3, s4, s5⟩; go_simp; with_reducible rfl) ?_
   refine tX_ 7 (some 37) (fl_ 12 231) rfl rfl HT_ HW_ hHeld (by rintro w' ⟨s0, s1, s2, s3, s4, s5⟩; go_simp; with_reducible rfl) ?_
   refine one_ (i := 3) (N := some 33) (fl_ 12 239) rfl rfl (one_of HT_.out (by kernel_rfl)) (by decide) (fun K hK => ?_)
   refine goes_ Try.func121 (by kernel_rfl) rfl #[.agg #[.slice A1_0 l1_0.length c1_0, .int .i64 a1_1, .bool a1_2]] (by rfl) rfl rfl (by (try simp only [List.map_toArray, List.map_cons, List.map_nil]); first | done | rfl | (simp only [List.length_drop, List.length_take]; rfl)) ?_
   with_reducible refine (impl_directionDivisor.calls kj2 _ _ l1_0 a1_1 a1_2 ql _ ?side1 ?side2 A28.out).mono ?_
   (case side1 => exact cb_ qi HB)
   (case side2 => exact qj.out)
   rintro e Qm ⟨rfl, hb⟩
   refine ⟨_, rfl, ?_⟩
   replace qa := kB_ qa hb; replace qb := kB_ qb hb; replace HB := bS_ HB hb; (try clear hb); (try clear hb2); (try clear hk); (try clear hi)
   refine hK.out _ _ ⟨bc_ qa 0, bc_ qa 1, bc_ qa 2, bc_ qb 0, bc_ qb 1, bc_ qb 2⟩ (fun hHeld => ?_)
   clear hK K
   refine norm_ (a' := ?_) ?_ ?_
   rotate_left
   ·
    show Act.put _ (some 33) _ = _
    simp only [Act.put, sa_, s0_, s1_, i64_w, i32_w]
    rfl
   refine pX_ 4 (some 34) (fl_ 12 255) HT_ ?_
   refine one_ (i := 8) (N := some 38) (fl_ 12 511) rfl rfl (one_of HT_.out (by kernel_rfl)) (by decide) (fun K hK => ?_)
   refine goes_ Try.func121 (by kernel_rfl) rfl #[.agg #[.slice A0_0 l0_0.length c0_0, .int .i64 a0_1, .bool a0_2]] (by rfl) rfl rfl (by (try simp only [List.map_toArray, List.map_cons, List.map_nil]); first | done | rfl | (simp only [List.length_drop, List.length_take]; rfl)) ?_
   with_reducible refine (impl_directionDivisor.calls kj2 _ _ l0_0 a0_1 a0_2 qm _ ?side1 ?side2 A29.out).mono ?_
   (case side1 => exact cb_ qg HB)
   (case side2 => exact qh.out)
   rintro e Qn ⟨rfl, hb⟩
   refine ⟨_, rfl, ?_⟩
   replace qa := kB_ qa hb; replace qb := kB_ qb hb; replace HB := bS_ HB hb; (try clear hb); (try clear hb2); (try clear hk); (try clear hi)
   refine hK.out _ _ ⟨bc_ qa 0, bc_ qa 1, bc_ qa 2, bc_ qb 0, bc_ qb 1, bc_ qb 2⟩ (fun hHeld => ?_)
   clear hK K
   refine norm_ (a' := ?_) ?_ ?_
   rotate_left
   ·
    show Act.put _ (some 38) _ = _
    simp only [Act.put, sa_, s0_, s1_, i64_w, i32_w]
    rfl
   refine pX_ 9 (some 39) (fl_ 12 1023) HT_ ?_
   refine one_ (i := 10) (N := some 40) (fl_ 12 2047) rfl rfl (one_of HT_.out (by kernel_rfl)) (by decide) (fun K hK => ?_)
   refine goes_ Try.func120 (by kernel_rfl) rfl #[.int .i64 (wrap64 (a0_1 * ql)), .int .i64 (wrap64 (a1_1 * qm))] (by rfl) rfl rfl (by (try simp only [List.map_toArray, List.map_cons, List.map_nil]); first | done | rfl | (simp only [List.length_drop, List.length_take]; rfl)) ?_
   with_reducible refine (impl_sign.calls (wrap64 (a0_1 * ql)) (wrap64 (a1_1 * qm)) qn _ A30.out).mono ?_
   rintro e w' ⟨rfl, ⟨nd, rfl⟩⟩
   refine ⟨_, rfl, ?_⟩
   refine hK.out _ _ ⟨bc_ qa 0, bc_ qa 1, bc_ qa 2, bc_ qb 0, bc_ qb 1, bc_ qb 2⟩ (fun hHeld => ?_)
   clear hK K
   refine norm_ (a' := ?_) ?_ ?_
   rotate_left
   ·
    show Act.put _ (some 40) _ = _
    simp only [Act.put, sa_, s0_, s1_, i64_w, i32_w]
    rfl
   refine pX_ 11 (some 6) (fl_ 12 4095) HT_ ?_
   refine done_ (done_of HT_.out (by kernel_rfl)) ?_
   obtain ⟨zO, zP, zQ, zR, zS, zT⟩ := b3_ qa
   obtain ⟨zU, zV, zW, zX, zY, zZ⟩ := b3_ qb
   try go_wp2
   go_ret
   exact rt_ (bb_ HB)
  rw [if_neg c32] at H
  have qv : (a0_2 == a1_2) = false := by simpa using c32
  (try (have qw : decide (a0_2 = a1_2) = false := by simpa using c32))
  (try (have qx : (a0_2 == a1_2) = false := by simpa using c32))
  (try (have j3 : ¬ (a0_2 = a1_2) := by simpa using c32))
  clear c32
  by_cases c42 : a0_2 = true
  ·
   subst c42
   have H1 : (some 1) = some r := by rw [if_pos rfl] at H; exact H
   clear H
   have H := H1
   clear H1
   obtain rfl := Option.some.inj H
   have j4 := qc.out
   have j5 := qd.out
   obtain ⟨z0, z1, z2, z3, z4, z5⟩ := b3_ qa
   obtain ⟨z6, z7, z8, z9, ja, jb⟩ := b3_ qb
   try go_wp2_with (first | ((with_reducible refine gate_callee (f := 98) rfl ?_); refine gL_ (some 26) Try.func98 #[.agg #[.slice A0_0 l0_0.length c0_0, .int .i64 a0_1, .bool true], .agg #[.slice A1_0 l1_0.length c1_0, .int .i64 a1_1, .bool a1_2]] ?_; (with_reducible refine (impl_compareDirections.calls kj2 _ _ l0_0 a0_1 true _ _ l1_0 a1_1 a1_2 qk _ ?side1 ?side2 ?side3 ?side4 A26.out).mono ?_); (case side1 => exact cb_ qg HB); (case side2 => exact qh.out); (case side3 => exact cb_ qi HB); (case side4 => exact qj.out); rintro e Qa ⟨rfl, hb⟩; refine ⟨_, rfl, ?_⟩; replace qa := kB_ qa hb; replace qb := kB_ qb hb; replace HB := bS_ HB hb; clear hb))
   replace qa := Aside0.mk (blk_drew qa.out); replace qb := Aside0.mk (blk_drew qb.out); replace HB := Aside0.mk (below_drew1 HB.out)
   refine start_ (n := 12) (S := fun w' => w'.cell? ⟨qe, 0, none⟩ = some (.slice A0_0 l0_0.length c0_0) ∧ w'.cell? ⟨qe, 1, none⟩ = some (.int .i64 a0_1) ∧ w'.cell? ⟨qe, 2, none⟩ = some (.bool true) ∧ w'.cell? ⟨qf, 0, none⟩ = some (.slice A1_0 l1_0.length c1_0) ∧ w'.cell? ⟨qf, 1, none⟩ = some (.int .i64 a1_1) ∧ w'.cell? ⟨qf, 2, none⟩ = some (.bool a1_2)) (ds := []) (fl_ 12 0) (by kernel_rfl) rfl rfl ⟨bc_ qa 0, bc_ qa 1, bc_ qa 2, bc_ qb 0, bc_ qb 1, bc_ qb 2⟩ (fun hHeld => ?_); refine with_tabW impl_CompareAtoms.tab6 impl_CompareAtoms.bits6 (fun HT_ HW_ => ?_)
   generalize Qa.drew = Qo at qa qb HB hHeld ⊢
   refine pX_ 0 (some 30) (fl_ 12 1) HT_ ?_
   refine pX_ 5 (some 35) (fl_ 12 33) HT_ ?_
   refine tX_ 1 (some 31) (fl_ 12 35) rfl rfl HT_ HW_ hHeld (by rintro w' ⟨s0, s1, s2, s3, s4, s5⟩; go_simp; with_reducible rfl) ?_
   refine tX_ 2 (some 32) (fl_ 12 39) rfl rfl HT_ HW_ hHeld (by rintro w' ⟨s0, s1, s2, s3, s4, s5⟩; go_simp; with_reducible rfl) ?_
   refine tX_ 6 (some 36) (fl_ 12 103) rfl rfl HT_ HW_ hHeld (by rintro w' ⟨s0, s1, s2, s3, s4, s5⟩; go_simp; with_reducible rfl) ?_
   refine tX_ 7 (some 37) (fl_ 12 231) rfl rfl HT_ HW_ hHeld (by rintro w' ⟨s0, s1, s2, s3, s4, s5⟩; go_simp; with_reducible rfl) ?_
   refine one_ (i := 3) (N := some 33) (fl_ 12 239) rfl rfl (one_of HT_.out (by kernel_rfl)) (by decide) (fun K hK => ?_)
   refine goes_ Try.func121 (by kernel_rfl) rfl #[.agg #[.slice A1_0 l1_0.length c1_0, .int .i64 a1_1, .bool a1_2]] (by rfl) rfl rfl (by (try simp only [List.map_toArray, List.map_cons, List.map_nil]); first | done | rfl | (simp only [List.length_drop, List.length_take]; rfl)) ?_
   with_reducible refine (impl_directionDivisor.calls kj2 _ _ l1_0 a1_1 a1_2 ql _ ?side1 ?side2 A28.out).mono ?_
   (case side1 => exact cb_ qi HB)
   (case side2 => exact qj.out)
   rintro e Qp ⟨rfl, hb⟩
   refine ⟨_, rfl, ?_⟩
   replace qa := kB_ qa hb; replace qb := kB_ qb hb; replace HB := bS_ HB hb; (try clear hb); (try clear hb2); (try clear hk); (try clear hi)
   refine hK.out _ _ ⟨bc_ qa 0, bc_ qa 1, bc_ qa 2, bc_ qb 0, bc_ qb 1, bc_ qb 2⟩ (fun hHeld => ?_)
   clear hK K
   refine norm_ (a' := ?_) ?_ ?_
   rotate_left
   ·
    show Act.put _ (some 33) _ = _
    simp only [Act.put, sa_, s0_, s1_, i64_w, i32_w]
    rfl
   refine pX_ 4 (some 34) (fl_ 12 255) HT_ ?_
   refine one_ (i := 8) (N := some 38) (fl_ 12 511) rfl rfl (one_of HT_.out (by kernel_rfl)) (by decide) (fun K hK => ?_)
   refine goes_ Try.func121 (by kernel_rfl) rfl #[.agg #[.slice A0_0 l0_0.length c0_0, .int .i64 a0_1, .bool true]] (by rfl) rfl rfl (by (try simp only [List.map_toArray, List.map_cons, List.map_nil]); first | done | rfl | (simp only [List.length_drop, List.length_take]; rfl)) ?_
   with_reducible refine (impl_directionDivisor.calls kj2 _ _ l0_0 a0_1 true qm _ ?side1 ?side2 A29.out).mono ?_
   (case side1 => exact cb_ qg HB)
   (case side2 => exact qh.out)
   rintro e Qq ⟨rfl, hb⟩
   refine ⟨_, rfl, ?_⟩
   replace qa := kB_ qa hb; replace qb := kB_ qb hb; replace HB := bS_ HB hb; (try clear hb); (try clear hb2); (try clear hk); (try clear hi)
   refine hK.out _ _ ⟨bc_ qa 0, bc_ qa 1, bc_ qa 2, bc_ qb 0, bc_ qb 1, bc_ qb 2⟩ (fun hHeld => ?_)
   clear hK K
   refine norm_ (a' := ?_) ?_ ?_
   rotate_left
   ·
    show Act.put _ (some 38) _ = _
    simp only [Act.put, sa_, s0_, s1_, i64_w, i32_w]
    rfl
   refine pX_ 9 (some 39) (fl_ 12 1023) HT_ ?_
   refine one_ (i := 10) (N := some 40) (fl_ 12 2047) rfl rfl (one_of HT_.out (by kernel_rfl)) (by decide) (fun K hK => ?_)
   refine goes_ Try.func120 (by kernel_rfl) rfl #[.int .i64 (wrap64 (a0_1 * ql)), .int .i64 (wrap64 (a1_1 * qm))] (by rfl) rfl rfl (by (try simp only [List.map_toArray, List.map_cons, List.map_nil]); first | done | rfl | (simp only [List.length_drop, List.length_take]; rfl)) ?_
   with_reducible refine (impl_sign.calls (wrap64 (a0_1 * ql)) (wrap64 (a1_1 * qm)) qn _ A30.out).mono ?_
   rintro e w' ⟨rfl, ⟨nd, rfl⟩⟩
   refine ⟨_, rfl, ?_⟩
   refine hK.out _ _ ⟨bc_ qa 0, bc_ qa 1, bc_ qa 2, bc_ qb 0, bc_ qb 1, bc_ qb 2⟩ (fun hHeld => ?_)
   clear hK K
   refine norm_ (a' := ?_) ?_ ?_
   rotate_left
   ·
    show Act.put _ (some 40) _ = _
    simp only [Act.put, sa_, s0_, s1_, i64_w, i32_w]
    rfl
   refine pX_ 11 (some 6) (fl_ 12 4095) HT_ ?_
   refine done_ (done_of HT_.out (by kernel_rfl)) ?_
   obtain ⟨jc, jd, je, jf, jg, jh⟩ := b3_ qa
   obtain ⟨ji, jj, jk, jl, jm, jn⟩ := b3_ qb
   try go_wp2
   go_ret
   exact rt_ (bb_ HB)
  replace c42 := Bool.eq_false_iff.mpr c42
  subst c42
  have H1 : (some (-1)) = some r := by rw [if_neg (show ¬ (false = true) by decide)] at H; exact H
  clear H
  have H := H1
  clear H1
  obtain rfl := Option.some.inj H
  have j6 := qc.out
  have j7 := qd.out
  obtain ⟨jo, jp, jq, jr, js, jt⟩ := b3_ qa
  obtain ⟨ju, jv, jw, jx, jy, jz⟩ := b3_ qb
  try go_wp2_with (first | ((with_reducible refine gate_callee (f := 98) rfl ?_); refine gL_ (some 26) Try.func98 #[.agg #[.slice A0_0 l0_0.length c0_0, .int .i64 a0_1, .bool false], .agg #[.slice A1_0 l1_0.length c1_0, .int .i64 a1_1, .bool a1_2]] ?_; (with_reducible refine (impl_compareDirections.calls kj2 _ _ l0_0 a0_1 false _ _ l1_0 a1_1 a1_2 qk _ ?side1 ?side2 ?side3 ?side4 A26.out).mono ?_); (case side1 => exact cb_ qg HB); (case side2 => exact qh.out); (case side3 => exact cb_ qi HB); (case side4 => exact qj.out); rintro e Qb ⟨rfl, hb⟩; refine ⟨_, rfl, ?_⟩; replace qa := kB_ qa hb; replace qb := kB_ qb hb; replace HB := bS_ HB hb; clear hb))
  replace qa := Aside0.mk (blk_drew qa.out); replace qb := Aside0.mk (blk_drew qb.out); replace HB := Aside0.mk (below_drew1 HB.out)
  refine start_ (n := 12) (S := fun w' => w'.cell? ⟨qe, 0, none⟩ = some (.slice A0_0 l0_0.length c0_0) ∧ w'.cell? ⟨qe, 1, none⟩ = some (.int .i64 a0_1) ∧ w'.cell? ⟨qe, 2, none⟩ = some (.bool false) ∧ w'.cell? ⟨qf, 0, none⟩ = some (.slice A1_0 l1_0.length c1_0) ∧ w'.cell? ⟨qf, 1, none⟩ = some (.int .i64 a1_1) ∧ w'.cell? ⟨qf, 2, none⟩ = some (.bool a1_2)) (ds := []) (fl_ 12 0) (by kernel_rfl) rfl rfl ⟨bc_ qa 0, bc_ qa 1, bc_ qa 2, bc_ qb 0, bc_ qb 1, bc_ qb 2⟩ (fun hHeld => ?_); refine with_tabW impl_CompareAtoms.tab6 impl_CompareAtoms.bits6 (fun HT_ HW_ => ?_)
  generalize Qb.drew = Qr at qa qb HB hHeld ⊢
  refine pX_ 0 (some 30) (fl_ 12 1) HT_ ?_
  refine pX_ 5 (some 35) (fl_ 12 33) HT_ ?_
  refine tX_ 1 (some 31) (fl_ 12 35) rfl rfl HT_ HW_ hHeld (by rintro w' ⟨s0, s1, s2, s3, s4, s5⟩; go_simp; with_reducible rfl) ?_
  refine tX_ 2 (some 32) (fl_ 12 39) rfl rfl HT_ HW_ hHeld (by rintro w' ⟨s0, s1, s2, s3, s4, s5⟩; go_simp; with_reducible rfl) ?_
  refine tX_ 6 (some 36) (fl_ 12 103) rfl rfl HT_ HW_ hHeld (by rintro w' ⟨s0, s1, s2, s3, s4, s5⟩; go_simp; with_reducible rfl) ?_
  refine tX_ 7 (some 37) (fl_ 12 231) rfl rfl HT_ HW_ hHeld (by rintro w' ⟨s0, s1, s2, s3, s4, s5⟩; go_simp; with_reducible rfl) ?_
  refine one_ (i := 3) (N := some 33) (fl_ 12 239) rfl rfl (one_of HT_.out (by kernel_rfl)) (by decide) (fun K hK => ?_)
  refine goes_ Try.func121 (by kernel_rfl) rfl #[.agg #[.slice A1_0 l1_0.length c1_0, .int .i64 a1_1, .bool a1_2]] (by rfl) rfl rfl (by (try simp only [List.map_toArray, List.map_cons, List.map_nil]); first | done | rfl | (simp only [List.length_drop, List.length_take]; rfl)) ?_
  with_reducible refine (impl_directionDivisor.calls kj2 _ _ l1_0 a1_1 a1_2 ql _ ?side1 ?side2 A28.out).mono ?_
  (case side1 => exact cb_ qi HB)
  (case side2 => exact qj.out)
  rintro e Qs ⟨rfl, hb⟩
  refine ⟨_, rfl, ?_⟩
  replace qa := kB_ qa hb; replace qb := kB_ qb hb; replace HB := bS_ HB hb; (try clear hb); (try clear hb2); (try clear hk); (try clear hi)
  refine hK.out _ _ ⟨bc_ qa 0, bc_ qa 1, bc_ qa 2, bc_ qb 0, bc_ qb 1, bc_ qb 2⟩ (fun hHeld => ?_)
  clear hK K
  refine norm_ (a' := ?_) ?_ ?_
  rotate_left
  ·
   show Act.put _ (some 33) _ = _
   simp only [Act.put, sa_, s0_, s1_, i64_w, i32_w]
   rfl
  refine pX_ 4 (some 34) (fl_ 12 255) HT_ ?_
  refine one_ (i := 8) (N := some 38) (fl_ 12 511) rfl rfl (one_of HT_.out (by kernel_rfl)) (by decide) (fun K hK => ?_)
  refine goes_ Try.func121 (by kernel_rfl) rfl #[.agg #[.slice A0_0 l0_0.length c0_0, .int .i64 a0_1, .bool false]] (by rfl) rfl rfl (by (try simp only [List.map_toArray, List.map_cons, List.map_nil]); first | done | rfl | (simp only [List.length_drop, List.length_take]; rfl)) ?_
  with_reducible refine (impl_directionDivisor.calls kj2 _ _ l0_0 a0_1 false qm _ ?side1 ?side2 A29.out).mono ?_
  (case side1 => exact cb_ qg HB)
  (case side2 => exact qh.out)
  rintro e Qt ⟨rfl, hb⟩
  refine ⟨_, rfl, ?_⟩
  replace qa := kB_ qa hb; replace qb := kB_ qb hb; replace HB := bS_ HB hb; (try clear hb); (try clear hb2); (try clear hk); (try clear hi)
  refine hK.out _ _ ⟨bc_ qa 0, bc_ qa 1, bc_ qa 2, bc_ qb 0, bc_ qb 1, bc_ qb 2⟩ (fun hHeld => ?_)
  clear hK K
  refine norm_ (a' := ?_) ?_ ?_
  rotate_left
  ·
   show Act.put _ (some 38) _ = _
   simp only [Act.put, sa_, s0_, s1_, i64_w, i32_w]
   rfl
  refine pX_ 9 (some 39) (fl_ 12 1023) HT_ ?_
  refine one_ (i := 10) (N := some 40) (fl_ 12 2047) rfl rfl (one_of HT_.out (by kernel_rfl)) (by decide) (fun K hK => ?_)
  refine goes_ Try.func120 (by kernel_rfl) rfl #[.int .i64 (wrap64 (a0_1 * ql)), .int .i64 (wrap64 (a1_1 * qm))] (by rfl) rfl rfl (by (try simp only [List.map_toArray, List.map_cons, List.map_nil]); first | done | rfl | (simp only [List.length_drop, List.length_take]; rfl)) ?_
  with_reducible refine (impl_sign.calls (wrap64 (a0_1 * ql)) (wrap64 (a1_1 * qm)) qn _ A30.out).mono ?_
  rintro e w' ⟨rfl, ⟨nd, rfl⟩⟩
  refine ⟨_, rfl, ?_⟩
  refine hK.out _ _ ⟨bc_ qa 0, bc_ qa 1, bc_ qa 2, bc_ qb 0, bc_ qb 1, bc_ qb 2⟩ (fun hHeld => ?_)
  clear hK K
  refine norm_ (a' := ?_) ?_ ?_
  rotate_left
  ·
   show Act.put _ (some 40) _ = _
   simp only [Act.put, sa_, s0_, s1_, i64_w, i32_w]
   rfl
  refine pX_ 11 (some 6) (fl_ 12 4095) HT_ ?_
  refine done_ (done_of HT_.out (by kernel_rfl)) ?_
  obtain ⟨jA, jB, jC, jD, jE, jF⟩ := b3_ qa
  obtain ⟨jG, jH, jI, jJ, jK, jL⟩ := b3_ qb
  try go_wp2
  go_ret
  exact rt_ (bb_ HB)
end CD
theorem impl_CompareAtoms.calls (k : Nat) (A0_0 : Option Addr) (c0_0 : Nat) (l0_0 : List Int) (a0_1 : Int) (a0_2 : Bool) (A1_0 : Option Addr) (c1_0 : Nat) (l1_0 : List Int) (a1_1 : Int) (a1_2 : Bool) (r : Int) (w : World) (hr0_0 : Kd.C (Kd.int .i64) w A0_0 l0_0.length l0_0) (hc0_0 : l0_0.length ≤ c0_0) (hr1_0 : Kd.C (Kd.int .i64) w A1_0 l1_0.length l1_0) (hc1_0 : l1_0.length ≤ c1_0) (h : impl_CompareAtoms.f k l0_0 a0_1 a0_2 l1_0 a1_1 a1_2 = some r) :
  Calls Try.prog 97 #[.agg #[.slice A0_0 l0_0.length c0_0, .int .i64 a0_1, .bool a0_2], .agg #[.slice A1_0 l1_0.length c1_0, .int .i64 a1_1, .bool a1_2]] w fun e w' => e = .returned (.int .i64 r) ∧ Below w.heap.size w w' :=
  (CD.impl_CompareAtoms.calls k A0_0 c0_0 l0_0 a0_1 a0_2 A1_0 c1_0 l1_0 a1_1 a1_2 r w hr0_0 hc0_0 hr1_0 hc1_0 h).mono fun _ _ h_ => ⟨h_.1, h_.2.1⟩
/-! ### slices_SortFunc: function 96 -/
/-- Insertion, and sorting by it. -/
def isIns {α : Type} (c : α → α → Int) (a : α) : List α → List α
 | [] => [a]
 | b :: l => if c a b ≤ 0 then a :: b :: l else b :: isIns c a l
def isort {α : Type} (c : α → α → Int) : List α → List α
 | [] => []
 | a :: l => isIns c a (isort c l)
theorem isIns_perm {α : Type} (c : α → α → Int) (a : α) : ∀ l, (isIns c a l).Perm (a :: l)
 | [] => List.Perm.refl _
 | b :: l => by
  unfold isIns
  split
  ·
   exact List.Perm.refl _
  ·
   exact ((isIns_perm c a l).cons b).trans (List.Perm.swap a b l)
theorem isort_perm {α : Type} (c : α → α → Int) : ∀ l, (isort c l).Perm l
 | [] => List.Perm.refl _
 | a :: l => (isIns_perm c a _).trans ((isort_perm c l).cons a)
theorem isIns_sorted {α : Type} (c : α → α → Int) (a : α) : ∀ l : List α, (∀ x ∈ a :: l, ∀ y ∈ a :: l, c y x = - c x y) → (∀ x ∈ a :: l, ∀ y ∈ a :: l, ∀ z ∈ a :: l, c x y ≤ 0 → c y z ≤ 0 → c x z ≤ 0) → l.Pairwise (fun x y => c x y ≤ 0) → (isIns c a l).Pairwise (fun x y => c x y ≤ 0)
 | [], _, _, _ => by simp [isIns]
 | b :: l, hf, ht, h => by
  obtain ⟨h1, h2⟩ := List.pairwise_cons.1 h
  unfold isIns
  split
  ·
   rename_i hab
   refine List.pairwise_cons.2 ⟨fun x hx => ?_, h⟩
   rcases List.mem_cons.1 hx with e | hx'
   ·
    rw [e]; exact hab
   ·
    exact ht a (by simp) b (by simp) x (by simp [hx']) hab (h1 x hx')
  ·
   rename_i hab
   refine List.pairwise_cons.2 ⟨fun x hx => ?_, isIns_sorted c a l (fun x hx y hy => hf x (by simp at hx ⊢; rcases hx with e | e <;> simp [e]) y (by simp at hy ⊢; rcases hy with e | e <;> simp [e])) (fun x hx y hy z hz => ht x (by simp at hx ⊢; rcases hx with e | e <;> simp [e]) y (by simp at hy ⊢; rcases hy with e | e <;> simp [e]) z (by simp at hz ⊢; rcases hz with e | e <;> simp [e])) h2⟩
   rcases List.mem_cons.1 ((isIns_perm c a l).mem_iff.1 hx) with e | hx'
   ·
    rw [e, hf a (by simp) b (by simp)]; omega
   ·
    exact h1 x hx'
theorem isort_sorted {α : Type} (c : α → α → Int) : ∀ l : List α, (∀ x ∈ l, ∀ y ∈ l, c y x = - c x y) → (∀ x ∈ l, ∀ y ∈ l, ∀ z ∈ l, c x y ≤ 0 → c y z ≤ 0 → c x z ≤ 0) → (isort c l).Pairwise (fun x y => c x y ≤ 0)
 | [], _, _ => by simp [isort]
 | a :: l, hf, ht => by
  have hm : ∀ x, x ∈ a :: isort c l → x ∈ a :: l := fun x hx => by
   rcases List.mem_cons.1 hx with e | hx'
   ·
    simp [e]
   ·
    simp [(isort_perm c l).mem_iff.1 hx']
  exact isIns_sorted c a (isort c l) (fun x hx y hy => hf x (hm x hx) y (hm y hy)) (fun x hx y hy z hz => ht x (hm x hx) y (hm y hy) z (hm z hz))
   (isort_sorted c l (fun x hx y hy => hf x (by simp [hx]) y (by simp [hy])) (fun x hx y hy z hz => ht x (by simp [hx]) y (by simp [hy]) z (by simp [hz])))
theorem isIns_congr {α : Type} (c d : α → α → Int) (a : α) : ∀ l : List α, (∀ x ∈ l, c a x = d a x) → isIns c a l = isIns d a l
 | [], _ => rfl
 | b :: l, h => by
  unfold isIns
  rw [h b (by simp), isIns_congr c d a l (fun x hx => h x (by simp [hx]))]
theorem isort_congr {α : Type} (c d : α → α → Int) : ∀ l : List α, (∀ x ∈ l, ∀ y ∈ l, c x y = d x y) → isort c l = isort d l
 | [], _ => rfl
 | a :: l, h => by
  unfold isort
  rw [isort_congr c d l (fun x hx y hy => h x (by simp [hx]) y (by simp [hy]))]
  exact isIns_congr c d a _ (fun x hx => h a (by simp) x (by simp [(isort_perm d l).mem_iff.1 hx]))
theorem sorted_same {α : Type} (c : α → α → Int) : ∀ R S : List α, (∀ x ∈ R, ∀ y ∈ R, c y x = - c x y) → (∀ x ∈ R, ∀ y ∈ R, c x y = 0 → x = y) → R.Perm S → R.Pairwise (fun x y => c x y ≤ 0) → S.Pairwise (fun x y => c x y ≤ 0) → R = S
 | [], S, _, _, hp, _, _ => (List.Perm.nil_eq hp)
 | a :: R, [], _, _, hp, _, _ => by have := hp.length_eq; simp at this
 | a :: R, b :: S, hf, he, hp, h1, h2 => by
  obtain ⟨a1, a2⟩ := List.pairwise_cons.1 h1
  obtain ⟨b1, b2⟩ := List.pairwise_cons.1 h2
  have hb : b ∈ a :: R := hp.mem_iff.2 (by simp)
  have e : a = b := by
   rcases List.mem_cons.1 hb with e | hb'
   ·
    exact e.symm
   ·
    rcases List.mem_cons.1 (hp.mem_iff.1 (List.mem_cons_self : a ∈ a :: R)) with e | ha'
    ·
     exact e
    have k1 := a1 b hb'
    have k2 := b1 a ha'
    have k3 := hf a (by simp) b hb
    exact he a (by simp) b hb (by omega)
  subst e
  rw [sorted_same c R S (fun x hx y hy => hf x (by simp [hx]) y (by simp [hy])) (fun x hx y hy => he x (by simp [hx]) y (by simp [hy])) (List.Perm.cons_inv hp) a2 b2]
/-- Cells of so many places each, side by side. -/
def rawR (sz : Nat) (x cs : List Value) : Prop := cs = x ∧ cs.length = sz ∧ ∀ u ∈ cs, u.oneCell' = true
theorem reps_flat (sz n : Nat) (rows : List (List Value)) (cur : Array Value) (hn : rows.length = n) (h3 : ∀ r ∈ rows, r.length = sz ∧ ∀ u ∈ r, u.oneCell' = true) (hs : n * sz ≤ cur.size)
  (hc : ∀ j i, (hj : j < rows.length) → (hi : i < rows[j].length) → cur[j * sz + i]? = some (rows[j][i])) : Reps (rawR sz) sz rows (cur.toList.take (n * sz)) := by
 refine ⟨by rw [List.length_take, Array.length_toList, Nat.min_eq_left hs, hn], fun j p hj => ?_⟩
 obtain ⟨hjl, rfl⟩ := List.getElem?_eq_some_iff.1 hj
 have hm := h3 rows[j] (List.getElem_mem hjl)
 have hle : j * sz + sz ≤ n * sz := by rw [← Nat.succ_mul]; exact Nat.mul_le_mul_right _ (by omega)
 have e : ((cur.toList.take (n * sz)).drop (j * sz)).take sz = rows[j] := by
  apply List.ext_getElem?
  intro i
  by_cases hi : i < sz
  ·
   rw [List.getElem?_take, if_pos hi, List.getElem?_drop, List.getElem?_take, if_pos (by omega), Array.getElem?_toList, hc j i hjl (by omega), List.getElem?_eq_getElem (by omega)]
  ·
   rw [List.getElem?_eq_none (by simp; omega), List.getElem?_eq_none (by omega)]
 exact ⟨e, by rw [e]; exact hm⟩
theorem flat_get {sz n : Nat} {rows : List (List Value)} {cur : Array Value} (hr : Reps (rawR sz) sz rows (cur.toList.take (n * sz))) (hn : rows.length = n) (hs : n * sz ≤ cur.size) (j i : Nat) (hj : j < rows.length) (hi : i < rows[j].length) : cur[j * sz + i]? = some (rows[j][i]) := by
 obtain ⟨he, hl, _⟩ := hr.2 j rows[j] (List.getElem?_eq_getElem hj)
 have hle : j * sz + sz ≤ n * sz := by rw [← Nat.succ_mul]; exact Nat.mul_le_mul_right _ (by omega)
 have hi2 : i < sz := by rw [he] at hl; omega
 have := congrArg (fun x => x[i]?) he
 simp only [List.getElem?_take, if_pos hi2, List.getElem?_drop, if_pos (show j * sz + i < n * sz by omega), Array.getElem?_toList, List.getElem?_eq_getElem hi] at this
 exact this
theorem sortW_heap {α : Type} [Inhabited α] (enc : α → List Value) (sz : Nat) (w : World) (g off m : Nat) (d : Array α) (os : Array Obj) (k : Nat) (hk : k < w.heap.size) (hne : k ≠ g) : (Go.Proofs.sortWorldK enc sz w g off m d os).heap[k]? = w.heap[k]? := by
 unfold Go.Proofs.sortWorldK Go.Sort.putRowK Go.Sort.putRow Go.Sort.mapBlock Go.Sort.ahead Go.Sort.grow
 simp only []
 rw [Array.getElem?_append_left (by simpa using hk), Array.getElem?_modify, if_neg (fun e => hne e.symm)]
theorem sortW_row {α : Type} [Inhabited α] (enc : α → List Value) (sz : Nat) (w : World) (g m : Nat) (d : Array α) (os : Array Obj) (cur : Array Value) (e : TypeId) (h : w.heap[g]? = some (.cells cur e (0, 0))) :
  (Go.Proofs.sortWorldK enc sz w g 0 m d os).heap[g]? = some (.cells (Go.Sort.putCells id 0 (Go.Sort.flatK enc sz d) cur) e (0, 0)) := by
 have hk : g < w.heap.size := (Array.getElem?_eq_some_iff.1 h).1
 unfold Go.Proofs.sortWorldK Go.Sort.putRowK Go.Sort.putRow Go.Sort.mapBlock Go.Sort.ahead Go.Sort.grow
 simp only []
 rw [Array.getElem?_append_left (by simpa using hk), Array.getElem?_modify, if_pos rfl, h]
 rfl

def cmpO (k : Nat) (a b : S52) : Option Int := impl_CompareAtoms.f k a.f0 a.f1 a.f2 b.f0 b.f1 b.f2
def cmpI (k : Nat) (a b : S52) : Int := (cmpO k a b).getD 2
/-- On these atoms the comparison answers, and orders them; equal ones are one. -/
def cmpFine (k : Nat) (l : List S52) : Prop := l.length ≤ 1000000000 ∧ (∀ a ∈ l, ∀ b ∈ l, (cmpO k a b).isSome = true) ∧ (∀ a ∈ l, ∀ b ∈ l, cmpI k b a = - cmpI k a b) ∧ (∀ a ∈ l, ∀ b ∈ l, cmpI k a b = 0 → a.f0 = b.f0 ∧ a.f1 = b.f1 ∧ a.f2 = b.f2) ∧ ∀ a ∈ l, ∀ b ∈ l, ∀ c ∈ l, cmpI k a b ≤ 0 → cmpI k b c ≤ 0 → cmpI k a c ≤ 0
instance (k : Nat) (l : List S52) : Decidable (cmpFine k l) := by unfold cmpFine; infer_instance
def slices_SortFunc.f (k : Nat) (l0 : List S52) : Option (List S52) := if cmpFine k l0 then some (isort (cmpI k) l0) else none
theorem slices_SortFunc.mono : ∀ l0 k, LeO (slices_SortFunc.f k l0) (slices_SortFunc.f (k + 1) l0) := fun l k r h => by
 unfold slices_SortFunc.f at h ⊢
 split at h
 case isFalse => cases h
 case isTrue hc_ =>
  obtain ⟨hln, hc⟩ := hc_
  have e : ∀ a ∈ l, ∀ b ∈ l, cmpO (k + 1) a b = cmpO k a b := fun a ha b hb => by
   obtain ⟨x, hx⟩ := Option.isSome_iff_exists.1 (hc.1 a ha b hb)
   rw [hx]
   exact impl_CompareAtoms.mono _ _ _ _ _ _ k x hx
  have e2 : ∀ a ∈ l, ∀ b ∈ l, cmpI (k + 1) a b = cmpI k a b := fun a ha b hb => by unfold cmpI; rw [e a ha b hb]
  rw [if_pos ⟨hln, fun a ha b hb => by rw [e a ha b hb]; exact hc.1 a ha b hb, fun a ha b hb => by rw [e2 a ha b hb, e2 b hb a ha]; exact hc.2.1 a ha b hb, fun a ha b hb => by rw [e2 a ha b hb]; exact hc.2.2.1 a ha b hb, fun a ha b hb c hcc => by rw [e2 a ha b hb, e2 b hb c hcc, e2 a ha c hcc]; exact hc.2.2.2 a ha b hb c hcc⟩]
  rw [← h, isort_congr (cmpI (k + 1)) (cmpI k) l e2]
theorem slices_SortFunc.ext {p q : S52} (h0 : p.f0 = q.f0) (h1 : p.f1 = q.f1) (h2 : p.f2 = q.f2) : p = q := by
 cases p
 cases q
 simp only at h0 h1 h2
 subst h0 h1 h2
 rfl
open Go.Sort in
set_option maxHeartbeats 4000000 in
set_option maxRecDepth 100000 in
theorem slices_SortFunc.calls (k : Nat) (A : Option Addr) (c : Nat) (l r : List S52) (w : World) (base : Nat) (ok : Nat → Prop) (h : Kd.N k52 52 w base ok (.slice A l.length c) l) (hf : slices_SortFunc.f k l = some r) :
  Calls Try.prog 96 #[.slice A l.length c, .func (.func 97) #[] #[]] w fun e w' => e = .returned (.tuple #[]) ∧ Kd.N k52 52 w' base ok (.slice A r.length c) r ∧ r.length = l.length ∧ Below base w w' ∧ ∀ i, i < w.heap.size → some i ≠ (Value.slice A l.length c).ownBlock → w'.heap[i]? = w.heap[i]? := by
 unfold slices_SortFunc.f at hf
 split at hf
 case isFalse => cases hf
 case isTrue hc_ =>
 obtain ⟨hln, hc⟩ := hc_
 obtain rfl := Option.some.inj hf
 have hlr := (isort_perm (cmpI k) l).length_eq
 by_cases hl : l = []
 ·
  subst hl
  have hS := AnyF.slices_SortFunc_none (P := Try.prog) (ρ := Try.sortL_ren) { Try.sortL with } A c (.func (.func 97) #[] #[]) w
  change Calls Try.prog 96 _ _ _ at hS
  refine hS.mono ?_
  rintro e w' ⟨rfl, rfl⟩
  exact ⟨rfl, h, rfl, Below.refl _ _, fun _ _ _ => rfl⟩
 have hpos : 0 < l.length := List.length_pos_iff.2 hl
 obtain ⟨h0, rows, hrl, ⟨hok, inner, ⟨hil, ho⟩, hreps⟩, hF⟩ := h
 rcases ho with ⟨ho, _⟩ | ⟨g, cap, cur, ho, hbg, hblk, hncap, hcapm, hcs, htake⟩
 ·
  injection ho with _ hn _; omega
 injection ho with ho1 ho2 ho3
 subst ho1 ho3
 have hown : (Value.slice (some ⟨g, 0, none⟩) l.length c).ownBlock = some g := rfl
 replace hcs : cur.size = c * 3 := hcs
 have hsz : l.length * 3 ≤ cur.size := by omega
 have hglt : g < w.heap.size := (Array.getElem?_eq_some_iff.1 hblk).1
 replace hreps : Reps (rawR 3) 3 rows (cur.toList.take (l.length * 3)) := by rw [← hrl]; rw [← htake] at hreps; exact hreps
 have hrows : ∀ p ∈ rows, p.length = 3 ∧ ∀ u ∈ p, u.oneCell' = true := fun p hp => by
  obtain ⟨j, hj, rfl⟩ := List.getElem_of_mem hp
  obtain ⟨he, h1, h2⟩ := hreps.2 j rows[j] (List.getElem?_eq_getElem hj)
  rw [he] at h1 h2
  exact ⟨h1, h2⟩
 -- the elements: their cells and what these read
 let ok' : Nat → Prop := fun q => ok q ∧ some q ≠ (Value.slice (some ⟨g, 0, none⟩) l.length c).ownBlock
 let β := { p : List Value × S52 // (p.1.length = 3 ∧ ∀ u ∈ p.1, u.oneCell' = true) ∧ Kd.FK k52 w ok' p.2 p.1 ∧ p.2 ∈ l }
 let el : (i : Fin l.length) → β := fun i => ⟨(rows[i.1]'(by rw [hrl]; exact i.2), l[i.1]), hrows _ (List.getElem_mem _), hF i.1 _ _ (List.getElem?_eq_getElem i.2) (List.getElem?_eq_getElem _), List.getElem_mem _⟩
 haveI : Inhabited β := ⟨el ⟨0, hpos⟩⟩
 let enc : β → List Value := fun x => x.1.1
 let cf : β → β → Int := fun x y => cmpI k x.1.2 y.1.2
 let d : Array β := Array.ofFn el
 have hds : d.size = l.length := by simp [d]
 have hdg : ∀ i (hi : i < l.length), d[i]! = el ⟨i, hi⟩ := fun i hi => by rw [getElem!_pos d i (by omega)]; simp [d]
 have hlt : ∀ x y : β, ltOf cf x y = decide (cmpI k x.1.2 y.1.2 < 0) := fun x y => rfl
 have hO : SWO (ltOf cf) := by
  obtain ⟨_, c1, _, c3⟩ := hc
  refine ⟨fun x => ?_, fun x y z h1 h2 => ?_, fun x y z h1 h2 => ?_⟩
  ·
   rw [hlt]; have := c1 _ x.2.2.2 _ x.2.2.2; simp; omega
  ·
   rw [hlt] at *
   simp at h1 h2 ⊢
   have k1 := c3 _ x.2.2.2 _ y.2.2.2 _ z.2.2.2 (by omega) (by omega)
   have f1 := c1 _ x.2.2.2 _ z.2.2.2
   by_cases h3 : cmpI k x.1.2 z.1.2 = 0
   ·
    have k2 := c3 _ z.2.2.2 _ x.2.2.2 _ y.2.2.2 (by omega) (by omega)
    have f2 := c1 _ z.2.2.2 _ y.2.2.2
    omega
   ·
    omega
  ·
   rw [hlt] at *
   simp at h1 h2 ⊢
   have f1 := c1 _ x.2.2.2 _ y.2.2.2
   have f2 := c1 _ y.2.2.2 _ z.2.2.2
   have f3 := c1 _ x.2.2.2 _ z.2.2.2
   have k1 := c3 _ z.2.2.2 _ y.2.2.2 _ x.2.2.2 (by omega) (by omega)
   omega
 have hH : HoldsK enc 3 w g 0 d := by
  intro t ht
  rw [size_flatK, hds] at ht
  rw [get_flatK enc 3 d t (by rw [hds]; exact ht), Nat.zero_add]
  have hq : t / 3 < l.length := by omega
  have hm : t % 3 < 3 := Nat.mod_lt _ (by omega)
  rw [hdg _ hq]
  have hrq := hrows (rows[t / 3]'(by omega)) (List.getElem_mem _)
  have hcu := flat_get hreps hrl hsz (t / 3) (t % 3) (by omega) (by rw [hrq.1]; exact hm)
  rw [show t / 3 * 3 + t % 3 = t by omega] at hcu
  constructor
  ·
   rw [blk_cell hblk, hcu]
   show _ = some (id ((rows[t / 3]'(by omega))[t % 3]!))
   rw [getElem!_pos _ _ (by rw [hrq.1]; exact hm)]; rfl
  ·
   exact blk_frozen hblk t
 have eg : ∀ args w, (callFunc 97 args).run Try.prog w = .ok (.enter 97 args) w := enters_of Try.func97 (by kernel_rfl) rfl
 have hcmp : Go.Proofs.CmpLays Try.prog 97 #[] enc 3 cf g 0 d.size w := by
  intro m os dk _ x y
  have rd : ∀ z : β, ∃ A0 c0, z.1.1 = [.slice A0 z.1.2.f0.length c0, .int .i64 z.1.2.f1, .bool z.1.2.f2] ∧ z.1.2.f0.length ≤ c0 ∧ (Kd.int .i64).C (Go.Proofs.sortWorldK enc 3 w g 0 m dk os) A0 z.1.2.f0.length z.1.2.f0 := fun z =>
   k52_open (z.2.2.1 _ (fun q hq hqlt => sortW_heap enc 3 w g 0 m dk os q hqlt (fun e => hq.2 (by rw [e]; rfl))))
  obtain ⟨Ax, cx, ex, lx, gx⟩ := rd x
  obtain ⟨Ay, cy, ey, ly, gy⟩ := rd y
  obtain ⟨v, hv⟩ := Option.isSome_iff_exists.1 (hc.1 _ x.2.2.2 _ y.2.2.2)
  have hcv : cf x y = v := by show cmpI k _ _ = v; unfold cmpI; rw [hv]; rfl
  have := CD.impl_CompareAtoms.calls k Ax cx x.1.2.f0 x.1.2.f1 x.1.2.f2 Ay cy y.1.2.f0 y.1.2.f1 y.1.2.f2 v _ gx lx gy ly hv
  have ea : (#[.agg (enc x).toArray, .agg (enc y).toArray] ++ #[] : Array Value) = #[.agg #[.slice Ax x.1.2.f0.length cx, .int .i64 x.1.2.f1, .bool x.1.2.f2], .agg #[.slice Ay y.1.2.f0.length cy, .int .i64 y.1.2.f1, .bool y.1.2.f2]] := by
   have e1 : enc x = [.slice Ax x.1.2.f0.length cx, .int .i64 x.1.2.f1, .bool x.1.2.f2] := ex
   have e2 : enc y = [.slice Ay y.1.2.f0.length cy, .int .i64 y.1.2.f1, .bool y.1.2.f2] := ey
   rw [e1, e2]; simp
  rw [ea, hcv]
  refine this.mono ?_
  rintro e w' ⟨rfl, hw⟩
  exact ⟨rfl, hw.grow⟩
 have hS := Go.Proofs.AnyQ.slices_SortFunc Try.sortL 3 Try.isAgg52 Try.sizeOf52 enc (fun x => x.2.1.1) (fun x => x.2.1.2) cf hO 97 #[] g 0 c d w eg hcmp hH hglt (by rw [hds]; omega)
 change Calls Try.prog 96 _ _ _ at hS
 rw [hds] at hS
 refine hS.mono ?_
 rintro e w' ⟨rfl, d', m, os, ⟨hp1, _, hp3⟩, hs, rfl⟩
 have hd's : d'.size = l.length := by rw [hp1, hds]
 have hdl : d.toList.map (fun x => x.1.2) = l := by
  apply List.ext_getElem
  ·
   simp [d]
  ·
   intro i h1 h2; simp [d, el]
 have hperm : d'.toList.Perm d.toList := by
  have e1 : (d'.extract 0 l.length) = d' := by rw [← hd's]; simp
  have e2 : (d.extract 0 l.length) = d := by rw [← hds]; simp
  rwa [e1, e2] at hp3
 have hl' : d'.toList.map (fun x => x.1.2) = isort (cmpI k) l := by
  refine sorted_same (cmpI k) _ _ ?_ ?_ ?_ ?_ (isort_sorted (cmpI k) l hc.2.1 hc.2.2.2)
  ·
   intro x hx y hy
   obtain ⟨x', _, rfl⟩ := List.mem_map.1 hx
   obtain ⟨y', _, rfl⟩ := List.mem_map.1 hy
   exact hc.2.1 _ x'.2.2.2 _ y'.2.2.2
  ·
   intro x hx y hy h1
   obtain ⟨x', _, rfl⟩ := List.mem_map.1 hx
   obtain ⟨y', _, rfl⟩ := List.mem_map.1 hy
   obtain ⟨e1, e2, e3⟩ := hc.2.2.1 _ x'.2.2.2 _ y'.2.2.2 h1
   exact slices_SortFunc.ext e1 e2 e3
  ·
   have := hperm.map (fun x => x.1.2)
   rw [hdl] at this
   exact this.trans (isort_perm (cmpI k) l).symm
  ·
   rw [List.pairwise_map, List.pairwise_iff_getElem]
   intro i j hi hj hij
   have := hs i j (Nat.zero_le _) hij (by simpa [hd's] using hj)
   rw [getElem!_pos d' i (by simpa using hi), getElem!_pos d' j (by simpa using hj), hlt] at this
   have f := hc.2.1 _ (d'[i]'(by simpa using hi)).2.2.2 _ (d'[j]'(by simpa using hj)).2.2.2
   simp at this
   simp only [Array.getElem_toList]
   omega
 have hblk' := sortW_row enc 3 w g m d' os cur 52 hblk
 have hrl' : (d'.toList.map enc).length = l.length := by simp [hd's]
 have hcur' : (putCells id 0 (flatK enc 3 d') cur).size = c * 3 := by unfold putCells; rw [Array.size_mapIdx]; exact hcs
 have hcl : (putCells id 0 (flatK enc 3 d') cur).toList.length = c * 3 := by rw [Array.length_toList]; exact hcur'
 refine ⟨rfl, ⟨fun q hq => h0 q hq, d'.toList.map enc, by rw [hrl', hlr], ⟨fun q hq => hq.symm, _, ⟨?_, .inr ⟨g, c, _, ?_, hbg, hblk', ?_, hcapm, ?_, rfl⟩⟩, ?_⟩, ?_⟩, hlr, ?_, ?_⟩
 rotate_left 5
 ·
  intro j x cs hx hcs'
  have hj : j < d'.size := by have := (List.getElem?_eq_some_iff.1 hcs').1; simpa using this
  rw [← hl'] at hx
  simp [hj] at hx hcs'
  subst hx hcs'
  have := (d'[j]).2.2.1
  refine Kd.FK_mono (Kd.FK_step this (fun q hq hqlt => sortW_heap enc 3 w g 0 m d' os q hqlt (fun e => hq.2 (by rw [e]; rfl)))) (fun q hq => ?_)
  exact hq
 ·
  refine ⟨rfl, rfl, rfl, Go.Proofs.size_sortWorldK_c enc 3 w g 0 m d' os, fun q hq => sortW_heap enc 3 w g 0 m d' os q (by omega) (by omega)⟩
 ·
  intro i hi hne
  exact sortW_heap enc 3 w g 0 m d' os i hi (fun e => hne (by rw [e]; rfl))
 ·
  show (List.take ((d'.toList.map enc).length * 3) _).length = (d'.toList.map enc).length * 3
  rw [List.length_take, hrl', hcl]; omega
 ·
  rw [hrl', hlr]
 ·
  rw [hrl']; omega
 ·
  exact hcur'
 refine reps_flat 3 (d'.toList.map enc).length (d'.toList.map enc) _ rfl ?_ ?_ ?_
 ·
  intro p hp
  obtain ⟨x, _, rfl⟩ := List.mem_map.1 hp
  exact x.2.1
 ·
  rw [hrl', hcur']; omega
 intro j i hj hi
 rw [hrl'] at hj
 simp only [List.getElem_map, Array.getElem_toList] at hi ⊢
 have h3 := (d'[j]'(by omega)).2.1.1
 have hi3 : i < 3 := by have : (enc (d'[j]'(by omega))).length = 3 := h3; omega
 have ht : j * 3 + i < l.length * 3 := by omega
 simp only [putCells, Array.getElem?_mapIdx]
 rw [Array.getElem?_eq_getElem (by omega), Option.map_some, if_pos ⟨Nat.zero_le _, by simp [hd's]; omega⟩, Nat.sub_zero, get_flatK enc 3 d' _ (by omega)]
 rw [show (j * 3 + i) / 3 = j by omega, show (j * 3 + i) % 3 = i by omega, getElem!_pos d' j (by omega), getElem!_pos _ i hi]
 rfl

end Go.Proofs.Ytkicjflhokckgaa.PFnExactIsEmptyCell
