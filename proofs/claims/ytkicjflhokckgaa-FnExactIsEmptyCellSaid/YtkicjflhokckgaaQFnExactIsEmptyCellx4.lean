/- The functions that the law FnExactIsEmptyCell reaches, each as a Lean function with the same answers, and the proof that the call comes to exactly these: turned by program out of the printed texts. No condition but those that each theorem names. -/
import Derived.Test.YtkicjflhokckgaaQFnExactIsEmptyCellx0
import Derived.Test.YtkicjflhokckgaaQFnExactIsEmptyCellx3
namespace Go.Proofs.Ytkicjflhokckgaa.PFnExactIsEmptyCell
open Go.RowKit Go.Proofs.YtkicjflhokckgaaW.PrintWords Go.Proofs.YtkicjflhokckgaaW.PrintLast Go.Proofs.YtkicjflhokckgaaW.PrintMore
attribute [local go_sem] max2_int min2_int max_two min_two max_three min_three max_four min_four   -- for this text's walks alone
set_option linter.unusedVariables false
set_option linter.unusedSimpArgs false

/-! ### impl_normalOf: function 54 -/
mutual
def impl_normalOf.l0 : Nat → Int → List (S52) → List (S52) → Int → Int → Option (Int × (List (S52)))
 | 0, _, _, _, _, _ => none
 | k + 1, x0, x5, x12, x13, x14 => if x14 < x13 then (if 0 ≤ x14 then (if x14 < (x12.length : Int) then ((impl_hasVariables.f k ((rd_T52 x12 x14).f0) ((rd_T52 x12 x14).f1) ((rd_T52 x12 x14).f2)).bind fun zg => (if zg = true then ((impl_copyAtom.f ((rd_T52 x12 x14).f0) ((rd_T52 x12 x14).f1) ((rd_T52 x12 x14).f2)).bind fun qQ => (if x5.length < 3518437208883 then (impl_normalOf.l0 k x0 (x5 ++ [(⟨qQ.1, qQ.2.1, qQ.2.2⟩ : S52)]) x12 x13 (wrap64 (x14 + 1))) else (none))) else (if ((rd_T52 x12 x14).f1) > 0 then (impl_normalOf.j1 k x0 x5 x12 x13 x14 true) else (if ((rd_T52 x12 x14).f1) = 0 then (impl_normalOf.j1 k x0 x5 x12 x13 x14 ((rd_T52 x12 x14).f2)) else (impl_normalOf.j1 k x0 x5 x12 x13 x14 false))))) else (none)) else (none)) else ((slices_SortFunc.f k x5).bind fun qb => (impl_normalOf.l1 k qb qb (qb.length : Int) 0 x0 (([] : List (S52)))))
def impl_normalOf.j1 : Nat → Int → List (S52) → List (S52) → Int → Int → Bool → Option (Int × (List (S52)))
 | 0, _, _, _, _, _, _ => none
 | k + 1, x0, x5, x12, x13, x14, x32 => if x32 = true then ((impl_emptyCell.f x0).bind fun qV => (some (qV.1, qV.2))) else (impl_normalOf.l0 k x0 x5 x12 x13 (wrap64 (x14 + 1)))
def impl_normalOf.l1 : Nat → List (S52) → List (S52) → Int → Int → Int → List (S52) → Option (Int × (List (S52)))
 | 0, _, _, _, _, _, _ => none
 | k + 1, x5, x46, x47, x48, x429000, x429001 => if x48 < x47 then (if 0 ≤ x48 then (if x48 < (x46.length : Int) then (if (wrap64 (x48 + 1)) < (x5.length : Int) then (if 0 ≤ (wrap64 (x48 + 1)) then ((impl_compareDirections.f k ((rd_T52 x46 x48).f0) ((rd_T52 x46 x48).f1) ((rd_T52 x46 x48).f2) ((rd_T52 x5 (wrap64 (x48 + 1))).f0) ((rd_T52 x5 (wrap64 (x48 + 1))).f1) ((rd_T52 x5 (wrap64 (x48 + 1))).f2)).bind fun qR => (if qR = 0 then (impl_normalOf.l1 k x5 x46 x47 (wrap64 (x48 + 1)) x429000 x429001) else (if x429001.length < 3518437208883 then (impl_normalOf.l1 k x5 x46 x47 (wrap64 (x48 + 1)) x429000 (x429001 ++ [(⟨(rd_T52 x46 x48).f0, (rd_T52 x46 x48).f1, (rd_T52 x46 x48).f2⟩ : S52)])) else (none)))) else (none)) else (if x429001.length < 3518437208883 then (impl_normalOf.l1 k x5 x46 x47 (wrap64 (x48 + 1)) x429000 (x429001 ++ [(⟨(rd_T52 x46 x48).f0, (rd_T52 x46 x48).f1, (rd_T52 x46 x48).f2⟩ : S52)])) else (none))) else (none)) else (none)) else (some (x429000, x429001))
end
def impl_normalOf.f (k : Nat) (a0 : Int) (l1 : List (S52)) : Option (Int × (List (S52))) := impl_normalOf.l0 k a0 (([] : List (S52))) l1 (l1.length : Int) 0
theorem impl_normalOf.mono_l : ∀ k, (∀ y0 y1 y2 y3 y4, LeO (impl_normalOf.l0 k y0 y1 y2 y3 y4) (impl_normalOf.l0 (k + 1) y0 y1 y2 y3 y4)) ∧ (∀ y0 y1 y2 y3 y4 y5, LeO (impl_normalOf.j1 k y0 y1 y2 y3 y4 y5) (impl_normalOf.j1 (k + 1) y0 y1 y2 y3 y4 y5)) ∧ (∀ y0 y1 y2 y3 y4 y5, LeO (impl_normalOf.l1 k y0 y1 y2 y3 y4 y5) (impl_normalOf.l1 (k + 1) y0 y1 y2 y3 y4 y5))
 | 0 => ⟨fun _ _ _ _ _ r h => by simp [impl_normalOf.l0] at h, fun _ _ _ _ _ _ r h => by simp [impl_normalOf.j1] at h, fun _ _ _ _ _ _ r h => by simp [impl_normalOf.l1] at h⟩
 | k + 1 => by
  obtain ⟨ih0, ih1, ih2⟩ := impl_normalOf.mono_l k
  refine ⟨?_, ?_, ?_⟩ <;> (intros; first | unfold impl_normalOf.l0 | unfold impl_normalOf.j1 | unfold impl_normalOf.l1)
  all_goals
   repeat' first
   | (with_reducible exact ih0 _ _ _ _ _)
   | (with_reducible exact ih1 _ _ _ _ _ _)
   | (with_reducible exact ih2 _ _ _ _ _ _)
   | (with_reducible exact impl_compareDirections.mono _ _ _ _ _ _ _)
   | (with_reducible exact impl_hasVariables.mono _ _ _ _)
   | (with_reducible exact slices_SortFunc.mono _ _)
   | (with_reducible exact LeO.refl _)
   | (with_reducible exact LeO.none _)
   | (with_reducible refine LeO.ite ?_ ?_)
   | (with_reducible refine LeO.bind ?_ (fun _ => ?_))
theorem impl_normalOf.mono : ∀ a0 a1 k, LeO (impl_normalOf.f k a0 a1) (impl_normalOf.f (k + 1) a0 a1) := by
 intro a0 a1 k
 obtain ⟨ih0, ih1, ih2⟩ := impl_normalOf.mono_l k
 unfold impl_normalOf.f
 repeat' first
   | (with_reducible exact ih0 _ _ _ _ _)
   | (with_reducible exact ih1 _ _ _ _ _ _)
   | (with_reducible exact ih2 _ _ _ _ _ _)
   | (with_reducible exact impl_compareDirections.mono _ _ _ _ _ _ _)
   | (with_reducible exact impl_hasVariables.mono _ _ _ _)
   | (with_reducible exact slices_SortFunc.mono _ _)
   | (with_reducible exact LeO.refl _)
   | (with_reducible exact LeO.none _)
   | (with_reducible refine LeO.ite ?_ ?_)
   | (with_reducible refine LeO.bind ?_ (fun _ => ?_))
def impl_normalOf.T15 : Bool × List (List Nat × List Nat) := (true, [([], []), ([0], [0]), ([], []), ([2], [2]), ([1, 3], [1, 3]), ([4], [4]), ([5], [5]), ([5], [5]), ([5], [5]), ([8, 5], [5, 8]), ([7, 9, 5], [5, 7, 9]), ([10, 5], [5, 10]), ([6, 11, 5, 5], [5, 6, 11]), ([12, 5], [5, 12]), ([5, 13], [5, 13])])
def impl_normalOf.B15 : List Nat := [0, 1, 0, 4, 15, 31, 63, 63, 63, 319, 959, 1983, 4095, 8191, 16383]
theorem impl_normalOf.tab15 : rtab .any (opsOf Try.f54 15) = impl_normalOf.T15 := by kernel_rfl
theorem impl_normalOf.bits15 : waitsOk impl_normalOf.T15.2 impl_normalOf.B15 = true := by kernel_rfl
set_option maxHeartbeats 8000000 in
set_option maxRecDepth 100000 in
theorem impl_normalOf.calls (k : Nat) (a0 : Int) (A1 : Option Addr) (c1 : Nat) (l1 : List (S52)) (r1 : Int) (r2 : List (S52)) (w : World) (hr1 : Kd.C k52 w A1 l1.length l1) (hc1 : l1.length ≤ c1) (h : impl_normalOf.f k a0 l1 = some (r1, r2)) :
  Calls Try.prog 54 #[.int .i64 a0, .slice A1 l1.length c1] w fun e w' => ∃ v1_ : Value, e = .returned (.agg #[.int .i64 r1, v1_]) ∧ Kd.N k52 52 w' w.heap.size (fun k_ => (w.heap.size ≤ k_)) v1_ r2 ∧ Below w.heap.size w w' := by
 have hu28 := Try.underlying28
 have hu52 := Try.underlying52
 have HR1 := Aside0.mk hr1
 have HC1 := Aside0.mk hc1
 clear hr1 hc1
 have HB := Aside0.mk (Below.refl w.heap.size w)
 have H : (impl_normalOf.l0 k a0 (([] : List (S52))) l1 (l1.length : Int) 0) = some (r1, r2) := h
 clear h
 obtain ⟨y404, hy404⟩ : ∃ y_ : List (S52), y_ = (([] : List (S52))) := ⟨_, rfl⟩
 replace H : (impl_normalOf.l0 k a0 y404 l1 (l1.length : Int) 0) = some (r1, r2) := by first | (rw [hy404]; with_reducible exact H) | (have H2_ := (Option.bind_some _ _).symm.trans H; rw [hy404]; with_reducible exact H2_) | (have H2_ := (Option.bind_some _ _).symm.trans H; with_reducible exact H2_) | with_reducible exact H | (rw [hy404]; exact H) | exact H
 have Ny404 := Aside0.mk hy404
 clear hy404
 have H' := Aside0.mk H
 clear H
 go_enter Try.func54, Try.ntmps54
 go_wp2_with (first | ((with_reducible refine gate_dst (N := 4) rfl ?_); refine bx_ (cs := #[.int .i64 0, .slice none 0 0]) (t := 28) ?_; intro qg hg w3 hbox hb; have qd := Aside0.mk (hbox); have Qi := hz_ HB hg; have Qj := hz_ HB hg; replace HB := bS_ HB hb; clear hb hbox hg) | ((with_reducible refine gate_dst (N := 11) rfl ?_); refine Kd.N_lit k52 _ 52 ?hg (N' := 11) ?hd (xs := ([] : List (S52))) (inner := []) (ok := (fun k_ => (w.heap.size ≤ k_) ∧ k_ ≠ qg)) (okp := (fun k_ => (w.heap.size ≤ k_) ∧ k_ ≠ qg)) ?hr ?hp (fun _ hk => hk) ((show ∀ k_, w3.heap.size ≤ k_ → (fun k_ => (w.heap.size ≤ k_) ∧ k_ ≠ qg) k_ from fun k_ hk => ⟨(Nat.le_trans (bz_ HB) hk), Kd.freshB (g := qg) (o := .cells #[.int .i64 0, .slice none 0 0] 28 (0, 0)) (kf_ qd) k_ hk⟩) _ (Nat.le_refl _)) (Below.refl _ _) (Nat.le_refl _) (by simp) ?_; (case hd => rfl); (case hg => rfl); (case hr => first | (go_simp; done) | (go_simp; rfl)); (case hp => exact (Reps.none _ _)); intro QV w4 ho5 hb hg_ hnew_; clear hg_ hnew_; (first | rw [← Ny404.out] at ho5 | (simp only [Int.reduceToNat] at ho5; rw [← Ny404.out] at ho5)); have zk := Aside0.mk (Kd.N_lower ho5 (bz_ HB)); replace qd := kB_ qd hb; replace HB := bS_ HB hb; clear hb ho5))
 go_loopg [5, 14] k (fun kq v5 v14 w' => ∃ (qy : List (S52)) (qf : Int) (qn : Int), v14 = .int .i64 qf ∧ Aside0 (impl_normalOf.l0 kq a0 qy l1 (l1.length : Int) qf = some (r1, r2)) ∧ Aside0 (kq ≤ k) ∧ Aside0 (Kd.N k52 52 w' w.heap.size (fun k_ => (w.heap.size ≤ k_) ∧ k_ ≠ qg) v5 qy) ∧ Aside0 (w'.heap[qg]? = some (.cells #[.int .i64 qn, (.slice none 0 0)] 28 (0, 0))) ∧ Aside0 (Below w.heap.size w w'))
 case atStart => exact ⟨(y404), (0), (0), (by first | rfl | (simp; done) | (simp [*]; done)), H', ⟨Nat.le_refl _⟩, ⟨by (with_reducible repeat (first | apply Kd.N_alloc | apply Kd.N_drewN | apply Kd.N_drew)); exact zk.out⟩, ⟨kf_ qd⟩, ⟨bb_ HB⟩⟩
 clear H'
 obtain ⟨qy, qf, qn, rfl, HA, HK1, qj, qd, HB⟩ := hrel
 cases gk with
 | zero => exact absurd HA.out (by simp [impl_normalOf.l0])
 | succ k1 =>
  have H := HA.out
  clear HA
  simp only [impl_normalOf.l0] at H
  by_cases c6 : qf < (l1.length : Int)
  ·
   rw [if_pos c6] at H
   have j5 : decide (qf < (l1.length : Int)) = true := decide_eq_true c6
   clear c6
   replace H := ip_ H
   obtain ⟨c7, H⟩ := H
   have QW : decide (0 ≤ qf) = true := decide_eq_true c7
   clear c7
   replace H := ip_ H
   obtain ⟨c8, H⟩ := H
   have QX : decide (qf < (l1.length : Int)) = true := decide_eq_true c8
   clear c8
   replace H := be_ H
   obtain ⟨zg, A90, H⟩ := H
   have A9 := Aside0.mk A90
   clear A90
   by_cases c10 : zg = true
   ·
    subst c10
    have H1 : ((impl_copyAtom.f ((rd_T52 l1 qf).f0) ((rd_T52 l1 qf).f1) ((rd_T52 l1 qf).f2)).bind fun qQ => (if qy.length < 3518437208883 then (impl_normalOf.l0 k1 a0 (qy ++ [(⟨qQ.1, qQ.2.1, qQ.2.2⟩ : S52)]) l1 (l1.length : Int) (wrap64 (qf + 1))) else (none))) = some (r1, r2) := by rw [if_pos rfl] at H; exact H
    clear H
    have H := H1
    clear H1
    replace H := be_ H
    obtain ⟨⟨q1, q2, q3⟩, A110, H⟩ := H
    replace H : (if qy.length < 3518437208883 then (impl_normalOf.l0 k1 a0 (qy ++ [(⟨q1, q2, q3⟩ : S52)]) l1 (l1.length : Int) (wrap64 (qf + 1))) else (none)) = some (r1, r2) := H
    have A11 := Aside0.mk A110
    clear A110
    replace H := ip_ H
    obtain ⟨c12, H⟩ := H
    have LMc12 := Aside0.mk c12
    clear c12
    obtain ⟨y415, hy415⟩ : ∃ y_ : List (S52), y_ = (qy ++ [(⟨q1, q2, q3⟩ : S52)]) := ⟨_, rfl⟩
    replace H : (impl_normalOf.l0 k1 a0 y415 l1 (l1.length : Int) (wrap64 (qf + 1))) = some (r1, r2) := by first | (rw [hy415]; with_reducible exact H) | (have H2_ := (Option.bind_some _ _).symm.trans H; rw [hy415]; with_reducible exact H2_) | (have H2_ := (Option.bind_some _ _).symm.trans H; with_reducible exact H2_) | with_reducible exact H | (rw [hy415]; exact H) | exact H
    have Ny415 := Aside0.mk hy415
    clear hy415
    have H' := Aside0.mk H
    clear H
    have p407 : 0 ≤ (qf : Int) := od_
    have q407 : qf < (l1.length : Int) := od_
    obtain ⟨zl, qw, c407_0, e407, qG, qH, qI, hl407_0, hi407_0⟩ := at_T52 HR1.out qf p407 q407
    cases e407
    replace qG := ct_ HB qG
    replace qH := ct_ HB qH
    replace qI := ct_ HB qI
    have qN := Aside0.mk hi407_0
    have qO := Aside0.mk hl407_0
    clear hi407_0 hl407_0
    replace p407 := eq_true p407
    replace q407 := eq_true q407
    go_wp2_with (first | ((with_reducible refine gate_dst (N := 7) rfl ?_); refine bx_ (cs := #[.slice none 0 0, .int .i64 0, .bool false]) (t := 52) ?_; intro qr hg Q8 hbox hb; replace qj := nE_ qj hg hb; have qq := Aside0.mk (hbox); have zm := hz_ HB hg; have zn := hz_ HB hg; replace HB := bS_ HB hb; have qt := nL_ qd hg; have qu := nG_ qd hg; replace qd := kB_ qd hb; clear hb hbox hg; have Qk := qu.out; have Ql := qt.out; obtain ⟨zu, zv, zw, zx, zy, zz⟩ := b3_ qq) | ((with_reducible refine gate_callee (f := 94) rfl ?_); refine gL_ (some 19) Try.func94 #[.agg #[.slice qw ((rd_T52 l1 qf).f0).length c407_0, .int .i64 ((rd_T52 l1 qf).f1), .bool ((rd_T52 l1 qf).f2)]] ?_; (with_reducible refine (impl_hasVariables.calls k1 _ _ ((rd_T52 l1 qf).f0) ((rd_T52 l1 qf).f1) ((rd_T52 l1 qf).f2) true _ ?side1 ?side2 A9.out).mono ?_); (case side1 => exact Kd.C_below qN.out (bb_ HB)); (case side2 => exact qO.out); rintro e Q9 ⟨rfl, hb⟩; refine ⟨_, rfl, ?_⟩; replace qj := Aside0.mk (Kd.N_below (by (with_reducible repeat (first | apply Kd.N_alloc | apply Kd.N_drewN | apply Kd.N_drew)); exact (Kd.N_mono (Kd.N_far (p := ⟨qr, 2, none⟩) (Kd.N_far (p := ⟨qr, 1, none⟩) (Kd.N_far (p := ⟨qr, 0, none⟩) (Kd.N_mono qj.out (fun k_ hk => (⟨hk, hk.2⟩ : _ ∧ k_ ≠ qr))) (fun _ hk => hk.2) (.slice qw ((rd_T52 l1 qf).f0).length c407_0)) (fun _ hk => hk.2) (.int .i64 ((rd_T52 l1 qf).f1))) (fun _ hk => hk.2) (.bool ((rd_T52 l1 qf).f2))) (fun _ h_ => h_.1))) hb); replace qd := kF_ qd hb; replace qq := kP_ (cs' := #[.slice qw ((rd_T52 l1 qf).f0).length c407_0, .int .i64 ((rd_T52 l1 qf).f1), .bool ((rd_T52 l1 qf).f2)]) qq hb; replace HB := bS_ HB hb; clear hb; obtain ⟨zA, zB, zC, zD, zE, zF⟩ := b3_ qq) | ((with_reducible refine gate_callee (f := 95) rfl ?_); refine gL_ (some 37) Try.func95 #[.agg #[.slice qw ((rd_T52 l1 qf).f0).length c407_0, .int .i64 ((rd_T52 l1 qf).f1), .bool ((rd_T52 l1 qf).f2)]] ?_; (with_reducible refine (impl_copyAtom.calls _ _ ((rd_T52 l1 qf).f0) ((rd_T52 l1 qf).f1) ((rd_T52 l1 qf).f2) q1 q2 q3 _ ?side1 ?side2 A11.out).mono ?_); (case side1 => exact cb_ qN HB); (case side2 => exact qO.out); rintro e Za ⟨QY, rfl, ho0, hb⟩; refine ⟨_, rfl, ?_⟩; replace qj := Aside0.mk (Kd.N_elder' (nm_ qj) (Kd.R_base ho0) hb); have qX := Aside0.mk (Kd.R_lower (Kd.R_newM (M := fun k_ => (w.heap.size ≤ k_)) ho0 (bz_ HB) (fun k_ h_ => h_)) (bz_ HB)); replace qd := kB_ qd hb; replace qq := kB_ qq hb; replace HB := bS_ HB hb; clear hb ho0; obtain ⟨j6, j7, eo20⟩ := Kd.R_slice qX.out; subst eo20) | ((with_reducible refine gate_builtin (b := .append) (xs := #[.tmp 35, .tmp 38]) rfl ?_); at_builtin; refine Kd.N_append k52 (w0 := w) w.heap.size rfl (.tmp 35) (.tmp 38) 26 52 (.agg #[(.slice none 0 0), (.int .i64 0), (.bool false)]) 40 rfl Try.underlying26 info52 rfl (by decide) (by omega) u5 qy (⟨q1, q2, q3⟩ : S52) [.slice j6 q1.length j7, .int .i64 q2, .bool q3] (fun k_ => (w.heap.size ≤ k_) ∧ k_ ≠ qg ∧ k_ ≠ qr) (fun k_ => ((fun k_ => (w.heap.size ≤ k_) ∧ k_ ≠ qg ∧ k_ ≠ qr)) k_ ∧ some k_ ≠ (u5 : Value).ownBlock) rfl rfl ?aP (fun _ hk => hk) ?aF ?aO ?aB ?aS ?aL ?_; (case aP => exact (k52_mkF _ _ (⟨q1, q2, q3⟩ : S52) (Kd.R_reads' (Kd.R_mono (ok' := (fun k_ => ((fun k_ => (w.heap.size ≤ k_) ∧ k_ ≠ qg ∧ k_ ≠ qr)) k_ ∧ some k_ ≠ (u5 : Value).ownBlock)) (Kd.R_types (Kd.R_types (Kd.R_apart' (qX.out) (Kd.N_typed qj.out) (by decide)) qd.out (by decide)) qq.out (by decide)) (fun k_ hk => ⟨⟨hk.1.1.1.1, ⟨hk.1.2, hk.2⟩⟩, hk.1.1.2⟩))).2.1 (Kd.R_F (Kd.R_mono (ok' := (fun k_ => ((fun k_ => (w.heap.size ≤ k_) ∧ k_ ≠ qg ∧ k_ ≠ qr)) k_ ∧ some k_ ≠ (u5 : Value).ownBlock)) (Kd.R_types (Kd.R_types (Kd.R_apart' (qX.out) (Kd.N_typed qj.out) (by decide)) qd.out (by decide)) qq.out (by decide)) (fun k_ hk => ⟨⟨hk.1.1.1.1, ⟨hk.1.2, hk.2⟩⟩, hk.1.1.2⟩))))); (case aB => exact (bb_ HB)); (case aF => exact (fun k_ hk => ⟨(Nat.le_trans (bz_ HB) hk), Kd.freshB (g := qg) (o := .cells #[.int .i64 qn, .slice none 0 0] 28 (0, 0)) (kf_ qd) k_ hk, Kd.freshB (g := qr) (o := .cells #[.slice qw ((rd_T52 l1 qf).f0).length c407_0, .int .i64 ((rd_T52 l1 qf).f1), .bool ((rd_T52 l1 qf).f2)] 52 (0, 0)) (kf_ qq) k_ hk⟩)); (case aO => exact (by (with_reducible repeat (first | apply Kd.N_alloc | apply Kd.N_drewN | apply Kd.N_drew)); exact Kd.N_mono qj.out (fun _ hk => ⟨hk.1.1.1, ⟨hk.1.1.2, hk.1.2⟩⟩))); (case aS => exact (bz_ HB)); (case aL => have := LMc12.out; omega); intro QZ Zb ho hb hg hat; rw [← Ny415.out] at ho; replace qd := Aside0.mk (blk_grown (g := qg) (o := .cells #[.int .i64 qn, .slice none 0 0] 28 (0, 0)) (kf_ qd) hg (Kd.N_ne qj.out qd.out (by decide))); replace qq := Aside0.mk (blk_grown (g := qr) (o := .cells #[.slice qw ((rd_T52 l1 qf).f0).length c407_0, .int .i64 ((rd_T52 l1 qf).f1), .bool ((rd_T52 l1 qf).f2)] 52 (0, 0)) (kf_ qq) hg (Kd.N_away qj.out (fun _ hk => hk.1.2))); replace HB := Aside0.mk (hb); have zo := Aside0.mk (ho); clear qj; clear qX; clear ho hb hg hat))
    go_roundg k1
    case measure => have := HK1.out; omega
    case rel => exact ⟨(y415), (wrap64 (qf + 1)), (qn), (by first | rfl | (simp; done) | (simp [*]; done)), H', ⟨by have := HK1.out; omega⟩, ⟨by (with_reducible repeat (first | apply Kd.N_alloc | apply Kd.N_drewN | apply Kd.N_drew)); exact Kd.N_mono zo.out (fun _ hk => ⟨hk.1, hk.2.1⟩)⟩, ⟨kf_ qd⟩, ⟨bb_ HB⟩⟩
   replace c10 := Bool.eq_false_iff.mpr c10
   subst c10
   have H1 : (if ((rd_T52 l1 qf).f1) > 0 then (impl_normalOf.j1 k1 a0 qy l1 (l1.length : Int) qf true) else (if ((rd_T52 l1 qf).f1) = 0 then (impl_normalOf.j1 k1 a0 qy l1 (l1.length : Int) qf ((rd_T52 l1 qf).f2)) else (impl_normalOf.j1 k1 a0 qy l1 (l1.length : Int) qf false))) = some (r1, r2) := by rw [if_neg (show ¬ (false = true) by decide)] at H; exact H
   clear H
   have H := H1
   clear H1
   have HC21 := Aside0.mk H
   clear H
   have p407 : 0 ≤ (qf : Int) := od_
   have q407 : qf < (l1.length : Int) := od_
   obtain ⟨zl, qw, c407_0, e407, qG, qH, qI, hl407_0, hi407_0⟩ := at_T52 HR1.out qf p407 q407
   cases e407
   replace qG := ct_ HB qG
   replace qH := ct_ HB qH
   replace qI := ct_ HB qI
   have qN := Aside0.mk hi407_0
   have qO := Aside0.mk hl407_0
   clear hi407_0 hl407_0
   replace p407 := eq_true p407
   replace q407 := eq_true q407
   go_upto_region 6 with (first | ((with_reducible refine gate_dst (N := 7) rfl ?_); refine bx_ (cs := #[.slice none 0 0, .int .i64 0, .bool false]) (t := 52) ?_; intro qr hg Zc hbox hb; replace qj := nE_ qj hg hb; have qq := Aside0.mk (hbox); have zm := hz_ HB hg; have zn := hz_ HB hg; replace HB := bS_ HB hb; have qt := nL_ qd hg; have qu := nG_ qd hg; replace qd := kB_ qd hb; clear hb hbox hg; have Qm := qu.out; have Qn := qt.out; obtain ⟨zG, zH, zI, zJ, zK, zL⟩ := b3_ qq) | ((with_reducible refine gate_callee (f := 94) rfl ?_); refine gL_ (some 19) Try.func94 #[.agg #[.slice qw ((rd_T52 l1 qf).f0).length c407_0, .int .i64 ((rd_T52 l1 qf).f1), .bool ((rd_T52 l1 qf).f2)]] ?_; (with_reducible refine (impl_hasVariables.calls k1 _ _ ((rd_T52 l1 qf).f0) ((rd_T52 l1 qf).f1) ((rd_T52 l1 qf).f2) false _ ?side1 ?side2 A9.out).mono ?_); (case side1 => exact Kd.C_below qN.out (bb_ HB)); (case side2 => exact qO.out); rintro e Zd ⟨rfl, hb⟩; refine ⟨_, rfl, ?_⟩; replace qj := Aside0.mk (Kd.N_below (by (with_reducible repeat (first | apply Kd.N_alloc | apply Kd.N_drewN | apply Kd.N_drew)); exact (Kd.N_mono (Kd.N_far (p := ⟨qr, 2, none⟩) (Kd.N_far (p := ⟨qr, 1, none⟩) (Kd.N_far (p := ⟨qr, 0, none⟩) (Kd.N_mono qj.out (fun k_ hk => (⟨hk, hk.2⟩ : _ ∧ k_ ≠ qr))) (fun _ hk => hk.2) (.slice qw ((rd_T52 l1 qf).f0).length c407_0)) (fun _ hk => hk.2) (.int .i64 ((rd_T52 l1 qf).f1))) (fun _ hk => hk.2) (.bool ((rd_T52 l1 qf).f2))) (fun _ h_ => h_.1))) hb); replace qd := kF_ qd hb; replace qq := kP_ (cs' := #[.slice qw ((rd_T52 l1 qf).f0).length c407_0, .int .i64 ((rd_T52 l1 qf).f1), .bool ((rd_T52 l1 qf).f2)]) qq hb; replace HB := bS_ HB hb; clear hb))
   (try simp only [Act.put, sa_, s0_, s1_])
   go_cut [32] (fun v32 wc => ∃ (kq : Nat) (qT : Bool), v32 = .bool qT ∧ Aside0 (impl_normalOf.j1 kq a0 qy l1 (l1.length : Int) qf qT = some (r1, r2)) ∧ Aside0 (kq ≤ k1) ∧ Aside0 (Kd.N k52 52 wc w.heap.size (fun k_ => (w.heap.size ≤ k_) ∧ k_ ≠ qg ∧ k_ ≠ qr) u5 qy) ∧ Aside0 (wc.heap[qg]? = some (.cells #[.int .i64 qn, (.slice none 0 0)] 28 (0, 0))) ∧ Aside0 (wc.heap[qr]? = some (.cells #[(.slice qw ((rd_T52 l1 qf).f0).length c407_0), .int .i64 ((rd_T52 l1 qf).f1), .bool ((rd_T52 l1 qf).f2)] 52 (0, 0))) ∧ Aside0 (Below w.heap.size w wc))
   case first =>
    have H := HC21.out
    clear HC21
    by_cases c26 : ((rd_T52 l1 qf).f1) > 0
    ·
     rw [if_pos c26] at H
     have qW : decide (0 < ((rd_T52 l1 qf).f1)) = true := decide_eq_true c26
     clear c26
     (first | rw [qW] | (simp only [i64_w, i32_w]; rw [qW]) | skip)
     have H' := Aside0.mk H
     clear H
     have Qo := qu.out
     have Qp := qt.out
     obtain ⟨zM, zN, zO, zP, zQ, zR⟩ := b3_ qq
     go_wp2
     go_meet
     case rel => exact ⟨_, (true), (by first | rfl | (simp; done) | (simp [*]; done)), H', ⟨by have := HK1.out; first | omega | exact Nat.le_refl _⟩, ⟨by (with_reducible repeat (first | apply Kd.N_alloc | apply Kd.N_drewN | apply Kd.N_drew)); exact Kd.N_mono qj.out (fun _ hk => ⟨hk.1.1, ⟨hk.1.2, hk.2⟩⟩)⟩, ⟨kf_ qd⟩, ⟨kf_ qq⟩, ⟨bb_ HB⟩⟩
    rw [if_neg c26] at H
    have qW : decide (0 < ((rd_T52 l1 qf).f1)) = false := decide_eq_false c26
    clear c26
    (first | rw [qW] | (simp only [i64_w, i32_w]; rw [qW]) | skip)
    by_cases c29 : ((rd_T52 l1 qf).f1) = 0
    rotate_left
    ·
     rw [if_neg c29] at H
     have zp : (((rd_T52 l1 qf).f1) == 0) = false := beq_eq_false_iff_ne.mpr c29
     have zq : (((rd_T52 l1 qf).f1) != 0) = true := bne_iff_ne.mpr c29
     have H' := Aside0.mk H
     clear H
     have Qq := qu.out
     have Qr := qt.out
     obtain ⟨zS, zT, zU, zV, zW, zX⟩ := b3_ qq
     go_wp2
     go_meet
     case rel => exact ⟨_, (false), (by first | rfl | (simp; done) | (simp [*]; done)), H', ⟨by have := HK1.out; first | omega | exact Nat.le_refl _⟩, ⟨by (with_reducible repeat (first | apply Kd.N_alloc | apply Kd.N_drewN | apply Kd.N_drew)); exact Kd.N_mono qj.out (fun _ hk => ⟨hk.1.1, ⟨hk.1.2, hk.2⟩⟩)⟩, ⟨kf_ qd⟩, ⟨kf_ qq⟩, ⟨bb_ HB⟩⟩
    rw [if_pos c29] at H
    have zp : (((rd_T52 l1 qf).f1) == 0) = true := beq_iff_eq.mpr c29
    have zq : (((rd_T52 l1 qf).f1) != 0) = false := bne_eq_false_iff_eq.mpr c29
    clear c29
    have H' := Aside0.mk H
    clear H
    have Qs := qu.out
    have Qt := qt.out
    obtain ⟨zY, zZ, z0, z1, z2, z3⟩ := b3_ qq
    go_wp2
    go_meet
    case rel => exact ⟨_, ((rd_T52 l1 qf).f2), (by first | rfl | (simp; done) | (simp [*]; done)), H', ⟨by have := HK1.out; first | omega | exact Nat.le_refl _⟩, ⟨by (with_reducible repeat (first | apply Kd.N_alloc | apply Kd.N_drewN | apply Kd.N_drew)); exact Kd.N_mono qj.out (fun _ hk => ⟨hk.1.1, ⟨hk.1.2, hk.2⟩⟩)⟩, ⟨kf_ qd⟩, ⟨kf_ qq⟩, ⟨bb_ HB⟩⟩
   clear HC21
   obtain ⟨kq, qT, rfl, HA, HJ20, qj, qd, qq, HB⟩ := hcut
   cases kq with
   | zero => exact absurd HA.out (by simp [impl_normalOf.j1])
   | succ kj20 =>
    have H := HA.out
    clear HA
    simp only [impl_normalOf.j1] at H
    by_cases c34 : qT = true
    rotate_left
    ·
     replace c34 := Bool.eq_false_iff.mpr c34
     subst c34
     have H1 : (impl_normalOf.l0 kj20 a0 qy l1 (l1.length : Int) (wrap64 (qf + 1))) = some (r1, r2) := by rw [if_neg (show ¬ (false = true) by decide)] at H; exact H
     clear H
     have H := H1
     clear H1
     have H' := Aside0.mk H
     clear H
     go_wp2
     go_roundg kj20
     case measure => have := HK1.out; have := HJ20.out; omega
     case rel => exact ⟨(qy), (wrap64 (qf + 1)), (qn), (by first | rfl | (simp; done) | (simp [*]; done)), H', ⟨by have := HK1.out; have := HJ20.out; omega⟩, ⟨by (with_reducible repeat (first | apply Kd.N_alloc | apply Kd.N_drewN | apply Kd.N_drew)); exact Kd.N_mono qj.out (fun _ hk => ⟨hk.1, hk.2.1⟩)⟩, ⟨kf_ qd⟩, ⟨bb_ HB⟩⟩
    subst c34
    have H1 : ((impl_emptyCell.f a0).bind fun qV => (some (qV.1, qV.2))) = some (r1, r2) := by rw [if_pos rfl] at H; exact H
    clear H
    have H := H1
    clear H1
    replace H := be_ H
    obtain ⟨⟨zh, zi⟩, A350, H⟩ := H
    replace H : (some (zh, zi)) = some (r1, r2) := H
    have A35 := Aside0.mk A350
    clear A350
    simp only [Option.some.injEq, Prod.mk.injEq] at H
    obtain ⟨rfl, rfl⟩ := H
    go_wp2_with (first | ((with_reducible refine gate_callee (f := 80) rfl ?_); refine gL_ (some 34) Try.func80 #[.int .i64 a0] ?_; (with_reducible refine (impl_emptyCell.calls a0 zh zi _ A35.out).mono ?_); rintro e Ze ⟨Q0, rfl, ho0, hb⟩; refine ⟨_, rfl, ?_⟩; have za := Aside0.mk (Kd.N_lower (Kd.N_mono (ok' := fun k_ => (w.heap.size ≤ k_) ∧ some k_ ≠ (u5 : Value).ownBlock ∧ k_ ≠ qg ∧ k_ ≠ qr) ho0 (fun k_ hk_ => ⟨(Nat.le_trans (bz_ HB) hk_), (Kd.fresh' (Kd.N_lt (nm_ qj)) k_ hk_), (Kd.freshB (g := qg) (o := .cells #[.int .i64 qn, .slice none 0 0] 28 (0, 0)) (kf_ qd) k_ hk_), (Kd.freshB (g := qr) (o := .cells #[.slice qw ((rd_T52 l1 qf).f0).length c407_0, .int .i64 ((rd_T52 l1 qf).f1), .bool ((rd_T52 l1 qf).f2)] 52 (0, 0)) (kf_ qq) k_ hk_)⟩)) (bz_ HB)); replace qj := Aside0.mk (Kd.N_elder' (nm_ qj) (Kd.N_base ho0) hb); replace qd := kB_ qd hb; replace qq := kB_ qq hb; replace HB := bS_ HB hb; clear hb ho0; have Qu := qt.out; have Qv := qu.out; obtain ⟨z4, z5, z6, z7⟩ := b2_ qd; obtain ⟨j8, j9, eo39⟩ := Kd.N_slice za.out; subst eo39))
    refine bodyPost_ret (results_cell_row rfl _ _ qg 28 #[.int .i64 zh, .slice j8 zi.length j9] (0, 0) _ rfl (kp_ qd) Try.underlying28 rfl (by kernel_rfl)) rfl ?_
    exact ⟨_, rt_ ⟨ny_ za qg (fun _ hk => hk.2.2.1) (fun _ hk => hk.1), bb_ HB⟩⟩
  rw [if_neg c6] at H
  have j5 : decide (qf < (l1.length : Int)) = false := decide_eq_false c6
  clear c6
  replace H := be_ H
  obtain ⟨qb, A400, H⟩ := H
  have A40 := Aside0.mk A400
  clear A400
  obtain ⟨y425, hy425⟩ : ∃ y_ : List (S52), y_ = (([] : List (S52))) := ⟨_, rfl⟩
  replace H : (impl_normalOf.l1 k1 qb qb (qb.length : Int) 0 a0 y425) = some (r1, r2) := by first | (rw [hy425]; with_reducible exact H) | (have H2_ := (Option.bind_some _ _).symm.trans H; rw [hy425]; with_reducible exact H2_) | (have H2_ := (Option.bind_some _ _).symm.trans H; with_reducible exact H2_) | with_reducible exact H | (rw [hy425]; exact H) | exact H
  have Ny425 := Aside0.mk hy425
  clear hy425
  have H' := Aside0.mk H
  clear H
  obtain ⟨q4, q5, eo41⟩ := Kd.N_slice qj.out
  have Eeo41 := Aside0.mk eo41
  clear eo41
  go_wp2_with (first | ((with_reducible refine gate_callee (f := 96) rfl ?_); refine goesL_ (some 42) rfl rfl Try.func96 (by kernel_rfl) rfl #[.slice q4 qy.length q5, .func (.func 97) #[] #[]] rfl (by rw [← Eeo41.out]; (try simp only [List.map_toArray, List.map_cons, List.map_nil]); first | done | rfl) ?_; (with_reducible refine (slices_SortFunc.calls k1 q4 q5 qy qb _ w.heap.size (fun k_ => (w.heap.size ≤ k_) ∧ k_ ≠ qg) (by rw [← Eeo41.out]; (with_reducible repeat (first | apply Kd.N_alloc | apply Kd.N_drewN | apply Kd.N_drew)); exact qj.out) A40.out).mono ?_); rintro e Q1 ⟨rfl, ho0, hl0, hb, hkp⟩; refine ⟨_, rfl, ?_⟩; have n2_ := Aside0.mk ((hkp qg (blk_lt qd.out) (by rw [← Eeo41.out]; exact Kd.N_away (ok := (fun k_ => (w.heap.size ≤ k_) ∧ k_ ≠ qg)) qj.out (fun _ hk => hk.2))).trans qd.out); have n3_ := Aside0.mk (HB.out.trans hb); rw [hl0] at ho0; have n0_ := Aside0.mk (Kd.N_mono ho0 (fun k hk => (⟨hk, trivial⟩ : _ ∧ True))); rw [← Eeo41.out] at ho0; have n1_ := Aside0.mk (Kd.N_mono (ok' := fun k_ => (w.heap.size ≤ k_) ∧ True ∧ k_ ≠ qg) ho0 (fun k_ hk_ => ⟨hk_.1, trivial, hk_.2⟩)); clear qj; clear qd; clear HB; have qj := n0_; have qM := n1_; have qd := n2_; have HB := n3_; clear n0_ n1_ n2_ n3_; clear ho0 hb hkp hl0) | ((with_reducible refine gate_dst (N := 44) rfl ?_); refine Kd.N_lit k52 _ 52 ?hg (N' := 44) ?hd (xs := ([] : List (S52))) (inner := []) (ok := (fun k_ => (w.heap.size ≤ k_) ∧ some k_ ≠ (.slice q4 qy.length q5 : Value).ownBlock ∧ some k_ ≠ (u5 : Value).ownBlock ∧ k_ ≠ qg)) (okp := (fun k_ => (w.heap.size ≤ k_) ∧ some k_ ≠ (.slice q4 qy.length q5 : Value).ownBlock ∧ some k_ ≠ (u5 : Value).ownBlock ∧ k_ ≠ qg)) ?hr ?hp (fun _ hk => hk) ((show ∀ k_, Q1.heap.size ≤ k_ → (fun k_ => (w.heap.size ≤ k_) ∧ some k_ ≠ (.slice q4 qy.length q5 : Value).ownBlock ∧ some k_ ≠ (u5 : Value).ownBlock ∧ k_ ≠ qg) k_ from fun k_ hk => ⟨(Nat.le_trans (bz_ HB) hk), Kd.fresh' (Kd.N_lt (nm_ qj)) k_ hk, Kd.fresh' (Kd.N_lt (nm_ qM)) k_ hk, Kd.freshB (g := qg) (o := .cells #[.int .i64 qn, .slice none 0 0] 28 (0, 0)) (kf_ qd) k_ hk⟩) _ (Nat.le_refl _)) (Below.refl _ _) (Nat.le_refl _) (by simp) ?_; (case hd => rfl); (case hg => rfl); (case hr => first | (go_simp; done) | (go_simp; rfl)); (case hp => exact (Reps.none _ _)); intro Q2 Zf ho44 hb hg_ hnew_; clear hg_ hnew_; (first | rw [← Ny425.out] at ho44 | (simp only [Int.reduceToNat] at ho44; rw [← Ny425.out] at ho44)); replace qj := Aside0.mk (Kd.N_elder' (nm_ qj) (Kd.N_base ho44) hb); replace qM := Aside0.mk (Kd.N_elder' (nm_ qM) (Kd.N_base ho44) hb); have qY := Aside0.mk (Kd.N_lower ho44 (bz_ HB)); replace qd := kB_ qd hb; replace HB := bS_ HB hb; clear hb ho44; obtain ⟨Qa, Qb, eo45⟩ := Kd.N_slice qY.out; subst eo45) | ((with_reducible refine gate_dst (N := 8) rfl ?_); refine bx_ (cs := #[.int .i64 0, .slice none 0 0]) (t := 28) ?_; intro qk hg Zg hbox hb; replace qj := nE_ qj hg hb; replace qM := nE_ qM hg hb; replace qY := nE_ qY hg hb; have qi := Aside0.mk (hbox); have Qw := hz_ HB hg; have Qx := hz_ HB hg; replace HB := bS_ HB hb; have qE := nL_ qd hg; have qF := nG_ qd hg; replace qd := kB_ qd hb; clear hb hbox hg; have Qy := qF.out; have Qz := qE.out; obtain ⟨z8, z9, ja, jb⟩ := b2_ qi; obtain ⟨zj, qv, eo49⟩ := Kd.N_slice qM.out; subst eo49))
  go_loopg [48] k1 (fun kq v48 w' => ∃ (qa : Int) (qp : List (S52)) (u429001 : Value), v48 = .int .i64 qa ∧ Aside0 (impl_normalOf.l1 kq qb qb (qb.length : Int) qa a0 qp = some (r1, r2)) ∧ Aside0 (kq ≤ k1) ∧ Aside0 (Kd.N k52 52 w' w.heap.size (fun k_ => (w.heap.size ≤ k_) ∧ some k_ ≠ (u429001 : Value).ownBlock ∧ k_ ≠ qg ∧ k_ ≠ qk) (.slice zj qb.length qv) qb) ∧ Aside0 (Kd.N k52 52 w' w.heap.size (fun k_ => (w.heap.size ≤ k_) ∧ some k_ ≠ (u429001 : Value).ownBlock ∧ k_ ≠ qg ∧ k_ ≠ qk) (.slice zj qb.length qv) qb) ∧ Aside0 (Kd.N k52 52 w' w.heap.size (fun k_ => (w.heap.size ≤ k_) ∧ some k_ ≠ ((.slice zj qb.length qv) : Value).ownBlock ∧ k_ ≠ qg ∧ k_ ≠ qk) u429001 qp) ∧ Aside0 (w'.heap[qg]? = some (.cells #[.int .i64 qn, (.slice none 0 0)] 28 (0, 0))) ∧ Aside0 (w'.heap[qk]? = some (.cells #[.int .i64 a0, u429001] 28 (0, 0))) ∧ Aside0 (Below w.heap.size w w'))
  case atStart => exact ⟨(0), (y425), (.slice Qa y425.length Qb), (by first | rfl | (simp; done) | (simp [*]; done)), H', ⟨Nat.le_refl _⟩, ⟨ny_ qM qk (fun _ hk => hk.2) (fun _ hk => ⟨hk.1.1.1, ⟨hk.1.2, ⟨hk.1.1.2.2, hk.2⟩⟩⟩)⟩, ⟨ny_ qM qk (fun _ hk => hk.2) (fun _ hk => ⟨hk.1.1.1, ⟨hk.1.2, ⟨hk.1.1.2.2, hk.2⟩⟩⟩)⟩, ⟨ny_ qY qk (fun _ hk => hk.2) (fun _ hk => ⟨hk.1.1, ⟨hk.1.2.2.1, ⟨hk.1.2.2.2, hk.2⟩⟩⟩)⟩, ⟨kf_ qd⟩, ⟨kp_ qi⟩, ⟨bb_ HB⟩⟩
  clear H'
  obtain ⟨qa, qp, u429001, rfl, HA, HK2, qj, qm, qe, qd, qi, HB⟩ := hrel
  cases gk with
  | zero => exact absurd HA.out (by simp [impl_normalOf.l1])
  | succ k2 =>
   have H := HA.out
   clear HA
   simp only [impl_normalOf.l1] at H
   by_cases c50 : qa < (qb.length : Int)
   rotate_left
   ·
    rw [if_neg c50] at H
    have zr : decide (qa < (qb.length : Int)) = false := decide_eq_false c50
    clear c50
    simp only [Option.some.injEq, Prod.mk.injEq] at H
    obtain ⟨rfl, rfl⟩ := H
    have QA := qF.out
    have QB := qE.out
    obtain ⟨jc, jd, je, jf⟩ := b2_ qi
    obtain ⟨jg, jh, ji, jj⟩ := b2_ qd
    obtain ⟨Qc, Qd, eo95⟩ := Kd.N_slice qe.out
    subst eo95
    go_wp2
    refine bodyPost_ret (results_cell_row rfl _ _ qg 28 #[.int .i64 a0, .slice Qc qp.length Qd] (0, 0) _ rfl (kp_ qd) Try.underlying28 rfl (by kernel_rfl)) rfl ?_
    exact ⟨_, rt_ ⟨ny_ qe qg (fun _ hk => hk.2.2.1) (fun _ hk => hk.1), bb_ HB⟩⟩
   rw [if_pos c50] at H
   have zr : decide (qa < (qb.length : Int)) = true := decide_eq_true c50
   clear c50
   replace H := ip_ H
   obtain ⟨c51, H⟩ := H
   have QC : decide (0 ≤ qa) = true := decide_eq_true c51
   clear c51
   replace H := ip_ H
   obtain ⟨c52, H⟩ := H
   have QD : decide (qa < (qb.length : Int)) = true := decide_eq_true c52
   clear c52
   by_cases c53 : (wrap64 (qa + 1)) < (qb.length : Int)
   rotate_left
   ·
    rw [if_neg c53] at H
    have zb : decide ((wrap64 (qa + 1)) < (qb.length : Int)) = false := decide_eq_false c53
    clear c53
    replace H := ip_ H
    obtain ⟨c79, H⟩ := H
    have LMc79 := Aside0.mk c79
    clear c79
    obtain ⟨y436, hy436⟩ : ∃ y_ : List (S52), y_ = (qp ++ [(⟨(rd_T52 qb qa).f0, (rd_T52 qb qa).f1, (rd_T52 qb qa).f2⟩ : S52)]) := ⟨_, rfl⟩
    replace H : (impl_normalOf.l1 k2 qb qb (qb.length : Int) (wrap64 (qa + 1)) a0 y436) = some (r1, r2) := by first | (rw [hy436]; with_reducible exact H) | (have H2_ := (Option.bind_some _ _).symm.trans H; rw [hy436]; with_reducible exact H2_) | (have H2_ := (Option.bind_some _ _).symm.trans H; with_reducible exact H2_) | with_reducible exact H | (rw [hy436]; exact H) | exact H
    have Ny436 := Aside0.mk hy436
    clear hy436
    have H' := Aside0.mk H
    clear H
    have p429 : 0 ≤ (qa : Int) := od_
    have q429 : qa < (qb.length : Int) := od_
    obtain ⟨qo, qh, c429_0, e429, qJ, qZ, q0, hl429_0, hi429_0⟩ := at_T52 (Kd.N_reads' qm.out).2.2 qa p429 q429
    cases e429
    obtain ⟨ce429, hce429, hMe429, hcc429⟩ := Kd.N_get qm.out z52 qa p429 (by first | exact q429 | exact od_ | (have e_ := (Kd.N_reads' qm.out).1; omega))
    obtain ⟨ua429_0, uc429_0, rfl, ul429_0, ge429_0⟩ := k52_openF hMe429
    have hv429_0 := hcc429 0 _ rfl
    rw [Nat.add_zero] at hv429_0
    replace hv429_0 := Option.some.inj (hv429_0.symm.trans qJ)
    injection hv429_0 with hva_ hvn_ hvc_
    rw [hva_] at ge429_0
    rw [hvc_] at ul429_0
    have HL429_0 := Aside0.mk (show Kd.V (Kd.int .i64) 3 _ w.heap.size _ _ ((rd_T52 qb qa).f0) from Kd.V_mk ul429_0 ge429_0)
    clear hva_ hvn_ hvc_ ge429_0 ul429_0
    clear hcc429 hce429
    have qx := Aside0.mk hi429_0
    have qP := Aside0.mk hl429_0
    clear hi429_0 hl429_0
    replace p429 := eq_true p429
    replace q429 := eq_true q429
    try go_wp2_with (first | ((with_reducible refine gate_dst (N := 10) rfl ?_); refine bx_ (cs := #[.slice none 0 0, .int .i64 0, .bool false]) (t := 52) ?_; intro qc hg q7 hbox hb; replace qj := nE_ qj hg hb; replace qm := nE_ qm hg hb; replace qe := nE_ qe hg hb; replace HL429_0 := vE_ HL429_0 hg hb; replace qx := cB_ qx hb; have ql := Aside0.mk (hbox); have zc := hz_ HB hg; have zd := hz_ HB hg; replace HB := bS_ HB hb; have qz := nL_ qd hg; have qA := nG_ qd hg; replace qd := kB_ qd hb; have qB := nL_ qi hg; have qC := nG_ qi hg; replace qi := kB_ qi hb; clear hb hbox hg; have QE := qA.out; have QF := qz.out; have QG := qC.out; have QH := qB.out; obtain ⟨jk, jl, jm, jn, jo, jp⟩ := b3_ ql))
    have n0_ : Aside0 (Kd.N k52 52 (((q7.setCell ⟨qc, 0, none⟩ (.slice qh ((rd_T52 qb qa).f0).length c429_0)).setCell ⟨qc, 1, none⟩ (.int .i64 ((rd_T52 qb qa).f1))).setCell ⟨qc, 2, none⟩ (.bool ((rd_T52 qb qa).f2))) w.heap.size (fun k_ => (w.heap.size ≤ k_) ∧ some k_ ≠ (u429001 : Value).ownBlock ∧ k_ ≠ qg ∧ k_ ≠ qk ∧ k_ ≠ qc) (.slice (some qo) qb.length qv) qb) := ⟨ny_ qj qc (fun _ hk => hk.2) (fun _ hk => ⟨hk.1.1, ⟨hk.1.2.1, ⟨hk.1.2.2.1, ⟨hk.1.2.2.2, hk.2⟩⟩⟩⟩)⟩
    have n1_ : Aside0 (Kd.N k52 52 (((q7.setCell ⟨qc, 0, none⟩ (.slice qh ((rd_T52 qb qa).f0).length c429_0)).setCell ⟨qc, 1, none⟩ (.int .i64 ((rd_T52 qb qa).f1))).setCell ⟨qc, 2, none⟩ (.bool ((rd_T52 qb qa).f2))) w.heap.size (fun k_ => (w.heap.size ≤ k_) ∧ some k_ ≠ (u429001 : Value).ownBlock ∧ k_ ≠ qg ∧ k_ ≠ qk ∧ k_ ≠ qc) (.slice (some qo) qb.length qv) qb) := ⟨ny_ qm qc (fun _ hk => hk.2) (fun _ hk => ⟨hk.1.1, ⟨hk.1.2.1, ⟨hk.1.2.2.1, ⟨hk.1.2.2.2, hk.2⟩⟩⟩⟩)⟩
    have n2_ : Aside0 (Kd.N k52 52 (((q7.setCell ⟨qc, 0, none⟩ (.slice qh ((rd_T52 qb qa).f0).length c429_0)).setCell ⟨qc, 1, none⟩ (.int .i64 ((rd_T52 qb qa).f1))).setCell ⟨qc, 2, none⟩ (.bool ((rd_T52 qb qa).f2))) w.heap.size (fun k_ => (w.heap.size ≤ k_) ∧ some k_ ≠ (.slice (some qo) qb.length qv : Value).ownBlock ∧ k_ ≠ qg ∧ k_ ≠ qk ∧ k_ ≠ qc) u429001 qp) := ⟨ny_ qe qc (fun _ hk => hk.2) (fun _ hk => ⟨hk.1.1, ⟨hk.1.2.1, ⟨hk.1.2.2.1, ⟨hk.1.2.2.2, hk.2⟩⟩⟩⟩)⟩
    have n3_ : Aside0 (Kd.V (Kd.int .i64) 3 (((q7.setCell ⟨qc, 0, none⟩ (.slice qh ((rd_T52 qb qa).f0).length c429_0)).setCell ⟨qc, 1, none⟩ (.int .i64 ((rd_T52 qb qa).f1))).setCell ⟨qc, 2, none⟩ (.bool ((rd_T52 qb qa).f2))) w.heap.size (fun k_ => (w.heap.size ≤ k_) ∧ some k_ ≠ (.slice (some qo) qb.length qv : Value).ownBlock ∧ some k_ ≠ (u429001 : Value).ownBlock ∧ k_ ≠ qg ∧ k_ ≠ qk ∧ k_ ≠ qc) (.slice qh ((rd_T52 qb qa).f0).length c429_0) ((rd_T52 qb qa).f0)) := ⟨vy_ HL429_0 qc (fun _ hk => hk.2) (fun _ hk => ⟨hk.1.1.1, ⟨hk.1.2, ⟨hk.1.1.2.1, ⟨hk.1.1.2.2.1, ⟨hk.1.1.2.2.2, hk.2⟩⟩⟩⟩⟩)⟩
    have n4_ : Aside0 ((((q7.setCell ⟨qc, 0, none⟩ (.slice qh ((rd_T52 qb qa).f0).length c429_0)).setCell ⟨qc, 1, none⟩ (.int .i64 ((rd_T52 qb qa).f1))).setCell ⟨qc, 2, none⟩ (.bool ((rd_T52 qb qa).f2))).heap[qg]? = some (.cells #[.int .i64 qn, .slice none 0 0] 28 (0, 0))) := ⟨kf_ qd⟩
    have n5_ : Aside0 ((((q7.setCell ⟨qc, 0, none⟩ (.slice qh ((rd_T52 qb qa).f0).length c429_0)).setCell ⟨qc, 1, none⟩ (.int .i64 ((rd_T52 qb qa).f1))).setCell ⟨qc, 2, none⟩ (.bool ((rd_T52 qb qa).f2))).heap[qk]? = some (.cells #[.int .i64 a0, u429001] 28 (0, 0))) := ⟨kf_ qi⟩
    have n6_ : Aside0 ((((q7.setCell ⟨qc, 0, none⟩ (.slice qh ((rd_T52 qb qa).f0).length c429_0)).setCell ⟨qc, 1, none⟩ (.int .i64 ((rd_T52 qb qa).f1))).setCell ⟨qc, 2, none⟩ (.bool ((rd_T52 qb qa).f2))).heap[qc]? = some (.cells #[.slice qh ((rd_T52 qb qa).f0).length c429_0, .int .i64 ((rd_T52 qb qa).f1), .bool ((rd_T52 qb qa).f2)] 52 (0, 0))) := ⟨kp_ ql⟩
    have n7_ : Aside0 (Below w.heap.size w (((q7.setCell ⟨qc, 0, none⟩ (.slice qh ((rd_T52 qb qa).f0).length c429_0)).setCell ⟨qc, 1, none⟩ (.int .i64 ((rd_T52 qb qa).f1))).setCell ⟨qc, 2, none⟩ (.bool ((rd_T52 qb qa).f2)))) := ⟨bb_ HB⟩
    generalize (((q7.setCell ⟨qc, 0, none⟩ (.slice qh ((rd_T52 qb qa).f0).length c429_0)).setCell ⟨qc, 1, none⟩ (.int .i64 ((rd_T52 qb qa).f1))).setCell ⟨qc, 2, none⟩ (.bool ((rd_T52 qb qa).f2))) = Q3 at n0_ n1_ n2_ n3_ n4_ n5_ n6_ n7_ ⊢
    have qj := n0_
    have qm := n1_
    have qe := n2_
    have HL429_0 := n3_
    have qd := n4_
    have qi := n5_
    have ql := n6_
    have HB := n7_
    clear n0_ n1_ n2_ n3_ n4_ n5_ n6_ n7_
    replace qj := Aside0.mk (Kd.N_drew qj.out); replace qm := Aside0.mk (Kd.N_drew qm.out); replace qe := Aside0.mk (Kd.N_drew qe.out); replace HL429_0 := Aside0.mk (Kd.V_drew HL429_0.out); replace qd := Aside0.mk (blk_drew qd.out); replace qi := Aside0.mk (blk_drew qi.out); replace ql := Aside0.mk (blk_drew ql.out); replace HB := Aside0.mk (below_drew1 HB.out)
    refine start_ (n := 15) (S := fun w' => True) (ds := []) (fl_ 15 0) (by kernel_rfl) rfl rfl trivial (fun hHeld => ?_); refine with_tabW impl_normalOf.tab15 impl_normalOf.bits15 (fun HT_ HW_ => ?_)
    generalize Q3.drew = Zh at qj qm qe HL429_0 qd qi ql HB hHeld ⊢
    refine pX_ 0 (some 53) (fl_ 15 1) HT_ ?_
    refine pX_ 1 (some 54) (fl_ 15 3) HT_ ?_
    refine pX_ 2 (some 55) (fl_ 15 7) HT_ ?_
    refine pX_ 3 (some 56) (fl_ 15 15) HT_ ?_
    refine pX_ 4 (some 57) (fl_ 15 31) HT_ ?_
    refine pX_ 5 (some 58) (fl_ 15 63) HT_ ?_
    refine pU_ 6 (some 59) (fl_ 15 127) HT_ ?_
    refine pU_ 7 (some 60) (fl_ 15 255) HT_ ?_
    refine pU_ 8 (some 61) (fl_ 15 511) HT_ ?_
    refine pU_ 9 (some 62) (fl_ 15 1023) HT_ ?_
    refine pU_ 10 (some 63) (fl_ 15 2047) HT_ ?_
    refine pU_ 11 (some 64) (fl_ 15 4095) HT_ ?_
    refine pU_ 12 (some 65) (fl_ 15 8191) HT_ ?_
    refine pU_ 13 (some 66) (fl_ 15 16383) HT_ ?_
    refine pX_ 14 (some 67) (fl_ 15 32767) HT_ ?_
    refine done_ (done_of HT_.out (by kernel_rfl)) ?_
    have QI := qF.out
    have QJ := qE.out
    obtain ⟨jq, jr, js, jt⟩ := b2_ qi
    obtain ⟨ju, jv, jw, jx, jy, jz⟩ := b3_ ql
    try go_wp2_with (first | ((with_reducible refine gate_builtin (b := .append) (xs := #[.tmp 69, .tmp 71]) rfl ?_); at_builtin; refine Kd.N_append k52 (w0 := w) w.heap.size rfl (.tmp 69) (.tmp 71) 26 52 (.agg #[(.slice none 0 0), (.int .i64 0), (.bool false)]) 40 rfl Try.underlying26 info52 rfl (by decide) (by omega) u429001 qp (⟨(rd_T52 qb qa).f0, (rd_T52 qb qa).f1, (rd_T52 qb qa).f2⟩ : S52) [.slice qh ((rd_T52 qb qa).f0).length c429_0, .int .i64 ((rd_T52 qb qa).f1), .bool ((rd_T52 qb qa).f2)] (fun k_ => (w.heap.size ≤ k_) ∧ some k_ ≠ (.slice (some qo) qb.length qv : Value).ownBlock ∧ k_ ≠ qg ∧ k_ ≠ qk ∧ k_ ≠ qc) (fun k_ => ((fun k_ => (w.heap.size ≤ k_) ∧ some k_ ≠ (.slice (some qo) qb.length qv : Value).ownBlock ∧ k_ ≠ qg ∧ k_ ≠ qk ∧ k_ ≠ qc)) k_ ∧ some k_ ≠ (u429001 : Value).ownBlock) rfl rfl ?aP (fun _ hk => hk) ?aF ?aO ?aB ?aS ?aL ?_; (case aP => exact (k52_mkF _ _ (⟨(rd_T52 qb qa).f0, (rd_T52 qb qa).f1, (rd_T52 qb qa).f2⟩ : S52) (Kd.V_reads' (Kd.V_mono (ok' := (fun k_ => ((fun k_ => (w.heap.size ≤ k_) ∧ some k_ ≠ (.slice (some qo) qb.length qv : Value).ownBlock ∧ k_ ≠ qg ∧ k_ ≠ qk ∧ k_ ≠ qc)) k_ ∧ some k_ ≠ (u429001 : Value).ownBlock)) (HL429_0.out) (fun k_ hk => ⟨⟨hk.1, ⟨hk.2.1, ⟨hk.2.2.2.1, ⟨hk.2.2.2.2.1, hk.2.2.2.2.2⟩⟩⟩⟩, hk.2.2.1⟩))).2.1 (Kd.V_F (Kd.V_mono (ok' := (fun k_ => ((fun k_ => (w.heap.size ≤ k_) ∧ some k_ ≠ (.slice (some qo) qb.length qv : Value).ownBlock ∧ k_ ≠ qg ∧ k_ ≠ qk ∧ k_ ≠ qc)) k_ ∧ some k_ ≠ (u429001 : Value).ownBlock)) (HL429_0.out) (fun k_ hk => ⟨⟨hk.1, ⟨hk.2.1, ⟨hk.2.2.2.1, ⟨hk.2.2.2.2.1, hk.2.2.2.2.2⟩⟩⟩⟩, hk.2.2.1⟩))))); (case aB => exact (bb_ HB)); (case aF => exact (fun k_ hk => ⟨(Nat.le_trans (bz_ HB) hk), Kd.fresh' (Kd.N_lt (nm_ qm)) k_ hk, Kd.freshB (g := qg) (o := .cells #[.int .i64 qn, .slice none 0 0] 28 (0, 0)) (kf_ qd) k_ hk, Kd.freshB (g := qk) (o := .cells #[.int .i64 a0, u429001] 28 (0, 0)) (kf_ qi) k_ hk, Kd.freshB (g := qc) (o := .cells #[.slice qh ((rd_T52 qb qa).f0).length c429_0, .int .i64 ((rd_T52 qb qa).f1), .bool ((rd_T52 qb qa).f2)] 52 (0, 0)) (kf_ ql) k_ hk⟩)); (case aO => exact (nm_ qe)); (case aS => exact (bz_ HB)); (case aL => have := LMc79.out; omega); intro Q4 Zi ho hb hg hat; rw [← Ny436.out] at ho; replace qj := Aside0.mk (Kd.N_afterv (ok := (fun k_ => (w.heap.size ≤ k_) ∧ k_ ≠ qg ∧ k_ ≠ qk ∧ k_ ≠ qc)) (by (with_reducible repeat (first | apply Kd.N_alloc | apply Kd.N_drewN | apply Kd.N_drew)); exact Kd.N_mono qj.out (fun _ hk => ⟨⟨hk.1, ⟨hk.2.2.1, ⟨hk.2.2.2.1, hk.2.2.2.2⟩⟩⟩, hk.2.1⟩)) hg hat); replace qm := Aside0.mk (Kd.N_afterv (ok := (fun k_ => (w.heap.size ≤ k_) ∧ k_ ≠ qg ∧ k_ ≠ qk ∧ k_ ≠ qc)) (by (with_reducible repeat (first | apply Kd.N_alloc | apply Kd.N_drewN | apply Kd.N_drew)); exact Kd.N_mono qm.out (fun _ hk => ⟨⟨hk.1, ⟨hk.2.2.1, ⟨hk.2.2.2.1, hk.2.2.2.2⟩⟩⟩, hk.2.1⟩)) hg hat); replace qd := Aside0.mk (blk_grown (g := qg) (o := .cells #[.int .i64 qn, .slice none 0 0] 28 (0, 0)) (kf_ qd) hg (Kd.N_ne qe.out qd.out (by decide))); replace qi := Aside0.mk (blk_grown (g := qk) (o := .cells #[.int .i64 a0, u429001] 28 (0, 0)) (kf_ qi) hg (Kd.N_ne qe.out qi.out (by decide))); replace HL429_0 := Aside0.mk (Kd.V_afterv (ok := (fun k_ => (w.heap.size ≤ k_) ∧ some k_ ≠ (.slice (some qo) qb.length qv : Value).ownBlock ∧ k_ ≠ qg ∧ k_ ≠ qk ∧ k_ ≠ qc)) (by (with_reducible repeat (first | apply Kd.V_alloc | apply Kd.V_drewN | apply Kd.V_drew)); exact Kd.V_mono HL429_0.out (fun _ hk => ⟨⟨hk.1, ⟨hk.2.1, ⟨hk.2.2.2.1, ⟨hk.2.2.2.2.1, hk.2.2.2.2.2⟩⟩⟩⟩, hk.2.2.1⟩)) hg hat); replace ql := Aside0.mk (blk_grown (g := qc) (o := .cells #[.slice qh ((rd_T52 qb qa).f0).length c429_0, .int .i64 ((rd_T52 qb qa).f1), .bool ((rd_T52 qb qa).f2)] 52 (0, 0)) (kf_ ql) hg (Kd.N_away qe.out (fun _ hk => hk.2.2.2.2))); replace HB := Aside0.mk (hb); have ze := Aside0.mk (ho); clear qe; clear ho hb hg hat; obtain ⟨Qe, Qf, eo90⟩ := Kd.N_slice ze.out; subst eo90; obtain ⟨jA, jB, jC, jD⟩ := b2_ qi))
    go_roundg k2
    case measure => have := HK1.out; have := HK2.out; omega
    case rel => exact ⟨(wrap64 (qa + 1)), (y436), (.slice Qe y436.length Qf), (by first | rfl | (simp; done) | (simp [*]; done)), H', ⟨by have := HK1.out; have := HK2.out; omega⟩, ⟨ny_ qj qk (fun _ hk => hk.1.2.2.1) (fun _ hk => ⟨hk.1.1, ⟨hk.2, ⟨hk.1.2.1, hk.1.2.2.1⟩⟩⟩)⟩, ⟨ny_ qm qk (fun _ hk => hk.1.2.2.1) (fun _ hk => ⟨hk.1.1, ⟨hk.2, ⟨hk.1.2.1, hk.1.2.2.1⟩⟩⟩)⟩, ⟨ny_ ze qk (fun _ hk => hk.2.2.2.1) (fun _ hk => ⟨hk.1, ⟨hk.2.1, ⟨hk.2.2.1, hk.2.2.2.1⟩⟩⟩)⟩, ⟨kf_ qd⟩, ⟨kp_ qi⟩, ⟨bb_ HB⟩⟩
   rw [if_pos c53] at H
   have zb : decide ((wrap64 (qa + 1)) < (qb.length : Int)) = true := decide_eq_true c53
   clear c53
   obtain ⟨ji54, hji54⟩ : ∃ j_ : Int, (wrap64 (qa + 1)) = j_ := ⟨_, rfl⟩
   replace H : (if 0 ≤ (ji54) then ((impl_compareDirections.f k2 ((rd_T52 qb qa).f0) ((rd_T52 qb qa).f1) ((rd_T52 qb qa).f2) ((rd_T52 qb (ji54)).f0) ((rd_T52 qb (ji54)).f1) ((rd_T52 qb (ji54)).f2)).bind fun qR => (if qR = 0 then (impl_normalOf.l1 k2 qb qb (qb.length : Int) ji54 a0 qp) else (if qp.length < 3518437208883 then (impl_normalOf.l1 k2 qb qb (qb.length : Int) ji54 a0 (qp ++ [(⟨(rd_T52 qb qa).f0, (rd_T52 qb qa).f1, (rd_T52 qb qa).f2⟩ : S52)])) else (none)))) else (none)) = some (r1, r2) := by first | (rw [hji54] at H; exact H) | (simp only [hji54] at H ⊢; exact H)
   (try rw [hji54] at zb)
   have hji54w : (IntKind.i64.wrap (qa + 1)) = ji54 := (i64_w _).trans hji54
   replace H := ip_ H
   obtain ⟨c55, H⟩ := H
   have QK : decide (0 ≤ (ji54)) = true := decide_eq_true c55
   clear c55
   replace H := be_ H
   obtain ⟨qR, A560, H⟩ := H
   have A56 := Aside0.mk A560
   clear A560
   by_cases c57 : qR = 0
   ·
    rw [if_pos c57] at H
    have zs : (qR == 0) = true := beq_iff_eq.mpr c57
    have zt : (qR != 0) = false := bne_eq_false_iff_eq.mpr c57
    clear c57
    have H' := Aside0.mk H
    clear H
    have p429 : 0 ≤ (qa : Int) := od_
    have q429 : qa < (qb.length : Int) := od_
    obtain ⟨qo, qh, c429_0, e429, qJ, qZ, q0, hl429_0, hi429_0⟩ := at_T52 (Kd.N_reads' qm.out).2.2 qa p429 q429
    cases e429
    obtain ⟨ce429, hce429, hMe429, hcc429⟩ := Kd.N_get qm.out z52 qa p429 (by first | exact q429 | exact od_ | (have e_ := (Kd.N_reads' qm.out).1; omega))
    obtain ⟨ua429_0, uc429_0, rfl, ul429_0, ge429_0⟩ := k52_openF hMe429
    have hv429_0 := hcc429 0 _ rfl
    rw [Nat.add_zero] at hv429_0
    replace hv429_0 := Option.some.inj (hv429_0.symm.trans qJ)
    injection hv429_0 with hva_ hvn_ hvc_
    rw [hva_] at ge429_0
    rw [hvc_] at ul429_0
    have HL429_0 := Aside0.mk (show Kd.V (Kd.int .i64) 3 _ w.heap.size _ _ ((rd_T52 qb qa).f0) from Kd.V_mk ul429_0 ge429_0)
    clear hva_ hvn_ hvc_ ge429_0 ul429_0
    clear hcc429 hce429
    have qx := Aside0.mk hi429_0
    have qP := Aside0.mk hl429_0
    clear hi429_0 hl429_0
    replace p429 := eq_true p429
    replace q429 := eq_true q429
    try go_wp2_with (first | ((with_reducible refine gate_dst (N := 10) rfl ?_); refine bx_ (cs := #[.slice none 0 0, .int .i64 0, .bool false]) (t := 52) ?_; intro qc hg q8 hbox hb; replace qj := nE_ qj hg hb; replace qm := nE_ qm hg hb; replace qe := nE_ qe hg hb; replace HL429_0 := vE_ HL429_0 hg hb; replace qx := cB_ qx hb; have ql := Aside0.mk (hbox); have zc := hz_ HB hg; have zd := hz_ HB hg; replace HB := bS_ HB hb; have qz := nL_ qd hg; have qA := nG_ qd hg; replace qd := kB_ qd hb; have qB := nL_ qi hg; have qC := nG_ qi hg; replace qi := kB_ qi hb; clear hb hbox hg; have QL := qA.out; have QM := qz.out; have QN := qC.out; have QO := qB.out; obtain ⟨jE, jF, jG, jH, jI, jJ⟩ := b3_ ql))
    have n0_ : Aside0 (Kd.N k52 52 (((q8.setCell ⟨qc, 0, none⟩ (.slice qh ((rd_T52 qb qa).f0).length c429_0)).setCell ⟨qc, 1, none⟩ (.int .i64 ((rd_T52 qb qa).f1))).setCell ⟨qc, 2, none⟩ (.bool ((rd_T52 qb qa).f2))) w.heap.size (fun k_ => (w.heap.size ≤ k_) ∧ some k_ ≠ (u429001 : Value).ownBlock ∧ k_ ≠ qg ∧ k_ ≠ qk ∧ k_ ≠ qc) (.slice (some qo) qb.length qv) qb) := ⟨ny_ qj qc (fun _ hk => hk.2) (fun _ hk => ⟨hk.1.1, ⟨hk.1.2.1, ⟨hk.1.2.2.1, ⟨hk.1.2.2.2, hk.2⟩⟩⟩⟩)⟩
    have n1_ : Aside0 (Kd.N k52 52 (((q8.setCell ⟨qc, 0, none⟩ (.slice qh ((rd_T52 qb qa).f0).length c429_0)).setCell ⟨qc, 1, none⟩ (.int .i64 ((rd_T52 qb qa).f1))).setCell ⟨qc, 2, none⟩ (.bool ((rd_T52 qb qa).f2))) w.heap.size (fun k_ => (w.heap.size ≤ k_) ∧ some k_ ≠ (u429001 : Value).ownBlock ∧ k_ ≠ qg ∧ k_ ≠ qk ∧ k_ ≠ qc) (.slice (some qo) qb.length qv) qb) := ⟨ny_ qm qc (fun _ hk => hk.2) (fun _ hk => ⟨hk.1.1, ⟨hk.1.2.1, ⟨hk.1.2.2.1, ⟨hk.1.2.2.2, hk.2⟩⟩⟩⟩)⟩
    have n2_ : Aside0 (Kd.N k52 52 (((q8.setCell ⟨qc, 0, none⟩ (.slice qh ((rd_T52 qb qa).f0).length c429_0)).setCell ⟨qc, 1, none⟩ (.int .i64 ((rd_T52 qb qa).f1))).setCell ⟨qc, 2, none⟩ (.bool ((rd_T52 qb qa).f2))) w.heap.size (fun k_ => (w.heap.size ≤ k_) ∧ some k_ ≠ (.slice (some qo) qb.length qv : Value).ownBlock ∧ k_ ≠ qg ∧ k_ ≠ qk ∧ k_ ≠ qc) u429001 qp) := ⟨ny_ qe qc (fun _ hk => hk.2) (fun _ hk => ⟨hk.1.1, ⟨hk.1.2.1, ⟨hk.1.2.2.1, ⟨hk.1.2.2.2, hk.2⟩⟩⟩⟩)⟩
    have n3_ : Aside0 (Kd.V (Kd.int .i64) 3 (((q8.setCell ⟨qc, 0, none⟩ (.slice qh ((rd_T52 qb qa).f0).length c429_0)).setCell ⟨qc, 1, none⟩ (.int .i64 ((rd_T52 qb qa).f1))).setCell ⟨qc, 2, none⟩ (.bool ((rd_T52 qb qa).f2))) w.heap.size (fun k_ => (w.heap.size ≤ k_) ∧ some k_ ≠ (.slice (some qo) qb.length qv : Value).ownBlock ∧ some k_ ≠ (u429001 : Value).ownBlock ∧ k_ ≠ qg ∧ k_ ≠ qk ∧ k_ ≠ qc) (.slice qh ((rd_T52 qb qa).f0).length c429_0) ((rd_T52 qb qa).f0)) := ⟨vy_ HL429_0 qc (fun _ hk => hk.2) (fun _ hk => ⟨hk.1.1.1, ⟨hk.1.2, ⟨hk.1.1.2.1, ⟨hk.1.1.2.2.1, ⟨hk.1.1.2.2.2, hk.2⟩⟩⟩⟩⟩)⟩
    have n4_ : Aside0 ((((q8.setCell ⟨qc, 0, none⟩ (.slice qh ((rd_T52 qb qa).f0).length c429_0)).setCell ⟨qc, 1, none⟩ (.int .i64 ((rd_T52 qb qa).f1))).setCell ⟨qc, 2, none⟩ (.bool ((rd_T52 qb qa).f2))).heap[qg]? = some (.cells #[.int .i64 qn, .slice none 0 0] 28 (0, 0))) := ⟨kf_ qd⟩
    have n5_ : Aside0 ((((q8.setCell ⟨qc, 0, none⟩ (.slice qh ((rd_T52 qb qa).f0).length c429_0)).setCell ⟨qc, 1, none⟩ (.int .i64 ((rd_T52 qb qa).f1))).setCell ⟨qc, 2, none⟩ (.bool ((rd_T52 qb qa).f2))).heap[qk]? = some (.cells #[.int .i64 a0, u429001] 28 (0, 0))) := ⟨kf_ qi⟩
    have n6_ : Aside0 ((((q8.setCell ⟨qc, 0, none⟩ (.slice qh ((rd_T52 qb qa).f0).length c429_0)).setCell ⟨qc, 1, none⟩ (.int .i64 ((rd_T52 qb qa).f1))).setCell ⟨qc, 2, none⟩ (.bool ((rd_T52 qb qa).f2))).heap[qc]? = some (.cells #[.slice qh ((rd_T52 qb qa).f0).length c429_0, .int .i64 ((rd_T52 qb qa).f1), .bool ((rd_T52 qb qa).f2)] 52 (0, 0))) := ⟨kp_ ql⟩
    have n7_ : Aside0 (Below w.heap.size w (((q8.setCell ⟨qc, 0, none⟩ (.slice qh ((rd_T52 qb qa).f0).length c429_0)).setCell ⟨qc, 1, none⟩ (.int .i64 ((rd_T52 qb qa).f1))).setCell ⟨qc, 2, none⟩ (.bool ((rd_T52 qb qa).f2)))) := ⟨bb_ HB⟩
    generalize (((q8.setCell ⟨qc, 0, none⟩ (.slice qh ((rd_T52 qb qa).f0).length c429_0)).setCell ⟨qc, 1, none⟩ (.int .i64 ((rd_T52 qb qa).f1))).setCell ⟨qc, 2, none⟩ (.bool ((rd_T52 qb qa).f2))) = Q5 at n0_ n1_ n2_ n3_ n4_ n5_ n6_ n7_ ⊢
    have qj := n0_
    have qm := n1_
    have qe := n2_
    have HL429_0 := n3_
    have qd := n4_
    have qi := n5_
    have ql := n6_
    have HB := n7_
    clear n0_ n1_ n2_ n3_ n4_ n5_ n6_ n7_
    replace qj := Aside0.mk (Kd.N_drew qj.out); replace qm := Aside0.mk (Kd.N_drew qm.out); replace qe := Aside0.mk (Kd.N_drew qe.out); replace HL429_0 := Aside0.mk (Kd.V_drew HL429_0.out); replace qd := Aside0.mk (blk_drew qd.out); replace qi := Aside0.mk (blk_drew qi.out); replace ql := Aside0.mk (blk_drew ql.out); replace HB := Aside0.mk (below_drew1 HB.out)
    have p431 : 0 ≤ ((ji54) : Int) := od_
    have q431 : (ji54) < (qb.length : Int) := od_
    obtain ⟨q6, qS, c431_0, e431, qD, qK, qL, hl431_0, hi431_0⟩ := at_T52 (Kd.N_reads' qj.out).2.2 (ji54) p431 q431
    obtain rfl : qo = q6 := (by injection e431)
    obtain ⟨ce431, hce431, hMe431, hcc431⟩ := Kd.N_get qj.out z52 (ji54) p431 (by first | exact q431 | exact od_ | (have e_ := (Kd.N_reads' qj.out).1; omega))
    obtain ⟨ua431_0, uc431_0, rfl, ul431_0, ge431_0⟩ := k52_openF hMe431
    have hv431_0 := hcc431 0 _ rfl
    rw [Nat.add_zero] at hv431_0
    replace hv431_0 := Option.some.inj (hv431_0.symm.trans qD)
    injection hv431_0 with hva_ hvn_ hvc_
    rw [hva_] at ge431_0
    rw [hvc_] at ul431_0
    have HL431_0 := Aside0.mk (show Kd.V (Kd.int .i64) 3 _ w.heap.size _ _ ((rd_T52 qb (ji54)).f0) from Kd.V_mk ul431_0 ge431_0)
    clear hva_ hvn_ hvc_ ge431_0 ul431_0
    clear hcc431 hce431
    have qs := Aside0.mk hi431_0
    have qU := Aside0.mk hl431_0
    clear hi431_0 hl431_0
    replace p431 := eq_true p431
    replace q431 := eq_true q431
    refine start_ (n := 15) (S := fun w' => w'.cell? ⟨qc, 0, none⟩ = some (.slice qh ((rd_T52 qb qa).f0).length c429_0) ∧ w'.cell? ⟨qc, 1, none⟩ = some (.int .i64 ((rd_T52 qb qa).f1)) ∧ w'.cell? ⟨qc, 2, none⟩ = some (.bool ((rd_T52 qb qa).f2)) ∧ w'.cell? (qo.add (((ji54)).toNat * 3)) = some (.slice qS ((rd_T52 qb (ji54)).f0).length c431_0) ∧ w'.cell? ⟨(qo.add (((ji54)).toNat * 3)).block, (qo.add (((ji54)).toNat * 3)).off + 1, none⟩ = some (.int .i64 ((rd_T52 qb (ji54)).f1)) ∧ w'.cell? ⟨(qo.add (((ji54)).toNat * 3)).block, (qo.add (((ji54)).toNat * 3)).off + 2, none⟩ = some (.bool ((rd_T52 qb (ji54)).f2))) (ds := []) (fl_ 15 0) (by kernel_rfl) rfl rfl ⟨bc_ ql 0, bc_ ql 1, bc_ ql 2, qD, qK, qL⟩ (fun hHeld => ?_); refine with_tabW impl_normalOf.tab15 impl_normalOf.bits15 (fun HT_ HW_ => ?_)
    generalize Q5.drew = Zj at qj qm qe HL429_0 qd qi ql HB HL431_0 qs qD qK qL hHeld ⊢
    refine pX_ 0 (some 53) (fl_ 15 1) HT_ ?_
    refine pX_ 1 (some 54) (fl_ 15 3) HT_ ?_
    refine pX_ 2 (some 55) (fl_ 15 7) HT_ ?_
    refine pX_ 3 (some 56) (fl_ 15 15) HT_ ?_
    refine pX_ 4 (some 57) (fl_ 15 31) HT_ ?_
    refine pX_ 5 (some 58) (fl_ 15 63) HT_ ?_
    refine pX_ 7 (some 60) (fl_ 15 191) HT_ ?_
    refine pX_ 8 (some 61) (fl_ 15 447) HT_ ?_
    refine pX_ 9 (some 62) (fl_ 15 959) HT_ ?_
    refine pX_ 10 (some 63) (fl_ 15 1983) HT_ ?_
    refine tX_ 6 (some 59) (fl_ 15 2047) rfl rfl HT_ HW_ hHeld (by rintro w' ⟨s0, s1, s2, s3, s4, s5⟩; go_simp; with_reducible rfl) ?_
    refine tX_ 11 (some 64) (fl_ 15 4095) rfl rfl HT_ HW_ hHeld (by rintro w' ⟨s0, s1, s2, s3, s4, s5⟩; go_simp; with_reducible rfl) ?_
    refine one_ (i := 12) (N := some 65) (fl_ 15 8191) rfl rfl (one_of HT_.out (by kernel_rfl)) (by decide) (fun K hK => ?_)
    refine goes_ Try.func98 (by kernel_rfl) rfl #[.agg #[.slice qh ((rd_T52 qb qa).f0).length c429_0, .int .i64 ((rd_T52 qb qa).f1), .bool ((rd_T52 qb qa).f2)], .agg #[.slice qS ((rd_T52 qb (ji54)).f0).length c431_0, .int .i64 ((rd_T52 qb (ji54)).f1), .bool ((rd_T52 qb (ji54)).f2)]] (by rfl) rfl rfl (by (try simp only [List.map_toArray, List.map_cons, List.map_nil]); first | done | (simp only [hji54]; rfl) | rfl | (simp only [List.length_drop, List.length_take]; rfl)) ?_
    with_reducible refine (impl_compareDirections.calls k2 _ _ ((rd_T52 qb qa).f0) ((rd_T52 qb qa).f1) ((rd_T52 qb qa).f2) _ _ ((rd_T52 qb (ji54)).f0) ((rd_T52 qb (ji54)).f1) ((rd_T52 qb (ji54)).f2) qR _ ?side1 ?side2 ?side3 ?side4 A56.out).mono ?_
    (case side1 => repeat (first | exact ((Kd.V_reads' (vm_ HL429_0)).2.2) | (with_reducible refine Kd.C_alloc ?_ _) | (with_reducible refine Kd.C_drewN ?_ _) | (with_reducible refine Kd.C_drew ?_)))
    (case side2 => exact qP.out)
    (case side3 => repeat (first | exact (by repeat (first | (with_reducible exact qs.out) | (with_reducible refine Kd.C_alloc ?_ _) | (with_reducible refine Kd.C_drewN ?_ _) | (with_reducible refine Kd.C_drew ?_) | exact qs.out)) | (with_reducible refine Kd.C_alloc ?_ _) | (with_reducible refine Kd.C_drewN ?_ _) | (with_reducible refine Kd.C_drew ?_)))
    (case side4 => exact qU.out)
    rintro e Zk ⟨rfl, hb⟩
    have HS3_ := (hb.cell (World.block_lt_of_cell? _ _ (hHeld.2.2.2.1))).trans (hHeld.2.2.2.1)
    have HS4_ := (hb.cell (World.block_lt_of_cell? _ _ (hHeld.2.2.2.2.1))).trans (hHeld.2.2.2.2.1)
    have HS5_ := (hb.cell (World.block_lt_of_cell? _ _ (hHeld.2.2.2.2.2))).trans (hHeld.2.2.2.2.2)
    refine ⟨_, rfl, ?_⟩
    replace qj := nB_ qj hb; replace qm := nB_ qm hb; replace qe := nB_ qe hb; replace HL429_0 := vB_ HL429_0 hb; replace HL431_0 := vB_ HL431_0 hb; replace qd := kB_ qd hb; replace qi := kB_ qi hb; replace ql := kB_ ql hb; replace qs := cB_ qs hb; replace HB := bS_ HB hb; (try clear hb); (try clear hb2); (try clear hk); (try clear hi)
    refine hK.out _ _ ⟨bc_ ql 0, bc_ ql 1, bc_ ql 2, HS3_, HS4_, HS5_⟩ (fun hHeld => ?_)
    clear hK K
    refine norm_ (a' := ?_) ?_ ?_
    rotate_left
    ·
     show Act.put _ (some 65) _ = _
     simp only [Act.put, sa_, s0_, s1_, i64_w, i32_w]
     rfl
    refine pX_ 13 (some 66) (fl_ 15 16383) HT_ ?_
    refine pX_ 14 (some 67) (fl_ 15 32767) HT_ ?_
    refine done_ (done_of HT_.out (by kernel_rfl)) ?_
    try go_wp2
    go_roundg k2
    case measure => have := HK1.out; have := HK2.out; omega
    case rel => exact ⟨(ji54), (qp), (u429001), (by first | rfl | (simp; done) | (simp only [← hji54] <;> (first | rfl | simp)) | (simp [*]; done)), H', ⟨by have := HK1.out; have := HK2.out; omega⟩, ⟨by (with_reducible repeat (first | apply Kd.N_alloc | apply Kd.N_drewN | apply Kd.N_drew)); exact Kd.N_mono qj.out (fun _ hk => ⟨hk.1, ⟨hk.2.1, ⟨hk.2.2.1, hk.2.2.2.1⟩⟩⟩)⟩, ⟨by (with_reducible repeat (first | apply Kd.N_alloc | apply Kd.N_drewN | apply Kd.N_drew)); exact Kd.N_mono qm.out (fun _ hk => ⟨hk.1, ⟨hk.2.1, ⟨hk.2.2.1, hk.2.2.2.1⟩⟩⟩)⟩, ⟨by (with_reducible repeat (first | apply Kd.N_alloc | apply Kd.N_drewN | apply Kd.N_drew)); exact Kd.N_mono qe.out (fun _ hk => ⟨hk.1, ⟨hk.2.1, ⟨hk.2.2.1, hk.2.2.2.1⟩⟩⟩)⟩, ⟨kf_ qd⟩, ⟨kf_ qi⟩, ⟨bb_ HB⟩⟩
   rw [if_neg c57] at H
   have zs : (qR == 0) = false := beq_eq_false_iff_ne.mpr c57
   have zt : (qR != 0) = true := bne_iff_ne.mpr c57
   replace H := ip_ H
   obtain ⟨c65, H⟩ := H
   have LMc65 := Aside0.mk c65
   clear c65
   obtain ⟨y433, hy433⟩ : ∃ y_ : List (S52), y_ = (qp ++ [(⟨(rd_T52 qb qa).f0, (rd_T52 qb qa).f1, (rd_T52 qb qa).f2⟩ : S52)]) := ⟨_, rfl⟩
   replace H : (impl_normalOf.l1 k2 qb qb (qb.length : Int) ji54 a0 y433) = some (r1, r2) := by first | (rw [hy433]; with_reducible exact H) | (have H2_ := (Option.bind_some _ _).symm.trans H; rw [hy433]; with_reducible exact H2_) | (have H2_ := (Option.bind_some _ _).symm.trans H; with_reducible exact H2_) | with_reducible exact H | (rw [hy433]; exact H) | exact H
   have Ny433 := Aside0.mk hy433
   clear hy433
   have H' := Aside0.mk H
   clear H
   have p429 : 0 ≤ (qa : Int) := od_
   have q429 : qa < (qb.length : Int) := od_
   obtain ⟨qo, qh, c429_0, e429, qJ, qZ, q0, hl429_0, hi429_0⟩ := at_T52 (Kd.N_reads' qm.out).2.2 qa p429 q429
   cases e429
   obtain ⟨ce429, hce429, hMe429, hcc429⟩ := Kd.N_get qm.out z52 qa p429 (by first | exact q429 | exact od_ | (have e_ := (Kd.N_reads' qm.out).1; omega))
   obtain ⟨ua429_0, uc429_0, rfl, ul429_0, ge429_0⟩ := k52_openF hMe429
   have hv429_0 := hcc429 0 _ rfl
   rw [Nat.add_zero] at hv429_0
   replace hv429_0 := Option.some.inj (hv429_0.symm.trans qJ)
   injection hv429_0 with hva_ hvn_ hvc_
   rw [hva_] at ge429_0
   rw [hvc_] at ul429_0
   have HL429_0 := Aside0.mk (show Kd.V (Kd.int .i64) 3 _ w.heap.size _ _ ((rd_T52 qb qa).f0) from Kd.V_mk ul429_0 ge429_0)
   clear hva_ hvn_ hvc_ ge429_0 ul429_0
   clear hcc429 hce429
   have qx := Aside0.mk hi429_0
   have qP := Aside0.mk hl429_0
   clear hi429_0 hl429_0
   replace p429 := eq_true p429
   replace q429 := eq_true q429
   try go_wp2_with (first | ((with_reducible refine gate_dst (N := 10) rfl ?_); refine bx_ (cs := #[.slice none 0 0, .int .i64 0, .bool false]) (t := 52) ?_; intro qc hg q9 hbox hb; replace qj := nE_ qj hg hb; replace qm := nE_ qm hg hb; replace qe := nE_ qe hg hb; replace HL429_0 := vE_ HL429_0 hg hb; replace qx := cB_ qx hb; have ql := Aside0.mk (hbox); have zc := hz_ HB hg; have zd := hz_ HB hg; replace HB := bS_ HB hb; have qz := nL_ qd hg; have qA := nG_ qd hg; replace qd := kB_ qd hb; have qB := nL_ qi hg; have qC := nG_ qi hg; replace qi := kB_ qi hb; clear hb hbox hg; have QP := qA.out; have QQ := qz.out; have QR := qC.out; have QS := qB.out; obtain ⟨jK, jL, jM, jN, jO, jP⟩ := b3_ ql))
   have n0_ : Aside0 (Kd.N k52 52 (((q9.setCell ⟨qc, 0, none⟩ (.slice qh ((rd_T52 qb qa).f0).length c429_0)).setCell ⟨qc, 1, none⟩ (.int .i64 ((rd_T52 qb qa).f1))).setCell ⟨qc, 2, none⟩ (.bool ((rd_T52 qb qa).f2))) w.heap.size (fun k_ => (w.heap.size ≤ k_) ∧ some k_ ≠ (u429001 : Value).ownBlock ∧ k_ ≠ qg ∧ k_ ≠ qk ∧ k_ ≠ qc) (.slice (some qo) qb.length qv) qb) := ⟨ny_ qj qc (fun _ hk => hk.2) (fun _ hk => ⟨hk.1.1, ⟨hk.1.2.1, ⟨hk.1.2.2.1, ⟨hk.1.2.2.2, hk.2⟩⟩⟩⟩)⟩
   have n1_ : Aside0 (Kd.N k52 52 (((q9.setCell ⟨qc, 0, none⟩ (.slice qh ((rd_T52 qb qa).f0).length c429_0)).setCell ⟨qc, 1, none⟩ (.int .i64 ((rd_T52 qb qa).f1))).setCell ⟨qc, 2, none⟩ (.bool ((rd_T52 qb qa).f2))) w.heap.size (fun k_ => (w.heap.size ≤ k_) ∧ some k_ ≠ (u429001 : Value).ownBlock ∧ k_ ≠ qg ∧ k_ ≠ qk ∧ k_ ≠ qc) (.slice (some qo) qb.length qv) qb) := ⟨ny_ qm qc (fun _ hk => hk.2) (fun _ hk => ⟨hk.1.1, ⟨hk.1.2.1, ⟨hk.1.2.2.1, ⟨hk.1.2.2.2, hk.2⟩⟩⟩⟩)⟩
   have n2_ : Aside0 (Kd.N k52 52 (((q9.setCell ⟨qc, 0, none⟩ (.slice qh ((rd_T52 qb qa).f0).length c429_0)).setCell ⟨qc, 1, none⟩ (.int .i64 ((rd_T52 qb qa).f1))).setCell ⟨qc, 2, none⟩ (.bool ((rd_T52 qb qa).f2))) w.heap.size (fun k_ => (w.heap.size ≤ k_) ∧ some k_ ≠ (.slice (some qo) qb.length qv : Value).ownBlock ∧ k_ ≠ qg ∧ k_ ≠ qk ∧ k_ ≠ qc) u429001 qp) := ⟨ny_ qe qc (fun _ hk => hk.2) (fun _ hk => ⟨hk.1.1, ⟨hk.1.2.1, ⟨hk.1.2.2.1, ⟨hk.1.2.2.2, hk.2⟩⟩⟩⟩)⟩
   have n3_ : Aside0 (Kd.V (Kd.int .i64) 3 (((q9.setCell ⟨qc, 0, none⟩ (.slice qh ((rd_T52 qb qa).f0).length c429_0)).setCell ⟨qc, 1, none⟩ (.int .i64 ((rd_T52 qb qa).f1))).setCell ⟨qc, 2, none⟩ (.bool ((rd_T52 qb qa).f2))) w.heap.size (fun k_ => (w.heap.size ≤ k_) ∧ some k_ ≠ (.slice (some qo) qb.length qv : Value).ownBlock ∧ some k_ ≠ (u429001 : Value).ownBlock ∧ k_ ≠ qg ∧ k_ ≠ qk ∧ k_ ≠ qc) (.slice qh ((rd_T52 qb qa).f0).length c429_0) ((rd_T52 qb qa).f0)) := ⟨vy_ HL429_0 qc (fun _ hk => hk.2) (fun _ hk => ⟨hk.1.1.1, ⟨hk.1.2, ⟨hk.1.1.2.1, ⟨hk.1.1.2.2.1, ⟨hk.1.1.2.2.2, hk.2⟩⟩⟩⟩⟩)⟩
   have n4_ : Aside0 ((((q9.setCell ⟨qc, 0, none⟩ (.slice qh ((rd_T52 qb qa).f0).length c429_0)).setCell ⟨qc, 1, none⟩ (.int .i64 ((rd_T52 qb qa).f1))).setCell ⟨qc, 2, none⟩ (.bool ((rd_T52 qb qa).f2))).heap[qg]? = some (.cells #[.int .i64 qn, .slice none 0 0] 28 (0, 0))) := ⟨kf_ qd⟩
   have n5_ : Aside0 ((((q9.setCell ⟨qc, 0, none⟩ (.slice qh ((rd_T52 qb qa).f0).length c429_0)).setCell ⟨qc, 1, none⟩ (.int .i64 ((rd_T52 qb qa).f1))).setCell ⟨qc, 2, none⟩ (.bool ((rd_T52 qb qa).f2))).heap[qk]? = some (.cells #[.int .i64 a0, u429001] 28 (0, 0))) := ⟨kf_ qi⟩
   have n6_ : Aside0 ((((q9.setCell ⟨qc, 0, none⟩ (.slice qh ((rd_T52 qb qa).f0).length c429_0)).setCell ⟨qc, 1, none⟩ (.int .i64 ((rd_T52 qb qa).f1))).setCell ⟨qc, 2, none⟩ (.bool ((rd_T52 qb qa).f2))).heap[qc]? = some (.cells #[.slice qh ((rd_T52 qb qa).f0).length c429_0, .int .i64 ((rd_T52 qb qa).f1), .bool ((rd_T52 qb qa).f2)] 52 (0, 0))) := ⟨kp_ ql⟩
   have n7_ : Aside0 (Below w.heap.size w (((q9.setCell ⟨qc, 0, none⟩ (.slice qh ((rd_T52 qb qa).f0).length c429_0)).setCell ⟨qc, 1, none⟩ (.int .i64 ((rd_T52 qb qa).f1))).setCell ⟨qc, 2, none⟩ (.bool ((rd_T52 qb qa).f2)))) := ⟨bb_ HB⟩
   generalize (((q9.setCell ⟨qc, 0, none⟩ (.slice qh ((rd_T52 qb qa).f0).length c429_0)).setCell ⟨qc, 1, none⟩ (.int .i64 ((rd_T52 qb qa).f1))).setCell ⟨qc, 2, none⟩ (.bool ((rd_T52 qb qa).f2))) = Q6 at n0_ n1_ n2_ n3_ n4_ n5_ n6_ n7_ ⊢
   have qj := n0_
   have qm := n1_
   have qe := n2_
   have HL429_0 := n3_
   have qd := n4_
   have qi := n5_
   have ql := n6_
   have HB := n7_
   clear n0_ n1_ n2_ n3_ n4_ n5_ n6_ n7_
   replace qj := Aside0.mk (Kd.N_drew qj.out); replace qm := Aside0.mk (Kd.N_drew qm.out); replace qe := Aside0.mk (Kd.N_drew qe.out); replace HL429_0 := Aside0.mk (Kd.V_drew HL429_0.out); replace qd := Aside0.mk (blk_drew qd.out); replace qi := Aside0.mk (blk_drew qi.out); replace ql := Aside0.mk (blk_drew ql.out); replace HB := Aside0.mk (below_drew1 HB.out)
   have p431 : 0 ≤ ((ji54) : Int) := od_
   have q431 : (ji54) < (qb.length : Int) := od_
   obtain ⟨q6, qS, c431_0, e431, qD, qK, qL, hl431_0, hi431_0⟩ := at_T52 (Kd.N_reads' qj.out).2.2 (ji54) p431 q431
   obtain rfl : qo = q6 := (by injection e431)
   obtain ⟨ce431, hce431, hMe431, hcc431⟩ := Kd.N_get qj.out z52 (ji54) p431 (by first | exact q431 | exact od_ | (have e_ := (Kd.N_reads' qj.out).1; omega))
   obtain ⟨ua431_0, uc431_0, rfl, ul431_0, ge431_0⟩ := k52_openF hMe431
   have hv431_0 := hcc431 0 _ rfl
   rw [Nat.add_zero] at hv431_0
   replace hv431_0 := Option.some.inj (hv431_0.symm.trans qD)
   injection hv431_0 with hva_ hvn_ hvc_
   rw [hva_] at ge431_0
   rw [hvc_] at ul431_0
   have HL431_0 := Aside0.mk (show Kd.V (Kd.int .i64) 3 _ w.heap.size _ _ ((rd_T52 qb (ji54)).f0) from Kd.V_mk ul431_0 ge431_0)
   clear hva_ hvn_ hvc_ ge431_0 ul431_0
   clear hcc431 hce431
   have qs := Aside0.mk hi431_0
   have qU := Aside0.mk hl431_0
   clear hi431_0 hl431_0
   replace p431 := eq_true p431
   replace q431 := eq_true q431
   refine start_ (n := 15) (S := fun w' => w'.cell? ⟨qc, 0, none⟩ = some (.slice qh ((rd_T52 qb qa).f0).length c429_0) ∧ w'.cell? ⟨qc, 1, none⟩ = some (.int .i64 ((rd_T52 qb qa).f1)) ∧ w'.cell? ⟨qc, 2, none⟩ = some (.bool ((rd_T52 qb qa).f2)) ∧ w'.cell? (qo.add (((ji54)).toNat * 3)) = some (.slice qS ((rd_T52 qb (ji54)).f0).length c431_0) ∧ w'.cell? ⟨(qo.add (((ji54)).toNat * 3)).block, (qo.add (((ji54)).toNat * 3)).off + 1, none⟩ = some (.int .i64 ((rd_T52 qb (ji54)).f1)) ∧ w'.cell? ⟨(qo.add (((ji54)).toNat * 3)).block, (qo.add (((ji54)).toNat * 3)).off + 2, none⟩ = some (.bool ((rd_T52 qb (ji54)).f2))) (ds := []) (fl_ 15 0) (by kernel_rfl) rfl rfl ⟨bc_ ql 0, bc_ ql 1, bc_ ql 2, qD, qK, qL⟩ (fun hHeld => ?_); refine with_tabW impl_normalOf.tab15 impl_normalOf.bits15 (fun HT_ HW_ => ?_)
   generalize Q6.drew = Zl at qj qm qe HL429_0 qd qi ql HB HL431_0 qs qD qK qL hHeld ⊢
   refine pX_ 0 (some 53) (fl_ 15 1) HT_ ?_
   refine pX_ 1 (some 54) (fl_ 15 3) HT_ ?_
   refine pX_ 2 (some 55) (fl_ 15 7) HT_ ?_
   refine pX_ 3 (some 56) (fl_ 15 15) HT_ ?_
   refine pX_ 4 (some 57) (fl_ 15 31) HT_ ?_
   refine pX_ 5 (some 58) (fl_ 15 63) HT_ ?_
   refine pX_ 7 (some 60) (fl_ 15 191) HT_ ?_
   refine pX_ 8 (some 61) (fl_ 15 447) HT_ ?_
   refine pX_ 9 (some 62) (fl_ 15 959) HT_ ?_
   refine pX_ 10 (some 63) (fl_ 15 1983) HT_ ?_
   refine tX_ 6 (some 59) (fl_ 15 2047) rfl rfl HT_ HW_ hHeld (by rintro w' ⟨s0, s1, s2, s3, s4, s5⟩; go_simp; with_reducible rfl) ?_
   refine tX_ 11 (some 64) (fl_ 15 4095) rfl rfl HT_ HW_ hHeld (by rintro w' ⟨s0, s1, s2, s3, s4, s5⟩; go_simp; with_reducible rfl) ?_
   refine one_ (i := 12) (N := some 65) (fl_ 15 8191) rfl rfl (one_of HT_.out (by kernel_rfl)) (by decide) (fun K hK => ?_)
   refine goes_ Try.func98 (by kernel_rfl) rfl #[.agg #[.slice qh ((rd_T52 qb qa).f0).length c429_0, .int .i64 ((rd_T52 qb qa).f1), .bool ((rd_T52 qb qa).f2)], .agg #[.slice qS ((rd_T52 qb (ji54)).f0).length c431_0, .int .i64 ((rd_T52 qb (ji54)).f1), .bool ((rd_T52 qb (ji54)).f2)]] (by rfl) rfl rfl (by (try simp only [List.map_toArray, List.map_cons, List.map_nil]); first | done | (simp only [hji54]; rfl) | rfl | (simp only [List.length_drop, List.length_take]; rfl)) ?_
   with_reducible refine (impl_compareDirections.calls k2 _ _ ((rd_T52 qb qa).f0) ((rd_T52 qb qa).f1) ((rd_T52 qb qa).f2) _ _ ((rd_T52 qb (ji54)).f0) ((rd_T52 qb (ji54)).f1) ((rd_T52 qb (ji54)).f2) qR _ ?side1 ?side2 ?side3 ?side4 A56.out).mono ?_
   (case side1 => repeat (first | exact ((Kd.V_reads' (vm_ HL429_0)).2.2) | (with_reducible refine Kd.C_alloc ?_ _) | (with_reducible refine Kd.C_drewN ?_ _) | (with_reducible refine Kd.C_drew ?_)))
   (case side2 => exact qP.out)
   (case side3 => repeat (first | exact (by repeat (first | (with_reducible exact qs.out) | (with_reducible refine Kd.C_alloc ?_ _) | (with_reducible refine Kd.C_drewN ?_ _) | (with_reducible refine Kd.C_drew ?_) | exact qs.out)) | (with_reducible refine Kd.C_alloc ?_ _) | (with_reducible refine Kd.C_drewN ?_ _) | (with_reducible refine Kd.C_drew ?_)))
   (case side4 => exact qU.out)
   rintro e Zm ⟨rfl, hb⟩
   have HS3_ := (hb.cell (World.block_lt_of_cell? _ _ (hHeld.2.2.2.1))).trans (hHeld.2.2.2.1)
   have HS4_ := (hb.cell (World.block_lt_of_cell? _ _ (hHeld.2.2.2.2.1))).trans (hHeld.2.2.2.2.1)
   have HS5_ := (hb.cell (World.block_lt_of_cell? _ _ (hHeld.2.2.2.2.2))).trans (hHeld.2.2.2.2.2)
   refine ⟨_, rfl, ?_⟩
   replace qj := nB_ qj hb; replace qm := nB_ qm hb; replace qe := nB_ qe hb; replace HL429_0 := vB_ HL429_0 hb; replace HL431_0 := vB_ HL431_0 hb; replace qd := kB_ qd hb; replace qi := kB_ qi hb; replace ql := kB_ ql hb; replace qs := cB_ qs hb; replace HB := bS_ HB hb; (try clear hb); (try clear hb2); (try clear hk); (try clear hi)
   refine hK.out _ _ ⟨bc_ ql 0, bc_ ql 1, bc_ ql 2, HS3_, HS4_, HS5_⟩ (fun hHeld => ?_)
   clear hK K
   refine norm_ (a' := ?_) ?_ ?_
   rotate_left
   ·
    show Act.put _ (some 65) _ = _
    simp only [Act.put, sa_, s0_, s1_, i64_w, i32_w]
    rfl
   refine pX_ 13 (some 66) (fl_ 15 16383) HT_ ?_
   refine pX_ 14 (some 67) (fl_ 15 32767) HT_ ?_
   refine done_ (done_of HT_.out (by kernel_rfl)) ?_
   have QT := qF.out
   have QU := qE.out
   obtain ⟨jQ, jR, jS, jT⟩ := b2_ qi
   obtain ⟨jU, jV, jW, jX, jY, jZ⟩ := b3_ ql
   try go_wp2_with (first | ((with_reducible refine gate_builtin (b := .append) (xs := #[.tmp 69, .tmp 71]) rfl ?_); at_builtin; refine Kd.N_append k52 (w0 := w) w.heap.size rfl (.tmp 69) (.tmp 71) 26 52 (.agg #[(.slice none 0 0), (.int .i64 0), (.bool false)]) 40 rfl Try.underlying26 info52 rfl (by decide) (by omega) u429001 qp (⟨(rd_T52 qb qa).f0, (rd_T52 qb qa).f1, (rd_T52 qb qa).f2⟩ : S52) [.slice qh ((rd_T52 qb qa).f0).length c429_0, .int .i64 ((rd_T52 qb qa).f1), .bool ((rd_T52 qb qa).f2)] (fun k_ => (w.heap.size ≤ k_) ∧ some k_ ≠ (.slice (some qo) qb.length qv : Value).ownBlock ∧ k_ ≠ qg ∧ k_ ≠ qk ∧ k_ ≠ qc) (fun k_ => ((fun k_ => (w.heap.size ≤ k_) ∧ some k_ ≠ (.slice (some qo) qb.length qv : Value).ownBlock ∧ k_ ≠ qg ∧ k_ ≠ qk ∧ k_ ≠ qc)) k_ ∧ some k_ ≠ (u429001 : Value).ownBlock) rfl rfl ?aP (fun _ hk => hk) ?aF ?aO ?aB ?aS ?aL ?_; (case aP => exact (k52_mkF _ _ (⟨(rd_T52 qb qa).f0, (rd_T52 qb qa).f1, (rd_T52 qb qa).f2⟩ : S52) (Kd.V_reads' (Kd.V_mono (ok' := (fun k_ => ((fun k_ => (w.heap.size ≤ k_) ∧ some k_ ≠ (.slice (some qo) qb.length qv : Value).ownBlock ∧ k_ ≠ qg ∧ k_ ≠ qk ∧ k_ ≠ qc)) k_ ∧ some k_ ≠ (u429001 : Value).ownBlock)) (HL429_0.out) (fun k_ hk => ⟨⟨hk.1, ⟨hk.2.1, ⟨hk.2.2.2.1, ⟨hk.2.2.2.2.1, hk.2.2.2.2.2⟩⟩⟩⟩, hk.2.2.1⟩))).2.1 (Kd.V_F (Kd.V_mono (ok' := (fun k_ => ((fun k_ => (w.heap.size ≤ k_) ∧ some k_ ≠ (.slice (some qo) qb.length qv : Value).ownBlock ∧ k_ ≠ qg ∧ k_ ≠ qk ∧ k_ ≠ qc)) k_ ∧ some k_ ≠ (u429001 : Value).ownBlock)) (HL429_0.out) (fun k_ hk => ⟨⟨hk.1, ⟨hk.2.1, ⟨hk.2.2.2.1, ⟨hk.2.2.2.2.1, hk.2.2.2.2.2⟩⟩⟩⟩, hk.2.2.1⟩))))); (case aB => exact (bb_ HB)); (case aF => exact (fun k_ hk => ⟨(Nat.le_trans (bz_ HB) hk), Kd.fresh' (Kd.N_lt (nm_ qm)) k_ hk, Kd.freshB (g := qg) (o := .cells #[.int .i64 qn, .slice none 0 0] 28 (0, 0)) (kf_ qd) k_ hk, Kd.freshB (g := qk) (o := .cells #[.int .i64 a0, u429001] 28 (0, 0)) (kf_ qi) k_ hk, Kd.freshB (g := qc) (o := .cells #[.slice qh ((rd_T52 qb qa).f0).length c429_0, .int .i64 ((rd_T52 qb qa).f1), .bool ((rd_T52 qb qa).f2)] 52 (0, 0)) (kf_ ql) k_ hk⟩)); (case aO => exact (nm_ qe)); (case aS => exact (bz_ HB)); (case aL => have := LMc65.out; omega); intro Q7 Zn ho hb hg hat; rw [← Ny433.out] at ho; replace qj := Aside0.mk (Kd.N_afterv (ok := (fun k_ => (w.heap.size ≤ k_) ∧ k_ ≠ qg ∧ k_ ≠ qk ∧ k_ ≠ qc)) (by (with_reducible repeat (first | apply Kd.N_alloc | apply Kd.N_drewN | apply Kd.N_drew)); exact Kd.N_mono qj.out (fun _ hk => ⟨⟨hk.1, ⟨hk.2.2.1, ⟨hk.2.2.2.1, hk.2.2.2.2⟩⟩⟩, hk.2.1⟩)) hg hat); replace qm := Aside0.mk (Kd.N_afterv (ok := (fun k_ => (w.heap.size ≤ k_) ∧ k_ ≠ qg ∧ k_ ≠ qk ∧ k_ ≠ qc)) (by (with_reducible repeat (first | apply Kd.N_alloc | apply Kd.N_drewN | apply Kd.N_drew)); exact Kd.N_mono qm.out (fun _ hk => ⟨⟨hk.1, ⟨hk.2.2.1, ⟨hk.2.2.2.1, hk.2.2.2.2⟩⟩⟩, hk.2.1⟩)) hg hat); replace qd := Aside0.mk (blk_grown (g := qg) (o := .cells #[.int .i64 qn, .slice none 0 0] 28 (0, 0)) (kf_ qd) hg (Kd.N_ne qe.out qd.out (by decide))); replace qi := Aside0.mk (blk_grown (g := qk) (o := .cells #[.int .i64 a0, u429001] 28 (0, 0)) (kf_ qi) hg (Kd.N_ne qe.out qi.out (by decide))); replace HL429_0 := Aside0.mk (Kd.V_afterv (ok := (fun k_ => (w.heap.size ≤ k_) ∧ some k_ ≠ (.slice (some qo) qb.length qv : Value).ownBlock ∧ k_ ≠ qg ∧ k_ ≠ qk ∧ k_ ≠ qc)) (by (with_reducible repeat (first | apply Kd.V_alloc | apply Kd.V_drewN | apply Kd.V_drew)); exact Kd.V_mono HL429_0.out (fun _ hk => ⟨⟨hk.1, ⟨hk.2.1, ⟨hk.2.2.2.1, ⟨hk.2.2.2.2.1, hk.2.2.2.2.2⟩⟩⟩⟩, hk.2.2.1⟩)) hg hat); replace ql := Aside0.mk (blk_grown (g := qc) (o := .cells #[.slice qh ((rd_T52 qb qa).f0).length c429_0, .int .i64 ((rd_T52 qb qa).f1), .bool ((rd_T52 qb qa).f2)] 52 (0, 0)) (kf_ ql) hg (Kd.N_away qe.out (fun _ hk => hk.2.2.2.2))); replace HL431_0 := Aside0.mk (Kd.V_afterv (ok := (fun k_ => (w.heap.size ≤ k_) ∧ some k_ ≠ (.slice (some qo) qb.length qv : Value).ownBlock ∧ k_ ≠ qg ∧ k_ ≠ qk ∧ k_ ≠ qc)) (by (with_reducible repeat (first | apply Kd.V_alloc | apply Kd.V_drewN | apply Kd.V_drew)); exact Kd.V_mono HL431_0.out (fun _ hk => ⟨⟨hk.1.1, ⟨hk.2, ⟨hk.1.2.2.1, ⟨hk.1.2.2.2.1, hk.1.2.2.2.2⟩⟩⟩⟩, hk.1.2.1⟩)) hg hat); replace HB := Aside0.mk (hb); have zf := Aside0.mk (ho); clear qe; clear ho hb hg hat; obtain ⟨Qg, Qh, eo77⟩ := Kd.N_slice zf.out; subst eo77; obtain ⟨j0, j2, j3, j4⟩ := b2_ qi))
   go_roundg k2
   case measure => have := HK1.out; have := HK2.out; omega
   case rel => exact ⟨(ji54), (y433), (.slice Qg y433.length Qh), (by first | rfl | (simp; done) | (simp only [← hji54] <;> (first | rfl | simp)) | (simp [*]; done)), H', ⟨by have := HK1.out; have := HK2.out; omega⟩, ⟨ny_ qj qk (fun _ hk => hk.1.2.2.1) (fun _ hk => ⟨hk.1.1, ⟨hk.2, ⟨hk.1.2.1, hk.1.2.2.1⟩⟩⟩)⟩, ⟨ny_ qm qk (fun _ hk => hk.1.2.2.1) (fun _ hk => ⟨hk.1.1, ⟨hk.2, ⟨hk.1.2.1, hk.1.2.2.1⟩⟩⟩)⟩, ⟨ny_ zf qk (fun _ hk => hk.2.2.2.1) (fun _ hk => ⟨hk.1, ⟨hk.2.1, ⟨hk.2.2.1, hk.2.2.2.1⟩⟩⟩)⟩, ⟨kf_ qd⟩, ⟨kp_ qi⟩, ⟨bb_ HB⟩⟩

/-! ### impl_limitedNormal: function 58 -/
def impl_limitedNormal.f (k : Nat) (a0 : Int) (l1 : List (S52)) : Option (Int × (List (S52)) × Bool) := (impl_normalOf.f k a0 l1).bind fun qg => (if (qg.2.length : Int) > 16 then (some (0, ([] : List (S52)), false)) else (some (qg.1, qg.2, true)))
theorem impl_limitedNormal.mono : ∀ a0 a1 k, LeO (impl_limitedNormal.f k a0 a1) (impl_limitedNormal.f (k + 1) a0 a1) := by
 intro a0 a1 k
 unfold impl_limitedNormal.f
 repeat' first
   | (with_reducible exact impl_normalOf.mono _ _ _)
   | (with_reducible exact LeO.refl _)
   | (with_reducible exact LeO.none _)
   | (with_reducible refine LeO.ite ?_ ?_)
   | (with_reducible refine LeO.bind ?_ (fun _ => ?_))
set_option maxHeartbeats 8000000 in
set_option maxRecDepth 100000 in
theorem impl_limitedNormal.calls (k : Nat) (a0 : Int) (A1 : Option Addr) (c1 : Nat) (l1 : List (S52)) (r1 : Int) (r2 : List (S52)) (r3 : Bool) (w : World) (hr1 : Kd.C k52 w A1 l1.length l1) (hc1 : l1.length ≤ c1) (h : impl_limitedNormal.f k a0 l1 = some (r1, r2, r3)) :
  Calls Try.prog 58 #[.int .i64 a0, .slice A1 l1.length c1] w fun e w' => ∃ v1_ : Value, e = .returned (.tuple #[.agg #[.int .i64 r1, v1_], .bool r3]) ∧ Kd.N k52 52 w' w.heap.size (fun k_ => (w.heap.size ≤ k_)) v1_ r2 ∧ Below w.heap.size w w' := by
 have hu28 := Try.underlying28
 have HR1 := Aside0.mk hr1
 have HC1 := Aside0.mk hc1
 clear hr1 hc1
 have HB := Aside0.mk (Below.refl w.heap.size w)
 have H : ((impl_normalOf.f k a0 l1).bind fun qg => (if (qg.2.length : Int) > 16 then (some (0, ([] : List (S52)), false)) else (some (qg.1, qg.2, true)))) = some (r1, r2, r3) := h
 clear h
 replace H := be_ H
 obtain ⟨⟨qi, qf⟩, A30, H⟩ := H
 replace H : (if (qf.length : Int) > 16 then (some (0, ([] : List (S52)), false)) else (some (qi, qf, true))) = some (r1, r2, r3) := H
 have A3 := Aside0.mk A30
 clear A30
 by_cases c4 : (qf.length : Int) > 16
 ·
  rw [if_pos c4] at H
  have qC : decide (16 < (qf.length : Int)) = true := decide_eq_true c4
  have qD : decide (16 < qf.length) = true := decide_eq_true (by omega)
  clear c4
  simp only [Option.some.injEq, Prod.mk.injEq] at H
  obtain ⟨rfl, rfl, rfl⟩ := H
  go_enter Try.func58, Try.ntmps58
  go_wp2_with (first | ((with_reducible refine gate_dst (N := 4) rfl ?_); refine bx_ (cs := #[.int .i64 0, .slice none 0 0]) (t := 28) ?_; intro qb hg w5 hbox hb; have qa := Aside0.mk (hbox); have qm := hz_ HB hg; have qn := hz_ HB hg; replace HB := bS_ HB hb; clear hb hbox hg) | ((with_reducible refine gate_callee (f := 54) rfl ?_); refine gL_ (some 9) Try.func54 #[.int .i64 a0, .slice A1 l1.length c1] ?_; (with_reducible refine (impl_normalOf.calls k a0 _ _ l1 qi qf _ ?side1 ?side2 A3.out).mono ?_); (case side1 => exact cb_ HR1 HB); (case side2 => exact HC1.out); rintro e w6 ⟨qE, rfl, ho0, hb⟩; refine ⟨_, rfl, ?_⟩; have qe := Aside0.mk (Kd.N_lower (Kd.N_mono (ok' := fun k_ => (w.heap.size ≤ k_) ∧ k_ ≠ qb) ho0 (fun k_ hk_ => ⟨(Nat.le_trans (bz_ HB) hk_), (Kd.freshB (g := qb) (o := .cells #[.int .i64 0, .slice none 0 0] 28 (0, 0)) (kf_ qa) k_ hk_)⟩)) (bz_ HB)); replace qa := kB_ qa hb; replace HB := bS_ HB hb; clear hb ho0) | ((with_reducible refine gate_dst (N := 6) rfl ?_); refine bx_ (cs := #[.int .i64 0, .slice none 0 0]) (t := 28) ?_; intro qh hg w7 hbox hb; replace qe := nE_ qe hg hb; have qj := Aside0.mk (hbox); have qo := hz_ HB hg; have qp := hz_ HB hg; replace HB := bS_ HB hb; have qc := nL_ qa hg; have qd := nG_ qa hg; replace qa := kB_ qa hb; clear hb hbox hg; have qL := qd.out; have qM := qc.out; obtain ⟨qF, qG, qH, qI⟩ := b2_ qj; obtain ⟨qN, qO, eo10⟩ := Kd.N_slice qe.out; subst eo10; obtain ⟨qq, qr, qs, qt⟩ := b2_ qa))
  refine bodyPost_ret (results_ct rfl _ _ qb 28 #[.int .i64 0, .slice none 0 0] (0, 0) _ rfl (kp_ qa) Try.underlying28 rfl (by kernel_rfl)) rfl ?_
  exact ⟨_, rt_ ⟨by first | exact Kd.S_nil _ _ _ _ _ | exact Kd.N_nil _ _ _ _ _ | exact Kd.V_nil _ _ _ _ _ | exact Kd.Q_nil _ _ _ _ _ | exact Kd.R_nil _ _ _ _ _, bb_ HB⟩⟩
 rw [if_neg c4] at H
 have qC : decide (16 < (qf.length : Int)) = false := decide_eq_false c4
 have qD : decide (16 < qf.length) = false := decide_eq_false (by omega)
 clear c4
 simp only [Option.some.injEq, Prod.mk.injEq] at H
 obtain ⟨rfl, rfl, rfl⟩ := H
 go_enter Try.func58, Try.ntmps58
 go_wp2_with (first | ((with_reducible refine gate_dst (N := 4) rfl ?_); refine bx_ (cs := #[.int .i64 0, .slice none 0 0]) (t := 28) ?_; intro qb hg qP hbox hb; have qa := Aside0.mk (hbox); have qm := hz_ HB hg; have qn := hz_ HB hg; replace HB := bS_ HB hb; clear hb hbox hg) | ((with_reducible refine gate_callee (f := 54) rfl ?_); refine gL_ (some 9) Try.func54 #[.int .i64 a0, .slice A1 l1.length c1] ?_; (with_reducible refine (impl_normalOf.calls k a0 _ _ l1 qi qf _ ?side1 ?side2 A3.out).mono ?_); (case side1 => exact cb_ HR1 HB); (case side2 => exact HC1.out); rintro e qQ ⟨qE, rfl, ho0, hb⟩; refine ⟨_, rfl, ?_⟩; have qe := Aside0.mk (Kd.N_lower (Kd.N_mono (ok' := fun k_ => (w.heap.size ≤ k_) ∧ k_ ≠ qb) ho0 (fun k_ hk_ => ⟨(Nat.le_trans (bz_ HB) hk_), (Kd.freshB (g := qb) (o := .cells #[.int .i64 0, .slice none 0 0] 28 (0, 0)) (kf_ qa) k_ hk_)⟩)) (bz_ HB)); replace qa := kB_ qa hb; replace HB := bS_ HB hb; clear hb ho0) | ((with_reducible refine gate_dst (N := 6) rfl ?_); refine bx_ (cs := #[.int .i64 0, .slice none 0 0]) (t := 28) ?_; intro qh hg qR hbox hb; replace qe := nE_ qe hg hb; have qj := Aside0.mk (hbox); have qo := hz_ HB hg; have qp := hz_ HB hg; replace HB := bS_ HB hb; have qc := nL_ qa hg; have qd := nG_ qa hg; replace qa := kB_ qa hb; clear hb hbox hg; have qJ := qd.out; have qK := qc.out; obtain ⟨qu, qv, qw, qx⟩ := b2_ qj; obtain ⟨qk, ql, eo17⟩ := Kd.N_slice qe.out; subst eo17; obtain ⟨qy, qz, qA, qB⟩ := b2_ qa))
 refine bodyPost_ret (results_ct rfl _ _ qb 28 #[.int .i64 qi, .slice qk qf.length ql] (0, 0) _ rfl (kp_ qa) Try.underlying28 rfl (by kernel_rfl)) rfl ?_
 exact ⟨_, rt_ ⟨by (with_reducible repeat (first | apply Kd.N_alloc | apply Kd.N_drewN | apply Kd.N_drew)); exact Kd.N_mono (Kd.N_far (p := ⟨qb, 1, none⟩) (Kd.N_far (p := ⟨qb, 0, none⟩) (Kd.N_far (p := ⟨qh, 1, none⟩) (Kd.N_far (p := ⟨qh, 0, none⟩) (Kd.N_mono (Kd.N_mono qe.out (fun k_ hk => (⟨hk, hk.2⟩ : _ ∧ k_ ≠ qh))) (fun k_ hk => (⟨hk, hk.1.1.2⟩ : _ ∧ k_ ≠ qb))) (fun _ hk => hk.1.2) (.int .i64 qi)) (fun _ hk => hk.1.2) (.slice qk qf.length ql)) (fun _ hk => hk.2) (.int .i64 qi)) (fun _ hk => hk.2) (.slice qk qf.length ql)) (fun _ hk => hk.1.1.1.1), bb_ HB⟩⟩

/-! ### impl_makeOf: function 108 -/
mutual
def impl_makeOf.j0 : Nat → List Int → Int → Bool → Int → Option (List Int × Int × Bool × Bool)
 | 0, _, _, _, _ => none
 | k + 1, x0, x1, x2, x8 => if 0 ≤ (x0.length : Int) then (if ((x0.length : Int) : Int).toNat ≤ 35184372088832 then (if x8 = 0 then (none) else (impl_makeOf.l0 k x8 x0 (x0.length : Int) 0 (List.replicate ((x0.length : Int) : Int).toNat 0) (wrap64 (Int.tdiv x1 x8)) x2)) else (none)) else (none)
def impl_makeOf.l0 : Nat → Int → List Int → Int → Int → List Int → Int → Bool → Option (List Int × Int × Bool × Bool)
 | 0, _, _, _, _, _, _, _ => none
 | k + 1, x8, x26, x27, x28, x452000, x452001, x452002 => if x28 < x27 then (if 0 ≤ x28 then (if x28 < (x26.length : Int) then (if x8 = 0 then (none) else (if x28 < (x452000.length : Int) then (impl_makeOf.l0 k x8 x26 x27 (wrap64 (x28 + 1)) (x452000.set (x28 : Int).toNat (wrap64 (Int.tdiv (rd x26 x28) x8))) x452001 x452002) else (none))) else (none)) else (none)) else ((impl_IsAtom.f k x452000 x452001 x452002).bind fun qr => (if qr = true then (some (x452000, x452001, x452002, true)) else (some (([] : List Int), 0, false, false))))
end
def impl_makeOf.f (k : Nat) (l0 : List Int) (a1 : Int) (a2 : Bool) : Option (List Int × Int × Bool × Bool) := (impl_divisorOf.f k l0).bind fun qm => ((impl_commonDivisor.f k qm a1).bind fun ql => (if ql = 0 then (impl_makeOf.j0 k l0 a1 a2 1) else (impl_makeOf.j0 k l0 a1 a2 ql)))
theorem impl_makeOf.mono_l : ∀ k, (∀ y0 y1 y2 y3, LeO (impl_makeOf.j0 k y0 y1 y2 y3) (impl_makeOf.j0 (k + 1) y0 y1 y2 y3)) ∧ (∀ y0 y1 y2 y3 y4 y5 y6, LeO (impl_makeOf.l0 k y0 y1 y2 y3 y4 y5 y6) (impl_makeOf.l0 (k + 1) y0 y1 y2 y3 y4 y5 y6))
 | 0 => ⟨fun _ _ _ _ r h => by simp [impl_makeOf.j0] at h, fun _ _ _ _ _ _ _ r h => by simp [impl_makeOf.l0] at h⟩
 | k + 1 => by
  obtain ⟨ih0, ih1⟩ := impl_makeOf.mono_l k
  refine ⟨?_, ?_⟩ <;> (intros; first | unfold impl_makeOf.j0 | unfold impl_makeOf.l0)
  all_goals
   repeat' first
   | (with_reducible exact ih0 _ _ _ _)
   | (with_reducible exact ih1 _ _ _ _ _ _ _)
   | (with_reducible exact impl_IsAtom.mono _ _ _ _)
   | (with_reducible exact impl_commonDivisor.mono _ _ _)
   | (with_reducible exact impl_divisorOf.mono _ _)
   | (with_reducible exact LeO.refl _)
   | (with_reducible exact LeO.none _)
   | (with_reducible refine LeO.ite ?_ ?_)
   | (with_reducible refine LeO.bind ?_ (fun _ => ?_))
theorem impl_makeOf.mono : ∀ a0 a1 a2 k, LeO (impl_makeOf.f k a0 a1 a2) (impl_makeOf.f (k + 1) a0 a1 a2) := by
 intro a0 a1 a2 k
 obtain ⟨ih0, ih1⟩ := impl_makeOf.mono_l k
 unfold impl_makeOf.f
 repeat' first
   | (with_reducible exact ih0 _ _ _ _)
   | (with_reducible exact ih1 _ _ _ _ _ _ _)
   | (with_reducible exact impl_IsAtom.mono _ _ _ _)
   | (with_reducible exact impl_commonDivisor.mono _ _ _)
   | (with_reducible exact impl_divisorOf.mono _ _)
   | (with_reducible exact LeO.refl _)
   | (with_reducible exact LeO.none _)
   | (with_reducible refine LeO.ite ?_ ?_)
   | (with_reducible refine LeO.bind ?_ (fun _ => ?_))
def impl_makeOf.T4 : Bool × List (List Nat × List Nat) := (true, [([], []), ([0], [0]), ([1, 1], [1]), ([], []), ([], []), ([3, 4], [3, 4]), ([], []), ([2, 5, 6], [2, 5, 6]), ([], []), ([8, 7, 0, 1, 2, 3, 4, 5, 6, 7, 8], [7, 8])])
def impl_makeOf.B4 : List Nat := [0, 1, 3, 0, 0, 24, 0, 127, 0, 511]
theorem impl_makeOf.tab4 : rtab .any (opsOf Try.f108 4) = impl_makeOf.T4 := by kernel_rfl
theorem impl_makeOf.bits4 : waitsOk impl_makeOf.T4.2 impl_makeOf.B4 = true := by kernel_rfl
def impl_makeOf.T8 : Bool × List (List Nat × List Nat) := (true, [([], []), ([0], [0]), ([], []), ([], []), ([], []), ([3, 4], [3, 4]), ([1, 2, 0, 1, 2, 3, 4, 5], [1, 2]), ([6, 5, 0, 1, 2, 3, 4, 5], [5, 6])])
def impl_makeOf.B8 : List Nat := [0, 1, 0, 0, 0, 24, 63, 127]
theorem impl_makeOf.tab8 : rtab .any (opsOf Try.f108 8) = impl_makeOf.T8 := by kernel_rfl
theorem impl_makeOf.bits8 : waitsOk impl_makeOf.T8.2 impl_makeOf.B8 = true := by kernel_rfl
set_option maxHeartbeats 8000000 in
set_option maxRecDepth 100000 in
theorem impl_makeOf.calls (k : Nat) (A0 : Option Addr) (c0 : Nat) (l0 : List Int) (a1 : Int) (a2 : Bool) (r1 : List Int) (r2 : Int) (r3 : Bool) (r4 : Bool) (w : World) (hr0 : Kd.C (Kd.int .i64) w A0 l0.length l0) (hc0 : l0.length ≤ c0) (h : impl_makeOf.f k l0 a1 a2 = some (r1, r2, r3, r4)) :
  Calls Try.prog 108 #[.slice A0 l0.length c0, .int .i64 a1, .bool a2] w fun e w' => ∃ v0_ : Value, e = .returned (.tuple #[.agg #[v0_, .int .i64 r2, .bool r3], .bool r4]) ∧ Kd.R (Kd.int .i64) 3 w' w.heap.size (fun _ => True) v0_ r1 ∧ Below w.heap.size w w' := by
 have hu52 := Try.underlying52
 have HR0 := Aside0.mk hr0
 have HC0 := Aside0.mk hc0
 clear hr0 hc0
 have HB := Aside0.mk (Below.refl w.heap.size w)
 have H : ((impl_divisorOf.f k l0).bind fun qm => ((impl_commonDivisor.f k qm a1).bind fun ql => (if ql = 0 then (impl_makeOf.j0 k l0 a1 a2 1) else (impl_makeOf.j0 k l0 a1 a2 ql)))) = some (r1, r2, r3, r4) := h
 clear h
 replace H := be_ H
 obtain ⟨qm, A40, H⟩ := H
 have A4 := Aside0.mk A40
 clear A40
 replace H := be_ H
 obtain ⟨ql, A50, H⟩ := H
 have A5 := Aside0.mk A50
 clear A50
 have HC6 := Aside0.mk H
 clear H
 go_enter Try.func108, Try.ntmps108
 go_upto_if 17 with (first | ((with_reducible refine gate_dst (N := 6) rfl ?_); refine bx_ (cs := #[.slice none 0 0, .int .i64 0, .bool false]) (t := 52) ?_; intro qj hg w7 hbox hb; have qb := Aside0.mk (hbox); have zf := hz_ HB hg; have zg := hz_ HB hg; replace HB := bS_ HB hb; clear hb hbox hg) | ((with_reducible refine gate_callee (f := 116) rfl ?_); refine gL_ (some 13) Try.func116 #[.slice A0 l0.length c0] ?_; (with_reducible refine (impl_divisorOf.calls k _ _ l0 qm _ ?side1 ?side2 A4.out).mono ?_); (case side1 => exact cb_ HR0 HB); (case side2 => exact HC0.out); rintro e w' ⟨rfl, ⟨nd, rfl⟩⟩; refine ⟨_, rfl, ?_⟩) | ((with_reducible refine gate_callee (f := 115) rfl ?_); refine gL_ (some 15) Try.func115 #[.int .i64 qm, .int .i64 a1] ?_; (with_reducible refine (impl_commonDivisor.calls k qm a1 ql _ A5.out).mono ?_); rintro e w' ⟨rfl, ⟨nd, rfl⟩⟩; refine ⟨_, rfl, ?_⟩))
 (try simp only [Act.put, sa_, s0_, s1_])
 go_cut [8] (fun v8 wc => ∃ (kq : Nat) (qh : Int), v8 = .int .i64 qh ∧ Aside0 (impl_makeOf.j0 kq l0 a1 a2 qh = some (r1, r2, r3, r4)) ∧ Aside0 (kq ≤ k) ∧ Aside0 (wc.heap[qj]? = some (.cells #[(.slice none 0 0), .int .i64 0, .bool false] 52 (0, 0))) ∧ Aside0 (Below w.heap.size w wc))
 case first =>
  have H := HC6.out
  clear HC6
  by_cases c8 : ql = 0
  rotate_left
  ·
   rw [if_neg c8] at H
   have qq : (ql == 0) = false := beq_eq_false_iff_ne.mpr c8
   have q5 : (ql != 0) = true := bne_iff_ne.mpr c8
   (first | rw [qq] | (simp only [i64_w, i32_w]; rw [qq]) | skip)
   have H' := Aside0.mk H
   clear H
   go_wp2
   go_meet
   case rel => exact ⟨_, (ql), (by first | rfl | (simp; done) | (simp [*]; done)), H', ⟨by first | omega | exact Nat.le_refl _⟩, ⟨kf_ qb⟩, ⟨bb_ HB⟩⟩
  rw [if_pos c8] at H
  have qq : (ql == 0) = true := beq_iff_eq.mpr c8
  have q5 : (ql != 0) = false := bne_eq_false_iff_eq.mpr c8
  clear c8
  (first | rw [qq] | (simp only [i64_w, i32_w]; rw [qq]) | skip)
  have H' := Aside0.mk H
  clear H
  go_wp2
  go_meet
  case rel => exact ⟨_, (1), (by first | rfl | (simp; done) | (simp [*]; done)), H', ⟨by first | omega | exact Nat.le_refl _⟩, ⟨kf_ qb⟩, ⟨bb_ HB⟩⟩
 clear HC6
 obtain ⟨kq, qh, rfl, HA, HJ5, qb, HB⟩ := hcut
 cases kq with
 | zero => exact absurd HA.out (by simp [impl_makeOf.j0])
 | succ kj5 =>
  have H := HA.out
  clear HA
  simp only [impl_makeOf.j0] at H
  replace H := ip_ H
  obtain ⟨c9, H⟩ := H
  have zv := eq_true c9
  have zw : decide (0 ≤ (l0.length : Int)) = true := decide_eq_true c9
  clear c9
  replace H := ip_ H
  obtain ⟨c10, H⟩ := H
  have zh := eq_true c10
  have zi : decide (((l0.length : Int) : Int).toNat ≤ 35184372088832) = true := decide_eq_true c10
  clear c10
  obtain ⟨y448, hy448⟩ : ∃ y_ : List Int, y_ = (List.replicate ((l0.length : Int) : Int).toNat 0) := ⟨_, rfl⟩
  replace H : (if qh = 0 then (none) else (impl_makeOf.l0 kj5 qh l0 (l0.length : Int) 0 y448 (wrap64 (Int.tdiv a1 qh)) a2)) = some (r1, r2, r3, r4) := by first | (rw [hy448]; with_reducible exact H) | (have H2_ := (Option.bind_some _ _).symm.trans H; rw [hy448]; with_reducible exact H2_) | (have H2_ := (Option.bind_some _ _).symm.trans H; with_reducible exact H2_) | with_reducible exact H | (rw [hy448]; exact H) | exact H
  have Ny448 := Aside0.mk hy448
  clear hy448
  by_cases c11 : qh = 0
  ·
   rw [if_pos c11] at H
   exact absurd H (by simp)
  rw [if_neg c11] at H
  have zj : (qh == 0) = false := beq_eq_false_iff_ne.mpr c11
  have zk : (qh != 0) = true := bne_iff_ne.mpr c11
  have H' := Aside0.mk H
  clear H
  try go_wp2
  replace qb := Aside0.mk (blk_drew qb.out); replace HB := Aside0.mk (below_drew1 HB.out)
  refine start_ (n := 10) (S := fun w' => True) (ds := []) (fl_ 10 0) (by kernel_rfl) rfl rfl trivial (fun hHeld => ?_); refine with_tabW impl_makeOf.tab4 impl_makeOf.bits4 (fun HT_ HW_ => ?_)
  generalize wc.drew = zz at qb HB hHeld ⊢
  refine pX_ 0 (some 18) (fl_ 10 1) HT_ ?_
  refine pX_ 1 (some 19) (fl_ 10 3) HT_ ?_
  refine pX_ 3 (some 21) (fl_ 10 11) HT_ ?_
  refine pX_ 4 (some 22) (fl_ 10 27) HT_ ?_
  refine pX_ 5 (some 23) (fl_ 10 59) HT_ ?_
  refine pX_ 6 (some 24) (fl_ 10 123) HT_ ?_
  refine join_ (σ := Value × Nat) 1 (fl_ 10 511) (fun s_ => [(20, s_.1), (9, .pointer (some ⟨s_.2, 0, none⟩)), (25, .agg #[s_.1, .int .i64 (wrap64 (Int.tdiv a1 qh)), .bool a2])]) (fun s_ w' => (Kd.R (Kd.int .i64) 3 w' w.heap.size (fun _ => True) s_.1 y448) ∧ (w'.heap[qj]? = some (.cells #[.slice none 0 0, .int .i64 0, .bool false] 52 (0, 0))) ∧ (w'.heap[s_.2]? = some (.cells #[.slice none 0 0, .int .i64 0, .bool false] 52 (0, 0))) ∧ (w.heap.size ≤ s_.2) ∧ (w.heap.size ≤ s_.2) ∧ (qj ≠ s_.2) ∧ (s_.2 ≠ qj) ∧ (Below w.heap.size w w')) ?_ ?_
  rotate_left
  ·
   intro hCont
   refine two_ (i := 2) (j := 8) (Ni := some 20) (Nj := some 9) (fl_ 10 127) (fl_ 10 379) rfl rfl rfl rfl (two_of HT_.out (by kernel_rfl)) (by decide) (by decide) (fun K hK => ?_) (fun K hK => ?_)
   ·
    skip
    refine Kd.R_make_step (Kd.int .i64) _ 3 (by rfl) (N := 20) rfl 47 _ _ rfl (l0.length : Int) rfl rfl Try.underlying47 (.int .i64 0) 8 info3 rfl (by decide) (by omega) 0 (ok := fun _ => True) (okp := fun _ => True) rfl (fun _ hk => hk) trivial (od_) (Nat.le_trans (Nat.mul_le_mul_right _ (od_ : (l0.length : Int).toNat ≤ 35184372088832)) (by omega)) (Below.refl _ _) (Nat.le_refl _) ?_
    intro qs zx ho14 hb hg_ hnew_
    clear hg_ hnew_
    (first | rw [← Ny448.out] at ho14 | (simp only [Int.reduceToNat] at ho14; rw [← Ny448.out] at ho14))
    have qk := Aside0.mk (Kd.R_lower ho14 (bz_ HB)); replace qb := kB_ qb hb; replace HB := bS_ HB hb; clear hb ho14
    obtain ⟨q6, q7, eo15⟩ := Kd.R_slice qk.out
    (first | subst eo15 | (injection eo15 with f1_ f2_ f3_; have f4_ := f1_.symm; have f5_ := f3_.symm; clear f1_ f2_ f3_; subst f4_; subst f5_))
    refine hK.out _ _ trivial (fun hHeld => ?_)
    clear hK K
    refine norm_ (a' := ?_) ?_ ?_
    rotate_left
    ·
     show Act.put _ (some 20) _ = _
     simp only [Act.put, sa_, s0_, s1_, i64_w, i32_w]
     rfl
    refine pX_ 7 (some 25) (fl_ 10 255) HT_ ?_
    refine one_ (i := 8) (N := some 9) (fl_ 10 511) rfl rfl (one_of HT_.out (by kernel_rfl)) (by decide) (fun K hK => ?_)
    refine box_step ?hg (N := 9) ?hd (cs := #[.slice none 0 0, .int .i64 0, .bool false]) (t := 52) ?hr ?_; (case hd => rfl); (case hg => rfl); (case hr => first | (go_simp; done) | (go_simp; rfl))
    intro qi hg zA hbox hb
    replace qk := rB_ qk hb; have qd := Aside0.mk (hbox); have qn := hz_ HB hg; have qo := hz_ HB hg; replace HB := bS_ HB hb; have qe := nL_ qb hg; have qf := nG_ qb hg; replace qb := kB_ qb hb; clear hb hbox hg
    refine hK.out _ _ trivial (fun hHeld => ?_)
    clear hK K
    refine norm_ (a' := ?_) ?_ ?_
    rotate_left
    ·
     show Act.put _ (some 9) _ = _
     simp only [Act.put, sa_, s0_, s1_, i64_w, i32_w]
     rfl
    exact norm_ (by simp only [putAll, Act.put, List.setIfInBounds_toArray, List.set_cons_zero, List.set_cons_succ]) (hCont (.slice q6 y448.length q7, qi) _ ⟨(rm_ qk), (kf_ qb), (kf_ qd), qn.out, qo.out, qe.out, qf.out, (bb_ HB)⟩)
   skip
   refine box_step ?hg (N := 9) ?hd (cs := #[.slice none 0 0, .int .i64 0, .bool false]) (t := 52) ?hr ?_; (case hd => rfl); (case hg => rfl); (case hr => first | (go_simp; done) | (go_simp; rfl))
   intro qi hg zx hbox hb
   have qd := Aside0.mk (hbox); have qn := hz_ HB hg; have qo := hz_ HB hg; replace HB := bS_ HB hb; have qe := nL_ qb hg; have qf := nG_ qb hg; replace qb := kB_ qb hb; clear hb hbox hg
   refine hK.out _ _ trivial (fun hHeld => ?_)
   clear hK K
   refine norm_ (a' := ?_) ?_ ?_
   rotate_left
   ·
    show Act.put _ (some 9) _ = _
    simp only [Act.put, sa_, s0_, s1_, i64_w, i32_w]
    rfl
   refine one_ (i := 2) (N := some 20) (fl_ 10 383) rfl rfl (one_of HT_.out (by kernel_rfl)) (by decide) (fun K hK => ?_)
   refine Kd.R_make_step (Kd.int .i64) _ 3 (by rfl) (N := 20) rfl 47 _ _ rfl (l0.length : Int) rfl rfl Try.underlying47 (.int .i64 0) 8 info3 rfl (by decide) (by omega) 0 (ok := fun _ => True) (okp := fun _ => True) rfl (fun _ hk => hk) trivial (od_) (Nat.le_trans (Nat.mul_le_mul_right _ (od_ : (l0.length : Int).toNat ≤ 35184372088832)) (by omega)) (Below.refl _ _) (Nat.le_refl _) ?_
   intro qs zB ho15 hb hg_ hnew_
   clear hg_ hnew_
   (first | rw [← Ny448.out] at ho15 | (simp only [Int.reduceToNat] at ho15; rw [← Ny448.out] at ho15))
   have qk := Aside0.mk (Kd.R_lower ho15 (bz_ HB)); replace qb := kB_ qb hb; replace qd := kB_ qd hb; replace HB := bS_ HB hb; clear hb ho15
   obtain ⟨q8, q9, eo16⟩ := Kd.R_slice qk.out
   (first | subst eo16 | (injection eo16 with f1_ f2_ f3_; have f4_ := f1_.symm; have f5_ := f3_.symm; clear f1_ f2_ f3_; subst f4_; subst f5_))
   refine hK.out _ _ trivial (fun hHeld => ?_)
   clear hK K
   refine norm_ (a' := ?_) ?_ ?_
   rotate_left
   ·
    show Act.put _ (some 20) _ = _
    simp only [Act.put, sa_, s0_, s1_, i64_w, i32_w]
    rfl
   refine pX_ 7 (some 25) (fl_ 10 511) HT_ ?_
   exact norm_ (by simp only [putAll, Act.put, List.setIfInBounds_toArray, List.set_cons_zero, List.set_cons_succ]) (hCont (.slice q8 y448.length q9, qi) _ ⟨(rm_ qk), (kf_ qb), (kf_ qd), qn.out, qo.out, qe.out, qf.out, (bb_ HB)⟩)
  rintro ⟨qs, qi⟩ qt ⟨h0_, h1_, h2_, h3_, h4_, h5_, h6_, h7_⟩
  have n0_ : Aside0 (Kd.R (Kd.int .i64) 3 qt w.heap.size (fun _ => True) qs y448) := ⟨h0_⟩
  have n1_ : Aside0 (qt.heap[qj]? = some (.cells #[.slice none 0 0, .int .i64 0, .bool false] 52 (0, 0))) := ⟨h1_⟩
  have n2_ : Aside0 (qt.heap[qi]? = some (.cells #[.slice none 0 0, .int .i64 0, .bool false] 52 (0, 0))) := ⟨h2_⟩
  have n3_ : Aside0 (w.heap.size ≤ qi) := ⟨h3_⟩
  have n4_ : Aside0 (w.heap.size ≤ qi) := ⟨h4_⟩
  have n5_ : Aside0 (qj ≠ qi) := ⟨h5_⟩
  have n6_ : Aside0 (qi ≠ qj) := ⟨h6_⟩
  have n7_ : Aside0 (Below w.heap.size w qt) := ⟨h7_⟩
  clear qb
  clear HB
  clear h0_ h1_ h2_ h3_ h4_ h5_ h6_ h7_
  have qk := n0_
  have qb := n1_
  have qd := n2_
  have qn := n3_
  have qo := n4_
  have qe := n5_
  have qf := n6_
  have HB := n7_
  clear n0_ n1_ n2_ n3_ n4_ n5_ n6_ n7_
  have hHeld := trivial
  obtain ⟨za, zb, eo18⟩ := Kd.R_slice qk.out
  (first | subst eo18 | (injection eo18 with f1_ f2_ f3_; have f4_ := f1_.symm; have f5_ := f3_.symm; clear f1_ f2_ f3_; subst f4_; subst f5_))
  refine norm_ (a' := ?_) ?_ ?_
  rotate_left
  ·
   simp only [putAll, Act.put, List.setIfInBounds_toArray, List.set_cons_zero, List.set_cons_succ]
   rfl
  refine one_ (i := 9) (N := none) (fl_ 10 1023) rfl rfl (one_of HT_.out (by kernel_rfl)) (by decide) (fun K hK => ?_)
  have hs19 : qt.cell? ⟨qi, 0, none⟩ = some (.slice none 0 0) := bc_ qd 0
  have hfs19 := blk_frozen qd.out 0
  have hns19_0 := qe.out
  have hms19_0 := qf.out
  have hs20 : qt.cell? ⟨qi, 1, none⟩ = some (.int .i64 0) := bc_ qd 1
  have hfs20 := blk_frozen qd.out 1
  have hns20_0 := qe.out
  have hms20_0 := qf.out
  have hs21 : qt.cell? ⟨qi, 2, none⟩ = some (.bool false) := bc_ qd 2
  have hfs21 := blk_frozen qd.out 2
  have hns21_0 := qe.out
  have hms21_0 := qf.out
  refine skip_ (w1 := ?_) (by rfl) rfl ?_ ?_
  rotate_left
  ·
   go_simp
   rfl
  refine hK.out _ _ trivial (fun hHeld => ?_)
  clear hK K
  refine done_ (done_of HT_.out (by kernel_rfl)) ?_
  try go_wp2
  go_loopg [28] kj5 (fun kq v28 w' => ∃ (qg : Int) (qc : List Int) (u452000 : Value), v28 = .int .i64 qg ∧ Aside0 (impl_makeOf.l0 kq qh l0 (l0.length : Int) qg qc (wrap64 (Int.tdiv a1 qh)) a2 = some (r1, r2, r3, r4)) ∧ Aside0 (kq ≤ kj5) ∧ Aside0 (Kd.R (Kd.int .i64) 3 w' w.heap.size (fun _ => True) u452000 qc) ∧ Aside0 (w'.heap[qj]? = some (.cells #[(.slice none 0 0), .int .i64 0, .bool false] 52 (0, 0))) ∧ Aside0 (w'.heap[qi]? = some (.cells #[u452000, .int .i64 (wrap64 (Int.tdiv a1 qh)), .bool a2] 52 (0, 0))) ∧ Aside0 (Below w.heap.size w w'))
  case atStart => exact ⟨(0), (y448), (.slice za y448.length zb), (by first | rfl | (simp; done) | (simp [*]; done)), H', ⟨Nat.le_refl _⟩, ⟨Kd.R_mono (rg_ qk qd) (fun _ hk => trivial)⟩, ⟨kf_ qb⟩, ⟨kp_ qd⟩, ⟨bb_ HB⟩⟩
  clear H'
  obtain ⟨qg, qc, u452000, rfl, HA, HK2, qa, qb, qd, HB⟩ := hrel
  cases gk with
  | zero => exact absurd HA.out (by simp [impl_makeOf.l0])
  | succ k2 =>
   have H := HA.out
   clear HA
   simp only [impl_makeOf.l0] at H
   by_cases c22 : qg < (l0.length : Int)
   rotate_left
   ·
    rw [if_neg c22] at H
    have qw : decide (qg < (l0.length : Int)) = false := decide_eq_false c22
    clear c22
    replace H := be_ H
    obtain ⟨qr, A300, H⟩ := H
    have A30 := Aside0.mk A300
    clear A300
    by_cases c31 : qr = true
    rotate_left
    ·
     replace c31 := Bool.eq_false_iff.mpr c31
     subst c31
     have H1 : (some (([] : List Int), 0, false, false)) = some (r1, r2, r3, r4) := by rw [if_neg (show ¬ (false = true) by decide)] at H; exact H
     clear H
     have H := H1
     clear H1
     simp only [Option.some.injEq, Prod.mk.injEq] at H
     obtain ⟨rfl, rfl, rfl, rfl⟩ := H
     have zl := qf.out
     have zm := qe.out
     obtain ⟨qB, qC, qD, qE, qF, qG⟩ := b3_ qd
     obtain ⟨zc, zd, eo40⟩ := Kd.R_slice qa.out
     subst eo40
     go_wp2_with (first | ((with_reducible refine gate_callee (f := 93) rfl ?_); refine gL_ (some 42) Try.func93 #[.agg #[.slice zc qc.length zd, .int .i64 (wrap64 (Int.tdiv a1 qh)), .bool a2]] ?_; (with_reducible refine (impl_IsAtom.calls k2 _ _ qc (wrap64 (Int.tdiv a1 qh)) a2 false _ ?side1 ?side2 A30.out).mono ?_); (case side1 => exact cr_ qa); (case side2 => exact (Kd.R_reads' qa.out).2.1); rintro e zC ⟨rfl, hb⟩; refine ⟨_, rfl, ?_⟩; replace qa := rB_ qa hb; replace qb := kB_ qb hb; replace qd := kB_ qd hb; replace HB := bS_ HB hb; clear hb; obtain ⟨qH, qI, qJ, qK, qL, qM⟩ := b3_ qb))
     refine bodyPost_ret (results_ct rfl _ _ qj 52 #[.slice none 0 0, .int .i64 0, .bool false] (0, 0) _ rfl (kp_ qb) Try.underlying52 rfl (by kernel_rfl)) rfl ?_
     exact ⟨_, rt_ ⟨by first | exact Kd.R_nil _ _ _ _ _ | exact Kd.N_nil _ _ _ _ _ | exact Kd.V_nil _ _ _ _ _ | exact Kd.Q_nil _ _ _ _ _ | exact Kd.S_nil _ _ _ _ _, bb_ HB⟩⟩
    subst c31
    have H1 : (some (qc, (wrap64 (Int.tdiv a1 qh)), a2, true)) = some (r1, r2, r3, r4) := by rw [if_pos rfl] at H; exact H
    clear H
    have H := H1
    clear H1
    simp only [Option.some.injEq, Prod.mk.injEq] at H
    obtain ⟨rfl, rfl, rfl, rfl⟩ := H
    have zn := qf.out
    have zo := qe.out
    obtain ⟨qN, qO, qP, qQ, qR, qS⟩ := b3_ qd
    obtain ⟨qx, qy, eo34⟩ := Kd.R_slice qa.out
    subst eo34
    go_wp2_with (first | ((with_reducible refine gate_callee (f := 93) rfl ?_); refine gL_ (some 42) Try.func93 #[.agg #[.slice qx qc.length qy, .int .i64 (wrap64 (Int.tdiv a1 qh)), .bool a2]] ?_; (with_reducible refine (impl_IsAtom.calls k2 _ _ qc (wrap64 (Int.tdiv a1 qh)) a2 true _ ?side1 ?side2 A30.out).mono ?_); (case side1 => exact cr_ qa); (case side2 => exact (Kd.R_reads' qa.out).2.1); rintro e zD ⟨rfl, hb⟩; refine ⟨_, rfl, ?_⟩; replace qa := rB_ qa hb; replace qb := kB_ qb hb; replace qd := kB_ qd hb; replace HB := bS_ HB hb; clear hb; obtain ⟨qT, qU, qV, qW, qX, qY⟩ := b3_ qd; obtain ⟨qZ, q0, q1, q2, q3, q4⟩ := b3_ qb))
    refine bodyPost_ret (results_ct rfl _ _ qj 52 #[.slice qx qc.length qy, .int .i64 (wrap64 (Int.tdiv a1 qh)), .bool a2] (0, 0) _ rfl (kp_ qb) Try.underlying52 rfl (by kernel_rfl)) rfl ?_
    exact ⟨_, rt_ ⟨Kd.R_mono (rg_ qa qb) (fun _ hk => trivial), bb_ HB⟩⟩
   rw [if_pos c22] at H
   have qw : decide (qg < (l0.length : Int)) = true := decide_eq_true c22
   clear c22
   replace H := ip_ H
   obtain ⟨c23, H⟩ := H
   have zp : decide (0 ≤ qg) = true := decide_eq_true c23
   clear c23
   replace H := ip_ H
   obtain ⟨c24, H⟩ := H
   have zq : decide (qg < (l0.length : Int)) = true := decide_eq_true c24
   clear c24
   by_cases c25 : qh = 0
   ·
    rw [if_pos c25] at H
    exact absurd H (by simp)
   rw [if_neg c25] at H
   have zr : (qh == 0) = false := beq_eq_false_iff_ne.mpr c25
   have zs : (qh != 0) = true := bne_iff_ne.mpr c25
   replace H := ip_ H
   obtain ⟨c26, H⟩ := H
   have zt : decide (qg < (qc.length : Int)) = true := decide_eq_true c26
   clear c26
   obtain ⟨y453, hy453⟩ : ∃ y_ : List Int, y_ = (qc.set (qg : Int).toNat (wrap64 (Int.tdiv (rd l0 qg) qh))) := ⟨_, rfl⟩
   replace H : (impl_makeOf.l0 k2 qh l0 (l0.length : Int) (wrap64 (qg + 1)) y453 (wrap64 (Int.tdiv a1 qh)) a2) = some (r1, r2, r3, r4) := by first | (rw [hy453]; with_reducible exact H) | (have H2_ := (Option.bind_some _ _).symm.trans H; rw [hy453]; with_reducible exact H2_) | (have H2_ := (Option.bind_some _ _).symm.trans H; with_reducible exact H2_) | with_reducible exact H | (rw [hy453]; exact H) | exact H
   have Ny453 := Aside0.mk hy453
   clear hy453
   have H' := Aside0.mk H
   clear H
   have p452 : 0 ≤ (qg : Int) := od_
   have q452 : qg < (l0.length : Int) := od_
   obtain ⟨zu, e452, qp⟩ := Kd.at_int HR0.out qg p452 q452
   cases e452
   replace qp := ct_ HB qp
   replace p452 := eq_true p452
   replace q452 := eq_true q452
   try go_wp2
   replace qa := Aside0.mk (Kd.R_drew qa.out); replace qb := Aside0.mk (blk_drew qb.out); replace qd := Aside0.mk (blk_drew qd.out); replace HB := Aside0.mk (below_drew1 HB.out)
   have p27 : 0 ≤ (qg : Int) := od_
   have q27 : (qg : Int) < ((qc.length : Int) : Int) := od_
   obtain ⟨go27, qz, eo27, qA, gl27, cl27, HG27⟩ := Kd.R_form qa.out (by omega)
   (first | cases eo27 | (injection eo27 with ea_ en_ ec_; (first | subst ea_ | (injection ea_ with ea_; subst ea_)); subst ec_; clear en_))
   have zy := Aside0.mk qA
   have ze := Aside0.mk HG27
   clear qA gl27 HG27
   obtain ⟨qu, hf27_0⟩ := Kd.R_celln 0 qa.out (qg : Int) p27 q27
   replace p27 := eq_true p27
   replace q27 := eq_true q27
   have qv := Kd.R_putn qa.out (qg : Int) (wrap64 (Int.tdiv (rd l0 qg) qh))
   rw [← Ny453.out] at qv
   have HQ29 := Aside0.mk qv
   clear qv
   refine start_ (n := 8) (S := fun w' => w'.cell? ⟨qi, 0, none⟩ = some (.slice (some ⟨go27, 0, none⟩) qc.length qz) ∧ w'.cell? ⟨qi, 1, none⟩ = some (.int .i64 (wrap64 (Int.tdiv a1 qh))) ∧ w'.cell? ⟨qi, 2, none⟩ = some (.bool a2)) (ds := [7]) (fl_ 8 0) (by kernel_rfl) rfl rfl ⟨bc_ qd 0, bc_ qd 1, bc_ qd 2⟩ (fun hHeld => ?_); refine with_tabW impl_makeOf.tab8 impl_makeOf.bits8 (fun HT_ HW_ => ?_)
   generalize wr.drew = zE at qa qb qd HB ze HQ29 hf27_0 qu hHeld ⊢
   refine pX_ 0 (some 33) (fl_ 8 1) HT_ ?_
   refine pX_ 2 (some 35) (fl_ 8 5) HT_ ?_
   refine pX_ 3 (some 36) (fl_ 8 13) HT_ ?_
   refine pX_ 4 (some 37) (fl_ 8 29) HT_ ?_
   refine pX_ 5 (some 38) (fl_ 8 61) HT_ ?_
   refine tX_ 1 (some 34) (fl_ 8 63) rfl rfl HT_ HW_ hHeld (by rintro w' ⟨s0, s1, s2⟩; go_simp; with_reducible rfl) ?_
   refine pX_ 6 (some 39) (fl_ 8 127) HT_ ?_
   refine last_ (i := 7) (N := none) (fl_ 8 255) rfl rfl (one_of HT_.out (by kernel_rfl)) (by decide) (fun K hK => ?_)
   refine skip_ (w1 := ?_) (by rfl) rfl ?_ ?_
   rotate_left
   ·
    go_simp
    rfl
   refine hK.out _ _ ?_
   clear hK K
   refine done_ (done_of HT_.out (by kernel_rfl)) ?_
   try go_wp2
   go_roundg k2
   case measure => have := HJ5.out; have := HK2.out; omega
   case rel => exact ⟨(wrap64 (qg + 1)), (y453), (.slice (some ⟨go27, 0, none⟩) qc.length qz), (by first | rfl | (simp; done) | (simp [*]; done)), H', ⟨by have := HJ5.out; have := HK2.out; omega⟩, ⟨by (with_reducible repeat (first | apply Kd.R_alloc | apply Kd.R_drewN | apply Kd.R_drew)); exact HQ29.out⟩, ⟨by (with_reducible repeat (first | refine blk_drewN ?_ _ | refine blk_drew ?_ | refine blk_alloc ?_ _)); refine blk_far ?_ (by have h_ := Kd.R_ne qa.out qb.out (by decide); intro e_; exact h_ (by rw [e_]; rfl)) _; (with_reducible repeat (first | refine blk_drewN ?_ _ | refine blk_drew ?_ | refine blk_alloc ?_ _)); exact qb.out⟩, ⟨by (with_reducible repeat (first | refine blk_drewN ?_ _ | refine blk_drew ?_ | refine blk_alloc ?_ _)); refine blk_far ?_ (by have h_ := Kd.R_ne qa.out qd.out (by decide); intro e_; exact h_ (by rw [e_]; rfl)) _; (with_reducible repeat (first | refine blk_drewN ?_ _ | refine blk_drew ?_ | refine blk_alloc ?_ _)); exact qd.out⟩, ⟨bb_ HB⟩⟩

/-! ### impl_MixAtoms: function 67 -/
mutual
def impl_MixAtoms.j0 : Nat → Int → Int → Bool → List Int → Int → Bool → List Int → Int → Bool → Option (List Int × Int × Bool × Bool)
 | 0, _, _, _, _, _, _, _, _, _ => none
 | k + 1, x1, x3, x28, x456000, x456001, x456002, x457000, x457001, x457002 => if x28 = true then (some (([] : List Int), 0, false, false)) else (if x1 < 0 then (impl_MixAtoms.j1 k x1 x3 true x456000 x456001 x456002 x457000 x457001 x457002) else (if x1 > 400000000 then (impl_MixAtoms.j1 k x1 x3 true x456000 x456001 x456002 x457000 x457001 x457002) else (if x3 < 0 then (impl_MixAtoms.j1 k x1 x3 true x456000 x456001 x456002 x457000 x457001 x457002) else (impl_MixAtoms.j1 k x1 x3 (decide (x3 > 400000000)) x456000 x456001 x456002 x457000 x457001 x457002))))
def impl_MixAtoms.j1 : Nat → Int → Int → Bool → List Int → Int → Bool → List Int → Int → Bool → Option (List Int × Int × Bool × Bool)
 | 0, _, _, _, _, _, _, _, _, _ => none
 | k + 1, x1, x3, x43, x456000, x456001, x456002, x457000, x457001, x457002 => if x43 = true then (some (([] : List Int), 0, false, false)) else (if 0 ≤ (x456000.length : Int) then (if ((x456000.length : Int) : Int).toNat ≤ 35184372088832 then ((some (List.replicate ((x456000.length : Int) : Int).toNat 0 : List Int)).bind fun y460 => (impl_MixAtoms.l0 k x1 x3 y460 (y460.length : Int) 0 x456000 x456001 x456002 x457000 x457001 x457002)) else (none)) else (none))
def impl_MixAtoms.l0 : Nat → Int → Int → List Int → Int → Int → List Int → Int → Bool → List Int → Int → Bool → Option (List Int × Int × Bool × Bool)
 | 0, _, _, _, _, _, _, _, _, _, _, _ => none
 | k + 1, x1, x3, x10, x50, x51, x456000, x456001, x456002, x457000, x457001, x457002 => if x51 < x50 then (if 0 ≤ x51 then (if x51 < (x456000.length : Int) then (if x51 < (x457000.length : Int) then (if x51 < (x10.length : Int) then (impl_MixAtoms.l0 k x1 x3 (x10.set (x51 : Int).toNat (wrap64 ((wrap64 (x1 * (rd x456000 x51))) + (wrap64 (x3 * (rd x457000 x51)))))) x50 (wrap64 (x51 + 1)) x456000 x456001 x456002 x457000 x457001 x457002) else (none)) else (none)) else (none)) else (none)) else (if x456002 = true then (if x1 = 0 then (if x457002 = true then ((impl_makeOf.f k x10 (wrap64 ((wrap64 (x1 * x456001)) + (wrap64 (x3 * x457001)))) (x3 != 0)).bind fun qm => (some (qm.1, qm.2.1, qm.2.2.1, qm.2.2.2))) else ((impl_makeOf.f k x10 (wrap64 ((wrap64 (x1 * x456001)) + (wrap64 (x3 * x457001)))) false).bind fun qn => (some (qn.1, qn.2.1, qn.2.2.1, qn.2.2.2)))) else ((impl_makeOf.f k x10 (wrap64 ((wrap64 (x1 * x456001)) + (wrap64 (x3 * x457001)))) true).bind fun qr => (some (qr.1, qr.2.1, qr.2.2.1, qr.2.2.2)))) else (if x457002 = true then ((impl_makeOf.f k x10 (wrap64 ((wrap64 (x1 * x456001)) + (wrap64 (x3 * x457001)))) (x3 != 0)).bind fun qo => (some (qo.1, qo.2.1, qo.2.2.1, qo.2.2.2))) else ((impl_makeOf.f k x10 (wrap64 ((wrap64 (x1 * x456001)) + (wrap64 (x3 * x457001)))) false).bind fun qp => (some (qp.1, qp.2.1, qp.2.2.1, qp.2.2.2)))))
end
def impl_MixAtoms.f (k : Nat) (l0_0 : List Int) (a0_1 : Int) (a0_2 : Bool) (a1 : Int) (l2_0 : List Int) (a2_1 : Int) (a2_2 : Bool) (a3 : Int) : Option (List Int × Int × Bool × Bool) := (impl_IsAtom.f k l0_0 a0_1 a0_2).bind fun qD => (if qD = true then ((impl_IsAtom.f k l2_0 a2_1 a2_2).bind fun qy => (if qy = true then (impl_MixAtoms.j0 k a1 a3 ((l0_0.length : Int) != (l2_0.length : Int)) l0_0 a0_1 a0_2 l2_0 a2_1 a2_2) else (impl_MixAtoms.j0 k a1 a3 true l0_0 a0_1 a0_2 l2_0 a2_1 a2_2))) else (impl_MixAtoms.j0 k a1 a3 true l0_0 a0_1 a0_2 l2_0 a2_1 a2_2))
theorem impl_MixAtoms.mono_l : ∀ k, (∀ y0 y1 y2 y3 y4 y5 y6 y7 y8, LeO (impl_MixAtoms.j0 k y0 y1 y2 y3 y4 y5 y6 y7 y8) (impl_MixAtoms.j0 (k + 1) y0 y1 y2 y3 y4 y5 y6 y7 y8)) ∧ (∀ y0 y1 y2 y3 y4 y5 y6 y7 y8, LeO (impl_MixAtoms.j1 k y0 y1 y2 y3 y4 y5 y6 y7 y8) (impl_MixAtoms.j1 (k + 1) y0 y1 y2 y3 y4 y5 y6 y7 y8)) ∧ (∀ y0 y1 y2 y3 y4 y5 y6 y7 y8 y9 y10, LeO (impl_MixAtoms.l0 k y0 y1 y2 y3 y4 y5 y6 y7 y8 y9 y10) (impl_MixAtoms.l0 (k + 1) y0 y1 y2 y3 y4 y5 y6 y7 y8 y9 y10))
 | 0 => ⟨fun _ _ _ _ _ _ _ _ _ r h => by simp [impl_MixAtoms.j0] at h, fun _ _ _ _ _ _ _ _ _ r h => by simp [impl_MixAtoms.j1] at h, fun _ _ _ _ _ _ _ _ _ _ _ r h => by simp [impl_MixAtoms.l0] at h⟩
 | k + 1 => by
  obtain ⟨ih0, ih1, ih2⟩ := impl_MixAtoms.mono_l k
  refine ⟨?_, ?_, ?_⟩ <;> (intros; first | unfold impl_MixAtoms.j0 | unfold impl_MixAtoms.j1 | unfold impl_MixAtoms.l0)
  all_goals
   repeat' first
   | (with_reducible exact ih0 _ _ _ _ _ _ _ _ _)
   | (with_reducible exact ih1 _ _ _ _ _ _ _ _ _)
   | (with_reducible exact ih2 _ _ _ _ _ _ _ _ _ _ _)
   | (with_reducible exact impl_IsAtom.mono _ _ _ _)
   | (with_reducible exact impl_makeOf.mono _ _ _ _)
   | (with_reducible exact LeO.refl _)
   | (with_reducible exact LeO.none _)
   | (with_reducible refine LeO.ite ?_ ?_)
   | (with_reducible refine LeO.bind ?_ (fun _ => ?_))
theorem impl_MixAtoms.mono : ∀ a0 a1 a2 a3 a4 a5 a6 a7 k, LeO (impl_MixAtoms.f k a0 a1 a2 a3 a4 a5 a6 a7) (impl_MixAtoms.f (k + 1) a0 a1 a2 a3 a4 a5 a6 a7) := by
 intro a0 a1 a2 a3 a4 a5 a6 a7 k
 obtain ⟨ih0, ih1, ih2⟩ := impl_MixAtoms.mono_l k
 unfold impl_MixAtoms.f
 repeat' first
   | (with_reducible exact ih0 _ _ _ _ _ _ _ _ _)
   | (with_reducible exact ih1 _ _ _ _ _ _ _ _ _)
   | (with_reducible exact ih2 _ _ _ _ _ _ _ _ _ _ _)
   | (with_reducible exact impl_IsAtom.mono _ _ _ _)
   | (with_reducible exact impl_makeOf.mono _ _ _ _)
   | (with_reducible exact LeO.refl _)
   | (with_reducible exact LeO.none _)
   | (with_reducible refine LeO.ite ?_ ?_)
   | (with_reducible refine LeO.bind ?_ (fun _ => ?_))
def impl_MixAtoms.T9 : Bool × List (List Nat × List Nat) := (true, [([], []), ([], []), ([], []), ([], []), ([3], [3]), ([], []), ([4, 5], [4, 5]), ([6], [6]), ([2, 7], [2, 7]), ([], []), ([], []), ([10], [10]), ([], []), ([11, 12], [11, 12]), ([13], [13]), ([9, 14], [9, 14]), ([8, 15], [8, 15]), ([0, 1, 0, 1, 2, 3, 4, 5, 6, 7, 8, 9, 10, 11, 12, 13, 14, 15, 16], [0, 1]), ([17, 16, 0, 1, 2, 3, 4, 5, 6, 7, 8, 9, 10, 11, 12, 13, 14, 15, 16], [16, 17])])
def impl_MixAtoms.B9 : List Nat := [0, 0, 0, 0, 8, 0, 56, 120, 252, 0, 0, 1024, 0, 7168, 15360, 32256, 65532, 131071, 262143]
theorem impl_MixAtoms.tab9 : rtab .any (opsOf Try.f67 9) = impl_MixAtoms.T9 := by kernel_rfl
theorem impl_MixAtoms.bits9 : waitsOk impl_MixAtoms.T9.2 impl_MixAtoms.B9 = true := by kernel_rfl
set_option maxHeartbeats 8000000 in
set_option maxRecDepth 100000 in
theorem impl_MixAtoms.calls (k : Nat) (A0_0 : Option Addr) (c0_0 : Nat) (l0_0 : List Int) (a0_1 : Int) (a0_2 : Bool) (a1 : Int) (A2_0 : Option Addr) (c2_0 : Nat) (l2_0 : List Int) (a2_1 : Int) (a2_2 : Bool) (a3 : Int) (r1 : List Int) (r2 : Int) (r3 : Bool) (r4 : Bool) (w : World) (hr0_0 : Kd.C (Kd.int .i64) w A0_0 l0_0.length l0_0) (hc0_0 : l0_0.length ≤ c0_0) (hr2_0 : Kd.C (Kd.int .i64) w A2_0 l2_0.length l2_0) (hc2_0 : l2_0.length ≤ c2_0) (h : impl_MixAtoms.f k l0_0 a0_1 a0_2 a1 l2_0 a2_1 a2_2 a3 = some (r1, r2, r3, r4)) :
  Calls Try.prog 67 #[.agg #[.slice A0_0 l0_0.length c0_0, .int .i64 a0_1, .bool a0_2], .int .i64 a1, .agg #[.slice A2_0 l2_0.length c2_0, .int .i64 a2_1, .bool a2_2], .int .i64 a3] w fun e w' => ∃ v0_ : Value, e = .returned (.tuple #[.agg #[v0_, .int .i64 r2, .bool r3], .bool r4]) ∧ Kd.R (Kd.int .i64) 3 w' w.heap.size (fun _ => True) v0_ r1 ∧ Below w.heap.size w w' := by
 have hu52 := Try.underlying52
 have qz := Aside0.mk hr0_0
 have qE := Aside0.mk hc0_0
 clear hr0_0 hc0_0
 have qF := Aside0.mk hr2_0
 have qH := Aside0.mk hc2_0
 clear hr2_0 hc2_0
 have HB := Aside0.mk (Below.refl w.heap.size w)
 have H : ((impl_IsAtom.f k l0_0 a0_1 a0_2).bind fun qD => (if qD = true then ((impl_IsAtom.f k l2_0 a2_1 a2_2).bind fun qy => (if qy = true then (impl_MixAtoms.j0 k a1 a3 ((l0_0.length : Int) != (l2_0.length : Int)) l0_0 a0_1 a0_2 l2_0 a2_1 a2_2) else (impl_MixAtoms.j0 k a1 a3 true l0_0 a0_1 a0_2 l2_0 a2_1 a2_2))) else (impl_MixAtoms.j0 k a1 a3 true l0_0 a0_1 a0_2 l2_0 a2_1 a2_2))) = some (r1, r2, r3, r4) := h
 clear h
 have HC5 := Aside0.mk H
 clear H
 go_enter Try.func67, Try.ntmps67
 go_upto_region 1 with (first | ((with_reducible refine gate_dst (N := 4) rfl ?_); (try (refine gate_guard (by rfl) ?_; dsimp only)); refine bx_ (cs := #[.slice A0_0 l0_0.length c0_0, .int .i64 a0_1, .bool a0_2]) (t := 52) ?_; intro qu hg w6 hbox hb; have qa := Aside0.mk (hbox); have Q0 := hz_ HB hg; have Q1 := hz_ HB hg; replace HB := bS_ HB hb; clear hb hbox hg) | ((with_reducible refine gate_dst (N := 6) rfl ?_); (try (refine gate_guard (by rfl) ?_; dsimp only)); refine bx_ (cs := #[.slice A2_0 l2_0.length c2_0, .int .i64 a2_1, .bool a2_2]) (t := 52) ?_; intro qv hg w7 hbox hb; have qc := Aside0.mk (hbox); have Q2 := hz_ HB hg; have Q3 := hz_ HB hg; replace HB := bS_ HB hb; have qi := nL_ qa hg; have qj := nG_ qa hg; replace qa := kB_ qa hb; clear hb hbox hg) | ((with_reducible refine gate_dst (N := 8) rfl ?_); (try (refine gate_guard (by rfl) ?_; dsimp only)); refine bx_ (cs := #[.slice none 0 0, .int .i64 0, .bool false]) (t := 52) ?_; intro qq hg w8 hbox hb; have qb := Aside0.mk (hbox); have Q4 := hz_ HB hg; have Q5 := hz_ HB hg; replace HB := bS_ HB hb; have qf := nL_ qa hg; have qg := nG_ qa hg; replace qa := kB_ qa hb; have qk := nL_ qc hg; have ql := nG_ qc hg; replace qc := kB_ qc hb; clear hb hbox hg))
 (try simp only [Act.put, sa_, s0_, s1_])
 go_cut [28] (fun v28 wc => ∃ (kq : Nat) (qA : Bool), v28 = .bool qA ∧ Aside0 (impl_MixAtoms.j0 kq a1 a3 qA l0_0 a0_1 a0_2 l2_0 a2_1 a2_2 = some (r1, r2, r3, r4)) ∧ Aside0 (kq ≤ k) ∧ Aside0 (wc.heap[qu]? = some (.cells #[(.slice A0_0 l0_0.length c0_0), .int .i64 a0_1, .bool a0_2] 52 (0, 0))) ∧ Aside0 (wc.heap[qv]? = some (.cells #[(.slice A2_0 l2_0.length c2_0), .int .i64 a2_1, .bool a2_2] 52 (0, 0))) ∧ Aside0 (wc.heap[qq]? = some (.cells #[(.slice none 0 0), .int .i64 0, .bool false] 52 (0, 0))) ∧ Aside0 (Below w.heap.size w wc))
 case first =>
  have H := HC5.out
  clear HC5
  replace H := be_ H
  obtain ⟨qD, A90, H⟩ := H
  have A9 := Aside0.mk A90
  clear A90
  by_cases c10 : qD = true
  rotate_left
  ·
   replace c10 := Bool.eq_false_iff.mpr c10
   subst c10
   have H1 : (impl_MixAtoms.j0 k a1 a3 true l0_0 a0_1 a0_2 l2_0 a2_1 a2_2) = some (r1, r2, r3, r4) := by rw [if_neg (show ¬ (false = true) by decide)] at H; exact H
   clear H
   have H := H1
   clear H1
   have H' := Aside0.mk H
   clear H
   have Q6 := qi.out
   have Q7 := qj.out
   have Q8 := qf.out
   have Q9 := qg.out
   obtain ⟨zH, zI, zJ, zK, zL, zM⟩ := b3_ qa
   go_wp2_with (first | ((with_reducible refine gate_callee (f := 93) rfl ?_); refine gL_ (some 13) Try.func93 #[.agg #[.slice A0_0 l0_0.length c0_0, .int .i64 a0_1, .bool a0_2]] ?_; (with_reducible refine (impl_IsAtom.calls k _ _ l0_0 a0_1 a0_2 false _ ?side1 ?side2 A9.out).mono ?_); (case side1 => exact cb_ qz HB); (case side2 => exact qE.out); rintro e Jd ⟨rfl, hb⟩; refine ⟨_, rfl, ?_⟩; replace qa := kB_ qa hb; replace qc := kB_ qc hb; replace qb := kB_ qb hb; replace HB := bS_ HB hb; clear hb))
   go_meet
   case rel => exact ⟨_, (true), (by first | rfl | (simp; done) | (simp [*]; done)), H', ⟨by first | omega | exact Nat.le_refl _⟩, ⟨kf_ qa⟩, ⟨kf_ qc⟩, ⟨kf_ qb⟩, ⟨bb_ HB⟩⟩
  subst c10
  have H1 : ((impl_IsAtom.f k l2_0 a2_1 a2_2).bind fun qy => (if qy = true then (impl_MixAtoms.j0 k a1 a3 ((l0_0.length : Int) != (l2_0.length : Int)) l0_0 a0_1 a0_2 l2_0 a2_1 a2_2) else (impl_MixAtoms.j0 k a1 a3 true l0_0 a0_1 a0_2 l2_0 a2_1 a2_2))) = some (r1, r2, r3, r4) := by rw [if_pos rfl] at H; exact H
  clear H
  have H := H1
  clear H1
  replace H := be_ H
  obtain ⟨qy, A110, H⟩ := H
  have A11 := Aside0.mk A110
  clear A110
  by_cases c12 : qy = true
  rotate_left
  ·
   replace c12 := Bool.eq_false_iff.mpr c12
   subst c12
   have H1 : (impl_MixAtoms.j0 k a1 a3 true l0_0 a0_1 a0_2 l2_0 a2_1 a2_2) = some (r1, r2, r3, r4) := by rw [if_neg (show ¬ (false = true) by decide)] at H; exact H
   clear H
   have H := H1
   clear H1
   have H' := Aside0.mk H
   clear H
   have Za := qi.out
   have Zb := qj.out
   have Zc := qf.out
   have Zd := qg.out
   obtain ⟨zN, zO, zP, zQ, zR, zS⟩ := b3_ qa
   go_wp2_with (first | ((with_reducible refine gate_callee (f := 93) rfl ?_); refine gL_ (some 13) Try.func93 #[.agg #[.slice A0_0 l0_0.length c0_0, .int .i64 a0_1, .bool a0_2]] ?_; (with_reducible refine (impl_IsAtom.calls k _ _ l0_0 a0_1 a0_2 true _ ?side1 ?side2 A9.out).mono ?_); (case side1 => exact cb_ qz HB); (case side2 => exact qE.out); rintro e Je ⟨rfl, hb⟩; refine ⟨_, rfl, ?_⟩; replace qa := kB_ qa hb; replace qc := kB_ qc hb; replace qb := kB_ qb hb; replace HB := bS_ HB hb; clear hb; have Ze := qk.out; have Zf := ql.out; obtain ⟨zT, zU, zV, zW, zX, zY⟩ := b3_ qc) | (go_at_call 93; (with_reducible refine (impl_IsAtom.calls k _ _ l2_0 a2_1 a2_2 false _ ?side1 ?side2 A11.out).mono ?_); (case side1 => exact cb_ qF HB); (case side2 => exact qH.out); rintro e Jf ⟨rfl, hb⟩; replace qa := kB_ qa hb; replace qc := kB_ qc hb; replace qb := kB_ qb hb; replace HB := bS_ HB hb; clear hb))
   go_meet
   case rel => exact ⟨_, (true), (by first | rfl | (simp; done) | (simp [*]; done)), H', ⟨by first | omega | exact Nat.le_refl _⟩, ⟨kf_ qa⟩, ⟨kf_ qc⟩, ⟨kf_ qb⟩, ⟨bb_ HB⟩⟩
  subst c12
  have H1 : (impl_MixAtoms.j0 k a1 a3 ((l0_0.length : Int) != (l2_0.length : Int)) l0_0 a0_1 a0_2 l2_0 a2_1 a2_2) = some (r1, r2, r3, r4) := by rw [if_pos rfl] at H; exact H
  clear H
  have H := H1
  clear H1
  have H' := Aside0.mk H
  clear H
  have Zg := qi.out
  have Zh := qj.out
  have Zi := qf.out
  have Zj := qg.out
  obtain ⟨zZ, z0, z1, z2, z3, z4⟩ := b3_ qa
  go_wp2_with (first | ((with_reducible refine gate_callee (f := 93) rfl ?_); refine gL_ (some 13) Try.func93 #[.agg #[.slice A0_0 l0_0.length c0_0, .int .i64 a0_1, .bool a0_2]] ?_; (with_reducible refine (impl_IsAtom.calls k _ _ l0_0 a0_1 a0_2 true _ ?side1 ?side2 A9.out).mono ?_); (case side1 => exact cb_ qz HB); (case side2 => exact qE.out); rintro e Jg ⟨rfl, hb⟩; refine ⟨_, rfl, ?_⟩; replace qa := kB_ qa hb; replace qc := kB_ qc hb; replace qb := kB_ qb hb; replace HB := bS_ HB hb; clear hb; have Zk := qk.out; have Zl := ql.out; obtain ⟨z5, z6, z7, z8, z9, ja⟩ := b3_ qc) | (go_at_call 93; (with_reducible refine (impl_IsAtom.calls k _ _ l2_0 a2_1 a2_2 true _ ?side1 ?side2 A11.out).mono ?_); (case side1 => exact cb_ qF HB); (case side2 => exact qH.out); rintro e Jh ⟨rfl, hb⟩; replace qa := kB_ qa hb; replace qc := kB_ qc hb; replace qb := kB_ qb hb; replace HB := bS_ HB hb; clear hb; obtain ⟨jb, jc, jd, je, jf, jg⟩ := b3_ qa; obtain ⟨jh, ji, jj, jk, jl, jm⟩ := b3_ qc))
  go_meet
  case rel => exact ⟨_, (((l0_0.length : Int) != (l2_0.length : Int))), (by first | rfl | (simp; done) | (simp [*]; done)), H', ⟨by first | omega | exact Nat.le_refl _⟩, ⟨kf_ qa⟩, ⟨kf_ qc⟩, ⟨kf_ qb⟩, ⟨bb_ HB⟩⟩
 clear HC5
 obtain ⟨kq, qA, rfl, HA, HJ4, qa, qc, qb, HB⟩ := hcut
 cases kq with
 | zero => exact absurd HA.out (by simp [impl_MixAtoms.j0])
 | succ kj4 =>
  have H := HA.out
  clear HA
  simp only [impl_MixAtoms.j0] at H
  by_cases c33 : qA = true
  ·
   subst c33
   have H1 : (some (([] : List Int), 0, false, false)) = some (r1, r2, r3, r4) := by rw [if_pos rfl] at H; exact H
   clear H
   have H := H1
   clear H1
   simp only [Option.some.injEq, Prod.mk.injEq] at H
   obtain ⟨rfl, rfl, rfl, rfl⟩ := H
   have Zm := qg.out
   have Zn := qf.out
   have Zo := ql.out
   have Zp := qk.out
   obtain ⟨jn, jo, jp, jq, jr, js⟩ := b3_ qb
   go_wp2
   refine bodyPost_ret (results_ct rfl _ _ qq 52 #[.slice none 0 0, .int .i64 0, .bool false] (0, 0) _ rfl (kp_ qb) Try.underlying52 rfl (by kernel_rfl)) rfl ?_
   exact ⟨_, rt_ ⟨by first | exact Kd.R_nil _ _ _ _ _ | exact Kd.N_nil _ _ _ _ _ | exact Kd.V_nil _ _ _ _ _ | exact Kd.Q_nil _ _ _ _ _ | exact Kd.S_nil _ _ _ _ _, bb_ HB⟩⟩
  replace c33 := Bool.eq_false_iff.mpr c33
  subst c33
  have H1 : (if a1 < 0 then (impl_MixAtoms.j1 kj4 a1 a3 true l0_0 a0_1 a0_2 l2_0 a2_1 a2_2) else (if a1 > 400000000 then (impl_MixAtoms.j1 kj4 a1 a3 true l0_0 a0_1 a0_2 l2_0 a2_1 a2_2) else (if a3 < 0 then (impl_MixAtoms.j1 kj4 a1 a3 true l0_0 a0_1 a0_2 l2_0 a2_1 a2_2) else (impl_MixAtoms.j1 kj4 a1 a3 (decide (a3 > 400000000)) l0_0 a0_1 a0_2 l2_0 a2_1 a2_2)))) = some (r1, r2, r3, r4) := by rw [if_neg (show ¬ (false = true) by decide)] at H; exact H
  clear H
  have H := H1
  clear H1
  have HC37 := Aside0.mk H
  clear H
  go_upto_region 3 with (fail)
  go_cut [43] (fun v43 wc => ∃ (kq : Nat) (qw : Bool), v43 = .bool qw ∧ Aside0 (impl_MixAtoms.j1 kq a1 a3 qw l0_0 a0_1 a0_2 l2_0 a2_1 a2_2 = some (r1, r2, r3, r4)) ∧ Aside0 (kq ≤ kj4) ∧ Aside0 (wc.heap[qu]? = some (.cells #[(.slice A0_0 l0_0.length c0_0), .int .i64 a0_1, .bool a0_2] 52 (0, 0))) ∧ Aside0 (wc.heap[qv]? = some (.cells #[(.slice A2_0 l2_0.length c2_0), .int .i64 a2_1, .bool a2_2] 52 (0, 0))) ∧ Aside0 (wc.heap[qq]? = some (.cells #[(.slice none 0 0), .int .i64 0, .bool false] 52 (0, 0))) ∧ Aside0 (Below w.heap.size w wc))
  case first =>
   have H := HC37.out
   clear HC37
   by_cases c38 : a1 < 0
   ·
    rw [if_pos c38] at H
    have qx : decide (a1 < 0) = true := decide_eq_true c38
    clear c38
    (first | rw [qx] | (simp only [i64_w, i32_w]; rw [qx]) | skip)
    have H' := Aside0.mk H
    clear H
    go_wp2
    go_meet
    case rel => exact ⟨_, (true), (by first | rfl | (simp; done) | (simp [*]; done)), H', ⟨by have := HJ4.out; first | omega | exact Nat.le_refl _⟩, ⟨kf_ qa⟩, ⟨kf_ qc⟩, ⟨kf_ qb⟩, ⟨bb_ HB⟩⟩
   rw [if_neg c38] at H
   have qx : decide (a1 < 0) = false := decide_eq_false c38
   clear c38
   (first | rw [qx] | (simp only [i64_w, i32_w]; rw [qx]) | skip)
   by_cases c39 : a1 > 400000000
   ·
    rw [if_pos c39] at H
    have q7 : decide (400000000 < a1) = true := decide_eq_true c39
    clear c39
    have H' := Aside0.mk H
    clear H
    go_wp2
    go_meet
    case rel => exact ⟨_, (true), (by first | rfl | (simp; done) | (simp [*]; done)), H', ⟨by have := HJ4.out; first | omega | exact Nat.le_refl _⟩, ⟨kf_ qa⟩, ⟨kf_ qc⟩, ⟨kf_ qb⟩, ⟨bb_ HB⟩⟩
   rw [if_neg c39] at H
   have q7 : decide (400000000 < a1) = false := decide_eq_false c39
   clear c39
   by_cases c40 : a3 < 0
   ·
    rw [if_pos c40] at H
    have q8 : decide (a3 < 0) = true := decide_eq_true c40
    clear c40
    have H' := Aside0.mk H
    clear H
    go_wp2
    go_meet
    case rel => exact ⟨_, (true), (by first | rfl | (simp; done) | (simp [*]; done)), H', ⟨by have := HJ4.out; first | omega | exact Nat.le_refl _⟩, ⟨kf_ qa⟩, ⟨kf_ qc⟩, ⟨kf_ qb⟩, ⟨bb_ HB⟩⟩
   rw [if_neg c40] at H
   have q8 : decide (a3 < 0) = false := decide_eq_false c40
   clear c40
   have H' := Aside0.mk H
   clear H
   go_wp2
   go_meet
   case rel => exact ⟨_, (decide (a3 > 400000000)), (by first | rfl | (simp; done) | (simp [*]; done)), H', ⟨by have := HJ4.out; first | omega | exact Nat.le_refl _⟩, ⟨kf_ qa⟩, ⟨kf_ qc⟩, ⟨kf_ qb⟩, ⟨bb_ HB⟩⟩
  clear HC37
  obtain ⟨kq, qw, rfl, HA, HJ36, qa, qc, qb, HB⟩ := hcut
  cases kq with
  | zero => exact absurd HA.out (by simp [impl_MixAtoms.j1])
  | succ kj36 =>
   have H := HA.out
   clear HA
   simp only [impl_MixAtoms.j1] at H
   by_cases c41 : qw = true
   ·
    subst c41
    have H1 : (some (([] : List Int), 0, false, false)) = some (r1, r2, r3, r4) := by rw [if_pos rfl] at H; exact H
    clear H
    have H := H1
    clear H1
    simp only [Option.some.injEq, Prod.mk.injEq] at H
    obtain ⟨rfl, rfl, rfl, rfl⟩ := H
    have Zq := qg.out
    have Zr := qf.out
    have Zs := ql.out
    have Zt := qk.out
    obtain ⟨jt, ju, jv, jw, jx, jy⟩ := b3_ qb
    go_wp2
    refine bodyPost_ret (results_ct rfl _ _ qq 52 #[.slice none 0 0, .int .i64 0, .bool false] (0, 0) _ rfl (kp_ qb) Try.underlying52 rfl (by kernel_rfl)) rfl ?_
    exact ⟨_, rt_ ⟨by first | exact Kd.R_nil _ _ _ _ _ | exact Kd.N_nil _ _ _ _ _ | exact Kd.V_nil _ _ _ _ _ | exact Kd.Q_nil _ _ _ _ _ | exact Kd.S_nil _ _ _ _ _, bb_ HB⟩⟩
   replace c41 := Bool.eq_false_iff.mpr c41
   subst c41
   have H1 : (if 0 ≤ (l0_0.length : Int) then (if ((l0_0.length : Int) : Int).toNat ≤ 35184372088832 then ((some (List.replicate ((l0_0.length : Int) : Int).toNat 0 : List Int)).bind fun y460 => (impl_MixAtoms.l0 kj36 a1 a3 y460 (y460.length : Int) 0 l0_0 a0_1 a0_2 l2_0 a2_1 a2_2)) else (none)) else (none)) = some (r1, r2, r3, r4) := by rw [if_neg (show ¬ (false = true) by decide)] at H; exact H
   clear H
   have H := H1
   clear H1
   replace H := ip_ H
   obtain ⟨c45, H⟩ := H
   have Zu := eq_true c45
   have Zv : decide (0 ≤ (l0_0.length : Int)) = true := decide_eq_true c45
   clear c45
   replace H := ip_ H
   obtain ⟨c46, H⟩ := H
   have Zw := eq_true c46
   have Zx : decide (((l0_0.length : Int) : Int).toNat ≤ 35184372088832) = true := decide_eq_true c46
   clear c46
   obtain ⟨y460, hy460⟩ : ∃ y_ : List Int, y_ = (List.replicate ((l0_0.length : Int) : Int).toNat 0) := ⟨_, rfl⟩
   replace H : (impl_MixAtoms.l0 kj36 a1 a3 y460 (y460.length : Int) 0 l0_0 a0_1 a0_2 l2_0 a2_1 a2_2) = some (r1, r2, r3, r4) := by first | (rw [hy460]; with_reducible exact H) | (have H2_ := (Option.bind_some _ _).symm.trans H; rw [hy460]; with_reducible exact H2_) | (have H2_ := (Option.bind_some _ _).symm.trans H; with_reducible exact H2_) | with_reducible exact H | (rw [hy460]; exact H) | exact H
   have Ny460 := Aside0.mk hy460
   clear hy460
   have H' := Aside0.mk H
   clear H
   have Zy := qi.out
   have Zz := qj.out
   have ZA := qf.out
   have ZB := qg.out
   obtain ⟨jz, jA, jB, jC, jD, jE⟩ := b3_ qa
   go_wp2_with (first | ((with_reducible refine gate_dst (N := 48) rfl ?_); (try (refine gate_guard (by rfl) ?_; dsimp only)); refine Kd.R_make (Kd.int .i64) _ 3 rfl (N := 48) rfl 47 _ _ rfl (l0_0.length : Int) rfl rfl Try.underlying47 (.int .i64 0) 8 info3 rfl (by decide) (by omega) 0 (ok := fun _ => True) (okp := fun _ => True) rfl (fun _ hk => hk) trivial (od_) (Nat.le_trans (Nat.mul_le_mul_right _ (od_ : (l0_0.length : Int).toNat ≤ 35184372088832)) (by omega)) (Below.refl _ _) (Nat.le_refl _) ?_; intro Z4 Ji ho51 hb hg_ hnew_; clear hg_ hnew_; (first | rw [← Ny460.out] at ho51 | (simp only [Int.reduceToNat] at ho51; rw [← Ny460.out] at ho51)); have qI := Aside0.mk (Kd.R_lower ho51 (bz_ HB)); replace qa := kB_ qa hb; replace qc := kB_ qc hb; replace qb := kB_ qb hb; replace HB := bS_ HB hb; clear hb ho51; obtain ⟨qB, qC, eo52⟩ := Kd.R_slice qI.out; subst eo52))
   go_loopg [51] kj36 (fun kq v51 w' => ∃ (qh : List Int) (qe : Int), v51 = .int .i64 qe ∧ Aside0 (impl_MixAtoms.l0 kq a1 a3 qh (y460.length : Int) qe l0_0 a0_1 a0_2 l2_0 a2_1 a2_2 = some (r1, r2, r3, r4)) ∧ Aside0 (kq ≤ kj36) ∧ Aside0 (Kd.R (Kd.int .i64) 3 w' w.heap.size (fun _ => True) (.slice qB y460.length qC) qh) ∧ Aside0 (w'.heap[qu]? = some (.cells #[(.slice A0_0 l0_0.length c0_0), .int .i64 a0_1, .bool a0_2] 52 (0, 0))) ∧ Aside0 (w'.heap[qv]? = some (.cells #[(.slice A2_0 l2_0.length c2_0), .int .i64 a2_1, .bool a2_2] 52 (0, 0))) ∧ Aside0 (w'.heap[qq]? = some (.cells #[(.slice none 0 0), .int .i64 0, .bool false] 52 (0, 0))) ∧ Aside0 (Below w.heap.size w w'))
   case atStart => exact ⟨(y460), (0), (by first | rfl | (simp; done) | (simp [*]; done)), H', ⟨Nat.le_refl _⟩, ⟨by (with_reducible repeat (first | apply Kd.R_alloc | apply Kd.R_drewN | apply Kd.R_drew)); exact qI.out⟩, ⟨kf_ qa⟩, ⟨kf_ qc⟩, ⟨kf_ qb⟩, ⟨bb_ HB⟩⟩
   clear H'
   obtain ⟨qh, qe, rfl, HA, HK3, qd, qa, qc, qb, HB⟩ := hrel
   have hl10_3 := (Kd.R_reads' qd.out).1
   rw [hl10_3] at qd
   (try simp only [hl10_3])
   (try simp only [hl10_3] at qa)
   (try simp only [hl10_3] at qc)
   (try simp only [hl10_3] at qb)
   cases gk with
   | zero => exact absurd HA.out (by simp [impl_MixAtoms.l0])
   | succ k3 =>
    have H := HA.out
    clear HA
    simp only [impl_MixAtoms.l0] at H
    by_cases c53 : qe < (y460.length : Int)
    ·
     rw [if_pos c53] at H
     have qG : decide (qe < (y460.length : Int)) = true := decide_eq_true c53
     have c53z := qG
     (try rw [hl10_3] at c53z)
     clear c53
     replace H := ip_ H
     obtain ⟨c54, H⟩ := H
     have ZC : decide (0 ≤ qe) = true := decide_eq_true c54
     clear c54
     replace H := ip_ H
     obtain ⟨c55, H⟩ := H
     have ZD : decide (qe < (l0_0.length : Int)) = true := decide_eq_true c55
     clear c55
     replace H := ip_ H
     obtain ⟨c56, H⟩ := H
     have ZE : decide (qe < (l2_0.length : Int)) = true := decide_eq_true c56
     clear c56
     replace H := ip_ H
     obtain ⟨c57, H⟩ := H
     have ZF : decide (qe < (qh.length : Int)) = true := decide_eq_true c57
     clear c57
     obtain ⟨y465, hy465⟩ : ∃ y_ : List Int, y_ = (qh.set (qe : Int).toNat (wrap64 ((wrap64 (a1 * (rd l0_0 qe))) + (wrap64 (a3 * (rd l2_0 qe)))))) := ⟨_, rfl⟩
     replace H : (impl_MixAtoms.l0 k3 a1 a3 y465 (y460.length : Int) (wrap64 (qe + 1)) l0_0 a0_1 a0_2 l2_0 a2_1 a2_2) = some (r1, r2, r3, r4) := by first | (rw [hy465]; with_reducible exact H) | (have H2_ := (Option.bind_some _ _).symm.trans H; rw [hy465]; with_reducible exact H2_) | (have H2_ := (Option.bind_some _ _).symm.trans H; with_reducible exact H2_) | with_reducible exact H | (rw [hy465]; exact H) | exact H
     have Ny465 := Aside0.mk hy465
     clear hy465
     have H' := Aside0.mk H
     clear H
     try go_wp2
     replace qd := Aside0.mk (Kd.R_drew qd.out); replace qa := Aside0.mk (blk_drew qa.out); replace qc := Aside0.mk (blk_drew qc.out); replace qb := Aside0.mk (blk_drew qb.out); replace HB := Aside0.mk (below_drew1 HB.out)
     have p463 : 0 ≤ (qe : Int) := od_
     have q463 : qe < (l0_0.length : Int) := od_
     obtain ⟨qJ, e463, qs⟩ := Kd.at_int qz.out qe p463 q463
     have hw463_0 := qs
     cases e463
     replace qs := ct_ HB qs
     replace p463 := eq_true p463
     replace q463 := eq_true q463
     have p464 : 0 ≤ (qe : Int) := od_
     have q464 : qe < (l2_0.length : Int) := od_
     obtain ⟨qK, e464, qt⟩ := Kd.at_int qF.out qe p464 q464
     have hw464_0 := qt
     cases e464
     replace qt := ct_ HB qt
     replace p464 := eq_true p464
     replace q464 := eq_true q464
     have p58 : 0 ≤ (qe : Int) := od_
     have q58 : (qe : Int) < ((qh.length : Int) : Int) := od_
     obtain ⟨go58, Z5, eo58, q9, gl58, cl58, HG58⟩ := Kd.R_form qd.out (by omega)
     (first | cases eo58 | (injection eo58 with ea_ en_ ec_; (first | subst ea_ | (injection ea_ with ea_; subst ea_)); subst ec_; clear en_))
     have Z6 := Aside0.mk q9
     have QL := Aside0.mk HG58
     clear q9 gl58 HG58
     obtain ⟨qQ, hf58_0⟩ := Kd.R_celln 0 qd.out (qe : Int) p58 q58
     replace p58 := eq_true p58
     replace q58 := eq_true q58
     have qR := Kd.R_putn qd.out (qe : Int) (wrap64 ((wrap64 (a1 * (rd l0_0 qe))) + (wrap64 (a3 * (rd l2_0 qe)))))
     rw [← Ny465.out] at qR
     have HQ60 := Aside0.mk qR
     clear qR
     refine start_ (n := 19) (S := fun w' => w'.cell? ⟨qu, 0, none⟩ = some (.slice (some qJ) l0_0.length c0_0) ∧ w'.cell? ⟨qu, 1, none⟩ = some (.int .i64 a0_1) ∧ w'.cell? ⟨qu, 2, none⟩ = some (.bool a0_2) ∧ w'.cell? ⟨qv, 0, none⟩ = some (.slice (some qK) l2_0.length c2_0) ∧ w'.cell? ⟨qv, 1, none⟩ = some (.int .i64 a2_1) ∧ w'.cell? ⟨qv, 2, none⟩ = some (.bool a2_2) ∧ w'.cell? (qJ.add (qe).toNat) = some (.int .i64 (rd l0_0 qe)) ∧ w'.cell? (qK.add (qe).toNat) = some (.int .i64 (rd l2_0 qe))) (ds := [18]) (fl_ 19 0) (by kernel_rfl) rfl rfl ⟨bc_ qa 0, bc_ qa 1, bc_ qa 2, bc_ qc 0, bc_ qc 1, bc_ qc 2, (ct_ HB hw463_0 :), (ct_ HB hw464_0 :)⟩ (fun hHeld => ?_); refine with_tabW impl_MixAtoms.tab9 impl_MixAtoms.bits9 (fun HT_ HW_ => ?_)
     generalize wr.drew = Jj at qd qa qc qb HB QL HQ60 hf58_0 qs qt qQ hHeld ⊢
     refine pX_ 0 (some 54) (fl_ 19 1) HT_ ?_
     refine pX_ 1 (some 55) (fl_ 19 3) HT_ ?_
     refine pX_ 2 (some 56) (fl_ 19 7) HT_ ?_
     refine pX_ 3 (some 57) (fl_ 19 15) HT_ ?_
     refine pX_ 5 (some 59) (fl_ 19 47) HT_ ?_
     refine pX_ 9 (some 63) (fl_ 19 559) HT_ ?_
     refine pX_ 10 (some 64) (fl_ 19 1583) HT_ ?_
     refine pX_ 12 (some 66) (fl_ 19 5679) HT_ ?_
     refine tX_ 4 (some 58) (fl_ 19 5695) rfl rfl HT_ HW_ hHeld (by rintro w' ⟨s0, s1, s2, s3, s4, s5, s6, s7⟩; go_simp; with_reducible rfl) ?_
     refine pX_ 6 (some 60) (fl_ 19 5759) HT_ ?_
     refine tX_ 7 (some 61) (fl_ 19 5887) rfl rfl HT_ HW_ hHeld (by rintro w' ⟨s0, s1, s2, s3, s4, s5, s6, s7⟩; go_simp; with_reducible rfl) ?_
     refine pX_ 8 (some 62) (fl_ 19 6143) HT_ ?_
     refine tX_ 11 (some 65) (fl_ 19 8191) rfl rfl HT_ HW_ hHeld (by rintro w' ⟨s0, s1, s2, s3, s4, s5, s6, s7⟩; go_simp; with_reducible rfl) ?_
     refine pX_ 13 (some 67) (fl_ 19 16383) HT_ ?_
     refine tX_ 14 (some 68) (fl_ 19 32767) rfl rfl HT_ HW_ hHeld (by rintro w' ⟨s0, s1, s2, s3, s4, s5, s6, s7⟩; go_simp; with_reducible rfl) ?_
     refine pX_ 15 (some 69) (fl_ 19 65535) HT_ ?_
     refine pX_ 16 (some 70) (fl_ 19 131071) HT_ ?_
     refine pX_ 17 (some 71) (fl_ 19 262143) HT_ ?_
     refine last_ (i := 18) (N := none) (fl_ 19 524287) rfl rfl (one_of HT_.out (by kernel_rfl)) (by decide) (fun K hK => ?_)
     refine skip_ (w1 := ?_) (by rfl) rfl ?_ ?_
     rotate_left
     ·
      go_simp
      rfl
     refine hK.out _ _ ?_
     clear hK K
     refine done_ (done_of HT_.out (by kernel_rfl)) ?_
     try go_wp2
     (try simp only [← hl10_3])
     go_roundg k3
     case measure => have := HJ4.out; have := HJ36.out; have := HK3.out; omega
     case rel => exact ⟨(y465), (wrap64 (qe + 1)), (by first | rfl | (simp; done) | (simp [*]; done)), H', ⟨by have := HJ4.out; have := HJ36.out; have := HK3.out; omega⟩, ⟨by (try simp only [hl10_3]); (with_reducible repeat (first | apply Kd.R_alloc | apply Kd.R_drewN | apply Kd.R_drew)); exact HQ60.out⟩, ⟨by (try simp only [hl10_3]); (with_reducible repeat (first | refine blk_drewN ?_ _ | refine blk_drew ?_ | refine blk_alloc ?_ _)); refine blk_far ?_ (by have h_ := Kd.R_ne qd.out qa.out (by decide); intro e_; exact h_ (by rw [e_]; rfl)) _; (with_reducible repeat (first | refine blk_drewN ?_ _ | refine blk_drew ?_ | refine blk_alloc ?_ _)); exact qa.out⟩, ⟨by (try simp only [hl10_3]); (with_reducible repeat (first | refine blk_drewN ?_ _ | refine blk_drew ?_ | refine blk_alloc ?_ _)); refine blk_far ?_ (by have h_ := Kd.R_ne qd.out qc.out (by decide); intro e_; exact h_ (by rw [e_]; rfl)) _; (with_reducible repeat (first | refine blk_drewN ?_ _ | refine blk_drew ?_ | refine blk_alloc ?_ _)); exact qc.out⟩, ⟨by (try simp only [hl10_3]); (with_reducible repeat (first | refine blk_drewN ?_ _ | refine blk_drew ?_ | refine blk_alloc ?_ _)); refine blk_far ?_ (by have h_ := Kd.R_ne qd.out qb.out (by decide); intro e_; exact h_ (by rw [e_]; rfl)) _; (with_reducible repeat (first | refine blk_drewN ?_ _ | refine blk_drew ?_ | refine blk_alloc ?_ _)); exact qb.out⟩, ⟨bb_ HB⟩⟩
    rw [if_neg c53] at H
    have qG : decide (qe < (y460.length : Int)) = false := decide_eq_false c53
    have c53z := qG
    (try rw [hl10_3] at c53z)
    clear c53
    by_cases c61 : a0_2 = true
    rotate_left
    ·
     replace c61 := Bool.eq_false_iff.mpr c61
     subst c61
     have H1 : (if a2_2 = true then ((impl_makeOf.f k3 qh (wrap64 ((wrap64 (a1 * a0_1)) + (wrap64 (a3 * a2_1)))) (a3 != 0)).bind fun qo => (some (qo.1, qo.2.1, qo.2.2.1, qo.2.2.2))) else ((impl_makeOf.f k3 qh (wrap64 ((wrap64 (a1 * a0_1)) + (wrap64 (a3 * a2_1)))) false).bind fun qp => (some (qp.1, qp.2.1, qp.2.2.1, qp.2.2.2)))) = some (r1, r2, r3, r4) := by rw [if_neg (show ¬ (false = true) by decide)] at H; exact H
     clear H
     have H := H1
     clear H1
     by_cases c91 : a2_2 = true
     ·
      subst c91
      have H1 : ((impl_makeOf.f k3 qh (wrap64 ((wrap64 (a1 * a0_1)) + (wrap64 (a3 * a2_1)))) (a3 != 0)).bind fun qo => (some (qo.1, qo.2.1, qo.2.2.1, qo.2.2.2))) = some (r1, r2, r3, r4) := by rw [if_pos rfl] at H; exact H
      clear H
      have H := H1
      clear H1
      replace H := be_ H
      obtain ⟨⟨qS, qT, qU, za⟩, A920, H⟩ := H
      replace H : (some (qS, qT, qU, za)) = some (r1, r2, r3, r4) := H
      have A92 := Aside0.mk A920
      clear A920
      simp only [Option.some.injEq, Prod.mk.injEq] at H
      obtain ⟨rfl, rfl, rfl, rfl⟩ := H
      have ZG := qi.out
      have ZH := qj.out
      have ZI := qf.out
      have ZJ := qg.out
      obtain ⟨jF, jG, jH, jI, jJ, jK⟩ := b3_ qa
      have ZK := qk.out
      have ZL := ql.out
      obtain ⟨jL, jM, jN, jO, jP, jQ⟩ := b3_ qc
      go_wp2_with (first | ((with_reducible refine gate_callee (f := 108) rfl ?_); refine gL_ (some 97) Try.func108 #[.slice qB qh.length qC, .int .i64 (wrap64 ((wrap64 (a1 * a0_1)) + (wrap64 (a3 * a2_1)))), .bool (a3 != 0)] ?_; (with_reducible refine (impl_makeOf.calls k3 _ _ qh (wrap64 ((wrap64 (a1 * a0_1)) + (wrap64 (a3 * a2_1)))) (a3 != 0) qS qT qU za _ ?side1 ?side2 A92.out).mono ?_); (case side1 => exact cr_ qd); (case side2 => exact (Kd.R_reads' qd.out).2.1); rintro e Jk ⟨Z7, rfl, ho0, hb⟩; refine ⟨_, rfl, ?_⟩; have qL := Aside0.mk (Kd.R_lower (Kd.R_new' ho0 (Kd.R_lt (rm_ qd))) (bz_ HB)); replace qd := Aside0.mk (Kd.R_elder' (rm_ qd) (Kd.R_base ho0) hb); replace qa := kB_ qa hb; replace qc := kB_ qc hb; replace qb := kB_ qb hb; replace HB := bS_ HB hb; clear hb ho0; obtain ⟨QM, QN, eo99⟩ := Kd.R_slice qL.out; subst eo99; obtain ⟨zb, zc, zd, ze, zf, zg⟩ := b3_ qb))
      refine bodyPost_ret (results_ct rfl _ _ qq 52 #[.slice QM qS.length QN, .int .i64 qT, .bool qU] (0, 0) _ rfl (kp_ qb) Try.underlying52 rfl (by kernel_rfl)) rfl ?_
      exact ⟨_, rt_ ⟨Kd.R_mono (rg_ qL qb) (fun _ hk => trivial), bb_ HB⟩⟩
     replace c91 := Bool.eq_false_iff.mpr c91
     subst c91
     have H1 : ((impl_makeOf.f k3 qh (wrap64 ((wrap64 (a1 * a0_1)) + (wrap64 (a3 * a2_1)))) false).bind fun qp => (some (qp.1, qp.2.1, qp.2.2.1, qp.2.2.2))) = some (r1, r2, r3, r4) := by rw [if_neg (show ¬ (false = true) by decide)] at H; exact H
     clear H
     have H := H1
     clear H1
     replace H := be_ H
     obtain ⟨⟨qV, qW, qX, zh⟩, A1010, H⟩ := H
     replace H : (some (qV, qW, qX, zh)) = some (r1, r2, r3, r4) := H
     have A101 := Aside0.mk A1010
     clear A1010
     simp only [Option.some.injEq, Prod.mk.injEq] at H
     obtain ⟨rfl, rfl, rfl, rfl⟩ := H
     have QO := qi.out
     have QP := qj.out
     have QQ := qf.out
     have QR := qg.out
     obtain ⟨zi, zj, zk, zl, zm, zn⟩ := b3_ qa
     have QS := qk.out
     have QT := ql.out
     obtain ⟨zo, zp, zq, zr, zs, zt⟩ := b3_ qc
     go_wp2_with (first | ((with_reducible refine gate_callee (f := 108) rfl ?_); refine gL_ (some 97) Try.func108 #[.slice qB qh.length qC, .int .i64 (wrap64 ((wrap64 (a1 * a0_1)) + (wrap64 (a3 * a2_1)))), .bool false] ?_; (with_reducible refine (impl_makeOf.calls k3 _ _ qh (wrap64 ((wrap64 (a1 * a0_1)) + (wrap64 (a3 * a2_1)))) false qV qW qX zh _ ?side1 ?side2 A101.out).mono ?_); (case side1 => exact cr_ qd); (case side2 => exact (Kd.R_reads' qd.out).2.1); rintro e Z8 ⟨Z9, rfl, ho0, hb⟩; refine ⟨_, rfl, ?_⟩; have qM := Aside0.mk (Kd.R_lower (Kd.R_new' ho0 (Kd.R_lt (rm_ qd))) (bz_ HB)); replace qd := Aside0.mk (Kd.R_elder' (rm_ qd) (Kd.R_base ho0) hb); replace qa := kB_ qa hb; replace qc := kB_ qc hb; replace qb := kB_ qb hb; replace HB := bS_ HB hb; clear hb ho0; obtain ⟨zu, zv, eo108⟩ := Kd.R_slice qM.out; subst eo108; obtain ⟨zw, zx, zy, zz, zA, zB⟩ := b3_ qb))
     refine bodyPost_ret (results_ct rfl _ _ qq 52 #[.slice zu qV.length zv, .int .i64 qW, .bool qX] (0, 0) _ rfl (kp_ qb) Try.underlying52 rfl (by kernel_rfl)) rfl ?_
     exact ⟨_, rt_ ⟨Kd.R_mono (rg_ qM qb) (fun _ hk => trivial), bb_ HB⟩⟩
    subst c61
    have H1 : (if a1 = 0 then (if a2_2 = true then ((impl_makeOf.f k3 qh (wrap64 ((wrap64 (a1 * a0_1)) + (wrap64 (a3 * a2_1)))) (a3 != 0)).bind fun qm => (some (qm.1, qm.2.1, qm.2.2.1, qm.2.2.2))) else ((impl_makeOf.f k3 qh (wrap64 ((wrap64 (a1 * a0_1)) + (wrap64 (a3 * a2_1)))) false).bind fun qn => (some (qn.1, qn.2.1, qn.2.2.1, qn.2.2.2)))) else ((impl_makeOf.f k3 qh (wrap64 ((wrap64 (a1 * a0_1)) + (wrap64 (a3 * a2_1)))) true).bind fun qr => (some (qr.1, qr.2.1, qr.2.2.1, qr.2.2.2)))) = some (r1, r2, r3, r4) := by rw [if_pos rfl] at H; exact H
    clear H
    have H := H1
    clear H1
    by_cases c62 : a1 = 0
    rotate_left
    ·
     rw [if_neg c62] at H
     have zC : (a1 == 0) = false := beq_eq_false_iff_ne.mpr c62
     have zD : (a1 != 0) = true := bne_iff_ne.mpr c62
     replace H := be_ H
     obtain ⟨⟨qY, qZ, q0, zE⟩, A820, H⟩ := H
     replace H : (some (qY, qZ, q0, zE)) = some (r1, r2, r3, r4) := H
     have A82 := Aside0.mk A820
     clear A820
     simp only [Option.some.injEq, Prod.mk.injEq] at H
     obtain ⟨rfl, rfl, rfl, rfl⟩ := H
     have ZM := qi.out
     have ZN := qj.out
     have ZO := qf.out
     have ZP := qg.out
     obtain ⟨jR, jS, jT, jU, jV, jW⟩ := b3_ qa
     have ZQ := qk.out
     have ZR := ql.out
     obtain ⟨jX, jY, jZ, j2, j3, j4⟩ := b3_ qc
     go_wp2_with (first | ((with_reducible refine gate_callee (f := 108) rfl ?_); refine gL_ (some 97) Try.func108 #[.slice qB qh.length qC, .int .i64 (wrap64 ((wrap64 (a1 * a0_1)) + (wrap64 (a3 * a2_1)))), .bool true] ?_; (with_reducible refine (impl_makeOf.calls k3 _ _ qh (wrap64 ((wrap64 (a1 * a0_1)) + (wrap64 (a3 * a2_1)))) true qY qZ q0 zE _ ?side1 ?side2 A82.out).mono ?_); (case side1 => exact cr_ qd); (case side2 => exact (Kd.R_reads' qd.out).2.1); rintro e Jl ⟨Ja, rfl, ho0, hb⟩; refine ⟨_, rfl, ?_⟩; have qN := Aside0.mk (Kd.R_lower (Kd.R_new' ho0 (Kd.R_lt (rm_ qd))) (bz_ HB)); replace qd := Aside0.mk (Kd.R_elder' (rm_ qd) (Kd.R_base ho0) hb); replace qa := kB_ qa hb; replace qc := kB_ qc hb; replace qb := kB_ qb hb; replace HB := bS_ HB hb; clear hb ho0; obtain ⟨QU, QV, eo89⟩ := Kd.R_slice qN.out; subst eo89; obtain ⟨j5, j6, j7, j8, j9, Qa⟩ := b3_ qb))
     refine bodyPost_ret (results_ct rfl _ _ qq 52 #[.slice QU qY.length QV, .int .i64 qZ, .bool q0] (0, 0) _ rfl (kp_ qb) Try.underlying52 rfl (by kernel_rfl)) rfl ?_
     exact ⟨_, rt_ ⟨Kd.R_mono (rg_ qN qb) (fun _ hk => trivial), bb_ HB⟩⟩
    rw [if_pos c62] at H
    have zC : (a1 == 0) = true := beq_iff_eq.mpr c62
    have zD : (a1 != 0) = false := bne_eq_false_iff_eq.mpr c62
    clear c62
    by_cases c63 : a2_2 = true
    ·
     subst c63
     have H1 : ((impl_makeOf.f k3 qh (wrap64 ((wrap64 (a1 * a0_1)) + (wrap64 (a3 * a2_1)))) (a3 != 0)).bind fun qm => (some (qm.1, qm.2.1, qm.2.2.1, qm.2.2.2))) = some (r1, r2, r3, r4) := by rw [if_pos rfl] at H; exact H
     clear H
     have H := H1
     clear H1
     replace H := be_ H
     obtain ⟨⟨q1, q2, q3, zF⟩, A640, H⟩ := H
     replace H : (some (q1, q2, q3, zF)) = some (r1, r2, r3, r4) := H
     have A64 := Aside0.mk A640
     clear A640
     simp only [Option.some.injEq, Prod.mk.injEq] at H
     obtain ⟨rfl, rfl, rfl, rfl⟩ := H
     have ZS := qi.out
     have ZT := qj.out
     have ZU := qf.out
     have ZV := qg.out
     obtain ⟨Qb, Qc, Qd, Qe, Qf, Qg⟩ := b3_ qa
     have ZW := qk.out
     have ZX := ql.out
     obtain ⟨Qh, Qi, Qj, Qk, Ql, Qm⟩ := b3_ qc
     go_wp2_with (first | ((with_reducible refine gate_callee (f := 108) rfl ?_); refine gL_ (some 97) Try.func108 #[.slice qB qh.length qC, .int .i64 (wrap64 ((wrap64 (a1 * a0_1)) + (wrap64 (a3 * a2_1)))), .bool (a3 != 0)] ?_; (with_reducible refine (impl_makeOf.calls k3 _ _ qh (wrap64 ((wrap64 (a1 * a0_1)) + (wrap64 (a3 * a2_1)))) (a3 != 0) q1 q2 q3 zF _ ?side1 ?side2 A64.out).mono ?_); (case side1 => exact cr_ qd); (case side2 => exact (Kd.R_reads' qd.out).2.1); rintro e Jm ⟨Jb, rfl, ho0, hb⟩; refine ⟨_, rfl, ?_⟩; have qO := Aside0.mk (Kd.R_lower (Kd.R_new' ho0 (Kd.R_lt (rm_ qd))) (bz_ HB)); replace qd := Aside0.mk (Kd.R_elder' (rm_ qd) (Kd.R_base ho0) hb); replace qa := kB_ qa hb; replace qc := kB_ qc hb; replace qb := kB_ qb hb; replace HB := bS_ HB hb; clear hb ho0; obtain ⟨QW, QX, eo71⟩ := Kd.R_slice qO.out; subst eo71; obtain ⟨Qn, Qo, Qp, Qq, Qr, Qs⟩ := b3_ qb))
     refine bodyPost_ret (results_ct rfl _ _ qq 52 #[.slice QW q1.length QX, .int .i64 q2, .bool q3] (0, 0) _ rfl (kp_ qb) Try.underlying52 rfl (by kernel_rfl)) rfl ?_
     exact ⟨_, rt_ ⟨Kd.R_mono (rg_ qO qb) (fun _ hk => trivial), bb_ HB⟩⟩
    replace c63 := Bool.eq_false_iff.mpr c63
    subst c63
    have H1 : ((impl_makeOf.f k3 qh (wrap64 ((wrap64 (a1 * a0_1)) + (wrap64 (a3 * a2_1)))) false).bind fun qn => (some (qn.1, qn.2.1, qn.2.2.1, qn.2.2.2))) = some (r1, r2, r3, r4) := by rw [if_neg (show ¬ (false = true) by decide)] at H; exact H
    clear H
    have H := H1
    clear H1
    replace H := be_ H
    obtain ⟨⟨q4, q5, q6, zG⟩, A730, H⟩ := H
    replace H : (some (q4, q5, q6, zG)) = some (r1, r2, r3, r4) := H
    have A73 := Aside0.mk A730
    clear A730
    simp only [Option.some.injEq, Prod.mk.injEq] at H
    obtain ⟨rfl, rfl, rfl, rfl⟩ := H
    have ZY := qi.out
    have ZZ := qj.out
    have Z0 := qf.out
    have Z1 := qg.out
    obtain ⟨Qt, Qu, Qv, Qw, Qx, Qy⟩ := b3_ qa
    have Z2 := qk.out
    have Z3 := ql.out
    obtain ⟨Qz, QA, QB, QC, QD, QE⟩ := b3_ qc
    go_wp2_with (first | ((with_reducible refine gate_callee (f := 108) rfl ?_); refine gL_ (some 97) Try.func108 #[.slice qB qh.length qC, .int .i64 (wrap64 ((wrap64 (a1 * a0_1)) + (wrap64 (a3 * a2_1)))), .bool false] ?_; (with_reducible refine (impl_makeOf.calls k3 _ _ qh (wrap64 ((wrap64 (a1 * a0_1)) + (wrap64 (a3 * a2_1)))) false q4 q5 q6 zG _ ?side1 ?side2 A73.out).mono ?_); (case side1 => exact cr_ qd); (case side2 => exact (Kd.R_reads' qd.out).2.1); rintro e Jn ⟨Jc, rfl, ho0, hb⟩; refine ⟨_, rfl, ?_⟩; have qP := Aside0.mk (Kd.R_lower (Kd.R_new' ho0 (Kd.R_lt (rm_ qd))) (bz_ HB)); replace qd := Aside0.mk (Kd.R_elder' (rm_ qd) (Kd.R_base ho0) hb); replace qa := kB_ qa hb; replace qc := kB_ qc hb; replace qb := kB_ qb hb; replace HB := bS_ HB hb; clear hb ho0; obtain ⟨QY, QZ, eo80⟩ := Kd.R_slice qP.out; subst eo80; obtain ⟨QF, QG, QH, QI, QJ, QK⟩ := b3_ qb))
    refine bodyPost_ret (results_ct rfl _ _ qq 52 #[.slice QY q4.length QZ, .int .i64 q5, .bool q6] (0, 0) _ rfl (kp_ qb) Try.underlying52 rfl (by kernel_rfl)) rfl ?_
    exact ⟨_, rt_ ⟨Kd.R_mono (rg_ qP qb) (fun _ hk => trivial), bb_ HB⟩⟩

end Go.Proofs.Ytkicjflhokckgaa.PFnExactIsEmptyCell
