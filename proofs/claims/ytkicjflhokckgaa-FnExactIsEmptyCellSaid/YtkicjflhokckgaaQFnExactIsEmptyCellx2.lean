/- The functions that the law FnExactIsEmptyCell reaches, each as a Lean function with the same answers, and the proof that the call comes to exactly these: turned by program out of the printed texts. No condition but those that each theorem names. -/
import Derived.Test.YtkicjflhokckgaaQFnExactIsEmptyCellx0
import Derived.Test.YtkicjflhokckgaaQFnExactIsEmptyCellx1
namespace Go.Proofs.Ytkicjflhokckgaa.PFnExactIsEmptyCell
open Go.RowKit Go.Proofs.YtkicjflhokckgaaW.PrintWords Go.Proofs.YtkicjflhokckgaaW.PrintLast Go.Proofs.YtkicjflhokckgaaW.PrintMore
attribute [local go_sem] max2_int min2_int max_two min_two max_three min_three max_four min_four   -- for this text's walks alone
set_option linter.unusedVariables false
set_option linter.unusedSimpArgs false

/-! ### spec_l3Put: function 91 -/
mutual
def spec_l3Put.j1 : Nat → List (S52) → Int → List Int → Int → Bool → Option ((List (S52)))
 | 0, _, _, _, _, _ => none
 | k + 1, x0, x5, x182000, x182001, x182002 => if x5 < (x0.length : Int) then (if 0 ≤ x5 then ((spec_l2Way.f k ((rd_T52 x0 x5).f0) ((rd_T52 x0 x5).f1) ((rd_T52 x0 x5).f2) x182000 x182001 x182002).bind fun qV => (spec_l3Put.j2 k x0 x5 (qV == 0) x182000 x182001 x182002)) else (none)) else (spec_l3Put.j2 k x0 x5 false x182000 x182001 x182002)
def spec_l3Put.j2 : Nat → List (S52) → Int → Bool → List Int → Int → Bool → Option ((List (S52)))
 | 0, _, _, _, _, _, _ => none
 | k + 1, x0, x5, x34, x182000, x182001, x182002 => if x34 = true then (if 0 ≤ x5 then (if x5 < (x0.length : Int) then ((spec_l2Stronger.f k ((rd_T52 x0 x5).f0) ((rd_T52 x0 x5).f1) ((rd_T52 x0 x5).f2) x182000 x182001 x182002).bind fun qO => (if qO = true then (some x0) else ((some (([] : List (S52)) : List (S52))).bind fun y188 => (if y188.length + x0.length < 3518437208883 then ((some (y188 ++ x0 : List (S52))).bind fun y191 => (if x5 < (y191.length : Int) then (some (y191.set (x5 : Int).toNat (⟨x182000, x182001, x182002⟩ : S52))) else (none))) else (none))))) else (none)) else (none)) else ((some (([] : List (S52)) : List (S52))).bind fun y195 => (if 0 ≤ x5 then (if x5 ≤ (x0.length : Int) then ((some (x0.take (x5 : Int).toNat : List (S52))).bind fun y198 => (if y195.length + y198.length < 3518437208883 then ((some (y195 ++ y198 : List (S52))).bind fun y203 => ((some (([(⟨x182000, x182001, x182002⟩ : S52)] : List (S52)) : List (S52))).bind fun y206 => (if y203.length + y206.length < 3518437208883 then ((some (y203 ++ y206 : List (S52))).bind fun y209 => ((some (x0.drop (x5 : Int).toNat : List (S52))).bind fun y212 => (if y209.length + y212.length < 3518437208883 then (some (y209 ++ y212)) else (none)))) else (none)))) else (none))) else (none)) else (none)))
def spec_l3Put.l0 : Nat → List (S52) → Int → List Int → Int → Bool → Option ((List (S52)))
 | 0, _, _, _, _, _ => none
 | k + 1, x0, x5, x182000, x182001, x182002 => if x5 < (x0.length : Int) then (if 0 ≤ x5 then ((spec_l2Way.f k ((rd_T52 x0 x5).f0) ((rd_T52 x0 x5).f1) ((rd_T52 x0 x5).f2) x182000 x182001 x182002).bind fun qL => (if qL < 0 then (spec_l3Put.l0 k x0 (wrap64 (x5 + 1)) x182000 x182001 x182002) else (spec_l3Put.j1 k x0 x5 x182000 x182001 x182002))) else (none)) else (spec_l3Put.j1 k x0 x5 x182000 x182001 x182002)
end
def spec_l3Put.f (k : Nat) (l0 : List (S52)) (l1_0 : List Int) (a1_1 : Int) (a1_2 : Bool) : Option ((List (S52))) := spec_l3Put.l0 k l0 0 l1_0 a1_1 a1_2
theorem spec_l3Put.mono_l : ∀ k, (∀ y0 y1 y2 y3 y4, LeO (spec_l3Put.j1 k y0 y1 y2 y3 y4) (spec_l3Put.j1 (k + 1) y0 y1 y2 y3 y4)) ∧ (∀ y0 y1 y2 y3 y4 y5, LeO (spec_l3Put.j2 k y0 y1 y2 y3 y4 y5) (spec_l3Put.j2 (k + 1) y0 y1 y2 y3 y4 y5)) ∧ (∀ y0 y1 y2 y3 y4, LeO (spec_l3Put.l0 k y0 y1 y2 y3 y4) (spec_l3Put.l0 (k + 1) y0 y1 y2 y3 y4))
 | 0 => ⟨fun _ _ _ _ _ r h => by simp [spec_l3Put.j1] at h, fun _ _ _ _ _ _ r h => by simp [spec_l3Put.j2] at h, fun _ _ _ _ _ r h => by simp [spec_l3Put.l0] at h⟩
 | k + 1 => by
  obtain ⟨ih0, ih1, ih2⟩ := spec_l3Put.mono_l k
  refine ⟨?_, ?_, ?_⟩ <;> (intros; first | unfold spec_l3Put.j1 | unfold spec_l3Put.j2 | unfold spec_l3Put.l0)
  all_goals
   repeat' first
   | (with_reducible exact ih0 _ _ _ _ _)
   | (with_reducible exact ih1 _ _ _ _ _ _)
   | (with_reducible exact ih2 _ _ _ _ _)
   | (with_reducible exact spec_l2Stronger.mono _ _ _ _ _ _ _)
   | (with_reducible exact spec_l2Way.mono _ _ _ _ _ _ _)
   | (with_reducible exact LeO.refl _)
   | (with_reducible exact LeO.none _)
   | (with_reducible refine LeO.ite ?_ ?_)
   | (with_reducible refine LeO.bind ?_ (fun _ => ?_))
theorem spec_l3Put.mono : ∀ a0 a1 a2 a3 k, LeO (spec_l3Put.f k a0 a1 a2 a3) (spec_l3Put.f (k + 1) a0 a1 a2 a3) := by
 intro a0 a1 a2 a3 k
 obtain ⟨ih0, ih1, ih2⟩ := spec_l3Put.mono_l k
 unfold spec_l3Put.f
 repeat' first
   | (with_reducible exact ih0 _ _ _ _ _)
   | (with_reducible exact ih1 _ _ _ _ _ _)
   | (with_reducible exact ih2 _ _ _ _ _)
   | (with_reducible exact spec_l2Stronger.mono _ _ _ _ _ _ _)
   | (with_reducible exact spec_l2Way.mono _ _ _ _ _ _ _)
   | (with_reducible exact LeO.refl _)
   | (with_reducible exact LeO.none _)
   | (with_reducible refine LeO.ite ?_ ?_)
   | (with_reducible refine LeO.bind ?_ (fun _ => ?_))
def spec_l3Put.T2 : Bool × List (List Nat × List Nat) := (true, [([], []), ([], []), ([1], [1]), ([0, 2], [0, 2]), ([3], [3]), ([4], [4]), ([4], [4]), ([5, 6, 4], [4, 5, 6]), ([7, 4], [4, 7]), ([4], [4]), ([8, 9, 4, 4], [4, 8, 9]), ([10, 4], [4, 10]), ([4, 11], [4, 11])])
def spec_l3Put.B2 : List Nat := [0, 0, 2, 7, 15, 31, 31, 127, 255, 31, 1023, 2047, 4095]
theorem spec_l3Put.tab2 : rtab .any (opsOf Try.f91 2) = spec_l3Put.T2 := by kernel_rfl
theorem spec_l3Put.bits2 : waitsOk spec_l3Put.T2.2 spec_l3Put.B2 = true := by kernel_rfl
def spec_l3Put.T4 : Bool × List (List Nat × List Nat) := (true, [([], []), ([], []), ([1], [1]), ([0, 2], [0, 2]), ([3], [3]), ([4], [4]), ([4], [4]), ([5, 6, 4], [4, 5, 6]), ([7, 4], [4, 7]), ([4], [4]), ([8, 9, 4, 4], [4, 8, 9]), ([10, 4], [4, 10]), ([4, 11], [4, 11])])
def spec_l3Put.B4 : List Nat := [0, 0, 2, 7, 15, 31, 31, 127, 255, 31, 1023, 2047, 4095]
theorem spec_l3Put.tab4 : rtab .any (opsOf Try.f91 4) = spec_l3Put.T4 := by kernel_rfl
theorem spec_l3Put.bits4 : waitsOk spec_l3Put.T4.2 spec_l3Put.B4 = true := by kernel_rfl
def spec_l3Put.T10 : Bool × List (List Nat × List Nat) := (true, [([], []), ([], []), ([], []), ([1, 2], [1, 2]), ([0, 3], [0, 3]), ([], []), ([5], [5]), ([4, 6, 4], [4, 6]), ([], []), ([], []), ([8, 9], [8, 9]), ([7, 10, 7], [7, 10]), ([11, 11, 0, 1, 2, 3, 4, 5, 6, 7, 8, 9, 10, 11], [11])])
def spec_l3Put.B10 : List Nat := [0, 0, 0, 6, 15, 0, 32, 127, 0, 0, 768, 2047, 4095]
theorem spec_l3Put.tab10 : rtab .any (opsOf Try.f91 10) = spec_l3Put.T10 := by kernel_rfl
theorem spec_l3Put.bits10 : waitsOk spec_l3Put.T10.2 spec_l3Put.B10 = true := by kernel_rfl
set_option maxHeartbeats 8000000 in
set_option maxRecDepth 100000 in
theorem spec_l3Put.calls (k : Nat) (P0_ : Nat → Prop) (A0 : Option Addr) (c0 : Nat) (l0 : List (S52)) (P1_0_ : Nat → Prop) (A1_0 : Option Addr) (c1_0 : Nat) (l1_0 : List Int) (a1_1 : Int) (a1_2 : Bool) (r : List (S52)) (w : World) (hs0 : Kd.V k52 52 w w.heap.size (fun k_ => P0_ k_) (.slice A0 l0.length c0) l0) (hs1_0 : Kd.V (Kd.int .i64) 3 w w.heap.size (fun k_ => P1_0_ k_) (.slice A1_0 l1_0.length c1_0) l1_0) (h : spec_l3Put.f k l0 l1_0 a1_1 a1_2 = some r) :
  Calls Try.prog 91 #[.slice A0 l0.length c0, .agg #[.slice A1_0 l1_0.length c1_0, .int .i64 a1_1, .bool a1_2]] w fun e w' => ∃ v0_ : Value, e = .returned (v0_) ∧ Kd.V k52 52 w' w.heap.size (fun k_ => ((P0_ k_ ∨ P1_0_ k_) ∨ w.heap.size ≤ k_)) v0_ r ∧ Below w.heap.size w w' := by
 have hu52 := Try.underlying52
 have ze := Aside0.mk (show Kd.V k52 52 w w.heap.size (fun k_ => ((P0_ k_ ∨ P1_0_ k_) ∨ w.heap.size ≤ k_)) (.slice A0 l0.length c0) l0 from Kd.V_mono hs0 (fun k_ hk => .inl (.inl hk)))
 have qP := Aside0.mk (show Kd.V (Kd.int .i64) 3 w w.heap.size (fun k_ => ((P0_ k_ ∨ P1_0_ k_) ∨ w.heap.size ≤ k_)) (.slice A1_0 l1_0.length c1_0) l1_0 from Kd.V_mono hs1_0 (fun k_ hk => .inl (.inr hk)))
 have HB := Aside0.mk (Below.refl w.heap.size w)
 have H : (spec_l3Put.l0 k l0 0 l1_0 a1_1 a1_2) = some r := h
 clear h
 have HC3 := Aside0.mk H
 clear H
 go_enter Try.func91, Try.ntmps91
 go_upto_block 0 with (first | ((with_reducible refine gate_dst (N := 3) rfl ?_); refine bx_ (cs := #[.slice A1_0 l1_0.length c1_0, .int .i64 a1_1, .bool a1_2]) (t := 52) ?_; intro qc hg w4 hbox hb; replace ze := vE_ ze hg hb; replace qP := vE_ qP hg hb; have qb := Aside0.mk (hbox); have zm := hz_ HB hg; have zn := hz_ HB hg; replace HB := bS_ HB hb; clear hb hbox hg))
 (try simp only [Act.put, sa_, s0_, s1_])
 go_cut [5] (fun v5 wc => ∃ (kq : Nat) (qd : Int), v5 = .int .i64 qd ∧ Aside0 (spec_l3Put.j1 kq l0 qd l1_0 a1_1 a1_2 = some r) ∧ Aside0 (kq ≤ k) ∧ Aside0 (Kd.V k52 52 wc w.heap.size (fun k_ => ((P0_ k_ ∨ P1_0_ k_) ∨ w.heap.size ≤ k_) ∧ k_ ≠ qc) (.slice A0 l0.length c0) l0) ∧ Aside0 (Kd.V (Kd.int .i64) 3 wc w.heap.size (fun k_ => ((P0_ k_ ∨ P1_0_ k_) ∨ w.heap.size ≤ k_) ∧ k_ ≠ qc) (.slice A1_0 l1_0.length c1_0) l1_0) ∧ Aside0 (wc.heap[qc]? = some (.cells #[(.slice A1_0 l1_0.length c1_0), .int .i64 a1_1, .bool a1_2] 52 (0, 0))) ∧ Aside0 (Below w.heap.size w wc))
 case first =>
  have H := HC3.out
  clear HC3
  have H' := Aside0.mk H
  clear H
  go_wp2
  go_loopg [5] k (fun kq v5 w' => ∃ (qf : Int), v5 = .int .i64 qf ∧ Aside0 (spec_l3Put.l0 kq l0 qf l1_0 a1_1 a1_2 = some r) ∧ Aside0 (kq ≤ k) ∧ Aside0 (Kd.V k52 52 w' w.heap.size (fun k_ => ((P0_ k_ ∨ P1_0_ k_) ∨ w.heap.size ≤ k_) ∧ k_ ≠ qc) (.slice A0 l0.length c0) l0) ∧ Aside0 (Kd.V (Kd.int .i64) 3 w' w.heap.size (fun k_ => ((P0_ k_ ∨ P1_0_ k_) ∨ w.heap.size ≤ k_) ∧ k_ ≠ qc) (.slice A1_0 l1_0.length c1_0) l1_0) ∧ Aside0 (w'.heap[qc]? = some (.cells #[(.slice A1_0 l1_0.length c1_0), .int .i64 a1_1, .bool a1_2] 52 (0, 0))) ∧ Aside0 (Below w.heap.size w w'))
  case atStart => exact ⟨(0), (by first | rfl | (simp; done) | (simp [*]; done)), H', ⟨Nat.le_refl _⟩, ⟨by (with_reducible repeat (first | apply Kd.V_alloc | apply Kd.V_drewN | apply Kd.V_drew)); exact ze.out⟩, ⟨by (with_reducible repeat (first | apply Kd.V_alloc | apply Kd.V_drewN | apply Kd.V_drew)); exact qP.out⟩, ⟨kf_ qb⟩, ⟨bb_ HB⟩⟩
  clear H'
  obtain ⟨qf, rfl, HA, HK1, qe, qa, qb, HB⟩ := hrel
  cases gk with
  | zero => exact absurd HA.out (by simp [spec_l3Put.l0])
  | succ k1 =>
   have H := HA.out
   clear HA
   simp only [spec_l3Put.l0] at H
   by_cases c5 : qf < (l0.length : Int)
   rotate_left
   ·
    rw [if_neg c5] at H
    have qQ : decide (qf < (l0.length : Int)) = false := decide_eq_false c5
    clear c5
    (first | rw [qQ] | (simp only [i64_w, i32_w]; rw [qQ]) | skip)
    have H' := Aside0.mk H
    clear H
    try go_wp2
    replace qe := Aside0.mk (Kd.V_drew qe.out); replace qa := Aside0.mk (Kd.V_drew qa.out); replace qb := Aside0.mk (blk_drew qb.out); replace HB := Aside0.mk (below_drew1 HB.out)
    refine start_ (n := 13) (S := fun w' => True) (ds := []) (fl_ 13 0) (by kernel_rfl) rfl rfl trivial (fun hHeld => ?_); refine with_tabW spec_l3Put.tab2 spec_l3Put.bits2 (fun HT_ HW_ => ?_)
    generalize wr.drew = zF at qe qa qb HB hHeld ⊢
    refine pX_ 0 (some 7) (fl_ 13 1) HT_ ?_
    refine pX_ 1 (some 8) (fl_ 13 3) HT_ ?_
    refine pX_ 2 (some 9) (fl_ 13 7) HT_ ?_
    refine pX_ 3 (some 10) (fl_ 13 15) HT_ ?_
    refine pX_ 4 (some 11) (fl_ 13 31) HT_ ?_
    refine pU_ 5 (some 12) (fl_ 13 63) HT_ ?_
    refine pU_ 6 (some 13) (fl_ 13 127) HT_ ?_
    refine pU_ 7 (some 14) (fl_ 13 255) HT_ ?_
    refine pU_ 8 (some 15) (fl_ 13 511) HT_ ?_
    refine pU_ 9 (some 16) (fl_ 13 1023) HT_ ?_
    refine pU_ 10 (some 17) (fl_ 13 2047) HT_ ?_
    refine pU_ 11 (some 18) (fl_ 13 4095) HT_ ?_
    refine pX_ 12 (some 19) (fl_ 13 8191) HT_ ?_
    refine done_ (done_of HT_.out (by kernel_rfl)) ?_
    try go_wp2
    go_meet
    case rel => exact ⟨_, (qf), (by first | rfl | (simp; done) | (simp [*]; done)), H', ⟨by have := HK1.out; first | omega | exact Nat.le_refl _⟩, ⟨by (with_reducible repeat (first | apply Kd.V_alloc | apply Kd.V_drewN | apply Kd.V_drew)); exact qe.out⟩, ⟨by (with_reducible repeat (first | apply Kd.V_alloc | apply Kd.V_drewN | apply Kd.V_drew)); exact qa.out⟩, ⟨kf_ qb⟩, ⟨bb_ HB⟩⟩
   rw [if_pos c5] at H
   have qQ : decide (qf < (l0.length : Int)) = true := decide_eq_true c5
   clear c5
   (first | rw [qQ] | (simp only [i64_w, i32_w]; rw [qQ]) | skip)
   replace H := ip_ H
   obtain ⟨c6, H⟩ := H
   have zz : decide (0 ≤ qf) = true := decide_eq_true c6
   clear c6
   replace H := be_ H
   obtain ⟨qL, A70, H⟩ := H
   have A7 := Aside0.mk A70
   clear A70
   by_cases c8 : qL < 0
   rotate_left
   ·
    rw [if_neg c8] at H
    have zf : decide (qL < 0) = false := decide_eq_false c8
    clear c8
    have H' := Aside0.mk H
    clear H
    try go_wp2
    replace qe := Aside0.mk (Kd.V_drew qe.out); replace qa := Aside0.mk (Kd.V_drew qa.out); replace qb := Aside0.mk (blk_drew qb.out); replace HB := Aside0.mk (below_drew1 HB.out)
    have p182 : 0 ≤ (qf : Int) := od_
    have q182 : qf < (l0.length : Int) := od_
    obtain ⟨qs, qA, c182_0, e182, qo, qu, qv, hl182_0, hi182_0⟩ := at_T52 (Kd.V_reads' qe.out).2.2 qf p182 q182
    cases e182
    obtain ⟨ce182, hce182, hMe182, hcc182⟩ := Kd.V_get qe.out z52 qf p182 (by first | exact q182 | exact od_ | (have e_ := (Kd.V_reads' qe.out).1; omega))
    obtain ⟨ua182_0, uc182_0, rfl, ul182_0, ge182_0⟩ := k52_openF hMe182
    have hv182_0 := hcc182 0 _ rfl
    rw [Nat.add_zero] at hv182_0
    replace hv182_0 := Option.some.inj (hv182_0.symm.trans qo)
    injection hv182_0 with hva_ hvn_ hvc_
    rw [hva_] at ge182_0
    rw [hvc_] at ul182_0
    have HL182_0 := Aside0.mk (show Kd.V (Kd.int .i64) 3 _ w.heap.size _ _ ((rd_T52 l0 qf).f0) from Kd.V_mk ul182_0 ge182_0)
    clear hva_ hvn_ hvc_ ge182_0 ul182_0
    clear hcc182 hce182
    have qk := Aside0.mk hi182_0
    have qC := Aside0.mk hl182_0
    clear hi182_0 hl182_0
    replace p182 := eq_true p182
    replace q182 := eq_true q182
    refine start_ (n := 13) (S := fun w' => w'.cell? ⟨qc, 0, none⟩ = some (.slice A1_0 l1_0.length c1_0) ∧ w'.cell? ⟨qc, 1, none⟩ = some (.int .i64 a1_1) ∧ w'.cell? ⟨qc, 2, none⟩ = some (.bool a1_2) ∧ w'.cell? (qs.add ((qf).toNat * 3)) = some (.slice qA ((rd_T52 l0 qf).f0).length c182_0) ∧ w'.cell? ⟨(qs.add ((qf).toNat * 3)).block, (qs.add ((qf).toNat * 3)).off + 1, none⟩ = some (.int .i64 ((rd_T52 l0 qf).f1)) ∧ w'.cell? ⟨(qs.add ((qf).toNat * 3)).block, (qs.add ((qf).toNat * 3)).off + 2, none⟩ = some (.bool ((rd_T52 l0 qf).f2))) (ds := []) (fl_ 13 0) (by kernel_rfl) rfl rfl ⟨bc_ qb 0, bc_ qb 1, bc_ qb 2, qo, qu, qv⟩ (fun hHeld => ?_); refine with_tabW spec_l3Put.tab2 spec_l3Put.bits2 (fun HT_ HW_ => ?_)
    generalize wr.drew = zG at qe qa qb HB HL182_0 qk qo qu qv hHeld ⊢
    refine pX_ 0 (some 7) (fl_ 13 1) HT_ ?_
    refine pX_ 1 (some 8) (fl_ 13 3) HT_ ?_
    refine pX_ 2 (some 9) (fl_ 13 7) HT_ ?_
    refine pX_ 3 (some 10) (fl_ 13 15) HT_ ?_
    refine pX_ 4 (some 11) (fl_ 13 31) HT_ ?_
    refine pX_ 5 (some 12) (fl_ 13 63) HT_ ?_
    refine pX_ 6 (some 13) (fl_ 13 127) HT_ ?_
    refine pX_ 7 (some 14) (fl_ 13 255) HT_ ?_
    refine tX_ 8 (some 15) (fl_ 13 511) rfl rfl HT_ HW_ hHeld (by rintro w' ⟨s0, s1, s2, s3, s4, s5⟩; go_simp; with_reducible rfl) ?_
    refine tX_ 9 (some 16) (fl_ 13 1023) rfl rfl HT_ HW_ hHeld (by rintro w' ⟨s0, s1, s2, s3, s4, s5⟩; go_simp; with_reducible rfl) ?_
    refine one_ (i := 10) (N := some 17) (fl_ 13 2047) rfl rfl (one_of HT_.out (by kernel_rfl)) (by decide) (fun K hK => ?_)
    refine goes_ Try.func113 (by kernel_rfl) rfl #[.agg #[.slice qA ((rd_T52 l0 qf).f0).length c182_0, .int .i64 ((rd_T52 l0 qf).f1), .bool ((rd_T52 l0 qf).f2)], .agg #[.slice A1_0 l1_0.length c1_0, .int .i64 a1_1, .bool a1_2]] (by rfl) rfl rfl (by (try simp only [List.map_toArray, List.map_cons, List.map_nil]); first | done | rfl | (simp only [List.length_drop, List.length_take]; rfl)) ?_
    with_reducible refine (spec_l2Way.calls k1 _ _ ((rd_T52 l0 qf).f0) ((rd_T52 l0 qf).f1) ((rd_T52 l0 qf).f2) _ _ l1_0 a1_1 a1_2 qL _ ?side1 ?side2 ?side3 ?side4 A7.out).mono ?_
    (case side1 => repeat (first | exact (by repeat (first | (with_reducible exact qk.out) | (with_reducible refine Kd.C_alloc ?_ _) | (with_reducible refine Kd.C_drewN ?_ _) | (with_reducible refine Kd.C_drew ?_) | exact qk.out)) | (with_reducible refine Kd.C_alloc ?_ _) | (with_reducible refine Kd.C_drewN ?_ _) | (with_reducible refine Kd.C_drew ?_)))
    (case side2 => exact qC.out)
    (case side3 => repeat (first | exact (Kd.V_reads' qa.out).2.2 | (with_reducible refine Kd.C_alloc ?_ _) | (with_reducible refine Kd.C_drewN ?_ _) | (with_reducible refine Kd.C_drew ?_)))
    (case side4 => exact (Kd.V_reads' qa.out).2.1)
    rintro e zH ⟨rfl, hb⟩
    have HS3_ := (hb.cell (World.block_lt_of_cell? _ _ (hHeld.2.2.2.1))).trans (hHeld.2.2.2.1)
    have HS4_ := (hb.cell (World.block_lt_of_cell? _ _ (hHeld.2.2.2.2.1))).trans (hHeld.2.2.2.2.1)
    have HS5_ := (hb.cell (World.block_lt_of_cell? _ _ (hHeld.2.2.2.2.2))).trans (hHeld.2.2.2.2.2)
    refine ⟨_, rfl, ?_⟩
    replace qe := vB_ qe hb; replace qa := vB_ qa hb; replace HL182_0 := vB_ HL182_0 hb; replace qb := kB_ qb hb; replace qk := cB_ qk hb; replace HB := bS_ HB hb; (try clear hb); (try clear hb2); (try clear hk); (try clear hi)
    refine hK.out _ _ ⟨bc_ qb 0, bc_ qb 1, bc_ qb 2, HS3_, HS4_, HS5_⟩ (fun hHeld => ?_)
    clear hK K
    refine norm_ (a' := ?_) ?_ ?_
    rotate_left
    ·
     show Act.put _ (some 17) _ = _
     simp only [Act.put, sa_, s0_, s1_, i64_w, i32_w]
     rfl
    refine pX_ 11 (some 18) (fl_ 13 4095) HT_ ?_
    refine pX_ 12 (some 19) (fl_ 13 8191) HT_ ?_
    refine done_ (done_of HT_.out (by kernel_rfl)) ?_
    try go_wp2
    go_meet
    case rel => exact ⟨_, (qf), (by first | rfl | (simp; done) | (simp [*]; done)), H', ⟨by have := HK1.out; first | omega | exact Nat.le_refl _⟩, ⟨by (with_reducible repeat (first | apply Kd.V_alloc | apply Kd.V_drewN | apply Kd.V_drew)); exact qe.out⟩, ⟨by (with_reducible repeat (first | apply Kd.V_alloc | apply Kd.V_drewN | apply Kd.V_drew)); exact qa.out⟩, ⟨kf_ qb⟩, ⟨bb_ HB⟩⟩
   rw [if_pos c8] at H
   have zf : decide (qL < 0) = true := decide_eq_true c8
   clear c8
   have H' := Aside0.mk H
   clear H
   try go_wp2
   replace qe := Aside0.mk (Kd.V_drew qe.out); replace qa := Aside0.mk (Kd.V_drew qa.out); replace qb := Aside0.mk (blk_drew qb.out); replace HB := Aside0.mk (below_drew1 HB.out)
   have p182 : 0 ≤ (qf : Int) := od_
   have q182 : qf < (l0.length : Int) := od_
   obtain ⟨qs, qA, c182_0, e182, qo, qu, qv, hl182_0, hi182_0⟩ := at_T52 (Kd.V_reads' qe.out).2.2 qf p182 q182
   cases e182
   obtain ⟨ce182, hce182, hMe182, hcc182⟩ := Kd.V_get qe.out z52 qf p182 (by first | exact q182 | exact od_ | (have e_ := (Kd.V_reads' qe.out).1; omega))
   obtain ⟨ua182_0, uc182_0, rfl, ul182_0, ge182_0⟩ := k52_openF hMe182
   have hv182_0 := hcc182 0 _ rfl
   rw [Nat.add_zero] at hv182_0
   replace hv182_0 := Option.some.inj (hv182_0.symm.trans qo)
   injection hv182_0 with hva_ hvn_ hvc_
   rw [hva_] at ge182_0
   rw [hvc_] at ul182_0
   have HL182_0 := Aside0.mk (show Kd.V (Kd.int .i64) 3 _ w.heap.size _ _ ((rd_T52 l0 qf).f0) from Kd.V_mk ul182_0 ge182_0)
   clear hva_ hvn_ hvc_ ge182_0 ul182_0
   clear hcc182 hce182
   have qk := Aside0.mk hi182_0
   have qC := Aside0.mk hl182_0
   clear hi182_0 hl182_0
   replace p182 := eq_true p182
   replace q182 := eq_true q182
   refine start_ (n := 13) (S := fun w' => w'.cell? ⟨qc, 0, none⟩ = some (.slice A1_0 l1_0.length c1_0) ∧ w'.cell? ⟨qc, 1, none⟩ = some (.int .i64 a1_1) ∧ w'.cell? ⟨qc, 2, none⟩ = some (.bool a1_2) ∧ w'.cell? (qs.add ((qf).toNat * 3)) = some (.slice qA ((rd_T52 l0 qf).f0).length c182_0) ∧ w'.cell? ⟨(qs.add ((qf).toNat * 3)).block, (qs.add ((qf).toNat * 3)).off + 1, none⟩ = some (.int .i64 ((rd_T52 l0 qf).f1)) ∧ w'.cell? ⟨(qs.add ((qf).toNat * 3)).block, (qs.add ((qf).toNat * 3)).off + 2, none⟩ = some (.bool ((rd_T52 l0 qf).f2))) (ds := []) (fl_ 13 0) (by kernel_rfl) rfl rfl ⟨bc_ qb 0, bc_ qb 1, bc_ qb 2, qo, qu, qv⟩ (fun hHeld => ?_); refine with_tabW spec_l3Put.tab2 spec_l3Put.bits2 (fun HT_ HW_ => ?_)
   generalize wr.drew = w9 at qe qa qb HB HL182_0 qk qo qu qv hHeld ⊢
   refine pX_ 0 (some 7) (fl_ 13 1) HT_ ?_
   refine pX_ 1 (some 8) (fl_ 13 3) HT_ ?_
   refine pX_ 2 (some 9) (fl_ 13 7) HT_ ?_
   refine pX_ 3 (some 10) (fl_ 13 15) HT_ ?_
   refine pX_ 4 (some 11) (fl_ 13 31) HT_ ?_
   refine pX_ 5 (some 12) (fl_ 13 63) HT_ ?_
   refine pX_ 6 (some 13) (fl_ 13 127) HT_ ?_
   refine pX_ 7 (some 14) (fl_ 13 255) HT_ ?_
   refine tX_ 8 (some 15) (fl_ 13 511) rfl rfl HT_ HW_ hHeld (by rintro w' ⟨s0, s1, s2, s3, s4, s5⟩; go_simp; with_reducible rfl) ?_
   refine tX_ 9 (some 16) (fl_ 13 1023) rfl rfl HT_ HW_ hHeld (by rintro w' ⟨s0, s1, s2, s3, s4, s5⟩; go_simp; with_reducible rfl) ?_
   refine one_ (i := 10) (N := some 17) (fl_ 13 2047) rfl rfl (one_of HT_.out (by kernel_rfl)) (by decide) (fun K hK => ?_)
   refine goes_ Try.func113 (by kernel_rfl) rfl #[.agg #[.slice qA ((rd_T52 l0 qf).f0).length c182_0, .int .i64 ((rd_T52 l0 qf).f1), .bool ((rd_T52 l0 qf).f2)], .agg #[.slice A1_0 l1_0.length c1_0, .int .i64 a1_1, .bool a1_2]] (by rfl) rfl rfl (by (try simp only [List.map_toArray, List.map_cons, List.map_nil]); first | done | rfl | (simp only [List.length_drop, List.length_take]; rfl)) ?_
   with_reducible refine (spec_l2Way.calls k1 _ _ ((rd_T52 l0 qf).f0) ((rd_T52 l0 qf).f1) ((rd_T52 l0 qf).f2) _ _ l1_0 a1_1 a1_2 qL _ ?side1 ?side2 ?side3 ?side4 A7.out).mono ?_
   (case side1 => repeat (first | exact (by repeat (first | (with_reducible exact qk.out) | (with_reducible refine Kd.C_alloc ?_ _) | (with_reducible refine Kd.C_drewN ?_ _) | (with_reducible refine Kd.C_drew ?_) | exact qk.out)) | (with_reducible refine Kd.C_alloc ?_ _) | (with_reducible refine Kd.C_drewN ?_ _) | (with_reducible refine Kd.C_drew ?_)))
   (case side2 => exact qC.out)
   (case side3 => repeat (first | exact (Kd.V_reads' qa.out).2.2 | (with_reducible refine Kd.C_alloc ?_ _) | (with_reducible refine Kd.C_drewN ?_ _) | (with_reducible refine Kd.C_drew ?_)))
   (case side4 => exact (Kd.V_reads' qa.out).2.1)
   rintro e zI ⟨rfl, hb⟩
   have HS3_ := (hb.cell (World.block_lt_of_cell? _ _ (hHeld.2.2.2.1))).trans (hHeld.2.2.2.1)
   have HS4_ := (hb.cell (World.block_lt_of_cell? _ _ (hHeld.2.2.2.2.1))).trans (hHeld.2.2.2.2.1)
   have HS5_ := (hb.cell (World.block_lt_of_cell? _ _ (hHeld.2.2.2.2.2))).trans (hHeld.2.2.2.2.2)
   refine ⟨_, rfl, ?_⟩
   replace qe := vB_ qe hb; replace qa := vB_ qa hb; replace HL182_0 := vB_ HL182_0 hb; replace qb := kB_ qb hb; replace qk := cB_ qk hb; replace HB := bS_ HB hb; (try clear hb); (try clear hb2); (try clear hk); (try clear hi)
   refine hK.out _ _ ⟨bc_ qb 0, bc_ qb 1, bc_ qb 2, HS3_, HS4_, HS5_⟩ (fun hHeld => ?_)
   clear hK K
   refine norm_ (a' := ?_) ?_ ?_
   rotate_left
   ·
    show Act.put _ (some 17) _ = _
    simp only [Act.put, sa_, s0_, s1_, i64_w, i32_w]
    rfl
   refine pX_ 11 (some 18) (fl_ 13 4095) HT_ ?_
   refine pX_ 12 (some 19) (fl_ 13 8191) HT_ ?_
   refine done_ (done_of HT_.out (by kernel_rfl)) ?_
   try go_wp2
   go_roundg k1
   case measure => have := HK1.out; omega
   case rel => exact ⟨(wrap64 (qf + 1)), (by first | rfl | (simp; done) | (simp [*]; done)), H', ⟨by have := HK1.out; omega⟩, ⟨by (with_reducible repeat (first | apply Kd.V_alloc | apply Kd.V_drewN | apply Kd.V_drew)); exact qe.out⟩, ⟨by (with_reducible repeat (first | apply Kd.V_alloc | apply Kd.V_drewN | apply Kd.V_drew)); exact qa.out⟩, ⟨kf_ qb⟩, ⟨bb_ HB⟩⟩
 clear HC3
 obtain ⟨kq, qd, rfl, HA, HJ2, qe, qa, qb, HB⟩ := hcut
 cases kq with
 | zero => exact absurd HA.out (by simp [spec_l3Put.j1])
 | succ kj2 =>
  have H := HA.out
  clear HA
  simp only [spec_l3Put.j1] at H
  have HC14 := Aside0.mk H
  clear H
  go_upto_region 4 with (fail)
  go_cut [34] (fun v34 wc => ∃ (kq : Nat) (qD : Bool), v34 = .bool qD ∧ Aside0 (spec_l3Put.j2 kq l0 qd qD l1_0 a1_1 a1_2 = some r) ∧ Aside0 (kq ≤ kj2) ∧ Aside0 (Kd.V k52 52 wc w.heap.size (fun k_ => ((P0_ k_ ∨ P1_0_ k_) ∨ w.heap.size ≤ k_) ∧ k_ ≠ qc) (.slice A0 l0.length c0) l0) ∧ Aside0 (Kd.V (Kd.int .i64) 3 wc w.heap.size (fun k_ => ((P0_ k_ ∨ P1_0_ k_) ∨ w.heap.size ≤ k_) ∧ k_ ≠ qc) (.slice A1_0 l1_0.length c1_0) l1_0) ∧ Aside0 (wc.heap[qc]? = some (.cells #[(.slice A1_0 l1_0.length c1_0), .int .i64 a1_1, .bool a1_2] 52 (0, 0))) ∧ Aside0 (Below w.heap.size w wc))
  case first =>
   have H := HC14.out
   clear HC14
   by_cases c15 : qd < (l0.length : Int)
   rotate_left
   ·
    rw [if_neg c15] at H
    have qG : decide (qd < (l0.length : Int)) = false := decide_eq_false c15
    clear c15
    (first | rw [qG] | (simp only [i64_w, i32_w]; rw [qG]) | skip)
    have H' := Aside0.mk H
    clear H
    try go_wp2
    replace qe := Aside0.mk (Kd.V_drew qe.out); replace qa := Aside0.mk (Kd.V_drew qa.out); replace qb := Aside0.mk (blk_drew qb.out); replace HB := Aside0.mk (below_drew1 HB.out)
    refine start_ (n := 13) (S := fun w' => True) (ds := []) (fl_ 13 0) (by kernel_rfl) rfl rfl trivial (fun hHeld => ?_); refine with_tabW spec_l3Put.tab4 spec_l3Put.bits4 (fun HT_ HW_ => ?_)
    generalize wc.drew = zJ at qe qa qb HB hHeld ⊢
    refine pX_ 0 (some 22) (fl_ 13 1) HT_ ?_
    refine pX_ 1 (some 23) (fl_ 13 3) HT_ ?_
    refine pX_ 2 (some 24) (fl_ 13 7) HT_ ?_
    refine pX_ 3 (some 25) (fl_ 13 15) HT_ ?_
    refine pX_ 4 (some 26) (fl_ 13 31) HT_ ?_
    refine pU_ 5 (some 27) (fl_ 13 63) HT_ ?_
    refine pU_ 6 (some 28) (fl_ 13 127) HT_ ?_
    refine pU_ 7 (some 29) (fl_ 13 255) HT_ ?_
    refine pU_ 8 (some 30) (fl_ 13 511) HT_ ?_
    refine pU_ 9 (some 31) (fl_ 13 1023) HT_ ?_
    refine pU_ 10 (some 32) (fl_ 13 2047) HT_ ?_
    refine pU_ 11 (some 33) (fl_ 13 4095) HT_ ?_
    refine pX_ 12 (some 34) (fl_ 13 8191) HT_ ?_
    refine done_ (done_of HT_.out (by kernel_rfl)) ?_
    try go_wp2
    go_meet
    case rel => exact ⟨_, (false), (by first | rfl | (simp; done) | (simp [*]; done)), H', ⟨by have := HJ2.out; first | omega | exact Nat.le_refl _⟩, ⟨by (with_reducible repeat (first | apply Kd.V_alloc | apply Kd.V_drewN | apply Kd.V_drew)); exact qe.out⟩, ⟨by (with_reducible repeat (first | apply Kd.V_alloc | apply Kd.V_drewN | apply Kd.V_drew)); exact qa.out⟩, ⟨kf_ qb⟩, ⟨bb_ HB⟩⟩
   rw [if_pos c15] at H
   have qG : decide (qd < (l0.length : Int)) = true := decide_eq_true c15
   clear c15
   (first | rw [qG] | (simp only [i64_w, i32_w]; rw [qG]) | skip)
   replace H := ip_ H
   obtain ⟨c16, H⟩ := H
   have zo : decide (0 ≤ qd) = true := decide_eq_true c16
   clear c16
   replace H := be_ H
   obtain ⟨qV, A170, H⟩ := H
   have A17 := Aside0.mk A170
   clear A170
   have H' := Aside0.mk H
   clear H
   try go_wp2
   replace qe := Aside0.mk (Kd.V_drew qe.out); replace qa := Aside0.mk (Kd.V_drew qa.out); replace qb := Aside0.mk (blk_drew qb.out); replace HB := Aside0.mk (below_drew1 HB.out)
   have p184 : 0 ≤ (qd : Int) := od_
   have q184 : qd < (l0.length : Int) := od_
   obtain ⟨qH, qR, c184_0, e184, qE, qM, qN, hl184_0, hi184_0⟩ := at_T52 (Kd.V_reads' qe.out).2.2 qd p184 q184
   cases e184
   obtain ⟨ce184, hce184, hMe184, hcc184⟩ := Kd.V_get qe.out z52 qd p184 (by first | exact q184 | exact od_ | (have e_ := (Kd.V_reads' qe.out).1; omega))
   obtain ⟨ua184_0, uc184_0, rfl, ul184_0, ge184_0⟩ := k52_openF hMe184
   have hv184_0 := hcc184 0 _ rfl
   rw [Nat.add_zero] at hv184_0
   replace hv184_0 := Option.some.inj (hv184_0.symm.trans qE)
   injection hv184_0 with hva_ hvn_ hvc_
   rw [hva_] at ge184_0
   rw [hvc_] at ul184_0
   have HL184_0 := Aside0.mk (show Kd.V (Kd.int .i64) 3 _ w.heap.size _ _ ((rd_T52 l0 qd).f0) from Kd.V_mk ul184_0 ge184_0)
   clear hva_ hvn_ hvc_ ge184_0 ul184_0
   clear hcc184 hce184
   have qw := Aside0.mk hi184_0
   have qW := Aside0.mk hl184_0
   clear hi184_0 hl184_0
   replace p184 := eq_true p184
   replace q184 := eq_true q184
   refine start_ (n := 13) (S := fun w' => w'.cell? ⟨qc, 0, none⟩ = some (.slice A1_0 l1_0.length c1_0) ∧ w'.cell? ⟨qc, 1, none⟩ = some (.int .i64 a1_1) ∧ w'.cell? ⟨qc, 2, none⟩ = some (.bool a1_2) ∧ w'.cell? (qH.add ((qd).toNat * 3)) = some (.slice qR ((rd_T52 l0 qd).f0).length c184_0) ∧ w'.cell? ⟨(qH.add ((qd).toNat * 3)).block, (qH.add ((qd).toNat * 3)).off + 1, none⟩ = some (.int .i64 ((rd_T52 l0 qd).f1)) ∧ w'.cell? ⟨(qH.add ((qd).toNat * 3)).block, (qH.add ((qd).toNat * 3)).off + 2, none⟩ = some (.bool ((rd_T52 l0 qd).f2))) (ds := []) (fl_ 13 0) (by kernel_rfl) rfl rfl ⟨bc_ qb 0, bc_ qb 1, bc_ qb 2, qE, qM, qN⟩ (fun hHeld => ?_); refine with_tabW spec_l3Put.tab4 spec_l3Put.bits4 (fun HT_ HW_ => ?_)
   generalize wc.drew = zK at qe qa qb HB HL184_0 qw qE qM qN hHeld ⊢
   refine pX_ 0 (some 22) (fl_ 13 1) HT_ ?_
   refine pX_ 1 (some 23) (fl_ 13 3) HT_ ?_
   refine pX_ 2 (some 24) (fl_ 13 7) HT_ ?_
   refine pX_ 3 (some 25) (fl_ 13 15) HT_ ?_
   refine pX_ 4 (some 26) (fl_ 13 31) HT_ ?_
   refine pX_ 5 (some 27) (fl_ 13 63) HT_ ?_
   refine pX_ 6 (some 28) (fl_ 13 127) HT_ ?_
   refine pX_ 7 (some 29) (fl_ 13 255) HT_ ?_
   refine tX_ 8 (some 30) (fl_ 13 511) rfl rfl HT_ HW_ hHeld (by rintro w' ⟨s0, s1, s2, s3, s4, s5⟩; go_simp; with_reducible rfl) ?_
   refine tX_ 9 (some 31) (fl_ 13 1023) rfl rfl HT_ HW_ hHeld (by rintro w' ⟨s0, s1, s2, s3, s4, s5⟩; go_simp; with_reducible rfl) ?_
   refine one_ (i := 10) (N := some 32) (fl_ 13 2047) rfl rfl (one_of HT_.out (by kernel_rfl)) (by decide) (fun K hK => ?_)
   refine goes_ Try.func113 (by kernel_rfl) rfl #[.agg #[.slice qR ((rd_T52 l0 qd).f0).length c184_0, .int .i64 ((rd_T52 l0 qd).f1), .bool ((rd_T52 l0 qd).f2)], .agg #[.slice A1_0 l1_0.length c1_0, .int .i64 a1_1, .bool a1_2]] (by rfl) rfl rfl (by (try simp only [List.map_toArray, List.map_cons, List.map_nil]); first | done | rfl | (simp only [List.length_drop, List.length_take]; rfl)) ?_
   with_reducible refine (spec_l2Way.calls kj2 _ _ ((rd_T52 l0 qd).f0) ((rd_T52 l0 qd).f1) ((rd_T52 l0 qd).f2) _ _ l1_0 a1_1 a1_2 qV _ ?side1 ?side2 ?side3 ?side4 A17.out).mono ?_
   (case side1 => repeat (first | exact (by repeat (first | (with_reducible exact qw.out) | (with_reducible refine Kd.C_alloc ?_ _) | (with_reducible refine Kd.C_drewN ?_ _) | (with_reducible refine Kd.C_drew ?_) | exact qw.out)) | (with_reducible refine Kd.C_alloc ?_ _) | (with_reducible refine Kd.C_drewN ?_ _) | (with_reducible refine Kd.C_drew ?_)))
   (case side2 => exact qW.out)
   (case side3 => repeat (first | exact (Kd.V_reads' qa.out).2.2 | (with_reducible refine Kd.C_alloc ?_ _) | (with_reducible refine Kd.C_drewN ?_ _) | (with_reducible refine Kd.C_drew ?_)))
   (case side4 => exact (Kd.V_reads' qa.out).2.1)
   rintro e zL ⟨rfl, hb⟩
   have HS3_ := (hb.cell (World.block_lt_of_cell? _ _ (hHeld.2.2.2.1))).trans (hHeld.2.2.2.1)
   have HS4_ := (hb.cell (World.block_lt_of_cell? _ _ (hHeld.2.2.2.2.1))).trans (hHeld.2.2.2.2.1)
   have HS5_ := (hb.cell (World.block_lt_of_cell? _ _ (hHeld.2.2.2.2.2))).trans (hHeld.2.2.2.2.2)
   refine ⟨_, rfl, ?_⟩
   replace qe := vB_ qe hb; replace qa := vB_ qa hb; replace HL184_0 := vB_ HL184_0 hb; replace qb := kB_ qb hb; replace qw := cB_ qw hb; replace HB := bS_ HB hb; (try clear hb); (try clear hb2); (try clear hk); (try clear hi)
   refine hK.out _ _ ⟨bc_ qb 0, bc_ qb 1, bc_ qb 2, HS3_, HS4_, HS5_⟩ (fun hHeld => ?_)
   clear hK K
   refine norm_ (a' := ?_) ?_ ?_
   rotate_left
   ·
    show Act.put _ (some 32) _ = _
    simp only [Act.put, sa_, s0_, s1_, i64_w, i32_w]
    rfl
   refine pX_ 11 (some 33) (fl_ 13 4095) HT_ ?_
   refine pX_ 12 (some 34) (fl_ 13 8191) HT_ ?_
   refine done_ (done_of HT_.out (by kernel_rfl)) ?_
   try go_wp2
   go_meet
   case rel => exact ⟨_, ((qV == 0)), (by first | rfl | (simp; done) | (simp [*]; done)), H', ⟨by have := HJ2.out; first | omega | exact Nat.le_refl _⟩, ⟨by (with_reducible repeat (first | apply Kd.V_alloc | apply Kd.V_drewN | apply Kd.V_drew)); exact qe.out⟩, ⟨by (with_reducible repeat (first | apply Kd.V_alloc | apply Kd.V_drewN | apply Kd.V_drew)); exact qa.out⟩, ⟨kf_ qb⟩, ⟨bb_ HB⟩⟩
  clear HC14
  obtain ⟨kq, qD, rfl, HA, HJ13, qe, qa, qb, HB⟩ := hcut
  cases kq with
  | zero => exact absurd HA.out (by simp [spec_l3Put.j2])
  | succ kj13 =>
   have H := HA.out
   clear HA
   simp only [spec_l3Put.j2] at H
   by_cases c21 : qD = true
   ·
    subst c21
    have H1 : (if 0 ≤ qd then (if qd < (l0.length : Int) then ((spec_l2Stronger.f kj13 ((rd_T52 l0 qd).f0) ((rd_T52 l0 qd).f1) ((rd_T52 l0 qd).f2) l1_0 a1_1 a1_2).bind fun qO => (if qO = true then (some l0) else ((some (([] : List (S52)) : List (S52))).bind fun y188 => (if y188.length + l0.length < 3518437208883 then ((some (y188 ++ l0 : List (S52))).bind fun y191 => (if qd < (y191.length : Int) then (some (y191.set (qd : Int).toNat (⟨l1_0, a1_1, a1_2⟩ : S52))) else (none))) else (none))))) else (none)) else (none)) = some r := by rw [if_pos rfl] at H; exact H
    clear H
    have H := H1
    clear H1
    replace H := ip_ H
    obtain ⟨c22, H⟩ := H
    have zp : decide (0 ≤ qd) = true := decide_eq_true c22
    clear c22
    replace H := ip_ H
    obtain ⟨c23, H⟩ := H
    have zq : decide (qd < (l0.length : Int)) = true := decide_eq_true c23
    clear c23
    replace H := be_ H
    obtain ⟨qO, A240, H⟩ := H
    have A24 := Aside0.mk A240
    clear A240
    by_cases c25 : qO = true
    ·
     subst c25
     have H1 : (some l0) = some r := by rw [if_pos rfl] at H; exact H
     clear H
     have H := H1
     clear H1
     obtain rfl := Option.some.inj H
     try go_wp2
     replace qe := Aside0.mk (Kd.V_drew qe.out); replace qa := Aside0.mk (Kd.V_drew qa.out); replace qb := Aside0.mk (blk_drew qb.out); replace HB := Aside0.mk (below_drew1 HB.out)
     have p186 : 0 ≤ (qd : Int) := od_
     have q186 : qd < (l0.length : Int) := od_
     obtain ⟨qt, qB, c186_0, e186, qp, qx, qy, hl186_0, hi186_0⟩ := at_T52 (Kd.V_reads' qe.out).2.2 qd p186 q186
     cases e186
     obtain ⟨ce186, hce186, hMe186, hcc186⟩ := Kd.V_get qe.out z52 qd p186 (by first | exact q186 | exact od_ | (have e_ := (Kd.V_reads' qe.out).1; omega))
     obtain ⟨ua186_0, uc186_0, rfl, ul186_0, ge186_0⟩ := k52_openF hMe186
     have hv186_0 := hcc186 0 _ rfl
     rw [Nat.add_zero] at hv186_0
     replace hv186_0 := Option.some.inj (hv186_0.symm.trans qp)
     injection hv186_0 with hva_ hvn_ hvc_
     rw [hva_] at ge186_0
     rw [hvc_] at ul186_0
     have HL186_0 := Aside0.mk (show Kd.V (Kd.int .i64) 3 _ w.heap.size _ _ ((rd_T52 l0 qd).f0) from Kd.V_mk ul186_0 ge186_0)
     clear hva_ hvn_ hvc_ ge186_0 ul186_0
     clear hcc186 hce186
     have qi := Aside0.mk hi186_0
     have qF := Aside0.mk hl186_0
     clear hi186_0 hl186_0
     replace p186 := eq_true p186
     replace q186 := eq_true q186
     refine start_ (n := 6) (S := fun w' => w'.cell? ⟨qc, 0, none⟩ = some (.slice A1_0 l1_0.length c1_0) ∧ w'.cell? ⟨qc, 1, none⟩ = some (.int .i64 a1_1) ∧ w'.cell? ⟨qc, 2, none⟩ = some (.bool a1_2) ∧ w'.cell? (qt.add ((qd).toNat * 3)) = some (.slice qB ((rd_T52 l0 qd).f0).length c186_0) ∧ w'.cell? ⟨(qt.add ((qd).toNat * 3)).block, (qt.add ((qd).toNat * 3)).off + 1, none⟩ = some (.int .i64 ((rd_T52 l0 qd).f1)) ∧ w'.cell? ⟨(qt.add ((qd).toNat * 3)).block, (qt.add ((qd).toNat * 3)).off + 2, none⟩ = some (.bool ((rd_T52 l0 qd).f2))) (ds := []) (fl_ 6 0) (by kernel_rfl) rfl rfl ⟨bc_ qb 0, bc_ qb 1, bc_ qb 2, qp, qx, qy⟩ (fun hHeld => ?_)
     generalize wc.drew = zM at qe qa qb HB HL186_0 qi qp qx qy hHeld ⊢
     refine pure_ (i := 0) (N := some 35) (v := ?_) (a' := ?_) (fl_ 6 1) rfl rfl (by kernel_rfl) (fun _ _ _ h => h) (Or.inl ⟨by rfl, ?_⟩) ?_ ?_
     rotate_left
     ·
      intro w'
      go_simp
      with_reducible rfl
     rotate_left
     ·
      simp only [Act.put, sa_, s0_, s1_, i64_w, i32_w]
      rfl
     refine pure_ (i := 1) (N := some 36) (v := ?_) (a' := ?_) (fl_ 6 3) rfl rfl (by kernel_rfl) (fun _ _ _ h => h) (Or.inl ⟨by rfl, ?_⟩) ?_ ?_
     rotate_left
     ·
      intro w'
      go_simp
      with_reducible rfl
     rotate_left
     ·
      simp only [Act.put, sa_, s0_, s1_, i64_w, i32_w]
      rfl
     refine pure_ (i := 2) (N := some 37) (v := ?_) (a' := ?_) (fl_ 6 7) rfl rfl (by kernel_rfl) (fun _ _ _ h => h) (Or.inl ⟨by rfl, ?_⟩) ?_ ?_
     rotate_left
     ·
      intro w'
      go_simp
      with_reducible rfl
     rotate_left
     ·
      simp only [Act.put, sa_, s0_, s1_, i64_w, i32_w]
      rfl
     refine take_ (i := 3) (N := some 38) (v := ?_) (a' := ?_) (fl_ 6 15) rfl rfl (by kernel_rfl) (fun _ _ _ h => h) (Or.inl ⟨by rfl, ?_⟩) hHeld ?_ ?_
     rotate_left
     ·
      rintro w' ⟨s0, s1, s2, s3, s4, s5⟩
      go_simp
      with_reducible rfl
     rotate_left
     ·
      simp only [Act.put, sa_, s0_, s1_, i64_w, i32_w]
      rfl
     refine take_ (i := 4) (N := some 39) (v := ?_) (a' := ?_) (fl_ 6 31) rfl rfl (by kernel_rfl) (fun _ _ _ h => h) (Or.inl ⟨by rfl, ?_⟩) hHeld ?_ ?_
     rotate_left
     ·
      rintro w' ⟨s0, s1, s2, s3, s4, s5⟩
      go_simp
      with_reducible rfl
     rotate_left
     ·
      simp only [Act.put, sa_, s0_, s1_, i64_w, i32_w]
      rfl
     refine one_ (i := 5) (N := some 40) (fl_ 6 63) rfl rfl (by kernel_rfl) (by decide) (fun K hK => ?_)
     refine goes_ Try.func114 (by kernel_rfl) rfl #[.agg #[.slice qB ((rd_T52 l0 qd).f0).length c186_0, .int .i64 ((rd_T52 l0 qd).f1), .bool ((rd_T52 l0 qd).f2)], .agg #[.slice A1_0 l1_0.length c1_0, .int .i64 a1_1, .bool a1_2]] (by rfl) rfl rfl (by (try simp only [List.map_toArray, List.map_cons, List.map_nil]); first | done | rfl | (simp only [List.length_drop, List.length_take]; rfl)) ?_
     with_reducible refine (spec_l2Stronger.calls kj13 _ _ ((rd_T52 l0 qd).f0) ((rd_T52 l0 qd).f1) ((rd_T52 l0 qd).f2) _ _ l1_0 a1_1 a1_2 true _ ?side1 ?side2 ?side3 ?side4 A24.out).mono ?_
     (case side1 => repeat (first | exact (by repeat (first | (with_reducible exact qi.out) | (with_reducible refine Kd.C_alloc ?_ _) | (with_reducible refine Kd.C_drewN ?_ _) | (with_reducible refine Kd.C_drew ?_) | exact qi.out)) | (with_reducible refine Kd.C_alloc ?_ _) | (with_reducible refine Kd.C_drewN ?_ _) | (with_reducible refine Kd.C_drew ?_)))
     (case side2 => exact qF.out)
     (case side3 => repeat (first | exact (Kd.V_reads' qa.out).2.2 | (with_reducible refine Kd.C_alloc ?_ _) | (with_reducible refine Kd.C_drewN ?_ _) | (with_reducible refine Kd.C_drew ?_)))
     (case side4 => exact (Kd.V_reads' qa.out).2.1)
     rintro e zN ⟨rfl, hb⟩
     have HS3_ := (hb.cell (World.block_lt_of_cell? _ _ (hHeld.2.2.2.1))).trans (hHeld.2.2.2.1)
     have HS4_ := (hb.cell (World.block_lt_of_cell? _ _ (hHeld.2.2.2.2.1))).trans (hHeld.2.2.2.2.1)
     have HS5_ := (hb.cell (World.block_lt_of_cell? _ _ (hHeld.2.2.2.2.2))).trans (hHeld.2.2.2.2.2)
     refine ⟨_, rfl, ?_⟩
     replace qe := vB_ qe hb; replace qa := vB_ qa hb; replace HL186_0 := vB_ HL186_0 hb; replace qb := kB_ qb hb; replace qi := cB_ qi hb; replace HB := bS_ HB hb; (try clear hb); (try clear hb2); (try clear hk); (try clear hi)
     refine hK.out _ _ ⟨bc_ qb 0, bc_ qb 1, bc_ qb 2, HS3_, HS4_, HS5_⟩ (fun hHeld => ?_)
     clear hK K
     refine norm_ (a' := ?_) ?_ ?_
     rotate_left
     ·
      show Act.put _ (some 40) _ = _
      simp only [Act.put, sa_, s0_, s1_, i64_w, i32_w]
      rfl
     refine done_ (by kernel_rfl) ?_
     try go_wp2
     go_ret
     exact ⟨_, rt_ ⟨by (with_reducible repeat (first | apply Kd.V_alloc | apply Kd.V_drewN | apply Kd.V_drew)); exact Kd.V_mono qe.out (fun _ hk => hk.1), bb_ HB⟩⟩
    replace c25 := Bool.eq_false_iff.mpr c25
    subst c25
    have H1 : ((some (([] : List (S52)) : List (S52))).bind fun y188 => (if y188.length + l0.length < 3518437208883 then ((some (y188 ++ l0 : List (S52))).bind fun y191 => (if qd < (y191.length : Int) then (some (y191.set (qd : Int).toNat (⟨l1_0, a1_1, a1_2⟩ : S52))) else (none))) else (none))) = some r := by rw [if_neg (show ¬ (false = true) by decide)] at H; exact H
    clear H
    have H := H1
    clear H1
    obtain ⟨y188, hy188⟩ : ∃ y_ : List (S52), y_ = (([] : List (S52))) := ⟨_, rfl⟩
    replace H : (if y188.length + l0.length < 3518437208883 then ((some (y188 ++ l0 : List (S52))).bind fun y191 => (if qd < (y191.length : Int) then (some (y191.set (qd : Int).toNat (⟨l1_0, a1_1, a1_2⟩ : S52))) else (none))) else (none)) = some r := by first | (rw [hy188]; with_reducible exact H) | (have H2_ := (Option.bind_some _ _).symm.trans H; rw [hy188]; with_reducible exact H2_) | (have H2_ := (Option.bind_some _ _).symm.trans H; with_reducible exact H2_) | with_reducible exact H | (rw [hy188]; exact H) | exact H
    have Ny188 := Aside0.mk hy188
    clear hy188
    replace H := ip_ H
    obtain ⟨c28, H⟩ := H
    have LMc28 := Aside0.mk c28
    clear c28
    obtain ⟨y191, hy191⟩ : ∃ y_ : List (S52), y_ = (y188 ++ l0) := ⟨_, rfl⟩
    replace H : (if qd < (y191.length : Int) then (some (y191.set (qd : Int).toNat (⟨l1_0, a1_1, a1_2⟩ : S52))) else (none)) = some r := by first | (rw [hy191]; with_reducible exact H) | (have H2_ := (Option.bind_some _ _).symm.trans H; rw [hy191]; with_reducible exact H2_) | (have H2_ := (Option.bind_some _ _).symm.trans H; with_reducible exact H2_) | with_reducible exact H | (rw [hy191]; exact H) | exact H
    have Ny191 := Aside0.mk hy191
    clear hy191
    replace H := ip_ H
    obtain ⟨c29, H⟩ := H
    have zr : decide (qd < (y191.length : Int)) = true := decide_eq_true c29
    clear c29
    obtain ⟨y194, hy194⟩ : ∃ y_ : List (S52), y_ = (y191.set (qd : Int).toNat (⟨l1_0, a1_1, a1_2⟩ : S52)) := ⟨_, rfl⟩
    replace H : (some y194) = some r := by first | (rw [hy194]; with_reducible exact H) | (have H2_ := (Option.bind_some _ _).symm.trans H; rw [hy194]; with_reducible exact H2_) | (have H2_ := (Option.bind_some _ _).symm.trans H; with_reducible exact H2_) | with_reducible exact H | (rw [hy194]; exact H) | exact H
    have Ny194 := Aside0.mk hy194
    clear hy194
    obtain rfl := Option.some.inj H
    try go_wp2
    replace qe := Aside0.mk (Kd.V_drew qe.out); replace qa := Aside0.mk (Kd.V_drew qa.out); replace qb := Aside0.mk (blk_drew qb.out); replace HB := Aside0.mk (below_drew1 HB.out)
    have p186 : 0 ≤ (qd : Int) := od_
    have q186 : qd < (l0.length : Int) := od_
    obtain ⟨qt, qB, c186_0, e186, qp, qx, qy, hl186_0, hi186_0⟩ := at_T52 (Kd.V_reads' qe.out).2.2 qd p186 q186
    cases e186
    obtain ⟨ce186, hce186, hMe186, hcc186⟩ := Kd.V_get qe.out z52 qd p186 (by first | exact q186 | exact od_ | (have e_ := (Kd.V_reads' qe.out).1; omega))
    obtain ⟨ua186_0, uc186_0, rfl, ul186_0, ge186_0⟩ := k52_openF hMe186
    have hv186_0 := hcc186 0 _ rfl
    rw [Nat.add_zero] at hv186_0
    replace hv186_0 := Option.some.inj (hv186_0.symm.trans qp)
    injection hv186_0 with hva_ hvn_ hvc_
    rw [hva_] at ge186_0
    rw [hvc_] at ul186_0
    have HL186_0 := Aside0.mk (show Kd.V (Kd.int .i64) 3 _ w.heap.size _ _ ((rd_T52 l0 qd).f0) from Kd.V_mk ul186_0 ge186_0)
    clear hva_ hvn_ hvc_ ge186_0 ul186_0
    clear hcc186 hce186
    have qi := Aside0.mk hi186_0
    have qF := Aside0.mk hl186_0
    clear hi186_0 hl186_0
    replace p186 := eq_true p186
    replace q186 := eq_true q186
    refine start_ (n := 6) (S := fun w' => w'.cell? ⟨qc, 0, none⟩ = some (.slice A1_0 l1_0.length c1_0) ∧ w'.cell? ⟨qc, 1, none⟩ = some (.int .i64 a1_1) ∧ w'.cell? ⟨qc, 2, none⟩ = some (.bool a1_2) ∧ w'.cell? (qt.add ((qd).toNat * 3)) = some (.slice qB ((rd_T52 l0 qd).f0).length c186_0) ∧ w'.cell? ⟨(qt.add ((qd).toNat * 3)).block, (qt.add ((qd).toNat * 3)).off + 1, none⟩ = some (.int .i64 ((rd_T52 l0 qd).f1)) ∧ w'.cell? ⟨(qt.add ((qd).toNat * 3)).block, (qt.add ((qd).toNat * 3)).off + 2, none⟩ = some (.bool ((rd_T52 l0 qd).f2))) (ds := []) (fl_ 6 0) (by kernel_rfl) rfl rfl ⟨bc_ qb 0, bc_ qb 1, bc_ qb 2, qp, qx, qy⟩ (fun hHeld => ?_)
    generalize wc.drew = zO at qe qa qb HB HL186_0 qi qp qx qy hHeld ⊢
    refine pure_ (i := 0) (N := some 35) (v := ?_) (a' := ?_) (fl_ 6 1) rfl rfl (by kernel_rfl) (fun _ _ _ h => h) (Or.inl ⟨by rfl, ?_⟩) ?_ ?_
    rotate_left
    ·
     intro w'
     go_simp
     with_reducible rfl
    rotate_left
    ·
     simp only [Act.put, sa_, s0_, s1_, i64_w, i32_w]
     rfl
    refine pure_ (i := 1) (N := some 36) (v := ?_) (a' := ?_) (fl_ 6 3) rfl rfl (by kernel_rfl) (fun _ _ _ h => h) (Or.inl ⟨by rfl, ?_⟩) ?_ ?_
    rotate_left
    ·
     intro w'
     go_simp
     with_reducible rfl
    rotate_left
    ·
     simp only [Act.put, sa_, s0_, s1_, i64_w, i32_w]
     rfl
    refine pure_ (i := 2) (N := some 37) (v := ?_) (a' := ?_) (fl_ 6 7) rfl rfl (by kernel_rfl) (fun _ _ _ h => h) (Or.inl ⟨by rfl, ?_⟩) ?_ ?_
    rotate_left
    ·
     intro w'
     go_simp
     with_reducible rfl
    rotate_left
    ·
     simp only [Act.put, sa_, s0_, s1_, i64_w, i32_w]
     rfl
    refine take_ (i := 3) (N := some 38) (v := ?_) (a' := ?_) (fl_ 6 15) rfl rfl (by kernel_rfl) (fun _ _ _ h => h) (Or.inl ⟨by rfl, ?_⟩) hHeld ?_ ?_
    rotate_left
    ·
     rintro w' ⟨s0, s1, s2, s3, s4, s5⟩
     go_simp
     with_reducible rfl
    rotate_left
    ·
     simp only [Act.put, sa_, s0_, s1_, i64_w, i32_w]
     rfl
    refine take_ (i := 4) (N := some 39) (v := ?_) (a' := ?_) (fl_ 6 31) rfl rfl (by kernel_rfl) (fun _ _ _ h => h) (Or.inl ⟨by rfl, ?_⟩) hHeld ?_ ?_
    rotate_left
    ·
     rintro w' ⟨s0, s1, s2, s3, s4, s5⟩
     go_simp
     with_reducible rfl
    rotate_left
    ·
     simp only [Act.put, sa_, s0_, s1_, i64_w, i32_w]
     rfl
    refine one_ (i := 5) (N := some 40) (fl_ 6 63) rfl rfl (by kernel_rfl) (by decide) (fun K hK => ?_)
    refine goes_ Try.func114 (by kernel_rfl) rfl #[.agg #[.slice qB ((rd_T52 l0 qd).f0).length c186_0, .int .i64 ((rd_T52 l0 qd).f1), .bool ((rd_T52 l0 qd).f2)], .agg #[.slice A1_0 l1_0.length c1_0, .int .i64 a1_1, .bool a1_2]] (by rfl) rfl rfl (by (try simp only [List.map_toArray, List.map_cons, List.map_nil]); first | done | rfl | (simp only [List.length_drop, List.length_take]; rfl)) ?_
    with_reducible refine (spec_l2Stronger.calls kj13 _ _ ((rd_T52 l0 qd).f0) ((rd_T52 l0 qd).f1) ((rd_T52 l0 qd).f2) _ _ l1_0 a1_1 a1_2 false _ ?side1 ?side2 ?side3 ?side4 A24.out).mono ?_
    (case side1 => repeat (first | exact (by repeat (first | (with_reducible exact qi.out) | (with_reducible refine Kd.C_alloc ?_ _) | (with_reducible refine Kd.C_drewN ?_ _) | (with_reducible refine Kd.C_drew ?_) | exact qi.out)) | (with_reducible refine Kd.C_alloc ?_ _) | (with_reducible refine Kd.C_drewN ?_ _) | (with_reducible refine Kd.C_drew ?_)))
    (case side2 => exact qF.out)
    (case side3 => repeat (first | exact (Kd.V_reads' qa.out).2.2 | (with_reducible refine Kd.C_alloc ?_ _) | (with_reducible refine Kd.C_drewN ?_ _) | (with_reducible refine Kd.C_drew ?_)))
    (case side4 => exact (Kd.V_reads' qa.out).2.1)
    rintro e zA ⟨rfl, hb⟩
    have HS3_ := (hb.cell (World.block_lt_of_cell? _ _ (hHeld.2.2.2.1))).trans (hHeld.2.2.2.1)
    have HS4_ := (hb.cell (World.block_lt_of_cell? _ _ (hHeld.2.2.2.2.1))).trans (hHeld.2.2.2.2.1)
    have HS5_ := (hb.cell (World.block_lt_of_cell? _ _ (hHeld.2.2.2.2.2))).trans (hHeld.2.2.2.2.2)
    refine ⟨_, rfl, ?_⟩
    replace qe := vB_ qe hb; replace qa := vB_ qa hb; replace HL186_0 := vB_ HL186_0 hb; replace qb := kB_ qb hb; replace qi := cB_ qi hb; replace HB := bS_ HB hb; (try clear hb); (try clear hb2); (try clear hk); (try clear hi)
    refine hK.out _ _ ⟨bc_ qb 0, bc_ qb 1, bc_ qb 2, HS3_, HS4_, HS5_⟩ (fun hHeld => ?_)
    clear hK K
    refine norm_ (a' := ?_) ?_ ?_
    rotate_left
    ·
     show Act.put _ (some 40) _ = _
     simp only [Act.put, sa_, s0_, s1_, i64_w, i32_w]
     rfl
    refine done_ (by kernel_rfl) ?_
    try go_wp2_with (first | ((with_reducible refine gate_dst (N := 42) rfl ?_); refine Kd.N_lit k52 _ 52 ?hg (N' := 42) ?hd (xs := ([] : List (S52))) (inner := []) (ok := (fun k_ => ((P0_ k_ ∨ P1_0_ k_) ∨ w.heap.size ≤ k_) ∧ k_ ≠ qc)) (okp := (fun k_ => ((P0_ k_ ∨ P1_0_ k_) ∨ w.heap.size ≤ k_) ∧ k_ ≠ qc)) ?hr ?hp (fun _ hk => hk) ((show ∀ k_, zA.heap.size ≤ k_ → (fun k_ => ((P0_ k_ ∨ P1_0_ k_) ∨ w.heap.size ≤ k_) ∧ k_ ≠ qc) k_ from fun k_ hk => ⟨(.inr (Nat.le_trans (bz_ HB) hk)), Kd.freshB (g := qc) (o := .cells #[.slice A1_0 l1_0.length c1_0, .int .i64 a1_1, .bool a1_2] 52 (0, 0)) (kf_ qb) k_ hk⟩) _ (Nat.le_refl _)) (Below.refl _ _) (Nat.le_refl _) (by simp) ?_; (case hd => rfl); (case hg => rfl); (case hr => first | (go_simp; done) | (go_simp; rfl)); (case hp => exact (Reps.none _ _)); intro qY zP ho34 hb hg_ hnew_; clear hg_ hnew_; (first | rw [← Ny188.out] at ho34 | (simp only [Int.reduceToNat] at ho34; rw [← Ny188.out] at ho34)); replace qe := Aside0.mk (Kd.V_elder' (vm_ qe) (Kd.N_base ho34) hb); replace qa := Aside0.mk (Kd.V_elder' (vm_ qa) (Kd.N_base ho34) hb); replace HL186_0 := Aside0.mk (Kd.V_elder' (vm_ HL186_0) (Kd.N_base ho34) hb); have qS := Aside0.mk (Kd.N_lower ho34 (bz_ HB)); replace qb := kB_ qb hb; replace qi := cB_ qi hb; replace HB := bS_ HB hb; clear hb ho34) | ((with_reducible refine gate_builtin (b := .append) (xs := #[.tmp 42, .tmp 43]) rfl ?_); at_builtin; refine Kd.N_append_rows k52 (w0 := w) w.heap.size rfl (.tmp 42) (.tmp 43) 26 52 (.agg #[(.slice none 0 0), (.int .i64 0), (.bool false)]) 40 rfl Try.underlying26 info52 rfl (by decide) (by omega) qY y188 l0 _ _ _ (fun k_ => ((P0_ k_ ∨ P1_0_ k_) ∨ w.heap.size ≤ k_) ∧ k_ ≠ qc) (fun k_ => ((fun k_ => ((P0_ k_ ∨ P1_0_ k_) ∨ w.heap.size ≤ k_) ∧ k_ ≠ qc)) k_ ∧ some k_ ≠ (qY : Value).ownBlock) rfl rfl ?aO ?aR (fun _ hk => hk) ?aF ?aB ?aS ?aL ?_; (case aR => exact (by skip; exact Kd.V_F (Kd.V_mono (ok' := (fun k_ => ((fun k_ => ((P0_ k_ ∨ P1_0_ k_) ∨ w.heap.size ≤ k_) ∧ k_ ≠ qc)) k_ ∧ some k_ ≠ (qY : Value).ownBlock)) (qe.out) (fun k_ hk => ⟨⟨hk.1.1, hk.1.2⟩, hk.2⟩)))); (case aB => exact (bb_ HB)); (case aF => exact (fun k_ hk => ⟨(.inr (Nat.le_trans (bz_ HB) hk)), Kd.freshB (g := qc) (o := .cells #[.slice A1_0 l1_0.length c1_0, .int .i64 a1_1, .bool a1_2] 52 (0, 0)) (kf_ qb) k_ hk⟩)); (case aO => exact (nm_ qS)); (case aS => exact (bz_ HB)); (case aL => have := LMc28.out; omega); intro zB qX ho hb hg hat; rw [← Ny191.out] at ho; replace qe := Aside0.mk (Kd.V_afterv (ok := (fun k_ => ((P0_ k_ ∨ P1_0_ k_) ∨ w.heap.size ≤ k_) ∧ k_ ≠ qc)) (vm_ qe) hg hat); replace qa := Aside0.mk (Kd.V_afterv (ok := (fun k_ => ((P0_ k_ ∨ P1_0_ k_) ∨ w.heap.size ≤ k_) ∧ k_ ≠ qc)) (vm_ qa) hg hat); replace qb := Aside0.mk (blk_grown (g := qc) (o := .cells #[.slice A1_0 l1_0.length c1_0, .int .i64 a1_1, .bool a1_2] 52 (0, 0)) (kf_ qb) hg (Kd.N_away qS.out (fun _ hk => hk.2))); replace HL186_0 := Aside0.mk (Kd.V_afterv (ok := (fun k_ => ((P0_ k_ ∨ P1_0_ k_) ∨ w.heap.size ≤ k_) ∧ k_ ≠ qc)) (vm_ HL186_0) hg hat); replace HB := Aside0.mk (hb); have qz := Aside0.mk (ho); clear qS; clear ho hb hg hat; obtain ⟨q8, q9, za, zb, zc, zd⟩ := b3_ qb; have p30 : 0 ≤ (qd : Int) := od_; have q30 : (qd : Int) < ((y191.length : Int) : Int) := od_; obtain ⟨go30, qI, eo30, q5, gl30, cl30, HG30⟩ := Kd.N_form qz.out (by omega); (first | cases eo30 | (injection eo30 with ea_ en_ ec_; (first | subst ea_ | (injection ea_ with ea_; subst ea_)); subst ec_; clear en_)); have qZ := Aside0.mk q5; have zC := Aside0.mk HG30; clear q5 gl30 HG30; obtain ⟨ce30, hcl30, hM30, hcc30, hfr30⟩ := Kd.N_elem qz.out z52 (qd : Int) p30 q30; obtain ⟨ua30_0, uc30_0, rfl, ul30_0, ge30_0⟩ := k52_openF hM30; have zg : qX.cell? ⟨go30, (qd : Int).toNat * 3, none⟩ = some (.slice ua30_0 ((rd_T52 y191 qd).f0).length uc30_0) := hcc30 0 _ rfl; have zh : qX.cell? ⟨go30, (qd : Int).toNat * 3 + 1, none⟩ = some (.int .i64 ((rd_T52 y191 qd).f1)) := hcc30 1 _ rfl; have zi : qX.cell? ⟨go30, (qd : Int).toNat * 3 + 2, none⟩ = some (.bool ((rd_T52 y191 qd).f2)) := hcc30 2 _ rfl; have hf30_0 : qX.frozen? ⟨go30, (qd : Int).toNat * 3, none⟩ = false := hfr30 0; have hf30_1 : qX.frozen? ⟨go30, (qd : Int).toNat * 3 + 1, none⟩ = false := hfr30 1; have hf30_2 : qX.frozen? ⟨go30, (qd : Int).toNat * 3 + 2, none⟩ = false := hfr30 2; clear hcl30 hcc30 hfr30 hM30; replace p30 := eq_true p30; replace q30 := eq_true q30; have q6 := Aside0.mk (show Kd.N k52 52 qX w.heap.size (fun k_ => ((P0_ k_ ∨ P1_0_ k_) ∨ w.heap.size ≤ k_) ∧ k_ ≠ qc) (.slice (some ⟨go30, 0, none⟩) y191.length qI) y191 from (nm_ qz)); obtain ⟨ce37, hcl37, hM37, hcc37, hfr37⟩ := Kd.N_elem q6.out z52 (qd : Int) (od_) (by have h_ : (qd : Int) < ((y191.length : Int) : Int) := od_; first | exact h_ | (have e_ := (Kd.N_reads' qz.out).1; omega) | simpa using h_); obtain ⟨ua37_0, uc37_0, rfl, ul37_0, ge37_0⟩ := k52_openF hM37; have q0 := Kd.N_seg q6.out (qd : Int) (od_) (by have h_ : (qd : Int) < ((y191.length : Int) : Int) := od_; first | exact h_ | (have e_ := (Kd.N_reads' qz.out).1; omega) | simpa using h_) (seg := [.slice A1_0 l1_0.length c1_0, .int .i64 a1_1, .bool a1_2]) (j := 0) hcl37 hcc37 (show 3 ≤ 3 from by decide) (x' := (⟨l1_0, a1_1, a1_2⟩ : S52)) (k52_mkF _ _ (⟨l1_0, a1_1, a1_2⟩ : S52) (Kd.V_reads' (Kd.V_mono (ok' := (fun k_ => ((fun k_ => ((P0_ k_ ∨ P1_0_ k_) ∨ w.heap.size ≤ k_) ∧ k_ ≠ qc)) k_ ∧ k_ ≠ go30)) (qa.out) (fun k_ hk => ⟨⟨hk.1.1, hk.1.2⟩, fun e_ => (hk.2) (by rw [e_]; rfl)⟩))).2.1 (Kd.V_F (Kd.V_mono (ok' := (fun k_ => ((fun k_ => ((P0_ k_ ∨ P1_0_ k_) ∨ w.heap.size ≤ k_) ∧ k_ ≠ qc)) k_ ∧ k_ ≠ go30)) (qa.out) (fun k_ hk => ⟨⟨hk.1.1, hk.1.2⟩, fun e_ => (hk.2) (by rw [e_]; rfl)⟩)))) (fun _ hk => hk); have q1 := hcc37 0 _ rfl; (try simp only [show (k52).sz = 3 from rfl, Nat.mul_one, Nat.add_zero] at q1); have hf37_0 := hfr37 0; (try simp only [show (k52).sz = 3 from rfl, Nat.mul_one, Nat.add_zero] at hf37_0); have q2 := hcc37 1 _ rfl; (try simp only [show (k52).sz = 3 from rfl, Nat.mul_one, Nat.add_zero] at q2); have hf37_1 := hfr37 1; (try simp only [show (k52).sz = 3 from rfl, Nat.mul_one, Nat.add_zero] at hf37_1); have q3 := hcc37 2 _ rfl; (try simp only [show (k52).sz = 3 from rfl, Nat.mul_one, Nat.add_zero] at q3); have hf37_2 := hfr37 2; (try simp only [show (k52).sz = 3 from rfl, Nat.mul_one, Nat.add_zero] at hf37_2); clear hcl37 hcc37 hfr37 hM37) | ((with_reducible refine gate_store (t := 52) (p := 48) rfl ?_); refine store_event (t := 52) (p := 48) (v := ?vo_w38) (w1 := (((qX.setCell ⟨go30, (qd : Int).toNat * 3, none⟩ (.slice A1_0 l1_0.length c1_0)).setCell ⟨go30, (qd : Int).toNat * 3 + 1, none⟩ (.int .i64 a1_1)).setCell ⟨go30, (qd : Int).toNat * 3 + 2, none⟩ (.bool a1_2))) ?hg ?ho ?hn ?hr ?_; (case ho => rfl); (case hg => rfl); (case hn => rfl); (case hr => first | (go_simp; done) | (go_simp; rfl)); intro zj hw; have hg : qX.grownBy zj (some go30) := (by rw [hw]; exact q0.2); have hp_ : Kd.N k52 52 zj w.heap.size (fun k_ => ((P0_ k_ ∨ P1_0_ k_) ∨ w.heap.size ≤ k_) ∧ k_ ≠ qc) (.slice (some ⟨go30, 0, none⟩) y191.length qI) y194 := (by rw [hw, Ny194.out]; exact q0.1); clear q0; replace qe := Aside0.mk (Kd.V_afterv (v := (.slice (some ⟨go30, 0, none⟩) y191.length qI)) (v1 := (.slice (some ⟨go30, 0, none⟩) y191.length qI)) (ok := (fun k_ => ((P0_ k_ ∨ P1_0_ k_) ∨ w.heap.size ≤ k_) ∧ k_ ≠ qc)) (vm_ qe) hg (.inl rfl)); replace qa := Aside0.mk (Kd.V_afterv (v := (.slice (some ⟨go30, 0, none⟩) y191.length qI)) (v1 := (.slice (some ⟨go30, 0, none⟩) y191.length qI)) (ok := (fun k_ => ((P0_ k_ ∨ P1_0_ k_) ∨ w.heap.size ≤ k_) ∧ k_ ≠ qc)) (vm_ qa) hg (.inl rfl)); replace qb := Aside0.mk (blk_grown (g := qc) (o := .cells #[.slice A1_0 l1_0.length c1_0, .int .i64 a1_1, .bool a1_2] 52 (0, 0)) (kf_ qb) hg (Kd.N_away qz.out (fun _ hk => hk.2))); replace HL186_0 := Aside0.mk (Kd.V_afterv (v := (.slice (some ⟨go30, 0, none⟩) y191.length qI)) (v1 := (.slice (some ⟨go30, 0, none⟩) y191.length qI)) (ok := (fun k_ => ((P0_ k_ ∨ P1_0_ k_) ∨ w.heap.size ≤ k_) ∧ k_ ≠ qc)) (vm_ HL186_0) hg (.inl rfl)); replace qz := Aside0.mk (hp_); replace HB := Aside0.mk ((by rw [hw]; exact below_set (below_set (below_set (HB.out) qZ.out) qZ.out) qZ.out : Below w.heap.size w zj)); clear hg hw hp_))
    go_ret
    exact ⟨_, rt_ ⟨Kd.N_V (by (with_reducible repeat (first | apply Kd.N_alloc | apply Kd.N_drewN | apply Kd.N_drew)); exact Kd.N_mono qz.out (fun _ hk => hk.1)), bb_ HB⟩⟩
   replace c21 := Bool.eq_false_iff.mpr c21
   subst c21
   have H1 : ((some (([] : List (S52)) : List (S52))).bind fun y195 => (if 0 ≤ qd then (if qd ≤ (l0.length : Int) then ((some (l0.take (qd : Int).toNat : List (S52))).bind fun y198 => (if y195.length + y198.length < 3518437208883 then ((some (y195 ++ y198 : List (S52))).bind fun y203 => ((some (([(⟨l1_0, a1_1, a1_2⟩ : S52)] : List (S52)) : List (S52))).bind fun y206 => (if y203.length + y206.length < 3518437208883 then ((some (y203 ++ y206 : List (S52))).bind fun y209 => ((some (l0.drop (qd : Int).toNat : List (S52))).bind fun y212 => (if y209.length + y212.length < 3518437208883 then (some (y209 ++ y212)) else (none)))) else (none)))) else (none))) else (none)) else (none))) = some r := by rw [if_neg (show ¬ (false = true) by decide)] at H; exact H
   clear H
   have H := H1
   clear H1
   obtain ⟨y195, hy195⟩ : ∃ y_ : List (S52), y_ = (([] : List (S52))) := ⟨_, rfl⟩
   replace H : (if 0 ≤ qd then (if qd ≤ (l0.length : Int) then ((some (l0.take (qd : Int).toNat : List (S52))).bind fun y198 => (if y195.length + y198.length < 3518437208883 then ((some (y195 ++ y198 : List (S52))).bind fun y203 => ((some (([(⟨l1_0, a1_1, a1_2⟩ : S52)] : List (S52)) : List (S52))).bind fun y206 => (if y203.length + y206.length < 3518437208883 then ((some (y203 ++ y206 : List (S52))).bind fun y209 => ((some (l0.drop (qd : Int).toNat : List (S52))).bind fun y212 => (if y209.length + y212.length < 3518437208883 then (some (y209 ++ y212)) else (none)))) else (none)))) else (none))) else (none)) else (none)) = some r := by first | (rw [hy195]; with_reducible exact H) | (have H2_ := (Option.bind_some _ _).symm.trans H; rw [hy195]; with_reducible exact H2_) | (have H2_ := (Option.bind_some _ _).symm.trans H; with_reducible exact H2_) | with_reducible exact H | (rw [hy195]; exact H) | exact H
   have Ny195 := Aside0.mk hy195
   clear hy195
   replace H := ip_ H
   obtain ⟨c39, H⟩ := H
   have zs := eq_true c39
   have zt : decide (0 ≤ qd) = true := decide_eq_true c39
   clear c39
   replace H := ip_ H
   obtain ⟨c40, H⟩ := H
   have zu := eq_true c40
   have zv : decide (qd ≤ (l0.length : Int)) = true := decide_eq_true c40
   clear c40
   obtain ⟨y198, hy198⟩ : ∃ y_ : List (S52), y_ = (l0.take (qd : Int).toNat) := ⟨_, rfl⟩
   replace H : (if y195.length + y198.length < 3518437208883 then ((some (y195 ++ y198 : List (S52))).bind fun y203 => ((some (([(⟨l1_0, a1_1, a1_2⟩ : S52)] : List (S52)) : List (S52))).bind fun y206 => (if y203.length + y206.length < 3518437208883 then ((some (y203 ++ y206 : List (S52))).bind fun y209 => ((some (l0.drop (qd : Int).toNat : List (S52))).bind fun y212 => (if y209.length + y212.length < 3518437208883 then (some (y209 ++ y212)) else (none)))) else (none)))) else (none)) = some r := by first | (rw [hy198]; with_reducible exact H) | (have H2_ := (Option.bind_some _ _).symm.trans H; rw [hy198]; with_reducible exact H2_) | (have H2_ := (Option.bind_some _ _).symm.trans H; with_reducible exact H2_) | with_reducible exact H | (rw [hy198]; exact H) | exact H
   have Ny198 := Aside0.mk hy198
   clear hy198
   replace H := ip_ H
   obtain ⟨c41, H⟩ := H
   have LMc41 := Aside0.mk c41
   clear c41
   obtain ⟨y203, hy203⟩ : ∃ y_ : List (S52), y_ = (y195 ++ y198) := ⟨_, rfl⟩
   replace H : ((some (([(⟨l1_0, a1_1, a1_2⟩ : S52)] : List (S52)) : List (S52))).bind fun y206 => (if y203.length + y206.length < 3518437208883 then ((some (y203 ++ y206 : List (S52))).bind fun y209 => ((some (l0.drop (qd : Int).toNat : List (S52))).bind fun y212 => (if y209.length + y212.length < 3518437208883 then (some (y209 ++ y212)) else (none)))) else (none))) = some r := by first | (rw [hy203]; with_reducible exact H) | (have H2_ := (Option.bind_some _ _).symm.trans H; rw [hy203]; with_reducible exact H2_) | (have H2_ := (Option.bind_some _ _).symm.trans H; with_reducible exact H2_) | with_reducible exact H | (rw [hy203]; exact H) | exact H
   have Ny203 := Aside0.mk hy203
   clear hy203
   obtain ⟨y206, hy206⟩ : ∃ y_ : List (S52), y_ = (([(⟨l1_0, a1_1, a1_2⟩ : S52)] : List (S52))) := ⟨_, rfl⟩
   replace H : (if y203.length + y206.length < 3518437208883 then ((some (y203 ++ y206 : List (S52))).bind fun y209 => ((some (l0.drop (qd : Int).toNat : List (S52))).bind fun y212 => (if y209.length + y212.length < 3518437208883 then (some (y209 ++ y212)) else (none)))) else (none)) = some r := by first | (rw [hy206]; with_reducible exact H) | (have H2_ := (Option.bind_some _ _).symm.trans H; rw [hy206]; with_reducible exact H2_) | (have H2_ := (Option.bind_some _ _).symm.trans H; with_reducible exact H2_) | with_reducible exact H | (rw [hy206]; exact H) | exact H
   have Ny206 := Aside0.mk hy206
   clear hy206
   replace H := ip_ H
   obtain ⟨c42, H⟩ := H
   have LMc42 := Aside0.mk c42
   clear c42
   obtain ⟨y209, hy209⟩ : ∃ y_ : List (S52), y_ = (y203 ++ y206) := ⟨_, rfl⟩
   replace H : ((some (l0.drop (qd : Int).toNat : List (S52))).bind fun y212 => (if y209.length + y212.length < 3518437208883 then (some (y209 ++ y212)) else (none))) = some r := by first | (rw [hy209]; with_reducible exact H) | (have H2_ := (Option.bind_some _ _).symm.trans H; rw [hy209]; with_reducible exact H2_) | (have H2_ := (Option.bind_some _ _).symm.trans H; with_reducible exact H2_) | with_reducible exact H | (rw [hy209]; exact H) | exact H
   have Ny209 := Aside0.mk hy209
   clear hy209
   have zw := eq_true (od_ : 0 ≤ qd)
   have zx := eq_true (od_ : qd ≤ (l0.length : Int))
   obtain ⟨y212, hy212⟩ : ∃ y_ : List (S52), y_ = (l0.drop (qd : Int).toNat) := ⟨_, rfl⟩
   replace H : (if y209.length + y212.length < 3518437208883 then (some (y209 ++ y212)) else (none)) = some r := by first | (rw [hy212]; with_reducible exact H) | (have H2_ := (Option.bind_some _ _).symm.trans H; rw [hy212]; with_reducible exact H2_) | (have H2_ := (Option.bind_some _ _).symm.trans H; with_reducible exact H2_) | with_reducible exact H | (rw [hy212]; exact H) | exact H
   have Ny212 := Aside0.mk hy212
   clear hy212
   replace H := ip_ H
   obtain ⟨c45, H⟩ := H
   have LMc45 := Aside0.mk c45
   clear c45
   obtain ⟨y217, hy217⟩ : ∃ y_ : List (S52), y_ = (y209 ++ y212) := ⟨_, rfl⟩
   replace H : (some y217) = some r := by first | (rw [hy217]; with_reducible exact H) | (have H2_ := (Option.bind_some _ _).symm.trans H; rw [hy217]; with_reducible exact H2_) | (have H2_ := (Option.bind_some _ _).symm.trans H; with_reducible exact H2_) | with_reducible exact H | (rw [hy217]; exact H) | exact H
   have Ny217 := Aside0.mk hy217
   clear hy217
   obtain rfl := Option.some.inj H
   try go_wp2
   replace qe := Aside0.mk (Kd.V_drew qe.out); replace qa := Aside0.mk (Kd.V_drew qa.out); replace qb := Aside0.mk (blk_drew qb.out); replace HB := Aside0.mk (below_drew1 HB.out)
   have q47 : (qd : Int) ≤ ((l0.length : Int) : Int) := od_
   obtain ⟨i047, hi047, _, hsz47, _⟩ := info_parts info52
   have hroom47 : l0.length ≤ c0 := (Kd.V_reads' qe.out).2.1
   have hC47 : Kd.F k52 _ _ A0 l0.length l0 := (Kd.V_at (base := w.heap.size) qe.out).2.2
   have hcut47 := cut_to (P := Try.prog) 26 52 .i64 Try.underlying26 hi047 A0 l0.length c0 qd (od_) q47 hroom47
   have hr47 := Kd.F_take (m := (qd : Int).toNat) hC47 (by omega)
   have hy47 : y198.length = (qd : Int).toNat := (by rw [Ny198.out, List.length_take]; omega)
   rw [← Ny198.out] at hr47
   rw [← hy47] at hcut47
   have qg := Aside0.mk (show Kd.V k52 52 _ w.heap.size _ (.slice A0 y198.length c0) y198 from Kd.V_mk (by omega) hr47)
   have HC202 := Aside0.mk (show y198.length ≤ c0 from by omega)
   clear hr47 hC47 hroom47 hi047 hsz47
   have KY47 := Aside0.mk hy47
   clear hy47
   replace q47 := eq_true q47
   have q48 : (qd : Int) ≤ ((l0.length : Int) : Int) := od_
   obtain ⟨i048, hi048, _, hsz48, _⟩ := info_parts info52
   have hroom48 : l0.length ≤ c0 := (Kd.V_reads' qe.out).2.1
   have hC48 : Kd.F k52 _ _ A0 l0.length l0 := (Kd.V_at (base := w.heap.size) qe.out).2.2
   have q048 : (0 : Int) ≤ (qd : Int) := od_
   have hcut48 := cut_from (P := Try.prog) 26 52 .i64 Try.underlying26 hi048 3 hsz48 A0 l0.length c0 qd q048 q48
   have hr48 := Kd.F_cut (m := (qd : Int).toNat) (c := c0) hC48 (by omega) hroom48
   obtain ⟨A48, hA48⟩ : ∃ A1, A1 = (if c0 = (qd : Int).toNat then A0 else (A0 : Option Addr).map (·.add ((qd : Int).toNat * 3))) := ⟨_, rfl⟩
   obtain ⟨c48, hc48⟩ : ∃ c1, c1 = c0 - (qd : Int).toNat := ⟨_, rfl⟩
   have hy48 : y212.length = l0.length - (qd : Int).toNat := (by rw [Ny212.out, List.length_drop] <;> omega)
   rw [show (l0).drop (qd : Int).toNat = y212 from Ny212.out.symm] at hr48
   replace hr48 : Kd.F k52 _ _ A48 y212.length y212 := (by rw [hA48]; exact hr48)
   rw [← hy48, ← hA48, ← hc48] at hcut48
   have qh := Aside0.mk (show Kd.V k52 52 _ w.heap.size _ (.slice A48 y212.length c48) y212 from Kd.V_mk (by rw [hy48, hc48]; exact Nat.sub_le_sub_right hroom48 _) hr48)
   have HC216 := Aside0.mk (show y212.length ≤ c48 from by rw [hy48, hc48]; exact Nat.sub_le_sub_right hroom48 _)
   clear hr48 hC48 hroom48 hi048 hsz48 hc48
   have KY48 := Aside0.mk hy48
   have KA48 := Aside0.mk hA48
   clear hy48 hA48
   replace q48 := eq_true q48
   refine start_ (n := 13) (S := fun w' => w'.cell? ⟨qc, 0, none⟩ = some (.slice A1_0 l1_0.length c1_0) ∧ w'.cell? ⟨qc, 1, none⟩ = some (.int .i64 a1_1) ∧ w'.cell? ⟨qc, 2, none⟩ = some (.bool a1_2)) (ds := []) (fl_ 13 0) (by kernel_rfl) rfl rfl ⟨bc_ qb 0, bc_ qb 1, bc_ qb 2⟩ (fun hHeld => ?_); refine with_tabW spec_l3Put.tab10 spec_l3Put.bits10 (fun HT_ HW_ => ?_)
   generalize wc.drew = zy at qe qa qb HB qg qh hHeld ⊢
   refine pX_ 1 (some 51) (fl_ 13 2) HT_ ?_
   refine pX_ 2 (some 52) (fl_ 13 6) HT_ ?_
   refine pX_ 3 (some 53) (fl_ 13 14) HT_ ?_
   refine pX_ 8 (some 58) (fl_ 13 270) HT_ ?_
   refine pX_ 9 (some 59) (fl_ 13 782) HT_ ?_
   refine pX_ 10 (some 60) (fl_ 13 1806) HT_ ?_
   refine tX_ 5 (some 55) (fl_ 13 1838) rfl rfl HT_ HW_ hHeld (by rintro w' ⟨s0, s1, s2⟩; go_simp; with_reducible rfl) ?_
   refine join_ (σ := Value × Value × Value) 3 (fl_ 13 1919) (fun s_ => [(50, s_.1), (54, s_.2.1), (56, s_.2.2)]) (fun s_ w' => (w'.cell? ⟨qc, 0, none⟩ = some (.slice A1_0 l1_0.length c1_0) ∧ w'.cell? ⟨qc, 1, none⟩ = some (.int .i64 a1_1) ∧ w'.cell? ⟨qc, 2, none⟩ = some (.bool a1_2)) ∧ (Kd.V k52 52 w' w.heap.size (fun k_ => ((P0_ k_ ∨ P1_0_ k_) ∨ w.heap.size ≤ k_) ∧ some k_ ≠ (s_.2.1 : Value).ownBlock ∧ some k_ ≠ (s_.2.2 : Value).ownBlock ∧ k_ ≠ qc) (.slice A0 y198.length c0) y198) ∧ (Kd.N k52 52 w' w.heap.size (fun k_ => ((P0_ k_ ∨ P1_0_ k_) ∨ w.heap.size ≤ k_) ∧ some k_ ≠ (s_.2.2 : Value).ownBlock ∧ k_ ≠ qc) s_.2.1 y203) ∧ (Kd.N k52 52 w' w.heap.size (fun k_ => ((P0_ k_ ∨ P1_0_ k_) ∨ w.heap.size ≤ k_) ∧ some k_ ≠ (s_.2.1 : Value).ownBlock ∧ k_ ≠ qc) s_.2.2 y206) ∧ (Kd.V k52 52 w' w.heap.size (fun k_ => ((P0_ k_ ∨ P1_0_ k_) ∨ w.heap.size ≤ k_) ∧ some k_ ≠ (s_.2.1 : Value).ownBlock ∧ some k_ ≠ (s_.2.2 : Value).ownBlock ∧ k_ ≠ qc) (.slice A48 y212.length c48) y212) ∧ (Kd.V k52 52 w' w.heap.size (fun k_ => ((P0_ k_ ∨ P1_0_ k_) ∨ w.heap.size ≤ k_) ∧ some k_ ≠ (s_.2.1 : Value).ownBlock ∧ some k_ ≠ (s_.2.2 : Value).ownBlock ∧ k_ ≠ qc) (.slice A0 l0.length c0) l0) ∧ (Kd.V (Kd.int .i64) 3 w' w.heap.size (fun k_ => ((P0_ k_ ∨ P1_0_ k_) ∨ w.heap.size ≤ k_) ∧ some k_ ≠ (s_.2.1 : Value).ownBlock ∧ some k_ ≠ (s_.2.2 : Value).ownBlock ∧ k_ ≠ qc) (.slice A1_0 l1_0.length c1_0) l1_0) ∧ (w'.heap[qc]? = some (.cells #[.slice A1_0 l1_0.length c1_0, .int .i64 a1_1, .bool a1_2] 52 (0, 0))) ∧ (Below w.heap.size w w')) ?_ ?_
   rotate_left
   ·
    intro hCont
    refine two_ (i := 0) (j := 6) (Ni := some 50) (Nj := some 56) (fl_ 13 1839) (fl_ 13 1902) rfl rfl rfl rfl (two_of HT_.out (by kernel_rfl)) (by decide) (by decide) (fun K hK => ?_) (fun K hK => ?_)
    rotate_left
    ·
     skip
     refine Kd.N_lit_step k52 _ 52 ?hg (N' := 56) ?hd (xs := ([(⟨l1_0, a1_1, a1_2⟩ : S52)] : List (S52))) (inner := [.slice A1_0 l1_0.length c1_0, .int .i64 a1_1, .bool a1_2]) (ok := (fun k_ => ((P0_ k_ ∨ P1_0_ k_) ∨ w.heap.size ≤ k_) ∧ k_ ≠ qc)) (okp := (fun k_ => ((P0_ k_ ∨ P1_0_ k_) ∨ w.heap.size ≤ k_) ∧ k_ ≠ qc)) ?hr ?hp (fun _ hk => hk) ((show ∀ k_, zy.heap.size ≤ k_ → (fun k_ => ((P0_ k_ ∨ P1_0_ k_) ∨ w.heap.size ≤ k_) ∧ k_ ≠ qc) k_ from fun k_ hk => ⟨(.inr (Nat.le_trans (bz_ HB) hk)), Kd.freshB (g := qc) (o := .cells #[.slice A1_0 l1_0.length c1_0, .int .i64 a1_1, .bool a1_2] 52 (0, 0)) (kf_ qb) k_ hk⟩) _ (Nat.le_refl _)) (Below.refl _ _) (Nat.le_refl _) (by simp) ?_; (case hd => rfl); (case hg => rfl); (case hr => first | (go_simp; done) | (go_simp; rfl)); (case hp => exact (Reps.c3 (show Kd.FK k52 _ _ (⟨l1_0, a1_1, a1_2⟩ : S52) [.slice A1_0 l1_0.length c1_0, .int .i64 a1_1, .bool a1_2] from (k52_mkF _ _ (⟨l1_0, a1_1, a1_2⟩ : S52) (Kd.V_reads' (Kd.V_mono (ok' := (fun k_ => ((P0_ k_ ∨ P1_0_ k_) ∨ w.heap.size ≤ k_) ∧ k_ ≠ qc)) (qa.out) (fun k_ hk => ⟨hk.1, hk.2⟩))).2.1 (Kd.V_F (Kd.V_mono (ok' := (fun k_ => ((P0_ k_ ∨ P1_0_ k_) ∨ w.heap.size ≤ k_) ∧ k_ ≠ qc)) (qa.out) (fun k_ hk => ⟨hk.1, hk.2⟩))))) (Reps.none _ _)))
     intro ql zk ho50 hb hg_ hnew_
     clear hg_ hnew_
     (first | rw [← Ny206.out] at ho50 | (simp only [Int.reduceToNat] at ho50; rw [← Ny206.out] at ho50))
     replace qe := Aside0.mk (Kd.V_elder' (vm_ qe) (Kd.N_base ho50) hb); replace qa := Aside0.mk (Kd.V_elder' (vm_ qa) (Kd.N_base ho50) hb); replace qg := Aside0.mk (Kd.V_elder' (vm_ qg) (Kd.N_base ho50) hb); replace qh := Aside0.mk (Kd.V_elder' (vm_ qh) (Kd.N_base ho50) hb); have qj := Aside0.mk (Kd.N_lower ho50 (bz_ HB)); replace qb := kB_ qb hb; replace HB := bS_ HB hb; clear hb ho50
     refine hK.out _ _ ⟨bc_ qb 0, bc_ qb 1, bc_ qb 2⟩ (fun hHeld => ?_)
     clear hK K
     refine norm_ (a' := ?_) ?_ ?_
     rotate_left
     ·
      show Act.put _ (some 56) _ = _
      simp only [Act.put, sa_, s0_, s1_, i64_w, i32_w]
      rfl
     refine one_ (i := 0) (N := some 50) (fl_ 13 1903) rfl rfl (one_of HT_.out (by kernel_rfl)) (by decide) (fun K hK => ?_)
     refine Kd.N_lit_step k52 _ 52 ?hg (N' := 50) ?hd (xs := ([] : List (S52))) (inner := []) (ok := (fun k_ => ((P0_ k_ ∨ P1_0_ k_) ∨ w.heap.size ≤ k_) ∧ some k_ ≠ (ql : Value).ownBlock ∧ k_ ≠ qc)) (okp := (fun k_ => ((P0_ k_ ∨ P1_0_ k_) ∨ w.heap.size ≤ k_) ∧ some k_ ≠ (ql : Value).ownBlock ∧ k_ ≠ qc)) ?hr ?hp (fun _ hk => hk) ((show ∀ k_, zk.heap.size ≤ k_ → (fun k_ => ((P0_ k_ ∨ P1_0_ k_) ∨ w.heap.size ≤ k_) ∧ some k_ ≠ (ql : Value).ownBlock ∧ k_ ≠ qc) k_ from fun k_ hk => ⟨(.inr (Nat.le_trans (bz_ HB) hk)), Kd.fresh' (Kd.N_lt (nm_ qj)) k_ hk, Kd.freshB (g := qc) (o := .cells #[.slice A1_0 l1_0.length c1_0, .int .i64 a1_1, .bool a1_2] 52 (0, 0)) (kf_ qb) k_ hk⟩) _ (Nat.le_refl _)) (Below.refl _ _) (Nat.le_refl _) (by simp) ?_; (case hd => rfl); (case hg => rfl); (case hr => first | (go_simp; done) | (go_simp; rfl)); (case hp => exact (Reps.none _ _))
     intro qq zl ho52 hb hg_ hnew_
     clear hg_ hnew_
     (first | rw [← Ny195.out] at ho52 | (simp only [Int.reduceToNat] at ho52; rw [← Ny195.out] at ho52))
     replace qe := Aside0.mk (Kd.V_elder' (vm_ qe) (Kd.N_base ho52) hb); replace qa := Aside0.mk (Kd.V_elder' (vm_ qa) (Kd.N_base ho52) hb); replace qg := Aside0.mk (Kd.V_elder' (vm_ qg) (Kd.N_base ho52) hb); replace qh := Aside0.mk (Kd.V_elder' (vm_ qh) (Kd.N_base ho52) hb); replace qj := Aside0.mk (Kd.N_elder' (nm_ qj) (Kd.N_base ho52) hb); have qm := Aside0.mk (Kd.N_lower ho52 (bz_ HB)); replace qb := kB_ qb hb; replace HB := bS_ HB hb; clear hb ho52
     refine hK.out _ _ ⟨bc_ qb 0, bc_ qb 1, bc_ qb 2⟩ (fun hHeld => ?_)
     clear hK K
     refine norm_ (a' := ?_) ?_ ?_
     rotate_left
     ·
      show Act.put _ (some 50) _ = _
      simp only [Act.put, sa_, s0_, s1_, i64_w, i32_w]
      rfl
     refine one_ (i := 4) (N := some 54) (fl_ 13 1919) rfl rfl (one_of HT_.out (by kernel_rfl)) (by decide) (fun K hK => ?_)
     refine Kd.N_append_rows_step k52 (w0 := w) w.heap.size (by rfl) (.tmp 50) (.tmp 53) 26 52 (.agg #[(.slice none 0 0), (.int .i64 0), (.bool false)]) 40 rfl Try.underlying26 info52 rfl (by decide) (by omega) qq y195 y198 _ _ _ (fun k_ => ((P0_ k_ ∨ P1_0_ k_) ∨ w.heap.size ≤ k_) ∧ some k_ ≠ (ql : Value).ownBlock ∧ k_ ≠ qc) (fun k_ => ((fun k_ => ((P0_ k_ ∨ P1_0_ k_) ∨ w.heap.size ≤ k_) ∧ some k_ ≠ (ql : Value).ownBlock ∧ k_ ≠ qc)) k_ ∧ some k_ ≠ (qq : Value).ownBlock) rfl rfl ?aO ?aR (fun _ hk => hk) ?aF ?aB ?aS ?aL ?_
     (case aR => exact (by skip; exact Kd.V_F (Kd.V_mono (ok' := (fun k_ => ((fun k_ => ((P0_ k_ ∨ P1_0_ k_) ∨ w.heap.size ≤ k_) ∧ some k_ ≠ (ql : Value).ownBlock ∧ k_ ≠ qc)) k_ ∧ some k_ ≠ (qq : Value).ownBlock)) (qg.out) (fun k_ hk => ⟨⟨hk.1.1.1, ⟨hk.1.2, hk.1.1.2⟩⟩, hk.2⟩))))
     (case aB => exact (bb_ HB))
     (case aF => exact (fun k_ hk => ⟨(.inr (Nat.le_trans (bz_ HB) hk)), Kd.fresh' (Kd.N_lt (nm_ qj)) k_ hk, Kd.freshB (g := qc) (o := .cells #[.slice A1_0 l1_0.length c1_0, .int .i64 a1_1, .bool a1_2] 52 (0, 0)) (kf_ qb) k_ hk⟩))
     (case aO => exact (nm_ qm))
     (case aS => exact (bz_ HB))
     (case aL => have := LMc41.out; omega)
     intro qn zD ho hb hg hat
     rw [← Ny203.out] at ho
     replace qe := Aside0.mk (Kd.V_afterv (ok := (fun k_ => ((P0_ k_ ∨ P1_0_ k_) ∨ w.heap.size ≤ k_) ∧ some k_ ≠ (ql : Value).ownBlock ∧ k_ ≠ qc)) (by (with_reducible repeat (first | apply Kd.V_alloc | apply Kd.V_drewN | apply Kd.V_drew)); exact Kd.V_mono qe.out (fun _ hk => ⟨⟨hk.1.1.1, ⟨hk.1.2, hk.1.1.2⟩⟩, hk.2⟩)) hg hat); replace qa := Aside0.mk (Kd.V_afterv (ok := (fun k_ => ((P0_ k_ ∨ P1_0_ k_) ∨ w.heap.size ≤ k_) ∧ some k_ ≠ (ql : Value).ownBlock ∧ k_ ≠ qc)) (by (with_reducible repeat (first | apply Kd.V_alloc | apply Kd.V_drewN | apply Kd.V_drew)); exact Kd.V_mono qa.out (fun _ hk => ⟨⟨hk.1.1.1, ⟨hk.1.2, hk.1.1.2⟩⟩, hk.2⟩)) hg hat); replace qb := Aside0.mk (blk_grown (g := qc) (o := .cells #[.slice A1_0 l1_0.length c1_0, .int .i64 a1_1, .bool a1_2] 52 (0, 0)) (kf_ qb) hg (Kd.N_away qm.out (fun _ hk => hk.2.2))); replace qg := Aside0.mk (Kd.V_afterv (ok := (fun k_ => ((P0_ k_ ∨ P1_0_ k_) ∨ w.heap.size ≤ k_) ∧ some k_ ≠ (ql : Value).ownBlock ∧ k_ ≠ qc)) (by (with_reducible repeat (first | apply Kd.V_alloc | apply Kd.V_drewN | apply Kd.V_drew)); exact Kd.V_mono qg.out (fun _ hk => ⟨⟨hk.1.1.1, ⟨hk.1.2, hk.1.1.2⟩⟩, hk.2⟩)) hg hat); replace qh := Aside0.mk (Kd.V_afterv (ok := (fun k_ => ((P0_ k_ ∨ P1_0_ k_) ∨ w.heap.size ≤ k_) ∧ some k_ ≠ (ql : Value).ownBlock ∧ k_ ≠ qc)) (by (with_reducible repeat (first | apply Kd.V_alloc | apply Kd.V_drewN | apply Kd.V_drew)); exact Kd.V_mono qh.out (fun _ hk => ⟨⟨hk.1.1.1, ⟨hk.1.2, hk.1.1.2⟩⟩, hk.2⟩)) hg hat); replace qj := Aside0.mk (Kd.N_afterv (ok := (fun k_ => ((P0_ k_ ∨ P1_0_ k_) ∨ w.heap.size ≤ k_) ∧ k_ ≠ qc)) (nm_ qj) hg hat); replace HB := Aside0.mk (hb); have qr := Aside0.mk (ho); clear qm; clear ho hb hg hat
     refine hK.out _ _ ⟨bc_ qb 0, bc_ qb 1, bc_ qb 2⟩ (fun hHeld => ?_)
     clear hK K
     refine norm_ (a' := ?_) ?_ ?_
     rotate_left
     ·
      show Act.put _ (some 54) _ = _
      simp only [Act.put, sa_, s0_, s1_, i64_w, i32_w]
      rfl
     exact norm_ (by simp only [putAll, Act.put, List.setIfInBounds_toArray, List.set_cons_zero, List.set_cons_succ]) (hCont (qq, qn, ql) _ ⟨hHeld, (by (with_reducible repeat (first | apply Kd.V_alloc | apply Kd.V_drewN | apply Kd.V_drew)); exact Kd.V_mono qg.out (fun _ hk => ⟨hk.1.1, ⟨hk.2, ⟨hk.1.2.1, hk.1.2.2⟩⟩⟩)), (nm_ qr), (by (with_reducible repeat (first | apply Kd.N_alloc | apply Kd.N_drewN | apply Kd.N_drew)); exact Kd.N_mono qj.out (fun _ hk => ⟨hk.1.1, ⟨hk.2, hk.1.2⟩⟩)), (by (with_reducible repeat (first | apply Kd.V_alloc | apply Kd.V_drewN | apply Kd.V_drew)); exact Kd.V_mono qh.out (fun _ hk => ⟨hk.1.1, ⟨hk.2, ⟨hk.1.2.1, hk.1.2.2⟩⟩⟩)), (by (with_reducible repeat (first | apply Kd.V_alloc | apply Kd.V_drewN | apply Kd.V_drew)); exact Kd.V_mono qe.out (fun _ hk => ⟨hk.1.1, ⟨hk.2, ⟨hk.1.2.1, hk.1.2.2⟩⟩⟩)), (by (with_reducible repeat (first | apply Kd.V_alloc | apply Kd.V_drewN | apply Kd.V_drew)); exact Kd.V_mono qa.out (fun _ hk => ⟨hk.1.1, ⟨hk.2, ⟨hk.1.2.1, hk.1.2.2⟩⟩⟩)), (kf_ qb), (bb_ HB)⟩)
    skip
    refine Kd.N_lit_step k52 _ 52 ?hg (N' := 50) ?hd (xs := ([] : List (S52))) (inner := []) (ok := (fun k_ => ((P0_ k_ ∨ P1_0_ k_) ∨ w.heap.size ≤ k_) ∧ k_ ≠ qc)) (okp := (fun k_ => ((P0_ k_ ∨ P1_0_ k_) ∨ w.heap.size ≤ k_) ∧ k_ ≠ qc)) ?hr ?hp (fun _ hk => hk) ((show ∀ k_, zy.heap.size ≤ k_ → (fun k_ => ((P0_ k_ ∨ P1_0_ k_) ∨ w.heap.size ≤ k_) ∧ k_ ≠ qc) k_ from fun k_ hk => ⟨(.inr (Nat.le_trans (bz_ HB) hk)), Kd.freshB (g := qc) (o := .cells #[.slice A1_0 l1_0.length c1_0, .int .i64 a1_1, .bool a1_2] 52 (0, 0)) (kf_ qb) k_ hk⟩) _ (Nat.le_refl _)) (Below.refl _ _) (Nat.le_refl _) (by simp) ?_; (case hd => rfl); (case hg => rfl); (case hr => first | (go_simp; done) | (go_simp; rfl)); (case hp => exact (Reps.none _ _))
    intro qq zk ho50 hb hg_ hnew_
    clear hg_ hnew_
    (first | rw [← Ny195.out] at ho50 | (simp only [Int.reduceToNat] at ho50; rw [← Ny195.out] at ho50))
    replace qe := Aside0.mk (Kd.V_elder' (vm_ qe) (Kd.N_base ho50) hb); replace qa := Aside0.mk (Kd.V_elder' (vm_ qa) (Kd.N_base ho50) hb); replace qg := Aside0.mk (Kd.V_elder' (vm_ qg) (Kd.N_base ho50) hb); replace qh := Aside0.mk (Kd.V_elder' (vm_ qh) (Kd.N_base ho50) hb); have qm := Aside0.mk (Kd.N_lower ho50 (bz_ HB)); replace qb := kB_ qb hb; replace HB := bS_ HB hb; clear hb ho50
    refine hK.out _ _ ⟨bc_ qb 0, bc_ qb 1, bc_ qb 2⟩ (fun hHeld => ?_)
    clear hK K
    refine norm_ (a' := ?_) ?_ ?_
    rotate_left
    ·
     show Act.put _ (some 50) _ = _
     simp only [Act.put, sa_, s0_, s1_, i64_w, i32_w]
     rfl
    refine two_ (i := 4) (j := 6) (Ni := some 54) (Nj := some 56) (fl_ 13 1855) (fl_ 13 1903) rfl rfl rfl rfl (two_of HT_.out (by kernel_rfl)) (by decide) (by decide) (fun K hK => ?_) (fun K hK => ?_)
    ·
     skip
     refine Kd.N_append_rows_step k52 (w0 := w) w.heap.size (by rfl) (.tmp 50) (.tmp 53) 26 52 (.agg #[(.slice none 0 0), (.int .i64 0), (.bool false)]) 40 rfl Try.underlying26 info52 rfl (by decide) (by omega) qq y195 y198 _ _ _ (fun k_ => ((P0_ k_ ∨ P1_0_ k_) ∨ w.heap.size ≤ k_) ∧ k_ ≠ qc) (fun k_ => ((fun k_ => ((P0_ k_ ∨ P1_0_ k_) ∨ w.heap.size ≤ k_) ∧ k_ ≠ qc)) k_ ∧ some k_ ≠ (qq : Value).ownBlock) rfl rfl ?aO ?aR (fun _ hk => hk) ?aF ?aB ?aS ?aL ?_
     (case aR => exact (by skip; exact Kd.V_F (Kd.V_mono (ok' := (fun k_ => ((fun k_ => ((P0_ k_ ∨ P1_0_ k_) ∨ w.heap.size ≤ k_) ∧ k_ ≠ qc)) k_ ∧ some k_ ≠ (qq : Value).ownBlock)) (qg.out) (fun k_ hk => ⟨⟨hk.1.1, hk.1.2⟩, hk.2⟩))))
     (case aB => exact (bb_ HB))
     (case aF => exact (fun k_ hk => ⟨(.inr (Nat.le_trans (bz_ HB) hk)), Kd.freshB (g := qc) (o := .cells #[.slice A1_0 l1_0.length c1_0, .int .i64 a1_1, .bool a1_2] 52 (0, 0)) (kf_ qb) k_ hk⟩))
     (case aO => exact (nm_ qm))
     (case aS => exact (bz_ HB))
     (case aL => have := LMc41.out; omega)
     intro qn zl ho hb hg hat
     rw [← Ny203.out] at ho
     replace qe := Aside0.mk (Kd.V_afterv (ok := (fun k_ => ((P0_ k_ ∨ P1_0_ k_) ∨ w.heap.size ≤ k_) ∧ k_ ≠ qc)) (vm_ qe) hg hat); replace qa := Aside0.mk (Kd.V_afterv (ok := (fun k_ => ((P0_ k_ ∨ P1_0_ k_) ∨ w.heap.size ≤ k_) ∧ k_ ≠ qc)) (vm_ qa) hg hat); replace qb := Aside0.mk (blk_grown (g := qc) (o := .cells #[.slice A1_0 l1_0.length c1_0, .int .i64 a1_1, .bool a1_2] 52 (0, 0)) (kf_ qb) hg (Kd.N_away qm.out (fun _ hk => hk.2))); replace qg := Aside0.mk (Kd.V_afterv (ok := (fun k_ => ((P0_ k_ ∨ P1_0_ k_) ∨ w.heap.size ≤ k_) ∧ k_ ≠ qc)) (vm_ qg) hg hat); replace qh := Aside0.mk (Kd.V_afterv (ok := (fun k_ => ((P0_ k_ ∨ P1_0_ k_) ∨ w.heap.size ≤ k_) ∧ k_ ≠ qc)) (vm_ qh) hg hat); replace HB := Aside0.mk (hb); have qr := Aside0.mk (ho); clear qm; clear ho hb hg hat
     refine hK.out _ _ ⟨bc_ qb 0, bc_ qb 1, bc_ qb 2⟩ (fun hHeld => ?_)
     clear hK K
     refine norm_ (a' := ?_) ?_ ?_
     rotate_left
     ·
      show Act.put _ (some 54) _ = _
      simp only [Act.put, sa_, s0_, s1_, i64_w, i32_w]
      rfl
     refine one_ (i := 6) (N := some 56) (fl_ 13 1919) rfl rfl (one_of HT_.out (by kernel_rfl)) (by decide) (fun K hK => ?_)
     refine Kd.N_lit_step k52 _ 52 ?hg (N' := 56) ?hd (xs := ([(⟨l1_0, a1_1, a1_2⟩ : S52)] : List (S52))) (inner := [.slice A1_0 l1_0.length c1_0, .int .i64 a1_1, .bool a1_2]) (ok := (fun k_ => ((P0_ k_ ∨ P1_0_ k_) ∨ w.heap.size ≤ k_) ∧ some k_ ≠ (qn : Value).ownBlock ∧ k_ ≠ qc)) (okp := (fun k_ => ((P0_ k_ ∨ P1_0_ k_) ∨ w.heap.size ≤ k_) ∧ some k_ ≠ (qn : Value).ownBlock ∧ k_ ≠ qc)) ?hr ?hp (fun _ hk => hk) ((show ∀ k_, zl.heap.size ≤ k_ → (fun k_ => ((P0_ k_ ∨ P1_0_ k_) ∨ w.heap.size ≤ k_) ∧ some k_ ≠ (qn : Value).ownBlock ∧ k_ ≠ qc) k_ from fun k_ hk => ⟨(.inr (Nat.le_trans (bz_ HB) hk)), Kd.fresh' (Kd.N_lt (nm_ qr)) k_ hk, Kd.freshB (g := qc) (o := .cells #[.slice A1_0 l1_0.length c1_0, .int .i64 a1_1, .bool a1_2] 52 (0, 0)) (kf_ qb) k_ hk⟩) _ (Nat.le_refl _)) (Below.refl _ _) (Nat.le_refl _) (by simp) ?_; (case hd => rfl); (case hg => rfl); (case hr => first | (go_simp; done) | (go_simp; rfl)); (case hp => exact (Reps.c3 (show Kd.FK k52 _ _ (⟨l1_0, a1_1, a1_2⟩ : S52) [.slice A1_0 l1_0.length c1_0, .int .i64 a1_1, .bool a1_2] from (k52_mkF _ _ (⟨l1_0, a1_1, a1_2⟩ : S52) (Kd.V_reads' (Kd.V_mono (ok' := (fun k_ => ((P0_ k_ ∨ P1_0_ k_) ∨ w.heap.size ≤ k_) ∧ some k_ ≠ (qn : Value).ownBlock ∧ k_ ≠ qc)) (qa.out) (fun k_ hk => ⟨hk.1.1, ⟨hk.2, hk.1.2⟩⟩))).2.1 (Kd.V_F (Kd.V_mono (ok' := (fun k_ => ((P0_ k_ ∨ P1_0_ k_) ∨ w.heap.size ≤ k_) ∧ some k_ ≠ (qn : Value).ownBlock ∧ k_ ≠ qc)) (qa.out) (fun k_ hk => ⟨hk.1.1, ⟨hk.2, hk.1.2⟩⟩))))) (Reps.none _ _)))
     intro ql zQ ho53 hb hg_ hnew_
     clear hg_ hnew_
     (first | rw [← Ny206.out] at ho53 | (simp only [Int.reduceToNat] at ho53; rw [← Ny206.out] at ho53))
     replace qe := Aside0.mk (Kd.V_elder' (vm_ qe) (Kd.N_base ho53) hb); replace qa := Aside0.mk (Kd.V_elder' (vm_ qa) (Kd.N_base ho53) hb); replace qg := Aside0.mk (Kd.V_elder' (vm_ qg) (Kd.N_base ho53) hb); replace qh := Aside0.mk (Kd.V_elder' (vm_ qh) (Kd.N_base ho53) hb); replace qr := Aside0.mk (Kd.N_elder' (nm_ qr) (Kd.N_base ho53) hb); have qj := Aside0.mk (Kd.N_lower ho53 (bz_ HB)); replace qb := kB_ qb hb; replace HB := bS_ HB hb; clear hb ho53
     refine hK.out _ _ ⟨bc_ qb 0, bc_ qb 1, bc_ qb 2⟩ (fun hHeld => ?_)
     clear hK K
     refine norm_ (a' := ?_) ?_ ?_
     rotate_left
     ·
      show Act.put _ (some 56) _ = _
      simp only [Act.put, sa_, s0_, s1_, i64_w, i32_w]
      rfl
     exact norm_ (by simp only [putAll, Act.put, List.setIfInBounds_toArray, List.set_cons_zero, List.set_cons_succ]) (hCont (qq, qn, ql) _ ⟨hHeld, (by (with_reducible repeat (first | apply Kd.V_alloc | apply Kd.V_drewN | apply Kd.V_drew)); exact Kd.V_mono qg.out (fun _ hk => ⟨hk.1.1.1, ⟨hk.1.2, ⟨hk.2, hk.1.1.2⟩⟩⟩)), (by (with_reducible repeat (first | apply Kd.N_alloc | apply Kd.N_drewN | apply Kd.N_drew)); exact Kd.N_mono qr.out (fun _ hk => ⟨hk.1.1, ⟨hk.2, hk.1.2⟩⟩)), (nm_ qj), (by (with_reducible repeat (first | apply Kd.V_alloc | apply Kd.V_drewN | apply Kd.V_drew)); exact Kd.V_mono qh.out (fun _ hk => ⟨hk.1.1.1, ⟨hk.1.2, ⟨hk.2, hk.1.1.2⟩⟩⟩)), (by (with_reducible repeat (first | apply Kd.V_alloc | apply Kd.V_drewN | apply Kd.V_drew)); exact Kd.V_mono qe.out (fun _ hk => ⟨hk.1.1.1, ⟨hk.1.2, ⟨hk.2, hk.1.1.2⟩⟩⟩)), (by (with_reducible repeat (first | apply Kd.V_alloc | apply Kd.V_drewN | apply Kd.V_drew)); exact Kd.V_mono qa.out (fun _ hk => ⟨hk.1.1.1, ⟨hk.1.2, ⟨hk.2, hk.1.1.2⟩⟩⟩)), (kf_ qb), (bb_ HB)⟩)
    skip
    refine Kd.N_lit_step k52 _ 52 ?hg (N' := 56) ?hd (xs := ([(⟨l1_0, a1_1, a1_2⟩ : S52)] : List (S52))) (inner := [.slice A1_0 l1_0.length c1_0, .int .i64 a1_1, .bool a1_2]) (ok := (fun k_ => ((P0_ k_ ∨ P1_0_ k_) ∨ w.heap.size ≤ k_) ∧ some k_ ≠ (qq : Value).ownBlock ∧ k_ ≠ qc)) (okp := (fun k_ => ((P0_ k_ ∨ P1_0_ k_) ∨ w.heap.size ≤ k_) ∧ some k_ ≠ (qq : Value).ownBlock ∧ k_ ≠ qc)) ?hr ?hp (fun _ hk => hk) ((show ∀ k_, zk.heap.size ≤ k_ → (fun k_ => ((P0_ k_ ∨ P1_0_ k_) ∨ w.heap.size ≤ k_) ∧ some k_ ≠ (qq : Value).ownBlock ∧ k_ ≠ qc) k_ from fun k_ hk => ⟨(.inr (Nat.le_trans (bz_ HB) hk)), Kd.fresh' (Kd.N_lt (nm_ qm)) k_ hk, Kd.freshB (g := qc) (o := .cells #[.slice A1_0 l1_0.length c1_0, .int .i64 a1_1, .bool a1_2] 52 (0, 0)) (kf_ qb) k_ hk⟩) _ (Nat.le_refl _)) (Below.refl _ _) (Nat.le_refl _) (by simp) ?_; (case hd => rfl); (case hg => rfl); (case hr => first | (go_simp; done) | (go_simp; rfl)); (case hp => exact (Reps.c3 (show Kd.FK k52 _ _ (⟨l1_0, a1_1, a1_2⟩ : S52) [.slice A1_0 l1_0.length c1_0, .int .i64 a1_1, .bool a1_2] from (k52_mkF _ _ (⟨l1_0, a1_1, a1_2⟩ : S52) (Kd.V_reads' (Kd.V_mono (ok' := (fun k_ => ((P0_ k_ ∨ P1_0_ k_) ∨ w.heap.size ≤ k_) ∧ some k_ ≠ (qq : Value).ownBlock ∧ k_ ≠ qc)) (qa.out) (fun k_ hk => ⟨hk.1.1, ⟨hk.2, hk.1.2⟩⟩))).2.1 (Kd.V_F (Kd.V_mono (ok' := (fun k_ => ((P0_ k_ ∨ P1_0_ k_) ∨ w.heap.size ≤ k_) ∧ some k_ ≠ (qq : Value).ownBlock ∧ k_ ≠ qc)) (qa.out) (fun k_ hk => ⟨hk.1.1, ⟨hk.2, hk.1.2⟩⟩))))) (Reps.none _ _)))
    intro ql zl ho52 hb hg_ hnew_
    clear hg_ hnew_
    (first | rw [← Ny206.out] at ho52 | (simp only [Int.reduceToNat] at ho52; rw [← Ny206.out] at ho52))
    replace qe := Aside0.mk (Kd.V_elder' (vm_ qe) (Kd.N_base ho52) hb); replace qa := Aside0.mk (Kd.V_elder' (vm_ qa) (Kd.N_base ho52) hb); replace qg := Aside0.mk (Kd.V_elder' (vm_ qg) (Kd.N_base ho52) hb); replace qh := Aside0.mk (Kd.V_elder' (vm_ qh) (Kd.N_base ho52) hb); replace qm := Aside0.mk (Kd.N_elder' (nm_ qm) (Kd.N_base ho52) hb); have qj := Aside0.mk (Kd.N_lower ho52 (bz_ HB)); replace qb := kB_ qb hb; replace HB := bS_ HB hb; clear hb ho52
    refine hK.out _ _ ⟨bc_ qb 0, bc_ qb 1, bc_ qb 2⟩ (fun hHeld => ?_)
    clear hK K
    refine norm_ (a' := ?_) ?_ ?_
    rotate_left
    ·
     show Act.put _ (some 56) _ = _
     simp only [Act.put, sa_, s0_, s1_, i64_w, i32_w]
     rfl
    refine one_ (i := 4) (N := some 54) (fl_ 13 1919) rfl rfl (one_of HT_.out (by kernel_rfl)) (by decide) (fun K hK => ?_)
    refine Kd.N_append_rows_step k52 (w0 := w) w.heap.size (by rfl) (.tmp 50) (.tmp 53) 26 52 (.agg #[(.slice none 0 0), (.int .i64 0), (.bool false)]) 40 rfl Try.underlying26 info52 rfl (by decide) (by omega) qq y195 y198 _ _ _ (fun k_ => ((P0_ k_ ∨ P1_0_ k_) ∨ w.heap.size ≤ k_) ∧ some k_ ≠ (ql : Value).ownBlock ∧ k_ ≠ qc) (fun k_ => ((fun k_ => ((P0_ k_ ∨ P1_0_ k_) ∨ w.heap.size ≤ k_) ∧ some k_ ≠ (ql : Value).ownBlock ∧ k_ ≠ qc)) k_ ∧ some k_ ≠ (qq : Value).ownBlock) rfl rfl ?aO ?aR (fun _ hk => hk) ?aF ?aB ?aS ?aL ?_
    (case aR => exact (by skip; exact Kd.V_F (Kd.V_mono (ok' := (fun k_ => ((fun k_ => ((P0_ k_ ∨ P1_0_ k_) ∨ w.heap.size ≤ k_) ∧ some k_ ≠ (ql : Value).ownBlock ∧ k_ ≠ qc)) k_ ∧ some k_ ≠ (qq : Value).ownBlock)) (qg.out) (fun k_ hk => ⟨⟨hk.1.1.1, ⟨hk.2, hk.1.1.2⟩⟩, hk.1.2⟩))))
    (case aB => exact (bb_ HB))
    (case aF => exact (fun k_ hk => ⟨(.inr (Nat.le_trans (bz_ HB) hk)), Kd.fresh' (Kd.N_lt (nm_ qj)) k_ hk, Kd.freshB (g := qc) (o := .cells #[.slice A1_0 l1_0.length c1_0, .int .i64 a1_1, .bool a1_2] 52 (0, 0)) (kf_ qb) k_ hk⟩))
    (case aO => exact (by (with_reducible repeat (first | apply Kd.N_alloc | apply Kd.N_drewN | apply Kd.N_drew)); exact Kd.N_mono qm.out (fun _ hk => ⟨hk.1.1, ⟨hk.2, hk.1.2⟩⟩)))
    (case aS => exact (bz_ HB))
    (case aL => have := LMc41.out; omega)
    intro qn zD ho hb hg hat
    rw [← Ny203.out] at ho
    replace qe := Aside0.mk (Kd.V_afterv (ok := (fun k_ => ((P0_ k_ ∨ P1_0_ k_) ∨ w.heap.size ≤ k_) ∧ some k_ ≠ (ql : Value).ownBlock ∧ k_ ≠ qc)) (by (with_reducible repeat (first | apply Kd.V_alloc | apply Kd.V_drewN | apply Kd.V_drew)); exact Kd.V_mono qe.out (fun _ hk => ⟨⟨hk.1.1.1, ⟨hk.2, hk.1.1.2⟩⟩, hk.1.2⟩)) hg hat); replace qa := Aside0.mk (Kd.V_afterv (ok := (fun k_ => ((P0_ k_ ∨ P1_0_ k_) ∨ w.heap.size ≤ k_) ∧ some k_ ≠ (ql : Value).ownBlock ∧ k_ ≠ qc)) (by (with_reducible repeat (first | apply Kd.V_alloc | apply Kd.V_drewN | apply Kd.V_drew)); exact Kd.V_mono qa.out (fun _ hk => ⟨⟨hk.1.1.1, ⟨hk.2, hk.1.1.2⟩⟩, hk.1.2⟩)) hg hat); replace qb := Aside0.mk (blk_grown (g := qc) (o := .cells #[.slice A1_0 l1_0.length c1_0, .int .i64 a1_1, .bool a1_2] 52 (0, 0)) (kf_ qb) hg (Kd.N_away qm.out (fun _ hk => hk.1.2))); replace qg := Aside0.mk (Kd.V_afterv (ok := (fun k_ => ((P0_ k_ ∨ P1_0_ k_) ∨ w.heap.size ≤ k_) ∧ some k_ ≠ (ql : Value).ownBlock ∧ k_ ≠ qc)) (by (with_reducible repeat (first | apply Kd.V_alloc | apply Kd.V_drewN | apply Kd.V_drew)); exact Kd.V_mono qg.out (fun _ hk => ⟨⟨hk.1.1.1, ⟨hk.2, hk.1.1.2⟩⟩, hk.1.2⟩)) hg hat); replace qh := Aside0.mk (Kd.V_afterv (ok := (fun k_ => ((P0_ k_ ∨ P1_0_ k_) ∨ w.heap.size ≤ k_) ∧ some k_ ≠ (ql : Value).ownBlock ∧ k_ ≠ qc)) (by (with_reducible repeat (first | apply Kd.V_alloc | apply Kd.V_drewN | apply Kd.V_drew)); exact Kd.V_mono qh.out (fun _ hk => ⟨⟨hk.1.1.1, ⟨hk.2, hk.1.1.2⟩⟩, hk.1.2⟩)) hg hat); replace qj := Aside0.mk (Kd.N_afterv (ok := (fun k_ => ((P0_ k_ ∨ P1_0_ k_) ∨ w.heap.size ≤ k_) ∧ k_ ≠ qc)) (by (with_reducible repeat (first | apply Kd.N_alloc | apply Kd.N_drewN | apply Kd.N_drew)); exact Kd.N_mono qj.out (fun _ hk => ⟨⟨hk.1, hk.2.2⟩, hk.2.1⟩)) hg hat); replace HB := Aside0.mk (hb); have qr := Aside0.mk (ho); clear qm; clear ho hb hg hat
    refine hK.out _ _ ⟨bc_ qb 0, bc_ qb 1, bc_ qb 2⟩ (fun hHeld => ?_)
    clear hK K
    refine norm_ (a' := ?_) ?_ ?_
    rotate_left
    ·
     show Act.put _ (some 54) _ = _
     simp only [Act.put, sa_, s0_, s1_, i64_w, i32_w]
     rfl
    exact norm_ (by simp only [putAll, Act.put, List.setIfInBounds_toArray, List.set_cons_zero, List.set_cons_succ]) (hCont (qq, qn, ql) _ ⟨hHeld, (by (with_reducible repeat (first | apply Kd.V_alloc | apply Kd.V_drewN | apply Kd.V_drew)); exact Kd.V_mono qg.out (fun _ hk => ⟨hk.1.1, ⟨hk.2, ⟨hk.1.2.1, hk.1.2.2⟩⟩⟩)), (nm_ qr), (by (with_reducible repeat (first | apply Kd.N_alloc | apply Kd.N_drewN | apply Kd.N_drew)); exact Kd.N_mono qj.out (fun _ hk => ⟨hk.1.1, ⟨hk.2, hk.1.2⟩⟩)), (by (with_reducible repeat (first | apply Kd.V_alloc | apply Kd.V_drewN | apply Kd.V_drew)); exact Kd.V_mono qh.out (fun _ hk => ⟨hk.1.1, ⟨hk.2, ⟨hk.1.2.1, hk.1.2.2⟩⟩⟩)), (by (with_reducible repeat (first | apply Kd.V_alloc | apply Kd.V_drewN | apply Kd.V_drew)); exact Kd.V_mono qe.out (fun _ hk => ⟨hk.1.1, ⟨hk.2, ⟨hk.1.2.1, hk.1.2.2⟩⟩⟩)), (by (with_reducible repeat (first | apply Kd.V_alloc | apply Kd.V_drewN | apply Kd.V_drew)); exact Kd.V_mono qa.out (fun _ hk => ⟨hk.1.1, ⟨hk.2, ⟨hk.1.2.1, hk.1.2.2⟩⟩⟩)), (kf_ qb), (bb_ HB)⟩)
   rintro ⟨qq, qn, ql⟩ qT ⟨hS_, h0_, h1_, h2_, h3_, h4_, h5_, h6_, h7_⟩
   have n0_ : Aside0 (Kd.V k52 52 qT w.heap.size (fun k_ => ((P0_ k_ ∨ P1_0_ k_) ∨ w.heap.size ≤ k_) ∧ some k_ ≠ (qn : Value).ownBlock ∧ some k_ ≠ (ql : Value).ownBlock ∧ k_ ≠ qc) (.slice A0 y198.length c0) y198) := ⟨h0_⟩
   have n1_ : Aside0 (Kd.N k52 52 qT w.heap.size (fun k_ => ((P0_ k_ ∨ P1_0_ k_) ∨ w.heap.size ≤ k_) ∧ some k_ ≠ (ql : Value).ownBlock ∧ k_ ≠ qc) qn y203) := ⟨h1_⟩
   have n2_ : Aside0 (Kd.N k52 52 qT w.heap.size (fun k_ => ((P0_ k_ ∨ P1_0_ k_) ∨ w.heap.size ≤ k_) ∧ some k_ ≠ (qn : Value).ownBlock ∧ k_ ≠ qc) ql y206) := ⟨h2_⟩
   have n3_ : Aside0 (Kd.V k52 52 qT w.heap.size (fun k_ => ((P0_ k_ ∨ P1_0_ k_) ∨ w.heap.size ≤ k_) ∧ some k_ ≠ (qn : Value).ownBlock ∧ some k_ ≠ (ql : Value).ownBlock ∧ k_ ≠ qc) (.slice A48 y212.length c48) y212) := ⟨h3_⟩
   have n4_ : Aside0 (Kd.V k52 52 qT w.heap.size (fun k_ => ((P0_ k_ ∨ P1_0_ k_) ∨ w.heap.size ≤ k_) ∧ some k_ ≠ (qn : Value).ownBlock ∧ some k_ ≠ (ql : Value).ownBlock ∧ k_ ≠ qc) (.slice A0 l0.length c0) l0) := ⟨h4_⟩
   have n5_ : Aside0 (Kd.V (Kd.int .i64) 3 qT w.heap.size (fun k_ => ((P0_ k_ ∨ P1_0_ k_) ∨ w.heap.size ≤ k_) ∧ some k_ ≠ (qn : Value).ownBlock ∧ some k_ ≠ (ql : Value).ownBlock ∧ k_ ≠ qc) (.slice A1_0 l1_0.length c1_0) l1_0) := ⟨h5_⟩
   have n6_ : Aside0 (qT.heap[qc]? = some (.cells #[.slice A1_0 l1_0.length c1_0, .int .i64 a1_1, .bool a1_2] 52 (0, 0))) := ⟨h6_⟩
   have n7_ : Aside0 (Below w.heap.size w qT) := ⟨h7_⟩
   clear qe
   clear qa
   clear qb
   clear HB
   clear h0_ h1_ h2_ h3_ h4_ h5_ h6_ h7_
   have qg := n0_
   have qr := n1_
   have qj := n2_
   have qh := n3_
   have qe := n4_
   have qa := n5_
   have qb := n6_
   have HB := n7_
   clear n0_ n1_ n2_ n3_ n4_ n5_ n6_ n7_
   have hHeld : qT.cell? ⟨qc, 0, none⟩ = some (.slice A1_0 l1_0.length c1_0) ∧ qT.cell? ⟨qc, 1, none⟩ = some (.int .i64 a1_1) ∧ qT.cell? ⟨qc, 2, none⟩ = some (.bool a1_2) := hS_
   obtain ⟨qJ, qK, eo56⟩ := Kd.N_slice qj.out
   (first | subst eo56 | (injection eo56 with f1_ f2_ f3_; have f4_ := f1_.symm; have f5_ := f3_.symm; clear f1_ f2_ f3_; subst f4_; subst f5_))
   refine norm_ (a' := ?_) ?_ ?_
   rotate_left
   ·
    simp only [putAll, Act.put, List.setIfInBounds_toArray, List.set_cons_zero, List.set_cons_succ]
    rfl
   refine one_ (i := 7) (N := some 57) (fl_ 13 2047) rfl rfl (one_of HT_.out (by kernel_rfl)) (by decide) (fun K hK => ?_)
   refine Kd.N_append_rows_step k52 (w0 := w) w.heap.size (by rfl) (.tmp 54) (.tmp 56) 26 52 (.agg #[(.slice none 0 0), (.int .i64 0), (.bool false)]) 40 rfl Try.underlying26 info52 rfl (by decide) (by omega) qn y203 y206 _ _ _ (fun k_ => ((P0_ k_ ∨ P1_0_ k_) ∨ w.heap.size ≤ k_) ∧ k_ ≠ qc) (fun k_ => ((fun k_ => ((P0_ k_ ∨ P1_0_ k_) ∨ w.heap.size ≤ k_) ∧ k_ ≠ qc)) k_ ∧ some k_ ≠ (qn : Value).ownBlock) rfl rfl ?aO ?aR (fun _ hk => hk) ?aF ?aB ?aS ?aL ?_
   (case aR => exact (by skip; exact Kd.N_F (Kd.N_mono (ok' := (fun k_ => ((fun k_ => ((P0_ k_ ∨ P1_0_ k_) ∨ w.heap.size ≤ k_) ∧ k_ ≠ qc)) k_ ∧ some k_ ≠ (qn : Value).ownBlock)) (qj.out) (fun k_ hk => ⟨⟨hk.1, hk.2.2⟩, hk.2.1⟩))))
   (case aB => exact (bb_ HB))
   (case aF => exact (fun k_ hk => ⟨(.inr (Nat.le_trans (bz_ HB) hk)), Kd.freshB (g := qc) (o := .cells #[.slice A1_0 l1_0.length c1_0, .int .i64 a1_1, .bool a1_2] 52 (0, 0)) (kf_ qb) k_ hk⟩))
   (case aO => exact (by (with_reducible repeat (first | apply Kd.N_alloc | apply Kd.N_drewN | apply Kd.N_drew)); exact Kd.N_mono qr.out (fun _ hk => ⟨hk.1, hk.2.2⟩)))
   (case aS => exact (bz_ HB))
   (case aL => have := LMc42.out; omega)
   intro q4 zR ho hb hg hat
   rw [← Ny209.out] at ho
   replace qe := Aside0.mk (Kd.V_afterv (ok := (fun k_ => ((P0_ k_ ∨ P1_0_ k_) ∨ w.heap.size ≤ k_) ∧ some k_ ≠ (.slice qJ y206.length qK : Value).ownBlock ∧ k_ ≠ qc)) (by (with_reducible repeat (first | apply Kd.V_alloc | apply Kd.V_drewN | apply Kd.V_drew)); exact Kd.V_mono qe.out (fun _ hk => ⟨⟨hk.1, ⟨hk.2.2.1, hk.2.2.2⟩⟩, hk.2.1⟩)) hg hat); replace qa := Aside0.mk (Kd.V_afterv (ok := (fun k_ => ((P0_ k_ ∨ P1_0_ k_) ∨ w.heap.size ≤ k_) ∧ some k_ ≠ (.slice qJ y206.length qK : Value).ownBlock ∧ k_ ≠ qc)) (by (with_reducible repeat (first | apply Kd.V_alloc | apply Kd.V_drewN | apply Kd.V_drew)); exact Kd.V_mono qa.out (fun _ hk => ⟨⟨hk.1, ⟨hk.2.2.1, hk.2.2.2⟩⟩, hk.2.1⟩)) hg hat); replace qb := Aside0.mk (blk_grown (g := qc) (o := .cells #[.slice A1_0 l1_0.length c1_0, .int .i64 a1_1, .bool a1_2] 52 (0, 0)) (kf_ qb) hg (Kd.N_away qr.out (fun _ hk => hk.2.2))); replace qg := Aside0.mk (Kd.V_afterv (ok := (fun k_ => ((P0_ k_ ∨ P1_0_ k_) ∨ w.heap.size ≤ k_) ∧ some k_ ≠ (.slice qJ y206.length qK : Value).ownBlock ∧ k_ ≠ qc)) (by (with_reducible repeat (first | apply Kd.V_alloc | apply Kd.V_drewN | apply Kd.V_drew)); exact Kd.V_mono qg.out (fun _ hk => ⟨⟨hk.1, ⟨hk.2.2.1, hk.2.2.2⟩⟩, hk.2.1⟩)) hg hat); replace qh := Aside0.mk (Kd.V_afterv (ok := (fun k_ => ((P0_ k_ ∨ P1_0_ k_) ∨ w.heap.size ≤ k_) ∧ some k_ ≠ (.slice qJ y206.length qK : Value).ownBlock ∧ k_ ≠ qc)) (by (with_reducible repeat (first | apply Kd.V_alloc | apply Kd.V_drewN | apply Kd.V_drew)); exact Kd.V_mono qh.out (fun _ hk => ⟨⟨hk.1, ⟨hk.2.2.1, hk.2.2.2⟩⟩, hk.2.1⟩)) hg hat); replace qj := Aside0.mk (Kd.N_afterv (ok := (fun k_ => ((P0_ k_ ∨ P1_0_ k_) ∨ w.heap.size ≤ k_) ∧ k_ ≠ qc)) (by (with_reducible repeat (first | apply Kd.N_alloc | apply Kd.N_drewN | apply Kd.N_drew)); exact Kd.N_mono qj.out (fun _ hk => ⟨⟨hk.1, hk.2.2⟩, hk.2.1⟩)) hg hat); replace HB := Aside0.mk (hb); have qU := Aside0.mk (ho); clear qr; clear ho hb hg hat
   refine hK.out _ _ ⟨bc_ qb 0, bc_ qb 1, bc_ qb 2⟩ (fun hHeld => ?_)
   clear hK K
   refine norm_ (a' := ?_) ?_ ?_
   rotate_left
   ·
    show Act.put _ (some 57) _ = _
    simp only [Act.put, sa_, s0_, s1_, i64_w, i32_w]
    rfl
   refine one_ (i := 11) (N := some 61) (fl_ 13 4095) rfl rfl (one_of HT_.out (by kernel_rfl)) (by decide) (fun K hK => ?_)
   refine Kd.N_append_rows_step k52 (w0 := w) w.heap.size (by rfl) (.tmp 57) (.tmp 60) 26 52 (.agg #[(.slice none 0 0), (.int .i64 0), (.bool false)]) 40 rfl Try.underlying26 info52 rfl (by decide) (by omega) q4 y209 y212 _ _ _ (fun k_ => ((P0_ k_ ∨ P1_0_ k_) ∨ w.heap.size ≤ k_) ∧ k_ ≠ qc) (fun k_ => ((fun k_ => ((P0_ k_ ∨ P1_0_ k_) ∨ w.heap.size ≤ k_) ∧ k_ ≠ qc)) k_ ∧ some k_ ≠ (q4 : Value).ownBlock) rfl rfl ?aO ?aR (fun _ hk => hk) ?aF ?aB ?aS ?aL ?_
   (case aR => exact (by skip; exact Kd.V_F (Kd.V_mono (ok' := (fun k_ => ((fun k_ => ((P0_ k_ ∨ P1_0_ k_) ∨ w.heap.size ≤ k_) ∧ k_ ≠ qc)) k_ ∧ some k_ ≠ (q4 : Value).ownBlock)) (qh.out) (fun k_ hk => ⟨⟨hk.1.1, hk.1.2.2⟩, hk.2⟩))))
   (case aB => exact (bb_ HB))
   (case aF => exact (fun k_ hk => ⟨(.inr (Nat.le_trans (bz_ HB) hk)), Kd.freshB (g := qc) (o := .cells #[.slice A1_0 l1_0.length c1_0, .int .i64 a1_1, .bool a1_2] 52 (0, 0)) (kf_ qb) k_ hk⟩))
   (case aO => exact (nm_ qU))
   (case aS => exact (bz_ HB))
   (case aL => have := LMc45.out; omega)
   intro zE zS ho hb hg hat
   rw [← Ny217.out] at ho
   replace qe := Aside0.mk (Kd.V_afterv (ok := (fun k_ => ((P0_ k_ ∨ P1_0_ k_) ∨ w.heap.size ≤ k_) ∧ some k_ ≠ (.slice qJ y206.length qK : Value).ownBlock ∧ k_ ≠ qc)) (vm_ qe) hg hat); replace qa := Aside0.mk (Kd.V_afterv (ok := (fun k_ => ((P0_ k_ ∨ P1_0_ k_) ∨ w.heap.size ≤ k_) ∧ some k_ ≠ (.slice qJ y206.length qK : Value).ownBlock ∧ k_ ≠ qc)) (vm_ qa) hg hat); replace qb := Aside0.mk (blk_grown (g := qc) (o := .cells #[.slice A1_0 l1_0.length c1_0, .int .i64 a1_1, .bool a1_2] 52 (0, 0)) (kf_ qb) hg (Kd.N_away qU.out (fun _ hk => hk.2))); replace qg := Aside0.mk (Kd.V_afterv (ok := (fun k_ => ((P0_ k_ ∨ P1_0_ k_) ∨ w.heap.size ≤ k_) ∧ some k_ ≠ (.slice qJ y206.length qK : Value).ownBlock ∧ k_ ≠ qc)) (vm_ qg) hg hat); replace qh := Aside0.mk (Kd.V_afterv (ok := (fun k_ => ((P0_ k_ ∨ P1_0_ k_) ∨ w.heap.size ≤ k_) ∧ some k_ ≠ (.slice qJ y206.length qK : Value).ownBlock ∧ k_ ≠ qc)) (vm_ qh) hg hat); replace qj := Aside0.mk (Kd.N_afterv (ok := (fun k_ => ((P0_ k_ ∨ P1_0_ k_) ∨ w.heap.size ≤ k_) ∧ k_ ≠ qc)) (nm_ qj) hg hat); replace HB := Aside0.mk (hb); have q7 := Aside0.mk (ho); clear qU; clear ho hb hg hat
   refine hK.out _ _ ⟨bc_ qb 0, bc_ qb 1, bc_ qb 2⟩ (fun hHeld => ?_)
   clear hK K
   refine norm_ (a' := ?_) ?_ ?_
   rotate_left
   ·
    show Act.put _ (some 61) _ = _
    simp only [Act.put, sa_, s0_, s1_, i64_w, i32_w]
    rfl
   refine pX_ 12 (some 4) (fl_ 13 8191) HT_ ?_
   refine done_ (done_of HT_.out (by kernel_rfl)) ?_
   try go_wp2
   go_ret
   exact ⟨_, rt_ ⟨Kd.N_V (by (with_reducible repeat (first | apply Kd.N_alloc | apply Kd.N_drewN | apply Kd.N_drew)); exact Kd.N_mono q7.out (fun _ hk => hk.1)), bb_ HB⟩⟩

/-! ### spec_l3Atom: function 92 -/
def spec_l3Atom.f (l0_0 : List Int) (a0_1 : Int) (a0_2 : Bool) : Option (List Int × Int × Bool) := (some (([] : List Int) : List Int)).bind fun y222 => (if y222.length + l0_0.length < 17592186044416 then (some ((y222 ++ l0_0), a0_1, a0_2)) else (none))
def spec_l3Atom.T1 : Bool × List (List Nat × List Nat) := (true, [([], []), ([], []), ([1], [1]), ([0, 2], [0, 2]), ([], []), ([4], [4]), ([], []), ([6], [6]), ([3, 5, 7], [3, 5, 7]), ([8, 3, 0, 1, 2, 3, 4, 5, 6, 7, 8], [8])])
def spec_l3Atom.B1 : List Nat := [0, 0, 2, 7, 0, 16, 0, 64, 255, 511]
theorem spec_l3Atom.tab1 : rtab .any (opsOf Try.f92 1) = spec_l3Atom.T1 := by kernel_rfl
theorem spec_l3Atom.bits1 : waitsOk spec_l3Atom.T1.2 spec_l3Atom.B1 = true := by kernel_rfl
set_option maxHeartbeats 8000000 in
set_option maxRecDepth 100000 in
theorem spec_l3Atom.calls (A0_0 : Option Addr) (c0_0 : Nat) (l0_0 : List Int) (a0_1 : Int) (a0_2 : Bool) (r1 : List Int) (r2 : Int) (r3 : Bool) (w : World) (hr0_0 : Kd.C (Kd.int .i64) w A0_0 l0_0.length l0_0) (hc0_0 : l0_0.length ≤ c0_0) (h : spec_l3Atom.f l0_0 a0_1 a0_2 = some (r1, r2, r3)) :
  Calls Try.prog 92 #[.agg #[.slice A0_0 l0_0.length c0_0, .int .i64 a0_1, .bool a0_2]] w fun e w' => ∃ v0_ : Value, e = .returned (.agg #[v0_, .int .i64 r2, .bool r3]) ∧ Kd.R (Kd.int .i64) 3 w' w.heap.size (fun _ => True) v0_ r1 ∧ Below w.heap.size w w' := by
 have hu52 := Try.underlying52
 have qi := Aside0.mk hr0_0
 have qk := Aside0.mk hc0_0
 clear hr0_0 hc0_0
 have HB := Aside0.mk (Below.refl w.heap.size w)
 have H : ((some (([] : List Int) : List Int)).bind fun y222 => (if y222.length + l0_0.length < 17592186044416 then (some ((y222 ++ l0_0), a0_1, a0_2)) else (none))) = some (r1, r2, r3) := h
 clear h
 obtain ⟨y222, hy222⟩ : ∃ y_ : List Int, y_ = (([] : List Int)) := ⟨_, rfl⟩
 replace H : (if y222.length + l0_0.length < 17592186044416 then (some ((y222 ++ l0_0), a0_1, a0_2)) else (none)) = some (r1, r2, r3) := by first | (rw [hy222]; with_reducible exact H) | (have H2_ := (Option.bind_some _ _).symm.trans H; rw [hy222]; with_reducible exact H2_) | (have H2_ := (Option.bind_some _ _).symm.trans H; with_reducible exact H2_) | with_reducible exact H | (rw [hy222]; exact H) | exact H
 have Ny222 := Aside0.mk hy222
 clear hy222
 replace H := ip_ H
 obtain ⟨c2, H⟩ := H
 have LMc2 := Aside0.mk c2
 clear c2
 obtain ⟨y225, hy225⟩ : ∃ y_ : List Int, y_ = (y222 ++ l0_0) := ⟨_, rfl⟩
 replace H : (some (y225, a0_1, a0_2)) = some (r1, r2, r3) := by first | (rw [hy225]; with_reducible exact H) | (have H2_ := (Option.bind_some _ _).symm.trans H; rw [hy225]; with_reducible exact H2_) | (have H2_ := (Option.bind_some _ _).symm.trans H; with_reducible exact H2_) | with_reducible exact H | (rw [hy225]; exact H) | exact H
 have Ny225 := Aside0.mk hy225
 clear hy225
 simp only [Option.some.injEq, Prod.mk.injEq] at H
 obtain ⟨rfl, rfl, rfl⟩ := H
 go_enter Try.func92, Try.ntmps92
 try go_wp2_with (first | ((with_reducible refine gate_dst (N := 1) rfl ?_); refine bx_ (cs := #[.slice A0_0 l0_0.length c0_0, .int .i64 a0_1, .bool a0_2]) (t := 52) ?_; intro qf hg w3 hbox hb; have qa := Aside0.mk (hbox); have ql := hz_ HB hg; have qm := hz_ HB hg; replace HB := bS_ HB hb; clear hb hbox hg) | ((with_reducible refine gate_dst (N := 2) rfl ?_); refine bx_ (cs := #[.slice none 0 0, .int .i64 0, .bool false]) (t := 52) ?_; intro qe hg w4 hbox hb; have qb := Aside0.mk (hbox); have qn := hz_ HB hg; have qo := hz_ HB hg; replace HB := bS_ HB hb; have qc := nL_ qa hg; have qd := nG_ qa hg; replace qa := kB_ qa hb; clear hb hbox hg))
 replace qa := Aside0.mk (blk_drew qa.out); replace qb := Aside0.mk (blk_drew qb.out); replace HB := Aside0.mk (below_drew1 HB.out)
 refine start_ (n := 10) (S := fun w' => w'.cell? ⟨qf, 0, none⟩ = some (.slice A0_0 l0_0.length c0_0) ∧ w'.cell? ⟨qf, 1, none⟩ = some (.int .i64 a0_1) ∧ w'.cell? ⟨qf, 2, none⟩ = some (.bool a0_2)) (ds := []) (fl_ 10 0) (by kernel_rfl) rfl rfl ⟨bc_ qa 0, bc_ qa 1, bc_ qa 2⟩ (fun hHeld => ?_); refine with_tabW spec_l3Atom.tab1 spec_l3Atom.bits1 (fun HT_ HW_ => ?_)
 generalize w4.drew = w5 at qa qb HB hHeld ⊢
 refine pX_ 1 (some 4) (fl_ 10 2) HT_ ?_
 refine pX_ 4 (some 7) (fl_ 10 18) HT_ ?_
 refine pX_ 6 (some 9) (fl_ 10 82) HT_ ?_
 refine tX_ 2 (some 5) (fl_ 10 86) rfl rfl HT_ HW_ hHeld (by rintro w' ⟨s0, s1, s2⟩; go_simp; with_reducible rfl) ?_
 refine tX_ 5 (some 8) (fl_ 10 118) rfl rfl HT_ HW_ hHeld (by rintro w' ⟨s0, s1, s2⟩; go_simp; with_reducible rfl) ?_
 refine tX_ 7 (some 10) (fl_ 10 246) rfl rfl HT_ HW_ hHeld (by rintro w' ⟨s0, s1, s2⟩; go_simp; with_reducible rfl) ?_
 refine one_ (i := 0) (N := some 3) (fl_ 10 247) rfl rfl (one_of HT_.out (by kernel_rfl)) (by decide) (fun K hK => ?_)
 refine Kd.R_lit_step (Kd.int .i64) _ 3 ?hg (N := 3) ?hd (xs := ([] : List Int)) (inner := []) (ok := fun _ => True) (okp := fun _ => True) ?hr ?hp (fun _ hk => hk) trivial (Below.refl _ _) (Nat.le_refl _) (by simp) ?_; (case hd => rfl); (case hg => rfl); (case hr => first | (go_simp; done) | (go_simp; rfl)); (case hp => exact (Reps.none _ _))
 intro qj w6 ho7 hb hg_ hnew_
 clear hg_ hnew_
 (first | rw [← Ny222.out] at ho7 | (simp only [Int.reduceToNat] at ho7; rw [← Ny222.out] at ho7))
 have qg := Aside0.mk (Kd.R_lower ho7 (bz_ HB)); replace qa := kB_ qa hb; replace qb := kB_ qb hb; replace HB := bS_ HB hb; clear hb ho7
 refine hK.out _ _ ⟨bc_ qa 0, bc_ qa 1, bc_ qa 2⟩ (fun hHeld => ?_)
 clear hK K
 refine norm_ (a' := ?_) ?_ ?_
 rotate_left
 ·
  show Act.put _ (some 3) _ = _
  simp only [Act.put, sa_, s0_, s1_, i64_w, i32_w]
  rfl
 refine one_ (i := 3) (N := some 6) (fl_ 10 255) rfl rfl (one_of HT_.out (by kernel_rfl)) (by decide) (fun K hK => ?_)
 refine Kd.R_append_rows_step (Kd.int .i64) (w0 := w) w.heap.size (by rfl) (.tmp 3) (.tmp 5) 47 3 (.int .i64 0) 8 rfl Try.underlying47 info3 rfl (by decide) (by omega) qj y222 l0_0 _ _ _ (fun _ => True) (fun _ => False) rfl rfl ?aO ?aR (fun _ _ h => h) (fun _ h => h.elim) ?aF ?aB ?aS ?aL ?_
 (case aR => exact cb_ qi HB)
 (case aB => exact (bb_ HB))
 (case aF => exact (fun _ _ => trivial))
 (case aO => exact (rm_ qg))
 (case aS => exact (bz_ HB))
 (case aL => have := LMc2.out; omega)
 intro qp w8 ho hb hg hat
 rw [← Ny225.out] at ho
 replace qa := Aside0.mk (blk_grown (g := qf) (o := .cells #[.slice A0_0 l0_0.length c0_0, .int .i64 a0_1, .bool a0_2] 52 (0, 0)) (kf_ qa) hg (Kd.R_ne qg.out qa.out (by decide))); replace qb := Aside0.mk (blk_grown (g := qe) (o := .cells #[.slice none 0 0, .int .i64 0, .bool false] 52 (0, 0)) (kf_ qb) hg (Kd.R_ne qg.out qb.out (by decide))); replace HB := Aside0.mk (hb); have qh := Aside0.mk (ho); clear qg; clear ho hb hg hat
 obtain ⟨qq, qr, eo9⟩ := Kd.R_slice qh.out
 (first | subst eo9 | (injection eo9 with f1_ f2_ f3_; have f4_ := f1_.symm; have f5_ := f3_.symm; clear f1_ f2_ f3_; subst f4_; subst f5_))
 refine hK.out _ _ ⟨bc_ qa 0, bc_ qa 1, bc_ qa 2⟩ (fun hHeld => ?_)
 clear hK K
 refine norm_ (a' := ?_) ?_ ?_
 rotate_left
 ·
  show Act.put _ (some 6) _ = _
  simp only [Act.put, sa_, s0_, s1_, i64_w, i32_w]
  rfl
 refine pX_ 8 (some 11) (fl_ 10 511) HT_ ?_
 refine one_ (i := 9) (N := none) (fl_ 10 1023) rfl rfl (one_of HT_.out (by kernel_rfl)) (by decide) (fun K hK => ?_)
 have hs10 : w8.cell? ⟨qe, 0, none⟩ = some (.slice none 0 0) := bc_ qb 0
 have hfs10 := blk_frozen qb.out 0
 have hns10_0 := qc.out
 have hms10_0 := qd.out
 have hs11 : w8.cell? ⟨qe, 1, none⟩ = some (.int .i64 0) := bc_ qb 1
 have hfs11 := blk_frozen qb.out 1
 have hns11_0 := qc.out
 have hms11_0 := qd.out
 have hs12 : w8.cell? ⟨qe, 2, none⟩ = some (.bool false) := bc_ qb 2
 have hfs12 := blk_frozen qb.out 2
 have hns12_0 := qc.out
 have hms12_0 := qd.out
 refine skip_ (w1 := ?_) (by rfl) rfl ?_ ?_
 rotate_left
 ·
  go_simp
  rfl
 refine hK.out _ _ ⟨(cf3_ (g := qe) qc.out hHeld.1), (cf3_ (g := qe) qc.out hHeld.2.1), (cf3_ (g := qe) qc.out hHeld.2.2)⟩ (fun hHeld => ?_)
 clear hK K
 refine done_ (done_of HT_.out (by kernel_rfl)) ?_
 try go_wp2
 refine bodyPost_ret (results_cell_row rfl _ _ qe 52 #[.slice qq y225.length qr, .int .i64 a0_1, .bool a0_2] (0, 0) _ rfl (kp_ qb) Try.underlying52 rfl (by kernel_rfl)) rfl ?_
 exact ⟨_, rt_ ⟨Kd.R_mono (rg_ qh qb) (fun _ hk => trivial), bb_ HB⟩⟩

/-! ### spec_l3Normal: function 51 -/
def spec_l3Normal.l0 : Nat → Int → List (S52) → Int → Int → List (S52) → Option (Int × (List (S52)))
 | 0, _, _, _, _, _ => none
 | k + 1, x0, x1, x6, x230000, x230001 => if x6 < (x1.length : Int) then (if 0 ≤ x6 then ((spec_l2Constant.f k ((rd_T52 x1 x6).f0) ((rd_T52 x1 x6).f1) ((rd_T52 x1 x6).f2)).bind fun qO => (if qO = true then ((spec_l2Truth.f ((rd_T52 x1 x6).f0) ((rd_T52 x1 x6).f1) ((rd_T52 x1 x6).f2)).bind fun qG => (if qG = true then (spec_l3Normal.l0 k x0 x1 (wrap64 (x6 + 1)) x230000 x230001) else ((spec_l3None.f x0).bind fun qt => (some (qt.1, qt.2))))) else ((spec_l3Atom.f ((rd_T52 x1 x6).f0) ((rd_T52 x1 x6).f1) ((rd_T52 x1 x6).f2)).bind fun qx => ((spec_l3Put.f k x230001 qx.1 qx.2.1 qx.2.2).bind fun qA => (spec_l3Normal.l0 k x0 x1 (wrap64 (x6 + 1)) x230000 qA))))) else (none)) else (some (x230000, x230001))
def spec_l3Normal.f (k : Nat) (a0 : Int) (l1 : List (S52)) : Option (Int × (List (S52))) := spec_l3Normal.l0 k a0 l1 0 a0 ([] : List (S52))
theorem spec_l3Normal.mono_l : ∀ k, (∀ y0 y1 y2 y3 y4, LeO (spec_l3Normal.l0 k y0 y1 y2 y3 y4) (spec_l3Normal.l0 (k + 1) y0 y1 y2 y3 y4))
 | 0 => fun _ _ _ _ _ r h => by simp [spec_l3Normal.l0] at h
 | k + 1 => by
  have ih0 := spec_l3Normal.mono_l k
  ·
   intro y0 y1 y2 y3 y4
   unfold spec_l3Normal.l0
   repeat' first
   | (with_reducible exact ih0 _ _ _ _ _)
   | (with_reducible exact spec_l2Constant.mono _ _ _ _)
   | (with_reducible exact spec_l3Put.mono _ _ _ _ _)
   | (with_reducible exact LeO.refl _)
   | (with_reducible exact LeO.none _)
   | (with_reducible refine LeO.ite ?_ ?_)
   | (with_reducible refine LeO.bind ?_ (fun _ => ?_))
theorem spec_l3Normal.mono : ∀ a0 a1 k, LeO (spec_l3Normal.f k a0 a1) (spec_l3Normal.f (k + 1) a0 a1) := by
 intro a0 a1 k
 have ih0 := spec_l3Normal.mono_l k
 unfold spec_l3Normal.f
 repeat' first
   | (with_reducible exact ih0 _ _ _ _ _)
   | (with_reducible exact spec_l2Constant.mono _ _ _ _)
   | (with_reducible exact spec_l3Put.mono _ _ _ _ _)
   | (with_reducible exact LeO.refl _)
   | (with_reducible exact LeO.none _)
   | (with_reducible refine LeO.ite ?_ ?_)
   | (with_reducible refine LeO.bind ?_ (fun _ => ?_))
def spec_l3Normal.T8 : Bool × List (List Nat × List Nat) := (true, [([], []), ([0], [0]), ([], []), ([], []), ([2, 3], [2, 3]), ([4], [4]), ([5], [5]), ([1, 6, 6], [1, 6]), ([0, 1, 2, 3, 4, 5, 6, 7], []), ([8, 7, 7, 0, 1, 2, 3, 4, 5, 6, 7], [7, 8])])
def spec_l3Normal.B8 : List Nat := [0, 1, 0, 0, 12, 28, 60, 127, 255, 511]
theorem spec_l3Normal.tab8 : rtab .any (opsOf Try.f51 8) = spec_l3Normal.T8 := by kernel_rfl
theorem spec_l3Normal.bits8 : waitsOk spec_l3Normal.T8.2 spec_l3Normal.B8 = true := by kernel_rfl
set_option maxHeartbeats 8000000 in
set_option maxRecDepth 100000 in
theorem spec_l3Normal.calls (k : Nat) (a0 : Int) (A1 : Option Addr) (c1 : Nat) (l1 : List (S52)) (r1 : Int) (r2 : List (S52)) (w : World) (hr1 : Kd.C k52 w A1 l1.length l1) (hc1 : l1.length ≤ c1) (h : spec_l3Normal.f k a0 l1 = some (r1, r2)) :
  Calls Try.prog 51 #[.int .i64 a0, .slice A1 l1.length c1] w fun e w' => ∃ v1_ : Value, e = .returned (.agg #[.int .i64 r1, v1_]) ∧ Kd.V k52 52 w' w.heap.size (fun k_ => (w.heap.size ≤ k_)) v1_ r2 ∧ Below w.heap.size w w' := by
 have hu28 := Try.underlying28
 have hu52 := Try.underlying52
 have HR1 := Aside0.mk hr1
 have HC1 := Aside0.mk hc1
 clear hr1 hc1
 have HB := Aside0.mk (Below.refl w.heap.size w)
 have H : (spec_l3Normal.l0 k a0 l1 0 a0 ([] : List (S52))) = some (r1, r2) := h
 clear h
 have H' := Aside0.mk H
 clear H
 go_enter Try.func51, Try.ntmps51
 go_wp2_with (first | ((with_reducible refine gate_dst (N := 4) rfl ?_); refine bx_ (cs := #[.int .i64 0, .slice none 0 0]) (t := 28) ?_; intro qj hg w3 hbox hb; have qd := Aside0.mk (hbox); have zj := hz_ HB hg; have zk := hz_ HB hg; replace HB := bS_ HB hb; clear hb hbox hg) | ((with_reducible refine gate_dst (N := 5) rfl ?_); refine bx_ (cs := #[.int .i64 0, .slice none 0 0]) (t := 28) ?_; intro qk hg w4 hbox hb; have qc := Aside0.mk (hbox); have zl := hz_ HB hg; have zm := hz_ HB hg; replace HB := bS_ HB hb; have ql := nL_ qd hg; have qm := nG_ qd hg; replace qd := kB_ qd hb; clear hb hbox hg; have zr := qm.out; have zs := ql.out; obtain ⟨q8, q9, za, zb⟩ := b2_ qc))
 go_loopg [6] k (fun kq v6 w' => ∃ (qb : Int) (qf : Int) (qe : List (S52)) (u230001 : Value), v6 = .int .i64 qb ∧ Aside0 (spec_l3Normal.l0 kq a0 l1 qb a0 qe = some (r1, r2)) ∧ Aside0 (kq ≤ k) ∧ Aside0 (Kd.V k52 52 w' w.heap.size (fun k_ => (w.heap.size ≤ k_) ∧ k_ ≠ qj ∧ k_ ≠ qk) u230001 qe) ∧ Aside0 (w'.heap[qj]? = some (.cells #[.int .i64 qf, (.slice none 0 0)] 28 (0, 0))) ∧ Aside0 (w'.heap[qk]? = some (.cells #[.int .i64 a0, u230001] 28 (0, 0))) ∧ Aside0 (Below w.heap.size w w'))
 case atStart => exact ⟨(0), (0), (([] : List (S52))), (.slice none 0 0), (by first | rfl | (simp; done) | (simp [*]; done)), H', ⟨Nat.le_refl _⟩, ⟨Kd.V_nil _ _ _ _ _⟩, ⟨kf_ qd⟩, ⟨kp_ qc⟩, ⟨bb_ HB⟩⟩
 clear H'
 obtain ⟨qb, qf, qe, u230001, rfl, HA, HK1, qa, qd, qc, HB⟩ := hrel
 cases gk with
 | zero => exact absurd HA.out (by simp [spec_l3Normal.l0])
 | succ k1 =>
  have H := HA.out
  clear HA
  simp only [spec_l3Normal.l0] at H
  by_cases c7 : qb < (l1.length : Int)
  rotate_left
  ·
   rw [if_neg c7] at H
   have zc : decide (qb < (l1.length : Int)) = false := decide_eq_false c7
   clear c7
   simp only [Option.some.injEq, Prod.mk.injEq] at H
   obtain ⟨rfl, rfl⟩ := H
   have zn := qm.out
   have zo := ql.out
   obtain ⟨qW, qX, qY, qZ⟩ := b2_ qc
   obtain ⟨q0, q1, q2, q3⟩ := b2_ qd
   obtain ⟨zd, ze, eo35⟩ := Kd.V_slice qa.out
   subst eo35
   go_wp2
   refine bodyPost_ret (results_cell_row rfl _ _ qj 28 #[.int .i64 a0, .slice zd qe.length ze] (0, 0) _ rfl (kp_ qd) Try.underlying28 rfl (by kernel_rfl)) rfl ?_
   exact ⟨_, rt_ ⟨vy_ qa qj (fun _ hk => hk.2.1) (fun _ hk => hk.1), bb_ HB⟩⟩
  rw [if_pos c7] at H
  have zc : decide (qb < (l1.length : Int)) = true := decide_eq_true c7
  clear c7
  replace H := ip_ H
  obtain ⟨c8, H⟩ := H
  have zt : decide (0 ≤ qb) = true := decide_eq_true c8
  clear c8
  replace H := be_ H
  obtain ⟨qO, A90, H⟩ := H
  have A9 := Aside0.mk A90
  clear A90
  by_cases c10 : qO = true
  ·
   subst c10
   have H1 : ((spec_l2Truth.f ((rd_T52 l1 qb).f0) ((rd_T52 l1 qb).f1) ((rd_T52 l1 qb).f2)).bind fun qG => (if qG = true then (spec_l3Normal.l0 k1 a0 l1 (wrap64 (qb + 1)) a0 qe) else ((spec_l3None.f a0).bind fun qt => (some (qt.1, qt.2))))) = some (r1, r2) := by rw [if_pos rfl] at H; exact H
   clear H
   have H := H1
   clear H1
   replace H := be_ H
   obtain ⟨qG, A110, H⟩ := H
   have A11 := Aside0.mk A110
   clear A110
   by_cases c12 : qG = true
   ·
    subst c12
    have H1 : (spec_l3Normal.l0 k1 a0 l1 (wrap64 (qb + 1)) a0 qe) = some (r1, r2) := by rw [if_pos rfl] at H; exact H
    clear H
    have H := H1
    clear H1
    have H' := Aside0.mk H
    clear H
    have p230 : 0 ≤ (qb : Int) := od_
    have q230 : qb < (l1.length : Int) := od_
    obtain ⟨qn, qy, c230_0, e230, qg, qh, qi, hl230_0, hi230_0⟩ := at_T52 HR1.out qb p230 q230
    cases e230
    replace qg := ct_ HB qg
    replace qh := ct_ HB qh
    replace qi := ct_ HB qi
    have qo := Aside0.mk hi230_0
    have qp := Aside0.mk hl230_0
    clear hi230_0 hl230_0
    replace p230 := eq_true p230
    replace q230 := eq_true q230
    go_wp2_with (first | ((with_reducible refine gate_callee (f := 89) rfl ?_); refine gL_ (some 19) Try.func89 #[.agg #[.slice qy ((rd_T52 l1 qb).f0).length c230_0, .int .i64 ((rd_T52 l1 qb).f1), .bool ((rd_T52 l1 qb).f2)]] ?_; (with_reducible refine (spec_l2Constant.calls k1 _ _ ((rd_T52 l1 qb).f0) ((rd_T52 l1 qb).f1) ((rd_T52 l1 qb).f2) true _ ?side1 ?side2 A9.out).mono ?_); (case side1 => exact cb_ qo HB); (case side2 => exact qp.out); rintro e zz ⟨rfl, hb⟩; refine ⟨_, rfl, ?_⟩; replace qa := vB_ qa hb; replace qd := kB_ qd hb; replace qc := kB_ qc hb; replace HB := bS_ HB hb; clear hb; have p232 : 0 ≤ (qb : Int) := od_; have q232 : qb < (l1.length : Int) := od_; obtain ⟨qH, qD, c232_0, e232, qq, qr, qs, hl232_0, hi232_0⟩ := at_T52 HR1.out qb p232 q232; obtain rfl : qn = qH := (by injection e232); replace qq := ct_ HB qq; replace qr := ct_ HB qr; replace qs := ct_ HB qs; have qB := Aside0.mk hi232_0; have qC := Aside0.mk hl232_0; clear hi232_0 hl232_0; replace p232 := eq_true p232; replace q232 := eq_true q232) | ((with_reducible refine gate_callee (f := 90) rfl ?_); refine gL_ (some 24) Try.func90 #[.agg #[.slice qD ((rd_T52 l1 qb).f0).length c232_0, .int .i64 ((rd_T52 l1 qb).f1), .bool ((rd_T52 l1 qb).f2)]] ?_; (with_reducible refine (spec_l2Truth.calls _ _ ((rd_T52 l1 qb).f0) ((rd_T52 l1 qb).f1) ((rd_T52 l1 qb).f2) true _ ?side1 ?side2 A11.out).mono ?_); (case side1 => exact cb_ qB HB); (case side2 => exact qC.out); rintro e zA ⟨rfl, hb⟩; refine ⟨_, rfl, ?_⟩; replace qa := vB_ qa hb; replace qd := kB_ qd hb; replace qc := kB_ qc hb; replace HB := bS_ HB hb; clear hb))
    go_roundg k1
    case measure => have := HK1.out; omega
    case rel => exact ⟨(wrap64 (qb + 1)), (qf), (qe), (u230001), (by first | rfl | (simp; done) | (simp [*]; done)), H', ⟨by have := HK1.out; omega⟩, ⟨by (with_reducible repeat (first | apply Kd.V_alloc | apply Kd.V_drewN | apply Kd.V_drew)); exact qa.out⟩, ⟨kf_ qd⟩, ⟨kf_ qc⟩, ⟨bb_ HB⟩⟩
   replace c12 := Bool.eq_false_iff.mpr c12
   subst c12
   have H1 : ((spec_l3None.f a0).bind fun qt => (some (qt.1, qt.2))) = some (r1, r2) := by rw [if_neg (show ¬ (false = true) by decide)] at H; exact H
   clear H
   have H := H1
   clear H1
   replace H := be_ H
   obtain ⟨⟨qP, qQ⟩, A150, H⟩ := H
   replace H : (some (qP, qQ)) = some (r1, r2) := H
   have A15 := Aside0.mk A150
   clear A150
   simp only [Option.some.injEq, Prod.mk.injEq] at H
   obtain ⟨rfl, rfl⟩ := H
   have p230 : 0 ≤ (qb : Int) := od_
   have q230 : qb < (l1.length : Int) := od_
   obtain ⟨qn, qy, c230_0, e230, qg, qh, qi, hl230_0, hi230_0⟩ := at_T52 HR1.out qb p230 q230
   cases e230
   replace qg := ct_ HB qg
   replace qh := ct_ HB qh
   replace qi := ct_ HB qi
   have qo := Aside0.mk hi230_0
   have qp := Aside0.mk hl230_0
   clear hi230_0 hl230_0
   replace p230 := eq_true p230
   replace q230 := eq_true q230
   go_wp2_with (first | ((with_reducible refine gate_callee (f := 89) rfl ?_); refine gL_ (some 19) Try.func89 #[.agg #[.slice qy ((rd_T52 l1 qb).f0).length c230_0, .int .i64 ((rd_T52 l1 qb).f1), .bool ((rd_T52 l1 qb).f2)]] ?_; (with_reducible refine (spec_l2Constant.calls k1 _ _ ((rd_T52 l1 qb).f0) ((rd_T52 l1 qb).f1) ((rd_T52 l1 qb).f2) true _ ?side1 ?side2 A9.out).mono ?_); (case side1 => exact cb_ qo HB); (case side2 => exact qp.out); rintro e zB ⟨rfl, hb⟩; refine ⟨_, rfl, ?_⟩; replace qa := vB_ qa hb; replace qd := kB_ qd hb; replace qc := kB_ qc hb; replace HB := bS_ HB hb; clear hb; have p232 : 0 ≤ (qb : Int) := od_; have q232 : qb < (l1.length : Int) := od_; obtain ⟨qH, qD, c232_0, e232, qq, qr, qs, hl232_0, hi232_0⟩ := at_T52 HR1.out qb p232 q232; obtain rfl : qn = qH := (by injection e232); replace qq := ct_ HB qq; replace qr := ct_ HB qr; replace qs := ct_ HB qs; have qB := Aside0.mk hi232_0; have qC := Aside0.mk hl232_0; clear hi232_0 hl232_0; replace p232 := eq_true p232; replace q232 := eq_true q232) | ((with_reducible refine gate_callee (f := 90) rfl ?_); refine gL_ (some 24) Try.func90 #[.agg #[.slice qD ((rd_T52 l1 qb).f0).length c232_0, .int .i64 ((rd_T52 l1 qb).f1), .bool ((rd_T52 l1 qb).f2)]] ?_; (with_reducible refine (spec_l2Truth.calls _ _ ((rd_T52 l1 qb).f0) ((rd_T52 l1 qb).f1) ((rd_T52 l1 qb).f2) false _ ?side1 ?side2 A11.out).mono ?_); (case side1 => exact cb_ qB HB); (case side2 => exact qC.out); rintro e zC ⟨rfl, hb⟩; refine ⟨_, rfl, ?_⟩; replace qa := vB_ qa hb; replace qd := kB_ qd hb; replace qc := kB_ qc hb; replace HB := bS_ HB hb; clear hb) | ((with_reducible refine gate_callee (f := 78) rfl ?_); refine gL_ (some 27) Try.func78 #[.int .i64 a0] ?_; (with_reducible refine (spec_l3None.calls a0 qP qQ _ A15.out).mono ?_); rintro e zD ⟨zu, rfl, ho0, hb⟩; refine ⟨_, rfl, ?_⟩; replace qa := Aside0.mk (Kd.V_elder' (vm_ qa) (Kd.N_base ho0) hb); have qM := Aside0.mk (Kd.N_lower (Kd.N_mono (ok' := fun k_ => (w.heap.size ≤ k_) ∧ k_ ≠ qj ∧ k_ ≠ qk) ho0 (fun k_ hk_ => ⟨(Nat.le_trans (bz_ HB) hk_), (Kd.freshB (g := qj) (o := .cells #[.int .i64 qf, .slice none 0 0] 28 (0, 0)) (kf_ qd) k_ hk_), (Kd.freshB (g := qk) (o := .cells #[.int .i64 a0, u230001] 28 (0, 0)) (kf_ qc) k_ hk_)⟩)) (bz_ HB)); replace qd := kB_ qd hb; replace qc := kB_ qc hb; replace HB := bS_ HB hb; clear hb ho0; have zp := ql.out; have zq := qm.out; obtain ⟨q4, q5, q6, q7⟩ := b2_ qd; obtain ⟨zf, zg, eo21⟩ := Kd.N_slice qM.out; subst eo21))
   refine bodyPost_ret (results_cell_row rfl _ _ qj 28 #[.int .i64 qP, .slice zf qQ.length zg] (0, 0) _ rfl (kp_ qd) Try.underlying28 rfl (by kernel_rfl)) rfl ?_
   exact ⟨_, rt_ ⟨Kd.N_V (ny_ qM qj (fun _ hk => hk.2.1) (fun _ hk => hk.1)), bb_ HB⟩⟩
  replace c10 := Bool.eq_false_iff.mpr c10
  subst c10
  have H1 : ((spec_l3Atom.f ((rd_T52 l1 qb).f0) ((rd_T52 l1 qb).f1) ((rd_T52 l1 qb).f2)).bind fun qx => ((spec_l3Put.f k1 qe qx.1 qx.2.1 qx.2.2).bind fun qA => (spec_l3Normal.l0 k1 a0 l1 (wrap64 (qb + 1)) a0 qA))) = some (r1, r2) := by rw [if_neg (show ¬ (false = true) by decide)] at H; exact H
  clear H
  have H := H1
  clear H1
  replace H := be_ H
  obtain ⟨⟨qF, qJ, qK⟩, A220, H⟩ := H
  replace H : ((spec_l3Put.f k1 qe qF qJ qK).bind fun qA => (spec_l3Normal.l0 k1 a0 l1 (wrap64 (qb + 1)) a0 qA)) = some (r1, r2) := H
  have A22 := Aside0.mk A220
  clear A220
  replace H := be_ H
  obtain ⟨qA, A230, H⟩ := H
  have A23 := Aside0.mk A230
  clear A230
  have H' := Aside0.mk H
  clear H
  have p230 : 0 ≤ (qb : Int) := od_
  have q230 : qb < (l1.length : Int) := od_
  obtain ⟨qn, qy, c230_0, e230, qg, qh, qi, hl230_0, hi230_0⟩ := at_T52 HR1.out qb p230 q230
  cases e230
  replace qg := ct_ HB qg
  replace qh := ct_ HB qh
  replace qi := ct_ HB qi
  have qo := Aside0.mk hi230_0
  have qp := Aside0.mk hl230_0
  clear hi230_0 hl230_0
  replace p230 := eq_true p230
  replace q230 := eq_true q230
  try go_wp2_with (first | ((with_reducible refine gate_callee (f := 89) rfl ?_); refine gL_ (some 19) Try.func89 #[.agg #[.slice qy ((rd_T52 l1 qb).f0).length c230_0, .int .i64 ((rd_T52 l1 qb).f1), .bool ((rd_T52 l1 qb).f2)]] ?_; (with_reducible refine (spec_l2Constant.calls k1 _ _ ((rd_T52 l1 qb).f0) ((rd_T52 l1 qb).f1) ((rd_T52 l1 qb).f2) false _ ?side1 ?side2 A9.out).mono ?_); (case side1 => exact cb_ qo HB); (case side2 => exact qp.out); rintro e zv ⟨rfl, hb⟩; refine ⟨_, rfl, ?_⟩; replace qa := vB_ qa hb; replace qd := kB_ qd hb; replace qc := kB_ qc hb; replace HB := bS_ HB hb; clear hb))
  replace qa := Aside0.mk (Kd.V_drew qa.out); replace qd := Aside0.mk (blk_drew qd.out); replace qc := Aside0.mk (blk_drew qc.out); replace HB := Aside0.mk (below_drew1 HB.out)
  have p238 : 0 ≤ (qb : Int) := od_
  have q238 : qb < (l1.length : Int) := od_
  obtain ⟨qV, qI, c238_0, e238, qu, qv, qw, hl238_0, hi238_0⟩ := at_T52 HR1.out qb p238 q238
  have hw238_2 := qw
  have hw238_1 := qv
  have hw238_0 := qu
  obtain rfl : qn = qV := (by injection e238)
  replace qu := ct_ HB qu
  replace qv := ct_ HB qv
  replace qw := ct_ HB qw
  have qE := Aside0.mk hi238_0
  have qL := Aside0.mk hl238_0
  clear hi238_0 hl238_0
  replace p238 := eq_true p238
  replace q238 := eq_true q238
  refine start_ (n := 10) (S := fun w' => w'.cell? ⟨qk, 0, none⟩ = some (.int .i64 a0) ∧ w'.cell? ⟨qk, 1, none⟩ = some (u230001) ∧ w'.cell? (qn.add ((qb).toNat * 3)) = some (.slice qI ((rd_T52 l1 qb).f0).length c238_0) ∧ w'.cell? ⟨(qn.add ((qb).toNat * 3)).block, (qn.add ((qb).toNat * 3)).off + 1, none⟩ = some (.int .i64 ((rd_T52 l1 qb).f1)) ∧ w'.cell? ⟨(qn.add ((qb).toNat * 3)).block, (qn.add ((qb).toNat * 3)).off + 2, none⟩ = some (.bool ((rd_T52 l1 qb).f2))) (ds := [9]) (fl_ 10 0) (by kernel_rfl) rfl rfl ⟨bc_ qc 0, bc_ qc 1, (ct_ HB hw238_0 :), (ct_ HB hw238_1 :), (ct_ HB hw238_2 :)⟩ (fun hHeld => ?_); refine with_tabW spec_l3Normal.tab8 spec_l3Normal.bits8 (fun HT_ HW_ => ?_)
  generalize zv.drew = zE at qa qd qc HB qE qu qv qw hHeld ⊢
  refine pX_ 0 (some 28) (fl_ 10 1) HT_ ?_
  refine pX_ 2 (some 30) (fl_ 10 5) HT_ ?_
  refine pX_ 3 (some 31) (fl_ 10 13) HT_ ?_
  refine pX_ 4 (some 32) (fl_ 10 29) HT_ ?_
  refine tX_ 1 (some 29) (fl_ 10 31) rfl rfl HT_ HW_ hHeld (by rintro w' ⟨s0, s1, s2, s3, s4⟩; go_simp; with_reducible rfl) ?_
  refine tX_ 5 (some 33) (fl_ 10 63) rfl rfl HT_ HW_ hHeld (by rintro w' ⟨s0, s1, s2, s3, s4⟩; go_simp; with_reducible rfl) ?_
  refine one_ (i := 6) (N := some 34) (fl_ 10 127) rfl rfl (one_of HT_.out (by kernel_rfl)) (by decide) (fun K hK => ?_)
  refine goes_ Try.func92 (by kernel_rfl) rfl #[.agg #[.slice qI ((rd_T52 l1 qb).f0).length c238_0, .int .i64 ((rd_T52 l1 qb).f1), .bool ((rd_T52 l1 qb).f2)]] (by rfl) rfl rfl (by (try simp only [List.map_toArray, List.map_cons, List.map_nil]); first | done | rfl | (simp only [List.length_drop, List.length_take]; rfl)) ?_
  with_reducible refine (spec_l3Atom.calls _ _ ((rd_T52 l1 qb).f0) ((rd_T52 l1 qb).f1) ((rd_T52 l1 qb).f2) qF qJ qK _ ?side1 ?side2 A22.out).mono ?_
  (case side1 => exact cb_ qE HB)
  (case side2 => exact qL.out)
  rintro e zF ⟨zw, rfl, ho0, hb⟩
  refine ⟨_, rfl, ?_⟩
  replace qa := Aside0.mk (Kd.V_elder' (vm_ qa) (Kd.R_base ho0) hb); have qz := Aside0.mk (Kd.R_lower (Kd.R_newM (M := fun k_ => (w.heap.size ≤ k_)) ho0 (bz_ HB) (fun k_ h_ => h_)) (bz_ HB)); replace qd := kB_ qd hb; replace qc := kB_ qc hb; replace HB := bS_ HB hb; (try clear hb); (try clear hb2); (try clear hk); (try clear hi); (try clear ho0)
  obtain ⟨qR, qS, eo27⟩ := Kd.V_slice qa.out
  (first | subst eo27 | (injection eo27 with f1_ f2_ f3_; have f4_ := f1_.symm; have f5_ := f3_.symm; clear f1_ f2_ f3_; subst f4_; subst f5_))
  obtain ⟨qT, qU, eo28⟩ := Kd.R_slice qz.out
  (first | subst eo28 | (injection eo28 with f1_ f2_ f3_; have f4_ := f1_.symm; have f5_ := f3_.symm; clear f1_ f2_ f3_; subst f4_; subst f5_))
  refine hK.out _ _ ⟨bc_ qc 0, bc_ qc 1, (ct_ HB hw238_0 :), (ct_ HB hw238_1 :), (ct_ HB hw238_2 :)⟩ (fun hHeld => ?_)
  clear hK K
  refine norm_ (a' := ?_) ?_ ?_
  rotate_left
  ·
   show Act.put _ (some 34) _ = _
   simp only [Act.put, sa_, s0_, s1_, i64_w, i32_w]
   rfl
  refine one_ (i := 7) (N := some 35) (fl_ 10 255) rfl rfl (one_of HT_.out (by kernel_rfl)) (by decide) (fun K hK => ?_)
  refine goes_ Try.func91 (by kernel_rfl) rfl #[.slice qR qe.length qS, .agg #[.slice qT qF.length qU, .int .i64 qJ, .bool qK]] (by rfl) rfl rfl (by (try simp only [List.map_toArray, List.map_cons, List.map_nil]); first | done | rfl | (simp only [List.length_drop, List.length_take]; rfl)) ?_
  with_reducible refine (spec_l3Put.calls k1 (fun k_ => (((w.heap.size ≤ k_) ∧ (k_ ≠ qj ∧ k_ ≠ qk)) ∧ some k_ ≠ (.slice qT qF.length qU : Value).ownBlock)) _ _ qe (fun k_ => some k_ = (.slice qT qF.length qU : Value).ownBlock) _ _ qF qJ qK qA _ ?side1 ?side2 A23.out).mono ?_
  (case side1 => exact qa.out)
  (case side2 => exact Kd.R_V (Kd.R_tight rfl (Kd.R_types (Kd.R_types (qz.out) qd.out (by decide)) qc.out (by decide))))
  rintro e zx ⟨zy, rfl, ho0, hb⟩
  refine ⟨_, rfl, ?_⟩
  replace qa := vB_ qa hb; have qN := Aside0.mk (Kd.V_lower (Kd.V_mono (ok' := fun k_ => (w.heap.size ≤ k_) ∧ k_ ≠ qj ∧ k_ ≠ qk) ho0 (fun k_ hk_ => ⟨Or.elim hk_ (fun hs_ => Or.elim hs_ (fun hs_ => hs_.1.1) (fun hs_ => ((Kd.R_types (Kd.R_types (qz.out) qd.out (by decide)) qc.out (by decide)).1 k_ hs_.symm).1.1.1)) (fun hn_ => (Nat.le_trans (bz_ HB) hn_)), Or.elim hk_ (fun hs_ => Or.elim hs_ (fun hs_ => hs_.1.2.1) (fun hs_ => ((Kd.R_types (Kd.R_types (qz.out) qd.out (by decide)) qc.out (by decide)).1 k_ hs_.symm).1.2)) (fun hn_ => (Kd.freshB (g := qj) (o := .cells #[.int .i64 qf, .slice none 0 0] 28 (0, 0)) (kf_ qd) k_ hn_)), Or.elim hk_ (fun hs_ => Or.elim hs_ (fun hs_ => hs_.1.2.2) (fun hs_ => ((Kd.R_types (Kd.R_types (qz.out) qd.out (by decide)) qc.out (by decide)).1 k_ hs_.symm).2)) (fun hn_ => (Kd.freshB (g := qk) (o := .cells #[.int .i64 a0, .slice qR qe.length qS] 28 (0, 0)) (kf_ qc) k_ hn_))⟩)) (bz_ HB)); replace qz := rB_ qz hb; replace qd := kB_ qd hb; replace qc := kB_ qc hb; replace HB := bS_ HB hb; (try clear hb); (try clear hb2); (try clear hk); (try clear hi); (try clear ho0)
  obtain ⟨zh, zi, eo30⟩ := Kd.V_slice qN.out
  (first | subst eo30 | (injection eo30 with f1_ f2_ f3_; have f4_ := f1_.symm; have f5_ := f3_.symm; clear f1_ f2_ f3_; subst f4_; subst f5_))
  refine hK.out _ _ ⟨bc_ qc 0, bc_ qc 1, (ct_ HB hw238_0 :), (ct_ HB hw238_1 :), (ct_ HB hw238_2 :)⟩ (fun hHeld => ?_)
  clear hK K
  refine norm_ (a' := ?_) ?_ ?_
  rotate_left
  ·
   show Act.put _ (some 35) _ = _
   simp only [Act.put, sa_, s0_, s1_, i64_w, i32_w]
   rfl
  refine pX_ 8 (some 36) (fl_ 10 511) HT_ ?_
  refine last_ (i := 9) (N := none) (fl_ 10 1023) rfl rfl (one_of HT_.out (by kernel_rfl)) (by decide) (fun K hK => ?_)
  have hs31 : zx.cell? ⟨qk, 1, none⟩ = some (.slice qR qe.length qS) := bc_ qc 1
  have hfs31 := blk_frozen qc.out 1
  have hns31_0 := ql.out
  have hms31_0 := qm.out
  refine skip_ (w1 := ?_) (by rfl) rfl ?_ ?_
  rotate_left
  ·
   go_simp
   rfl
  refine hK.out _ _ ?_
  clear hK K
  refine done_ (done_of HT_.out (by kernel_rfl)) ?_
  try go_wp2
  go_roundg k1
  case measure => have := HK1.out; omega
  case rel => exact ⟨(wrap64 (qb + 1)), (qf), (qA), (.slice zh qA.length zi), (by first | rfl | (simp; done) | (simp [*]; done)), H', ⟨by have := HK1.out; omega⟩, ⟨vy_ qN qk (fun _ hk => hk.2.2) (fun _ hk => ⟨hk.1, ⟨hk.2.1, hk.2.2⟩⟩)⟩, ⟨kf_ qd⟩, ⟨kp_ qc⟩, ⟨bb_ HB⟩⟩

/-! ### spec_l2Atom: function 105 -/
def spec_l2Atom.l0 : Nat → List Int → Int → Int → List Int → Int → Bool → Option (List Int × Int × Bool × Bool)
 | 0, _, _, _, _, _, _ => none
 | k + 1, x0, x8, x10, x250000, x250001, x250002 => if x10 < (x0.length : Int) then (if 0 ≤ x10 then (if x8 = 0 then (none) else (if x250000.length < 17592186044416 then (spec_l2Atom.l0 k x0 x8 (wrap64 (x10 + 1)) (x250000 ++ [wrap64 (Int.tdiv (rd x0 x10) x8)]) x250001 x250002) else (none))) else (none)) else ((spec_IsAtom.f k x250000 x250001 x250002).bind fun qm => (if qm = true then (some (x250000, x250001, x250002, true)) else (some (([] : List Int), 0, false, false))))
def spec_l2Atom.f (k : Nat) (l0 : List Int) (a1 : Int) (a2 : Bool) : Option (List Int × Int × Bool × Bool) := (spec_l2Gcd.f k l0 a1).bind fun qh => (if (mx 1 qh) = 0 then (none) else (spec_l2Atom.l0 k l0 (mx 1 qh) 0 ([] : List Int) (wrap64 (Int.tdiv a1 (mx 1 qh))) a2))
theorem spec_l2Atom.mono_l : ∀ k, (∀ y0 y1 y2 y3 y4 y5, LeO (spec_l2Atom.l0 k y0 y1 y2 y3 y4 y5) (spec_l2Atom.l0 (k + 1) y0 y1 y2 y3 y4 y5))
 | 0 => fun _ _ _ _ _ _ r h => by simp [spec_l2Atom.l0] at h
 | k + 1 => by
  have ih0 := spec_l2Atom.mono_l k
  ·
   intro y0 y1 y2 y3 y4 y5
   unfold spec_l2Atom.l0
   repeat' first
   | (with_reducible exact ih0 _ _ _ _ _ _)
   | (with_reducible exact spec_IsAtom.mono _ _ _ _)
   | (with_reducible exact spec_l2Gcd.mono _ _ _)
   | (with_reducible exact LeO.refl _)
   | (with_reducible exact LeO.none _)
   | (with_reducible refine LeO.ite ?_ ?_)
   | (with_reducible refine LeO.bind ?_ (fun _ => ?_))
theorem spec_l2Atom.mono : ∀ a0 a1 a2 k, LeO (spec_l2Atom.f k a0 a1 a2) (spec_l2Atom.f (k + 1) a0 a1 a2) := by
 intro a0 a1 a2 k
 have ih0 := spec_l2Atom.mono_l k
 unfold spec_l2Atom.f
 repeat' first
   | (with_reducible exact ih0 _ _ _ _ _ _)
   | (with_reducible exact spec_IsAtom.mono _ _ _ _)
   | (with_reducible exact spec_l2Gcd.mono _ _ _)
   | (with_reducible exact LeO.refl _)
   | (with_reducible exact LeO.none _)
   | (with_reducible refine LeO.ite ?_ ?_)
   | (with_reducible refine LeO.bind ?_ (fun _ => ?_))
def spec_l2Atom.T6 : Bool × List (List Nat × List Nat) := (true, [([], []), ([0], [0]), ([], []), ([], []), ([2, 3], [2, 3]), ([4], [4]), ([], []), ([5, 6], [5, 6]), ([7], [7]), ([1, 8], [1, 8]), ([0, 1, 2, 3, 4, 5, 6, 7, 8, 9], []), ([10, 9, 9, 0, 1, 2, 3, 4, 5, 6, 7, 8, 9], [9, 10])])
def spec_l2Atom.B6 : List Nat := [0, 1, 0, 0, 12, 28, 0, 124, 252, 511, 1023, 2047]
theorem spec_l2Atom.tab6 : rtab .any (opsOf Try.f105 6) = spec_l2Atom.T6 := by kernel_rfl
theorem spec_l2Atom.bits6 : waitsOk spec_l2Atom.T6.2 spec_l2Atom.B6 = true := by kernel_rfl
set_option maxHeartbeats 8000000 in
set_option maxRecDepth 100000 in
theorem spec_l2Atom.calls (k : Nat) (A0 : Option Addr) (c0 : Nat) (l0 : List Int) (a1 : Int) (a2 : Bool) (r1 : List Int) (r2 : Int) (r3 : Bool) (r4 : Bool) (w : World) (hr0 : Kd.C (Kd.int .i64) w A0 l0.length l0) (hc0 : l0.length ≤ c0) (h : spec_l2Atom.f k l0 a1 a2 = some (r1, r2, r3, r4)) :
  Calls Try.prog 105 #[.slice A0 l0.length c0, .int .i64 a1, .bool a2] w fun e w' => ∃ v0_ : Value, e = .returned (.tuple #[.agg #[v0_, .int .i64 r2, .bool r3], .bool r4]) ∧ Kd.R (Kd.int .i64) 3 w' w.heap.size (fun _ => True) v0_ r1 ∧ Below w.heap.size w w' := by
 have hu52 := Try.underlying52
 have HR0 := Aside0.mk hr0
 have HC0 := Aside0.mk hc0
 clear hr0 hc0
 have HB := Aside0.mk (Below.refl w.heap.size w)
 have H : ((spec_l2Gcd.f k l0 a1).bind fun qh => (if (mx 1 qh) = 0 then (none) else (spec_l2Atom.l0 k l0 (mx 1 qh) 0 ([] : List Int) (wrap64 (Int.tdiv a1 (mx 1 qh))) a2))) = some (r1, r2, r3, r4) := h
 clear h
 replace H := be_ H
 obtain ⟨qh, A40, H⟩ := H
 have A4 := Aside0.mk A40
 clear A40
 obtain ⟨ji5, hji5⟩ : ∃ j_ : Int, (mx 1 qh) = j_ := ⟨_, rfl⟩
 replace H : (if (ji5) = 0 then (none) else (spec_l2Atom.l0 k l0 ji5 0 ([] : List Int) (wrap64 (Int.tdiv a1 (ji5))) a2)) = some (r1, r2, r3, r4) := by first | (rw [hji5] at H; exact H) | (simp only [hji5] at H ⊢; exact H)
 (try rw [hji5] at A4)
 (try (have hji5l : 1 ≤ ji5 := by (rw [← hji5]; unfold mx; (repeat' split) <;> omega)))
 (try (have hji5m : 0 ≤ ji5 := by omega))
 have hji5_ : (if 1 < qh then qh else 1) = ji5 := hji5
 by_cases c6 : (ji5) = 0
 ·
  rw [if_pos c6] at H
  exact absurd H (by simp)
 rw [if_neg c6] at H
 have zi : ((ji5) == 0) = false := beq_eq_false_iff_ne.mpr c6
 have zj : ((ji5) != 0) = true := bne_iff_ne.mpr c6
 have H' := Aside0.mk H
 clear H
 go_enter Try.func105, Try.ntmps105
 go_wp2_with (first | ((with_reducible refine gate_dst (N := 6) rfl ?_); refine bx_ (cs := #[.slice none 0 0, .int .i64 0, .bool false]) (t := 52) ?_; intro qk hg w7 hbox hb; have qd := Aside0.mk (hbox); have q5 := hz_ HB hg; have q6 := hz_ HB hg; replace HB := bS_ HB hb; clear hb hbox hg) | ((with_reducible refine gate_callee (f := 112) rfl ?_); refine gL_ (some 13) Try.func112 #[.slice A0 l0.length c0, .int .i64 a1] ?_; (with_reducible refine (spec_l2Gcd.calls k _ _ l0 a1 qh _ ?side1 ?side2 A4.out).mono ?_); (case side1 => exact cb_ HR0 HB); (case side2 => exact HC0.out); rintro e w8 ⟨rfl, hb⟩; refine ⟨_, rfl, ?_⟩; replace qd := kB_ qd hb; replace HB := bS_ HB hb; clear hb) | ((with_reducible refine gate_dst (N := 9) rfl ?_); refine bx_ (cs := #[.slice none 0 0, .int .i64 0, .bool false]) (t := 52) ?_; intro qj hg w9 hbox hb; have qb := Aside0.mk (hbox); have q7 := hz_ HB hg; have q8 := hz_ HB hg; replace HB := bS_ HB hb; have qf := nL_ qd hg; have qg := nG_ qd hg; replace qd := kB_ qd hb; clear hb hbox hg; have q9 := qg.out; have za := qf.out; obtain ⟨qr, qs, qt, qu, qv, qw⟩ := b3_ qb))
 go_loopg [10] k (fun kq v10 w' => ∃ (qe : Int) (qc : List Int) (u250000 : Value), v10 = .int .i64 qe ∧ Aside0 (spec_l2Atom.l0 kq l0 ji5 qe qc (wrap64 (Int.tdiv a1 (ji5))) a2 = some (r1, r2, r3, r4)) ∧ Aside0 (kq ≤ k) ∧ Aside0 (Kd.R (Kd.int .i64) 3 w' w.heap.size (fun _ => True) u250000 qc) ∧ Aside0 (w'.heap[qk]? = some (.cells #[(.slice none 0 0), .int .i64 0, .bool false] 52 (0, 0))) ∧ Aside0 (w'.heap[qj]? = some (.cells #[u250000, .int .i64 (wrap64 (Int.tdiv a1 (ji5))), .bool a2] 52 (0, 0))) ∧ Aside0 (Below w.heap.size w w'))
 case atStart => exact ⟨(0), (([] : List Int)), (.slice none 0 0), (by first | rfl | (simp; done) | (simp [*]; done)), H', ⟨Nat.le_refl _⟩, ⟨by first | exact Kd.R_nil _ _ _ _ _ | exact Kd.N_nil _ _ _ _ _ | exact Kd.V_nil _ _ _ _ _ | exact Kd.Q_nil _ _ _ _ _ | exact Kd.S_nil _ _ _ _ _⟩, ⟨kf_ qd⟩, ⟨kp_ qb⟩, ⟨bb_ HB⟩⟩
 clear H'
 obtain ⟨qe, qc, u250000, rfl, HA, HK1, qa, qd, qb, HB⟩ := hrel
 cases gk with
 | zero => exact absurd HA.out (by simp [spec_l2Atom.l0])
 | succ k1 =>
  have H := HA.out
  clear HA
  simp only [spec_l2Atom.l0] at H
  by_cases c12 : qe < (l0.length : Int)
  rotate_left
  ·
   rw [if_neg c12] at H
   have qn : decide (qe < (l0.length : Int)) = false := decide_eq_false c12
   clear c12
   replace H := be_ H
   obtain ⟨qm, A200, H⟩ := H
   have A20 := Aside0.mk A200
   clear A200
   by_cases c21 : qm = true
   rotate_left
   ·
    replace c21 := Bool.eq_false_iff.mpr c21
    subst c21
    have H1 : (some (([] : List Int), 0, false, false)) = some (r1, r2, r3, r4) := by rw [if_neg (show ¬ (false = true) by decide)] at H; exact H
    clear H
    have H := H1
    clear H1
    simp only [Option.some.injEq, Prod.mk.injEq] at H
    obtain ⟨rfl, rfl, rfl, rfl⟩ := H
    have zb := qg.out
    have zc := qf.out
    obtain ⟨qx, qy, qz, qA, qB, qC⟩ := b3_ qb
    obtain ⟨q1, q2, eo30⟩ := Kd.R_slice qa.out
    subst eo30
    go_wp2_with (first | ((with_reducible refine gate_callee (f := 88) rfl ?_); refine goesL_ (some 38) rfl rfl Try.func88 (by kernel_rfl) rfl #[.agg #[.slice q1 qc.length q2, .int .i64 (wrap64 (Int.tdiv a1 (ji5))), .bool a2]] rfl (by (try simp only [List.map_toArray, List.map_cons, List.map_nil]); first | done | (simp only [hji5]; rfl) | rfl | (simp only [List.length_drop, List.length_take]; rfl)) ?_; (with_reducible refine (spec_IsAtom.calls k1 _ _ qc (wrap64 (Int.tdiv a1 (ji5))) a2 false _ ?side1 ?side2 A20.out).mono ?_); (case side1 => exact cr_ qa); (case side2 => exact (Kd.R_reads' qa.out).2.1); rintro e zm ⟨rfl, hb⟩; refine ⟨_, rfl, ?_⟩; replace qa := rB_ qa hb; replace qd := kB_ qd hb; replace qb := kB_ qb hb; replace HB := bS_ HB hb; clear hb; obtain ⟨qD, qE, qF, qG, qH, qI⟩ := b3_ qd))
    refine bodyPost_ret (results_ct rfl _ _ qk 52 #[.slice none 0 0, .int .i64 0, .bool false] (0, 0) _ rfl (kp_ qd) Try.underlying52 rfl (by kernel_rfl)) rfl ?_
    exact ⟨_, by first | rfl | (simp [errW_none, errW_some] <;> rfl) | (simp only [← hji5]; first | rfl | (simp [errW_none, errW_some] <;> rfl)) | (simp [*, errW_none, errW_some] <;> rfl), by first | exact Kd.R_nil _ _ _ _ _ | exact Kd.N_nil _ _ _ _ _ | exact Kd.V_nil _ _ _ _ _ | exact Kd.Q_nil _ _ _ _ _ | exact Kd.S_nil _ _ _ _ _, bb_ HB⟩
   subst c21
   have H1 : (some (qc, (wrap64 (Int.tdiv a1 (ji5))), a2, true)) = some (r1, r2, r3, r4) := by rw [if_pos rfl] at H; exact H
   clear H
   have H := H1
   clear H1
   simp only [Option.some.injEq, Prod.mk.injEq] at H
   obtain ⟨rfl, rfl, rfl, rfl⟩ := H
   have zd := qg.out
   have ze := qf.out
   obtain ⟨qJ, qK, qL, qM, qN, qO⟩ := b3_ qb
   obtain ⟨qo, qp, eo24⟩ := Kd.R_slice qa.out
   subst eo24
   go_wp2_with (first | ((with_reducible refine gate_callee (f := 88) rfl ?_); refine goesL_ (some 38) rfl rfl Try.func88 (by kernel_rfl) rfl #[.agg #[.slice qo qc.length qp, .int .i64 (wrap64 (Int.tdiv a1 (ji5))), .bool a2]] rfl (by (try simp only [List.map_toArray, List.map_cons, List.map_nil]); first | done | (simp only [hji5]; rfl) | rfl | (simp only [List.length_drop, List.length_take]; rfl)) ?_; (with_reducible refine (spec_IsAtom.calls k1 _ _ qc (wrap64 (Int.tdiv a1 (ji5))) a2 true _ ?side1 ?side2 A20.out).mono ?_); (case side1 => exact cr_ qa); (case side2 => exact (Kd.R_reads' qa.out).2.1); rintro e zn ⟨rfl, hb⟩; refine ⟨_, rfl, ?_⟩; replace qa := rB_ qa hb; replace qd := kB_ qd hb; replace qb := kB_ qb hb; replace HB := bS_ HB hb; clear hb; obtain ⟨qP, qQ, qR, qS, qT, qU⟩ := b3_ qb; obtain ⟨qV, qW, qX, qY, qZ, q0⟩ := b3_ qd))
   refine bodyPost_ret (results_ct rfl _ _ qk 52 #[.slice qo qc.length qp, .int .i64 (wrap64 (Int.tdiv a1 (ji5))), .bool a2] (0, 0) _ rfl (kp_ qd) Try.underlying52 rfl (by kernel_rfl)) rfl ?_
   exact ⟨_, by first | rfl | (simp [errW_none, errW_some] <;> rfl) | (simp only [← hji5]; first | rfl | (simp [errW_none, errW_some] <;> rfl)) | (simp [*, errW_none, errW_some] <;> rfl), Kd.R_mono (rg_ qa qd) (fun _ hk => trivial), bb_ HB⟩
  rw [if_pos c12] at H
  have qn : decide (qe < (l0.length : Int)) = true := decide_eq_true c12
  clear c12
  replace H := ip_ H
  obtain ⟨c13, H⟩ := H
  have zf : decide (0 ≤ qe) = true := decide_eq_true c13
  clear c13
  by_cases c14 : ji5 = 0
  ·
   rw [if_pos c14] at H
   exact absurd H (by simp)
  rw [if_neg c14] at H
  have zg : (ji5 == 0) = false := beq_eq_false_iff_ne.mpr c14
  have zh : (ji5 != 0) = true := bne_iff_ne.mpr c14
  replace H := ip_ H
  obtain ⟨c15, H⟩ := H
  have LMc15 := Aside0.mk c15
  clear c15
  obtain ⟨y251, hy251⟩ : ∃ y_ : List Int, y_ = (qc ++ [wrap64 (Int.tdiv (rd l0 qe) ji5)]) := ⟨_, rfl⟩
  replace H : (spec_l2Atom.l0 k1 l0 ji5 (wrap64 (qe + 1)) y251 (wrap64 (Int.tdiv a1 (ji5))) a2) = some (r1, r2, r3, r4) := by first | (rw [hy251]; with_reducible exact H) | (have H2_ := (Option.bind_some _ _).symm.trans H; rw [hy251]; with_reducible exact H2_) | (have H2_ := (Option.bind_some _ _).symm.trans H; with_reducible exact H2_) | with_reducible exact H | (rw [hy251]; exact H) | exact H
  have Ny251 := Aside0.mk hy251
  clear hy251
  have H' := Aside0.mk H
  clear H
  try go_wp2
  replace qa := Aside0.mk (Kd.R_drew qa.out); replace qd := Aside0.mk (blk_drew qd.out); replace qb := Aside0.mk (blk_drew qb.out); replace HB := Aside0.mk (below_drew1 HB.out)
  have p250 : 0 ≤ (qe : Int) := od_
  have q250 : qe < (l0.length : Int) := od_
  obtain ⟨qq, e250, qi⟩ := Kd.at_int HR0.out qe p250 q250
  have hw250_0 := qi
  cases e250
  replace qi := ct_ HB qi
  replace p250 := eq_true p250
  replace q250 := eq_true q250
  refine start_ (n := 12) (S := fun w' => w'.cell? ⟨qj, 0, none⟩ = some (u250000) ∧ w'.cell? ⟨qj, 1, none⟩ = some (.int .i64 (wrap64 (Int.tdiv a1 (ji5)))) ∧ w'.cell? ⟨qj, 2, none⟩ = some (.bool a2) ∧ w'.cell? (qq.add (qe).toNat) = some (.int .i64 (rd l0 qe))) (ds := [11]) (fl_ 12 0) (by kernel_rfl) rfl rfl ⟨bc_ qb 0, bc_ qb 1, bc_ qb 2, (ct_ HB hw250_0 :)⟩ (fun hHeld => ?_); refine with_tabW spec_l2Atom.tab6 spec_l2Atom.bits6 (fun HT_ HW_ => ?_)
  generalize wr.drew = zo at qa qd qb HB qi hHeld ⊢
  refine pX_ 0 (some 26) (fl_ 12 1) HT_ ?_
  refine pX_ 2 (some 28) (fl_ 12 5) HT_ ?_
  refine pX_ 3 (some 29) (fl_ 12 13) HT_ ?_
  refine pX_ 4 (some 30) (fl_ 12 29) HT_ ?_
  refine pX_ 6 (some 32) (fl_ 12 93) HT_ ?_
  refine tX_ 1 (some 27) (fl_ 12 95) rfl rfl HT_ HW_ hHeld (by rintro w' ⟨s0, s1, s2, s3⟩; go_simp; with_reducible rfl) ?_
  refine tX_ 5 (some 31) (fl_ 12 127) rfl rfl HT_ HW_ hHeld (by rintro w' ⟨s0, s1, s2, s3⟩; go_simp; with_reducible rfl) ?_
  refine pX_ 7 (some 33) (fl_ 12 255) HT_ ?_
  refine one_ (i := 8) (N := some 34) (fl_ 12 511) rfl rfl (one_of HT_.out (by kernel_rfl)) (by decide) (fun K hK => ?_)
  refine value_ (w1 := ?_) (v := ?_) (by rfl) rfl ?_ ?_
  rotate_left 2
  ·
   go_simp
   constructor
   rotate_left
   ·
    rfl
   rfl
  refine hK.out _ _ ⟨(blk_cell (blk_alloc qb.out _) 0).trans rfl, (blk_cell (blk_alloc qb.out _) 1).trans rfl, (blk_cell (blk_alloc qb.out _) 2).trans rfl, (World.cell?_alloc_lt _ _ _ (World.block_lt_of_cell? _ _ ((ct_ HB hw250_0 :)))).trans ((ct_ HB hw250_0 :))⟩ (fun hHeld => ?_)
  clear hK K
  refine norm_ (a' := ?_) ?_ ?_
  rotate_left
  ·
   show Act.put _ (some 34) _ = _
   simp only [Act.put, sa_, s0_, s1_, i64_w, i32_w]
   rfl
  refine one_ (i := 9) (N := some 35) (fl_ 12 1023) rfl rfl (one_of HT_.out (by kernel_rfl)) (by decide) (fun K hK => ?_)
  refine Kd.R_append_step (Kd.int .i64) (w0 := w) w.heap.size (by rfl) (.tmp 27) (.tmp 34) 47 3 (.int .i64 0) 8 rfl Try.underlying47 info3 rfl (by decide) (by omega) u250000 qc (wrap64 (Int.tdiv (rd l0 qe) ji5)) [.int .i64 (wrap64 (Int.tdiv (rd l0 qe) ji5))] (fun _ => True) (fun _ => False) rfl rfl ?aP (fun _ hk => hk.elim) ?aF ?aO ?aB ?aS ?aL ?_
  (case aP => exact rfl)
  (case aB => exact (bb_ HB))
  (case aF => exact (fun _ _ => trivial))
  (case aO => exact (rm_ qa))
  (case aS => exact (bz_ HB))
  (case aL => have := LMc15.out; omega)
  intro zk zl ho hb hg hat
  rw [← Ny251.out] at ho
  replace qd := Aside0.mk (blk_grown (g := qk) (o := .cells #[.slice none 0 0, .int .i64 0, .bool false] 52 (0, 0)) (kf_ qd) hg (Kd.R_ne qa.out qd.out (by decide))); replace qb := Aside0.mk (blk_grown (g := qj) (o := .cells #[u250000, .int .i64 (wrap64 (Int.tdiv a1 (ji5))), .bool a2] 52 (0, 0)) (kf_ qb) hg (Kd.R_ne qa.out qb.out (by decide))); replace HB := Aside0.mk (hb); have ql := Aside0.mk (ho); clear qa; clear ho hb hg hat
  obtain ⟨q3, q4, eo18⟩ := Kd.R_slice ql.out
  (first | subst eo18 | (injection eo18 with f1_ f2_ f3_; have f4_ := f1_.symm; have f5_ := f3_.symm; clear f1_ f2_ f3_; subst f4_; subst f5_))
  refine hK.out _ _ ⟨bc_ qb 0, bc_ qb 1, bc_ qb 2, (ct_ HB hw250_0 :)⟩ (fun hHeld => ?_)
  clear hK K
  refine norm_ (a' := ?_) ?_ ?_
  rotate_left
  ·
   show Act.put _ (some 35) _ = _
   simp only [Act.put, sa_, s0_, s1_, i64_w, i32_w]
   rfl
  refine pX_ 10 (some 36) (fl_ 12 2047) HT_ ?_
  refine last_ (i := 11) (N := none) (fl_ 12 4095) rfl rfl (one_of HT_.out (by kernel_rfl)) (by decide) (fun K hK => ?_)
  have hs19 : zl.cell? ⟨qj, 0, none⟩ = some (u250000) := bc_ qb 0
  have hfs19 := blk_frozen qb.out 0
  have hns19_0 := qf.out
  have hms19_0 := qg.out
  refine skip_ (w1 := ?_) (by rfl) rfl ?_ ?_
  rotate_left
  ·
   go_simp
   rfl
  refine hK.out _ _ ?_
  clear hK K
  refine done_ (done_of HT_.out (by kernel_rfl)) ?_
  try go_wp2
  go_roundg k1
  case measure => have := HK1.out; omega
  case rel => exact ⟨(wrap64 (qe + 1)), (y251), (.slice q3 y251.length q4), (by first | rfl | (simp; done) | (simp [*]; done)), H', ⟨by have := HK1.out; omega⟩, ⟨Kd.R_mono (rg_ ql qb) (fun _ hk => trivial)⟩, ⟨kf_ qd⟩, ⟨kp_ qb⟩, ⟨bb_ HB⟩⟩

/-! ### spec_MixAtoms: function 102 -/
mutual
def spec_MixAtoms.j0 : Nat → Int → Int → Bool → List Int → Int → Bool → List Int → Int → Bool → Option (List Int × Int × Bool × Bool)
 | 0, _, _, _, _, _, _, _, _, _ => none
 | k + 1, x1, x3, x40, x256000, x256001, x256002, x257000, x257001, x257002 => if x40 = true then (some (([] : List Int), 0, false, false)) else (spec_MixAtoms.l0 k x1 x3 (([] : List Int)) 0 x256000 x256001 x256002 x257000 x257001 x257002)
def spec_MixAtoms.l0 : Nat → Int → Int → List Int → Int → List Int → Int → Bool → List Int → Int → Bool → Option (List Int × Int × Bool × Bool)
 | 0, _, _, _, _, _, _, _, _, _, _ => none
 | k + 1, x1, x3, x10, x11, x256000, x256001, x256002, x257000, x257001, x257002 => if x11 < (x256000.length : Int) then (if 0 ≤ x11 then (if x11 < (x257000.length : Int) then (if x10.length < 17592186044416 then (spec_MixAtoms.l0 k x1 x3 (x10 ++ [wrap64 ((wrap64 (x1 * (rd x256000 x11))) + (wrap64 (x3 * (rd x257000 x11))))]) (wrap64 (x11 + 1)) x256000 x256001 x256002 x257000 x257001 x257002) else (none)) else (none)) else (none)) else (if x256002 = true then (if x1 > 0 then ((spec_l2Atom.f k x10 (wrap64 ((wrap64 (x1 * x256001)) + (wrap64 (x3 * x257001)))) true).bind fun qr => (some (qr.1, qr.2.1, qr.2.2.1, qr.2.2.2))) else (if x257002 = true then ((spec_l2Atom.f k x10 (wrap64 ((wrap64 (x1 * x256001)) + (wrap64 (x3 * x257001)))) (decide (x3 > 0))).bind fun qn => (some (qn.1, qn.2.1, qn.2.2.1, qn.2.2.2))) else ((spec_l2Atom.f k x10 (wrap64 ((wrap64 (x1 * x256001)) + (wrap64 (x3 * x257001)))) false).bind fun qo => (some (qo.1, qo.2.1, qo.2.2.1, qo.2.2.2))))) else (if x257002 = true then ((spec_l2Atom.f k x10 (wrap64 ((wrap64 (x1 * x256001)) + (wrap64 (x3 * x257001)))) (decide (x3 > 0))).bind fun qp => (some (qp.1, qp.2.1, qp.2.2.1, qp.2.2.2))) else ((spec_l2Atom.f k x10 (wrap64 ((wrap64 (x1 * x256001)) + (wrap64 (x3 * x257001)))) false).bind fun qq => (some (qq.1, qq.2.1, qq.2.2.1, qq.2.2.2)))))
end
def spec_MixAtoms.f (k : Nat) (l0_0 : List Int) (a0_1 : Int) (a0_2 : Bool) (a1 : Int) (l2_0 : List Int) (a2_1 : Int) (a2_2 : Bool) (a3 : Int) : Option (List Int × Int × Bool × Bool) := (spec_IsAtom.f k l0_0 a0_1 a0_2).bind fun ze => (if ze = true then ((spec_IsAtom.f k l2_0 a2_1 a2_2).bind fun qC => (if qC = true then (if (l0_0.length : Int) = (l2_0.length : Int) then ((spec_l1In.f a1 0 400000000).bind fun qy => (if qy = true then ((spec_l1In.f a3 0 400000000).bind fun qs => (spec_MixAtoms.j0 k a1 a3 (!qs) l0_0 a0_1 a0_2 l2_0 a2_1 a2_2)) else (spec_MixAtoms.j0 k a1 a3 true l0_0 a0_1 a0_2 l2_0 a2_1 a2_2))) else (spec_MixAtoms.j0 k a1 a3 true l0_0 a0_1 a0_2 l2_0 a2_1 a2_2)) else (spec_MixAtoms.j0 k a1 a3 true l0_0 a0_1 a0_2 l2_0 a2_1 a2_2))) else (spec_MixAtoms.j0 k a1 a3 true l0_0 a0_1 a0_2 l2_0 a2_1 a2_2))
theorem spec_MixAtoms.mono_l : ∀ k, (∀ y0 y1 y2 y3 y4 y5 y6 y7 y8, LeO (spec_MixAtoms.j0 k y0 y1 y2 y3 y4 y5 y6 y7 y8) (spec_MixAtoms.j0 (k + 1) y0 y1 y2 y3 y4 y5 y6 y7 y8)) ∧ (∀ y0 y1 y2 y3 y4 y5 y6 y7 y8 y9, LeO (spec_MixAtoms.l0 k y0 y1 y2 y3 y4 y5 y6 y7 y8 y9) (spec_MixAtoms.l0 (k + 1) y0 y1 y2 y3 y4 y5 y6 y7 y8 y9))
 | 0 => ⟨fun _ _ _ _ _ _ _ _ _ r h => by simp [spec_MixAtoms.j0] at h, fun _ _ _ _ _ _ _ _ _ _ r h => by simp [spec_MixAtoms.l0] at h⟩
 | k + 1 => by
  obtain ⟨ih0, ih1⟩ := spec_MixAtoms.mono_l k
  refine ⟨?_, ?_⟩ <;> (intros; first | unfold spec_MixAtoms.j0 | unfold spec_MixAtoms.l0)
  all_goals
   repeat' first
   | (with_reducible exact ih0 _ _ _ _ _ _ _ _ _)
   | (with_reducible exact ih1 _ _ _ _ _ _ _ _ _ _)
   | (with_reducible exact spec_IsAtom.mono _ _ _ _)
   | (with_reducible exact spec_l2Atom.mono _ _ _ _)
   | (with_reducible exact LeO.refl _)
   | (with_reducible exact LeO.none _)
   | (with_reducible refine LeO.ite ?_ ?_)
   | (with_reducible refine LeO.bind ?_ (fun _ => ?_))
theorem spec_MixAtoms.mono : ∀ a0 a1 a2 a3 a4 a5 a6 a7 k, LeO (spec_MixAtoms.f k a0 a1 a2 a3 a4 a5 a6 a7) (spec_MixAtoms.f (k + 1) a0 a1 a2 a3 a4 a5 a6 a7) := by
 intro a0 a1 a2 a3 a4 a5 a6 a7 k
 obtain ⟨ih0, ih1⟩ := spec_MixAtoms.mono_l k
 unfold spec_MixAtoms.f
 repeat' first
   | (with_reducible exact ih0 _ _ _ _ _ _ _ _ _)
   | (with_reducible exact ih1 _ _ _ _ _ _ _ _ _ _)
   | (with_reducible exact spec_IsAtom.mono _ _ _ _)
   | (with_reducible exact spec_l2Atom.mono _ _ _ _)
   | (with_reducible exact LeO.refl _)
   | (with_reducible exact LeO.none _)
   | (with_reducible refine LeO.ite ?_ ?_)
   | (with_reducible refine LeO.bind ?_ (fun _ => ?_))
def spec_MixAtoms.T7 : Bool × List (List Nat × List Nat) := (true, [([], []), ([], []), ([], []), ([2], [2]), ([], []), ([3, 4], [3, 4]), ([5], [5]), ([1, 6], [1, 6]), ([], []), ([], []), ([9], [9]), ([], []), ([10, 11], [10, 11]), ([12], [12]), ([8, 13], [8, 13]), ([7, 14], [7, 14]), ([15], [15]), ([0, 16], [0, 16]), ([17, 17, 0, 1, 2, 3, 4, 5, 6, 7, 8, 9, 10, 11, 12, 13, 14, 15, 16, 17], [0, 17])])
def spec_MixAtoms.B7 : List Nat := [0, 0, 0, 4, 0, 28, 60, 126, 0, 0, 512, 0, 3584, 7680, 16128, 32766, 65534, 131071, 262143]
theorem spec_MixAtoms.tab7 : rtab .any (opsOf Try.f102 7) = spec_MixAtoms.T7 := by kernel_rfl
theorem spec_MixAtoms.bits7 : waitsOk spec_MixAtoms.T7.2 spec_MixAtoms.B7 = true := by kernel_rfl
set_option maxHeartbeats 8000000 in
set_option maxRecDepth 100000 in
theorem spec_MixAtoms.calls (k : Nat) (A0_0 : Option Addr) (c0_0 : Nat) (l0_0 : List Int) (a0_1 : Int) (a0_2 : Bool) (a1 : Int) (A2_0 : Option Addr) (c2_0 : Nat) (l2_0 : List Int) (a2_1 : Int) (a2_2 : Bool) (a3 : Int) (r1 : List Int) (r2 : Int) (r3 : Bool) (r4 : Bool) (w : World) (hr0_0 : Kd.C (Kd.int .i64) w A0_0 l0_0.length l0_0) (hc0_0 : l0_0.length ≤ c0_0) (hr2_0 : Kd.C (Kd.int .i64) w A2_0 l2_0.length l2_0) (hc2_0 : l2_0.length ≤ c2_0) (h : spec_MixAtoms.f k l0_0 a0_1 a0_2 a1 l2_0 a2_1 a2_2 a3 = some (r1, r2, r3, r4)) :
  Calls Try.prog 102 #[.agg #[.slice A0_0 l0_0.length c0_0, .int .i64 a0_1, .bool a0_2], .int .i64 a1, .agg #[.slice A2_0 l2_0.length c2_0, .int .i64 a2_1, .bool a2_2], .int .i64 a3] w fun e w' => ∃ v0_ : Value, e = .returned (.tuple #[.agg #[v0_, .int .i64 r2, .bool r3], .bool r4]) ∧ Kd.R (Kd.int .i64) 3 w' w.heap.size (fun _ => True) v0_ r1 ∧ Below w.heap.size w w' := by
 have hu52 := Try.underlying52
 have qv := Aside0.mk hr0_0
 have qz := Aside0.mk hc0_0
 clear hr0_0 hc0_0
 have qA := Aside0.mk hr2_0
 have qD := Aside0.mk hc2_0
 clear hr2_0 hc2_0
 have HB := Aside0.mk (Below.refl w.heap.size w)
 have H : ((spec_IsAtom.f k l0_0 a0_1 a0_2).bind fun ze => (if ze = true then ((spec_IsAtom.f k l2_0 a2_1 a2_2).bind fun qC => (if qC = true then (if (l0_0.length : Int) = (l2_0.length : Int) then ((spec_l1In.f a1 0 400000000).bind fun qy => (if qy = true then ((spec_l1In.f a3 0 400000000).bind fun qs => (spec_MixAtoms.j0 k a1 a3 (!qs) l0_0 a0_1 a0_2 l2_0 a2_1 a2_2)) else (spec_MixAtoms.j0 k a1 a3 true l0_0 a0_1 a0_2 l2_0 a2_1 a2_2))) else (spec_MixAtoms.j0 k a1 a3 true l0_0 a0_1 a0_2 l2_0 a2_1 a2_2)) else (spec_MixAtoms.j0 k a1 a3 true l0_0 a0_1 a0_2 l2_0 a2_1 a2_2))) else (spec_MixAtoms.j0 k a1 a3 true l0_0 a0_1 a0_2 l2_0 a2_1 a2_2))) = some (r1, r2, r3, r4) := h
 clear h
 have HC5 := Aside0.mk H
 clear H
 go_enter Try.func102, Try.ntmps102
 go_upto_region 1 with (first | ((with_reducible refine gate_dst (N := 4) rfl ?_); (try (refine gate_guard (by rfl) ?_; dsimp only)); refine bx_ (cs := #[.slice A0_0 l0_0.length c0_0, .int .i64 a0_1, .bool a0_2]) (t := 52) ?_; intro qw hg w6 hbox hb; have qa := Aside0.mk (hbox); have Xo := hz_ HB hg; have Xp := hz_ HB hg; replace HB := bS_ HB hb; clear hb hbox hg) | ((with_reducible refine gate_dst (N := 6) rfl ?_); (try (refine gate_guard (by rfl) ?_; dsimp only)); refine bx_ (cs := #[.slice A2_0 l2_0.length c2_0, .int .i64 a2_1, .bool a2_2]) (t := 52) ?_; intro qx hg w7 hbox hb; have qb := Aside0.mk (hbox); have Xq := hz_ HB hg; have Xr := hz_ HB hg; replace HB := bS_ HB hb; have qg := nL_ qa hg; have qh := nG_ qa hg; replace qa := kB_ qa hb; clear hb hbox hg) | ((with_reducible refine gate_dst (N := 8) rfl ?_); (try (refine gate_guard (by rfl) ?_; dsimp only)); refine bx_ (cs := #[.slice none 0 0, .int .i64 0, .bool false]) (t := 52) ?_; intro ql hg w8 hbox hb; have qc := Aside0.mk (hbox); have Xs := hz_ HB hg; have Xt := hz_ HB hg; replace HB := bS_ HB hb; have qe := nL_ qa hg; have qf := nG_ qa hg; replace qa := kB_ qa hb; have qj := nL_ qb hg; have qk := nG_ qb hg; replace qb := kB_ qb hb; clear hb hbox hg))
 (try simp only [Act.put, sa_, s0_, s1_])
 go_cut [40] (fun v40 wc => ∃ (kq : Nat) (qE : Bool), v40 = .bool qE ∧ Aside0 (spec_MixAtoms.j0 kq a1 a3 qE l0_0 a0_1 a0_2 l2_0 a2_1 a2_2 = some (r1, r2, r3, r4)) ∧ Aside0 (kq ≤ k) ∧ Aside0 (wc.heap[qw]? = some (.cells #[(.slice A0_0 l0_0.length c0_0), .int .i64 a0_1, .bool a0_2] 52 (0, 0))) ∧ Aside0 (wc.heap[qx]? = some (.cells #[(.slice A2_0 l2_0.length c2_0), .int .i64 a2_1, .bool a2_2] 52 (0, 0))) ∧ Aside0 (wc.heap[ql]? = some (.cells #[(.slice none 0 0), .int .i64 0, .bool false] 52 (0, 0))) ∧ Aside0 (Below w.heap.size w wc))
 case first =>
  have H := HC5.out
  clear HC5
  replace H := be_ H
  obtain ⟨ze, A90, H⟩ := H
  have A9 := Aside0.mk A90
  clear A90
  by_cases c10 : ze = true
  rotate_left
  ·
   replace c10 := Bool.eq_false_iff.mpr c10
   subst c10
   have H1 : (spec_MixAtoms.j0 k a1 a3 true l0_0 a0_1 a0_2 l2_0 a2_1 a2_2) = some (r1, r2, r3, r4) := by rw [if_neg (show ¬ (false = true) by decide)] at H; exact H
   clear H
   have H := H1
   clear H1
   have H' := Aside0.mk H
   clear H
   have Xu := qg.out
   have Xv := qh.out
   have Xw := qe.out
   have Xx := qf.out
   obtain ⟨Qu, Qv, Qw, Qx, Qy, Qz⟩ := b3_ qa
   go_wp2_with (first | ((with_reducible refine gate_callee (f := 88) rfl ?_); refine gL_ (some 15) Try.func88 #[.agg #[.slice A0_0 l0_0.length c0_0, .int .i64 a0_1, .bool a0_2]] ?_; (with_reducible refine (spec_IsAtom.calls k _ _ l0_0 a0_1 a0_2 false _ ?side1 ?side2 A9.out).mono ?_); (case side1 => exact cb_ qv HB); (case side2 => exact qz.out); rintro e YP ⟨rfl, hb⟩; refine ⟨_, rfl, ?_⟩; replace qa := kB_ qa hb; replace qb := kB_ qb hb; replace qc := kB_ qc hb; replace HB := bS_ HB hb; clear hb))
   go_meet
   case rel => exact ⟨_, (true), (by first | rfl | (simp; done) | (simp [*]; done)), H', ⟨by first | omega | exact Nat.le_refl _⟩, ⟨kf_ qa⟩, ⟨kf_ qb⟩, ⟨kf_ qc⟩, ⟨bb_ HB⟩⟩
  subst c10
  have H1 : ((spec_IsAtom.f k l2_0 a2_1 a2_2).bind fun qC => (if qC = true then (if (l0_0.length : Int) = (l2_0.length : Int) then ((spec_l1In.f a1 0 400000000).bind fun qy => (if qy = true then ((spec_l1In.f a3 0 400000000).bind fun qs => (spec_MixAtoms.j0 k a1 a3 (!qs) l0_0 a0_1 a0_2 l2_0 a2_1 a2_2)) else (spec_MixAtoms.j0 k a1 a3 true l0_0 a0_1 a0_2 l2_0 a2_1 a2_2))) else (spec_MixAtoms.j0 k a1 a3 true l0_0 a0_1 a0_2 l2_0 a2_1 a2_2)) else (spec_MixAtoms.j0 k a1 a3 true l0_0 a0_1 a0_2 l2_0 a2_1 a2_2))) = some (r1, r2, r3, r4) := by rw [if_pos rfl] at H; exact H
  clear H
  have H := H1
  clear H1
  replace H := be_ H
  obtain ⟨qC, A110, H⟩ := H
  have A11 := Aside0.mk A110
  clear A110
  by_cases c12 : qC = true
  rotate_left
  ·
   replace c12 := Bool.eq_false_iff.mpr c12
   subst c12
   have H1 : (spec_MixAtoms.j0 k a1 a3 true l0_0 a0_1 a0_2 l2_0 a2_1 a2_2) = some (r1, r2, r3, r4) := by rw [if_neg (show ¬ (false = true) by decide)] at H; exact H
   clear H
   have H := H1
   clear H1
   have H' := Aside0.mk H
   clear H
   have Xy := qg.out
   have Xz := qh.out
   have XA := qe.out
   have XB := qf.out
   obtain ⟨QA, QB, QC, QD, QE, QF⟩ := b3_ qa
   go_wp2_with (first | ((with_reducible refine gate_callee (f := 88) rfl ?_); refine gL_ (some 15) Try.func88 #[.agg #[.slice A0_0 l0_0.length c0_0, .int .i64 a0_1, .bool a0_2]] ?_; (with_reducible refine (spec_IsAtom.calls k _ _ l0_0 a0_1 a0_2 true _ ?side1 ?side2 A9.out).mono ?_); (case side1 => exact cb_ qv HB); (case side2 => exact qz.out); rintro e YQ ⟨rfl, hb⟩; refine ⟨_, rfl, ?_⟩; replace qa := kB_ qa hb; replace qb := kB_ qb hb; replace qc := kB_ qc hb; replace HB := bS_ HB hb; clear hb; have XC := qj.out; have XD := qk.out; obtain ⟨QG, QH, QI, QJ, QK, QL⟩ := b3_ qb) | (go_at_call 88; (with_reducible refine (spec_IsAtom.calls k _ _ l2_0 a2_1 a2_2 false _ ?side1 ?side2 A11.out).mono ?_); (case side1 => exact cb_ qA HB); (case side2 => exact qD.out); rintro e YR ⟨rfl, hb⟩; replace qa := kB_ qa hb; replace qb := kB_ qb hb; replace qc := kB_ qc hb; replace HB := bS_ HB hb; clear hb))
   go_meet
   case rel => exact ⟨_, (true), (by first | rfl | (simp; done) | (simp [*]; done)), H', ⟨by first | omega | exact Nat.le_refl _⟩, ⟨kf_ qa⟩, ⟨kf_ qb⟩, ⟨kf_ qc⟩, ⟨bb_ HB⟩⟩
  subst c12
  have H1 : (if (l0_0.length : Int) = (l2_0.length : Int) then ((spec_l1In.f a1 0 400000000).bind fun qy => (if qy = true then ((spec_l1In.f a3 0 400000000).bind fun qs => (spec_MixAtoms.j0 k a1 a3 (!qs) l0_0 a0_1 a0_2 l2_0 a2_1 a2_2)) else (spec_MixAtoms.j0 k a1 a3 true l0_0 a0_1 a0_2 l2_0 a2_1 a2_2))) else (spec_MixAtoms.j0 k a1 a3 true l0_0 a0_1 a0_2 l2_0 a2_1 a2_2)) = some (r1, r2, r3, r4) := by rw [if_pos rfl] at H; exact H
  clear H
  have H := H1
  clear H1
  by_cases c13 : (l0_0.length : Int) = (l2_0.length : Int)
  rotate_left
  ·
   rw [if_neg c13] at H
   have qB : ((l0_0.length : Int) == (l2_0.length : Int)) = false := beq_eq_false_iff_ne.mpr c13
   have zQ : ((l0_0.length : Int) != (l2_0.length : Int)) = true := bne_iff_ne.mpr c13
   have zR : (l0_0.length == l2_0.length) = false := by first | simpa using c13 | (simp at c13 ⊢; omega)
   (first | rw [qB] | (simp only [i64_w, i32_w]; rw [qB]) | skip)
   have H' := Aside0.mk H
   clear H
   have XE := qg.out
   have XF := qh.out
   have XG := qe.out
   have XH := qf.out
   obtain ⟨QM, QN, QO, QP, QQ, QR⟩ := b3_ qa
   go_wp2_with (first | ((with_reducible refine gate_callee (f := 88) rfl ?_); refine gL_ (some 15) Try.func88 #[.agg #[.slice A0_0 l0_0.length c0_0, .int .i64 a0_1, .bool a0_2]] ?_; (with_reducible refine (spec_IsAtom.calls k _ _ l0_0 a0_1 a0_2 true _ ?side1 ?side2 A9.out).mono ?_); (case side1 => exact cb_ qv HB); (case side2 => exact qz.out); rintro e YS ⟨rfl, hb⟩; refine ⟨_, rfl, ?_⟩; replace qa := kB_ qa hb; replace qb := kB_ qb hb; replace qc := kB_ qc hb; replace HB := bS_ HB hb; clear hb; have XI := qj.out; have XJ := qk.out; obtain ⟨QS, QT, QU, QV, QW, QX⟩ := b3_ qb) | (go_at_call 88; (with_reducible refine (spec_IsAtom.calls k _ _ l2_0 a2_1 a2_2 true _ ?side1 ?side2 A11.out).mono ?_); (case side1 => exact cb_ qA HB); (case side2 => exact qD.out); rintro e YT ⟨rfl, hb⟩; replace qa := kB_ qa hb; replace qb := kB_ qb hb; replace qc := kB_ qc hb; replace HB := bS_ HB hb; clear hb; obtain ⟨QY, QZ, Q0, Q1, Q2, Q3⟩ := b3_ qa; obtain ⟨Q4, Q5, Q6, Q7, Q8, Q9⟩ := b3_ qb))
   go_meet
   case rel => exact ⟨_, (true), (by first | rfl | (simp; done) | (simp [*]; done)), H', ⟨by first | omega | exact Nat.le_refl _⟩, ⟨kf_ qa⟩, ⟨kf_ qb⟩, ⟨kf_ qc⟩, ⟨bb_ HB⟩⟩
  rw [if_pos c13] at H
  have qB : ((l0_0.length : Int) == (l2_0.length : Int)) = true := beq_iff_eq.mpr c13
  have zQ : ((l0_0.length : Int) != (l2_0.length : Int)) = false := bne_eq_false_iff_eq.mpr c13
  have zR : (l0_0.length == l2_0.length) = true := by first | simpa using c13 | (simp at c13 ⊢; omega)
  clear c13
  (first | rw [qB] | (simp only [i64_w, i32_w]; rw [qB]) | skip)
  replace H := be_ H
  obtain ⟨qy, A140, H⟩ := H
  have A14 := Aside0.mk A140
  clear A140
  by_cases c15 : qy = true
  rotate_left
  ·
   replace c15 := Bool.eq_false_iff.mpr c15
   subst c15
   have H1 : (spec_MixAtoms.j0 k a1 a3 true l0_0 a0_1 a0_2 l2_0 a2_1 a2_2) = some (r1, r2, r3, r4) := by rw [if_neg (show ¬ (false = true) by decide)] at H; exact H
   clear H
   have H := H1
   clear H1
   have H' := Aside0.mk H
   clear H
   have XK := qg.out
   have XL := qh.out
   have XM := qe.out
   have XN := qf.out
   obtain ⟨Za, Zb, Zc, Zd, Ze, Zf⟩ := b3_ qa
   go_wp2_with (first | ((with_reducible refine gate_callee (f := 88) rfl ?_); refine gL_ (some 15) Try.func88 #[.agg #[.slice A0_0 l0_0.length c0_0, .int .i64 a0_1, .bool a0_2]] ?_; (with_reducible refine (spec_IsAtom.calls k _ _ l0_0 a0_1 a0_2 true _ ?side1 ?side2 A9.out).mono ?_); (case side1 => exact cb_ qv HB); (case side2 => exact qz.out); rintro e YU ⟨rfl, hb⟩; refine ⟨_, rfl, ?_⟩; replace qa := kB_ qa hb; replace qb := kB_ qb hb; replace qc := kB_ qc hb; replace HB := bS_ HB hb; clear hb; have XO := qj.out; have XP := qk.out; obtain ⟨Zg, Zh, Zi, Zj, Zk, Zl⟩ := b3_ qb) | (go_at_call 88; (with_reducible refine (spec_IsAtom.calls k _ _ l2_0 a2_1 a2_2 true _ ?side1 ?side2 A11.out).mono ?_); (case side1 => exact cb_ qA HB); (case side2 => exact qD.out); rintro e YV ⟨rfl, hb⟩; replace qa := kB_ qa hb; replace qb := kB_ qb hb; replace qc := kB_ qc hb; replace HB := bS_ HB hb; clear hb; obtain ⟨Zm, Zn, Zo, Zp, Zq, Zr⟩ := b3_ qa; obtain ⟨Zs, Zt, Zu, Zv, Zw, Zx⟩ := b3_ qb) | (go_at_call 62; (with_reducible refine (spec_l1In.calls a1 0 400000000 false _ A14.out).mono ?_); rintro e w' ⟨rfl, ⟨nd, rfl⟩⟩))
   go_meet
   case rel => exact ⟨_, (true), (by first | rfl | (simp; done) | (simp [*]; done)), H', ⟨by first | omega | exact Nat.le_refl _⟩, ⟨kf_ qa⟩, ⟨kf_ qb⟩, ⟨kf_ qc⟩, ⟨bb_ HB⟩⟩
  subst c15
  have H1 : ((spec_l1In.f a3 0 400000000).bind fun qs => (spec_MixAtoms.j0 k a1 a3 (!qs) l0_0 a0_1 a0_2 l2_0 a2_1 a2_2)) = some (r1, r2, r3, r4) := by rw [if_pos rfl] at H; exact H
  clear H
  have H := H1
  clear H1
  replace H := be_ H
  obtain ⟨qs, A160, H⟩ := H
  have A16 := Aside0.mk A160
  clear A160
  have H' := Aside0.mk H
  clear H
  have XQ := qg.out
  have XR := qh.out
  have XS := qe.out
  have XT := qf.out
  obtain ⟨Zy, Zz, ZA, ZB, ZC, ZD⟩ := b3_ qa
  go_wp2_with (first | ((with_reducible refine gate_callee (f := 88) rfl ?_); refine gL_ (some 15) Try.func88 #[.agg #[.slice A0_0 l0_0.length c0_0, .int .i64 a0_1, .bool a0_2]] ?_; (with_reducible refine (spec_IsAtom.calls k _ _ l0_0 a0_1 a0_2 true _ ?side1 ?side2 A9.out).mono ?_); (case side1 => exact cb_ qv HB); (case side2 => exact qz.out); rintro e YW ⟨rfl, hb⟩; refine ⟨_, rfl, ?_⟩; replace qa := kB_ qa hb; replace qb := kB_ qb hb; replace qc := kB_ qc hb; replace HB := bS_ HB hb; clear hb; have XU := qj.out; have XV := qk.out; obtain ⟨ZE, ZF, ZG, ZH, ZI, ZJ⟩ := b3_ qb) | (go_at_call 88; (with_reducible refine (spec_IsAtom.calls k _ _ l2_0 a2_1 a2_2 true _ ?side1 ?side2 A11.out).mono ?_); (case side1 => exact cb_ qA HB); (case side2 => exact qD.out); rintro e YX ⟨rfl, hb⟩; replace qa := kB_ qa hb; replace qb := kB_ qb hb; replace qc := kB_ qc hb; replace HB := bS_ HB hb; clear hb; obtain ⟨ZK, ZL, ZM, ZN, ZO, ZP⟩ := b3_ qa; obtain ⟨ZQ, ZR, ZS, ZT, ZU, ZV⟩ := b3_ qb) | (go_at_call 62; (with_reducible refine (spec_l1In.calls a1 0 400000000 true _ A14.out).mono ?_); rintro e w' ⟨rfl, ⟨nd, rfl⟩⟩) | (go_at_call 62; (with_reducible refine (spec_l1In.calls a3 0 400000000 qs _ A16.out).mono ?_); rintro e w' ⟨rfl, ⟨nd, rfl⟩⟩))
  go_meet
  case rel => exact ⟨_, (!qs), (by first | rfl | (simp; done) | (simp [*]; done)), H', ⟨by first | omega | exact Nat.le_refl _⟩, ⟨kf_ qa⟩, ⟨kf_ qb⟩, ⟨kf_ qc⟩, ⟨bb_ HB⟩⟩
 clear HC5
 obtain ⟨kq, qE, rfl, HA, HJ4, qa, qb, qc, HB⟩ := hcut
 cases kq with
 | zero => exact absurd HA.out (by simp [spec_MixAtoms.j0])
 | succ kj4 =>
  have H := HA.out
  clear HA
  simp only [spec_MixAtoms.j0] at H
  by_cases c55 : qE = true
  ·
   subst c55
   have H1 : (some (([] : List Int), 0, false, false)) = some (r1, r2, r3, r4) := by rw [if_pos rfl] at H; exact H
   clear H
   have H := H1
   clear H1
   simp only [Option.some.injEq, Prod.mk.injEq] at H
   obtain ⟨rfl, rfl, rfl, rfl⟩ := H
   have XW := qf.out
   have XX := qe.out
   have XY := qk.out
   have XZ := qj.out
   obtain ⟨ZW, ZX, ZY, ZZ, Z0, Z1⟩ := b3_ qc
   go_wp2
   refine bodyPost_ret (results_ct rfl _ _ ql 52 #[.slice none 0 0, .int .i64 0, .bool false] (0, 0) _ rfl (kp_ qc) Try.underlying52 rfl (by kernel_rfl)) rfl ?_
   exact ⟨_, rt_ ⟨by first | exact Kd.R_nil _ _ _ _ _ | exact Kd.N_nil _ _ _ _ _ | exact Kd.V_nil _ _ _ _ _ | exact Kd.Q_nil _ _ _ _ _ | exact Kd.S_nil _ _ _ _ _, bb_ HB⟩⟩
  replace c55 := Bool.eq_false_iff.mpr c55
  subst c55
  have H1 : (spec_MixAtoms.l0 kj4 a1 a3 (([] : List Int)) 0 l0_0 a0_1 a0_2 l2_0 a2_1 a2_2) = some (r1, r2, r3, r4) := by rw [if_neg (show ¬ (false = true) by decide)] at H; exact H
  clear H
  have H := H1
  clear H1
  obtain ⟨y262, hy262⟩ : ∃ y_ : List Int, y_ = (([] : List Int)) := ⟨_, rfl⟩
  replace H : (spec_MixAtoms.l0 kj4 a1 a3 y262 0 l0_0 a0_1 a0_2 l2_0 a2_1 a2_2) = some (r1, r2, r3, r4) := by first | (rw [hy262]; with_reducible exact H) | (have H2_ := (Option.bind_some _ _).symm.trans H; rw [hy262]; with_reducible exact H2_) | (have H2_ := (Option.bind_some _ _).symm.trans H; with_reducible exact H2_) | with_reducible exact H | (rw [hy262]; exact H) | exact H
  have Ny262 := Aside0.mk hy262
  clear hy262
  have H' := Aside0.mk H
  clear H
  go_wp2_with (first | ((with_reducible refine gate_dst (N := 42) rfl ?_); (try (refine gate_guard (by rfl) ?_; dsimp only)); refine Kd.R_lit (Kd.int .i64) _ 3 ?hg (N := 42) ?hd (xs := ([] : List Int)) (inner := []) (ok := fun _ => True) (okp := fun _ => True) ?hr ?hp (fun _ hk => hk) trivial (Below.refl _ _) (Nat.le_refl _) (by simp) ?_; (case hd => rfl); (case hg => rfl); (case hr => first | (go_simp; done) | (go_simp; rfl)); (case hp => exact (Reps.none _ _)); intro YC YY ho60 hb hg_ hnew_; clear hg_ hnew_; (first | rw [← Ny262.out] at ho60 | (simp only [Int.reduceToNat] at ho60; rw [← Ny262.out] at ho60)); have zS := Aside0.mk (Kd.R_lower ho60 (bz_ HB)); replace qa := kB_ qa hb; replace qb := kB_ qb hb; replace qc := kB_ qc hb; replace HB := bS_ HB hb; clear hb ho60))
  go_loopg [10, 11] kj4 (fun kq v10 v11 w' => ∃ (qm : List Int) (qi : Int), v11 = .int .i64 qi ∧ Aside0 (spec_MixAtoms.l0 kq a1 a3 qm qi l0_0 a0_1 a0_2 l2_0 a2_1 a2_2 = some (r1, r2, r3, r4)) ∧ Aside0 (kq ≤ kj4) ∧ Aside0 (Kd.R (Kd.int .i64) 3 w' w.heap.size (fun _ => True) v10 qm) ∧ Aside0 (w'.heap[qw]? = some (.cells #[(.slice A0_0 l0_0.length c0_0), .int .i64 a0_1, .bool a0_2] 52 (0, 0))) ∧ Aside0 (w'.heap[qx]? = some (.cells #[(.slice A2_0 l2_0.length c2_0), .int .i64 a2_1, .bool a2_2] 52 (0, 0))) ∧ Aside0 (w'.heap[ql]? = some (.cells #[(.slice none 0 0), .int .i64 0, .bool false] 52 (0, 0))) ∧ Aside0 (Below w.heap.size w w'))
  case atStart => exact ⟨(y262), (0), (by first | rfl | (simp; done) | (simp [*]; done)), H', ⟨Nat.le_refl _⟩, ⟨by (with_reducible repeat (first | apply Kd.R_alloc | apply Kd.R_drewN | apply Kd.R_drew)); exact zS.out⟩, ⟨kf_ qa⟩, ⟨kf_ qb⟩, ⟨kf_ qc⟩, ⟨bb_ HB⟩⟩
  clear H'
  obtain ⟨qm, qi, rfl, HA, HK2, qd, qa, qb, qc, HB⟩ := hrel
  cases gk with
  | zero => exact absurd HA.out (by simp [spec_MixAtoms.l0])
  | succ k2 =>
   have H := HA.out
   clear HA
   simp only [spec_MixAtoms.l0] at H
   by_cases c61 : qi < (l0_0.length : Int)
   ·
    rw [if_pos c61] at H
    have zT : decide (qi < (l0_0.length : Int)) = true := decide_eq_true c61
    clear c61
    replace H := ip_ H
    obtain ⟨c62, H⟩ := H
    have X0 : decide (0 ≤ qi) = true := decide_eq_true c62
    clear c62
    replace H := ip_ H
    obtain ⟨c63, H⟩ := H
    have X1 : decide (qi < (l2_0.length : Int)) = true := decide_eq_true c63
    clear c63
    replace H := ip_ H
    obtain ⟨c64, H⟩ := H
    have LMc64 := Aside0.mk c64
    clear c64
    obtain ⟨y267, hy267⟩ : ∃ y_ : List Int, y_ = (qm ++ [wrap64 ((wrap64 (a1 * (rd l0_0 qi))) + (wrap64 (a3 * (rd l2_0 qi))))]) := ⟨_, rfl⟩
    replace H : (spec_MixAtoms.l0 k2 a1 a3 y267 (wrap64 (qi + 1)) l0_0 a0_1 a0_2 l2_0 a2_1 a2_2) = some (r1, r2, r3, r4) := by first | (rw [hy267]; with_reducible exact H) | (have H2_ := (Option.bind_some _ _).symm.trans H; rw [hy267]; with_reducible exact H2_) | (have H2_ := (Option.bind_some _ _).symm.trans H; with_reducible exact H2_) | with_reducible exact H | (rw [hy267]; exact H) | exact H
    have Ny267 := Aside0.mk hy267
    clear hy267
    have H' := Aside0.mk H
    clear H
    have X2 := qg.out
    have X3 := qh.out
    have X4 := qe.out
    have X5 := qf.out
    obtain ⟨Z2, Z3, Z4, Z5, Z6, Z7⟩ := b3_ qa
    try go_wp2
    replace qd := Aside0.mk (Kd.R_drew qd.out); replace qa := Aside0.mk (blk_drew qa.out); replace qb := Aside0.mk (blk_drew qb.out); replace qc := Aside0.mk (blk_drew qc.out); replace HB := Aside0.mk (below_drew1 HB.out)
    have p265 : 0 ≤ (qi : Int) := od_
    have q265 : qi < (l0_0.length : Int) := od_
    obtain ⟨zf, e265, qt⟩ := Kd.at_int qv.out qi p265 q265
    have hw265_0 := qt
    cases e265
    replace qt := ct_ HB qt
    replace p265 := eq_true p265
    replace q265 := eq_true q265
    have p266 : 0 ≤ (qi : Int) := od_
    have q266 : qi < (l2_0.length : Int) := od_
    obtain ⟨zg, e266, qu⟩ := Kd.at_int qA.out qi p266 q266
    have hw266_0 := qu
    cases e266
    replace qu := ct_ HB qu
    replace p266 := eq_true p266
    replace q266 := eq_true q266
    refine start_ (n := 19) (S := fun w' => w'.cell? ⟨qw, 0, none⟩ = some (.slice (some zf) l0_0.length c0_0) ∧ w'.cell? ⟨qw, 1, none⟩ = some (.int .i64 a0_1) ∧ w'.cell? ⟨qw, 2, none⟩ = some (.bool a0_2) ∧ w'.cell? ⟨qx, 0, none⟩ = some (.slice (some zg) l2_0.length c2_0) ∧ w'.cell? ⟨qx, 1, none⟩ = some (.int .i64 a2_1) ∧ w'.cell? ⟨qx, 2, none⟩ = some (.bool a2_2) ∧ w'.cell? (zf.add (qi).toNat) = some (.int .i64 (rd l0_0 qi)) ∧ w'.cell? (zg.add (qi).toNat) = some (.int .i64 (rd l2_0 qi))) (ds := []) (fl_ 19 0) (by kernel_rfl) rfl rfl ⟨bc_ qa 0, bc_ qa 1, bc_ qa 2, bc_ qb 0, bc_ qb 1, bc_ qb 2, (ct_ HB hw265_0 :), (ct_ HB hw266_0 :)⟩ (fun hHeld => ?_); refine with_tabW spec_MixAtoms.tab7 spec_MixAtoms.bits7 (fun HT_ HW_ => ?_)
    generalize wr.drew = YZ at qd qa qb qc HB qt qu hHeld ⊢
    refine pX_ 0 (some 50) (fl_ 19 1) HT_ ?_
    refine pX_ 1 (some 51) (fl_ 19 3) HT_ ?_
    refine pX_ 2 (some 52) (fl_ 19 7) HT_ ?_
    refine pX_ 4 (some 54) (fl_ 19 23) HT_ ?_
    refine pX_ 8 (some 58) (fl_ 19 279) HT_ ?_
    refine pX_ 9 (some 59) (fl_ 19 791) HT_ ?_
    refine pX_ 11 (some 61) (fl_ 19 2839) HT_ ?_
    refine tX_ 3 (some 53) (fl_ 19 2847) rfl rfl HT_ HW_ hHeld (by rintro w' ⟨s0, s1, s2, s3, s4, s5, s6, s7⟩; go_simp; with_reducible rfl) ?_
    refine pX_ 5 (some 55) (fl_ 19 2879) HT_ ?_
    refine tX_ 6 (some 56) (fl_ 19 2943) rfl rfl HT_ HW_ hHeld (by rintro w' ⟨s0, s1, s2, s3, s4, s5, s6, s7⟩; go_simp; with_reducible rfl) ?_
    refine pX_ 7 (some 57) (fl_ 19 3071) HT_ ?_
    refine tX_ 10 (some 60) (fl_ 19 4095) rfl rfl HT_ HW_ hHeld (by rintro w' ⟨s0, s1, s2, s3, s4, s5, s6, s7⟩; go_simp; with_reducible rfl) ?_
    refine pX_ 12 (some 62) (fl_ 19 8191) HT_ ?_
    refine tX_ 13 (some 63) (fl_ 19 16383) rfl rfl HT_ HW_ hHeld (by rintro w' ⟨s0, s1, s2, s3, s4, s5, s6, s7⟩; go_simp; with_reducible rfl) ?_
    refine pX_ 14 (some 64) (fl_ 19 32767) HT_ ?_
    refine pX_ 15 (some 65) (fl_ 19 65535) HT_ ?_
    refine one_ (i := 16) (N := some 66) (fl_ 19 131071) rfl rfl (one_of HT_.out (by kernel_rfl)) (by decide) (fun K hK => ?_)
    refine value_ (w1 := ?_) (v := ?_) (by rfl) rfl ?_ ?_
    rotate_left 2
    ·
     go_simp
     constructor
     rotate_left
     ·
      rfl
     rfl
    refine hK.out _ _ ⟨(blk_cell (blk_alloc qa.out _) 0).trans rfl, (blk_cell (blk_alloc qa.out _) 1).trans rfl, (blk_cell (blk_alloc qa.out _) 2).trans rfl, (blk_cell (blk_alloc qb.out _) 0).trans rfl, (blk_cell (blk_alloc qb.out _) 1).trans rfl, (blk_cell (blk_alloc qb.out _) 2).trans rfl, (World.cell?_alloc_lt _ _ _ (World.block_lt_of_cell? _ _ ((ct_ HB hw265_0 :)))).trans ((ct_ HB hw265_0 :)), (World.cell?_alloc_lt _ _ _ (World.block_lt_of_cell? _ _ ((ct_ HB hw266_0 :)))).trans ((ct_ HB hw266_0 :))⟩ (fun hHeld => ?_)
    clear hK K
    refine norm_ (a' := ?_) ?_ ?_
    rotate_left
    ·
     show Act.put _ (some 66) _ = _
     simp only [Act.put, sa_, s0_, s1_, i64_w, i32_w]
     rfl
    refine one_ (i := 17) (N := some 67) (fl_ 19 262143) rfl rfl (one_of HT_.out (by kernel_rfl)) (by decide) (fun K hK => ?_)
    refine Kd.R_append_step (Kd.int .i64) (w0 := w) w.heap.size (by rfl) (.tmp 50) (.tmp 66) 47 3 (.int .i64 0) 8 rfl Try.underlying47 info3 rfl (by decide) (by omega) u10 qm (wrap64 ((wrap64 (a1 * (rd l0_0 qi))) + (wrap64 (a3 * (rd l2_0 qi))))) [.int .i64 (wrap64 ((wrap64 (a1 * (rd l0_0 qi))) + (wrap64 (a3 * (rd l2_0 qi)))))] (fun _ => True) (fun _ => False) rfl rfl ?aP (fun _ hk => hk.elim) ?aF ?aO ?aB ?aS ?aL ?_
    (case aP => exact rfl)
    (case aB => exact (bb_ HB))
    (case aF => exact (fun _ _ => trivial))
    (case aO => exact (rm_ qd))
    (case aS => exact (bz_ HB))
    (case aL => have := LMc64.out; omega)
    intro YD Y0 ho hb hg hat
    rw [← Ny267.out] at ho
    replace qa := Aside0.mk (blk_grown (g := qw) (o := .cells #[.slice (some zf) l0_0.length c0_0, .int .i64 a0_1, .bool a0_2] 52 (0, 0)) (kf_ qa) hg (Kd.R_ne qd.out qa.out (by decide))); replace qb := Aside0.mk (blk_grown (g := qx) (o := .cells #[.slice (some zg) l2_0.length c2_0, .int .i64 a2_1, .bool a2_2] 52 (0, 0)) (kf_ qb) hg (Kd.R_ne qd.out qb.out (by decide))); replace qc := Aside0.mk (blk_grown (g := ql) (o := .cells #[.slice none 0 0, .int .i64 0, .bool false] 52 (0, 0)) (kf_ qc) hg (Kd.R_ne qd.out qc.out (by decide))); replace HB := Aside0.mk (hb); have zU := Aside0.mk (ho); clear qd; clear ho hb hg hat
    refine hK.out _ _ ⟨bc_ qa 0, bc_ qa 1, bc_ qa 2, bc_ qb 0, bc_ qb 1, bc_ qb 2, (ct_ HB hw265_0 :), (ct_ HB hw266_0 :)⟩ (fun hHeld => ?_)
    clear hK K
    refine norm_ (a' := ?_) ?_ ?_
    rotate_left
    ·
     show Act.put _ (some 67) _ = _
     simp only [Act.put, sa_, s0_, s1_, i64_w, i32_w]
     rfl
    refine pX_ 18 (some 10) (fl_ 19 524287) HT_ ?_
    refine done_ (done_of HT_.out (by kernel_rfl)) ?_
    try go_wp2
    go_roundg k2
    case measure => have := HJ4.out; have := HK2.out; omega
    case rel => exact ⟨(y267), (wrap64 (qi + 1)), (by first | rfl | (simp; done) | (simp [*]; done)), H', ⟨by have := HJ4.out; have := HK2.out; omega⟩, ⟨by (with_reducible repeat (first | apply Kd.R_alloc | apply Kd.R_drewN | apply Kd.R_drew)); exact zU.out⟩, ⟨kf_ qa⟩, ⟨kf_ qb⟩, ⟨kf_ qc⟩, ⟨bb_ HB⟩⟩
   rw [if_neg c61] at H
   have zT : decide (qi < (l0_0.length : Int)) = false := decide_eq_false c61
   clear c61
   by_cases c70 : a0_2 = true
   rotate_left
   ·
    replace c70 := Bool.eq_false_iff.mpr c70
    subst c70
    have H1 : (if a2_2 = true then ((spec_l2Atom.f k2 qm (wrap64 ((wrap64 (a1 * a0_1)) + (wrap64 (a3 * a2_1)))) (decide (a3 > 0))).bind fun qp => (some (qp.1, qp.2.1, qp.2.2.1, qp.2.2.2))) else ((spec_l2Atom.f k2 qm (wrap64 ((wrap64 (a1 * a0_1)) + (wrap64 (a3 * a2_1)))) false).bind fun qq => (some (qq.1, qq.2.1, qq.2.2.1, qq.2.2.2)))) = some (r1, r2, r3, r4) := by rw [if_neg (show ¬ (false = true) by decide)] at H; exact H
    clear H
    have H := H1
    clear H1
    by_cases c118 : a2_2 = true
    ·
     subst c118
     have H1 : ((spec_l2Atom.f k2 qm (wrap64 ((wrap64 (a1 * a0_1)) + (wrap64 (a3 * a2_1)))) (decide (a3 > 0))).bind fun qp => (some (qp.1, qp.2.1, qp.2.2.1, qp.2.2.2))) = some (r1, r2, r3, r4) := by rw [if_pos rfl] at H; exact H
     clear H
     have H := H1
     clear H1
     replace H := be_ H
     obtain ⟨⟨zh, zi, zj, zV⟩, A1190, H⟩ := H
     replace H : (some (zh, zi, zj, zV)) = some (r1, r2, r3, r4) := H
     have A119 := Aside0.mk A1190
     clear A1190
     simp only [Option.some.injEq, Prod.mk.injEq] at H
     obtain ⟨rfl, rfl, rfl, rfl⟩ := H
     have JI := qg.out
     have JJ := qh.out
     have JK := qe.out
     have JL := qf.out
     obtain ⟨zW, zX, zY, zZ, z0, z1⟩ := b3_ qa
     have JM := qj.out
     have JN := qk.out
     obtain ⟨z2, z3, z4, z5, z6, z7⟩ := b3_ qb
     obtain ⟨z8, z9, eo125⟩ := Kd.R_slice qd.out
     subst eo125
     go_wp2_with (first | ((with_reducible refine gate_callee (f := 105) rfl ?_); refine gL_ (some 93) Try.func105 #[.slice z8 qm.length z9, .int .i64 (wrap64 ((wrap64 (a1 * a0_1)) + (wrap64 (a3 * a2_1)))), .bool (decide (a3 > 0))] ?_; (with_reducible refine (spec_l2Atom.calls k2 _ _ qm (wrap64 ((wrap64 (a1 * a0_1)) + (wrap64 (a3 * a2_1)))) (decide (a3 > 0)) zh zi zj zV _ ?side1 ?side2 A119.out).mono ?_); (case side1 => exact cr_ qd); (case side2 => exact (Kd.R_reads' qd.out).2.1); rintro e YE ⟨YF, rfl, ho0, hb⟩; refine ⟨_, rfl, ?_⟩; have qF := Aside0.mk (Kd.R_lower (Kd.R_new' ho0 (Kd.R_lt (rm_ qd))) (bz_ HB)); replace qd := Aside0.mk (Kd.R_elder' (rm_ qd) (Kd.R_base ho0) hb); replace qa := kB_ qa hb; replace qb := kB_ qb hb; replace qc := kB_ qc hb; replace HB := bS_ HB hb; clear hb ho0) | ((with_reducible refine gate_dst (N := 12) rfl ?_); (try (refine gate_guard (by rfl) ?_; dsimp only)); refine bx_ (cs := #[.slice none 0 0, .int .i64 0, .bool false]) (t := 52) ?_; intro zk hg YG hbox hb; replace qd := rB_ qd hb; replace qF := rB_ qF hb; have zH := Aside0.mk (hbox); have X6 := hz_ HB hg; have X7 := hz_ HB hg; replace HB := bS_ HB hb; have qK := nL_ qa hg; have qL := nG_ qa hg; replace qa := kB_ qa hb; have qM := nL_ qb hg; have qN := nG_ qb hg; replace qb := kB_ qb hb; have qO := nL_ qc hg; have qP := nG_ qc hg; replace qc := kB_ qc hb; clear hb hbox hg; obtain ⟨zl, zm, eo128⟩ := Kd.R_slice qF.out; subst eo128; have JO := qL.out; have JP := qK.out; have JQ := qN.out; have JR := qM.out; have JS := qP.out; have JT := qO.out; obtain ⟨ja, jb, jc, jd, je, jf⟩ := b3_ zH; obtain ⟨jg, jh, ji, jj, jk, jl⟩ := b3_ qc))
     refine bodyPost_ret (results_ct rfl _ _ ql 52 #[.slice zl zh.length zm, .int .i64 zi, .bool zj] (0, 0) _ rfl (kp_ qc) Try.underlying52 rfl (by kernel_rfl)) rfl ?_
     exact ⟨_, rt_ ⟨by (with_reducible repeat (first | apply Kd.R_alloc | apply Kd.R_drewN | apply Kd.R_drew)); exact Kd.R_mono (Kd.R_far (p := ⟨ql, 2, none⟩) (Kd.R_far (p := ⟨ql, 1, none⟩) (Kd.R_far (p := ⟨ql, 0, none⟩) (Kd.R_far (p := ⟨zk, 2, none⟩) (Kd.R_far (p := ⟨zk, 1, none⟩) (Kd.R_far (p := ⟨zk, 0, none⟩) (Kd.R_types (Kd.R_types qF.out zH.out (by decide)) qc.out (by decide)) (fun _ hk => hk.1.2) (.slice zl zh.length zm)) (fun _ hk => hk.1.2) (.int .i64 zi)) (fun _ hk => hk.1.2) (.bool zj)) (fun _ hk => hk.2) (.slice zl zh.length zm)) (fun _ hk => hk.2) (.int .i64 zi)) (fun _ hk => hk.2) (.bool zj)) (fun _ hk => trivial), bb_ HB⟩⟩
    replace c118 := Bool.eq_false_iff.mpr c118
    subst c118
    have H1 : ((spec_l2Atom.f k2 qm (wrap64 ((wrap64 (a1 * a0_1)) + (wrap64 (a3 * a2_1)))) false).bind fun qq => (some (qq.1, qq.2.1, qq.2.2.1, qq.2.2.2))) = some (r1, r2, r3, r4) := by rw [if_neg (show ¬ (false = true) by decide)] at H; exact H
    clear H
    have H := H1
    clear H1
    replace H := be_ H
    obtain ⟨⟨zn, zo, zp, jm⟩, A1340, H⟩ := H
    replace H : (some (zn, zo, zp, jm)) = some (r1, r2, r3, r4) := H
    have A134 := Aside0.mk A1340
    clear A1340
    simp only [Option.some.injEq, Prod.mk.injEq] at H
    obtain ⟨rfl, rfl, rfl, rfl⟩ := H
    have JU := qg.out
    have JV := qh.out
    have JW := qe.out
    have JX := qf.out
    obtain ⟨jn, jo, jp, jq, jr, js⟩ := b3_ qa
    have JY := qj.out
    have JZ := qk.out
    obtain ⟨jt, ju, jv, jw, jx, jy⟩ := b3_ qb
    obtain ⟨jz, jA, eo140⟩ := Kd.R_slice qd.out
    subst eo140
    go_wp2_with (first | ((with_reducible refine gate_callee (f := 105) rfl ?_); refine gL_ (some 93) Try.func105 #[.slice jz qm.length jA, .int .i64 (wrap64 ((wrap64 (a1 * a0_1)) + (wrap64 (a3 * a2_1)))), .bool false] ?_; (with_reducible refine (spec_l2Atom.calls k2 _ _ qm (wrap64 ((wrap64 (a1 * a0_1)) + (wrap64 (a3 * a2_1)))) false zn zo zp jm _ ?side1 ?side2 A134.out).mono ?_); (case side1 => exact cr_ qd); (case side2 => exact (Kd.R_reads' qd.out).2.1); rintro e YH ⟨YI, rfl, ho0, hb⟩; refine ⟨_, rfl, ?_⟩; have qG := Aside0.mk (Kd.R_lower (Kd.R_new' ho0 (Kd.R_lt (rm_ qd))) (bz_ HB)); replace qd := Aside0.mk (Kd.R_elder' (rm_ qd) (Kd.R_base ho0) hb); replace qa := kB_ qa hb; replace qb := kB_ qb hb; replace qc := kB_ qc hb; replace HB := bS_ HB hb; clear hb ho0) | ((with_reducible refine gate_dst (N := 12) rfl ?_); (try (refine gate_guard (by rfl) ?_; dsimp only)); refine bx_ (cs := #[.slice none 0 0, .int .i64 0, .bool false]) (t := 52) ?_; intro zq hg YJ hbox hb; replace qd := rB_ qd hb; replace qG := rB_ qG hb; have zI := Aside0.mk (hbox); have X8 := hz_ HB hg; have X9 := hz_ HB hg; replace HB := bS_ HB hb; have qQ := nL_ qa hg; have qR := nG_ qa hg; replace qa := kB_ qa hb; have qS := nL_ qb hg; have qT := nG_ qb hg; replace qb := kB_ qb hb; have qU := nL_ qc hg; have qV := nG_ qc hg; replace qc := kB_ qc hb; clear hb hbox hg; obtain ⟨zr, zs, eo143⟩ := Kd.R_slice qG.out; subst eo143; have J0 := qR.out; have J1 := qQ.out; have J2 := qT.out; have J3 := qS.out; have J4 := qV.out; have J5 := qU.out; obtain ⟨jB, jC, jD, jE, jF, jG⟩ := b3_ zI; obtain ⟨jH, jI, jJ, jK, jL, jM⟩ := b3_ qc))
    refine bodyPost_ret (results_ct rfl _ _ ql 52 #[.slice zr zn.length zs, .int .i64 zo, .bool zp] (0, 0) _ rfl (kp_ qc) Try.underlying52 rfl (by kernel_rfl)) rfl ?_
    exact ⟨_, rt_ ⟨by (with_reducible repeat (first | apply Kd.R_alloc | apply Kd.R_drewN | apply Kd.R_drew)); exact Kd.R_mono (Kd.R_far (p := ⟨ql, 2, none⟩) (Kd.R_far (p := ⟨ql, 1, none⟩) (Kd.R_far (p := ⟨ql, 0, none⟩) (Kd.R_far (p := ⟨zq, 2, none⟩) (Kd.R_far (p := ⟨zq, 1, none⟩) (Kd.R_far (p := ⟨zq, 0, none⟩) (Kd.R_types (Kd.R_types qG.out zI.out (by decide)) qc.out (by decide)) (fun _ hk => hk.1.2) (.slice zr zn.length zs)) (fun _ hk => hk.1.2) (.int .i64 zo)) (fun _ hk => hk.1.2) (.bool zp)) (fun _ hk => hk.2) (.slice zr zn.length zs)) (fun _ hk => hk.2) (.int .i64 zo)) (fun _ hk => hk.2) (.bool zp)) (fun _ hk => trivial), bb_ HB⟩⟩
   subst c70
   have H1 : (if a1 > 0 then ((spec_l2Atom.f k2 qm (wrap64 ((wrap64 (a1 * a0_1)) + (wrap64 (a3 * a2_1)))) true).bind fun qr => (some (qr.1, qr.2.1, qr.2.2.1, qr.2.2.2))) else (if a2_2 = true then ((spec_l2Atom.f k2 qm (wrap64 ((wrap64 (a1 * a0_1)) + (wrap64 (a3 * a2_1)))) (decide (a3 > 0))).bind fun qn => (some (qn.1, qn.2.1, qn.2.2.1, qn.2.2.2))) else ((spec_l2Atom.f k2 qm (wrap64 ((wrap64 (a1 * a0_1)) + (wrap64 (a3 * a2_1)))) false).bind fun qo => (some (qo.1, qo.2.1, qo.2.2.1, qo.2.2.2))))) = some (r1, r2, r3, r4) := by rw [if_pos rfl] at H; exact H
   clear H
   have H := H1
   clear H1
   by_cases c71 : a1 > 0
   ·
    rw [if_pos c71] at H
    have jN : decide (0 < a1) = true := decide_eq_true c71
    clear c71
    replace H := be_ H
    obtain ⟨⟨zt, zu, zv, jO⟩, A720, H⟩ := H
    replace H : (some (zt, zu, zv, jO)) = some (r1, r2, r3, r4) := H
    have A72 := Aside0.mk A720
    clear A720
    simp only [Option.some.injEq, Prod.mk.injEq] at H
    obtain ⟨rfl, rfl, rfl, rfl⟩ := H
    have Ya := qg.out
    have Yb := qh.out
    have Yc := qe.out
    have Yd := qf.out
    obtain ⟨Z8, Z9, Ja, Jb, Jc, Jd⟩ := b3_ qa
    have Ye := qj.out
    have Yf := qk.out
    obtain ⟨Je, Jf, Jg, Jh, Ji, Jj⟩ := b3_ qb
    obtain ⟨J6, J7, eo78⟩ := Kd.R_slice qd.out
    subst eo78
    go_wp2_with (first | ((with_reducible refine gate_callee (f := 105) rfl ?_); refine gL_ (some 93) Try.func105 #[.slice J6 qm.length J7, .int .i64 (wrap64 ((wrap64 (a1 * a0_1)) + (wrap64 (a3 * a2_1)))), .bool true] ?_; (with_reducible refine (spec_l2Atom.calls k2 _ _ qm (wrap64 ((wrap64 (a1 * a0_1)) + (wrap64 (a3 * a2_1)))) true zt zu zv jO _ ?side1 ?side2 A72.out).mono ?_); (case side1 => exact cr_ qd); (case side2 => exact (Kd.R_reads' qd.out).2.1); rintro e Y1 ⟨YK, rfl, ho0, hb⟩; refine ⟨_, rfl, ?_⟩; have qH := Aside0.mk (Kd.R_lower (Kd.R_new' ho0 (Kd.R_lt (rm_ qd))) (bz_ HB)); replace qd := Aside0.mk (Kd.R_elder' (rm_ qd) (Kd.R_base ho0) hb); replace qa := kB_ qa hb; replace qb := kB_ qb hb; replace qc := kB_ qc hb; replace HB := bS_ HB hb; clear hb ho0) | ((with_reducible refine gate_dst (N := 12) rfl ?_); (try (refine gate_guard (by rfl) ?_; dsimp only)); refine bx_ (cs := #[.slice none 0 0, .int .i64 0, .bool false]) (t := 52) ?_; intro zw hg Y2 hbox hb; replace qd := rB_ qd hb; replace qH := rB_ qH hb; have zJ := Aside0.mk (hbox); have Yg := hz_ HB hg; have Yh := hz_ HB hg; replace HB := bS_ HB hb; have qW := nL_ qa hg; have qX := nG_ qa hg; replace qa := kB_ qa hb; have qY := nL_ qb hg; have qZ := nG_ qb hg; replace qb := kB_ qb hb; have q0 := nL_ qc hg; have q1 := nG_ qc hg; replace qc := kB_ qc hb; clear hb hbox hg; obtain ⟨zM, zN, eo81⟩ := Kd.R_slice qH.out; subst eo81; have Yi := qX.out; have Yj := qW.out; have Yk := qZ.out; have Yl := qY.out; have Ym := q1.out; have Yn := q0.out; obtain ⟨Jk, Jl, Jm, Jn, Jo, Jp⟩ := b3_ zJ; obtain ⟨Jq, Jr, Js, Jt, Ju, Jv⟩ := b3_ qc))
    refine bodyPost_ret (results_ct rfl _ _ ql 52 #[.slice zM zt.length zN, .int .i64 zu, .bool zv] (0, 0) _ rfl (kp_ qc) Try.underlying52 rfl (by kernel_rfl)) rfl ?_
    exact ⟨_, rt_ ⟨by (with_reducible repeat (first | apply Kd.R_alloc | apply Kd.R_drewN | apply Kd.R_drew)); exact Kd.R_mono (Kd.R_far (p := ⟨ql, 2, none⟩) (Kd.R_far (p := ⟨ql, 1, none⟩) (Kd.R_far (p := ⟨ql, 0, none⟩) (Kd.R_far (p := ⟨zw, 2, none⟩) (Kd.R_far (p := ⟨zw, 1, none⟩) (Kd.R_far (p := ⟨zw, 0, none⟩) (Kd.R_types (Kd.R_types qH.out zJ.out (by decide)) qc.out (by decide)) (fun _ hk => hk.1.2) (.slice zM zt.length zN)) (fun _ hk => hk.1.2) (.int .i64 zu)) (fun _ hk => hk.1.2) (.bool zv)) (fun _ hk => hk.2) (.slice zM zt.length zN)) (fun _ hk => hk.2) (.int .i64 zu)) (fun _ hk => hk.2) (.bool zv)) (fun _ hk => trivial), bb_ HB⟩⟩
   rw [if_neg c71] at H
   have jN : decide (0 < a1) = false := decide_eq_false c71
   clear c71
   by_cases c87 : a2_2 = true
   ·
    subst c87
    have H1 : ((spec_l2Atom.f k2 qm (wrap64 ((wrap64 (a1 * a0_1)) + (wrap64 (a3 * a2_1)))) (decide (a3 > 0))).bind fun qn => (some (qn.1, qn.2.1, qn.2.2.1, qn.2.2.2))) = some (r1, r2, r3, r4) := by rw [if_pos rfl] at H; exact H
    clear H
    have H := H1
    clear H1
    replace H := be_ H
    obtain ⟨⟨zx, zy, zz, jP⟩, A880, H⟩ := H
    replace H : (some (zx, zy, zz, jP)) = some (r1, r2, r3, r4) := H
    have A88 := Aside0.mk A880
    clear A880
    simp only [Option.some.injEq, Prod.mk.injEq] at H
    obtain ⟨rfl, rfl, rfl, rfl⟩ := H
    have Yo := qg.out
    have Yp := qh.out
    have Yq := qe.out
    have Yr := qf.out
    obtain ⟨Jw, Jx, Jy, Jz, JA, JB⟩ := b3_ qa
    have Ys := qj.out
    have Yt := qk.out
    obtain ⟨JC, JD, JE, JF, JG, JH⟩ := b3_ qb
    obtain ⟨J8, J9, eo94⟩ := Kd.R_slice qd.out
    subst eo94
    go_wp2_with (first | ((with_reducible refine gate_callee (f := 105) rfl ?_); refine gL_ (some 93) Try.func105 #[.slice J8 qm.length J9, .int .i64 (wrap64 ((wrap64 (a1 * a0_1)) + (wrap64 (a3 * a2_1)))), .bool (decide (a3 > 0))] ?_; (with_reducible refine (spec_l2Atom.calls k2 _ _ qm (wrap64 ((wrap64 (a1 * a0_1)) + (wrap64 (a3 * a2_1)))) (decide (a3 > 0)) zx zy zz jP _ ?side1 ?side2 A88.out).mono ?_); (case side1 => exact cr_ qd); (case side2 => exact (Kd.R_reads' qd.out).2.1); rintro e Y3 ⟨YL, rfl, ho0, hb⟩; refine ⟨_, rfl, ?_⟩; have qI := Aside0.mk (Kd.R_lower (Kd.R_new' ho0 (Kd.R_lt (rm_ qd))) (bz_ HB)); replace qd := Aside0.mk (Kd.R_elder' (rm_ qd) (Kd.R_base ho0) hb); replace qa := kB_ qa hb; replace qb := kB_ qb hb; replace qc := kB_ qc hb; replace HB := bS_ HB hb; clear hb ho0) | ((with_reducible refine gate_dst (N := 12) rfl ?_); (try (refine gate_guard (by rfl) ?_; dsimp only)); refine bx_ (cs := #[.slice none 0 0, .int .i64 0, .bool false]) (t := 52) ?_; intro zA hg Y4 hbox hb; replace qd := rB_ qd hb; replace qI := rB_ qI hb; have zK := Aside0.mk (hbox); have Yu := hz_ HB hg; have Yv := hz_ HB hg; replace HB := bS_ HB hb; have q2 := nL_ qa hg; have q3 := nG_ qa hg; replace qa := kB_ qa hb; have q4 := nL_ qb hg; have q5 := nG_ qb hg; replace qb := kB_ qb hb; have q6 := nL_ qc hg; have q7 := nG_ qc hg; replace qc := kB_ qc hb; clear hb hbox hg; obtain ⟨zO, zP, eo97⟩ := Kd.R_slice qI.out; subst eo97; have Yw := q3.out; have Yx := q2.out; have Yy := q5.out; have Yz := q4.out; have Xa := q7.out; have Xb := q6.out; obtain ⟨jQ, jR, jS, jT, jU, jV⟩ := b3_ zK; obtain ⟨jW, jX, jY, jZ, j1, j2⟩ := b3_ qc))
    refine bodyPost_ret (results_ct rfl _ _ ql 52 #[.slice zO zx.length zP, .int .i64 zy, .bool zz] (0, 0) _ rfl (kp_ qc) Try.underlying52 rfl (by kernel_rfl)) rfl ?_
    exact ⟨_, rt_ ⟨by (with_reducible repeat (first | apply Kd.R_alloc | apply Kd.R_drewN | apply Kd.R_drew)); exact Kd.R_mono (Kd.R_far (p := ⟨ql, 2, none⟩) (Kd.R_far (p := ⟨ql, 1, none⟩) (Kd.R_far (p := ⟨ql, 0, none⟩) (Kd.R_far (p := ⟨zA, 2, none⟩) (Kd.R_far (p := ⟨zA, 1, none⟩) (Kd.R_far (p := ⟨zA, 0, none⟩) (Kd.R_types (Kd.R_types qI.out zK.out (by decide)) qc.out (by decide)) (fun _ hk => hk.1.2) (.slice zO zx.length zP)) (fun _ hk => hk.1.2) (.int .i64 zy)) (fun _ hk => hk.1.2) (.bool zz)) (fun _ hk => hk.2) (.slice zO zx.length zP)) (fun _ hk => hk.2) (.int .i64 zy)) (fun _ hk => hk.2) (.bool zz)) (fun _ hk => trivial), bb_ HB⟩⟩
   replace c87 := Bool.eq_false_iff.mpr c87
   subst c87
   have H1 : ((spec_l2Atom.f k2 qm (wrap64 ((wrap64 (a1 * a0_1)) + (wrap64 (a3 * a2_1)))) false).bind fun qo => (some (qo.1, qo.2.1, qo.2.2.1, qo.2.2.2))) = some (r1, r2, r3, r4) := by rw [if_neg (show ¬ (false = true) by decide)] at H; exact H
   clear H
   have H := H1
   clear H1
   replace H := be_ H
   obtain ⟨⟨zB, zC, zD, j3⟩, A1030, H⟩ := H
   replace H : (some (zB, zC, zD, j3)) = some (r1, r2, r3, r4) := H
   have A103 := Aside0.mk A1030
   clear A1030
   simp only [Option.some.injEq, Prod.mk.injEq] at H
   obtain ⟨rfl, rfl, rfl, rfl⟩ := H
   have Xc := qg.out
   have Xd := qh.out
   have Xe := qe.out
   have Xf := qf.out
   obtain ⟨j4, j5, j6, j7, j8, j9⟩ := b3_ qa
   have Xg := qj.out
   have Xh := qk.out
   obtain ⟨Qa, Qb, Qc, Qd, Qe, Qf⟩ := b3_ qb
   obtain ⟨Qg, Qh, eo109⟩ := Kd.R_slice qd.out
   subst eo109
   go_wp2_with (first | ((with_reducible refine gate_callee (f := 105) rfl ?_); refine gL_ (some 93) Try.func105 #[.slice Qg qm.length Qh, .int .i64 (wrap64 ((wrap64 (a1 * a0_1)) + (wrap64 (a3 * a2_1)))), .bool false] ?_; (with_reducible refine (spec_l2Atom.calls k2 _ _ qm (wrap64 ((wrap64 (a1 * a0_1)) + (wrap64 (a3 * a2_1)))) false zB zC zD j3 _ ?side1 ?side2 A103.out).mono ?_); (case side1 => exact cr_ qd); (case side2 => exact (Kd.R_reads' qd.out).2.1); rintro e YM ⟨YN, rfl, ho0, hb⟩; refine ⟨_, rfl, ?_⟩; have qJ := Aside0.mk (Kd.R_lower (Kd.R_new' ho0 (Kd.R_lt (rm_ qd))) (bz_ HB)); replace qd := Aside0.mk (Kd.R_elder' (rm_ qd) (Kd.R_base ho0) hb); replace qa := kB_ qa hb; replace qb := kB_ qb hb; replace qc := kB_ qc hb; replace HB := bS_ HB hb; clear hb ho0) | ((with_reducible refine gate_dst (N := 12) rfl ?_); (try (refine gate_guard (by rfl) ?_; dsimp only)); refine bx_ (cs := #[.slice none 0 0, .int .i64 0, .bool false]) (t := 52) ?_; intro zE hg YO hbox hb; replace qd := rB_ qd hb; replace qJ := rB_ qJ hb; have zL := Aside0.mk (hbox); have YA := hz_ HB hg; have YB := hz_ HB hg; replace HB := bS_ HB hb; have q8 := nL_ qa hg; have q9 := nG_ qa hg; replace qa := kB_ qa hb; have za := nL_ qb hg; have zb := nG_ qb hg; replace qb := kB_ qb hb; have zc := nL_ qc hg; have zd := nG_ qc hg; replace qc := kB_ qc hb; clear hb hbox hg; obtain ⟨zF, zG, eo112⟩ := Kd.R_slice qJ.out; subst eo112; have Xi := q9.out; have Xj := q8.out; have Xk := zb.out; have Xl := za.out; have Xm := zd.out; have Xn := zc.out; obtain ⟨Qi, Qj, Qk, Ql, Qm, Qn⟩ := b3_ zL; obtain ⟨Qo, Qp, Qq, Qr, Qs, Qt⟩ := b3_ qc))
   refine bodyPost_ret (results_ct rfl _ _ ql 52 #[.slice zF zB.length zG, .int .i64 zC, .bool zD] (0, 0) _ rfl (kp_ qc) Try.underlying52 rfl (by kernel_rfl)) rfl ?_
   exact ⟨_, rt_ ⟨by (with_reducible repeat (first | apply Kd.R_alloc | apply Kd.R_drewN | apply Kd.R_drew)); exact Kd.R_mono (Kd.R_far (p := ⟨ql, 2, none⟩) (Kd.R_far (p := ⟨ql, 1, none⟩) (Kd.R_far (p := ⟨ql, 0, none⟩) (Kd.R_far (p := ⟨zE, 2, none⟩) (Kd.R_far (p := ⟨zE, 1, none⟩) (Kd.R_far (p := ⟨zE, 0, none⟩) (Kd.R_types (Kd.R_types qJ.out zL.out (by decide)) qc.out (by decide)) (fun _ hk => hk.1.2) (.slice zF zB.length zG)) (fun _ hk => hk.1.2) (.int .i64 zC)) (fun _ hk => hk.1.2) (.bool zD)) (fun _ hk => hk.2) (.slice zF zB.length zG)) (fun _ hk => hk.2) (.int .i64 zC)) (fun _ hk => hk.2) (.bool zD)) (fun _ hk => trivial), bb_ HB⟩⟩

end Go.Proofs.Ytkicjflhokckgaa.PFnExactIsEmptyCell
