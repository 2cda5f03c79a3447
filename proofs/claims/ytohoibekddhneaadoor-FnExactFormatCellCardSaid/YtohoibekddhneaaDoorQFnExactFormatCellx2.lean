/- The functions that the law FnExactFormatCell reaches, each as a Lean function with the same answers, and the proof that the call comes to exactly these: turned by program out of the printed texts. No condition but those that each theorem names. -/
import Derived.Test.YtohoibekddhneaaDoorQFnExactFormatCellx0
import Derived.Test.YtohoibekddhneaaDoorQFnExactFormatCellx1
namespace Go.Proofs.YtohoibekddhneaaDoor.PFnExactFormatCell
open Go.RowKit Go.Proofs.YtohoibekddhneaaDoorW.PrintWords Go.Proofs.YtohoibekddhneaaDoorW.PrintLast Go.Proofs.YtohoibekddhneaaDoorW.PrintMore
attribute [local go_sem] max2_int min2_int max_two min_two max_three min_three max_four min_four   -- for this text's walks alone
set_option linter.unusedVariables false
set_option linter.unusedSimpArgs false

/-! ### impl_IsCell: function 66 -/
mutual
def impl_IsCell.j0 : Nat → Bool → Int → List (S27) → Option (Bool)
 | 0, _, _, _ => none
 | k + 1, x18, x193000, x193001 => if x18 = true then (some false) else (impl_IsCell.l0 k x193001 (x193001.length : Int) 0 x193000 x193001)
def impl_IsCell.l0 : Nat → List (S27) → Int → Int → Int → List (S27) → Option (Bool)
 | 0, _, _, _, _, _ => none
 | k + 1, x20, x21, x22, x193000, x193001 => if x22 < x21 then (if 0 ≤ x22 then (if x22 < (x20.length : Int) then ((impl_IsAtom.f k ((rd_T27 x20 x22).f0) ((rd_T27 x20 x22).f1) ((rd_T27 x20 x22).f2)).bind fun qD => (if qD = true then (if (((rd_T27 x20 x22).f0).length : Int) = x193000 then (impl_IsCell.l0 k x20 x21 (wrap64 (x22 + 1)) x193000 x193001) else (some false)) else (some false))) else (none)) else (none)) else (some true)
end
def impl_IsCell.f (k : Nat) (a0_0 : Int) (l0_1 : List (S27)) : Option (Bool) := if a0_0 < 0 then (impl_IsCell.j0 k true a0_0 l0_1) else (if a0_0 > 4 then (impl_IsCell.j0 k true a0_0 l0_1) else (impl_IsCell.j0 k (decide ((l0_1.length : Int) > 16)) a0_0 l0_1))
theorem impl_IsCell.mono_l : ∀ k, (∀ y0 y1 y2, LeO (impl_IsCell.j0 k y0 y1 y2) (impl_IsCell.j0 (k + 1) y0 y1 y2)) ∧ (∀ y0 y1 y2 y3 y4, LeO (impl_IsCell.l0 k y0 y1 y2 y3 y4) (impl_IsCell.l0 (k + 1) y0 y1 y2 y3 y4))
 | 0 => ⟨fun _ _ _ r h => by simp [impl_IsCell.j0] at h, fun _ _ _ _ _ r h => by simp [impl_IsCell.l0] at h⟩
 | k + 1 => by
  obtain ⟨ih0, ih1⟩ := impl_IsCell.mono_l k
  refine ⟨?_, ?_⟩
  ·
   intro y0 y1 y2
   unfold impl_IsCell.j0
   repeat' first
   | (with_reducible exact ih0 _ _ _)
   | (with_reducible exact ih1 _ _ _ _ _)
   | (with_reducible exact impl_IsAtom.mono _ _ _ _)
   | (with_reducible exact LeO.refl _)
   | (with_reducible exact LeO.none _)
   | (with_reducible refine LeO.ite ?_ ?_)
   | (with_reducible refine LeO.bind ?_ (fun _ => ?_))
   | exact ih0 _ _ _
   | exact ih1 _ _ _ _ _
   | exact impl_IsAtom.mono _ _ _ _
   | exact LeO.none _
   | refine LeO.ite ?_ ?_
   | refine LeO.bind ?_ (fun _ => ?_)
  ·
   intro y0 y1 y2 y3 y4
   unfold impl_IsCell.l0
   repeat' first
   | (with_reducible exact ih0 _ _ _)
   | (with_reducible exact ih1 _ _ _ _ _)
   | (with_reducible exact impl_IsAtom.mono _ _ _ _)
   | (with_reducible exact LeO.refl _)
   | (with_reducible exact LeO.none _)
   | (with_reducible refine LeO.ite ?_ ?_)
   | (with_reducible refine LeO.bind ?_ (fun _ => ?_))
   | exact ih0 _ _ _
   | exact ih1 _ _ _ _ _
   | exact impl_IsAtom.mono _ _ _ _
   | exact LeO.none _
   | refine LeO.ite ?_ ?_
   | refine LeO.bind ?_ (fun _ => ?_)
theorem impl_IsCell.mono : ∀ a0 a1 k, LeO (impl_IsCell.f k a0 a1) (impl_IsCell.f (k + 1) a0 a1) := by
 intro a0 a1 k
 obtain ⟨ih0, ih1⟩ := impl_IsCell.mono_l k
 unfold impl_IsCell.f
 repeat' first
   | (with_reducible exact ih0 _ _ _)
   | (with_reducible exact ih1 _ _ _ _ _)
   | (with_reducible exact impl_IsAtom.mono _ _ _ _)
   | (with_reducible exact LeO.refl _)
   | (with_reducible exact LeO.none _)
   | (with_reducible refine LeO.ite ?_ ?_)
   | (with_reducible refine LeO.bind ?_ (fun _ => ?_))
   | exact ih0 _ _ _
   | exact ih1 _ _ _ _ _
   | exact impl_IsAtom.mono _ _ _ _
   | exact LeO.none _
   | refine LeO.ite ?_ ?_
   | refine LeO.bind ?_ (fun _ => ?_)
set_option maxHeartbeats 8000000 in
set_option maxRecDepth 100000 in
theorem impl_IsCell.calls (k : Nat) (a0_0 : Int) (A0_1 : Option Addr) (c0_1 : Nat) (l0_1 : List (S27)) (r : Bool) (w : World) (hr0_1 : Kd.C k27 w A0_1 l0_1.length l0_1) (hc0_1 : l0_1.length ≤ c0_1) (h : impl_IsCell.f k a0_0 l0_1 = some r) :
  Calls Tryd.prog 66 #[.agg #[.int .i64 a0_0, .slice A0_1 l0_1.length c0_1]] w fun e w' => e = .returned (.bool r) ∧ Below w.heap.size w w' := by
 have hu41 := Tryd.underlying41
 have hu27 := Tryd.underlying27
 have qq := Aside0.mk hr0_1
 have zv := Aside0.mk hc0_1
 clear hr0_1 hc0_1
 have HB := Aside0.mk (Below.refl w.heap.size w)
 have H : (if a0_0 < 0 then (impl_IsCell.j0 k true a0_0 l0_1) else (if a0_0 > 4 then (impl_IsCell.j0 k true a0_0 l0_1) else (impl_IsCell.j0 k (decide ((l0_1.length : Int) > 16)) a0_0 l0_1))) = some r := h
 clear h
 have HC2 := Aside0.mk H
 clear H
 go_enter Tryd.func66, Tryd.ntmps66
 go_upto_region 1 with (first | ((with_reducible refine gate_dst (N := 1) rfl ?_); (try (refine gate_guard (by rfl) ?_; dsimp only)); refine box_event ?hg (N := 1) ?hd (cs := #[.int .i64 a0_0, .slice A0_1 l0_1.length c0_1]) (t := 41) ?hr ?_; (case hd => rfl); (case hg => rfl); (case hr => first | (go_simp; done) | (go_simp; rfl)); intro qe hg w3 hbox hb; have qb := Aside0.mk (hbox); have zw := Aside0.mk ((by rw [hg]; exact (bz_ HB) : w.heap.size ≤ qe)); have zx := Aside0.mk ((by rw [hg]; exact (bz_ HB) : w.heap.size ≤ qe)); replace HB := bS_ HB hb; clear hb hbox hg))
 (try simp only [Act.put, List.setIfInBounds_toArray, List.set_cons_zero, List.set_cons_succ])
 go_cut [18] (fun v18 wc => ∃ (kq : Nat) (qp : Bool), v18 = .bool qp ∧ Aside0 (impl_IsCell.j0 kq qp a0_0 l0_1 = some r) ∧ Aside0 (kq ≤ k) ∧ Aside0 (wc.heap[qe]? = some (.cells #[.int .i64 a0_0, (.slice A0_1 l0_1.length c0_1)] 41 (0, 0))) ∧ Aside0 (Below w.heap.size w wc))
 case first =>
  have H := HC2.out
  clear HC2
  by_cases c4 : a0_0 < 0
  ·
   rw [if_pos c4] at H
   have qo : decide (a0_0 < 0) = true := decide_eq_true c4
   clear c4
   (first | rw [qo] | (simp only [i64_w, i32_w]; rw [qo]) | skip)
   have H' := Aside0.mk H
   clear H
   have qr : w3.cell? ⟨qe, 0, none⟩ = some (.int .i64 a0_0) := bc_ qb 0
   have qs : w3.cell? ⟨qe, 1, none⟩ = some (.slice A0_1 l0_1.length c0_1) := bc_ qb 1
   have qt := blk_frozen qb.out 0
   have qu := blk_frozen qb.out 1
   go_wp2
   go_meet
   case rel => exact ⟨_, (true), (by first | rfl | (simp; done) | (simp [*]; done)), H', ⟨by first | omega | exact Nat.le_refl _⟩, ⟨kf_ qb⟩, ⟨bb_ HB⟩⟩
  ·
   rw [if_neg c4] at H
   have qo : decide (a0_0 < 0) = false := decide_eq_false c4
   clear c4
   (first | rw [qo] | (simp only [i64_w, i32_w]; rw [qo]) | skip)
   by_cases c6 : a0_0 > 4
   ·
    rw [if_pos c6] at H
    have qK : decide (4 < a0_0) = true := decide_eq_true c6
    clear c6
    have H' := Aside0.mk H
    clear H
    have qv : w3.cell? ⟨qe, 0, none⟩ = some (.int .i64 a0_0) := bc_ qb 0
    have qw : w3.cell? ⟨qe, 1, none⟩ = some (.slice A0_1 l0_1.length c0_1) := bc_ qb 1
    have qx := blk_frozen qb.out 0
    have qy := blk_frozen qb.out 1
    go_wp2
    go_meet
    case rel => exact ⟨_, (true), (by first | rfl | (simp; done) | (simp [*]; done)), H', ⟨by first | omega | exact Nat.le_refl _⟩, ⟨kf_ qb⟩, ⟨bb_ HB⟩⟩
   ·
    rw [if_neg c6] at H
    have qK : decide (4 < a0_0) = false := decide_eq_false c6
    clear c6
    have H' := Aside0.mk H
    clear H
    have qz : w3.cell? ⟨qe, 0, none⟩ = some (.int .i64 a0_0) := bc_ qb 0
    have qA : w3.cell? ⟨qe, 1, none⟩ = some (.slice A0_1 l0_1.length c0_1) := bc_ qb 1
    have qB := blk_frozen qb.out 0
    have qC := blk_frozen qb.out 1
    go_wp2
    go_meet
    case rel => exact ⟨_, (decide ((l0_1.length : Int) > 16)), (by first | rfl | (simp; done) | (simp [*]; done)), H', ⟨by first | omega | exact Nat.le_refl _⟩, ⟨kf_ qb⟩, ⟨bb_ HB⟩⟩
 case rest =>
  clear HC2
  try clear p2
  try clear c4
  try clear qo
  try clear c6
  try clear qK
  try clear qr
  try clear qs
  try clear qv
  try clear qw
  try clear qz
  try clear qA
  try clear qt
  try clear qu
  try clear qx
  try clear qy
  try clear qB
  try clear qC
  obtain ⟨kq, qp, rfl, HA, HJ1, qb, HB⟩ := hcut
  cases kq with
  | zero => exact absurd HA.out (by simp [impl_IsCell.j0])
  | succ kj1 =>
   have H := HA.out
   clear HA
   simp only [impl_IsCell.j0] at H
   by_cases c9 : qp = true
   ·
    subst c9
    have H1 : (some false) = some r := by rw [if_pos rfl] at H; exact H
    clear H
    have H := H1
    clear H1
    obtain rfl := Option.some.inj H
    go_wp2
    go_ret
    exact ⟨by first | rfl | (simp [errW_none, errW_some] <;> rfl) | (simp [*, errW_none, errW_some] <;> rfl), bb_ HB⟩
   ·
    replace c9 := Bool.eq_false_iff.mpr c9
    subst c9
    have H1 : (impl_IsCell.l0 kj1 l0_1 (l0_1.length : Int) 0 a0_0 l0_1) = some r := by rw [if_neg (show ¬ (false = true) by decide)] at H; exact H
    clear H
    have H := H1
    clear H1
    have H' := Aside0.mk H
    clear H
    have qE : wc.cell? ⟨qe, 0, none⟩ = some (.int .i64 a0_0) := bc_ qb 0
    have qF : wc.cell? ⟨qe, 1, none⟩ = some (.slice A0_1 l0_1.length c0_1) := bc_ qb 1
    have qG := blk_frozen qb.out 0
    have qH := blk_frozen qb.out 1
    go_wp2
    go_loopg [22] kj1 (fun kq v22 w' => ∃ (qa : Int), v22 = .int .i64 qa ∧ Aside0 (impl_IsCell.l0 kq l0_1 (l0_1.length : Int) qa a0_0 l0_1 = some r) ∧ Aside0 (kq ≤ kj1) ∧ Aside0 (w'.heap[qe]? = some (.cells #[.int .i64 a0_0, (.slice A0_1 l0_1.length c0_1)] 41 (0, 0))) ∧ Aside0 (Below w.heap.size w w'))
    case atStart => exact ⟨(0), (by first | rfl | (simp; done) | (simp [*]; done)), H', ⟨Nat.le_refl _⟩, ⟨kf_ qb⟩, ⟨bb_ HB⟩⟩
    case round =>
     clear H'
     try clear p2
     try clear c4
     try clear qo
     try clear c6
     try clear qK
     try clear c9
     try clear qE
     try clear qF
     try clear qr
     try clear qs
     try clear qv
     try clear qw
     try clear qz
     try clear qA
     try clear qG
     try clear qH
     try clear qt
     try clear qu
     try clear qx
     try clear qy
     try clear qB
     try clear qC
     try clear p2
     obtain ⟨qa, rfl, HA, HK2, qb, HB⟩ := hrel
     cases gk with
     | zero => exact absurd HA.out (by simp [impl_IsCell.l0])
     | succ k2 =>
      have H := HA.out
      clear HA
      simp only [impl_IsCell.l0] at H
      by_cases c11 : qa < (l0_1.length : Int)
      ·
       rw [if_pos c11] at H
       have qL : decide (qa < (l0_1.length : Int)) = true := decide_eq_true c11
       clear c11
       by_cases c12 : 0 ≤ qa
       ·
        rw [if_pos c12] at H
        have zy : decide (0 ≤ qa) = true := decide_eq_true c12
        clear c12
        by_cases c13 : qa < (l0_1.length : Int)
        ·
         rw [if_pos c13] at H
         have zz : decide (qa < (l0_1.length : Int)) = true := decide_eq_true c13
         clear c13
         replace H := Option.bind_eq_some_iff.mp H
         obtain ⟨qD, A140, H⟩ := H
         replace H : (if qD = true then (if (((rd_T27 l0_1 qa).f0).length : Int) = a0_0 then (impl_IsCell.l0 k2 l0_1 (l0_1.length : Int) (wrap64 (qa + 1)) a0_0 l0_1) else (some false)) else (some false)) = some r := H
         have A14 := Aside0.mk A140
         clear A140
         by_cases c15 : qD = true
         ·
          subst c15
          have H1 : (if (((rd_T27 l0_1 qa).f0).length : Int) = a0_0 then (impl_IsCell.l0 k2 l0_1 (l0_1.length : Int) (wrap64 (qa + 1)) a0_0 l0_1) else (some false)) = some r := by rw [if_pos rfl] at H; exact H
          clear H
          have H := H1
          clear H1
          by_cases c16 : (((rd_T27 l0_1 qa).f0).length : Int) = a0_0
          ·
           rw [if_pos c16] at H
           have qM : ((((rd_T27 l0_1 qa).f0).length : Int) == a0_0) = true := beq_iff_eq.mpr c16
           have qN : ((((rd_T27 l0_1 qa).f0).length : Int) != a0_0) = false := bne_eq_false_iff_eq.mpr c16
           clear c16
           have H' := Aside0.mk H
           clear H
           have p193 : 0 ≤ (qa : Int) := of_decide_eq_true (by first | (with_reducible assumption) | assumption)
           have q193 : qa < (l0_1.length : Int) := of_decide_eq_true (by first | (with_reducible assumption) | assumption)
           obtain ⟨qn, qf, c193_0, e193, qg, qh, qi, hl193_0, hi193_0⟩ := at_T27 qq.out qa p193 q193
           cases e193
           replace qg := (HB.out.cell (World.block_lt_of_cell? w _ qg)).trans qg
           replace qh := (HB.out.cell (World.block_lt_of_cell? w _ qh)).trans qh
           replace qi := (HB.out.cell (World.block_lt_of_cell? w _ qi)).trans qi
           have ql := Aside0.mk hi193_0
           have qm := Aside0.mk hl193_0
           clear hi193_0 hl193_0
           replace p193 := eq_true p193
           replace q193 := eq_true q193
           go_wp2_with (first | ((with_reducible refine gate_dst (N := 4) rfl ?_); (try (refine gate_guard (by rfl) ?_; dsimp only)); refine box_event ?hg (N := 4) ?hd (cs := #[.slice none 0 0, .int .i64 0, .bool false]) (t := 27) ?hr ?_; (case hd => rfl); (case hg => rfl); (case hr => first | (go_simp; done) | (go_simp; rfl)); intro qd hg zs hbox hb; have qc := Aside0.mk (hbox); have qI := Aside0.mk ((by rw [hg]; exact (bz_ HB) : w.heap.size ≤ qd)); have qJ := Aside0.mk ((by rw [hg]; exact (bz_ HB) : w.heap.size ≤ qd)); replace HB := bS_ HB hb; have qj := Aside0.mk ((nl_ qb hg : qe ≠ qd)); have qk := Aside0.mk ((ng_ qb hg : qd ≠ qe)); replace qb := kB_ qb hb; clear hb hbox hg; have zA := qk.out; have zB := qj.out; have qQ : zs.cell? ⟨qd, 0, none⟩ = some (.slice none 0 0) := bc_ qc 0; have qR : zs.cell? ⟨qd, 1, none⟩ = some (.int .i64 0) := bc_ qc 1; have qS : zs.cell? ⟨qd, 2, none⟩ = some (.bool false) := bc_ qc 2; have qT := blk_frozen qc.out 0; have qU := blk_frozen qc.out 1; have qV := blk_frozen qc.out 2) | ((with_reducible refine gate_callee (f := 52) rfl ?_); refine goesL_ (some 27) rfl rfl Tryd.func52 (by kernel_rfl) rfl #[.agg #[.slice qf ((rd_T27 l0_1 qa).f0).length c193_0, .int .i64 ((rd_T27 l0_1 qa).f1), .bool ((rd_T27 l0_1 qa).f2)]] rfl (by (try simp only [List.map_toArray, List.map_cons, List.map_nil]); first | done | rfl | (simp only [List.length_drop, List.length_take]; rfl)) ?_; (with_reducible refine (impl_IsAtom.calls k2 _ _ ((rd_T27 l0_1 qa).f0) ((rd_T27 l0_1 qa).f1) ((rd_T27 l0_1 qa).f2) true _ ?side1 ?side2 A14.out).mono ?_); (case side1 => exact Kd.C_below ql.out (bb_ HB)); (case side2 => exact qm.out); rintro e qO ⟨rfl, hb⟩; refine ⟨_, rfl, ?_⟩; replace qb := Aside0.mk (blk_below (g := qe) (o := .cells #[.int .i64 a0_0, .slice (some qn) l0_1.length c0_1] 41 (0, 0)) (kf_ qb) hb); replace qc := Aside0.mk (blk_below (g := qd) (o := .cells #[.slice qf ((rd_T27 l0_1 qa).f0).length c193_0, .int .i64 ((rd_T27 l0_1 qa).f1), .bool ((rd_T27 l0_1 qa).f2)] 27 (0, 0)) (by (with_reducible repeat (first | refine blk_drewN ?_ _ | refine blk_drew ?_ | refine blk_alloc ?_ _)); refine blk_put (cs := #[.slice qf ((rd_T27 l0_1 qa).f0).length c193_0, .int .i64 ((rd_T27 l0_1 qa).f1), .bool false]) ?_ 2 _ rfl; (with_reducible repeat (first | refine blk_drewN ?_ _ | refine blk_drew ?_ | refine blk_alloc ?_ _)); refine blk_put (cs := #[.slice qf ((rd_T27 l0_1 qa).f0).length c193_0, .int .i64 0, .bool false]) ?_ 1 _ rfl; (with_reducible repeat (first | refine blk_drewN ?_ _ | refine blk_drew ?_ | refine blk_alloc ?_ _)); refine blk_put (cs := #[.slice none 0 0, .int .i64 0, .bool false]) ?_ 0 _ rfl; (with_reducible repeat (first | refine blk_drewN ?_ _ | refine blk_drew ?_ | refine blk_alloc ?_ _)); exact qc.out) hb); replace HB := bS_ HB hb; (try clear hb); (try clear hb2); (try clear hk); (try clear hi); have qW : qO.cell? ⟨qd, 0, none⟩ = some (.slice qf ((rd_T27 l0_1 qa).f0).length c193_0) := bc_ qc 0; have qX : qO.cell? ⟨qd, 1, none⟩ = some (.int .i64 ((rd_T27 l0_1 qa).f1)) := bc_ qc 1; have qY : qO.cell? ⟨qd, 2, none⟩ = some (.bool ((rd_T27 l0_1 qa).f2)) := bc_ qc 2; have qZ := blk_frozen qc.out 0; have q0 := blk_frozen qc.out 1; have q1 := blk_frozen qc.out 2; have q2 : qO.cell? ⟨qe, 0, none⟩ = some (.int .i64 a0_0) := bc_ qb 0; have q3 : qO.cell? ⟨qe, 1, none⟩ = some (.slice (some qn) l0_1.length c0_1) := bc_ qb 1; have q4 := blk_frozen qb.out 0; have q5 := blk_frozen qb.out 1))
           go_roundg k2
           case measure => have := HJ1.out; have := HK2.out; omega
           case rel => exact ⟨(wrap64 (qa + 1)), (by first | rfl | (simp; done) | (simp [*]; done)), H', ⟨by have := HJ1.out; have := HK2.out; omega⟩, ⟨kf_ qb⟩, ⟨bb_ HB⟩⟩
          ·
           rw [if_neg c16] at H
           have qM : ((((rd_T27 l0_1 qa).f0).length : Int) == a0_0) = false := beq_eq_false_iff_ne.mpr c16
           have qN : ((((rd_T27 l0_1 qa).f0).length : Int) != a0_0) = true := bne_iff_ne.mpr c16
           obtain rfl := Option.some.inj H
           have p193 : 0 ≤ (qa : Int) := of_decide_eq_true (by first | (with_reducible assumption) | assumption)
           have q193 : qa < (l0_1.length : Int) := of_decide_eq_true (by first | (with_reducible assumption) | assumption)
           obtain ⟨qn, qf, c193_0, e193, qg, qh, qi, hl193_0, hi193_0⟩ := at_T27 qq.out qa p193 q193
           cases e193
           replace qg := (HB.out.cell (World.block_lt_of_cell? w _ qg)).trans qg
           replace qh := (HB.out.cell (World.block_lt_of_cell? w _ qh)).trans qh
           replace qi := (HB.out.cell (World.block_lt_of_cell? w _ qi)).trans qi
           have ql := Aside0.mk hi193_0
           have qm := Aside0.mk hl193_0
           clear hi193_0 hl193_0
           replace p193 := eq_true p193
           replace q193 := eq_true q193
           go_wp2_with (first | ((with_reducible refine gate_dst (N := 4) rfl ?_); (try (refine gate_guard (by rfl) ?_; dsimp only)); refine box_event ?hg (N := 4) ?hd (cs := #[.slice none 0 0, .int .i64 0, .bool false]) (t := 27) ?hr ?_; (case hd => rfl); (case hg => rfl); (case hr => first | (go_simp; done) | (go_simp; rfl)); intro qd hg zt hbox hb; have qc := Aside0.mk (hbox); have qI := Aside0.mk ((by rw [hg]; exact (bz_ HB) : w.heap.size ≤ qd)); have qJ := Aside0.mk ((by rw [hg]; exact (bz_ HB) : w.heap.size ≤ qd)); replace HB := bS_ HB hb; have qj := Aside0.mk ((nl_ qb hg : qe ≠ qd)); have qk := Aside0.mk ((ng_ qb hg : qd ≠ qe)); replace qb := kB_ qb hb; clear hb hbox hg; have zC := qk.out; have zD := qj.out; have q6 : zt.cell? ⟨qd, 0, none⟩ = some (.slice none 0 0) := bc_ qc 0; have q7 : zt.cell? ⟨qd, 1, none⟩ = some (.int .i64 0) := bc_ qc 1; have q8 : zt.cell? ⟨qd, 2, none⟩ = some (.bool false) := bc_ qc 2; have q9 := blk_frozen qc.out 0; have za := blk_frozen qc.out 1; have zb := blk_frozen qc.out 2) | ((with_reducible refine gate_callee (f := 52) rfl ?_); refine goesL_ (some 27) rfl rfl Tryd.func52 (by kernel_rfl) rfl #[.agg #[.slice qf ((rd_T27 l0_1 qa).f0).length c193_0, .int .i64 ((rd_T27 l0_1 qa).f1), .bool ((rd_T27 l0_1 qa).f2)]] rfl (by (try simp only [List.map_toArray, List.map_cons, List.map_nil]); first | done | rfl | (simp only [List.length_drop, List.length_take]; rfl)) ?_; (with_reducible refine (impl_IsAtom.calls k2 _ _ ((rd_T27 l0_1 qa).f0) ((rd_T27 l0_1 qa).f1) ((rd_T27 l0_1 qa).f2) true _ ?side1 ?side2 A14.out).mono ?_); (case side1 => exact Kd.C_below ql.out (bb_ HB)); (case side2 => exact qm.out); rintro e qP ⟨rfl, hb⟩; refine ⟨_, rfl, ?_⟩; replace qb := Aside0.mk (blk_below (g := qe) (o := .cells #[.int .i64 a0_0, .slice (some qn) l0_1.length c0_1] 41 (0, 0)) (kf_ qb) hb); replace qc := Aside0.mk (blk_below (g := qd) (o := .cells #[.slice qf ((rd_T27 l0_1 qa).f0).length c193_0, .int .i64 ((rd_T27 l0_1 qa).f1), .bool ((rd_T27 l0_1 qa).f2)] 27 (0, 0)) (by (with_reducible repeat (first | refine blk_drewN ?_ _ | refine blk_drew ?_ | refine blk_alloc ?_ _)); refine blk_put (cs := #[.slice qf ((rd_T27 l0_1 qa).f0).length c193_0, .int .i64 ((rd_T27 l0_1 qa).f1), .bool false]) ?_ 2 _ rfl; (with_reducible repeat (first | refine blk_drewN ?_ _ | refine blk_drew ?_ | refine blk_alloc ?_ _)); refine blk_put (cs := #[.slice qf ((rd_T27 l0_1 qa).f0).length c193_0, .int .i64 0, .bool false]) ?_ 1 _ rfl; (with_reducible repeat (first | refine blk_drewN ?_ _ | refine blk_drew ?_ | refine blk_alloc ?_ _)); refine blk_put (cs := #[.slice none 0 0, .int .i64 0, .bool false]) ?_ 0 _ rfl; (with_reducible repeat (first | refine blk_drewN ?_ _ | refine blk_drew ?_ | refine blk_alloc ?_ _)); exact qc.out) hb); replace HB := bS_ HB hb; (try clear hb); (try clear hb2); (try clear hk); (try clear hi); have zc : qP.cell? ⟨qd, 0, none⟩ = some (.slice qf ((rd_T27 l0_1 qa).f0).length c193_0) := bc_ qc 0; have zd : qP.cell? ⟨qd, 1, none⟩ = some (.int .i64 ((rd_T27 l0_1 qa).f1)) := bc_ qc 1; have ze : qP.cell? ⟨qd, 2, none⟩ = some (.bool ((rd_T27 l0_1 qa).f2)) := bc_ qc 2; have zf := blk_frozen qc.out 0; have zg := blk_frozen qc.out 1; have zh := blk_frozen qc.out 2; have zi : qP.cell? ⟨qe, 0, none⟩ = some (.int .i64 a0_0) := bc_ qb 0; have zj : qP.cell? ⟨qe, 1, none⟩ = some (.slice (some qn) l0_1.length c0_1) := bc_ qb 1; have zk := blk_frozen qb.out 0; have zl := blk_frozen qb.out 1))
           go_ret
           exact ⟨by first | rfl | (simp [errW_none, errW_some] <;> rfl) | (simp [*, errW_none, errW_some] <;> rfl), bb_ HB⟩
         ·
          replace c15 := Bool.eq_false_iff.mpr c15
          subst c15
          have H1 : (some false) = some r := by rw [if_neg (show ¬ (false = true) by decide)] at H; exact H
          clear H
          have H := H1
          clear H1
          obtain rfl := Option.some.inj H
          have p193 : 0 ≤ (qa : Int) := of_decide_eq_true (by first | (with_reducible assumption) | assumption)
          have q193 : qa < (l0_1.length : Int) := of_decide_eq_true (by first | (with_reducible assumption) | assumption)
          obtain ⟨qn, qf, c193_0, e193, qg, qh, qi, hl193_0, hi193_0⟩ := at_T27 qq.out qa p193 q193
          cases e193
          replace qg := (HB.out.cell (World.block_lt_of_cell? w _ qg)).trans qg
          replace qh := (HB.out.cell (World.block_lt_of_cell? w _ qh)).trans qh
          replace qi := (HB.out.cell (World.block_lt_of_cell? w _ qi)).trans qi
          have ql := Aside0.mk hi193_0
          have qm := Aside0.mk hl193_0
          clear hi193_0 hl193_0
          replace p193 := eq_true p193
          replace q193 := eq_true q193
          go_wp2_with (first | ((with_reducible refine gate_dst (N := 4) rfl ?_); (try (refine gate_guard (by rfl) ?_; dsimp only)); refine box_event ?hg (N := 4) ?hd (cs := #[.slice none 0 0, .int .i64 0, .bool false]) (t := 27) ?hr ?_; (case hd => rfl); (case hg => rfl); (case hr => first | (go_simp; done) | (go_simp; rfl)); intro qd hg zu hbox hb; have qc := Aside0.mk (hbox); have qI := Aside0.mk ((by rw [hg]; exact (bz_ HB) : w.heap.size ≤ qd)); have qJ := Aside0.mk ((by rw [hg]; exact (bz_ HB) : w.heap.size ≤ qd)); replace HB := bS_ HB hb; have qj := Aside0.mk ((nl_ qb hg : qe ≠ qd)); have qk := Aside0.mk ((ng_ qb hg : qd ≠ qe)); replace qb := kB_ qb hb; clear hb hbox hg; have zE := qk.out; have zF := qj.out; have zm : zu.cell? ⟨qd, 0, none⟩ = some (.slice none 0 0) := bc_ qc 0; have zn : zu.cell? ⟨qd, 1, none⟩ = some (.int .i64 0) := bc_ qc 1; have zo : zu.cell? ⟨qd, 2, none⟩ = some (.bool false) := bc_ qc 2; have zp := blk_frozen qc.out 0; have zq := blk_frozen qc.out 1; have zr := blk_frozen qc.out 2) | ((with_reducible refine gate_callee (f := 52) rfl ?_); refine goesL_ (some 27) rfl rfl Tryd.func52 (by kernel_rfl) rfl #[.agg #[.slice qf ((rd_T27 l0_1 qa).f0).length c193_0, .int .i64 ((rd_T27 l0_1 qa).f1), .bool ((rd_T27 l0_1 qa).f2)]] rfl (by (try simp only [List.map_toArray, List.map_cons, List.map_nil]); first | done | rfl | (simp only [List.length_drop, List.length_take]; rfl)) ?_; (with_reducible refine (impl_IsAtom.calls k2 _ _ ((rd_T27 l0_1 qa).f0) ((rd_T27 l0_1 qa).f1) ((rd_T27 l0_1 qa).f2) false _ ?side1 ?side2 A14.out).mono ?_); (case side1 => exact Kd.C_below ql.out (bb_ HB)); (case side2 => exact qm.out); rintro e zG ⟨rfl, hb⟩; refine ⟨_, rfl, ?_⟩; replace qb := Aside0.mk (blk_below (g := qe) (o := .cells #[.int .i64 a0_0, .slice (some qn) l0_1.length c0_1] 41 (0, 0)) (kf_ qb) hb); replace qc := Aside0.mk (blk_below (g := qd) (o := .cells #[.slice qf ((rd_T27 l0_1 qa).f0).length c193_0, .int .i64 ((rd_T27 l0_1 qa).f1), .bool ((rd_T27 l0_1 qa).f2)] 27 (0, 0)) (by (with_reducible repeat (first | refine blk_drewN ?_ _ | refine blk_drew ?_ | refine blk_alloc ?_ _)); refine blk_put (cs := #[.slice qf ((rd_T27 l0_1 qa).f0).length c193_0, .int .i64 ((rd_T27 l0_1 qa).f1), .bool false]) ?_ 2 _ rfl; (with_reducible repeat (first | refine blk_drewN ?_ _ | refine blk_drew ?_ | refine blk_alloc ?_ _)); refine blk_put (cs := #[.slice qf ((rd_T27 l0_1 qa).f0).length c193_0, .int .i64 0, .bool false]) ?_ 1 _ rfl; (with_reducible repeat (first | refine blk_drewN ?_ _ | refine blk_drew ?_ | refine blk_alloc ?_ _)); refine blk_put (cs := #[.slice none 0 0, .int .i64 0, .bool false]) ?_ 0 _ rfl; (with_reducible repeat (first | refine blk_drewN ?_ _ | refine blk_drew ?_ | refine blk_alloc ?_ _)); exact qc.out) hb); replace HB := bS_ HB hb; (try clear hb); (try clear hb2); (try clear hk); (try clear hi)))
          go_ret
          exact ⟨by first | rfl | (simp [errW_none, errW_some] <;> rfl) | (simp [*, errW_none, errW_some] <;> rfl), bb_ HB⟩
        ·
         rw [if_neg c13] at H
         exact absurd H (by simp)
       ·
        rw [if_neg c12] at H
        exact absurd H (by simp)
      ·
       rw [if_neg c11] at H
       have qL : decide (qa < (l0_1.length : Int)) = false := decide_eq_false c11
       clear c11
       obtain rfl := Option.some.inj H
       go_wp2
       go_ret
       exact ⟨by first | rfl | (simp [errW_none, errW_some] <;> rfl) | (simp [*, errW_none, errW_some] <;> rfl), bb_ HB⟩

-- NOT PRINTED: function 53 (strings_Builder_Len)

-- NOT PRINTED: function 111 (abi_NoEscape)

-- NOT PRINTED: function 94 (strings_Builder_copyCheck)

-- NOT PRINTED: function 54 (strings_Builder_WriteByte)

-- NOT PRINTED: function 55 (strings_Builder_WriteString)

-- NOT PRINTED: function 57 (strings_Builder_String)

/-! ### impl_FormatAtom: function 14 -/
set_option maxHeartbeats 4000000 in
set_option maxRecDepth 100000 in
theorem Bld.used (b : Nat) (w : World) (h0 : w.cell? ⟨b, 0, none⟩ = some (.pointer (some ⟨b, 0, none⟩))) :
  Calls Tryd.prog 94 #[.pointer (some ⟨b, 0, none⟩)] w fun e w' => e = .returned (.tuple #[]) ∧ w' = w := by
 obtain ⟨j, hj, _⟩ := Option.map_eq_some_iff.1 (show (Tryd.prog.info? 87).map (·.size) = some 2 by kernel_rfl)
 have u1 := run_underlying Tryd.underlying85
 have u2 := run_underlying Tryd.underlying87
 go_enter Tryd.func94, Tryd.ntmps94
 go_wp2
 rw [Lib.run_neq_ptr_same w _ Tryd.underlying85 hj]
 go_wp2
 go_end0
 exact ⟨rfl, rfl⟩
set_option maxHeartbeats 4000000 in
set_option maxRecDepth 100000 in
theorem Bld.fresh (b : Nat) (w : World) (h0 : w.cell? ⟨b, 0, none⟩ = some (.pointer none)) (hsh : w.shape? b = some (87, 2)) (hfz : w.frozen? ⟨b, 0, none⟩ = false) :
  Calls Tryd.prog 94 #[.pointer (some ⟨b, 0, none⟩)] w fun e w' => e = .returned (.tuple #[]) ∧ w' = w.setCell ⟨b, 0, none⟩ (.pointer (some ⟨b, 0, none⟩)) := by
 obtain ⟨j, hj, hjs⟩ := Option.map_eq_some_iff.1 (show (Tryd.prog.info? 87).map (·.size) = some 2 by kernel_rfl)
 have u1 := run_underlying Tryd.underlying85
 have u2 := run_underlying Tryd.underlying87
 have u3 := run_underlying Tryd.underlying129
 go_enter Tryd.func94, Tryd.ntmps94
 go_wp2
 rw [Lib.run_to_unsafe w ⟨b, 0, none⟩ Tryd.underlying85 Tryd.underlying129 hj (by rw [hjs]; decide) hsh (Nat.zero_lt_succ 1)]
 simp only [Result.andThen]
 rw [Oper.upon_value]
 go_wp2
 rw [run_callFunc_extern Tryd.func111 (by kernel_rfl) (by kernel_rfl) (by kernel_rfl) (e := Extern.AbiNoEscape.same) (by kernel_rfl)]
 rw [Lib.run_noEscape]
 simp only [Result.andThen]
 rw [Oper.upon_value]
 go_wp2
 rw [Lib.run_from_unsafe w ⟨b, 0, none⟩ Tryd.underlying129 Tryd.underlying85 hj hsh (by kernel_rfl)]
 simp only [Result.andThen]
 rw [Oper.upon_value]
 go_wp2
 go_end0
 exact ⟨rfl, rfl⟩
set_option maxHeartbeats 4000000 in
set_option maxRecDepth 100000 in
theorem Bld.check (B b : Nat) (bs : List Value) (w : World) (h : Lib.IsBuilder 87 5 B b bs w) :
  Calls Tryd.prog 94 #[.pointer (some ⟨b, 0, none⟩)] w fun e w' => e = .returned (.tuple #[]) ∧ (Lib.BuilderAt 87 5 B b (.pointer (some ⟨b, 0, none⟩)) bs w' ∧ Below B w w') := by
 cases h with
 | inl h =>
  refine (Bld.fresh b w h.cell0 h.shape h.frozen0).mono ?_
  rintro e w' ⟨rfl, rfl⟩
  exact ⟨rfl, h.used _, (Below.refl B w).setCell (p := ⟨b, 0, none⟩) h.1 _⟩
 | inr h =>
  refine (Bld.used b w h.cell0).mono ?_
  rintro e w' ⟨rfl, rfl⟩
  exact ⟨rfl, h, Below.refl B _⟩
set_option maxHeartbeats 4000000 in
set_option maxRecDepth 100000 in
theorem Bld.here {B b : Nat} {p v : Value} {w : World} (h : w.heap[b]? = some (.cells #[p, v] 87 (0, 0))) : b < w.heap.size := (Array.getElem?_eq_some_iff.1 h).1
set_option maxHeartbeats 4000000 in
set_option maxRecDepth 100000 in
theorem Bld.writeByte (B b : Nat) (bs : List Value) (c : Int) (w : World) (h : Lib.IsBuilder 87 5 B b bs w) (hlen : bs.length + 1 ≤ 140737488355328) (hBw : B ≤ w.heap.size) :
  Calls Tryd.prog 54 #[.pointer (some ⟨b, 0, none⟩), .int .u8 c] w fun e w' => e = .returned .nilIface ∧ (Lib.IsBuilder 87 5 B b (bs ++ [.int .u8 c]) w' ∧ Below B w w') := by
 obtain ⟨i0, hi, hz0, hz1, hz2⟩ := info_parts (show (Tryd.prog.info? 5).map (fun i => (i.zero, i.size, i.bytes)) = some (some (.int .u8 0), 1, 1) by kernel_rfl)
 have u1 := run_underlying Tryd.underlying85
 have u2 := run_underlying Tryd.underlying87
 have u3 := run_underlying Tryd.underlying61
 go_enter Tryd.func54, Tryd.ntmps54
 go_wp2_with (go_at_call 94; refine (Bld.check B b bs _ h).mono ?_)
 rintro e w1 ⟨rfl, ⟨hB, v, hbk, hown, hne⟩, hb1⟩
 have hs1 := hb1.size
 have c0 : w1.cell? ⟨b, 0, none⟩ = some (.pointer (some ⟨b, 0, none⟩)) := by rw [Lib.cell_of_heap hbk]; rfl
 have c1 : w1.cell? ⟨b, 1, none⟩ = some v := by rw [Lib.cell_of_heap hbk]; rfl
 go_wp2_with (at_builtin; refine wpList_append_own _ rfl _ _ 61 rfl B 5 i0 (.int .u8 0) 1 1 Tryd.underlying61 hi hz0 hz1 hz2 rfl (by decide) _ _ _ rfl (hown.alloc _) ⟨w1.heap.size, 0, none⟩ 1 1 [.int .u8 c] rfl rfl ?c1 ?c2 ?c3 ?c4 ?c5 ?_)
 case c1 =>
  intro j u hj
  match j, hj with
  | 0, hj => simp at hj; subst hj; simp [Addr.add]
 case c2 => intro u hu; simp at hu; subst hu; rfl
 case c3 => unfold maxLen; omega
 case c4 => omega
 case c5 => simp; omega
 intro v' w2 hown' hgrow _
 have hlt : b < w1.heap.size := Bld.here (B := B) hbk
 have hb2 : w2.heap[b]? = some (.cells #[.pointer (some ⟨b, 0, none⟩), v] 87 (0, 0)) := by
  rw [hgrow.block b (by simp; omega) (fun e => hne e.symm), Lib.alloc_old w1 _ b hlt]
  exact hbk
 have d0 : w2.cell? ⟨b, 0, none⟩ = some (.pointer (some ⟨b, 0, none⟩)) := by rw [Lib.cell_of_heap hb2]; rfl
 have d1 : w2.cell? ⟨b, 1, none⟩ = some v := by rw [Lib.cell_of_heap hb2]; rfl
 have f1 : w2.frozen? ⟨b, 1, none⟩ = false := Lib.frozen_of_heap hb2 1
 obtain ⟨g, cap, rfl⟩ : ∃ g cap, v' = .slice (some ⟨g, 0, none⟩) (bs.length + 1) cap := by
  rcases hown'.2 with ⟨_, h0⟩ | ⟨g, cap, cur, hv, _⟩
  ·
   omega
  ·
   exact ⟨g, cap, hv⟩
 go_wp2
 go_ret
 refine ⟨rfl, .inr ?_, ?_⟩
 ·
  exact Lib.BuilderAt.put (T := 87) (e := 5) hB hb2 (bs' := bs ++ [.int .u8 c]) (by simpa using hown') (by decide)
 ·
  exact ((hb1.alloc (by omega) _).grown hgrow (by simp; omega) (fun k hk => (hown.lt k hk).1)).setCell (p := ⟨b, 1, none⟩) hB _
set_option maxHeartbeats 4000000 in
set_option maxRecDepth 100000 in
theorem Bld.writeString (B b : Nat) (bs : List Value) (s : ByteArray) (w : World) (h : Lib.IsBuilder 87 5 B b bs w) (hlen : bs.length + s.size ≤ 140737488355328) (hBw : B ≤ w.heap.size) :
  Calls Tryd.prog 55 #[.pointer (some ⟨b, 0, none⟩), .string s] w fun e w' => e = .returned (.tuple #[.int .i64 s.size, .nilIface]) ∧ (Lib.IsBuilder 87 5 B b (bs ++ Lib.strCells s) w' ∧ Below B w w') := by
 obtain ⟨i0, hi, hz0, hz1, hz2⟩ := info_parts (show (Tryd.prog.info? 5).map (fun i => (i.zero, i.size, i.bytes)) = some (some (.int .u8 0), 1, 1) by kernel_rfl)
 have u1 := run_underlying Tryd.underlying85
 have u2 := run_underlying Tryd.underlying87
 have u3 := run_underlying Tryd.underlying61
 go_enter Tryd.func55, Tryd.ntmps55
 go_wp2_with (go_at_call 94; refine (Bld.check B b bs _ h).mono ?_)
 rintro e w1 ⟨rfl, ⟨hB, v, hbk, hown, hne⟩, hb1⟩
 have hs1 := hb1.size
 have c0 : w1.cell? ⟨b, 0, none⟩ = some (.pointer (some ⟨b, 0, none⟩)) := by rw [Lib.cell_of_heap hbk]; rfl
 have c1 : w1.cell? ⟨b, 1, none⟩ = some v := by rw [Lib.cell_of_heap hbk]; rfl
 go_wp2_with (at_builtin; refine Lib.wpList_append_own_string _ rfl _ _ 61 9 rfl B 5 i0 Tryd.underlying61 Tryd.underlying9 hi hz0 hz1 hz2 _ _ _ rfl hown s rfl ?c3 ?c4 ?c5 ?_)
 case c3 => unfold maxLen; omega
 case c4 => omega
 case c5 => omega
 intro v' w2 hown' hgrow _
 have hlt : b < w1.heap.size := Bld.here (B := B) hbk
 have hb2 : w2.heap[b]? = some (.cells #[.pointer (some ⟨b, 0, none⟩), v] 87 (0, 0)) := by
  rw [hgrow.block b hlt (fun e => hne e.symm)]
  exact hbk
 have d0 : w2.cell? ⟨b, 0, none⟩ = some (.pointer (some ⟨b, 0, none⟩)) := by rw [Lib.cell_of_heap hb2]; rfl
 have d1 : w2.cell? ⟨b, 1, none⟩ = some v := by rw [Lib.cell_of_heap hb2]; rfl
 have f1 : w2.frozen? ⟨b, 1, none⟩ = false := Lib.frozen_of_heap hb2 1
 obtain ⟨ao, n', cap, rfl⟩ : ∃ ao n' cap, v' = .slice ao n' cap := by
  rcases hown'.2 with ⟨hv, _⟩ | ⟨g, cap, cur, hv, _⟩
  ·
   exact ⟨_, _, _, hv⟩
  ·
   exact ⟨_, _, _, hv⟩
 go_wp2
 go_ret2
 refine ⟨rfl, .inr ?_, ?_⟩
 ·
  exact Lib.BuilderAt.put (T := 87) (e := 5) hB hb2 (bs' := bs ++ Lib.strCells s) (by simpa [Lib.strCells_length] using hown') (by decide)
 ·
  exact (hb1.grown hgrow (by omega) (fun k hk => (hown.lt k hk).1)).setCell (p := ⟨b, 1, none⟩) hB _
/-- The builder in block b (one of the blocks from B on) holds these bytes. -/
def Bl (B b : Nat) (acc : List UInt8) (w : World) : Prop := Lib.IsBuilder 87 5 B b (Lib.byteCells acc) w
theorem Bl.below {B b : Nat} {acc : List UInt8} {W W' : World} (h : Bl B b acc W) (hb : Below W.heap.size W W') : Bl B b acc W' := by
 have k : ∀ p, Lib.BuilderAt 87 5 B b p (Lib.byteCells acc) W → Lib.BuilderAt 87 5 B b p (Lib.byteCells acc) W' := by
  intro p h
  have hlt := h.lt
  obtain ⟨hB, v, hv, hown, hne⟩ := h
  exact ⟨hB, v, (hb.block b hlt).trans hv, hown.kept (row := none) ⟨hb.os, hb.tape, hb.output, hb.size, fun k hk _ => hb.block k hk⟩ (Classical.em _), hne⟩
 exact Or.imp (k _) (k _) h
theorem Bl.new (w : World) : Bl w.heap.size w.heap.size [] (w.alloc (.cells #[.pointer none, .slice none 0 0] 87)) := Lib.fresh_isBuilder _ _ w
theorem Bl.len {B b : Nat} {acc : List UInt8} {w : World} (h : Bl B b acc w) :
  Calls Tryd.prog 53 #[.pointer (some ⟨b, 0, none⟩)] w fun e w' => e = .returned (.int .i64 (acc.length : Int)) ∧ w' = w := by
 have := Tryd.Builder_Len B b _ w h
 rwa [Lib.byteCells_length] at this
theorem Bl.byte {B b : Nat} {acc : List UInt8} {w : World} (c : UInt8) (h : Bl B b acc w) (hl : acc.length ≤ 1000000) (hB : B ≤ w.heap.size) :
  Calls Tryd.prog 54 #[.pointer (some ⟨b, 0, none⟩), .int .u8 (c.toNat : Int)] w fun e w' => e = .returned .nilIface ∧ Bl B b (acc ++ [c]) w' ∧ Below B w w' := by
 refine (Bld.writeByte B b _ (c.toNat : Int) w h (by rw [Lib.byteCells_length]; omega) hB).mono ?_
 rintro e w' ⟨rfl, h1, h2⟩
 refine ⟨rfl, ?_, h2⟩
 unfold Bl
 rw [Lib.byteCells_append]
 exact h1
theorem Bl.byteI {B b : Nat} {acc : List UInt8} {w : World} (x : Int) (c : UInt8) (hx : (c.toNat : Int) = x) (h : Bl B b acc w) (hl : acc.length ≤ 1000000) (hB : B ≤ w.heap.size) :
  Calls Tryd.prog 54 #[.pointer (some ⟨b, 0, none⟩), .int .u8 x] w fun e w' => e = .returned .nilIface ∧ Bl B b (acc ++ [c]) w' ∧ Below B w w' := by
 subst hx
 exact Bl.byte c h hl hB
theorem Bl.str {B b : Nat} {acc : List UInt8} {w : World} (s : ByteArray) (h : Bl B b acc w) (hl : acc.length ≤ 1000000) (hs : s.size ≤ 1000000) (hB : B ≤ w.heap.size) :
  Calls Tryd.prog 55 #[.pointer (some ⟨b, 0, none⟩), .string s] w fun e w' => e = .returned (.tuple #[.int .i64 s.size, .nilIface]) ∧ Bl B b (acc ++ s.data.toList) w' ∧ Below B w w' := by
 refine (Bld.writeString B b _ s w h (by rw [Lib.byteCells_length]; omega) hB).mono ?_
 rintro e w' ⟨rfl, h1, h2⟩
 refine ⟨rfl, ?_, h2⟩
 unfold Bl
 rw [Lib.byteCells_append]
 exact h1
theorem Bl.out {B b : Nat} {acc : List UInt8} {w : World} (h : Bl B b acc w) (hB : B ≤ w.heap.size) :
  Calls Tryd.prog 57 #[.pointer (some ⟨b, 0, none⟩)] w fun e w' => e = .returned (.string ⟨acc.toArray⟩) ∧ Below B w w' := by
 refine (Tryd.Builder_String_any B b acc w h hB).mono ?_
 rintro e w' h
 exact h

def FA.nm (i : Nat) : UInt8 := if i = 0 then 120 else if i = 1 then 121 else if i = 2 then 122 else 116
def FA.plus (acc : List UInt8) (n : Int) : List UInt8 := if 0 < n ∧ 0 < acc.length then acc ++ [43] else acc
def FA.tail (acc : List UInt8) (s : Bool) : Option ByteArray := if acc.length ≤ 900000 then some ⟨(acc ++ (if s then [60, 48] else [60, 61, 48])).toArray⟩ else none
def FA.fin (acc : List UInt8) (c : Int) (s : Bool) : Option ByteArray := if c = 0 ∧ 0 < acc.length then FA.tail acc s else (impl_FormatInt.f c).bind fun t => if acc.length ≤ 800000 ∧ t.size ≤ 100 then FA.tail (FA.plus acc c ++ t.data.toList) s else none
def FA.step (acc : List UInt8) (i : Nat) (n : Int) : Option (List UInt8) := if n = 0 then some acc else if acc.length ≤ 700000 then (if n = 1 then some (FA.plus acc n ++ [FA.nm i]) else if n = -1 then some (FA.plus acc n ++ [45] ++ [FA.nm i]) else (impl_FormatInt.f n).bind fun t => if t.size ≤ 100 then some (FA.plus acc n ++ t.data.toList ++ [FA.nm i]) else none) else none
def FA.go : List Int → Nat → List UInt8 → Option (List UInt8)
 | [], _, acc => some acc
 | n :: ns, i, acc => (FA.step acc i n).bind fun a => FA.go ns (i + 1) a
def impl_FormatAtom.f (k : Nat) (l0_0 : List Int) (a0_1 : Int) (a0_2 : Bool) : Option (ByteArray) := (impl_IsAtom.f k l0_0 a0_1 a0_2).bind fun t => if t = true then (if l0_0.length ≤ 4 then (FA.go l0_0 0 []).bind fun acc => FA.fin acc a0_1 a0_2 else none) else some ⟨#[]⟩
theorem impl_FormatAtom.mono : ∀ l0_0 a0_1 a0_2 k, LeO (impl_FormatAtom.f k l0_0 a0_1 a0_2) (impl_FormatAtom.f (k + 1) l0_0 a0_1 a0_2) := fun l c s k => LeO.bind (impl_IsAtom.mono l c s k) (fun _ => LeO.refl _)
theorem FA.nm_get : ∀ (i : Nat) (h : i < 4), (⟨#[120, 121, 122, 116]⟩ : ByteArray)[i]'h = FA.nm i
 | 0, _ => rfl | 1, _ => rfl | 2, _ => rfl | 3, _ => rfl
 | n + 4, h => by omega
theorem FA.plus_len (acc : List UInt8) (n : Int) : (FA.plus acc n).length ≤ acc.length + 1 := by unfold FA.plus; split <;> simp
theorem FA.cell {W : World} {g : Nat} {A : Option Addr} {n c : Nat} {x : Int} {s : Bool} (h : W.heap[g]? = some (.cells #[.slice A n c, .int .i64 x, .bool s] 27 (0, 0))) :
  W.cell? ⟨g, 0, none⟩ = some (.slice A n c) ∧ W.cell? ⟨g, 1, none⟩ = some (.int .i64 x) ∧ W.cell? ⟨g, 2, none⟩ = some (.bool s) := by
 refine ⟨?_, ?_, ?_⟩ <;> (rw [Lib.cell_of_heap h]; rfl)
/-- What is carried: the box of the parameter, the builder, the frame. -/
structure FA.St (w : World) (g B : Nat) (A : Option Addr) (n c0 : Nat) (x : Int) (s : Bool) (acc : List UInt8) (W : World) : Prop where
 gB : g < B
 wg : w.heap.size ≤ g
 box : W.heap[g]? = some (.cells #[.slice A n c0, .int .i64 x, .bool s] 27 (0, 0))
 bl : Bl B B acc W
 lt : B < W.heap.size
 bw : Below w.heap.size w W
theorem FA.St.on {w : World} {g B : Nat} {A : Option Addr} {n c0 : Nat} {x : Int} {s : Bool} {acc acc' : List UInt8} {W W' : World} (h : FA.St w g B A n c0 x s acc W) (hb : Bl B B acc' W') (hw : Below B W W') : FA.St w g B A n c0 x s acc' W' :=
 ⟨h.gB, h.wg, (hw.block _ h.gB).trans h.box, hb, Nat.lt_of_lt_of_le h.lt hw.size, h.bw.trans (hw.mono (Nat.le_trans h.wg (Nat.le_of_lt h.gB)))⟩
theorem FA.St.grown {w : World} {g B : Nat} {A : Option Addr} {n c0 : Nat} {x : Int} {s : Bool} {acc : List UInt8} {W W' : World} (h : FA.St w g B A n c0 x s acc W) (hw : Below W.heap.size W W') : FA.St w g B A n c0 x s acc W' :=
 h.on (h.bl.below hw) (hw.mono (Nat.le_of_lt h.lt))
set_option maxHeartbeats 8000000 in
set_option maxRecDepth 100000 in
theorem impl_FormatAtom.calls (k : Nat) (A0_0 : Option Addr) (c0_0 : Nat) (l0_0 : List Int) (a0_1 : Int) (a0_2 : Bool) (r : ByteArray) (w : World) (hL : LaidW w) (hr0_0 : Kd.C (Kd.int .i64) w A0_0 l0_0.length l0_0) (hc0_0 : l0_0.length ≤ c0_0) (h : impl_FormatAtom.f k l0_0 a0_1 a0_2 = some r) :
  Calls Tryd.prog 14 #[.agg #[.slice A0_0 l0_0.length c0_0, .int .i64 a0_1, .bool a0_2]] w fun e w' => e = .returned (.string r) ∧ Below w.heap.size w w' := by
 have HL_ := Aside0.mk hL
 have HR0 := Aside0.mk hr0_0
 have HC0 := Aside0.mk hc0_0
 clear hL hr0_0 hc0_0
 have hu27 := Tryd.underlying27
 unfold impl_FormatAtom.f at h
 obtain ⟨t, hA, h⟩ := Option.bind_eq_some_iff.mp h
 have HA := Aside0.mk hA
 have H := Aside0.mk h
 clear hA h
 cases t with
 | false =>
  obtain rfl := Option.some.inj H.out
  go_enter Tryd.func14, Tryd.ntmps14
  go_wp2_with (first | ((with_reducible refine gate_dst (N := 1) rfl ?_); refine box_event ?hg (N := 1) ?hd (cs := #[.slice A0_0 l0_0.length c0_0, .int .i64 a0_1, .bool a0_2]) (t := 27) ?hr ?_; (case hd => rfl); (case hg => rfl); (case hr => first | (go_simp; done) | (go_simp; rfl)); intro g hg w1 hbox hb; have HX := Aside0.mk hbox; have HG := Aside0.mk hg; have HB := Aside0.mk hb; obtain ⟨e0, e1, e2⟩ := FA.cell hbox; clear hbox hg hb) | (go_at_call 52; refine (impl_IsAtom.calls k A0_0 c0_0 l0_0 a0_1 a0_2 _ _ (Kd.C_below HR0.out HB.out) HC0.out HA.out).mono ?_; rintro e w2 ⟨rfl, hb2⟩; replace HX := Aside0.mk (blk_below HX.out hb2); replace HB := Aside0.mk (below_step HB.out hb2); clear hb2 e0 e1 e2; have hgw := (Array.getElem?_eq_some_iff.1 HX.out).1; have e0 := fun o => (FA.cell ((Lib.alloc_old w2 o g hgw).trans HX.out)).1))
  go_ret
  exact ⟨rfl, HB.out⟩
 | true =>
  have H1 := H.out
  clear H
  rw [if_pos rfl] at H1
  by_cases h4 : l0_0.length ≤ 4
  ·
   rw [if_pos h4] at H1
   obtain ⟨fa, hgo, hfin⟩ := Option.bind_eq_some_iff.mp H1
   have HGO := Aside0.mk hgo
   have HFIN := Aside0.mk hfin
   have H4 := Aside0.mk h4
   clear H1 hgo hfin h4
   go_enter Tryd.func14, Tryd.ntmps14
   go_wp2_with (first | ((with_reducible refine gate_dst (N := 1) rfl ?_); refine box_event ?hg (N := 1) ?hd (cs := #[.slice A0_0 l0_0.length c0_0, .int .i64 a0_1, .bool a0_2]) (t := 27) ?hr ?_; (case hd => rfl); (case hg => rfl); (case hr => first | (go_simp; done) | (go_simp; rfl)); intro g hg w1 hbox hb; have HX := Aside0.mk hbox; have HG := Aside0.mk hg; have HB := Aside0.mk hb; obtain ⟨e0, e1, e2⟩ := FA.cell hbox; clear hbox hg hb) | (go_at_call 52; refine (impl_IsAtom.calls k A0_0 c0_0 l0_0 a0_1 a0_2 _ _ (Kd.C_below HR0.out HB.out) HC0.out HA.out).mono ?_; rintro e w2 ⟨rfl, hb2⟩; replace HX := Aside0.mk (blk_below HX.out hb2); replace HB := Aside0.mk (below_step HB.out hb2); clear hb2 e0 e1 e2; have hgw := (Array.getElem?_eq_some_iff.1 HX.out).1; have e0 := fun o => (FA.cell ((Lib.alloc_old w2 o g hgw).trans HX.out)).1))
   have HS : FA.St w g w2.heap.size A0_0 l0_0.length c0_0 a0_1 a0_2 [] (w2.alloc (.cells #[.pointer none, .slice none 0 0] 87)) := ⟨hgw, by rw [HG.out]; exact Nat.le_refl _, (Lib.alloc_old w2 _ g hgw).trans HX.out, Bl.new w2, by simp, below_alloc HB.out _⟩
   clear e0 hgw HX HG HB
   generalize w2.heap.size = B at HS ⊢
   generalize w2.alloc (.cells #[.pointer none, .slice none 0 0] 87) = W at HS ⊢
   obtain ⟨K, hK⟩ : ∃ K, K = l0_0.length + 1 := ⟨_, rfl⟩
   have HK0 := Aside0.mk hK
   clear hK
   go_loopg [12] K (fun kq v12 wc => ∃ (acc : List UInt8) (i : Nat), v12 = .int .i64 (i : Int) ∧ Aside0 (FA.go (l0_0.drop i) i acc = some fa) ∧ Aside0 (i + kq = l0_0.length + 1) ∧ Aside0 (i ≤ l0_0.length) ∧ FA.St w g B A0_0 l0_0.length c0_0 a0_1 a0_2 acc wc)
   case atStart => exact ⟨[], 0, rfl, by rw [List.drop_zero]; exact HGO, ⟨by have := HK0.out; omega⟩, ⟨Nat.zero_le _⟩, HS⟩
   case round =>
    clear HS HGO
    obtain ⟨acc, i, rfl, HGO, HK1, HI, HS⟩ := hrel
    cases gk with
    | zero => have := HK1.out; have := HI.out; omega
    | succ k1 =>
    obtain ⟨e0, e1, e2⟩ := FA.cell HS.box
    by_cases hi : i < l0_0.length
    ·
     have hlt : decide ((i : Int) < (l0_0.length : Int)) = true := by simpa using hi
     obtain ⟨qf, e242, qd⟩ := Kd.at_int (Kd.C_below HR0.out HS.bw) (i : Int) (by omega) (by omega)
     cases e242
     rw [Int.toNat_natCast] at qd
     have hq := List.drop_eq_getElem_cons hi
     have hrd : rd l0_0 (i : Int) = l0_0[i] := by simp [rd, List.getD_eq_getElem?_getD, hi]
     have HG1 := HGO.out
     rw [hq, FA.go, ← hrd] at HG1
     clear hq HGO
     generalize rd l0_0 (i : Int) = n at qd HG1 hrd
     clear hrd
     obtain ⟨a1, hst, hgo⟩ := Option.bind_eq_some_iff.mp HG1
     have HGO := Aside0.mk hgo
     clear HG1 hgo
     have h4 := H4.out
     have hwr : wrap64 ((i : Int) + 1) = ((i + 1 : Nat) : Int) := by unfold wrap64; omega
     have i0 : (0 ≤ (i : Int)) = True := eq_true (by omega)
     have i4 : ((i : Int) < 4) = True := eq_true (by omega)
     unfold FA.step at hst
     by_cases c0 : n = 0
     ·
      rw [if_pos c0] at hst
      obtain rfl := Option.some.inj hst
      have c0b : (n == 0) = true := beq_iff_eq.mpr c0
      clear c0 hst
      go_wp2
      go_roundg k1
      case measure => have := HK1.out; omega
      case rel => exact ⟨acc, i + 1, by first | rfl | (simp [hwr]; done), HGO, ⟨by have := HK1.out; omega⟩, ⟨by omega⟩, HS⟩
     ·
      rw [if_neg c0] at hst
      have c0b : (n == 0) = false := beq_eq_false_iff_ne.mpr c0
      by_cases cl : acc.length ≤ 700000
      ·
       rw [if_pos cl] at hst
       by_cases c1 : n = 1
       ·
        rw [if_pos c1] at hst
        have c1b : (n == 1) = true := beq_iff_eq.mpr c1
        have cg : decide (0 < n) = true := decide_eq_true (by omega)
        by_cases ca : 0 < acc.length
        ·
         have cab : decide ((0 : Int) < (acc.length : Int)) = true := decide_eq_true (by omega)
         have cac : decide (0 < acc.length) = true := decide_eq_true ca
         have ep : FA.plus acc n = acc ++ [43] := by unfold FA.plus; rw [if_pos ⟨by omega, ca⟩]
         go_wp2_with (first | (go_at_call 53; refine (Bl.len HS.bl).mono ?_; rintro e W1 ⟨rfl, rfl⟩) | (go_at_call 54; refine (Bl.byteI _ 43 (by rfl) HS.bl (by first | omega | (simp; omega)) (Nat.le_of_lt HS.lt)).mono ?_; rintro e W1 ⟨rfl, hb_, hw_⟩; replace HS := HS.on hb_ hw_; clear hb_ hw_ e0 e1 e2; obtain ⟨e0, e1, e2⟩ := FA.cell HS.box) | (go_at_call 54; refine (Bl.byteI _ _ rfl HS.bl (by first | omega | (simp; omega)) (Nat.le_of_lt HS.lt)).mono ?_; rintro e W1 ⟨rfl, hb_, hw_⟩; replace HS := HS.on hb_ hw_; clear hb_ hw_ e0 e1 e2; obtain ⟨e0, e1, e2⟩ := FA.cell HS.box))
         go_roundg k1
         case measure => have := HK1.out; omega
         case rel =>
          obtain rfl := Option.some.inj hst
          refine ⟨_, i + 1, by first | rfl | simp, HGO, ⟨by have := HK1.out; omega⟩, ⟨by omega⟩, ?_⟩
          rw [ep, ← FA.nm_get i (by omega)]
          exact HS
        ·
         have cab : decide ((0 : Int) < (acc.length : Int)) = false := decide_eq_false (by omega)
         have cac : decide (0 < acc.length) = false := decide_eq_false ca
         have ep : FA.plus acc n = acc := by unfold FA.plus; rw [if_neg (by omega)]
         go_wp2_with (first | (go_at_call 53; refine (Bl.len HS.bl).mono ?_; rintro e W1 ⟨rfl, rfl⟩) | (go_at_call 54; refine (Bl.byteI _ _ rfl HS.bl (by first | omega | (simp; omega)) (Nat.le_of_lt HS.lt)).mono ?_; rintro e W1 ⟨rfl, hb_, hw_⟩; replace HS := HS.on hb_ hw_; clear hb_ hw_ e0 e1 e2; obtain ⟨e0, e1, e2⟩ := FA.cell HS.box))
         go_roundg k1
         case measure => have := HK1.out; omega
         case rel =>
          obtain rfl := Option.some.inj hst
          refine ⟨_, i + 1, by first | rfl | simp, HGO, ⟨by have := HK1.out; omega⟩, ⟨by omega⟩, ?_⟩
          rw [ep, ← FA.nm_get i (by omega)]
          exact HS
       ·
        rw [if_neg c1] at hst
        have c1b : (n == 1) = false := beq_eq_false_iff_ne.mpr c1
        by_cases c2 : n = -1
        ·
         rw [if_pos c2] at hst
         have c2b : (n == -1) = true := beq_iff_eq.mpr c2
         have cg : decide (0 < n) = false := decide_eq_false (by omega)
         have ep : FA.plus acc n = acc := by unfold FA.plus; rw [if_neg (by omega)]
         go_wp2_with (first | (go_at_call 54; refine (Bl.byteI _ 45 (by rfl) HS.bl (by first | omega | (simp; omega)) (Nat.le_of_lt HS.lt)).mono ?_; rintro e W1 ⟨rfl, hb_, hw_⟩; replace HS := HS.on hb_ hw_; clear hb_ hw_ e0 e1 e2; obtain ⟨e0, e1, e2⟩ := FA.cell HS.box) | (go_at_call 54; refine (Bl.byteI _ _ rfl HS.bl (by first | omega | (simp; omega)) (Nat.le_of_lt HS.lt)).mono ?_; rintro e W1 ⟨rfl, hb_, hw_⟩; replace HS := HS.on hb_ hw_; clear hb_ hw_ e0 e1 e2; obtain ⟨e0, e1, e2⟩ := FA.cell HS.box))
         go_roundg k1
         case measure => have := HK1.out; omega
         case rel =>
          obtain rfl := Option.some.inj hst
          refine ⟨_, i + 1, by first | rfl | simp, HGO, ⟨by have := HK1.out; omega⟩, ⟨by omega⟩, ?_⟩
          rw [ep, ← FA.nm_get i (by omega)]
          exact HS
        ·
         rw [if_neg c2] at hst
         have c2b : (n == -1) = false := beq_eq_false_iff_ne.mpr c2
         obtain ⟨tt, hfi, hst⟩ := Option.bind_eq_some_iff.mp hst
         have HFI := Aside0.mk hfi
         clear hfi
         by_cases ct : tt.size ≤ 100
         ·
          rw [if_pos ct] at hst
          by_cases cp : 0 < n
          ·
           have cg : decide (0 < n) = true := decide_eq_true (by omega)
           by_cases ca : 0 < acc.length
           ·
            have cab : decide ((0 : Int) < (acc.length : Int)) = true := decide_eq_true (by omega)
            have cac : decide (0 < acc.length) = true := decide_eq_true ca
            have ep : FA.plus acc n = acc ++ [43] := by unfold FA.plus; rw [if_pos ⟨by omega, ca⟩]
            go_wp2_with (first | (go_at_call 53; refine (Bl.len HS.bl).mono ?_; rintro e W1 ⟨rfl, rfl⟩) | (go_at_call 54; refine (Bl.byteI _ 43 (by rfl) HS.bl (by first | omega | (simp; omega)) (Nat.le_of_lt HS.lt)).mono ?_; rintro e W1 ⟨rfl, hb_, hw_⟩; replace HS := HS.on hb_ hw_; clear hb_ hw_ e0 e1 e2; obtain ⟨e0, e1, e2⟩ := FA.cell HS.box) | (go_at_call 56; refine (impl_FormatInt.calls n tt _ (laid_ HL_ (Aside0.mk HS.bw)) HFI.out).mono ?_; rintro e W1 ⟨rfl, hw_⟩; replace HS := HS.grown hw_; clear hw_ e0 e1 e2; obtain ⟨e0, e1, e2⟩ := FA.cell HS.box) | (go_at_call 55; refine (Bl.str tt HS.bl (by first | omega | (simp; omega)) (by first | omega | decide) (Nat.le_of_lt HS.lt)).mono ?_; rintro e W1 ⟨rfl, hb_, hw_⟩; replace HS := HS.on hb_ hw_; clear hb_ hw_ e0 e1 e2; obtain ⟨e0, e1, e2⟩ := FA.cell HS.box) | (go_at_call 54; refine (Bl.byteI _ _ rfl HS.bl (by first | omega | (simp; omega)) (Nat.le_of_lt HS.lt)).mono ?_; rintro e W1 ⟨rfl, hb_, hw_⟩; replace HS := HS.on hb_ hw_; clear hb_ hw_ e0 e1 e2; obtain ⟨e0, e1, e2⟩ := FA.cell HS.box))
            go_roundg k1
            case measure => have := HK1.out; omega
            case rel =>
             obtain rfl := Option.some.inj hst
             refine ⟨_, i + 1, by first | rfl | simp, HGO, ⟨by have := HK1.out; omega⟩, ⟨by omega⟩, ?_⟩
             rw [ep, ← FA.nm_get i (by omega)]
             exact HS
           ·
            have cab : decide ((0 : Int) < (acc.length : Int)) = false := decide_eq_false (by omega)
            have cac : decide (0 < acc.length) = false := decide_eq_false ca
            have ep : FA.plus acc n = acc := by unfold FA.plus; rw [if_neg (by omega)]
            go_wp2_with (first | (go_at_call 53; refine (Bl.len HS.bl).mono ?_; rintro e W1 ⟨rfl, rfl⟩) | (go_at_call 56; refine (impl_FormatInt.calls n tt _ (laid_ HL_ (Aside0.mk HS.bw)) HFI.out).mono ?_; rintro e W1 ⟨rfl, hw_⟩; replace HS := HS.grown hw_; clear hw_ e0 e1 e2; obtain ⟨e0, e1, e2⟩ := FA.cell HS.box) | (go_at_call 55; refine (Bl.str tt HS.bl (by first | omega | (simp; omega)) (by first | omega | decide) (Nat.le_of_lt HS.lt)).mono ?_; rintro e W1 ⟨rfl, hb_, hw_⟩; replace HS := HS.on hb_ hw_; clear hb_ hw_ e0 e1 e2; obtain ⟨e0, e1, e2⟩ := FA.cell HS.box) | (go_at_call 54; refine (Bl.byteI _ _ rfl HS.bl (by first | omega | (simp; omega)) (Nat.le_of_lt HS.lt)).mono ?_; rintro e W1 ⟨rfl, hb_, hw_⟩; replace HS := HS.on hb_ hw_; clear hb_ hw_ e0 e1 e2; obtain ⟨e0, e1, e2⟩ := FA.cell HS.box))
            go_roundg k1
            case measure => have := HK1.out; omega
            case rel =>
             obtain rfl := Option.some.inj hst
             refine ⟨_, i + 1, by first | rfl | simp, HGO, ⟨by have := HK1.out; omega⟩, ⟨by omega⟩, ?_⟩
             rw [ep, ← FA.nm_get i (by omega)]
             exact HS
          ·
           have cg : decide (0 < n) = false := decide_eq_false (by omega)
           have ep : FA.plus acc n = acc := by unfold FA.plus; rw [if_neg (by omega)]
           go_wp2_with (first | (go_at_call 56; refine (impl_FormatInt.calls n tt _ (laid_ HL_ (Aside0.mk HS.bw)) HFI.out).mono ?_; rintro e W1 ⟨rfl, hw_⟩; replace HS := HS.grown hw_; clear hw_ e0 e1 e2; obtain ⟨e0, e1, e2⟩ := FA.cell HS.box) | (go_at_call 55; refine (Bl.str tt HS.bl (by first | omega | (simp; omega)) (by first | omega | decide) (Nat.le_of_lt HS.lt)).mono ?_; rintro e W1 ⟨rfl, hb_, hw_⟩; replace HS := HS.on hb_ hw_; clear hb_ hw_ e0 e1 e2; obtain ⟨e0, e1, e2⟩ := FA.cell HS.box) | (go_at_call 54; refine (Bl.byteI _ _ rfl HS.bl (by first | omega | (simp; omega)) (Nat.le_of_lt HS.lt)).mono ?_; rintro e W1 ⟨rfl, hb_, hw_⟩; replace HS := HS.on hb_ hw_; clear hb_ hw_ e0 e1 e2; obtain ⟨e0, e1, e2⟩ := FA.cell HS.box))
           go_roundg k1
           case measure => have := HK1.out; omega
           case rel =>
            obtain rfl := Option.some.inj hst
            refine ⟨_, i + 1, by first | rfl | simp, HGO, ⟨by have := HK1.out; omega⟩, ⟨by omega⟩, ?_⟩
            rw [ep, ← FA.nm_get i (by omega)]
            exact HS
         ·
          rw [if_neg ct] at hst; exact absurd hst (by simp)
      ·
       rw [if_neg cl] at hst; exact absurd hst (by simp)
    ·
     have hie : i = l0_0.length := by have := HI.out; omega
     have hlt : decide ((i : Int) < (l0_0.length : Int)) = false := by simpa using hi
     have HG1 := HGO.out
     rw [List.drop_eq_nil_of_le (by omega), FA.go] at HG1
     obtain rfl : acc = fa := Option.some.inj HG1
     have hf := HFIN.out
     clear HG1 HGO HFIN hi
     unfold FA.fin at hf
     by_cases c0 : a0_1 = 0 ∧ 0 < acc.length
     ·
      rw [if_pos c0] at hf
      obtain ⟨rfl, ca⟩ := c0
      have cab : ((acc.length : Int) == 0) = false := beq_eq_false_iff_ne.mpr (by omega)
      unfold FA.tail at hf
      split at hf
      case isFalse => exact absurd hf (by simp)
      case isTrue hlen =>
      obtain rfl := Option.some.inj hf
      cases a0_2
      ·
       go_wp2_with (first | (go_at_call 53; refine (Bl.len HS.bl).mono ?_; rintro e W1 ⟨rfl, rfl⟩) | (go_at_call 55; refine (Bl.str _ HS.bl (by first | omega | (simp; omega)) (by first | omega | decide) (Nat.le_of_lt HS.lt)).mono ?_; rintro e W1 ⟨rfl, hb_, hw_⟩; replace HS := HS.on hb_ hw_; clear hb_ hw_ e0 e1 e2; obtain ⟨e0, e1, e2⟩ := FA.cell HS.box) | (go_at_call 57; refine (Bl.out HS.bl (Nat.le_of_lt HS.lt)).mono ?_; rintro e W1 ⟨rfl, HO⟩))
       go_ret
       exact ⟨by first | rfl | (simp; done) | (simp; rfl), HS.bw.trans (HO.mono (Nat.le_trans HS.wg (Nat.le_of_lt HS.gB)))⟩
      ·
       go_wp2_with (first | (go_at_call 53; refine (Bl.len HS.bl).mono ?_; rintro e W1 ⟨rfl, rfl⟩) | (go_at_call 55; refine (Bl.str _ HS.bl (by first | omega | (simp; omega)) (by first | omega | decide) (Nat.le_of_lt HS.lt)).mono ?_; rintro e W1 ⟨rfl, hb_, hw_⟩; replace HS := HS.on hb_ hw_; clear hb_ hw_ e0 e1 e2; obtain ⟨e0, e1, e2⟩ := FA.cell HS.box) | (go_at_call 57; refine (Bl.out HS.bl (Nat.le_of_lt HS.lt)).mono ?_; rintro e W1 ⟨rfl, HO⟩))
       go_ret
       exact ⟨by first | rfl | (simp; done) | (simp; rfl), HS.bw.trans (HO.mono (Nat.le_trans HS.wg (Nat.le_of_lt HS.gB)))⟩
     ·
      rw [if_neg c0] at hf
      obtain ⟨tt, hfi, hg⟩ := Option.bind_eq_some_iff.mp hf
      clear hf
      have hf := hg
      clear hg
      have HFI := Aside0.mk hfi
      clear hfi
      split at hf
      case isFalse => exact absurd hf (by simp)
      case isTrue hct =>
      obtain ⟨hl8, ct⟩ := hct
      by_cases cz : a0_1 = 0
      ·
       have ca : acc.length = 0 := by omega
       have cab : ((acc.length : Int) == 0) = true := beq_iff_eq.mpr (by omega)
       have ep : FA.plus acc a0_1 = acc := by unfold FA.plus; rw [if_neg (by omega)]
       rw [ep] at hf
       subst cz
       unfold FA.tail at hf
       split at hf
       case isFalse => exact absurd hf (by simp)
       case isTrue hlen =>
       obtain rfl := Option.some.inj hf
       cases a0_2
       ·
        go_wp2_with (first | (go_at_call 53; refine (Bl.len HS.bl).mono ?_; rintro e W1 ⟨rfl, rfl⟩) | (go_at_call 56; refine (impl_FormatInt.calls _ tt _ (laid_ HL_ (Aside0.mk HS.bw)) HFI.out).mono ?_; rintro e W1 ⟨rfl, hw_⟩; replace HS := HS.grown hw_; clear hw_ e0 e1 e2; obtain ⟨e0, e1, e2⟩ := FA.cell HS.box) | (go_at_call 55; refine (Bl.str _ HS.bl (by first | omega | (simp; omega)) (by first | omega | decide) (Nat.le_of_lt HS.lt)).mono ?_; rintro e W1 ⟨rfl, hb_, hw_⟩; replace HS := HS.on hb_ hw_; clear hb_ hw_ e0 e1 e2; obtain ⟨e0, e1, e2⟩ := FA.cell HS.box) | (go_at_call 57; refine (Bl.out HS.bl (Nat.le_of_lt HS.lt)).mono ?_; rintro e W1 ⟨rfl, HO⟩))
        go_ret
        exact ⟨by first | rfl | (simp; done) | (simp; rfl), HS.bw.trans (HO.mono (Nat.le_trans HS.wg (Nat.le_of_lt HS.gB)))⟩
       ·
        go_wp2_with (first | (go_at_call 53; refine (Bl.len HS.bl).mono ?_; rintro e W1 ⟨rfl, rfl⟩) | (go_at_call 56; refine (impl_FormatInt.calls _ tt _ (laid_ HL_ (Aside0.mk HS.bw)) HFI.out).mono ?_; rintro e W1 ⟨rfl, hw_⟩; replace HS := HS.grown hw_; clear hw_ e0 e1 e2; obtain ⟨e0, e1, e2⟩ := FA.cell HS.box) | (go_at_call 55; refine (Bl.str _ HS.bl (by first | omega | (simp; omega)) (by first | omega | decide) (Nat.le_of_lt HS.lt)).mono ?_; rintro e W1 ⟨rfl, hb_, hw_⟩; replace HS := HS.on hb_ hw_; clear hb_ hw_ e0 e1 e2; obtain ⟨e0, e1, e2⟩ := FA.cell HS.box) | (go_at_call 57; refine (Bl.out HS.bl (Nat.le_of_lt HS.lt)).mono ?_; rintro e W1 ⟨rfl, HO⟩))
        go_ret
        exact ⟨by first | rfl | (simp; done) | (simp; rfl), HS.bw.trans (HO.mono (Nat.le_trans HS.wg (Nat.le_of_lt HS.gB)))⟩
      ·
       have czb : (a0_1 == 0) = false := beq_eq_false_iff_ne.mpr cz
       by_cases cg : 0 < a0_1
       ·
        have cgb : decide (0 < a0_1) = true := decide_eq_true cg
        by_cases ca : 0 < acc.length
        ·
         have cab : decide ((0 : Int) < (acc.length : Int)) = true := decide_eq_true (by omega)
         have ep : FA.plus acc a0_1 = acc ++ [43] := by unfold FA.plus; rw [if_pos ⟨cg, ca⟩]
         rw [ep] at hf
         unfold FA.tail at hf
         split at hf
         case isFalse => exact absurd hf (by simp)
         case isTrue hlen =>
         obtain rfl := Option.some.inj hf
         cases a0_2
         ·
          go_wp2_with (first | (go_at_call 53; refine (Bl.len HS.bl).mono ?_; rintro e W1 ⟨rfl, rfl⟩) | (go_at_call 54; refine (Bl.byteI _ 43 (by rfl) HS.bl (by first | omega | (simp; omega)) (Nat.le_of_lt HS.lt)).mono ?_; rintro e W1 ⟨rfl, hb_, hw_⟩; replace HS := HS.on hb_ hw_; clear hb_ hw_ e0 e1 e2; obtain ⟨e0, e1, e2⟩ := FA.cell HS.box) | (go_at_call 56; refine (impl_FormatInt.calls _ tt _ (laid_ HL_ (Aside0.mk HS.bw)) HFI.out).mono ?_; rintro e W1 ⟨rfl, hw_⟩; replace HS := HS.grown hw_; clear hw_ e0 e1 e2; obtain ⟨e0, e1, e2⟩ := FA.cell HS.box) | (go_at_call 55; refine (Bl.str _ HS.bl (by first | omega | (simp; omega)) (by first | omega | decide) (Nat.le_of_lt HS.lt)).mono ?_; rintro e W1 ⟨rfl, hb_, hw_⟩; replace HS := HS.on hb_ hw_; clear hb_ hw_ e0 e1 e2; obtain ⟨e0, e1, e2⟩ := FA.cell HS.box) | (go_at_call 57; refine (Bl.out HS.bl (Nat.le_of_lt HS.lt)).mono ?_; rintro e W1 ⟨rfl, HO⟩))
          go_ret
          exact ⟨by first | rfl | (simp; done) | (simp; rfl), HS.bw.trans (HO.mono (Nat.le_trans HS.wg (Nat.le_of_lt HS.gB)))⟩
         ·
          go_wp2_with (first | (go_at_call 53; refine (Bl.len HS.bl).mono ?_; rintro e W1 ⟨rfl, rfl⟩) | (go_at_call 54; refine (Bl.byteI _ 43 (by rfl) HS.bl (by first | omega | (simp; omega)) (Nat.le_of_lt HS.lt)).mono ?_; rintro e W1 ⟨rfl, hb_, hw_⟩; replace HS := HS.on hb_ hw_; clear hb_ hw_ e0 e1 e2; obtain ⟨e0, e1, e2⟩ := FA.cell HS.box) | (go_at_call 56; refine (impl_FormatInt.calls _ tt _ (laid_ HL_ (Aside0.mk HS.bw)) HFI.out).mono ?_; rintro e W1 ⟨rfl, hw_⟩; replace HS := HS.grown hw_; clear hw_ e0 e1 e2; obtain ⟨e0, e1, e2⟩ := FA.cell HS.box) | (go_at_call 55; refine (Bl.str _ HS.bl (by first | omega | (simp; omega)) (by first | omega | decide) (Nat.le_of_lt HS.lt)).mono ?_; rintro e W1 ⟨rfl, hb_, hw_⟩; replace HS := HS.on hb_ hw_; clear hb_ hw_ e0 e1 e2; obtain ⟨e0, e1, e2⟩ := FA.cell HS.box) | (go_at_call 57; refine (Bl.out HS.bl (Nat.le_of_lt HS.lt)).mono ?_; rintro e W1 ⟨rfl, HO⟩))
          go_ret
          exact ⟨by first | rfl | (simp; done) | (simp; rfl), HS.bw.trans (HO.mono (Nat.le_trans HS.wg (Nat.le_of_lt HS.gB)))⟩
        ·
         have cab : decide ((0 : Int) < (acc.length : Int)) = false := decide_eq_false (by omega)
         have ep : FA.plus acc a0_1 = acc := by unfold FA.plus; rw [if_neg (by omega)]
         rw [ep] at hf
         unfold FA.tail at hf
         split at hf
         case isFalse => exact absurd hf (by simp)
         case isTrue hlen =>
         obtain rfl := Option.some.inj hf
         cases a0_2
         ·
          go_wp2_with (first | (go_at_call 53; refine (Bl.len HS.bl).mono ?_; rintro e W1 ⟨rfl, rfl⟩) | (go_at_call 56; refine (impl_FormatInt.calls _ tt _ (laid_ HL_ (Aside0.mk HS.bw)) HFI.out).mono ?_; rintro e W1 ⟨rfl, hw_⟩; replace HS := HS.grown hw_; clear hw_ e0 e1 e2; obtain ⟨e0, e1, e2⟩ := FA.cell HS.box) | (go_at_call 55; refine (Bl.str _ HS.bl (by first | omega | (simp; omega)) (by first | omega | decide) (Nat.le_of_lt HS.lt)).mono ?_; rintro e W1 ⟨rfl, hb_, hw_⟩; replace HS := HS.on hb_ hw_; clear hb_ hw_ e0 e1 e2; obtain ⟨e0, e1, e2⟩ := FA.cell HS.box) | (go_at_call 57; refine (Bl.out HS.bl (Nat.le_of_lt HS.lt)).mono ?_; rintro e W1 ⟨rfl, HO⟩))
          go_ret
          exact ⟨by first | rfl | (simp; done) | (simp; rfl), HS.bw.trans (HO.mono (Nat.le_trans HS.wg (Nat.le_of_lt HS.gB)))⟩
         ·
          go_wp2_with (first | (go_at_call 53; refine (Bl.len HS.bl).mono ?_; rintro e W1 ⟨rfl, rfl⟩) | (go_at_call 56; refine (impl_FormatInt.calls _ tt _ (laid_ HL_ (Aside0.mk HS.bw)) HFI.out).mono ?_; rintro e W1 ⟨rfl, hw_⟩; replace HS := HS.grown hw_; clear hw_ e0 e1 e2; obtain ⟨e0, e1, e2⟩ := FA.cell HS.box) | (go_at_call 55; refine (Bl.str _ HS.bl (by first | omega | (simp; omega)) (by first | omega | decide) (Nat.le_of_lt HS.lt)).mono ?_; rintro e W1 ⟨rfl, hb_, hw_⟩; replace HS := HS.on hb_ hw_; clear hb_ hw_ e0 e1 e2; obtain ⟨e0, e1, e2⟩ := FA.cell HS.box) | (go_at_call 57; refine (Bl.out HS.bl (Nat.le_of_lt HS.lt)).mono ?_; rintro e W1 ⟨rfl, HO⟩))
          go_ret
          exact ⟨by first | rfl | (simp; done) | (simp; rfl), HS.bw.trans (HO.mono (Nat.le_trans HS.wg (Nat.le_of_lt HS.gB)))⟩
       ·
        have cgb : decide (0 < a0_1) = false := decide_eq_false cg
        have ep : FA.plus acc a0_1 = acc := by unfold FA.plus; rw [if_neg (by omega)]
        rw [ep] at hf
        unfold FA.tail at hf
        split at hf
        case isFalse => exact absurd hf (by simp)
        case isTrue hlen =>
        obtain rfl := Option.some.inj hf
        cases a0_2
        ·
         go_wp2_with (first | (go_at_call 56; refine (impl_FormatInt.calls _ tt _ (laid_ HL_ (Aside0.mk HS.bw)) HFI.out).mono ?_; rintro e W1 ⟨rfl, hw_⟩; replace HS := HS.grown hw_; clear hw_ e0 e1 e2; obtain ⟨e0, e1, e2⟩ := FA.cell HS.box) | (go_at_call 55; refine (Bl.str _ HS.bl (by first | omega | (simp; omega)) (by first | omega | decide) (Nat.le_of_lt HS.lt)).mono ?_; rintro e W1 ⟨rfl, hb_, hw_⟩; replace HS := HS.on hb_ hw_; clear hb_ hw_ e0 e1 e2; obtain ⟨e0, e1, e2⟩ := FA.cell HS.box) | (go_at_call 57; refine (Bl.out HS.bl (Nat.le_of_lt HS.lt)).mono ?_; rintro e W1 ⟨rfl, HO⟩))
         go_ret
         exact ⟨by first | rfl | (simp; done) | (simp; rfl), HS.bw.trans (HO.mono (Nat.le_trans HS.wg (Nat.le_of_lt HS.gB)))⟩
        ·
         go_wp2_with (first | (go_at_call 56; refine (impl_FormatInt.calls _ tt _ (laid_ HL_ (Aside0.mk HS.bw)) HFI.out).mono ?_; rintro e W1 ⟨rfl, hw_⟩; replace HS := HS.grown hw_; clear hw_ e0 e1 e2; obtain ⟨e0, e1, e2⟩ := FA.cell HS.box) | (go_at_call 55; refine (Bl.str _ HS.bl (by first | omega | (simp; omega)) (by first | omega | decide) (Nat.le_of_lt HS.lt)).mono ?_; rintro e W1 ⟨rfl, hb_, hw_⟩; replace HS := HS.on hb_ hw_; clear hb_ hw_ e0 e1 e2; obtain ⟨e0, e1, e2⟩ := FA.cell HS.box) | (go_at_call 57; refine (Bl.out HS.bl (Nat.le_of_lt HS.lt)).mono ?_; rintro e W1 ⟨rfl, HO⟩))
         go_ret
         exact ⟨by first | rfl | (simp; done) | (simp; rfl), HS.bw.trans (HO.mono (Nat.le_trans HS.wg (Nat.le_of_lt HS.gB)))⟩
  ·
   rw [if_neg h4] at H1; exact absurd H1 (by simp)

-- NOT PRINTED: function 143 (bytealg_MakeNoZero)

-- NOT PRINTED: function 132 (strings_Builder_grow)

-- NOT PRINTED: function 118 (strings_Builder_Grow)

/-! ### strings_Join: function 98 -/
def strings_Join.f (l0 : List ByteArray) (a1 : ByteArray) : Option ByteArray := if l0.length ≤ 1000000 ∧ (Lib.join (l0.map (·.data.toList)) a1.data.toList).length ≤ 1000000 then some ⟨(Lib.join (l0.map (·.data.toList)) a1.data.toList).toArray⟩ else none
theorem strings_Join.calls (A0 : Option Addr) (c0 : Nat) (l0 : List ByteArray) (a1 : ByteArray) (r : ByteArray) (w : World) (hr0 : Kd.C Kd.string w A0 l0.length l0) (hc0 : l0.length ≤ c0) (h : strings_Join.f l0 a1 = some r) :
  Calls Tryd.prog 98 #[.slice A0 l0.length c0, .string a1] w fun e w' => e = .returned (.string r) ∧ Below w.heap.size w w' := by
 unfold strings_Join.f at h
 split at h
 ·
  rename_i hb
  obtain rfl := Option.some.inj h
  clear h
  by_cases hz : l0.length = 0
  ·
   obtain rfl := List.eq_nil_of_length_eq_zero hz
   exact (Tryd.strings_Join_none A0 c0 a1 w).mono fun e w' ⟨he, hw⟩ => ⟨he, hw ▸ Below.refl _ _⟩
  ·
   obtain ⟨ad, rfl, h0⟩ := Kd.at_string hr0 0 (by omega) (by omega)
   obtain ⟨b, o, sp⟩ := ad
   have e0 : (⟨b, o, sp⟩ : Addr).add (0 : Int).toNat = ⟨b, o, sp⟩ := by simp [Addr.add]
   rw [e0] at h0
   obtain ⟨hb1, rfl⟩ : b < w.heap.size ∧ sp = none := by
    unfold World.cell? at h0
    rcases Nat.lt_or_ge b w.heap.size with h' | h'
    ·
     refine ⟨h', ?_⟩
     cases sp with
     | none => rfl
     | some s => split at h0 <;> simp at h0
    ·
     simp [Array.getElem?_eq_none h'] at h0
   refine Tryd.strings_Join b o c0 l0 a1 w ?_ hb1 (by omega) hc0 (by omega)
   intro j x hx
   obtain ⟨hj, ex⟩ := List.getElem?_eq_some_iff.1 hx
   obtain ⟨ad, e, hj2⟩ := Kd.at_string hr0 (j : Int) (by omega) (by omega)
   obtain rfl := Option.some.inj e
   rw [Int.toNat_natCast] at hj2
   have e1 : (⟨b, o, none⟩ : Addr).add j = ⟨b, o + j, none⟩ := by unfold Addr.add; split <;> simp_all
   rw [e1] at hj2
   rw [hj2]
   simp [rdOf, List.getD_eq_getElem?_getD, hx]
 ·
  exact absurd h (by simp)

/-! ### impl_bracesOf: function 67 -/
def impl_bracesOf.l0 : Nat → List ByteArray → List (S27) → Int → Int → Option (ByteArray)
 | 0, _, _, _, _ => none
 | k + 1, x3, x8, x9, x10 => if x10 < x9 then (if 0 ≤ x10 then (if x10 < (x8.length : Int) then ((impl_FormatAtom.f k ((rd_T27 x8 x10).f0) ((rd_T27 x8 x10).f1) ((rd_T27 x8 x10).f2)).bind fun qm => (if x3.length < 8796093022208 then (impl_bracesOf.l0 k (x3 ++ [qm]) x8 x9 (wrap64 (x10 + 1))) else (none))) else (none)) else (none)) else ((strings_Join.f x3 (⟨#[44]⟩ : ByteArray)).bind fun qe => (if 1 + qe.size ≤ 9223372036854775807 then (if ((⟨#[123]⟩ : ByteArray) ++ qe).size + 1 ≤ 9223372036854775807 then (some (((⟨#[123]⟩ : ByteArray) ++ qe) ++ (⟨#[125]⟩ : ByteArray))) else (none)) else (none)))
def impl_bracesOf.f (k : Nat) (a0_0 : Int) (l0_1 : List (S27)) : Option (ByteArray) := impl_bracesOf.l0 k (([] : List ByteArray)) l0_1 (l0_1.length : Int) 0
theorem impl_bracesOf.mono_l : ∀ k, (∀ y0 y1 y2 y3, LeO (impl_bracesOf.l0 k y0 y1 y2 y3) (impl_bracesOf.l0 (k + 1) y0 y1 y2 y3))
 | 0 => fun _ _ _ _ r h => by simp [impl_bracesOf.l0] at h
 | k + 1 => by
  have ih0 := impl_bracesOf.mono_l k
  ·
   intro y0 y1 y2 y3
   unfold impl_bracesOf.l0
   repeat' first
   | (with_reducible exact ih0 _ _ _ _)
   | (with_reducible exact impl_FormatAtom.mono _ _ _ _)
   | (with_reducible exact LeO.refl _)
   | (with_reducible exact LeO.none _)
   | (with_reducible refine LeO.ite ?_ ?_)
   | (with_reducible refine LeO.bind ?_ (fun _ => ?_))
   | exact ih0 _ _ _ _
   | exact impl_FormatAtom.mono _ _ _ _
   | exact LeO.none _
   | refine LeO.ite ?_ ?_
   | refine LeO.bind ?_ (fun _ => ?_)
theorem impl_bracesOf.mono : ∀ a0 a1 k, LeO (impl_bracesOf.f k a0 a1) (impl_bracesOf.f (k + 1) a0 a1) := by
 intro a0 a1 k
 have ih0 := impl_bracesOf.mono_l k
 unfold impl_bracesOf.f
 repeat' first
   | (with_reducible exact ih0 _ _ _ _)
   | (with_reducible exact impl_FormatAtom.mono _ _ _ _)
   | (with_reducible exact LeO.refl _)
   | (with_reducible exact LeO.none _)
   | (with_reducible refine LeO.ite ?_ ?_)
   | (with_reducible refine LeO.bind ?_ (fun _ => ?_))
   | exact ih0 _ _ _ _
   | exact impl_FormatAtom.mono _ _ _ _
   | exact LeO.none _
   | refine LeO.ite ?_ ?_
   | refine LeO.bind ?_ (fun _ => ?_)
set_option maxHeartbeats 8000000 in
set_option maxRecDepth 100000 in
theorem impl_bracesOf.calls (k : Nat) (a0_0 : Int) (A0_1 : Option Addr) (c0_1 : Nat) (l0_1 : List (S27)) (r : ByteArray) (w : World) (hL : LaidW w) (hr0_1 : Kd.C k27 w A0_1 l0_1.length l0_1) (hc0_1 : l0_1.length ≤ c0_1) (h : impl_bracesOf.f k a0_0 l0_1 = some r) :
  Calls Tryd.prog 67 #[.agg #[.int .i64 a0_0, .slice A0_1 l0_1.length c0_1]] w fun e w' => e = .returned (.string r) ∧ Below w.heap.size w w' := by
 have HL_ := Aside0.mk hL
 clear hL
 have hu41 := Tryd.underlying41
 have hu27 := Tryd.underlying27
 have qw := Aside0.mk hr0_1
 have qL := Aside0.mk hc0_1
 clear hr0_1 hc0_1
 have HB := Aside0.mk (Below.refl w.heap.size w)
 have H : (impl_bracesOf.l0 k (([] : List ByteArray)) l0_1 (l0_1.length : Int) 0) = some r := h
 clear h
 obtain ⟨y197, hy197⟩ : ∃ y_ : List ByteArray, y_ = (([] : List ByteArray)) := ⟨_, rfl⟩
 replace H : (impl_bracesOf.l0 k y197 l0_1 (l0_1.length : Int) 0) = some r := by first | (rw [hy197]; with_reducible exact H) | (have H2_ := (Option.bind_some _ _).symm.trans H; rw [hy197]; with_reducible exact H2_) | (have H2_ := (Option.bind_some _ _).symm.trans H; with_reducible exact H2_) | with_reducible exact H | (rw [hy197]; exact H) | exact H
 have Ny197 := Aside0.mk hy197
 clear hy197
 have H' := Aside0.mk H
 clear H
 go_enter Tryd.func67, Tryd.ntmps67
 go_wp2_with (first | ((with_reducible refine gate_dst (N := 1) rfl ?_); refine box_event ?hg (N := 1) ?hd (cs := #[.int .i64 a0_0, .slice A0_1 l0_1.length c0_1]) (t := 41) ?hr ?_; (case hd => rfl); (case hg => rfl); (case hr => first | (go_simp; done) | (go_simp; rfl)); intro qf hg w2 hbox hb; have qb := Aside0.mk (hbox); have qM := Aside0.mk ((by rw [hg]; exact (bz_ HB) : w.heap.size ≤ qf)); have qN := Aside0.mk ((by rw [hg]; exact (bz_ HB) : w.heap.size ≤ qf)); replace HB := bS_ HB hb; clear hb hbox hg) | ((with_reducible refine gate_dst (N := 6) rfl ?_); refine Kd.R_lit Kd.string _ 9 ?hg (N := 6) ?hd (xs := ([] : List ByteArray)) (inner := []) (ok := fun _ => True) (okp := fun _ => True) ?hr ?hp (fun _ hk => hk) trivial (Below.refl _ _) (Nat.le_refl _) (by simp) ?_; (case hd => rfl); (case hg => rfl); (case hr => first | (go_simp; done) | (go_simp; rfl)); (case hp => exact (Reps.none _ _)); intro qX w3 ho4 hb hg_ hnew_; clear hg_ hnew_; (first | rw [← Ny197.out] at ho4 | (simp only [Int.reduceToNat] at ho4; rw [← Ny197.out] at ho4)); have qx := Aside0.mk (Kd.R_lower ho4 (bz_ HB)); replace qb := kB_ qb hb; replace HB := bS_ HB hb; clear hb ho4; have qs : w3.cell? ⟨qf, 0, none⟩ = some (.int .i64 a0_0) := bc_ qb 0; have qt : w3.cell? ⟨qf, 1, none⟩ = some (.slice A0_1 l0_1.length c0_1) := bc_ qb 1; have qu := blk_frozen qb.out 0; have qv := blk_frozen qb.out 1))
 go_loopg [3, 10] k (fun kq v3 v10 w' => ∃ (qi : List ByteArray) (qa : Int), v10 = .int .i64 qa ∧ Aside0 (impl_bracesOf.l0 kq qi l0_1 (l0_1.length : Int) qa = some r) ∧ Aside0 (kq ≤ k) ∧ Aside0 (Kd.R Kd.string 9 w' w.heap.size (fun _ => True) v3 qi) ∧ Aside0 (w'.heap[qf]? = some (.cells #[.int .i64 a0_0, (.slice A0_1 l0_1.length c0_1)] 41 (0, 0))) ∧ Aside0 (Below w.heap.size w w'))
 case atStart => exact ⟨(y197), (0), (by first | rfl | (simp; done) | (simp [*]; done)), H', ⟨Nat.le_refl _⟩, ⟨by (with_reducible repeat (first | apply Kd.R_alloc | apply Kd.R_drewN | apply Kd.R_drew)); exact qx.out⟩, ⟨kf_ qb⟩, ⟨bb_ HB⟩⟩
 case round =>
  clear H'
  try clear p2
  try clear qs
  try clear qt
  try clear qu
  try clear qv
  obtain ⟨qi, qa, rfl, HA, HK1, qg, qb, HB⟩ := hrel
  cases gk with
  | zero => exact absurd HA.out (by simp [impl_bracesOf.l0])
  | succ k1 =>
   have H := HA.out
   clear HA
   simp only [impl_bracesOf.l0] at H
   by_cases c6 : qa < (l0_1.length : Int)
   ·
    rw [if_pos c6] at H
    have qH : decide (qa < (l0_1.length : Int)) = true := decide_eq_true c6
    clear c6
    by_cases c7 : 0 ≤ qa
    ·
     rw [if_pos c7] at H
     have qY : decide (0 ≤ qa) = true := decide_eq_true c7
     clear c7
     by_cases c8 : qa < (l0_1.length : Int)
     ·
      rw [if_pos c8] at H
      have qZ : decide (qa < (l0_1.length : Int)) = true := decide_eq_true c8
      clear c8
      replace H := Option.bind_eq_some_iff.mp H
      obtain ⟨qm, A90, H⟩ := H
      replace H : (if qi.length < 8796093022208 then (impl_bracesOf.l0 k1 (qi ++ [qm]) l0_1 (l0_1.length : Int) (wrap64 (qa + 1))) else (none)) = some r := H
      have A9 := Aside0.mk A90
      clear A90
      by_cases c10 : qi.length < 8796093022208
      ·
       rw [if_pos c10] at H
       have LMc10 := Aside0.mk c10
       clear c10
       obtain ⟨y203, hy203⟩ : ∃ y_ : List ByteArray, y_ = (qi ++ [qm]) := ⟨_, rfl⟩
       replace H : (impl_bracesOf.l0 k1 y203 l0_1 (l0_1.length : Int) (wrap64 (qa + 1))) = some r := by first | (rw [hy203]; with_reducible exact H) | (have H2_ := (Option.bind_some _ _).symm.trans H; rw [hy203]; with_reducible exact H2_) | (have H2_ := (Option.bind_some _ _).symm.trans H; with_reducible exact H2_) | with_reducible exact H | (rw [hy203]; exact H) | exact H
       have Ny203 := Aside0.mk hy203
       clear hy203
       have H' := Aside0.mk H
       clear H
       have p200 : 0 ≤ (qa : Int) := of_decide_eq_true (by first | (with_reducible assumption) | assumption)
       have q200 : qa < (l0_1.length : Int) := of_decide_eq_true (by first | (with_reducible assumption) | assumption)
       obtain ⟨qr, qh, c200_0, e200, qj, qk, ql, hl200_0, hi200_0⟩ := at_T27 qw.out qa p200 q200
       cases e200
       replace qj := (HB.out.cell (World.block_lt_of_cell? w _ qj)).trans qj
       replace qk := (HB.out.cell (World.block_lt_of_cell? w _ qk)).trans qk
       replace ql := (HB.out.cell (World.block_lt_of_cell? w _ ql)).trans ql
       have qp := Aside0.mk hi200_0
       have qq := Aside0.mk hl200_0
       clear hi200_0 hl200_0
       replace p200 := eq_true p200
       replace q200 := eq_true q200
       go_wp2_with (first | ((with_reducible refine gate_dst (N := 5) rfl ?_); refine box_event ?hg (N := 5) ?hd (cs := #[.slice none 0 0, .int .i64 0, .bool false]) (t := 27) ?hr ?_; (case hd => rfl); (case hg => rfl); (case hr => first | (go_simp; done) | (go_simp; rfl)); intro qc hg qI hbox hb; replace qg := rB_ qg hb; have qd := Aside0.mk (hbox); have qO := Aside0.mk ((by rw [hg]; exact (bz_ HB) : w.heap.size ≤ qc)); have qP := Aside0.mk ((by rw [hg]; exact (bz_ HB) : w.heap.size ≤ qc)); replace HB := bS_ HB hb; have qn := Aside0.mk ((nl_ qb hg : qf ≠ qc)); have qo := Aside0.mk ((ng_ qb hg : qc ≠ qf)); replace qb := kB_ qb hb; clear hb hbox hg; have qQ := qo.out; have qR := qn.out; have qB : qI.cell? ⟨qc, 0, none⟩ = some (.slice none 0 0) := bc_ qd 0; have qC : qI.cell? ⟨qc, 1, none⟩ = some (.int .i64 0) := bc_ qd 1; have qD : qI.cell? ⟨qc, 2, none⟩ = some (.bool false) := bc_ qd 2; have qE := blk_frozen qd.out 0; have qF := blk_frozen qd.out 1; have qG := blk_frozen qd.out 2) | ((with_reducible refine gate_callee (f := 14) rfl ?_); refine goesL_ (some 16) rfl rfl Tryd.func14 (by kernel_rfl) rfl #[.agg #[.slice qh ((rd_T27 l0_1 qa).f0).length c200_0, .int .i64 ((rd_T27 l0_1 qa).f1), .bool ((rd_T27 l0_1 qa).f2)]] rfl (by (try simp only [List.map_toArray, List.map_cons, List.map_nil]); first | done | rfl | (simp only [List.length_drop, List.length_take]; rfl)) ?_; (with_reducible refine (impl_FormatAtom.calls (hL := laid_ HL_ HB) k1 _ _ ((rd_T27 l0_1 qa).f0) ((rd_T27 l0_1 qa).f1) ((rd_T27 l0_1 qa).f2) qm _ ?side1 ?side2 A9.out).mono ?_); (case side1 => exact Kd.C_below qp.out (bb_ HB)); (case side2 => exact qq.out); rintro e q1 ⟨rfl, hb⟩; refine ⟨_, rfl, ?_⟩; replace qg := Aside0.mk (Kd.R_below (by (with_reducible repeat (first | apply Kd.R_alloc | apply Kd.R_drewN | apply Kd.R_drew)); exact (Kd.R_mono (Kd.R_far (p := ⟨qc, 2, none⟩) (Kd.R_far (p := ⟨qc, 1, none⟩) (Kd.R_far (p := ⟨qc, 0, none⟩) (Kd.R_types qg.out qd.out (by decide)) (fun _ hk => hk.2) (.slice qh ((rd_T27 l0_1 qa).f0).length c200_0)) (fun _ hk => hk.2) (.int .i64 ((rd_T27 l0_1 qa).f1))) (fun _ hk => hk.2) (.bool ((rd_T27 l0_1 qa).f2))) (fun _ h_ => h_.1))) hb); replace qb := Aside0.mk (blk_below (g := qf) (o := .cells #[.int .i64 a0_0, .slice (some qr) l0_1.length c0_1] 41 (0, 0)) (kf_ qb) hb); replace qd := Aside0.mk (blk_below (g := qc) (o := .cells #[.slice qh ((rd_T27 l0_1 qa).f0).length c200_0, .int .i64 ((rd_T27 l0_1 qa).f1), .bool ((rd_T27 l0_1 qa).f2)] 27 (0, 0)) (by (with_reducible repeat (first | refine blk_drewN ?_ _ | refine blk_drew ?_ | refine blk_alloc ?_ _)); refine blk_put (cs := #[.slice qh ((rd_T27 l0_1 qa).f0).length c200_0, .int .i64 ((rd_T27 l0_1 qa).f1), .bool false]) ?_ 2 _ rfl; (with_reducible repeat (first | refine blk_drewN ?_ _ | refine blk_drew ?_ | refine blk_alloc ?_ _)); refine blk_put (cs := #[.slice qh ((rd_T27 l0_1 qa).f0).length c200_0, .int .i64 0, .bool false]) ?_ 1 _ rfl; (with_reducible repeat (first | refine blk_drewN ?_ _ | refine blk_drew ?_ | refine blk_alloc ?_ _)); refine blk_put (cs := #[.slice none 0 0, .int .i64 0, .bool false]) ?_ 0 _ rfl; (with_reducible repeat (first | refine blk_drewN ?_ _ | refine blk_drew ?_ | refine blk_alloc ?_ _)); exact qd.out) hb); replace HB := bS_ HB hb; (try clear hb); (try clear hb2); (try clear hk); (try clear hi)) | ((with_reducible refine gate_builtin (b := .append) (xs := #[.tmp 14, .tmp 17]) rfl ?_); at_builtin; refine Kd.R_append Kd.string (w0 := w) w.heap.size rfl (.tmp 14) (.tmp 17) 101 9 (.string ⟨#[]⟩) 16 rfl Tryd.underlying101 info9 rfl (by decide) (by omega) u3 qi qm [.string qm] (fun _ => True) (fun _ => False) rfl rfl ?aP (fun _ hk => hk.elim) ?aF ?aO ?aB ?aS ?aL ?_; (case aP => exact rfl); (case aB => exact (bb_ HB)); (case aF => exact (fun _ _ => trivial)); (case aO => exact (rm_ qg)); (case aS => exact (bz_ HB)); (case aL => have := LMc10.out; omega); intro q0 q2 ho hb hg hat; rw [← Ny203.out] at ho; replace qb := Aside0.mk (blk_grown (g := qf) (o := .cells #[.int .i64 a0_0, .slice (some qr) l0_1.length c0_1] 41 (0, 0)) (kf_ qb) hg (Kd.R_ne qg.out qb.out (by decide))); replace qd := Aside0.mk (blk_grown (g := qc) (o := .cells #[.slice qh ((rd_T27 l0_1 qa).f0).length c200_0, .int .i64 ((rd_T27 l0_1 qa).f1), .bool ((rd_T27 l0_1 qa).f2)] 27 (0, 0)) (kf_ qd) hg (Kd.R_ne qg.out qd.out (by decide))); replace HB := Aside0.mk (hb); have qy := Aside0.mk (ho); clear qg; clear ho hb hg hat))
       go_roundg k1
       case measure => have := HK1.out; omega
       case rel => exact ⟨(y203), (wrap64 (qa + 1)), (by first | rfl | (simp; done) | (simp [*]; done)), H', ⟨by have := HK1.out; omega⟩, ⟨by (with_reducible repeat (first | apply Kd.R_alloc | apply Kd.R_drewN | apply Kd.R_drew)); exact qy.out⟩, ⟨kf_ qb⟩, ⟨bb_ HB⟩⟩
      ·
       rw [if_neg c10] at H
       exact absurd H (by simp)
     ·
      rw [if_neg c8] at H
      exact absurd H (by simp)
    ·
     rw [if_neg c7] at H
     exact absurd H (by simp)
   ·
    rw [if_neg c6] at H
    have qH : decide (qa < (l0_1.length : Int)) = false := decide_eq_false c6
    clear c6
    replace H := Option.bind_eq_some_iff.mp H
    obtain ⟨qe, A160, H⟩ := H
    replace H : (if 1 + qe.size ≤ 9223372036854775807 then (if ((⟨#[123]⟩ : ByteArray) ++ qe).size + 1 ≤ 9223372036854775807 then (some (((⟨#[123]⟩ : ByteArray) ++ qe) ++ (⟨#[125]⟩ : ByteArray))) else (none)) else (none)) = some r := H
    have A16 := Aside0.mk A160
    clear A160
    by_cases c17 : 1 + qe.size ≤ 9223372036854775807
    ·
     rw [if_pos c17] at H
     have qS := eq_true c17
     have qT : decide (1 + qe.size ≤ 9223372036854775807) = true := decide_eq_true c17
     try have qU : (9223372036854775807 < 1 + qe.size) = False := eq_false (Nat.not_lt.2 c17)
     by_cases c18 : ((⟨#[123]⟩ : ByteArray) ++ qe).size + 1 ≤ 9223372036854775807
     ·
      rw [if_pos c18] at H
      have qV := eq_true c18
      have qW : decide (((⟨#[123]⟩ : ByteArray) ++ qe).size + 1 ≤ 9223372036854775807) = true := decide_eq_true c18
      try have qz : (9223372036854775807 < ((⟨#[123]⟩ : ByteArray) ++ qe).size + 1) = False := eq_false (Nat.not_lt.2 c18)
      try (have qA := qz; simp only [ByteArray.size_append, show ∀ c, (ByteArray.mk #[c]).size = 1 from fun _ => rfl, show ∀ c d, (ByteArray.mk #[c, d]).size = 2 from fun _ _ => rfl, show ∀ c d e, (ByteArray.mk #[c, d, e]).size = 3 from fun _ _ _ => rfl] at qA)
      obtain rfl := Option.some.inj H
      obtain ⟨qJ, qK, eo19⟩ := Kd.R_slice qg.out
      subst eo19
      go_wp2_with (first | ((with_reducible refine gate_callee (f := 98) rfl ?_); refine goesL_ (some 21) rfl rfl Tryd.func98 (by kernel_rfl) rfl #[.slice qJ qi.length qK, .string (⟨#[44]⟩ : ByteArray)] rfl (by (try simp only [List.map_toArray, List.map_cons, List.map_nil]); first | done | rfl | (simp only [List.length_drop, List.length_take]; rfl)) ?_; (with_reducible refine (strings_Join.calls _ _ qi (⟨#[44]⟩ : ByteArray) qe _ ?side1 ?side2 A16.out).mono ?_); (case side1 => exact cr_ qg); (case side2 => exact (Kd.R_reads' qg.out).2.1); rintro e q3 ⟨rfl, hb⟩; refine ⟨_, rfl, ?_⟩; replace qg := rB_ qg hb; replace qb := kB_ qb hb; replace HB := bS_ HB hb; (try clear hb); (try clear hb2); (try clear hk); (try clear hi)))
      go_ret
      exact ⟨by first | rfl | (simp [errW_none, errW_some] <;> rfl) | (simp [*, errW_none, errW_some] <;> rfl), bb_ HB⟩
     ·
      rw [if_neg c18] at H
      exact absurd H (by simp)
    ·
     rw [if_neg c17] at H
     exact absurd H (by simp)

/-! ### impl_FormatCell: function 21 -/
def impl_FormatCell.f (k : Nat) (a0_0 : Int) (l0_1 : List (S27)) : Option (ByteArray) := (impl_IsCell.f k a0_0 l0_1).bind fun qe => (if qe = true then ((impl_FormatInt.f a0_0).bind fun qc => ((impl_bracesOf.f k a0_0 l0_1).bind fun qb => (if qc.size + qb.size ≤ 9223372036854775807 then (some (qc ++ qb)) else (none)))) else (some (⟨#[]⟩ : ByteArray)))
theorem impl_FormatCell.mono : ∀ a0 a1 k, LeO (impl_FormatCell.f k a0 a1) (impl_FormatCell.f (k + 1) a0 a1) := by
 intro a0 a1 k
 unfold impl_FormatCell.f
 repeat' first
   | (with_reducible exact impl_IsCell.mono _ _ _)
   | (with_reducible exact impl_bracesOf.mono _ _ _)
   | (with_reducible exact LeO.refl _)
   | (with_reducible exact LeO.none _)
   | (with_reducible refine LeO.ite ?_ ?_)
   | (with_reducible refine LeO.bind ?_ (fun _ => ?_))
   | exact impl_IsCell.mono _ _ _
   | exact impl_bracesOf.mono _ _ _
   | exact LeO.none _
   | refine LeO.ite ?_ ?_
   | refine LeO.bind ?_ (fun _ => ?_)
set_option maxHeartbeats 8000000 in
set_option maxRecDepth 100000 in
theorem impl_FormatCell.calls (k : Nat) (a0_0 : Int) (A0_1 : Option Addr) (c0_1 : Nat) (l0_1 : List (S27)) (r : ByteArray) (w : World) (hL : LaidW w) (hr0_1 : Kd.C k27 w A0_1 l0_1.length l0_1) (hc0_1 : l0_1.length ≤ c0_1) (h : impl_FormatCell.f k a0_0 l0_1 = some r) :
  Calls Tryd.prog 21 #[.agg #[.int .i64 a0_0, .slice A0_1 l0_1.length c0_1]] w fun e w' => e = .returned (.string r) ∧ Below w.heap.size w w' := by
 have HL_ := Aside0.mk hL
 clear hL
 have hu41 := Tryd.underlying41
 have qf := Aside0.mk hr0_1
 have qg := Aside0.mk hc0_1
 clear hr0_1 hc0_1
 have HB := Aside0.mk (Below.refl w.heap.size w)
 have H : ((impl_IsCell.f k a0_0 l0_1).bind fun qe => (if qe = true then ((impl_FormatInt.f a0_0).bind fun qc => ((impl_bracesOf.f k a0_0 l0_1).bind fun qb => (if qc.size + qb.size ≤ 9223372036854775807 then (some (qc ++ qb)) else (none)))) else (some (⟨#[]⟩ : ByteArray)))) = some r := h
 clear h
 replace H := Option.bind_eq_some_iff.mp H
 obtain ⟨qe, A20, H⟩ := H
 replace H : (if qe = true then ((impl_FormatInt.f a0_0).bind fun qc => ((impl_bracesOf.f k a0_0 l0_1).bind fun qb => (if qc.size + qb.size ≤ 9223372036854775807 then (some (qc ++ qb)) else (none)))) else (some (⟨#[]⟩ : ByteArray))) = some r := H
 have A2 := Aside0.mk A20
 clear A20
 by_cases c3 : qe = true
 ·
  subst c3
  have H1 : ((impl_FormatInt.f a0_0).bind fun qc => ((impl_bracesOf.f k a0_0 l0_1).bind fun qb => (if qc.size + qb.size ≤ 9223372036854775807 then (some (qc ++ qb)) else (none)))) = some r := by rw [if_pos rfl] at H; exact H
  clear H
  have H := H1
  clear H1
  replace H := Option.bind_eq_some_iff.mp H
  obtain ⟨qc, A40, H⟩ := H
  replace H : ((impl_bracesOf.f k a0_0 l0_1).bind fun qb => (if qc.size + qb.size ≤ 9223372036854775807 then (some (qc ++ qb)) else (none))) = some r := H
  have A4 := Aside0.mk A40
  clear A40
  replace H := Option.bind_eq_some_iff.mp H
  obtain ⟨qb, A50, H⟩ := H
  replace H : (if qc.size + qb.size ≤ 9223372036854775807 then (some (qc ++ qb)) else (none)) = some r := H
  have A5 := Aside0.mk A50
  clear A50
  by_cases c6 : qc.size + qb.size ≤ 9223372036854775807
  ·
   rw [if_pos c6] at H
   have qs := eq_true c6
   have qt : decide (qc.size + qb.size ≤ 9223372036854775807) = true := decide_eq_true c6
   try have qu : (9223372036854775807 < qc.size + qb.size) = False := eq_false (Nat.not_lt.2 c6)
   obtain rfl := Option.some.inj H
   go_enter Tryd.func21, Tryd.ntmps21
   try go_wp2_with (first | ((with_reducible refine gate_dst (N := 1) rfl ?_); refine box_event ?hg (N := 1) ?hd (cs := #[.int .i64 a0_0, .slice A0_1 l0_1.length c0_1]) (t := 41) ?hr ?_; (case hd => rfl); (case hg => rfl); (case hr => first | (go_simp; done) | (go_simp; rfl)); intro qd hg w7 hbox hb; have qa := Aside0.mk (hbox); have qh := Aside0.mk ((by rw [hg]; exact (bz_ HB) : w.heap.size ≤ qd)); have qi := Aside0.mk ((by rw [hg]; exact (bz_ HB) : w.heap.size ≤ qd)); replace HB := bS_ HB hb; clear hb hbox hg; have qn : w7.cell? ⟨qd, 0, none⟩ = some (.int .i64 a0_0) := bc_ qa 0; have qo : w7.cell? ⟨qd, 1, none⟩ = some (.slice A0_1 l0_1.length c0_1) := bc_ qa 1; have qp := blk_frozen qa.out 0; have qq := blk_frozen qa.out 1) | ((with_reducible refine gate_callee (f := 66) rfl ?_); refine goesL_ (some 4) rfl rfl Tryd.func66 (by kernel_rfl) rfl #[.agg #[.int .i64 a0_0, .slice A0_1 l0_1.length c0_1]] rfl (by (try simp only [List.map_toArray, List.map_cons, List.map_nil]); first | done | rfl | (simp only [List.length_drop, List.length_take]; rfl)) ?_; (with_reducible refine (impl_IsCell.calls k a0_0 _ _ l0_1 true _ ?side1 ?side2 A2.out).mono ?_); (case side1 => exact cb_ qf HB); (case side2 => exact qg.out); rintro e w9 ⟨rfl, hb⟩; refine ⟨_, rfl, ?_⟩; replace qa := kB_ qa hb; replace HB := bS_ HB hb; (try clear hb); (try clear hb2); (try clear hk); (try clear hi)))
   replace qa := Aside0.mk (blk_drew qa.out); replace HB := Aside0.mk (below_drew1 HB.out)
   refine start_ (n := 7) (S := fun w' => w'.cell? ⟨qd, 0, none⟩ = some (.int .i64 a0_0) ∧ w'.cell? ⟨qd, 1, none⟩ = some (.slice A0_1 l0_1.length c0_1)) (ds := []) #[false, false, false, false, false, false, false] (by kernel_rfl) rfl rfl ⟨bc_ qa 0, bc_ qa 1⟩ (fun hHeld => ?_)
   generalize w9.drew = qv at qa HB hHeld ⊢
   refine pure_ (i := 0) (N := some 6) (v := ?_) (a' := ?_) #[true, false, false, false, false, false, false] rfl rfl (by kernel_rfl) (fun _ _ _ h => h) (Or.inl ⟨by rfl, ?_⟩) ?_ ?_
   rotate_left
   ·
    intro w'
    go_simp
    with_reducible rfl
   rotate_left
   ·
    simp only [Act.put, List.setIfInBounds_toArray, List.set_cons_zero, List.set_cons_succ, i64_w, i32_w]
    rfl
   refine take_ (i := 1) (N := some 7) (v := ?_) (a' := ?_) #[true, true, false, false, false, false, false] rfl rfl (by kernel_rfl) (fun _ _ _ h => h) (Or.inl ⟨by rfl, ?_⟩) hHeld ?_ ?_
   rotate_left
   ·
    rintro w' ⟨s0, s1⟩
    go_simp
    with_reducible rfl
   rotate_left
   ·
    simp only [Act.put, List.setIfInBounds_toArray, List.set_cons_zero, List.set_cons_succ, i64_w, i32_w]
    rfl
   refine take_ (i := 3) (N := some 9) (v := ?_) (a' := ?_) #[true, true, false, true, false, false, false] rfl rfl (by kernel_rfl) (fun _ _ _ h => h) (Or.inl ⟨by rfl, ?_⟩) hHeld ?_ ?_
   rotate_left
   ·
    rintro w' ⟨s0, s1⟩
    go_simp
    with_reducible rfl
   rotate_left
   ·
    simp only [Act.put, List.setIfInBounds_toArray, List.set_cons_zero, List.set_cons_succ, i64_w, i32_w]
    rfl
   refine one_ (i := 2) (N := some 8) #[true, true, true, true, false, false, false] rfl rfl (by kernel_rfl) (by decide) (fun K hK => ?_)
   refine goes_ Tryd.func56 (by kernel_rfl) rfl #[.int .i64 a0_0] (by rfl) rfl rfl (by (try simp only [List.map_toArray, List.map_cons, List.map_nil]); first | done | rfl | (simp only [List.length_drop, List.length_take]; rfl)) ?_
   with_reducible refine (impl_FormatInt.calls (hL := laid_ HL_ HB) a0_0 qc _ A4.out).mono ?_
   rintro e qw ⟨rfl, hb⟩
   refine ⟨_, rfl, ?_⟩
   replace qa := kB_ qa hb; replace HB := bS_ HB hb; (try clear hb); (try clear hb2); (try clear hk); (try clear hi)
   refine hK.out _ _ ⟨bc_ qa 0, bc_ qa 1⟩ (fun hHeld => ?_)
   clear hK K
   refine norm_ (a' := ?_) ?_ ?_
   rotate_left
   ·
    show Act.put _ (some 8) _ = _
    simp only [Act.put, List.setIfInBounds_toArray, List.set_cons_zero, List.set_cons_succ, i64_w, i32_w]
    rfl
   refine one_ (i := 4) (N := some 10) #[true, true, true, true, true, false, false] rfl rfl (by kernel_rfl) (by decide) (fun K hK => ?_)
   refine goes_ Tryd.func67 (by kernel_rfl) rfl #[.agg #[.int .i64 a0_0, .slice A0_1 l0_1.length c0_1]] (by rfl) rfl rfl (by (try simp only [List.map_toArray, List.map_cons, List.map_nil]); first | done | rfl | (simp only [List.length_drop, List.length_take]; rfl)) ?_
   with_reducible refine (impl_bracesOf.calls (hL := laid_ HL_ HB) k a0_0 _ _ l0_1 qb _ ?side1 ?side2 A5.out).mono ?_
   (case side1 => exact cb_ qf HB)
   (case side2 => exact qg.out)
   rintro e qx ⟨rfl, hb⟩
   refine ⟨_, rfl, ?_⟩
   replace qa := kB_ qa hb; replace HB := bS_ HB hb; (try clear hb); (try clear hb2); (try clear hk); (try clear hi)
   refine hK.out _ _ ⟨bc_ qa 0, bc_ qa 1⟩ (fun hHeld => ?_)
   clear hK K
   refine norm_ (a' := ?_) ?_ ?_
   rotate_left
   ·
    show Act.put _ (some 10) _ = _
    simp only [Act.put, List.setIfInBounds_toArray, List.set_cons_zero, List.set_cons_succ, i64_w, i32_w]
    rfl
   refine pure_ (i := 5) (N := some 11) (v := ?_) (a' := ?_) #[true, true, true, true, true, true, false] rfl rfl (by kernel_rfl) (fun _ _ _ h => h) (Or.inl ⟨by rfl, ?_⟩) ?_ ?_
   rotate_left
   ·
    intro w'
    go_simp
    with_reducible rfl
   rotate_left
   ·
    simp only [Act.put, List.setIfInBounds_toArray, List.set_cons_zero, List.set_cons_succ, i64_w, i32_w]
    rfl
   refine pure_ (i := 6) (N := some 2) (v := ?_) (a' := ?_) #[true, true, true, true, true, true, true] rfl rfl (by kernel_rfl) (fun _ _ _ h => h) (Or.inl ⟨by rfl, ?_⟩) ?_ ?_
   rotate_left
   ·
    intro w'
    go_simp
    with_reducible rfl
   rotate_left
   ·
    simp only [Act.put, List.setIfInBounds_toArray, List.set_cons_zero, List.set_cons_succ, i64_w, i32_w]
    rfl
   refine done_ (by kernel_rfl) ?_
   try go_wp2
   go_ret
   exact ⟨by first | rfl | (simp [errW_none, errW_some] <;> rfl) | (simp [*, errW_none, errW_some] <;> rfl), bb_ HB⟩
  ·
   rw [if_neg c6] at H
   exact absurd H (by simp)
 ·
  replace c3 := Bool.eq_false_iff.mpr c3
  subst c3
  have H1 : (some (⟨#[]⟩ : ByteArray)) = some r := by rw [if_neg (show ¬ (false = true) by decide)] at H; exact H
  clear H
  have H := H1
  clear H1
  obtain rfl := Option.some.inj H
  go_enter Tryd.func21, Tryd.ntmps21
  go_wp2_with (first | ((with_reducible refine gate_dst (N := 1) rfl ?_); refine box_event ?hg (N := 1) ?hd (cs := #[.int .i64 a0_0, .slice A0_1 l0_1.length c0_1]) (t := 41) ?hr ?_; (case hd => rfl); (case hg => rfl); (case hr => first | (go_simp; done) | (go_simp; rfl)); intro qd hg qr hbox hb; have qa := Aside0.mk (hbox); have qh := Aside0.mk ((by rw [hg]; exact (bz_ HB) : w.heap.size ≤ qd)); have qi := Aside0.mk ((by rw [hg]; exact (bz_ HB) : w.heap.size ≤ qd)); replace HB := bS_ HB hb; clear hb hbox hg; have qj : qr.cell? ⟨qd, 0, none⟩ = some (.int .i64 a0_0) := bc_ qa 0; have qk : qr.cell? ⟨qd, 1, none⟩ = some (.slice A0_1 l0_1.length c0_1) := bc_ qa 1; have ql := blk_frozen qa.out 0; have qm := blk_frozen qa.out 1) | ((with_reducible refine gate_callee (f := 66) rfl ?_); refine goesL_ (some 4) rfl rfl Tryd.func66 (by kernel_rfl) rfl #[.agg #[.int .i64 a0_0, .slice A0_1 l0_1.length c0_1]] rfl (by (try simp only [List.map_toArray, List.map_cons, List.map_nil]); first | done | rfl | (simp only [List.length_drop, List.length_take]; rfl)) ?_; (with_reducible refine (impl_IsCell.calls k a0_0 _ _ l0_1 false _ ?side1 ?side2 A2.out).mono ?_); (case side1 => exact cb_ qf HB); (case side2 => exact qg.out); rintro e qy ⟨rfl, hb⟩; refine ⟨_, rfl, ?_⟩; replace qa := kB_ qa hb; replace HB := bS_ HB hb; (try clear hb); (try clear hb2); (try clear hk); (try clear hi)))
  go_ret
  exact ⟨by first | rfl | (simp [errW_none, errW_some] <;> rfl) | (simp [*, errW_none, errW_some] <;> rfl), bb_ HB⟩

/-! ### laws_eqIntS: function 58 -/
def laws_eqIntS.l0 : Nat → List Int → List Int → Int → Option (Bool)
 | 0, _, _, _ => none
 | k + 1, x0, x1, x5 => if x5 < (x0.length : Int) then (if 0 ≤ x5 then (if x5 < (x1.length : Int) then (if (rd x0 x5) = (rd x1 x5) then (laws_eqIntS.l0 k x0 x1 (wrap64 (x5 + 1))) else (some false)) else (none)) else (none)) else (some true)
def laws_eqIntS.f (k : Nat) (l0 : List Int) (l1 : List Int) : Option (Bool) := if (l0.length : Int) = (l1.length : Int) then (laws_eqIntS.l0 k l0 l1 0) else (some false)
theorem laws_eqIntS.mono_l : ∀ k, (∀ y0 y1 y2, LeO (laws_eqIntS.l0 k y0 y1 y2) (laws_eqIntS.l0 (k + 1) y0 y1 y2))
 | 0 => fun _ _ _ r h => by simp [laws_eqIntS.l0] at h
 | k + 1 => by
  have ih0 := laws_eqIntS.mono_l k
  ·
   intro y0 y1 y2
   unfold laws_eqIntS.l0
   repeat' first
   | (with_reducible exact ih0 _ _ _)
   | (with_reducible exact LeO.refl _)
   | (with_reducible exact LeO.none _)
   | (with_reducible refine LeO.ite ?_ ?_)
   | (with_reducible refine LeO.bind ?_ (fun _ => ?_))
   | exact ih0 _ _ _
   | exact LeO.none _
   | refine LeO.ite ?_ ?_
   | refine LeO.bind ?_ (fun _ => ?_)
theorem laws_eqIntS.mono : ∀ a0 a1 k, LeO (laws_eqIntS.f k a0 a1) (laws_eqIntS.f (k + 1) a0 a1) := by
 intro a0 a1 k
 have ih0 := laws_eqIntS.mono_l k
 unfold laws_eqIntS.f
 repeat' first
   | (with_reducible exact ih0 _ _ _)
   | (with_reducible exact LeO.refl _)
   | (with_reducible exact LeO.none _)
   | (with_reducible refine LeO.ite ?_ ?_)
   | (with_reducible refine LeO.bind ?_ (fun _ => ?_))
   | exact ih0 _ _ _
   | exact LeO.none _
   | refine LeO.ite ?_ ?_
   | refine LeO.bind ?_ (fun _ => ?_)
set_option maxHeartbeats 8000000 in
set_option maxRecDepth 100000 in
theorem laws_eqIntS.calls (k : Nat) (A0 : Option Addr) (c0 : Nat) (l0 : List Int) (A1 : Option Addr) (c1 : Nat) (l1 : List Int) (r : Bool) (w : World) (hr0 : Kd.C (Kd.int .i64) w A0 l0.length l0) (hc0 : l0.length ≤ c0) (hr1 : Kd.C (Kd.int .i64) w A1 l1.length l1) (hc1 : l1.length ≤ c1) (h : laws_eqIntS.f k l0 l1 = some r) :
  Calls Tryd.prog 58 #[.slice A0 l0.length c0, .slice A1 l1.length c1] w fun e w' => e = .returned (.bool r) ∧ Drawn0 w w' := by
 have HR0 := Aside0.mk hr0
 have HC0 := Aside0.mk hc0
 clear hr0 hc0
 have HR1 := Aside0.mk hr1
 have HC1 := Aside0.mk hc1
 clear hr1 hc1
 have H : (if (l0.length : Int) = (l1.length : Int) then (laws_eqIntS.l0 k l0 l1 0) else (some false)) = some r := h
 clear h
 by_cases c3 : (l0.length : Int) = (l1.length : Int)
 ·
  rw [if_pos c3] at H
  have qd : ((l0.length : Int) == (l1.length : Int)) = true := beq_iff_eq.mpr c3
  have qe : ((l0.length : Int) != (l1.length : Int)) = false := bne_eq_false_iff_eq.mpr c3
  have qf : (l0.length == l1.length) = true := by first | simpa using c3 | (simp at c3 ⊢; omega)
  clear c3
  have H' := Aside0.mk H
  clear H
  go_enter Tryd.func58, Tryd.ntmps58
  go_wp2
  repeat (go_quiet (fail); try go_wp2)
  go_loopg [5] k (fun kq v5 w' => ∃ (qa : Int), v5 = .int .i64 qa ∧ Aside0 (laws_eqIntS.l0 kq l0 l1 qa = some r) ∧ Aside0 (kq ≤ k) ∧ Drawn0 w w')
  case atStart => exact ⟨(0), (by first | rfl | (simp; done) | (simp [*]; done)), H', ⟨Nat.le_refl _⟩, by repeat (first | exact Drawn0.refl _ | apply Drawn0.step)⟩
  case round =>
   clear H'
   try clear c1
   try clear p2
   try clear c3
   try clear qd
   try clear qe
   try clear qf
   obtain ⟨qa, rfl, HA, HK1, ⟨m1, rfl⟩⟩ := hrel
   cases gk with
   | zero => exact absurd HA.out (by simp [laws_eqIntS.l0])
   | succ k1 =>
    have H := HA.out
    clear HA
    simp only [laws_eqIntS.l0] at H
    by_cases c4 : qa < (l0.length : Int)
    ·
     rw [if_pos c4] at H
     have qi : decide (qa < (l0.length : Int)) = true := decide_eq_true c4
     clear c4
     by_cases c5 : 0 ≤ qa
     ·
      rw [if_pos c5] at H
      have ql : decide (0 ≤ qa) = true := decide_eq_true c5
      clear c5
      by_cases c6 : qa < (l1.length : Int)
      ·
       rw [if_pos c6] at H
       have qm : decide (qa < (l1.length : Int)) = true := decide_eq_true c6
       clear c6
       by_cases c7 : (rd l0 qa) = (rd l1 qa)
       ·
        rw [if_pos c7] at H
        have qj : ((rd l0 qa) == (rd l1 qa)) = true := beq_iff_eq.mpr c7
        have qk : ((rd l0 qa) != (rd l1 qa)) = false := bne_eq_false_iff_eq.mpr c7
        clear c7
        have H' := Aside0.mk H
        clear H
        have p211 : 0 ≤ (qa : Int) := of_decide_eq_true (by first | (with_reducible assumption) | assumption)
        have q211 : qa < (l0.length : Int) := of_decide_eq_true (by first | (with_reducible assumption) | assumption)
        obtain ⟨qg, e211, qb⟩ := Kd.at_int HR0.out qa p211 q211
        cases e211
        replace p211 := eq_true p211
        replace q211 := eq_true q211
        have p212 : 0 ≤ (qa : Int) := of_decide_eq_true (by first | (with_reducible assumption) | assumption)
        have q212 : qa < (l1.length : Int) := of_decide_eq_true (by first | (with_reducible assumption) | assumption)
        obtain ⟨qh, e212, qc⟩ := Kd.at_int HR1.out qa p212 q212
        cases e212
        replace p212 := eq_true p212
        replace q212 := eq_true q212
        go_wp2
        repeat (go_quiet (fail); try go_wp2)
        go_roundg k1
        case measure => have := HK1.out; omega
        case rel => exact ⟨(wrap64 (qa + 1)), (by first | rfl | (simp; done) | (simp [*]; done)), H', ⟨by have := HK1.out; omega⟩, by repeat (first | exact Drawn0.refl _ | apply Drawn0.step)⟩
       ·
        rw [if_neg c7] at H
        have qj : ((rd l0 qa) == (rd l1 qa)) = false := beq_eq_false_iff_ne.mpr c7
        have qk : ((rd l0 qa) != (rd l1 qa)) = true := bne_iff_ne.mpr c7
        obtain rfl := Option.some.inj H
        have p211 : 0 ≤ (qa : Int) := of_decide_eq_true (by first | (with_reducible assumption) | assumption)
        have q211 : qa < (l0.length : Int) := of_decide_eq_true (by first | (with_reducible assumption) | assumption)
        obtain ⟨qg, e211, qb⟩ := Kd.at_int HR0.out qa p211 q211
        cases e211
        replace p211 := eq_true p211
        replace q211 := eq_true q211
        have p212 : 0 ≤ (qa : Int) := of_decide_eq_true (by first | (with_reducible assumption) | assumption)
        have q212 : qa < (l1.length : Int) := of_decide_eq_true (by first | (with_reducible assumption) | assumption)
        obtain ⟨qh, e212, qc⟩ := Kd.at_int HR1.out qa p212 q212
        cases e212
        replace p212 := eq_true p212
        replace q212 := eq_true q212
        go_wp2
        repeat (go_quiet (fail); try go_wp2)
        go_ret
        exact ⟨by first | rfl | (simp; done) | (simp [*]; done), by repeat (first | exact Drawn0.refl _ | apply Drawn0.step)⟩
      ·
       rw [if_neg c6] at H
       exact absurd H (by simp)
     ·
      rw [if_neg c5] at H
      exact absurd H (by simp)
    ·
     rw [if_neg c4] at H
     have qi : decide (qa < (l0.length : Int)) = false := decide_eq_false c4
     clear c4
     obtain rfl := Option.some.inj H
     go_wp2
     repeat (go_quiet (fail); try go_wp2)
     go_ret
     exact ⟨by first | rfl | (simp; done) | (simp [*]; done), by repeat (first | exact Drawn0.refl _ | apply Drawn0.step)⟩
 ·
  rw [if_neg c3] at H
  have qd : ((l0.length : Int) == (l1.length : Int)) = false := beq_eq_false_iff_ne.mpr c3
  have qe : ((l0.length : Int) != (l1.length : Int)) = true := bne_iff_ne.mpr c3
  have qf : (l0.length == l1.length) = false := by first | simpa using c3 | (simp at c3 ⊢; omega)
  obtain rfl := Option.some.inj H
  go_enter Tryd.func58, Tryd.ntmps58
  go_wp2
  repeat (go_quiet (fail); try go_wp2)
  go_ret
  exact ⟨by first | rfl | (simp; done) | (simp [*]; done), by repeat (first | exact Drawn0.refl _ | apply Drawn0.step)⟩

/-! ### laws_eqAtom: function 15 -/
def laws_eqAtom.f (k : Nat) (l0_0 : List Int) (a0_1 : Int) (a0_2 : Bool) (l1_0 : List Int) (a1_1 : Int) (a1_2 : Bool) : Option (Bool) := (laws_eqIntS.f k l0_0 l1_0).bind fun qk => (if qk = true then (if a0_1 = a1_1 then (if (a0_2 != a1_2) = true then (some false) else (some true)) else (some false)) else (some false))
theorem laws_eqAtom.mono : ∀ a0 a1 a2 a3 a4 a5 k, LeO (laws_eqAtom.f k a0 a1 a2 a3 a4 a5) (laws_eqAtom.f (k + 1) a0 a1 a2 a3 a4 a5) := by
 intro a0 a1 a2 a3 a4 a5 k
 unfold laws_eqAtom.f
 repeat' first
   | (with_reducible exact laws_eqIntS.mono _ _ _)
   | (with_reducible exact LeO.refl _)
   | (with_reducible exact LeO.none _)
   | (with_reducible refine LeO.ite ?_ ?_)
   | (with_reducible refine LeO.bind ?_ (fun _ => ?_))
   | exact laws_eqIntS.mono _ _ _
   | exact LeO.none _
   | refine LeO.ite ?_ ?_
   | refine LeO.bind ?_ (fun _ => ?_)
set_option maxHeartbeats 8000000 in
set_option maxRecDepth 100000 in
theorem laws_eqAtom.calls (k : Nat) (A0_0 : Option Addr) (c0_0 : Nat) (l0_0 : List Int) (a0_1 : Int) (a0_2 : Bool) (A1_0 : Option Addr) (c1_0 : Nat) (l1_0 : List Int) (a1_1 : Int) (a1_2 : Bool) (r : Bool) (w : World) (hr0_0 : Kd.C (Kd.int .i64) w A0_0 l0_0.length l0_0) (hc0_0 : l0_0.length ≤ c0_0) (hr1_0 : Kd.C (Kd.int .i64) w A1_0 l1_0.length l1_0) (hc1_0 : l1_0.length ≤ c1_0) (h : laws_eqAtom.f k l0_0 a0_1 a0_2 l1_0 a1_1 a1_2 = some r) :
  Calls Tryd.prog 15 #[.agg #[.slice A0_0 l0_0.length c0_0, .int .i64 a0_1, .bool a0_2], .agg #[.slice A1_0 l1_0.length c1_0, .int .i64 a1_1, .bool a1_2]] w fun e w' => e = .returned (.bool r) ∧ Below w.heap.size w w' := by
 have hu27 := Tryd.underlying27
 have qg := Aside0.mk hr0_0
 have qh := Aside0.mk hc0_0
 clear hr0_0 hc0_0
 have qi := Aside0.mk hr1_0
 have qj := Aside0.mk hc1_0
 clear hr1_0 hc1_0
 have HB := Aside0.mk (Below.refl w.heap.size w)
 have H : ((laws_eqIntS.f k l0_0 l1_0).bind fun qk => (if qk = true then (if a0_1 = a1_1 then (if (a0_2 != a1_2) = true then (some false) else (some true)) else (some false)) else (some false))) = some r := h
 clear h
 replace H := Option.bind_eq_some_iff.mp H
 obtain ⟨qk, A30, H⟩ := H
 replace H : (if qk = true then (if a0_1 = a1_1 then (if (a0_2 != a1_2) = true then (some false) else (some true)) else (some false)) else (some false)) = some r := H
 have A3 := Aside0.mk A30
 clear A30
 by_cases c4 : qk = true
 ·
  subst c4
  have H1 : (if a0_1 = a1_1 then (if (a0_2 != a1_2) = true then (some false) else (some true)) else (some false)) = some r := by rw [if_pos rfl] at H; exact H
  clear H
  have H := H1
  clear H1
  by_cases c5 : a0_1 = a1_1
  ·
   rw [if_pos c5] at H
   have ze : (a0_1 == a1_1) = true := beq_iff_eq.mpr c5
   have zf : (a0_1 != a1_1) = false := bne_eq_false_iff_eq.mpr c5
   clear c5
   by_cases c6 : (a0_2 != a1_2) = true
   ·
    rw [if_pos c6] at H
    have zg : (a0_2 != a1_2) = true := c6
    (try (have zh : decide (a0_2 = a1_2) = false := by simpa using c6))
    (try (have zi : (a0_2 == a1_2) = false := by simpa using c6))
    (try (have zp : ¬ (a0_2 = a1_2) := by simpa using c6))
    clear c6
    obtain rfl := Option.some.inj H
    go_enter Tryd.func15, Tryd.ntmps15
    go_wp2_with (first | ((with_reducible refine gate_dst (N := 2) rfl ?_); refine box_event ?hg (N := 2) ?hd (cs := #[.slice A0_0 l0_0.length c0_0, .int .i64 a0_1, .bool a0_2]) (t := 27) ?hr ?_; (case hd => rfl); (case hg => rfl); (case hr => first | (go_simp; done) | (go_simp; rfl)); intro qb hg w7 hbox hb; have qa := Aside0.mk (hbox); have ql := Aside0.mk ((by rw [hg]; exact (bz_ HB) : w.heap.size ≤ qb)); have qm := Aside0.mk ((by rw [hg]; exact (bz_ HB) : w.heap.size ≤ qb)); replace HB := bS_ HB hb; clear hb hbox hg) | ((with_reducible refine gate_dst (N := 3) rfl ?_); refine box_event ?hg (N := 3) ?hd (cs := #[.slice A1_0 l1_0.length c1_0, .int .i64 a1_1, .bool a1_2]) (t := 27) ?hr ?_; (case hd => rfl); (case hg => rfl); (case hr => first | (go_simp; done) | (go_simp; rfl)); intro qc hg w8 hbox hb; have qd := Aside0.mk (hbox); have qn := Aside0.mk ((by rw [hg]; exact (bz_ HB) : w.heap.size ≤ qc)); have qo := Aside0.mk ((by rw [hg]; exact (bz_ HB) : w.heap.size ≤ qc)); replace HB := bS_ HB hb; have qe := Aside0.mk ((nl_ qa hg : qb ≠ qc)); have qf := Aside0.mk ((ng_ qa hg : qc ≠ qb)); replace qa := kB_ qa hb; clear hb hbox hg; have zq := qe.out; have zr := qf.out; have qs : w8.cell? ⟨qb, 0, none⟩ = some (.slice A0_0 l0_0.length c0_0) := bc_ qa 0; have qt : w8.cell? ⟨qb, 1, none⟩ = some (.int .i64 a0_1) := bc_ qa 1; have qu : w8.cell? ⟨qb, 2, none⟩ = some (.bool a0_2) := bc_ qa 2; have qv := blk_frozen qa.out 0; have qw := blk_frozen qa.out 1; have qx := blk_frozen qa.out 2; have qy : w8.cell? ⟨qc, 0, none⟩ = some (.slice A1_0 l1_0.length c1_0) := bc_ qd 0; have qz : w8.cell? ⟨qc, 1, none⟩ = some (.int .i64 a1_1) := bc_ qd 1; have qA : w8.cell? ⟨qc, 2, none⟩ = some (.bool a1_2) := bc_ qd 2; have qB := blk_frozen qd.out 0; have qC := blk_frozen qd.out 1; have qD := blk_frozen qd.out 2) | ((with_reducible refine gate_callee (f := 58) rfl ?_); refine goesL_ (some 9) rfl rfl Tryd.func58 (by kernel_rfl) rfl #[.slice A0_0 l0_0.length c0_0, .slice A1_0 l1_0.length c1_0] rfl (by (try simp only [List.map_toArray, List.map_cons, List.map_nil]); first | done | rfl | (simp only [List.length_drop, List.length_take]; rfl)) ?_; (with_reducible refine (laws_eqIntS.calls k _ _ l0_0 _ _ l1_0 true _ ?side1 ?side2 ?side3 ?side4 A3.out).mono ?_); (case side1 => exact cb_ qg HB); (case side2 => exact qh.out); (case side3 => exact cb_ qi HB); (case side4 => exact qj.out); rintro e w' ⟨rfl, ⟨nd, rfl⟩⟩; refine ⟨_, rfl, ?_⟩))
    go_ret
    exact ⟨by first | rfl | (simp [errW_none, errW_some] <;> rfl) | (simp [*, errW_none, errW_some] <;> rfl), bb_ HB⟩
   ·
    rw [if_neg c6] at H
    have zg : (a0_2 != a1_2) = false := by simpa using c6
    (try (have zh : decide (a0_2 = a1_2) = true := by simpa using c6))
    (try (have zi : (a0_2 == a1_2) = true := by simpa using c6))
    clear c6
    obtain rfl := Option.some.inj H
    go_enter Tryd.func15, Tryd.ntmps15
    go_wp2_with (first | ((with_reducible refine gate_dst (N := 2) rfl ?_); refine box_event ?hg (N := 2) ?hd (cs := #[.slice A0_0 l0_0.length c0_0, .int .i64 a0_1, .bool a0_2]) (t := 27) ?hr ?_; (case hd => rfl); (case hg => rfl); (case hr => first | (go_simp; done) | (go_simp; rfl)); intro qb hg zs hbox hb; have qa := Aside0.mk (hbox); have ql := Aside0.mk ((by rw [hg]; exact (bz_ HB) : w.heap.size ≤ qb)); have qm := Aside0.mk ((by rw [hg]; exact (bz_ HB) : w.heap.size ≤ qb)); replace HB := bS_ HB hb; clear hb hbox hg) | ((with_reducible refine gate_dst (N := 3) rfl ?_); refine box_event ?hg (N := 3) ?hd (cs := #[.slice A1_0 l1_0.length c1_0, .int .i64 a1_1, .bool a1_2]) (t := 27) ?hr ?_; (case hd => rfl); (case hg => rfl); (case hr => first | (go_simp; done) | (go_simp; rfl)); intro qc hg qp hbox hb; have qd := Aside0.mk (hbox); have qn := Aside0.mk ((by rw [hg]; exact (bz_ HB) : w.heap.size ≤ qc)); have qo := Aside0.mk ((by rw [hg]; exact (bz_ HB) : w.heap.size ≤ qc)); replace HB := bS_ HB hb; have qe := Aside0.mk ((nl_ qa hg : qb ≠ qc)); have qf := Aside0.mk ((ng_ qa hg : qc ≠ qb)); replace qa := kB_ qa hb; clear hb hbox hg; have zj := qe.out; have zk := qf.out; have qE : qp.cell? ⟨qb, 0, none⟩ = some (.slice A0_0 l0_0.length c0_0) := bc_ qa 0; have qF : qp.cell? ⟨qb, 1, none⟩ = some (.int .i64 a0_1) := bc_ qa 1; have qG : qp.cell? ⟨qb, 2, none⟩ = some (.bool a0_2) := bc_ qa 2; have qH := blk_frozen qa.out 0; have qI := blk_frozen qa.out 1; have qJ := blk_frozen qa.out 2; have qK : qp.cell? ⟨qc, 0, none⟩ = some (.slice A1_0 l1_0.length c1_0) := bc_ qd 0; have qL : qp.cell? ⟨qc, 1, none⟩ = some (.int .i64 a1_1) := bc_ qd 1; have qM : qp.cell? ⟨qc, 2, none⟩ = some (.bool a1_2) := bc_ qd 2; have qN := blk_frozen qd.out 0; have qO := blk_frozen qd.out 1; have qP := blk_frozen qd.out 2) | ((with_reducible refine gate_callee (f := 58) rfl ?_); refine goesL_ (some 9) rfl rfl Tryd.func58 (by kernel_rfl) rfl #[.slice A0_0 l0_0.length c0_0, .slice A1_0 l1_0.length c1_0] rfl (by (try simp only [List.map_toArray, List.map_cons, List.map_nil]); first | done | rfl | (simp only [List.length_drop, List.length_take]; rfl)) ?_; (with_reducible refine (laws_eqIntS.calls k _ _ l0_0 _ _ l1_0 true _ ?side1 ?side2 ?side3 ?side4 A3.out).mono ?_); (case side1 => exact cb_ qg HB); (case side2 => exact qh.out); (case side3 => exact cb_ qi HB); (case side4 => exact qj.out); rintro e w' ⟨rfl, ⟨nd, rfl⟩⟩; refine ⟨_, rfl, ?_⟩))
    go_ret
    exact ⟨by first | rfl | (simp [errW_none, errW_some] <;> rfl) | (simp [*, errW_none, errW_some] <;> rfl), bb_ HB⟩
  ·
   rw [if_neg c5] at H
   have ze : (a0_1 == a1_1) = false := beq_eq_false_iff_ne.mpr c5
   have zf : (a0_1 != a1_1) = true := bne_iff_ne.mpr c5
   obtain rfl := Option.some.inj H
   go_enter Tryd.func15, Tryd.ntmps15
   go_wp2_with (first | ((with_reducible refine gate_dst (N := 2) rfl ?_); refine box_event ?hg (N := 2) ?hd (cs := #[.slice A0_0 l0_0.length c0_0, .int .i64 a0_1, .bool a0_2]) (t := 27) ?hr ?_; (case hd => rfl); (case hg => rfl); (case hr => first | (go_simp; done) | (go_simp; rfl)); intro qb hg zt hbox hb; have qa := Aside0.mk (hbox); have ql := Aside0.mk ((by rw [hg]; exact (bz_ HB) : w.heap.size ≤ qb)); have qm := Aside0.mk ((by rw [hg]; exact (bz_ HB) : w.heap.size ≤ qb)); replace HB := bS_ HB hb; clear hb hbox hg) | ((with_reducible refine gate_dst (N := 3) rfl ?_); refine box_event ?hg (N := 3) ?hd (cs := #[.slice A1_0 l1_0.length c1_0, .int .i64 a1_1, .bool a1_2]) (t := 27) ?hr ?_; (case hd => rfl); (case hg => rfl); (case hr => first | (go_simp; done) | (go_simp; rfl)); intro qc hg qq hbox hb; have qd := Aside0.mk (hbox); have qn := Aside0.mk ((by rw [hg]; exact (bz_ HB) : w.heap.size ≤ qc)); have qo := Aside0.mk ((by rw [hg]; exact (bz_ HB) : w.heap.size ≤ qc)); replace HB := bS_ HB hb; have qe := Aside0.mk ((nl_ qa hg : qb ≠ qc)); have qf := Aside0.mk ((ng_ qa hg : qc ≠ qb)); replace qa := kB_ qa hb; clear hb hbox hg; have zl := qe.out; have zm := qf.out; have qQ : qq.cell? ⟨qb, 0, none⟩ = some (.slice A0_0 l0_0.length c0_0) := bc_ qa 0; have qR : qq.cell? ⟨qb, 1, none⟩ = some (.int .i64 a0_1) := bc_ qa 1; have qS : qq.cell? ⟨qb, 2, none⟩ = some (.bool a0_2) := bc_ qa 2; have qT := blk_frozen qa.out 0; have qU := blk_frozen qa.out 1; have qV := blk_frozen qa.out 2; have qW : qq.cell? ⟨qc, 0, none⟩ = some (.slice A1_0 l1_0.length c1_0) := bc_ qd 0; have qX : qq.cell? ⟨qc, 1, none⟩ = some (.int .i64 a1_1) := bc_ qd 1; have qY : qq.cell? ⟨qc, 2, none⟩ = some (.bool a1_2) := bc_ qd 2; have qZ := blk_frozen qd.out 0; have q0 := blk_frozen qd.out 1; have q1 := blk_frozen qd.out 2) | ((with_reducible refine gate_callee (f := 58) rfl ?_); refine goesL_ (some 9) rfl rfl Tryd.func58 (by kernel_rfl) rfl #[.slice A0_0 l0_0.length c0_0, .slice A1_0 l1_0.length c1_0] rfl (by (try simp only [List.map_toArray, List.map_cons, List.map_nil]); first | done | rfl | (simp only [List.length_drop, List.length_take]; rfl)) ?_; (with_reducible refine (laws_eqIntS.calls k _ _ l0_0 _ _ l1_0 true _ ?side1 ?side2 ?side3 ?side4 A3.out).mono ?_); (case side1 => exact cb_ qg HB); (case side2 => exact qh.out); (case side3 => exact cb_ qi HB); (case side4 => exact qj.out); rintro e w' ⟨rfl, ⟨nd, rfl⟩⟩; refine ⟨_, rfl, ?_⟩))
   go_ret
   exact ⟨by first | rfl | (simp [errW_none, errW_some] <;> rfl) | (simp [*, errW_none, errW_some] <;> rfl), bb_ HB⟩
 ·
  replace c4 := Bool.eq_false_iff.mpr c4
  subst c4
  have H1 : (some false) = some r := by rw [if_neg (show ¬ (false = true) by decide)] at H; exact H
  clear H
  have H := H1
  clear H1
  obtain rfl := Option.some.inj H
  go_enter Tryd.func15, Tryd.ntmps15
  go_wp2_with (first | ((with_reducible refine gate_dst (N := 2) rfl ?_); refine box_event ?hg (N := 2) ?hd (cs := #[.slice A0_0 l0_0.length c0_0, .int .i64 a0_1, .bool a0_2]) (t := 27) ?hr ?_; (case hd => rfl); (case hg => rfl); (case hr => first | (go_simp; done) | (go_simp; rfl)); intro qb hg zu hbox hb; have qa := Aside0.mk (hbox); have ql := Aside0.mk ((by rw [hg]; exact (bz_ HB) : w.heap.size ≤ qb)); have qm := Aside0.mk ((by rw [hg]; exact (bz_ HB) : w.heap.size ≤ qb)); replace HB := bS_ HB hb; clear hb hbox hg) | ((with_reducible refine gate_dst (N := 3) rfl ?_); refine box_event ?hg (N := 3) ?hd (cs := #[.slice A1_0 l1_0.length c1_0, .int .i64 a1_1, .bool a1_2]) (t := 27) ?hr ?_; (case hd => rfl); (case hg => rfl); (case hr => first | (go_simp; done) | (go_simp; rfl)); intro qc hg qr hbox hb; have qd := Aside0.mk (hbox); have qn := Aside0.mk ((by rw [hg]; exact (bz_ HB) : w.heap.size ≤ qc)); have qo := Aside0.mk ((by rw [hg]; exact (bz_ HB) : w.heap.size ≤ qc)); replace HB := bS_ HB hb; have qe := Aside0.mk ((nl_ qa hg : qb ≠ qc)); have qf := Aside0.mk ((ng_ qa hg : qc ≠ qb)); replace qa := kB_ qa hb; clear hb hbox hg; have zn := qe.out; have zo := qf.out; have q2 : qr.cell? ⟨qb, 0, none⟩ = some (.slice A0_0 l0_0.length c0_0) := bc_ qa 0; have q3 : qr.cell? ⟨qb, 1, none⟩ = some (.int .i64 a0_1) := bc_ qa 1; have q4 : qr.cell? ⟨qb, 2, none⟩ = some (.bool a0_2) := bc_ qa 2; have q5 := blk_frozen qa.out 0; have q6 := blk_frozen qa.out 1; have q7 := blk_frozen qa.out 2; have q8 : qr.cell? ⟨qc, 0, none⟩ = some (.slice A1_0 l1_0.length c1_0) := bc_ qd 0; have q9 : qr.cell? ⟨qc, 1, none⟩ = some (.int .i64 a1_1) := bc_ qd 1; have za : qr.cell? ⟨qc, 2, none⟩ = some (.bool a1_2) := bc_ qd 2; have zb := blk_frozen qd.out 0; have zc := blk_frozen qd.out 1; have zd := blk_frozen qd.out 2) | ((with_reducible refine gate_callee (f := 58) rfl ?_); refine goesL_ (some 9) rfl rfl Tryd.func58 (by kernel_rfl) rfl #[.slice A0_0 l0_0.length c0_0, .slice A1_0 l1_0.length c1_0] rfl (by (try simp only [List.map_toArray, List.map_cons, List.map_nil]); first | done | rfl | (simp only [List.length_drop, List.length_take]; rfl)) ?_; (with_reducible refine (laws_eqIntS.calls k _ _ l0_0 _ _ l1_0 false _ ?side1 ?side2 ?side3 ?side4 A3.out).mono ?_); (case side1 => exact cb_ qg HB); (case side2 => exact qh.out); (case side3 => exact cb_ qi HB); (case side4 => exact qj.out); rintro e w' ⟨rfl, ⟨nd, rfl⟩⟩; refine ⟨_, rfl, ?_⟩))
  go_ret
  exact ⟨by first | rfl | (simp [errW_none, errW_some] <;> rfl) | (simp [*, errW_none, errW_some] <;> rfl), bb_ HB⟩

/-! ### laws_eqAtomS: function 68 -/
def laws_eqAtomS.l0 : Nat → List (S27) → List (S27) → Int → Option (Bool)
 | 0, _, _, _ => none
 | k + 1, x0, x1, x5 => if x5 < (x0.length : Int) then (if 0 ≤ x5 then (if x5 < (x1.length : Int) then ((laws_eqAtom.f k ((rd_T27 x0 x5).f0) ((rd_T27 x0 x5).f1) ((rd_T27 x0 x5).f2) ((rd_T27 x1 x5).f0) ((rd_T27 x1 x5).f1) ((rd_T27 x1 x5).f2)).bind fun qp => (if qp = true then (laws_eqAtomS.l0 k x0 x1 (wrap64 (x5 + 1))) else (some false))) else (none)) else (none)) else (some true)
def laws_eqAtomS.f (k : Nat) (l0 : List (S27)) (l1 : List (S27)) : Option (Bool) := if (l0.length : Int) = (l1.length : Int) then (laws_eqAtomS.l0 k l0 l1 0) else (some false)
theorem laws_eqAtomS.mono_l : ∀ k, (∀ y0 y1 y2, LeO (laws_eqAtomS.l0 k y0 y1 y2) (laws_eqAtomS.l0 (k + 1) y0 y1 y2))
 | 0 => fun _ _ _ r h => by simp [laws_eqAtomS.l0] at h
 | k + 1 => by
  have ih0 := laws_eqAtomS.mono_l k
  ·
   intro y0 y1 y2
   unfold laws_eqAtomS.l0
   repeat' first
   | (with_reducible exact ih0 _ _ _)
   | (with_reducible exact laws_eqAtom.mono _ _ _ _ _ _ _)
   | (with_reducible exact LeO.refl _)
   | (with_reducible exact LeO.none _)
   | (with_reducible refine LeO.ite ?_ ?_)
   | (with_reducible refine LeO.bind ?_ (fun _ => ?_))
   | exact ih0 _ _ _
   | exact laws_eqAtom.mono _ _ _ _ _ _ _
   | exact LeO.none _
   | refine LeO.ite ?_ ?_
   | refine LeO.bind ?_ (fun _ => ?_)
theorem laws_eqAtomS.mono : ∀ a0 a1 k, LeO (laws_eqAtomS.f k a0 a1) (laws_eqAtomS.f (k + 1) a0 a1) := by
 intro a0 a1 k
 have ih0 := laws_eqAtomS.mono_l k
 unfold laws_eqAtomS.f
 repeat' first
   | (with_reducible exact ih0 _ _ _)
   | (with_reducible exact laws_eqAtom.mono _ _ _ _ _ _ _)
   | (with_reducible exact LeO.refl _)
   | (with_reducible exact LeO.none _)
   | (with_reducible refine LeO.ite ?_ ?_)
   | (with_reducible refine LeO.bind ?_ (fun _ => ?_))
   | exact ih0 _ _ _
   | exact laws_eqAtom.mono _ _ _ _ _ _ _
   | exact LeO.none _
   | refine LeO.ite ?_ ?_
   | refine LeO.bind ?_ (fun _ => ?_)
def laws_eqAtomS.T6 : Bool × List (List Nat × List Nat) := (true, [([], []), ([], []), ([0, 1], [0, 1]), ([2], [2]), ([], []), ([], []), ([4, 5], [4, 5]), ([6], [6]), ([3, 7], [3, 7]), ([8], [8])])
def laws_eqAtomS.B6 : List Nat := [0, 0, 3, 7, 0, 0, 48, 112, 255, 511]
theorem laws_eqAtomS.tab6 : rtab .any (opsOf Tryd.f68 6) = laws_eqAtomS.T6 := by kernel_rfl
theorem laws_eqAtomS.bits6 : waitsOk laws_eqAtomS.T6.2 laws_eqAtomS.B6 = true := by kernel_rfl
set_option maxHeartbeats 8000000 in
set_option maxRecDepth 100000 in
theorem laws_eqAtomS.calls (k : Nat) (A0 : Option Addr) (c0 : Nat) (l0 : List (S27)) (A1 : Option Addr) (c1 : Nat) (l1 : List (S27)) (r : Bool) (w : World) (hr0 : Kd.C k27 w A0 l0.length l0) (hc0 : l0.length ≤ c0) (hr1 : Kd.C k27 w A1 l1.length l1) (hc1 : l1.length ≤ c1) (h : laws_eqAtomS.f k l0 l1 = some r) :
  Calls Tryd.prog 68 #[.slice A0 l0.length c0, .slice A1 l1.length c1] w fun e w' => e = .returned (.bool r) ∧ Below w.heap.size w w' := by
 have hu27 := Tryd.underlying27
 have HR0 := Aside0.mk hr0
 have HC0 := Aside0.mk hc0
 clear hr0 hc0
 have HR1 := Aside0.mk hr1
 have HC1 := Aside0.mk hc1
 clear hr1 hc1
 have HB := Aside0.mk (Below.refl w.heap.size w)
 have H : (if (l0.length : Int) = (l1.length : Int) then (laws_eqAtomS.l0 k l0 l1 0) else (some false)) = some r := h
 clear h
 by_cases c3 : (l0.length : Int) = (l1.length : Int)
 ·
  rw [if_pos c3] at H
  have qq : ((l0.length : Int) == (l1.length : Int)) = true := beq_iff_eq.mpr c3
  have qr : ((l0.length : Int) != (l1.length : Int)) = false := bne_eq_false_iff_eq.mpr c3
  have qs : (l0.length == l1.length) = true := by first | simpa using c3 | (simp at c3 ⊢; omega)
  clear c3
  have H' := Aside0.mk H
  clear H
  go_enter Tryd.func68, Tryd.ntmps68
  go_wp2
  go_loopg [5] k (fun kq v5 w' => ∃ (qa : Int), v5 = .int .i64 qa ∧ Aside0 (laws_eqAtomS.l0 kq l0 l1 qa = some r) ∧ Aside0 (kq ≤ k) ∧ Aside0 (Below w.heap.size w w'))
  case atStart => exact ⟨(0), (by first | rfl | (simp; done) | (simp [*]; done)), H', ⟨Nat.le_refl _⟩, ⟨bb_ HB⟩⟩
  case round =>
   clear H'
   try clear c1
   try clear p2
   try clear c3
   try clear qq
   try clear qr
   try clear qs
   obtain ⟨qa, rfl, HA, HK1, HB⟩ := hrel
   cases gk with
   | zero => exact absurd HA.out (by simp [laws_eqAtomS.l0])
   | succ k1 =>
    have H := HA.out
    clear HA
    simp only [laws_eqAtomS.l0] at H
    by_cases c4 : qa < (l0.length : Int)
    ·
     rw [if_pos c4] at H
     have qt : decide (qa < (l0.length : Int)) = true := decide_eq_true c4
     clear c4
     by_cases c5 : 0 ≤ qa
     ·
      rw [if_pos c5] at H
      have qu : decide (0 ≤ qa) = true := decide_eq_true c5
      clear c5
      by_cases c6 : qa < (l1.length : Int)
      ·
       rw [if_pos c6] at H
       have qv : decide (qa < (l1.length : Int)) = true := decide_eq_true c6
       clear c6
       replace H := Option.bind_eq_some_iff.mp H
       obtain ⟨qp, A70, H⟩ := H
       replace H : (if qp = true then (laws_eqAtomS.l0 k1 l0 l1 (wrap64 (qa + 1))) else (some false)) = some r := H
       have A7 := Aside0.mk A70
       clear A70
       by_cases c8 : qp = true
       ·
        subst c8
        have H1 : (laws_eqAtomS.l0 k1 l0 l1 (wrap64 (qa + 1))) = some r := by rw [if_pos rfl] at H; exact H
        clear H
        have H := H1
        clear H1
        have H' := Aside0.mk H
        clear H
        try go_wp2
        replace HB := Aside0.mk (below_drew1 HB.out)
        have p216 : 0 ≤ (qa : Int) := of_decide_eq_true (by first | (with_reducible assumption) | assumption)
        have q216 : qa < (l0.length : Int) := of_decide_eq_true (by first | (with_reducible assumption) | assumption)
        obtain ⟨qh, ql, c216_0, e216, qb, qc, qd, hl216_0, hi216_0⟩ := at_T27 HR0.out qa p216 q216
        have hw216_2 := qd
        have hw216_1 := qc
        have hw216_0 := qb
        cases e216
        replace qb := (HB.out.cell (World.block_lt_of_cell? w _ qb)).trans qb
        replace qc := (HB.out.cell (World.block_lt_of_cell? w _ qc)).trans qc
        replace qd := (HB.out.cell (World.block_lt_of_cell? w _ qd)).trans qd
        have qj := Aside0.mk hi216_0
        have qn := Aside0.mk hl216_0
        clear hi216_0 hl216_0
        replace p216 := eq_true p216
        replace q216 := eq_true q216
        have p217 : 0 ≤ (qa : Int) := of_decide_eq_true (by first | (with_reducible assumption) | assumption)
        have q217 : qa < (l1.length : Int) := of_decide_eq_true (by first | (with_reducible assumption) | assumption)
        obtain ⟨qi, qm, c217_0, e217, qe, qf, qg, hl217_0, hi217_0⟩ := at_T27 HR1.out qa p217 q217
        have hw217_2 := qg
        have hw217_1 := qf
        have hw217_0 := qe
        cases e217
        replace qe := (HB.out.cell (World.block_lt_of_cell? w _ qe)).trans qe
        replace qf := (HB.out.cell (World.block_lt_of_cell? w _ qf)).trans qf
        replace qg := (HB.out.cell (World.block_lt_of_cell? w _ qg)).trans qg
        have qk := Aside0.mk hi217_0
        have qo := Aside0.mk hl217_0
        clear hi217_0 hl217_0
        replace p217 := eq_true p217
        replace q217 := eq_true q217
        refine start_ (n := 10) (S := fun w' => w'.cell? (qh.add ((qa).toNat * 3)) = some (.slice ql ((rd_T27 l0 qa).f0).length c216_0) ∧ w'.cell? ⟨(qh.add ((qa).toNat * 3)).block, (qh.add ((qa).toNat * 3)).off + 1, none⟩ = some (.int .i64 ((rd_T27 l0 qa).f1)) ∧ w'.cell? ⟨(qh.add ((qa).toNat * 3)).block, (qh.add ((qa).toNat * 3)).off + 2, none⟩ = some (.bool ((rd_T27 l0 qa).f2)) ∧ w'.cell? (qi.add ((qa).toNat * 3)) = some (.slice qm ((rd_T27 l1 qa).f0).length c217_0) ∧ w'.cell? ⟨(qi.add ((qa).toNat * 3)).block, (qi.add ((qa).toNat * 3)).off + 1, none⟩ = some (.int .i64 ((rd_T27 l1 qa).f1)) ∧ w'.cell? ⟨(qi.add ((qa).toNat * 3)).block, (qi.add ((qa).toNat * 3)).off + 2, none⟩ = some (.bool ((rd_T27 l1 qa).f2))) (ds := []) #[false, false, false, false, false, false, false, false, false, false] (by kernel_rfl) rfl rfl ⟨((HB.out.cell (World.block_lt_of_cell? w _ hw216_0)).trans hw216_0), ((HB.out.cell (World.block_lt_of_cell? w _ hw216_1)).trans hw216_1), ((HB.out.cell (World.block_lt_of_cell? w _ hw216_2)).trans hw216_2), ((HB.out.cell (World.block_lt_of_cell? w _ hw217_0)).trans hw217_0), ((HB.out.cell (World.block_lt_of_cell? w _ hw217_1)).trans hw217_1), ((HB.out.cell (World.block_lt_of_cell? w _ hw217_2)).trans hw217_2)⟩ (fun hHeld => ?_); refine with_tabW laws_eqAtomS.tab6 laws_eqAtomS.bits6 (fun HT_ HW_ => ?_)
        generalize wr.drew = w9 at HB qj qk qb qc qd qe qf qg hHeld ⊢
        refine pure_ (i := 0) (N := some 17) (v := ?_) (a' := ?_) #[true, false, false, false, false, false, false, false, false, false] rfl rfl (any_of HT_.out (by kernel_rfl)) (fun _ _ _ h => h) (Or.inl ⟨by rfl, ?_⟩) ?_ ?_
        rotate_left
        ·
         intro w'
         go_simp
         with_reducible rfl
        rotate_left
        ·
         simp only [Act.put, List.setIfInBounds_toArray, List.set_cons_zero, List.set_cons_succ, i64_w, i32_w]
         rfl
        refine pure_ (i := 1) (N := some 18) (v := ?_) (a' := ?_) #[true, true, false, false, false, false, false, false, false, false] rfl rfl (any_of HT_.out (by kernel_rfl)) (fun _ _ _ h => h) (Or.inl ⟨by rfl, ?_⟩) ?_ ?_
        rotate_left
        ·
         intro w'
         go_simp
         with_reducible rfl
        rotate_left
        ·
         simp only [Act.put, List.setIfInBounds_toArray, List.set_cons_zero, List.set_cons_succ, i64_w, i32_w]
         rfl
        refine pure_ (i := 2) (N := some 19) (v := ?_) (a' := ?_) #[true, true, true, false, false, false, false, false, false, false] rfl rfl (any_of HT_.out (by kernel_rfl)) (fun _ _ _ h => h) (Or.inl ⟨by rfl, ?_⟩) ?_ ?_
        rotate_left
        ·
         intro w'
         go_simp
         with_reducible rfl
        rotate_left
        ·
         simp only [Act.put, List.setIfInBounds_toArray, List.set_cons_zero, List.set_cons_succ, i64_w, i32_w]
         rfl
        refine pure_ (i := 4) (N := some 21) (v := ?_) (a' := ?_) #[true, true, true, false, true, false, false, false, false, false] rfl rfl (any_of HT_.out (by kernel_rfl)) (fun _ _ _ h => h) (Or.inl ⟨by rfl, ?_⟩) ?_ ?_
        rotate_left
        ·
         intro w'
         go_simp
         with_reducible rfl
        rotate_left
        ·
         simp only [Act.put, List.setIfInBounds_toArray, List.set_cons_zero, List.set_cons_succ, i64_w, i32_w]
         rfl
        refine pure_ (i := 5) (N := some 22) (v := ?_) (a' := ?_) #[true, true, true, false, true, true, false, false, false, false] rfl rfl (any_of HT_.out (by kernel_rfl)) (fun _ _ _ h => h) (Or.inl ⟨by rfl, ?_⟩) ?_ ?_
        rotate_left
        ·
         intro w'
         go_simp
         with_reducible rfl
        rotate_left
        ·
         simp only [Act.put, List.setIfInBounds_toArray, List.set_cons_zero, List.set_cons_succ, i64_w, i32_w]
         rfl
        refine pure_ (i := 6) (N := some 23) (v := ?_) (a' := ?_) #[true, true, true, false, true, true, true, false, false, false] rfl rfl (any_of HT_.out (by kernel_rfl)) (fun _ _ _ h => h) (Or.inl ⟨by rfl, ?_⟩) ?_ ?_
        rotate_left
        ·
         intro w'
         go_simp
         with_reducible rfl
        rotate_left
        ·
         simp only [Act.put, List.setIfInBounds_toArray, List.set_cons_zero, List.set_cons_succ, i64_w, i32_w]
         rfl
        refine take_ (i := 3) (N := some 20) (v := ?_) (a' := ?_) #[true, true, true, true, true, true, true, false, false, false] rfl rfl (take_ofW HT_.out HW_.out (by kernel_rfl)) (fun _ _ _ h => h) (Or.inl ⟨by rfl, ?_⟩) hHeld ?_ ?_
        rotate_left
        ·
         rintro w' ⟨s0, s1, s2, s3, s4, s5⟩
         go_simp
         with_reducible rfl
        rotate_left
        ·
         simp only [Act.put, List.setIfInBounds_toArray, List.set_cons_zero, List.set_cons_succ, i64_w, i32_w]
         rfl
        refine take_ (i := 7) (N := some 24) (v := ?_) (a' := ?_) #[true, true, true, true, true, true, true, true, false, false] rfl rfl (take_ofW HT_.out HW_.out (by kernel_rfl)) (fun _ _ _ h => h) (Or.inl ⟨by rfl, ?_⟩) hHeld ?_ ?_
        rotate_left
        ·
         rintro w' ⟨s0, s1, s2, s3, s4, s5⟩
         go_simp
         with_reducible rfl
        rotate_left
        ·
         simp only [Act.put, List.setIfInBounds_toArray, List.set_cons_zero, List.set_cons_succ, i64_w, i32_w]
         rfl
        refine one_ (i := 8) (N := some 25) #[true, true, true, true, true, true, true, true, true, false] rfl rfl (one_of HT_.out (by kernel_rfl)) (by decide) (fun K hK => ?_)
        refine goes_ Tryd.func15 (by kernel_rfl) rfl #[.agg #[.slice ql ((rd_T27 l0 qa).f0).length c216_0, .int .i64 ((rd_T27 l0 qa).f1), .bool ((rd_T27 l0 qa).f2)], .agg #[.slice qm ((rd_T27 l1 qa).f0).length c217_0, .int .i64 ((rd_T27 l1 qa).f1), .bool ((rd_T27 l1 qa).f2)]] (by rfl) rfl rfl (by (try simp only [List.map_toArray, List.map_cons, List.map_nil]); first | done | rfl | (simp only [List.length_drop, List.length_take]; rfl)) ?_
        with_reducible refine (laws_eqAtom.calls k1 _ _ ((rd_T27 l0 qa).f0) ((rd_T27 l0 qa).f1) ((rd_T27 l0 qa).f2) _ _ ((rd_T27 l1 qa).f0) ((rd_T27 l1 qa).f1) ((rd_T27 l1 qa).f2) true _ ?side1 ?side2 ?side3 ?side4 A7.out).mono ?_
        (case side1 => exact cb_ qj HB)
        (case side2 => exact qn.out)
        (case side3 => exact cb_ qk HB)
        (case side4 => exact qo.out)
        rintro e qw ⟨rfl, hb⟩
        refine ⟨_, rfl, ?_⟩
        replace HB := bS_ HB hb; (try clear hb); (try clear hb2); (try clear hk); (try clear hi)
        refine hK.out _ _ ⟨((HB.out.cell (World.block_lt_of_cell? w _ hw216_0)).trans hw216_0), ((HB.out.cell (World.block_lt_of_cell? w _ hw216_1)).trans hw216_1), ((HB.out.cell (World.block_lt_of_cell? w _ hw216_2)).trans hw216_2), ((HB.out.cell (World.block_lt_of_cell? w _ hw217_0)).trans hw217_0), ((HB.out.cell (World.block_lt_of_cell? w _ hw217_1)).trans hw217_1), ((HB.out.cell (World.block_lt_of_cell? w _ hw217_2)).trans hw217_2)⟩ (fun hHeld => ?_)
        clear hK K
        refine norm_ (a' := ?_) ?_ ?_
        rotate_left
        ·
         show Act.put _ (some 25) _ = _
         simp only [Act.put, List.setIfInBounds_toArray, List.set_cons_zero, List.set_cons_succ, i64_w, i32_w]
         rfl
        refine pure_ (i := 9) (N := some 26) (v := ?_) (a' := ?_) #[true, true, true, true, true, true, true, true, true, true] rfl rfl (any_of HT_.out (by kernel_rfl)) (fun _ _ _ h => h) (Or.inl ⟨by rfl, ?_⟩) ?_ ?_
        rotate_left
        ·
         intro w'
         go_simp
         with_reducible rfl
        rotate_left
        ·
         simp only [Act.put, List.setIfInBounds_toArray, List.set_cons_zero, List.set_cons_succ, i64_w, i32_w]
         rfl
        refine done_ (done_of HT_.out (by kernel_rfl)) ?_
        try go_wp2
        go_roundg k1
        case measure => have := HK1.out; omega
        case rel => exact ⟨(wrap64 (qa + 1)), (by first | rfl | (simp; done) | (simp [*]; done)), H', ⟨by have := HK1.out; omega⟩, ⟨bb_ HB⟩⟩
       ·
        replace c8 := Bool.eq_false_iff.mpr c8
        subst c8
        have H1 : (some false) = some r := by rw [if_neg (show ¬ (false = true) by decide)] at H; exact H
        clear H
        have H := H1
        clear H1
        obtain rfl := Option.some.inj H
        try go_wp2
        replace HB := Aside0.mk (below_drew1 HB.out)
        have p216 : 0 ≤ (qa : Int) := of_decide_eq_true (by first | (with_reducible assumption) | assumption)
        have q216 : qa < (l0.length : Int) := of_decide_eq_true (by first | (with_reducible assumption) | assumption)
        obtain ⟨qh, ql, c216_0, e216, qb, qc, qd, hl216_0, hi216_0⟩ := at_T27 HR0.out qa p216 q216
        have hw216_2 := qd
        have hw216_1 := qc
        have hw216_0 := qb
        cases e216
        replace qb := (HB.out.cell (World.block_lt_of_cell? w _ qb)).trans qb
        replace qc := (HB.out.cell (World.block_lt_of_cell? w _ qc)).trans qc
        replace qd := (HB.out.cell (World.block_lt_of_cell? w _ qd)).trans qd
        have qj := Aside0.mk hi216_0
        have qn := Aside0.mk hl216_0
        clear hi216_0 hl216_0
        replace p216 := eq_true p216
        replace q216 := eq_true q216
        have p217 : 0 ≤ (qa : Int) := of_decide_eq_true (by first | (with_reducible assumption) | assumption)
        have q217 : qa < (l1.length : Int) := of_decide_eq_true (by first | (with_reducible assumption) | assumption)
        obtain ⟨qi, qm, c217_0, e217, qe, qf, qg, hl217_0, hi217_0⟩ := at_T27 HR1.out qa p217 q217
        have hw217_2 := qg
        have hw217_1 := qf
        have hw217_0 := qe
        cases e217
        replace qe := (HB.out.cell (World.block_lt_of_cell? w _ qe)).trans qe
        replace qf := (HB.out.cell (World.block_lt_of_cell? w _ qf)).trans qf
        replace qg := (HB.out.cell (World.block_lt_of_cell? w _ qg)).trans qg
        have qk := Aside0.mk hi217_0
        have qo := Aside0.mk hl217_0
        clear hi217_0 hl217_0
        replace p217 := eq_true p217
        replace q217 := eq_true q217
        refine start_ (n := 10) (S := fun w' => w'.cell? (qh.add ((qa).toNat * 3)) = some (.slice ql ((rd_T27 l0 qa).f0).length c216_0) ∧ w'.cell? ⟨(qh.add ((qa).toNat * 3)).block, (qh.add ((qa).toNat * 3)).off + 1, none⟩ = some (.int .i64 ((rd_T27 l0 qa).f1)) ∧ w'.cell? ⟨(qh.add ((qa).toNat * 3)).block, (qh.add ((qa).toNat * 3)).off + 2, none⟩ = some (.bool ((rd_T27 l0 qa).f2)) ∧ w'.cell? (qi.add ((qa).toNat * 3)) = some (.slice qm ((rd_T27 l1 qa).f0).length c217_0) ∧ w'.cell? ⟨(qi.add ((qa).toNat * 3)).block, (qi.add ((qa).toNat * 3)).off + 1, none⟩ = some (.int .i64 ((rd_T27 l1 qa).f1)) ∧ w'.cell? ⟨(qi.add ((qa).toNat * 3)).block, (qi.add ((qa).toNat * 3)).off + 2, none⟩ = some (.bool ((rd_T27 l1 qa).f2))) (ds := []) #[false, false, false, false, false, false, false, false, false, false] (by kernel_rfl) rfl rfl ⟨((HB.out.cell (World.block_lt_of_cell? w _ hw216_0)).trans hw216_0), ((HB.out.cell (World.block_lt_of_cell? w _ hw216_1)).trans hw216_1), ((HB.out.cell (World.block_lt_of_cell? w _ hw216_2)).trans hw216_2), ((HB.out.cell (World.block_lt_of_cell? w _ hw217_0)).trans hw217_0), ((HB.out.cell (World.block_lt_of_cell? w _ hw217_1)).trans hw217_1), ((HB.out.cell (World.block_lt_of_cell? w _ hw217_2)).trans hw217_2)⟩ (fun hHeld => ?_); refine with_tabW laws_eqAtomS.tab6 laws_eqAtomS.bits6 (fun HT_ HW_ => ?_)
        generalize wr.drew = qx at HB qj qk qb qc qd qe qf qg hHeld ⊢
        refine pure_ (i := 0) (N := some 17) (v := ?_) (a' := ?_) #[true, false, false, false, false, false, false, false, false, false] rfl rfl (any_of HT_.out (by kernel_rfl)) (fun _ _ _ h => h) (Or.inl ⟨by rfl, ?_⟩) ?_ ?_
        rotate_left
        ·
         intro w'
         go_simp
         with_reducible rfl
        rotate_left
        ·
         simp only [Act.put, List.setIfInBounds_toArray, List.set_cons_zero, List.set_cons_succ, i64_w, i32_w]
         rfl
        refine pure_ (i := 1) (N := some 18) (v := ?_) (a' := ?_) #[true, true, false, false, false, false, false, false, false, false] rfl rfl (any_of HT_.out (by kernel_rfl)) (fun _ _ _ h => h) (Or.inl ⟨by rfl, ?_⟩) ?_ ?_
        rotate_left
        ·
         intro w'
         go_simp
         with_reducible rfl
        rotate_left
        ·
         simp only [Act.put, List.setIfInBounds_toArray, List.set_cons_zero, List.set_cons_succ, i64_w, i32_w]
         rfl
        refine pure_ (i := 2) (N := some 19) (v := ?_) (a' := ?_) #[true, true, true, false, false, false, false, false, false, false] rfl rfl (any_of HT_.out (by kernel_rfl)) (fun _ _ _ h => h) (Or.inl ⟨by rfl, ?_⟩) ?_ ?_
        rotate_left
        ·
         intro w'
         go_simp
         with_reducible rfl
        rotate_left
        ·
         simp only [Act.put, List.setIfInBounds_toArray, List.set_cons_zero, List.set_cons_succ, i64_w, i32_w]
         rfl
        refine pure_ (i := 4) (N := some 21) (v := ?_) (a' := ?_) #[true, true, true, false, true, false, false, false, false, false] rfl rfl (any_of HT_.out (by kernel_rfl)) (fun _ _ _ h => h) (Or.inl ⟨by rfl, ?_⟩) ?_ ?_
        rotate_left
        ·
         intro w'
         go_simp
         with_reducible rfl
        rotate_left
        ·
         simp only [Act.put, List.setIfInBounds_toArray, List.set_cons_zero, List.set_cons_succ, i64_w, i32_w]
         rfl
        refine pure_ (i := 5) (N := some 22) (v := ?_) (a' := ?_) #[true, true, true, false, true, true, false, false, false, false] rfl rfl (any_of HT_.out (by kernel_rfl)) (fun _ _ _ h => h) (Or.inl ⟨by rfl, ?_⟩) ?_ ?_
        rotate_left
        ·
         intro w'
         go_simp
         with_reducible rfl
        rotate_left
        ·
         simp only [Act.put, List.setIfInBounds_toArray, List.set_cons_zero, List.set_cons_succ, i64_w, i32_w]
         rfl
        refine pure_ (i := 6) (N := some 23) (v := ?_) (a' := ?_) #[true, true, true, false, true, true, true, false, false, false] rfl rfl (any_of HT_.out (by kernel_rfl)) (fun _ _ _ h => h) (Or.inl ⟨by rfl, ?_⟩) ?_ ?_
        rotate_left
        ·
         intro w'
         go_simp
         with_reducible rfl
        rotate_left
        ·
         simp only [Act.put, List.setIfInBounds_toArray, List.set_cons_zero, List.set_cons_succ, i64_w, i32_w]
         rfl
        refine take_ (i := 3) (N := some 20) (v := ?_) (a' := ?_) #[true, true, true, true, true, true, true, false, false, false] rfl rfl (take_ofW HT_.out HW_.out (by kernel_rfl)) (fun _ _ _ h => h) (Or.inl ⟨by rfl, ?_⟩) hHeld ?_ ?_
        rotate_left
        ·
         rintro w' ⟨s0, s1, s2, s3, s4, s5⟩
         go_simp
         with_reducible rfl
        rotate_left
        ·
         simp only [Act.put, List.setIfInBounds_toArray, List.set_cons_zero, List.set_cons_succ, i64_w, i32_w]
         rfl
        refine take_ (i := 7) (N := some 24) (v := ?_) (a' := ?_) #[true, true, true, true, true, true, true, true, false, false] rfl rfl (take_ofW HT_.out HW_.out (by kernel_rfl)) (fun _ _ _ h => h) (Or.inl ⟨by rfl, ?_⟩) hHeld ?_ ?_
        rotate_left
        ·
         rintro w' ⟨s0, s1, s2, s3, s4, s5⟩
         go_simp
         with_reducible rfl
        rotate_left
        ·
         simp only [Act.put, List.setIfInBounds_toArray, List.set_cons_zero, List.set_cons_succ, i64_w, i32_w]
         rfl
        refine one_ (i := 8) (N := some 25) #[true, true, true, true, true, true, true, true, true, false] rfl rfl (one_of HT_.out (by kernel_rfl)) (by decide) (fun K hK => ?_)
        refine goes_ Tryd.func15 (by kernel_rfl) rfl #[.agg #[.slice ql ((rd_T27 l0 qa).f0).length c216_0, .int .i64 ((rd_T27 l0 qa).f1), .bool ((rd_T27 l0 qa).f2)], .agg #[.slice qm ((rd_T27 l1 qa).f0).length c217_0, .int .i64 ((rd_T27 l1 qa).f1), .bool ((rd_T27 l1 qa).f2)]] (by rfl) rfl rfl (by (try simp only [List.map_toArray, List.map_cons, List.map_nil]); first | done | rfl | (simp only [List.length_drop, List.length_take]; rfl)) ?_
        with_reducible refine (laws_eqAtom.calls k1 _ _ ((rd_T27 l0 qa).f0) ((rd_T27 l0 qa).f1) ((rd_T27 l0 qa).f2) _ _ ((rd_T27 l1 qa).f0) ((rd_T27 l1 qa).f1) ((rd_T27 l1 qa).f2) false _ ?side1 ?side2 ?side3 ?side4 A7.out).mono ?_
        (case side1 => exact cb_ qj HB)
        (case side2 => exact qn.out)
        (case side3 => exact cb_ qk HB)
        (case side4 => exact qo.out)
        rintro e qy ⟨rfl, hb⟩
        refine ⟨_, rfl, ?_⟩
        replace HB := bS_ HB hb; (try clear hb); (try clear hb2); (try clear hk); (try clear hi)
        refine hK.out _ _ ⟨((HB.out.cell (World.block_lt_of_cell? w _ hw216_0)).trans hw216_0), ((HB.out.cell (World.block_lt_of_cell? w _ hw216_1)).trans hw216_1), ((HB.out.cell (World.block_lt_of_cell? w _ hw216_2)).trans hw216_2), ((HB.out.cell (World.block_lt_of_cell? w _ hw217_0)).trans hw217_0), ((HB.out.cell (World.block_lt_of_cell? w _ hw217_1)).trans hw217_1), ((HB.out.cell (World.block_lt_of_cell? w _ hw217_2)).trans hw217_2)⟩ (fun hHeld => ?_)
        clear hK K
        refine norm_ (a' := ?_) ?_ ?_
        rotate_left
        ·
         show Act.put _ (some 25) _ = _
         simp only [Act.put, List.setIfInBounds_toArray, List.set_cons_zero, List.set_cons_succ, i64_w, i32_w]
         rfl
        refine pure_ (i := 9) (N := some 26) (v := ?_) (a' := ?_) #[true, true, true, true, true, true, true, true, true, true] rfl rfl (any_of HT_.out (by kernel_rfl)) (fun _ _ _ h => h) (Or.inl ⟨by rfl, ?_⟩) ?_ ?_
        rotate_left
        ·
         intro w'
         go_simp
         with_reducible rfl
        rotate_left
        ·
         simp only [Act.put, List.setIfInBounds_toArray, List.set_cons_zero, List.set_cons_succ, i64_w, i32_w]
         rfl
        refine done_ (done_of HT_.out (by kernel_rfl)) ?_
        try go_wp2
        go_ret
        exact ⟨by first | rfl | (simp [errW_none, errW_some] <;> rfl) | (simp [*, errW_none, errW_some] <;> rfl), bb_ HB⟩
      ·
       rw [if_neg c6] at H
       exact absurd H (by simp)
     ·
      rw [if_neg c5] at H
      exact absurd H (by simp)
    ·
     rw [if_neg c4] at H
     have qt : decide (qa < (l0.length : Int)) = false := decide_eq_false c4
     clear c4
     obtain rfl := Option.some.inj H
     go_wp2
     go_ret
     exact ⟨by first | rfl | (simp [errW_none, errW_some] <;> rfl) | (simp [*, errW_none, errW_some] <;> rfl), bb_ HB⟩
 ·
  rw [if_neg c3] at H
  have qq : ((l0.length : Int) == (l1.length : Int)) = false := beq_eq_false_iff_ne.mpr c3
  have qr : ((l0.length : Int) != (l1.length : Int)) = true := bne_iff_ne.mpr c3
  have qs : (l0.length == l1.length) = false := by first | simpa using c3 | (simp at c3 ⊢; omega)
  obtain rfl := Option.some.inj H
  go_enter Tryd.func68, Tryd.ntmps68
  go_wp2
  go_ret
  exact ⟨by first | rfl | (simp [errW_none, errW_some] <;> rfl) | (simp [*, errW_none, errW_some] <;> rfl), bb_ HB⟩

/-! ### laws_eqCell: function 22 -/
def laws_eqCell.f (k : Nat) (a0_0 : Int) (l0_1 : List (S27)) (a1_0 : Int) (l1_1 : List (S27)) : Option (Bool) := if a0_0 = a1_0 then ((laws_eqAtomS.f k l0_1 l1_1).bind fun qg => (if qg = true then (some true) else (some false))) else (some false)
theorem laws_eqCell.mono : ∀ a0 a1 a2 a3 k, LeO (laws_eqCell.f k a0 a1 a2 a3) (laws_eqCell.f (k + 1) a0 a1 a2 a3) := by
 intro a0 a1 a2 a3 k
 unfold laws_eqCell.f
 repeat' first
   | (with_reducible exact laws_eqAtomS.mono _ _ _)
   | (with_reducible exact LeO.refl _)
   | (with_reducible exact LeO.none _)
   | (with_reducible refine LeO.ite ?_ ?_)
   | (with_reducible refine LeO.bind ?_ (fun _ => ?_))
   | exact laws_eqAtomS.mono _ _ _
   | exact LeO.none _
   | refine LeO.ite ?_ ?_
   | refine LeO.bind ?_ (fun _ => ?_)
set_option maxHeartbeats 8000000 in
set_option maxRecDepth 100000 in
theorem laws_eqCell.calls (k : Nat) (a0_0 : Int) (A0_1 : Option Addr) (c0_1 : Nat) (l0_1 : List (S27)) (a1_0 : Int) (A1_1 : Option Addr) (c1_1 : Nat) (l1_1 : List (S27)) (r : Bool) (w : World) (hr0_1 : Kd.C k27 w A0_1 l0_1.length l0_1) (hc0_1 : l0_1.length ≤ c0_1) (hr1_1 : Kd.C k27 w A1_1 l1_1.length l1_1) (hc1_1 : l1_1.length ≤ c1_1) (h : laws_eqCell.f k a0_0 l0_1 a1_0 l1_1 = some r) :
  Calls Tryd.prog 22 #[.agg #[.int .i64 a0_0, .slice A0_1 l0_1.length c0_1], .agg #[.int .i64 a1_0, .slice A1_1 l1_1.length c1_1]] w fun e w' => e = .returned (.bool r) ∧ Below w.heap.size w w' := by
 have hu41 := Tryd.underlying41
 have qh := Aside0.mk hr0_1
 have qi := Aside0.mk hc0_1
 clear hr0_1 hc0_1
 have qj := Aside0.mk hr1_1
 have qk := Aside0.mk hc1_1
 clear hr1_1 hc1_1
 have HB := Aside0.mk (Below.refl w.heap.size w)
 have H : (if a0_0 = a1_0 then ((laws_eqAtomS.f k l0_1 l1_1).bind fun qg => (if qg = true then (some true) else (some false))) else (some false)) = some r := h
 clear h
 by_cases c3 : a0_0 = a1_0
 ·
  rw [if_pos c3] at H
  have qL : (a0_0 == a1_0) = true := beq_iff_eq.mpr c3
  have qM : (a0_0 != a1_0) = false := bne_eq_false_iff_eq.mpr c3
  clear c3
  replace H := Option.bind_eq_some_iff.mp H
  obtain ⟨qg, A40, H⟩ := H
  replace H : (if qg = true then (some true) else (some false)) = some r := H
  have A4 := Aside0.mk A40
  clear A40
  by_cases c5 : qg = true
  ·
   subst c5
   have H1 : (some true) = some r := by rw [if_pos rfl] at H; exact H
   clear H
   have H := H1
   clear H1
   obtain rfl := Option.some.inj H
   go_enter Tryd.func22, Tryd.ntmps22
   go_wp2_with (first | ((with_reducible refine gate_dst (N := 2) rfl ?_); refine box_event ?hg (N := 2) ?hd (cs := #[.int .i64 a0_0, .slice A0_1 l0_1.length c0_1]) (t := 41) ?hr ?_; (case hd => rfl); (case hg => rfl); (case hr => first | (go_simp; done) | (go_simp; rfl)); intro qb hg w6 hbox hb; have qa := Aside0.mk (hbox); have ql := Aside0.mk ((by rw [hg]; exact (bz_ HB) : w.heap.size ≤ qb)); have qm := Aside0.mk ((by rw [hg]; exact (bz_ HB) : w.heap.size ≤ qb)); replace HB := bS_ HB hb; clear hb hbox hg) | ((with_reducible refine gate_dst (N := 3) rfl ?_); refine box_event ?hg (N := 3) ?hd (cs := #[.int .i64 a1_0, .slice A1_1 l1_1.length c1_1]) (t := 41) ?hr ?_; (case hd => rfl); (case hg => rfl); (case hr => first | (go_simp; done) | (go_simp; rfl)); intro qc hg w7 hbox hb; have qd := Aside0.mk (hbox); have qn := Aside0.mk ((by rw [hg]; exact (bz_ HB) : w.heap.size ≤ qc)); have qo := Aside0.mk ((by rw [hg]; exact (bz_ HB) : w.heap.size ≤ qc)); replace HB := bS_ HB hb; have qe := Aside0.mk ((nl_ qa hg : qb ≠ qc)); have qf := Aside0.mk ((ng_ qa hg : qc ≠ qb)); replace qa := kB_ qa hb; clear hb hbox hg; have qV := qe.out; have qW := qf.out; have qN : w7.cell? ⟨qb, 0, none⟩ = some (.int .i64 a0_0) := bc_ qa 0; have qO : w7.cell? ⟨qb, 1, none⟩ = some (.slice A0_1 l0_1.length c0_1) := bc_ qa 1; have qP := blk_frozen qa.out 0; have qQ := blk_frozen qa.out 1; have qp : w7.cell? ⟨qc, 0, none⟩ = some (.int .i64 a1_0) := bc_ qd 0; have qq : w7.cell? ⟨qc, 1, none⟩ = some (.slice A1_1 l1_1.length c1_1) := bc_ qd 1; have qr := blk_frozen qd.out 0; have qs := blk_frozen qd.out 1) | ((with_reducible refine gate_callee (f := 68) rfl ?_); refine goesL_ (some 14) rfl rfl Tryd.func68 (by kernel_rfl) rfl #[.slice A0_1 l0_1.length c0_1, .slice A1_1 l1_1.length c1_1] rfl (by (try simp only [List.map_toArray, List.map_cons, List.map_nil]); first | done | rfl | (simp only [List.length_drop, List.length_take]; rfl)) ?_; (with_reducible refine (laws_eqAtomS.calls k _ _ l0_1 _ _ l1_1 true _ ?side1 ?side2 ?side3 ?side4 A4.out).mono ?_); (case side1 => exact cb_ qh HB); (case side2 => exact qi.out); (case side3 => exact cb_ qj HB); (case side4 => exact qk.out); rintro e qX ⟨rfl, hb⟩; refine ⟨_, rfl, ?_⟩; replace qa := kB_ qa hb; replace qd := kB_ qd hb; replace HB := bS_ HB hb; (try clear hb); (try clear hb2); (try clear hk); (try clear hi)))
   go_ret
   exact ⟨by first | rfl | (simp [errW_none, errW_some] <;> rfl) | (simp [*, errW_none, errW_some] <;> rfl), bb_ HB⟩
  ·
   replace c5 := Bool.eq_false_iff.mpr c5
   subst c5
   have H1 : (some false) = some r := by rw [if_neg (show ¬ (false = true) by decide)] at H; exact H
   clear H
   have H := H1
   clear H1
   obtain rfl := Option.some.inj H
   go_enter Tryd.func22, Tryd.ntmps22
   go_wp2_with (first | ((with_reducible refine gate_dst (N := 2) rfl ?_); refine box_event ?hg (N := 2) ?hd (cs := #[.int .i64 a0_0, .slice A0_1 l0_1.length c0_1]) (t := 41) ?hr ?_; (case hd => rfl); (case hg => rfl); (case hr => first | (go_simp; done) | (go_simp; rfl)); intro qb hg qY hbox hb; have qa := Aside0.mk (hbox); have ql := Aside0.mk ((by rw [hg]; exact (bz_ HB) : w.heap.size ≤ qb)); have qm := Aside0.mk ((by rw [hg]; exact (bz_ HB) : w.heap.size ≤ qb)); replace HB := bS_ HB hb; clear hb hbox hg) | ((with_reducible refine gate_dst (N := 3) rfl ?_); refine box_event ?hg (N := 3) ?hd (cs := #[.int .i64 a1_0, .slice A1_1 l1_1.length c1_1]) (t := 41) ?hr ?_; (case hd => rfl); (case hg => rfl); (case hr => first | (go_simp; done) | (go_simp; rfl)); intro qc hg qt hbox hb; have qd := Aside0.mk (hbox); have qn := Aside0.mk ((by rw [hg]; exact (bz_ HB) : w.heap.size ≤ qc)); have qo := Aside0.mk ((by rw [hg]; exact (bz_ HB) : w.heap.size ≤ qc)); replace HB := bS_ HB hb; have qe := Aside0.mk ((nl_ qa hg : qb ≠ qc)); have qf := Aside0.mk ((ng_ qa hg : qc ≠ qb)); replace qa := kB_ qa hb; clear hb hbox hg; have qR := qe.out; have qS := qf.out; have qu : qt.cell? ⟨qb, 0, none⟩ = some (.int .i64 a0_0) := bc_ qa 0; have qv : qt.cell? ⟨qb, 1, none⟩ = some (.slice A0_1 l0_1.length c0_1) := bc_ qa 1; have qw := blk_frozen qa.out 0; have qx := blk_frozen qa.out 1; have qy : qt.cell? ⟨qc, 0, none⟩ = some (.int .i64 a1_0) := bc_ qd 0; have qz : qt.cell? ⟨qc, 1, none⟩ = some (.slice A1_1 l1_1.length c1_1) := bc_ qd 1; have qA := blk_frozen qd.out 0; have qB := blk_frozen qd.out 1) | ((with_reducible refine gate_callee (f := 68) rfl ?_); refine goesL_ (some 14) rfl rfl Tryd.func68 (by kernel_rfl) rfl #[.slice A0_1 l0_1.length c0_1, .slice A1_1 l1_1.length c1_1] rfl (by (try simp only [List.map_toArray, List.map_cons, List.map_nil]); first | done | rfl | (simp only [List.length_drop, List.length_take]; rfl)) ?_; (with_reducible refine (laws_eqAtomS.calls k _ _ l0_1 _ _ l1_1 false _ ?side1 ?side2 ?side3 ?side4 A4.out).mono ?_); (case side1 => exact cb_ qh HB); (case side2 => exact qi.out); (case side3 => exact cb_ qj HB); (case side4 => exact qk.out); rintro e qZ ⟨rfl, hb⟩; refine ⟨_, rfl, ?_⟩; replace qa := kB_ qa hb; replace qd := kB_ qd hb; replace HB := bS_ HB hb; (try clear hb); (try clear hb2); (try clear hk); (try clear hi)))
   go_ret
   exact ⟨by first | rfl | (simp [errW_none, errW_some] <;> rfl) | (simp [*, errW_none, errW_some] <;> rfl), bb_ HB⟩
 ·
  rw [if_neg c3] at H
  have qL : (a0_0 == a1_0) = false := beq_eq_false_iff_ne.mpr c3
  have qM : (a0_0 != a1_0) = true := bne_iff_ne.mpr c3
  obtain rfl := Option.some.inj H
  go_enter Tryd.func22, Tryd.ntmps22
  go_wp2_with (first | ((with_reducible refine gate_dst (N := 2) rfl ?_); refine box_event ?hg (N := 2) ?hd (cs := #[.int .i64 a0_0, .slice A0_1 l0_1.length c0_1]) (t := 41) ?hr ?_; (case hd => rfl); (case hg => rfl); (case hr => first | (go_simp; done) | (go_simp; rfl)); intro qb hg q0 hbox hb; have qa := Aside0.mk (hbox); have ql := Aside0.mk ((by rw [hg]; exact (bz_ HB) : w.heap.size ≤ qb)); have qm := Aside0.mk ((by rw [hg]; exact (bz_ HB) : w.heap.size ≤ qb)); replace HB := bS_ HB hb; clear hb hbox hg) | ((with_reducible refine gate_dst (N := 3) rfl ?_); refine box_event ?hg (N := 3) ?hd (cs := #[.int .i64 a1_0, .slice A1_1 l1_1.length c1_1]) (t := 41) ?hr ?_; (case hd => rfl); (case hg => rfl); (case hr => first | (go_simp; done) | (go_simp; rfl)); intro qc hg qC hbox hb; have qd := Aside0.mk (hbox); have qn := Aside0.mk ((by rw [hg]; exact (bz_ HB) : w.heap.size ≤ qc)); have qo := Aside0.mk ((by rw [hg]; exact (bz_ HB) : w.heap.size ≤ qc)); replace HB := bS_ HB hb; have qe := Aside0.mk ((nl_ qa hg : qb ≠ qc)); have qf := Aside0.mk ((ng_ qa hg : qc ≠ qb)); replace qa := kB_ qa hb; clear hb hbox hg; have qT := qe.out; have qU := qf.out; have qD : qC.cell? ⟨qb, 0, none⟩ = some (.int .i64 a0_0) := bc_ qa 0; have qE : qC.cell? ⟨qb, 1, none⟩ = some (.slice A0_1 l0_1.length c0_1) := bc_ qa 1; have qF := blk_frozen qa.out 0; have qG := blk_frozen qa.out 1; have qH : qC.cell? ⟨qc, 0, none⟩ = some (.int .i64 a1_0) := bc_ qd 0; have qI : qC.cell? ⟨qc, 1, none⟩ = some (.slice A1_1 l1_1.length c1_1) := bc_ qd 1; have qJ := blk_frozen qd.out 0; have qK := blk_frozen qd.out 1))
  go_ret
  exact ⟨by first | rfl | (simp [errW_none, errW_some] <;> rfl) | (simp [*, errW_none, errW_some] <;> rfl), bb_ HB⟩

/-! ### laws_FnExactFormatCell: function 5 -/
def laws_FnExactFormatCell.f (k : Nat) (a0_0 : Int) (l0_1 : List (S24)) : Option (Bool) := (laws_szCell.f k a0_0 l0_1 1048576).bind fun qu => (if qu < 0 then (some true) else ((laws_toCell.f k a0_0 l0_1).bind fun qt => ((spec_FormatCell.f k qt.1 qt.2).bind fun qn => ((laws_toCell.f k a0_0 l0_1).bind fun qg => ((impl_FormatCell.f k qg.1 qg.2).bind fun qk => (if qk.toList = qn.toList then ((laws_toCell.f k a0_0 l0_1).bind fun qj => ((laws_eqCell.f k qg.1 qg.2 qj.1 qj.2).bind fun qq => (if qq = true then (some true) else (some false)))) else (some false)))))))
theorem laws_FnExactFormatCell.mono : ∀ a0 a1 k, LeO (laws_FnExactFormatCell.f k a0 a1) (laws_FnExactFormatCell.f (k + 1) a0 a1) := by
 intro a0 a1 k
 unfold laws_FnExactFormatCell.f
 repeat' first
   | (with_reducible exact impl_FormatCell.mono _ _ _)
   | (with_reducible exact laws_eqCell.mono _ _ _ _ _)
   | (with_reducible exact laws_szCell.mono _ _ _ _)
   | (with_reducible exact laws_toCell.mono _ _ _)
   | (with_reducible exact spec_FormatCell.mono _ _ _)
   | (with_reducible exact LeO.refl _)
   | (with_reducible exact LeO.none _)
   | (with_reducible refine LeO.ite ?_ ?_)
   | (with_reducible refine LeO.bind ?_ (fun _ => ?_))
   | exact impl_FormatCell.mono _ _ _
   | exact laws_eqCell.mono _ _ _ _ _
   | exact laws_szCell.mono _ _ _ _
   | exact laws_toCell.mono _ _ _
   | exact spec_FormatCell.mono _ _ _
   | exact LeO.none _
   | refine LeO.ite ?_ ?_
   | refine LeO.bind ?_ (fun _ => ?_)
set_option maxHeartbeats 8000000 in
set_option maxRecDepth 100000 in
theorem laws_FnExactFormatCell.calls (k : Nat) (a0_0 : Int) (A0_1 : Option Addr) (c0_1 : Nat) (l0_1 : List (S24)) (r : Bool) (w : World) (hL : LaidW w) (hr0_1 : Kd.C k24 w A0_1 l0_1.length l0_1) (hc0_1 : l0_1.length ≤ c0_1) (h : laws_FnExactFormatCell.f k a0_0 l0_1 = some r) :
  Calls Tryd.prog 5 #[.agg #[.int .i64 a0_0, .slice A0_1 l0_1.length c0_1]] w fun e w' => e = .returned (.bool r) ∧ Below w.heap.size w w' := by
 have HL_ := Aside0.mk hL
 clear hL
 have hu36 := Tryd.underlying36
 have hu41 := Tryd.underlying41
 have qo := Aside0.mk hr0_1
 have qp := Aside0.mk hc0_1
 clear hr0_1 hc0_1
 have HB := Aside0.mk (Below.refl w.heap.size w)
 have H : ((laws_szCell.f k a0_0 l0_1 1048576).bind fun qu => (if qu < 0 then (some true) else ((laws_toCell.f k a0_0 l0_1).bind fun qt => ((spec_FormatCell.f k qt.1 qt.2).bind fun qn => ((laws_toCell.f k a0_0 l0_1).bind fun qg => ((impl_FormatCell.f k qg.1 qg.2).bind fun qk => (if qk.toList = qn.toList then ((laws_toCell.f k a0_0 l0_1).bind fun qj => ((laws_eqCell.f k qg.1 qg.2 qj.1 qj.2).bind fun qq => (if qq = true then (some true) else (some false)))) else (some false)))))))) = some r := h
 clear h
 replace H := Option.bind_eq_some_iff.mp H
 obtain ⟨qu, A20, H⟩ := H
 replace H : (if qu < 0 then (some true) else ((laws_toCell.f k a0_0 l0_1).bind fun qt => ((spec_FormatCell.f k qt.1 qt.2).bind fun qn => ((laws_toCell.f k a0_0 l0_1).bind fun qg => ((impl_FormatCell.f k qg.1 qg.2).bind fun qk => (if qk.toList = qn.toList then ((laws_toCell.f k a0_0 l0_1).bind fun qj => ((laws_eqCell.f k qg.1 qg.2 qj.1 qj.2).bind fun qq => (if qq = true then (some true) else (some false)))) else (some false))))))) = some r := H
 have A2 := Aside0.mk A20
 clear A20
 by_cases c3 : qu < 0
 ·
  rw [if_pos c3] at H
  have zE : decide (qu < 0) = true := decide_eq_true c3
  clear c3
  obtain rfl := Option.some.inj H
  go_enter Tryd.func5, Tryd.ntmps5
  go_wp2_with (first | ((with_reducible refine gate_dst (N := 1) rfl ?_); refine box_event ?hg (N := 1) ?hd (cs := #[.int .i64 a0_0, .slice A0_1 l0_1.length c0_1]) (t := 36) ?hr ?_; (case hd => rfl); (case hg => rfl); (case hr => first | (go_simp; done) | (go_simp; rfl)); intro qe hg w4 hbox hb; have qa := Aside0.mk (hbox); have qD := Aside0.mk ((by rw [hg]; exact (bz_ HB) : w.heap.size ≤ qe)); have qE := Aside0.mk ((by rw [hg]; exact (bz_ HB) : w.heap.size ≤ qe)); replace HB := bS_ HB hb; clear hb hbox hg; have zF : w4.cell? ⟨qe, 0, none⟩ = some (.int .i64 a0_0) := bc_ qa 0; have zG : w4.cell? ⟨qe, 1, none⟩ = some (.slice A0_1 l0_1.length c0_1) := bc_ qa 1; have zH := blk_frozen qa.out 0; have zI := blk_frozen qa.out 1) | ((with_reducible refine gate_callee (f := 18) rfl ?_); refine goesL_ (some 9) rfl rfl Tryd.func18 (by kernel_rfl) rfl #[.agg #[.int .i64 a0_0, .slice A0_1 l0_1.length c0_1], .int .i64 1048576] rfl (by (try simp only [List.map_toArray, List.map_cons, List.map_nil]); first | done | rfl | (simp only [List.length_drop, List.length_take]; rfl)) ?_; (with_reducible refine (laws_szCell.calls k a0_0 _ _ l0_1 1048576 qu _ ?side1 ?side2 A2.out).mono ?_); (case side1 => exact cb_ qo HB); (case side2 => exact qp.out); rintro e w6 ⟨rfl, hb⟩; refine ⟨_, rfl, ?_⟩; replace qa := kB_ qa hb; replace HB := bS_ HB hb; (try clear hb); (try clear hb2); (try clear hk); (try clear hi)))
  go_ret
  exact ⟨by first | rfl | (simp [errW_none, errW_some] <;> rfl) | (simp [*, errW_none, errW_some] <;> rfl), bb_ HB⟩
 ·
  rw [if_neg c3] at H
  have zE : decide (qu < 0) = false := decide_eq_false c3
  clear c3
  replace H := Option.bind_eq_some_iff.mp H
  obtain ⟨⟨qv, qs⟩, A70, H⟩ := H
  replace H : ((spec_FormatCell.f k qv qs).bind fun qn => ((laws_toCell.f k a0_0 l0_1).bind fun qg => ((impl_FormatCell.f k qg.1 qg.2).bind fun qk => (if qk.toList = qn.toList then ((laws_toCell.f k a0_0 l0_1).bind fun qj => ((laws_eqCell.f k qg.1 qg.2 qj.1 qj.2).bind fun qq => (if qq = true then (some true) else (some false)))) else (some false))))) = some r := H
  have A7 := Aside0.mk A70
  clear A70
  replace H := Option.bind_eq_some_iff.mp H
  obtain ⟨qn, A80, H⟩ := H
  replace H : ((laws_toCell.f k a0_0 l0_1).bind fun qg => ((impl_FormatCell.f k qg.1 qg.2).bind fun qk => (if qk.toList = qn.toList then ((laws_toCell.f k a0_0 l0_1).bind fun qj => ((laws_eqCell.f k qg.1 qg.2 qj.1 qj.2).bind fun qq => (if qq = true then (some true) else (some false)))) else (some false)))) = some r := H
  have A8 := Aside0.mk A80
  clear A80
  replace H := Option.bind_eq_some_iff.mp H
  obtain ⟨⟨qh, qi⟩, A90, H⟩ := H
  replace H : ((impl_FormatCell.f k qh qi).bind fun qk => (if qk.toList = qn.toList then ((laws_toCell.f k a0_0 l0_1).bind fun qj => ((laws_eqCell.f k qh qi qj.1 qj.2).bind fun qq => (if qq = true then (some true) else (some false)))) else (some false))) = some r := H
  have A9 := Aside0.mk A90
  clear A90
  replace H := Option.bind_eq_some_iff.mp H
  obtain ⟨qk, A100, H⟩ := H
  replace H : (if qk.toList = qn.toList then ((laws_toCell.f k a0_0 l0_1).bind fun qj => ((laws_eqCell.f k qh qi qj.1 qj.2).bind fun qq => (if qq = true then (some true) else (some false)))) else (some false)) = some r := H
  have A10 := Aside0.mk A100
  clear A100
  by_cases c11 : qk.toList = qn.toList
  ·
   rw [if_pos c11] at H
   have qI : (qk.toList == qn.toList) = true := beq_iff_eq.mpr c11
   have qJ : (qk.toList != qn.toList) = false := bne_eq_false_iff_eq.mpr c11
   clear c11
   replace H := Option.bind_eq_some_iff.mp H
   obtain ⟨⟨qy, qz⟩, A120, H⟩ := H
   replace H : ((laws_eqCell.f k qh qi qy qz).bind fun qq => (if qq = true then (some true) else (some false))) = some r := H
   have A12 := Aside0.mk A120
   clear A120
   replace H := Option.bind_eq_some_iff.mp H
   obtain ⟨qq, A130, H⟩ := H
   replace H : (if qq = true then (some true) else (some false)) = some r := H
   have A13 := Aside0.mk A130
   clear A130
   by_cases c14 : qq = true
   ·
    subst c14
    have H1 : (some true) = some r := by rw [if_pos rfl] at H; exact H
    clear H
    have H := H1
    clear H1
    obtain rfl := Option.some.inj H
    go_enter Tryd.func5, Tryd.ntmps5
    try go_wp2_with (first | ((with_reducible refine gate_dst (N := 1) rfl ?_); refine box_event ?hg (N := 1) ?hd (cs := #[.int .i64 a0_0, .slice A0_1 l0_1.length c0_1]) (t := 36) ?hr ?_; (case hd => rfl); (case hg => rfl); (case hr => first | (go_simp; done) | (go_simp; rfl)); intro qe hg zO hbox hb; have qa := Aside0.mk (hbox); have qD := Aside0.mk ((by rw [hg]; exact (bz_ HB) : w.heap.size ≤ qe)); have qE := Aside0.mk ((by rw [hg]; exact (bz_ HB) : w.heap.size ≤ qe)); replace HB := bS_ HB hb; clear hb hbox hg; have qS : zO.cell? ⟨qe, 0, none⟩ = some (.int .i64 a0_0) := bc_ qa 0; have qT : zO.cell? ⟨qe, 1, none⟩ = some (.slice A0_1 l0_1.length c0_1) := bc_ qa 1; have qU := blk_frozen qa.out 0; have qV := blk_frozen qa.out 1) | ((with_reducible refine gate_callee (f := 18) rfl ?_); refine goesL_ (some 9) rfl rfl Tryd.func18 (by kernel_rfl) rfl #[.agg #[.int .i64 a0_0, .slice A0_1 l0_1.length c0_1], .int .i64 1048576] rfl (by (try simp only [List.map_toArray, List.map_cons, List.map_nil]); first | done | rfl | (simp only [List.length_drop, List.length_take]; rfl)) ?_; (with_reducible refine (laws_szCell.calls k a0_0 _ _ l0_1 1048576 qu _ ?side1 ?side2 A2.out).mono ?_); (case side1 => exact cb_ qo HB); (case side2 => exact qp.out); rintro e zP ⟨rfl, hb⟩; refine ⟨_, rfl, ?_⟩; replace qa := kB_ qa hb; replace HB := bS_ HB hb; (try clear hb); (try clear hb2); (try clear hk); (try clear hi); have qW : zP.cell? ⟨qe, 0, none⟩ = some (.int .i64 a0_0) := bc_ qa 0; have qX : zP.cell? ⟨qe, 1, none⟩ = some (.slice A0_1 l0_1.length c0_1) := bc_ qa 1; have qY := blk_frozen qa.out 0; have qZ := blk_frozen qa.out 1) | ((with_reducible refine gate_callee (f := 20) rfl ?_); refine goesL_ (some 13) rfl rfl Tryd.func20 (by kernel_rfl) rfl #[.agg #[.int .i64 a0_0, .slice A0_1 l0_1.length c0_1]] rfl (by (try simp only [List.map_toArray, List.map_cons, List.map_nil]); first | done | rfl | (simp only [List.length_drop, List.length_take]; rfl)) ?_; (with_reducible refine (laws_toCell.calls k a0_0 _ _ l0_1 qv qs _ ?side1 ?side2 A7.out).mono ?_); (case side1 => exact cb_ qo HB); (case side2 => exact qp.out); rintro e z8 ⟨qK, rfl, ho0, hb⟩; refine ⟨_, rfl, ?_⟩; have qc := Aside0.mk (Kd.S_lower ho0 (bz_ HB)); replace qa := kB_ qa hb; replace HB := bS_ HB hb; (try clear hb); (try clear hb2); (try clear hk); (try clear hi); (try clear ho0); obtain ⟨qL, qM, eo20⟩ := Kd.S_slice qc.out; subst eo20) | ((with_reducible refine gate_callee (f := 19) rfl ?_); refine goesL_ (some 14) rfl rfl Tryd.func19 (by kernel_rfl) rfl #[.agg #[.int .i64 qv, .slice qL qs.length qM]] rfl (by (try simp only [List.map_toArray, List.map_cons, List.map_nil]); first | done | rfl | (simp only [List.length_drop, List.length_take]; rfl)) ?_; (with_reducible refine (spec_FormatCell.calls k qv _ _ qs qn _ ?side1 ?side2 A8.out).mono ?_); (case side1 => exact cs_ qc); (case side2 => exact (Kd.S_reads' qc.out).2.1); rintro e zQ ⟨rfl, hb⟩; refine ⟨_, rfl, ?_⟩; replace qc := sB_ qc hb; replace qa := kB_ qa hb; replace HB := bS_ HB hb; (try clear hb); (try clear hb2); (try clear hk); (try clear hi); have q0 : zQ.cell? ⟨qe, 0, none⟩ = some (.int .i64 a0_0) := bc_ qa 0; have q1 : zQ.cell? ⟨qe, 1, none⟩ = some (.slice A0_1 l0_1.length c0_1) := bc_ qa 1; have q2 := blk_frozen qa.out 0; have q3 := blk_frozen qa.out 1) | ((with_reducible refine gate_callee (f := 20) rfl ?_); refine goesL_ (some 16) rfl rfl Tryd.func20 (by kernel_rfl) rfl #[.agg #[.int .i64 a0_0, .slice A0_1 l0_1.length c0_1]] rfl (by (try simp only [List.map_toArray, List.map_cons, List.map_nil]); first | done | rfl | (simp only [List.length_drop, List.length_take]; rfl)) ?_; (with_reducible refine (laws_toCell.calls k a0_0 _ _ l0_1 qh qi _ ?side1 ?side2 A9.out).mono ?_); (case side1 => exact cb_ qo HB); (case side2 => exact qp.out); rintro e z9 ⟨qN, rfl, ho0, hb⟩; refine ⟨_, rfl, ?_⟩; have qf := Aside0.mk (Kd.S_lower (Kd.S_new' ho0 (Kd.S_lt (sm_ qc))) (bz_ HB)); replace qc := Aside0.mk (Kd.S_elder' (sm_ qc) (Kd.S_base ho0) hb); replace qa := kB_ qa hb; replace HB := bS_ HB hb; (try clear hb); (try clear hb2); (try clear hk); (try clear hi); (try clear ho0)) | ((with_reducible refine gate_dst (N := 5) rfl ?_); refine box_event ?hg (N := 5) ?hd (cs := #[.int .i64 0, .slice none 0 0]) (t := 41) ?hr ?_; (case hd => rfl); (case hg => rfl); (case hr => first | (go_simp; done) | (go_simp; rfl)); intro qd hg zR hbox hb; replace qc := sB_ qc hb; replace qf := sB_ qf hb; have qb := Aside0.mk (hbox); have qG := Aside0.mk ((by rw [hg]; exact (bz_ HB) : w.heap.size ≤ qd)); have qH := Aside0.mk ((by rw [hg]; exact (bz_ HB) : w.heap.size ≤ qd)); replace HB := bS_ HB hb; have ql := Aside0.mk ((nl_ qa hg : qe ≠ qd)); have qm := Aside0.mk ((ng_ qa hg : qd ≠ qe)); replace qa := kB_ qa hb; clear hb hbox hg; have zS := qm.out; have zT := ql.out; have q4 : zR.cell? ⟨qd, 0, none⟩ = some (.int .i64 0) := bc_ qb 0; have q5 : zR.cell? ⟨qd, 1, none⟩ = some (.slice none 0 0) := bc_ qb 1; have q6 := blk_frozen qb.out 0; have q7 := blk_frozen qb.out 1; obtain ⟨qA, qw, eo27⟩ := Kd.S_slice qf.out; subst eo27) | ((with_reducible refine gate_callee (f := 21) rfl ?_); refine goesL_ (some 18) rfl rfl Tryd.func21 (by kernel_rfl) rfl #[.agg #[.int .i64 qh, .slice qA qi.length qw]] rfl (by (try simp only [List.map_toArray, List.map_cons, List.map_nil]); first | done | rfl | (simp only [List.length_drop, List.length_take]; rfl)) ?_; (with_reducible refine (impl_FormatCell.calls (hL := laid_ HL_ HB) k qh _ _ qi qk _ ?side1 ?side2 A10.out).mono ?_); (case side1 => refine (Kd.S_reads' (e := 27) (base := w.heap.size) (ok := fun k_ => (True ∧ some k_ ≠ (.slice qL qs.length qM : Value).ownBlock)) (n := qi.length) (c := qw) ?_).2.2; exact (by (with_reducible repeat (first | apply Kd.S_alloc | apply Kd.S_drewN | apply Kd.S_drew)); exact (Kd.S_mono (Kd.S_far (p := ⟨qd, 1, none⟩) (Kd.S_far (p := ⟨qd, 0, none⟩) (Kd.S_types qf.out qb.out (by decide)) (fun _ hk => hk.2) (.int .i64 qh)) (fun _ hk => hk.2) (.slice qA qi.length qw)) (fun _ h_ => h_.1)))); (case side2 => exact (Kd.S_reads' qf.out).2.1); rintro e z6 ⟨rfl, hb⟩; refine ⟨_, rfl, ?_⟩; replace qc := Aside0.mk (Kd.S_below (by (with_reducible repeat (first | apply Kd.S_alloc | apply Kd.S_drewN | apply Kd.S_drew)); exact (Kd.S_mono (Kd.S_far (p := ⟨qd, 1, none⟩) (Kd.S_far (p := ⟨qd, 0, none⟩) (Kd.S_types qc.out qb.out (by decide)) (fun _ hk => hk.2) (.int .i64 qh)) (fun _ hk => hk.2) (.slice qA qi.length qw)) (fun _ h_ => h_.1))) hb); replace qf := Aside0.mk (Kd.S_below (by (with_reducible repeat (first | apply Kd.S_alloc | apply Kd.S_drewN | apply Kd.S_drew)); exact (Kd.S_mono (Kd.S_far (p := ⟨qd, 1, none⟩) (Kd.S_far (p := ⟨qd, 0, none⟩) (Kd.S_types qf.out qb.out (by decide)) (fun _ hk => hk.2) (.int .i64 qh)) (fun _ hk => hk.2) (.slice qA qi.length qw)) (fun _ h_ => h_.1))) hb); replace qa := Aside0.mk (blk_below (g := qe) (o := .cells #[.int .i64 a0_0, .slice A0_1 l0_1.length c0_1] 36 (0, 0)) (kf_ qa) hb); replace qb := Aside0.mk (blk_below (g := qd) (o := .cells #[.int .i64 qh, .slice qA qi.length qw] 41 (0, 0)) (by (with_reducible repeat (first | refine blk_drewN ?_ _ | refine blk_drew ?_ | refine blk_alloc ?_ _)); refine blk_put (cs := #[.int .i64 qh, .slice none 0 0]) ?_ 1 _ rfl; (with_reducible repeat (first | refine blk_drewN ?_ _ | refine blk_drew ?_ | refine blk_alloc ?_ _)); refine blk_put (cs := #[.int .i64 0, .slice none 0 0]) ?_ 0 _ rfl; (with_reducible repeat (first | refine blk_drewN ?_ _ | refine blk_drew ?_ | refine blk_alloc ?_ _)); exact qb.out) hb); replace HB := bS_ HB hb; (try clear hb); (try clear hb2); (try clear hk); (try clear hi)))
    replace qc := Aside0.mk (Kd.S_drew qc.out); replace qf := Aside0.mk (Kd.S_drew qf.out); replace qa := Aside0.mk (blk_drew qa.out); replace qb := Aside0.mk (blk_drew qb.out); replace HB := Aside0.mk (below_drew1 HB.out)
    refine start_ (n := 5) (S := fun w' => w'.cell? ⟨qd, 0, none⟩ = some (.int .i64 qh) ∧ w'.cell? ⟨qd, 1, none⟩ = some (.slice qA qi.length qw) ∧ w'.cell? ⟨qe, 0, none⟩ = some (.int .i64 a0_0) ∧ w'.cell? ⟨qe, 1, none⟩ = some (.slice A0_1 l0_1.length c0_1)) (ds := []) #[false, false, false, false, false] (by kernel_rfl) rfl rfl ⟨bc_ qb 0, bc_ qb 1, bc_ qa 0, bc_ qa 1⟩ (fun hHeld => ?_)
    generalize z6.drew = ja at qc qf qa qb HB hHeld ⊢
    refine take_ (i := 0) (N := some 22) (v := ?_) (a' := ?_) #[true, false, false, false, false] rfl rfl (by kernel_rfl) (fun _ _ _ h => h) (Or.inl ⟨by rfl, ?_⟩) hHeld ?_ ?_
    rotate_left
    ·
     rintro w' ⟨s0, s1, s2, s3⟩
     go_simp
     with_reducible rfl
    rotate_left
    ·
     simp only [Act.put, List.setIfInBounds_toArray, List.set_cons_zero, List.set_cons_succ, i64_w, i32_w]
     rfl
    refine take_ (i := 1) (N := some 23) (v := ?_) (a' := ?_) #[true, true, false, false, false] rfl rfl (by kernel_rfl) (fun _ _ _ h => h) (Or.inl ⟨by rfl, ?_⟩) hHeld ?_ ?_
    rotate_left
    ·
     rintro w' ⟨s0, s1, s2, s3⟩
     go_simp
     with_reducible rfl
    rotate_left
    ·
     simp only [Act.put, List.setIfInBounds_toArray, List.set_cons_zero, List.set_cons_succ, i64_w, i32_w]
     rfl
    refine one_ (i := 2) (N := some 24) #[true, true, true, false, false] rfl rfl (by kernel_rfl) (by decide) (fun K hK => ?_)
    refine goes_ Tryd.func20 (by kernel_rfl) rfl #[.agg #[.int .i64 a0_0, .slice A0_1 l0_1.length c0_1]] (by rfl) rfl rfl (by (try simp only [List.map_toArray, List.map_cons, List.map_nil]); first | done | rfl | (simp only [List.length_drop, List.length_take]; rfl)) ?_
    with_reducible refine (laws_toCell.calls k a0_0 _ _ l0_1 qy qz _ ?side1 ?side2 A12.out).mono ?_
    (case side1 => exact cb_ qo HB)
    (case side2 => exact qp.out)
    rintro e jb ⟨zJ, rfl, ho0, hb⟩
    refine ⟨_, rfl, ?_⟩
    have qr := Aside0.mk (Kd.S_lower (Kd.S_new' (Kd.S_new' ho0 (Kd.S_lt (sm_ qc))) (Kd.S_lt (sm_ qf))) (bz_ HB)); replace qc := Aside0.mk (Kd.S_elder' (sm_ qc) (Kd.S_base ho0) hb); replace qf := Aside0.mk (Kd.S_elder' (sm_ qf) (Kd.S_base ho0) hb); replace qa := kB_ qa hb; replace qb := kB_ qb hb; replace HB := bS_ HB hb; (try clear hb); (try clear hb2); (try clear hk); (try clear hi); (try clear ho0)
    obtain ⟨zK, zL, eo31⟩ := Kd.S_slice qr.out
    (first | subst eo31 | (injection eo31 with f1_ f2_ f3_; have f4_ := f1_.symm; have f5_ := f3_.symm; clear f1_ f2_ f3_; subst f4_; subst f5_))
    refine hK.out _ _ ⟨bc_ qb 0, bc_ qb 1, bc_ qa 0, bc_ qa 1⟩ (fun hHeld => ?_)
    clear hK K
    refine norm_ (a' := ?_) ?_ ?_
    rotate_left
    ·
     show Act.put _ (some 24) _ = _
     simp only [Act.put, List.setIfInBounds_toArray, List.set_cons_zero, List.set_cons_succ, i64_w, i32_w]
     rfl
    refine one_ (i := 3) (N := some 25) #[true, true, true, true, false] rfl rfl (by kernel_rfl) (by decide) (fun K hK => ?_)
    refine goes_ Tryd.func22 (by kernel_rfl) rfl #[.agg #[.int .i64 qh, .slice qA qi.length qw], .agg #[.int .i64 qy, .slice zK qz.length zL]] (by rfl) rfl rfl (by (try simp only [List.map_toArray, List.map_cons, List.map_nil]); first | done | rfl | (simp only [List.length_drop, List.length_take]; rfl)) ?_
    with_reducible refine (laws_eqCell.calls k qh _ _ qi qy _ _ qz true _ ?side1 ?side2 ?side3 ?side4 A13.out).mono ?_
    (case side1 => exact cs_ qf)
    (case side2 => exact (Kd.S_reads' qf.out).2.1)
    (case side3 => exact cs_ qr)
    (case side4 => exact (Kd.S_reads' qr.out).2.1)
    rintro e jc ⟨rfl, hb⟩
    refine ⟨_, rfl, ?_⟩
    replace qc := sB_ qc hb; replace qf := sB_ qf hb; replace qr := sB_ qr hb; replace qa := kB_ qa hb; replace qb := kB_ qb hb; replace HB := bS_ HB hb; (try clear hb); (try clear hb2); (try clear hk); (try clear hi)
    refine hK.out _ _ ⟨bc_ qb 0, bc_ qb 1, bc_ qa 0, bc_ qa 1⟩ (fun hHeld => ?_)
    clear hK K
    refine norm_ (a' := ?_) ?_ ?_
    rotate_left
    ·
     show Act.put _ (some 25) _ = _
     simp only [Act.put, List.setIfInBounds_toArray, List.set_cons_zero, List.set_cons_succ, i64_w, i32_w]
     rfl
    refine pure_ (i := 4) (N := some 26) (v := ?_) (a' := ?_) #[true, true, true, true, true] rfl rfl (by kernel_rfl) (fun _ _ _ h => h) (Or.inl ⟨by rfl, ?_⟩) ?_ ?_
    rotate_left
    ·
     intro w'
     go_simp
     with_reducible rfl
    rotate_left
    ·
     simp only [Act.put, List.setIfInBounds_toArray, List.set_cons_zero, List.set_cons_succ, i64_w, i32_w]
     rfl
    refine done_ (by kernel_rfl) ?_
    try go_wp2
    go_ret
    exact ⟨by first | rfl | (simp [errW_none, errW_some] <;> rfl) | (simp [*, errW_none, errW_some] <;> rfl), bb_ HB⟩
   ·
    replace c14 := Bool.eq_false_iff.mpr c14
    subst c14
    have H1 : (some false) = some r := by rw [if_neg (show ¬ (false = true) by decide)] at H; exact H
    clear H
    have H := H1
    clear H1
    obtain rfl := Option.some.inj H
    go_enter Tryd.func5, Tryd.ntmps5
    try go_wp2_with (first | ((with_reducible refine gate_dst (N := 1) rfl ?_); refine box_event ?hg (N := 1) ?hd (cs := #[.int .i64 a0_0, .slice A0_1 l0_1.length c0_1]) (t := 36) ?hr ?_; (case hd => rfl); (case hg => rfl); (case hr => first | (go_simp; done) | (go_simp; rfl)); intro qe hg zU hbox hb; have qa := Aside0.mk (hbox); have qD := Aside0.mk ((by rw [hg]; exact (bz_ HB) : w.heap.size ≤ qe)); have qE := Aside0.mk ((by rw [hg]; exact (bz_ HB) : w.heap.size ≤ qe)); replace HB := bS_ HB hb; clear hb hbox hg; have q8 : zU.cell? ⟨qe, 0, none⟩ = some (.int .i64 a0_0) := bc_ qa 0; have q9 : zU.cell? ⟨qe, 1, none⟩ = some (.slice A0_1 l0_1.length c0_1) := bc_ qa 1; have za := blk_frozen qa.out 0; have zb := blk_frozen qa.out 1) | ((with_reducible refine gate_callee (f := 18) rfl ?_); refine goesL_ (some 9) rfl rfl Tryd.func18 (by kernel_rfl) rfl #[.agg #[.int .i64 a0_0, .slice A0_1 l0_1.length c0_1], .int .i64 1048576] rfl (by (try simp only [List.map_toArray, List.map_cons, List.map_nil]); first | done | rfl | (simp only [List.length_drop, List.length_take]; rfl)) ?_; (with_reducible refine (laws_szCell.calls k a0_0 _ _ l0_1 1048576 qu _ ?side1 ?side2 A2.out).mono ?_); (case side1 => exact cb_ qo HB); (case side2 => exact qp.out); rintro e zV ⟨rfl, hb⟩; refine ⟨_, rfl, ?_⟩; replace qa := kB_ qa hb; replace HB := bS_ HB hb; (try clear hb); (try clear hb2); (try clear hk); (try clear hi); have zc : zV.cell? ⟨qe, 0, none⟩ = some (.int .i64 a0_0) := bc_ qa 0; have zd : zV.cell? ⟨qe, 1, none⟩ = some (.slice A0_1 l0_1.length c0_1) := bc_ qa 1; have ze := blk_frozen qa.out 0; have zf := blk_frozen qa.out 1) | ((with_reducible refine gate_callee (f := 20) rfl ?_); refine goesL_ (some 13) rfl rfl Tryd.func20 (by kernel_rfl) rfl #[.agg #[.int .i64 a0_0, .slice A0_1 l0_1.length c0_1]] rfl (by (try simp only [List.map_toArray, List.map_cons, List.map_nil]); first | done | rfl | (simp only [List.length_drop, List.length_take]; rfl)) ?_; (with_reducible refine (laws_toCell.calls k a0_0 _ _ l0_1 qv qs _ ?side1 ?side2 A7.out).mono ?_); (case side1 => exact cb_ qo HB); (case side2 => exact qp.out); rintro e jd ⟨qK, rfl, ho0, hb⟩; refine ⟨_, rfl, ?_⟩; have qc := Aside0.mk (Kd.S_lower ho0 (bz_ HB)); replace qa := kB_ qa hb; replace HB := bS_ HB hb; (try clear hb); (try clear hb2); (try clear hk); (try clear hi); (try clear ho0); obtain ⟨qO, qP, eo38⟩ := Kd.S_slice qc.out; subst eo38) | ((with_reducible refine gate_callee (f := 19) rfl ?_); refine goesL_ (some 14) rfl rfl Tryd.func19 (by kernel_rfl) rfl #[.agg #[.int .i64 qv, .slice qO qs.length qP]] rfl (by (try simp only [List.map_toArray, List.map_cons, List.map_nil]); first | done | rfl | (simp only [List.length_drop, List.length_take]; rfl)) ?_; (with_reducible refine (spec_FormatCell.calls k qv _ _ qs qn _ ?side1 ?side2 A8.out).mono ?_); (case side1 => exact cs_ qc); (case side2 => exact (Kd.S_reads' qc.out).2.1); rintro e zW ⟨rfl, hb⟩; refine ⟨_, rfl, ?_⟩; replace qc := sB_ qc hb; replace qa := kB_ qa hb; replace HB := bS_ HB hb; (try clear hb); (try clear hb2); (try clear hk); (try clear hi); have zg : zW.cell? ⟨qe, 0, none⟩ = some (.int .i64 a0_0) := bc_ qa 0; have zh : zW.cell? ⟨qe, 1, none⟩ = some (.slice A0_1 l0_1.length c0_1) := bc_ qa 1; have zi := blk_frozen qa.out 0; have zj := blk_frozen qa.out 1) | ((with_reducible refine gate_callee (f := 20) rfl ?_); refine goesL_ (some 16) rfl rfl Tryd.func20 (by kernel_rfl) rfl #[.agg #[.int .i64 a0_0, .slice A0_1 l0_1.length c0_1]] rfl (by (try simp only [List.map_toArray, List.map_cons, List.map_nil]); first | done | rfl | (simp only [List.length_drop, List.length_take]; rfl)) ?_; (with_reducible refine (laws_toCell.calls k a0_0 _ _ l0_1 qh qi _ ?side1 ?side2 A9.out).mono ?_); (case side1 => exact cb_ qo HB); (case side2 => exact qp.out); rintro e je ⟨qN, rfl, ho0, hb⟩; refine ⟨_, rfl, ?_⟩; have qf := Aside0.mk (Kd.S_lower (Kd.S_new' ho0 (Kd.S_lt (sm_ qc))) (bz_ HB)); replace qc := Aside0.mk (Kd.S_elder' (sm_ qc) (Kd.S_base ho0) hb); replace qa := kB_ qa hb; replace HB := bS_ HB hb; (try clear hb); (try clear hb2); (try clear hk); (try clear hi); (try clear ho0)) | ((with_reducible refine gate_dst (N := 5) rfl ?_); refine box_event ?hg (N := 5) ?hd (cs := #[.int .i64 0, .slice none 0 0]) (t := 41) ?hr ?_; (case hd => rfl); (case hg => rfl); (case hr => first | (go_simp; done) | (go_simp; rfl)); intro qd hg zX hbox hb; replace qc := sB_ qc hb; replace qf := sB_ qf hb; have qb := Aside0.mk (hbox); have qG := Aside0.mk ((by rw [hg]; exact (bz_ HB) : w.heap.size ≤ qd)); have qH := Aside0.mk ((by rw [hg]; exact (bz_ HB) : w.heap.size ≤ qd)); replace HB := bS_ HB hb; have ql := Aside0.mk ((nl_ qa hg : qe ≠ qd)); have qm := Aside0.mk ((ng_ qa hg : qd ≠ qe)); replace qa := kB_ qa hb; clear hb hbox hg; have zY := qm.out; have zZ := ql.out; have zk : zX.cell? ⟨qd, 0, none⟩ = some (.int .i64 0) := bc_ qb 0; have zl : zX.cell? ⟨qd, 1, none⟩ = some (.slice none 0 0) := bc_ qb 1; have zm := blk_frozen qb.out 0; have zn := blk_frozen qb.out 1; obtain ⟨qB, qx, eo45⟩ := Kd.S_slice qf.out; subst eo45) | ((with_reducible refine gate_callee (f := 21) rfl ?_); refine goesL_ (some 18) rfl rfl Tryd.func21 (by kernel_rfl) rfl #[.agg #[.int .i64 qh, .slice qB qi.length qx]] rfl (by (try simp only [List.map_toArray, List.map_cons, List.map_nil]); first | done | rfl | (simp only [List.length_drop, List.length_take]; rfl)) ?_; (with_reducible refine (impl_FormatCell.calls (hL := laid_ HL_ HB) k qh _ _ qi qk _ ?side1 ?side2 A10.out).mono ?_); (case side1 => refine (Kd.S_reads' (e := 27) (base := w.heap.size) (ok := fun k_ => (True ∧ some k_ ≠ (.slice qO qs.length qP : Value).ownBlock)) (n := qi.length) (c := qx) ?_).2.2; exact (by (with_reducible repeat (first | apply Kd.S_alloc | apply Kd.S_drewN | apply Kd.S_drew)); exact (Kd.S_mono (Kd.S_far (p := ⟨qd, 1, none⟩) (Kd.S_far (p := ⟨qd, 0, none⟩) (Kd.S_types qf.out qb.out (by decide)) (fun _ hk => hk.2) (.int .i64 qh)) (fun _ hk => hk.2) (.slice qB qi.length qx)) (fun _ h_ => h_.1)))); (case side2 => exact (Kd.S_reads' qf.out).2.1); rintro e z7 ⟨rfl, hb⟩; refine ⟨_, rfl, ?_⟩; replace qc := Aside0.mk (Kd.S_below (by (with_reducible repeat (first | apply Kd.S_alloc | apply Kd.S_drewN | apply Kd.S_drew)); exact (Kd.S_mono (Kd.S_far (p := ⟨qd, 1, none⟩) (Kd.S_far (p := ⟨qd, 0, none⟩) (Kd.S_types qc.out qb.out (by decide)) (fun _ hk => hk.2) (.int .i64 qh)) (fun _ hk => hk.2) (.slice qB qi.length qx)) (fun _ h_ => h_.1))) hb); replace qf := Aside0.mk (Kd.S_below (by (with_reducible repeat (first | apply Kd.S_alloc | apply Kd.S_drewN | apply Kd.S_drew)); exact (Kd.S_mono (Kd.S_far (p := ⟨qd, 1, none⟩) (Kd.S_far (p := ⟨qd, 0, none⟩) (Kd.S_types qf.out qb.out (by decide)) (fun _ hk => hk.2) (.int .i64 qh)) (fun _ hk => hk.2) (.slice qB qi.length qx)) (fun _ h_ => h_.1))) hb); replace qa := Aside0.mk (blk_below (g := qe) (o := .cells #[.int .i64 a0_0, .slice A0_1 l0_1.length c0_1] 36 (0, 0)) (kf_ qa) hb); replace qb := Aside0.mk (blk_below (g := qd) (o := .cells #[.int .i64 qh, .slice qB qi.length qx] 41 (0, 0)) (by (with_reducible repeat (first | refine blk_drewN ?_ _ | refine blk_drew ?_ | refine blk_alloc ?_ _)); refine blk_put (cs := #[.int .i64 qh, .slice none 0 0]) ?_ 1 _ rfl; (with_reducible repeat (first | refine blk_drewN ?_ _ | refine blk_drew ?_ | refine blk_alloc ?_ _)); refine blk_put (cs := #[.int .i64 0, .slice none 0 0]) ?_ 0 _ rfl; (with_reducible repeat (first | refine blk_drewN ?_ _ | refine blk_drew ?_ | refine blk_alloc ?_ _)); exact qb.out) hb); replace HB := bS_ HB hb; (try clear hb); (try clear hb2); (try clear hk); (try clear hi)))
    replace qc := Aside0.mk (Kd.S_drew qc.out); replace qf := Aside0.mk (Kd.S_drew qf.out); replace qa := Aside0.mk (blk_drew qa.out); replace qb := Aside0.mk (blk_drew qb.out); replace HB := Aside0.mk (below_drew1 HB.out)
    refine start_ (n := 5) (S := fun w' => w'.cell? ⟨qd, 0, none⟩ = some (.int .i64 qh) ∧ w'.cell? ⟨qd, 1, none⟩ = some (.slice qB qi.length qx) ∧ w'.cell? ⟨qe, 0, none⟩ = some (.int .i64 a0_0) ∧ w'.cell? ⟨qe, 1, none⟩ = some (.slice A0_1 l0_1.length c0_1)) (ds := []) #[false, false, false, false, false] (by kernel_rfl) rfl rfl ⟨bc_ qb 0, bc_ qb 1, bc_ qa 0, bc_ qa 1⟩ (fun hHeld => ?_)
    generalize z7.drew = jf at qc qf qa qb HB hHeld ⊢
    refine take_ (i := 0) (N := some 22) (v := ?_) (a' := ?_) #[true, false, false, false, false] rfl rfl (by kernel_rfl) (fun _ _ _ h => h) (Or.inl ⟨by rfl, ?_⟩) hHeld ?_ ?_
    rotate_left
    ·
     rintro w' ⟨s0, s1, s2, s3⟩
     go_simp
     with_reducible rfl
    rotate_left
    ·
     simp only [Act.put, List.setIfInBounds_toArray, List.set_cons_zero, List.set_cons_succ, i64_w, i32_w]
     rfl
    refine take_ (i := 1) (N := some 23) (v := ?_) (a' := ?_) #[true, true, false, false, false] rfl rfl (by kernel_rfl) (fun _ _ _ h => h) (Or.inl ⟨by rfl, ?_⟩) hHeld ?_ ?_
    rotate_left
    ·
     rintro w' ⟨s0, s1, s2, s3⟩
     go_simp
     with_reducible rfl
    rotate_left
    ·
     simp only [Act.put, List.setIfInBounds_toArray, List.set_cons_zero, List.set_cons_succ, i64_w, i32_w]
     rfl
    refine one_ (i := 2) (N := some 24) #[true, true, true, false, false] rfl rfl (by kernel_rfl) (by decide) (fun K hK => ?_)
    refine goes_ Tryd.func20 (by kernel_rfl) rfl #[.agg #[.int .i64 a0_0, .slice A0_1 l0_1.length c0_1]] (by rfl) rfl rfl (by (try simp only [List.map_toArray, List.map_cons, List.map_nil]); first | done | rfl | (simp only [List.length_drop, List.length_take]; rfl)) ?_
    with_reducible refine (laws_toCell.calls k a0_0 _ _ l0_1 qy qz _ ?side1 ?side2 A12.out).mono ?_
    (case side1 => exact cb_ qo HB)
    (case side2 => exact qp.out)
    rintro e jg ⟨zJ, rfl, ho0, hb⟩
    refine ⟨_, rfl, ?_⟩
    have qr := Aside0.mk (Kd.S_lower (Kd.S_new' (Kd.S_new' ho0 (Kd.S_lt (sm_ qc))) (Kd.S_lt (sm_ qf))) (bz_ HB)); replace qc := Aside0.mk (Kd.S_elder' (sm_ qc) (Kd.S_base ho0) hb); replace qf := Aside0.mk (Kd.S_elder' (sm_ qf) (Kd.S_base ho0) hb); replace qa := kB_ qa hb; replace qb := kB_ qb hb; replace HB := bS_ HB hb; (try clear hb); (try clear hb2); (try clear hk); (try clear hi); (try clear ho0)
    obtain ⟨zM, zN, eo49⟩ := Kd.S_slice qr.out
    (first | subst eo49 | (injection eo49 with f1_ f2_ f3_; have f4_ := f1_.symm; have f5_ := f3_.symm; clear f1_ f2_ f3_; subst f4_; subst f5_))
    refine hK.out _ _ ⟨bc_ qb 0, bc_ qb 1, bc_ qa 0, bc_ qa 1⟩ (fun hHeld => ?_)
    clear hK K
    refine norm_ (a' := ?_) ?_ ?_
    rotate_left
    ·
     show Act.put _ (some 24) _ = _
     simp only [Act.put, List.setIfInBounds_toArray, List.set_cons_zero, List.set_cons_succ, i64_w, i32_w]
     rfl
    refine one_ (i := 3) (N := some 25) #[true, true, true, true, false] rfl rfl (by kernel_rfl) (by decide) (fun K hK => ?_)
    refine goes_ Tryd.func22 (by kernel_rfl) rfl #[.agg #[.int .i64 qh, .slice qB qi.length qx], .agg #[.int .i64 qy, .slice zM qz.length zN]] (by rfl) rfl rfl (by (try simp only [List.map_toArray, List.map_cons, List.map_nil]); first | done | rfl | (simp only [List.length_drop, List.length_take]; rfl)) ?_
    with_reducible refine (laws_eqCell.calls k qh _ _ qi qy _ _ qz false _ ?side1 ?side2 ?side3 ?side4 A13.out).mono ?_
    (case side1 => exact cs_ qf)
    (case side2 => exact (Kd.S_reads' qf.out).2.1)
    (case side3 => exact cs_ qr)
    (case side4 => exact (Kd.S_reads' qr.out).2.1)
    rintro e jh ⟨rfl, hb⟩
    refine ⟨_, rfl, ?_⟩
    replace qc := sB_ qc hb; replace qf := sB_ qf hb; replace qr := sB_ qr hb; replace qa := kB_ qa hb; replace qb := kB_ qb hb; replace HB := bS_ HB hb; (try clear hb); (try clear hb2); (try clear hk); (try clear hi)
    refine hK.out _ _ ⟨bc_ qb 0, bc_ qb 1, bc_ qa 0, bc_ qa 1⟩ (fun hHeld => ?_)
    clear hK K
    refine norm_ (a' := ?_) ?_ ?_
    rotate_left
    ·
     show Act.put _ (some 25) _ = _
     simp only [Act.put, List.setIfInBounds_toArray, List.set_cons_zero, List.set_cons_succ, i64_w, i32_w]
     rfl
    refine pure_ (i := 4) (N := some 26) (v := ?_) (a' := ?_) #[true, true, true, true, true] rfl rfl (by kernel_rfl) (fun _ _ _ h => h) (Or.inl ⟨by rfl, ?_⟩) ?_ ?_
    rotate_left
    ·
     intro w'
     go_simp
     with_reducible rfl
    rotate_left
    ·
     simp only [Act.put, List.setIfInBounds_toArray, List.set_cons_zero, List.set_cons_succ, i64_w, i32_w]
     rfl
    refine done_ (by kernel_rfl) ?_
    try go_wp2
    go_ret
    exact ⟨by first | rfl | (simp [errW_none, errW_some] <;> rfl) | (simp [*, errW_none, errW_some] <;> rfl), bb_ HB⟩
  ·
   rw [if_neg c11] at H
   have qI : (qk.toList == qn.toList) = false := beq_eq_false_iff_ne.mpr c11
   have qJ : (qk.toList != qn.toList) = true := bne_iff_ne.mpr c11
   obtain rfl := Option.some.inj H
   go_enter Tryd.func5, Tryd.ntmps5
   go_wp2_with (first | ((with_reducible refine gate_dst (N := 1) rfl ?_); refine box_event ?hg (N := 1) ?hd (cs := #[.int .i64 a0_0, .slice A0_1 l0_1.length c0_1]) (t := 36) ?hr ?_; (case hd => rfl); (case hg => rfl); (case hr => first | (go_simp; done) | (go_simp; rfl)); intro qe hg z0 hbox hb; have qa := Aside0.mk (hbox); have qD := Aside0.mk ((by rw [hg]; exact (bz_ HB) : w.heap.size ≤ qe)); have qE := Aside0.mk ((by rw [hg]; exact (bz_ HB) : w.heap.size ≤ qe)); replace HB := bS_ HB hb; clear hb hbox hg; have zo : z0.cell? ⟨qe, 0, none⟩ = some (.int .i64 a0_0) := bc_ qa 0; have zp : z0.cell? ⟨qe, 1, none⟩ = some (.slice A0_1 l0_1.length c0_1) := bc_ qa 1; have zq := blk_frozen qa.out 0; have zr := blk_frozen qa.out 1) | ((with_reducible refine gate_callee (f := 18) rfl ?_); refine goesL_ (some 9) rfl rfl Tryd.func18 (by kernel_rfl) rfl #[.agg #[.int .i64 a0_0, .slice A0_1 l0_1.length c0_1], .int .i64 1048576] rfl (by (try simp only [List.map_toArray, List.map_cons, List.map_nil]); first | done | rfl | (simp only [List.length_drop, List.length_take]; rfl)) ?_; (with_reducible refine (laws_szCell.calls k a0_0 _ _ l0_1 1048576 qu _ ?side1 ?side2 A2.out).mono ?_); (case side1 => exact cb_ qo HB); (case side2 => exact qp.out); rintro e z1 ⟨rfl, hb⟩; refine ⟨_, rfl, ?_⟩; replace qa := kB_ qa hb; replace HB := bS_ HB hb; (try clear hb); (try clear hb2); (try clear hk); (try clear hi); have zs : z1.cell? ⟨qe, 0, none⟩ = some (.int .i64 a0_0) := bc_ qa 0; have zt : z1.cell? ⟨qe, 1, none⟩ = some (.slice A0_1 l0_1.length c0_1) := bc_ qa 1; have zu := blk_frozen qa.out 0; have zv := blk_frozen qa.out 1) | ((with_reducible refine gate_callee (f := 20) rfl ?_); refine goesL_ (some 13) rfl rfl Tryd.func20 (by kernel_rfl) rfl #[.agg #[.int .i64 a0_0, .slice A0_1 l0_1.length c0_1]] rfl (by (try simp only [List.map_toArray, List.map_cons, List.map_nil]); first | done | rfl | (simp only [List.length_drop, List.length_take]; rfl)) ?_; (with_reducible refine (laws_toCell.calls k a0_0 _ _ l0_1 qv qs _ ?side1 ?side2 A7.out).mono ?_); (case side1 => exact cb_ qo HB); (case side2 => exact qp.out); rintro e ji ⟨qK, rfl, ho0, hb⟩; refine ⟨_, rfl, ?_⟩; have qc := Aside0.mk (Kd.S_lower ho0 (bz_ HB)); replace qa := kB_ qa hb; replace HB := bS_ HB hb; (try clear hb); (try clear hb2); (try clear hk); (try clear hi); (try clear ho0); obtain ⟨qQ, qR, eo56⟩ := Kd.S_slice qc.out; subst eo56) | ((with_reducible refine gate_callee (f := 19) rfl ?_); refine goesL_ (some 14) rfl rfl Tryd.func19 (by kernel_rfl) rfl #[.agg #[.int .i64 qv, .slice qQ qs.length qR]] rfl (by (try simp only [List.map_toArray, List.map_cons, List.map_nil]); first | done | rfl | (simp only [List.length_drop, List.length_take]; rfl)) ?_; (with_reducible refine (spec_FormatCell.calls k qv _ _ qs qn _ ?side1 ?side2 A8.out).mono ?_); (case side1 => exact cs_ qc); (case side2 => exact (Kd.S_reads' qc.out).2.1); rintro e z2 ⟨rfl, hb⟩; refine ⟨_, rfl, ?_⟩; replace qc := sB_ qc hb; replace qa := kB_ qa hb; replace HB := bS_ HB hb; (try clear hb); (try clear hb2); (try clear hk); (try clear hi); have zw : z2.cell? ⟨qe, 0, none⟩ = some (.int .i64 a0_0) := bc_ qa 0; have zx : z2.cell? ⟨qe, 1, none⟩ = some (.slice A0_1 l0_1.length c0_1) := bc_ qa 1; have zy := blk_frozen qa.out 0; have zz := blk_frozen qa.out 1) | ((with_reducible refine gate_callee (f := 20) rfl ?_); refine goesL_ (some 16) rfl rfl Tryd.func20 (by kernel_rfl) rfl #[.agg #[.int .i64 a0_0, .slice A0_1 l0_1.length c0_1]] rfl (by (try simp only [List.map_toArray, List.map_cons, List.map_nil]); first | done | rfl | (simp only [List.length_drop, List.length_take]; rfl)) ?_; (with_reducible refine (laws_toCell.calls k a0_0 _ _ l0_1 qh qi _ ?side1 ?side2 A9.out).mono ?_); (case side1 => exact cb_ qo HB); (case side2 => exact qp.out); rintro e jj ⟨qN, rfl, ho0, hb⟩; refine ⟨_, rfl, ?_⟩; have qf := Aside0.mk (Kd.S_lower (Kd.S_new' ho0 (Kd.S_lt (sm_ qc))) (bz_ HB)); replace qc := Aside0.mk (Kd.S_elder' (sm_ qc) (Kd.S_base ho0) hb); replace qa := kB_ qa hb; replace HB := bS_ HB hb; (try clear hb); (try clear hb2); (try clear hk); (try clear hi); (try clear ho0)) | ((with_reducible refine gate_dst (N := 5) rfl ?_); refine box_event ?hg (N := 5) ?hd (cs := #[.int .i64 0, .slice none 0 0]) (t := 41) ?hr ?_; (case hd => rfl); (case hg => rfl); (case hr => first | (go_simp; done) | (go_simp; rfl)); intro qd hg z3 hbox hb; replace qc := sB_ qc hb; replace qf := sB_ qf hb; have qb := Aside0.mk (hbox); have qG := Aside0.mk ((by rw [hg]; exact (bz_ HB) : w.heap.size ≤ qd)); have qH := Aside0.mk ((by rw [hg]; exact (bz_ HB) : w.heap.size ≤ qd)); replace HB := bS_ HB hb; have ql := Aside0.mk ((nl_ qa hg : qe ≠ qd)); have qm := Aside0.mk ((ng_ qa hg : qd ≠ qe)); replace qa := kB_ qa hb; clear hb hbox hg; have z4 := qm.out; have z5 := ql.out; have zA : z3.cell? ⟨qd, 0, none⟩ = some (.int .i64 0) := bc_ qb 0; have zB : z3.cell? ⟨qd, 1, none⟩ = some (.slice none 0 0) := bc_ qb 1; have zC := blk_frozen qb.out 0; have zD := blk_frozen qb.out 1; obtain ⟨qF, qC, eo63⟩ := Kd.S_slice qf.out; subst eo63) | ((with_reducible refine gate_callee (f := 21) rfl ?_); refine goesL_ (some 18) rfl rfl Tryd.func21 (by kernel_rfl) rfl #[.agg #[.int .i64 qh, .slice qF qi.length qC]] rfl (by (try simp only [List.map_toArray, List.map_cons, List.map_nil]); first | done | rfl | (simp only [List.length_drop, List.length_take]; rfl)) ?_; (with_reducible refine (impl_FormatCell.calls (hL := laid_ HL_ HB) k qh _ _ qi qk _ ?side1 ?side2 A10.out).mono ?_); (case side1 => refine (Kd.S_reads' (e := 27) (base := w.heap.size) (ok := fun k_ => (True ∧ some k_ ≠ (.slice qQ qs.length qR : Value).ownBlock)) (n := qi.length) (c := qC) ?_).2.2; exact (by (with_reducible repeat (first | apply Kd.S_alloc | apply Kd.S_drewN | apply Kd.S_drew)); exact (Kd.S_mono (Kd.S_far (p := ⟨qd, 1, none⟩) (Kd.S_far (p := ⟨qd, 0, none⟩) (Kd.S_types qf.out qb.out (by decide)) (fun _ hk => hk.2) (.int .i64 qh)) (fun _ hk => hk.2) (.slice qF qi.length qC)) (fun _ h_ => h_.1)))); (case side2 => exact (Kd.S_reads' qf.out).2.1); rintro e jk ⟨rfl, hb⟩; refine ⟨_, rfl, ?_⟩; replace qc := Aside0.mk (Kd.S_below (by (with_reducible repeat (first | apply Kd.S_alloc | apply Kd.S_drewN | apply Kd.S_drew)); exact (Kd.S_mono (Kd.S_far (p := ⟨qd, 1, none⟩) (Kd.S_far (p := ⟨qd, 0, none⟩) (Kd.S_types qc.out qb.out (by decide)) (fun _ hk => hk.2) (.int .i64 qh)) (fun _ hk => hk.2) (.slice qF qi.length qC)) (fun _ h_ => h_.1))) hb); replace qf := Aside0.mk (Kd.S_below (by (with_reducible repeat (first | apply Kd.S_alloc | apply Kd.S_drewN | apply Kd.S_drew)); exact (Kd.S_mono (Kd.S_far (p := ⟨qd, 1, none⟩) (Kd.S_far (p := ⟨qd, 0, none⟩) (Kd.S_types qf.out qb.out (by decide)) (fun _ hk => hk.2) (.int .i64 qh)) (fun _ hk => hk.2) (.slice qF qi.length qC)) (fun _ h_ => h_.1))) hb); replace qa := Aside0.mk (blk_below (g := qe) (o := .cells #[.int .i64 a0_0, .slice A0_1 l0_1.length c0_1] 36 (0, 0)) (kf_ qa) hb); replace qb := Aside0.mk (blk_below (g := qd) (o := .cells #[.int .i64 qh, .slice qF qi.length qC] 41 (0, 0)) (by (with_reducible repeat (first | refine blk_drewN ?_ _ | refine blk_drew ?_ | refine blk_alloc ?_ _)); refine blk_put (cs := #[.int .i64 qh, .slice none 0 0]) ?_ 1 _ rfl; (with_reducible repeat (first | refine blk_drewN ?_ _ | refine blk_drew ?_ | refine blk_alloc ?_ _)); refine blk_put (cs := #[.int .i64 0, .slice none 0 0]) ?_ 0 _ rfl; (with_reducible repeat (first | refine blk_drewN ?_ _ | refine blk_drew ?_ | refine blk_alloc ?_ _)); exact qb.out) hb); replace HB := bS_ HB hb; (try clear hb); (try clear hb2); (try clear hk); (try clear hi)))
   go_ret
   exact ⟨by first | rfl | (simp [errW_none, errW_some] <;> rfl) | (simp [*, errW_none, errW_some] <;> rfl), bb_ HB⟩

end Go.Proofs.YtohoibekddhneaaDoor.PFnExactFormatCell
