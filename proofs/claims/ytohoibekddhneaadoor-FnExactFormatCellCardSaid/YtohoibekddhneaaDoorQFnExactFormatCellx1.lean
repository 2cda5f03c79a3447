/- The functions that the law FnExactFormatCell reaches, each as a Lean function with the same answers, and the proof that the call comes to exactly these: turned by program out of the printed texts. No condition but those that each theorem names. -/
import Derived.Test.YtohoibekddhneaaDoorQFnExactFormatCellx0
namespace Go.Proofs.YtohoibekddhneaaDoor.PFnExactFormatCell
open Go.RowKit Go.Proofs.YtohoibekddhneaaDoorW.PrintWords Go.Proofs.YtohoibekddhneaaDoorW.PrintLast Go.Proofs.YtohoibekddhneaaDoorW.PrintMore
attribute [local go_sem] max2_int min2_int max_two min_two max_three min_three max_four min_four   -- for this text's walks alone
set_option linter.unusedVariables false
set_option linter.unusedSimpArgs false

/-! ### laws_szIntS: function 49 -/
def laws_szIntS.f (l0 : List Int) (a1 : Int) : Option (Int) := if (wrap64 (a1 - (l0.length : Int))) < 0 then (some (-1)) else (some (wrap64 (a1 - (l0.length : Int))))
set_option maxHeartbeats 8000000 in
set_option maxRecDepth 100000 in
theorem laws_szIntS.calls (A0 : Option Addr) (c0 : Nat) (l0 : List Int) (a1 : Int) (r : Int) (w : World) (hr0 : Kd.C (Kd.int .i64) w A0 l0.length l0) (hc0 : l0.length ≤ c0) (h : laws_szIntS.f l0 a1 = some r) :
  Calls Tryd.prog 49 #[.slice A0 l0.length c0, .int .i64 a1] w fun e w' => e = .returned (.int .i64 r) ∧ Drawn0 w w' := by
 have HR0 := Aside0.mk hr0
 have HC0 := Aside0.mk hc0
 clear hr0 hc0
 have H : (if (wrap64 (a1 - (l0.length : Int))) < 0 then (some (-1)) else (some (wrap64 (a1 - (l0.length : Int))))) = some r := h
 clear h
 by_cases c3 : (wrap64 (a1 - (l0.length : Int))) < 0
 ·
  rw [if_pos c3] at H
  have qa : decide ((wrap64 (a1 - (l0.length : Int))) < 0) = true := decide_eq_true c3
  clear c3
  obtain rfl := Option.some.inj H
  go_enter Tryd.func49, Tryd.ntmps49
  go_wp2
  go_ret
  exact ⟨by first | rfl | (simp; done) | (simp [*]; done), by repeat (first | exact Drawn0.refl _ | apply Drawn0.step)⟩
 ·
  rw [if_neg c3] at H
  have qa : decide ((wrap64 (a1 - (l0.length : Int))) < 0) = false := decide_eq_false c3
  clear c3
  obtain rfl := Option.some.inj H
  go_enter Tryd.func49, Tryd.ntmps49
  go_wp2
  go_ret
  exact ⟨by first | rfl | (simp; done) | (simp [*]; done), by repeat (first | exact Drawn0.refl _ | apply Drawn0.step)⟩

/-! ### laws_szAtom: function 11 -/
def laws_szAtom.f (l0_0 : List Int) (a0_1 : Int) (a0_2 : Bool) (a1 : Int) : Option (Int) := (laws_szIntS.f l0_0 a1).bind fun qc => (if qc < 0 then (some (-1)) else (some qc))
set_option maxHeartbeats 8000000 in
set_option maxRecDepth 100000 in
theorem laws_szAtom.calls (A0_0 : Option Addr) (c0_0 : Nat) (l0_0 : List Int) (a0_1 : Int) (a0_2 : Bool) (a1 : Int) (r : Int) (w : World) (hr0_0 : Kd.C (Kd.int .i64) w A0_0 l0_0.length l0_0) (hc0_0 : l0_0.length ≤ c0_0) (h : laws_szAtom.f l0_0 a0_1 a0_2 a1 = some r) :
  Calls Tryd.prog 11 #[.agg #[.slice A0_0 l0_0.length c0_0, .int .i64 a0_1, .bool a0_2], .int .i64 a1] w fun e w' => e = .returned (.int .i64 r) ∧ Below w.heap.size w w' := by
 have hu24 := Tryd.underlying24
 have qd := Aside0.mk hr0_0
 have qe := Aside0.mk hc0_0
 clear hr0_0 hc0_0
 have HB := Aside0.mk (Below.refl w.heap.size w)
 have H : ((laws_szIntS.f l0_0 a1).bind fun qc => (if qc < 0 then (some (-1)) else (some qc))) = some r := h
 clear h
 replace H := Option.bind_eq_some_iff.mp H
 obtain ⟨qc, A30, H⟩ := H
 replace H : (if qc < 0 then (some (-1)) else (some qc)) = some r := H
 have A3 := Aside0.mk A30
 clear A30
 by_cases c4 : qc < 0
 ·
  rw [if_pos c4] at H
  have qh : decide (qc < 0) = true := decide_eq_true c4
  clear c4
  obtain rfl := Option.some.inj H
  go_enter Tryd.func11, Tryd.ntmps11
  go_wp2_with (first | ((with_reducible refine gate_dst (N := 2) rfl ?_); refine box_event ?hg (N := 2) ?hd (cs := #[.slice A0_0 l0_0.length c0_0, .int .i64 a0_1, .bool a0_2]) (t := 24) ?hr ?_; (case hd => rfl); (case hg => rfl); (case hr => first | (go_simp; done) | (go_simp; rfl)); intro qb hg w5 hbox hb; have qa := Aside0.mk (hbox); have qf := Aside0.mk ((by rw [hg]; exact (bz_ HB) : w.heap.size ≤ qb)); have qg := Aside0.mk ((by rw [hg]; exact (bz_ HB) : w.heap.size ≤ qb)); replace HB := bS_ HB hb; clear hb hbox hg; have qi : w5.cell? ⟨qb, 0, none⟩ = some (.slice A0_0 l0_0.length c0_0) := bc_ qa 0; have qj : w5.cell? ⟨qb, 1, none⟩ = some (.int .i64 a0_1) := bc_ qa 1; have qk : w5.cell? ⟨qb, 2, none⟩ = some (.bool a0_2) := bc_ qa 2; have ql := blk_frozen qa.out 0; have qm := blk_frozen qa.out 1; have qn := blk_frozen qa.out 2) | ((with_reducible refine gate_callee (f := 49) rfl ?_); refine goesL_ (some 8) rfl rfl Tryd.func49 (by kernel_rfl) rfl #[.slice A0_0 l0_0.length c0_0, .int .i64 a1] rfl (by (try simp only [List.map_toArray, List.map_cons, List.map_nil]); first | done | rfl | (simp only [List.length_drop, List.length_take]; rfl)) ?_; (with_reducible refine (laws_szIntS.calls _ _ l0_0 a1 qc _ ?side1 ?side2 A3.out).mono ?_); (case side1 => exact cb_ qd HB); (case side2 => exact qe.out); rintro e w' ⟨rfl, ⟨nd, rfl⟩⟩; refine ⟨_, rfl, ?_⟩))
  go_ret
  exact ⟨by first | rfl | (simp [errW_none, errW_some] <;> rfl) | (simp [*, errW_none, errW_some] <;> rfl), bb_ HB⟩
 ·
  rw [if_neg c4] at H
  have qh : decide (qc < 0) = false := decide_eq_false c4
  clear c4
  obtain rfl := Option.some.inj H
  go_enter Tryd.func11, Tryd.ntmps11
  go_wp2_with (first | ((with_reducible refine gate_dst (N := 2) rfl ?_); refine box_event ?hg (N := 2) ?hd (cs := #[.slice A0_0 l0_0.length c0_0, .int .i64 a0_1, .bool a0_2]) (t := 24) ?hr ?_; (case hd => rfl); (case hg => rfl); (case hr => first | (go_simp; done) | (go_simp; rfl)); intro qb hg w7 hbox hb; have qa := Aside0.mk (hbox); have qf := Aside0.mk ((by rw [hg]; exact (bz_ HB) : w.heap.size ≤ qb)); have qg := Aside0.mk ((by rw [hg]; exact (bz_ HB) : w.heap.size ≤ qb)); replace HB := bS_ HB hb; clear hb hbox hg; have qo : w7.cell? ⟨qb, 0, none⟩ = some (.slice A0_0 l0_0.length c0_0) := bc_ qa 0; have qp : w7.cell? ⟨qb, 1, none⟩ = some (.int .i64 a0_1) := bc_ qa 1; have qq : w7.cell? ⟨qb, 2, none⟩ = some (.bool a0_2) := bc_ qa 2; have qr := blk_frozen qa.out 0; have qs := blk_frozen qa.out 1; have qt := blk_frozen qa.out 2) | ((with_reducible refine gate_callee (f := 49) rfl ?_); refine goesL_ (some 8) rfl rfl Tryd.func49 (by kernel_rfl) rfl #[.slice A0_0 l0_0.length c0_0, .int .i64 a1] rfl (by (try simp only [List.map_toArray, List.map_cons, List.map_nil]); first | done | rfl | (simp only [List.length_drop, List.length_take]; rfl)) ?_; (with_reducible refine (laws_szIntS.calls _ _ l0_0 a1 qc _ ?side1 ?side2 A3.out).mono ?_); (case side1 => exact cb_ qd HB); (case side2 => exact qe.out); rintro e w' ⟨rfl, ⟨nd, rfl⟩⟩; refine ⟨_, rfl, ?_⟩))
  go_ret
  exact ⟨by first | rfl | (simp [errW_none, errW_some] <;> rfl) | (simp [*, errW_none, errW_some] <;> rfl), bb_ HB⟩

/-! ### laws_szAtomS: function 62 -/
def laws_szAtomS.l0 : Nat → List (S24) → Int → Int → Option (Int)
 | 0, _, _, _ => none
 | k + 1, x0, x1, x5 => if x5 < (x0.length : Int) then (if 0 ≤ x5 then ((laws_szAtom.f ((rd_T24 x0 x5).f0) ((rd_T24 x0 x5).f1) ((rd_T24 x0 x5).f2) x1).bind fun qe => (if qe < 0 then (some (-1)) else (laws_szAtomS.l0 k x0 qe (wrap64 (x5 + 1))))) else (none)) else (some x1)
def laws_szAtomS.f (k : Nat) (l0 : List (S24)) (a1 : Int) : Option (Int) := if (wrap64 (a1 - (l0.length : Int))) < 0 then (some (-1)) else (laws_szAtomS.l0 k l0 (wrap64 (a1 - (l0.length : Int))) 0)
theorem laws_szAtomS.mono_l : ∀ k, (∀ y0 y1 y2, LeO (laws_szAtomS.l0 k y0 y1 y2) (laws_szAtomS.l0 (k + 1) y0 y1 y2))
 | 0 => fun _ _ _ r h => by simp [laws_szAtomS.l0] at h
 | k + 1 => by
  have ih0 := laws_szAtomS.mono_l k
  ·
   intro y0 y1 y2
   unfold laws_szAtomS.l0
   repeat' first
   | (with_reducible exact ih0 _ _ _)
   | (with_reducible exact LeO.refl _)
   | (with_reducible exact LeO.none _)
   | (with_reducible refine LeO.ite ?_ ?_)
   | (with_reducible refine LeO.bind ?_ (fun _ => ?_))
   | exact ih0 _ _ _
   | exact LeO.none _
   | refine LeO.ite ?_ ?_
   | refine LeO.bind ?_ (fun _ => ?_)
theorem laws_szAtomS.mono : ∀ a0 a1 k, LeO (laws_szAtomS.f k a0 a1) (laws_szAtomS.f (k + 1) a0 a1) := by
 intro a0 a1 k
 have ih0 := laws_szAtomS.mono_l k
 unfold laws_szAtomS.f
 repeat' first
   | (with_reducible exact ih0 _ _ _)
   | (with_reducible exact LeO.refl _)
   | (with_reducible exact LeO.none _)
   | (with_reducible refine LeO.ite ?_ ?_)
   | (with_reducible refine LeO.bind ?_ (fun _ => ?_))
   | exact ih0 _ _ _
   | exact LeO.none _
   | refine LeO.ite ?_ ?_
   | refine LeO.bind ?_ (fun _ => ?_)
set_option maxHeartbeats 8000000 in
set_option maxRecDepth 100000 in
theorem laws_szAtomS.calls (k : Nat) (A0 : Option Addr) (c0 : Nat) (l0 : List (S24)) (a1 : Int) (r : Int) (w : World) (hr0 : Kd.C k24 w A0 l0.length l0) (hc0 : l0.length ≤ c0) (h : laws_szAtomS.f k l0 a1 = some r) :
  Calls Tryd.prog 62 #[.slice A0 l0.length c0, .int .i64 a1] w fun e w' => e = .returned (.int .i64 r) ∧ Below w.heap.size w w' := by
 have hu24 := Tryd.underlying24
 have HR0 := Aside0.mk hr0
 have HC0 := Aside0.mk hc0
 clear hr0 hc0
 have HB := Aside0.mk (Below.refl w.heap.size w)
 have H : (if (wrap64 (a1 - (l0.length : Int))) < 0 then (some (-1)) else (laws_szAtomS.l0 k l0 (wrap64 (a1 - (l0.length : Int))) 0)) = some r := h
 clear h
 by_cases c3 : (wrap64 (a1 - (l0.length : Int))) < 0
 ·
  rw [if_pos c3] at H
  have qj : decide ((wrap64 (a1 - (l0.length : Int))) < 0) = true := decide_eq_true c3
  clear c3
  obtain rfl := Option.some.inj H
  go_enter Tryd.func62, Tryd.ntmps62
  go_wp2
  go_ret
  exact ⟨by first | rfl | (simp [errW_none, errW_some] <;> rfl) | (simp [*, errW_none, errW_some] <;> rfl), bb_ HB⟩
 ·
  rw [if_neg c3] at H
  have qj : decide ((wrap64 (a1 - (l0.length : Int))) < 0) = false := decide_eq_false c3
  clear c3
  have H' := Aside0.mk H
  clear H
  go_enter Tryd.func62, Tryd.ntmps62
  go_wp2
  go_loopg [1, 5] k (fun kq v1 v5 w' => ∃ (qh : Int) (qa : Int), v1 = .int .i64 qh ∧ v5 = .int .i64 qa ∧ Aside0 (laws_szAtomS.l0 kq l0 qh qa = some r) ∧ Aside0 (kq ≤ k) ∧ Aside0 (Below w.heap.size w w'))
  case atStart => exact ⟨(wrap64 (a1 - (l0.length : Int))), (0), (by first | rfl | (simp; done) | (simp [*]; done)), (by first | rfl | (simp; done) | (simp [*]; done)), H', ⟨Nat.le_refl _⟩, ⟨bb_ HB⟩⟩
  case round =>
   clear H'
   try clear p2
   try clear c3
   try clear qj
   obtain ⟨qh, qa, rfl, rfl, HA, HK1, HB⟩ := hrel
   cases gk with
   | zero => exact absurd HA.out (by simp [laws_szAtomS.l0])
   | succ k1 =>
    have H := HA.out
    clear HA
    simp only [laws_szAtomS.l0] at H
    by_cases c4 : qa < (l0.length : Int)
    ·
     rw [if_pos c4] at H
     have ql : decide (qa < (l0.length : Int)) = true := decide_eq_true c4
     clear c4
     by_cases c5 : 0 ≤ qa
     ·
      rw [if_pos c5] at H
      have qn : decide (0 ≤ qa) = true := decide_eq_true c5
      clear c5
      replace H := Option.bind_eq_some_iff.mp H
      obtain ⟨qe, A60, H⟩ := H
      replace H : (if qe < 0 then (some (-1)) else (laws_szAtomS.l0 k1 l0 qe (wrap64 (qa + 1)))) = some r := H
      have A6 := Aside0.mk A60
      clear A60
      by_cases c7 : qe < 0
      ·
       rw [if_pos c7] at H
       have qm : decide (qe < 0) = true := decide_eq_true c7
       clear c7
       obtain rfl := Option.some.inj H
       have p103 : 0 ≤ (qa : Int) := of_decide_eq_true (by first | (with_reducible assumption) | assumption)
       have q103 : qa < (l0.length : Int) := of_decide_eq_true (by first | (with_reducible assumption) | assumption)
       obtain ⟨qk, qi, c103_0, e103, qb, qc, qd, hl103_0, hi103_0⟩ := at_T24 HR0.out qa p103 q103
       cases e103
       replace qb := (HB.out.cell (World.block_lt_of_cell? w _ qb)).trans qb
       replace qc := (HB.out.cell (World.block_lt_of_cell? w _ qc)).trans qc
       replace qd := (HB.out.cell (World.block_lt_of_cell? w _ qd)).trans qd
       have qf := Aside0.mk hi103_0
       have qg := Aside0.mk hl103_0
       clear hi103_0 hl103_0
       replace p103 := eq_true p103
       replace q103 := eq_true q103
       go_wp2_with (first | ((with_reducible refine gate_callee (f := 11) rfl ?_); refine goesL_ (some 23) rfl rfl Tryd.func11 (by kernel_rfl) rfl #[.agg #[.slice qi ((rd_T24 l0 qa).f0).length c103_0, .int .i64 ((rd_T24 l0 qa).f1), .bool ((rd_T24 l0 qa).f2)], .int .i64 qh] rfl (by (try simp only [List.map_toArray, List.map_cons, List.map_nil]); first | done | rfl | (simp only [List.length_drop, List.length_take]; rfl)) ?_; (with_reducible refine (laws_szAtom.calls _ _ ((rd_T24 l0 qa).f0) ((rd_T24 l0 qa).f1) ((rd_T24 l0 qa).f2) qh qe _ ?side1 ?side2 A6.out).mono ?_); (case side1 => exact cb_ qf HB); (case side2 => exact qg.out); rintro e w8 ⟨rfl, hb⟩; refine ⟨_, rfl, ?_⟩; replace HB := bS_ HB hb; (try clear hb); (try clear hb2); (try clear hk); (try clear hi)))
       go_ret
       exact ⟨by first | rfl | (simp [errW_none, errW_some] <;> rfl) | (simp [*, errW_none, errW_some] <;> rfl), bb_ HB⟩
      ·
       rw [if_neg c7] at H
       have qm : decide (qe < 0) = false := decide_eq_false c7
       clear c7
       have H' := Aside0.mk H
       clear H
       have p103 : 0 ≤ (qa : Int) := of_decide_eq_true (by first | (with_reducible assumption) | assumption)
       have q103 : qa < (l0.length : Int) := of_decide_eq_true (by first | (with_reducible assumption) | assumption)
       obtain ⟨qk, qi, c103_0, e103, qb, qc, qd, hl103_0, hi103_0⟩ := at_T24 HR0.out qa p103 q103
       cases e103
       replace qb := (HB.out.cell (World.block_lt_of_cell? w _ qb)).trans qb
       replace qc := (HB.out.cell (World.block_lt_of_cell? w _ qc)).trans qc
       replace qd := (HB.out.cell (World.block_lt_of_cell? w _ qd)).trans qd
       have qf := Aside0.mk hi103_0
       have qg := Aside0.mk hl103_0
       clear hi103_0 hl103_0
       replace p103 := eq_true p103
       replace q103 := eq_true q103
       go_wp2_with (first | ((with_reducible refine gate_callee (f := 11) rfl ?_); refine goesL_ (some 23) rfl rfl Tryd.func11 (by kernel_rfl) rfl #[.agg #[.slice qi ((rd_T24 l0 qa).f0).length c103_0, .int .i64 ((rd_T24 l0 qa).f1), .bool ((rd_T24 l0 qa).f2)], .int .i64 qh] rfl (by (try simp only [List.map_toArray, List.map_cons, List.map_nil]); first | done | rfl | (simp only [List.length_drop, List.length_take]; rfl)) ?_; (with_reducible refine (laws_szAtom.calls _ _ ((rd_T24 l0 qa).f0) ((rd_T24 l0 qa).f1) ((rd_T24 l0 qa).f2) qh qe _ ?side1 ?side2 A6.out).mono ?_); (case side1 => exact cb_ qf HB); (case side2 => exact qg.out); rintro e w9 ⟨rfl, hb⟩; refine ⟨_, rfl, ?_⟩; replace HB := bS_ HB hb; (try clear hb); (try clear hb2); (try clear hk); (try clear hi)))
       go_roundg k1
       case measure => have := HK1.out; omega
       case rel => exact ⟨(qe), (wrap64 (qa + 1)), (by first | rfl | (simp; done) | (simp [*]; done)), (by first | rfl | (simp; done) | (simp [*]; done)), H', ⟨by have := HK1.out; omega⟩, ⟨bb_ HB⟩⟩
     ·
      rw [if_neg c5] at H
      exact absurd H (by simp)
    ·
     rw [if_neg c4] at H
     have ql : decide (qa < (l0.length : Int)) = false := decide_eq_false c4
     clear c4
     obtain rfl := Option.some.inj H
     go_wp2
     go_ret
     exact ⟨by first | rfl | (simp [errW_none, errW_some] <;> rfl) | (simp [*, errW_none, errW_some] <;> rfl), bb_ HB⟩

/-! ### laws_szCell: function 18 -/
def laws_szCell.f (k : Nat) (a0_0 : Int) (l0_1 : List (S24)) (a1 : Int) : Option (Int) := (laws_szAtomS.f k l0_1 a1).bind fun qc => (if qc < 0 then (some (-1)) else (some qc))
theorem laws_szCell.mono : ∀ a0 a1 a2 k, LeO (laws_szCell.f k a0 a1 a2) (laws_szCell.f (k + 1) a0 a1 a2) := by
 intro a0 a1 a2 k
 unfold laws_szCell.f
 repeat' first
   | (with_reducible exact laws_szAtomS.mono _ _ _)
   | (with_reducible exact LeO.refl _)
   | (with_reducible exact LeO.none _)
   | (with_reducible refine LeO.ite ?_ ?_)
   | (with_reducible refine LeO.bind ?_ (fun _ => ?_))
   | exact laws_szAtomS.mono _ _ _
   | exact LeO.none _
   | refine LeO.ite ?_ ?_
   | refine LeO.bind ?_ (fun _ => ?_)
set_option maxHeartbeats 8000000 in
set_option maxRecDepth 100000 in
theorem laws_szCell.calls (k : Nat) (a0_0 : Int) (A0_1 : Option Addr) (c0_1 : Nat) (l0_1 : List (S24)) (a1 : Int) (r : Int) (w : World) (hr0_1 : Kd.C k24 w A0_1 l0_1.length l0_1) (hc0_1 : l0_1.length ≤ c0_1) (h : laws_szCell.f k a0_0 l0_1 a1 = some r) :
  Calls Tryd.prog 18 #[.agg #[.int .i64 a0_0, .slice A0_1 l0_1.length c0_1], .int .i64 a1] w fun e w' => e = .returned (.int .i64 r) ∧ Below w.heap.size w w' := by
 have hu36 := Tryd.underlying36
 have qd := Aside0.mk hr0_1
 have qe := Aside0.mk hc0_1
 clear hr0_1 hc0_1
 have HB := Aside0.mk (Below.refl w.heap.size w)
 have H : ((laws_szAtomS.f k l0_1 a1).bind fun qc => (if qc < 0 then (some (-1)) else (some qc))) = some r := h
 clear h
 replace H := Option.bind_eq_some_iff.mp H
 obtain ⟨qc, A30, H⟩ := H
 replace H : (if qc < 0 then (some (-1)) else (some qc)) = some r := H
 have A3 := Aside0.mk A30
 clear A30
 by_cases c4 : qc < 0
 ·
  rw [if_pos c4] at H
  have qh : decide (qc < 0) = true := decide_eq_true c4
  clear c4
  obtain rfl := Option.some.inj H
  go_enter Tryd.func18, Tryd.ntmps18
  go_wp2_with (first | ((with_reducible refine gate_dst (N := 2) rfl ?_); refine box_event ?hg (N := 2) ?hd (cs := #[.int .i64 a0_0, .slice A0_1 l0_1.length c0_1]) (t := 36) ?hr ?_; (case hd => rfl); (case hg => rfl); (case hr => first | (go_simp; done) | (go_simp; rfl)); intro qb hg w5 hbox hb; have qa := Aside0.mk (hbox); have qf := Aside0.mk ((by rw [hg]; exact (bz_ HB) : w.heap.size ≤ qb)); have qg := Aside0.mk ((by rw [hg]; exact (bz_ HB) : w.heap.size ≤ qb)); replace HB := bS_ HB hb; clear hb hbox hg; have qi : w5.cell? ⟨qb, 0, none⟩ = some (.int .i64 a0_0) := bc_ qa 0; have qj : w5.cell? ⟨qb, 1, none⟩ = some (.slice A0_1 l0_1.length c0_1) := bc_ qa 1; have qk := blk_frozen qa.out 0; have ql := blk_frozen qa.out 1) | ((with_reducible refine gate_callee (f := 62) rfl ?_); refine goesL_ (some 8) rfl rfl Tryd.func62 (by kernel_rfl) rfl #[.slice A0_1 l0_1.length c0_1, .int .i64 a1] rfl (by (try simp only [List.map_toArray, List.map_cons, List.map_nil]); first | done | rfl | (simp only [List.length_drop, List.length_take]; rfl)) ?_; (with_reducible refine (laws_szAtomS.calls k _ _ l0_1 a1 qc _ ?side1 ?side2 A3.out).mono ?_); (case side1 => exact cb_ qd HB); (case side2 => exact qe.out); rintro e w7 ⟨rfl, hb⟩; refine ⟨_, rfl, ?_⟩; replace qa := kB_ qa hb; replace HB := bS_ HB hb; (try clear hb); (try clear hb2); (try clear hk); (try clear hi)))
  go_ret
  exact ⟨by first | rfl | (simp [errW_none, errW_some] <;> rfl) | (simp [*, errW_none, errW_some] <;> rfl), bb_ HB⟩
 ·
  rw [if_neg c4] at H
  have qh : decide (qc < 0) = false := decide_eq_false c4
  clear c4
  obtain rfl := Option.some.inj H
  go_enter Tryd.func18, Tryd.ntmps18
  go_wp2_with (first | ((with_reducible refine gate_dst (N := 2) rfl ?_); refine box_event ?hg (N := 2) ?hd (cs := #[.int .i64 a0_0, .slice A0_1 l0_1.length c0_1]) (t := 36) ?hr ?_; (case hd => rfl); (case hg => rfl); (case hr => first | (go_simp; done) | (go_simp; rfl)); intro qb hg w8 hbox hb; have qa := Aside0.mk (hbox); have qf := Aside0.mk ((by rw [hg]; exact (bz_ HB) : w.heap.size ≤ qb)); have qg := Aside0.mk ((by rw [hg]; exact (bz_ HB) : w.heap.size ≤ qb)); replace HB := bS_ HB hb; clear hb hbox hg; have qm : w8.cell? ⟨qb, 0, none⟩ = some (.int .i64 a0_0) := bc_ qa 0; have qn : w8.cell? ⟨qb, 1, none⟩ = some (.slice A0_1 l0_1.length c0_1) := bc_ qa 1; have qo := blk_frozen qa.out 0; have qp := blk_frozen qa.out 1) | ((with_reducible refine gate_callee (f := 62) rfl ?_); refine goesL_ (some 8) rfl rfl Tryd.func62 (by kernel_rfl) rfl #[.slice A0_1 l0_1.length c0_1, .int .i64 a1] rfl (by (try simp only [List.map_toArray, List.map_cons, List.map_nil]); first | done | rfl | (simp only [List.length_drop, List.length_take]; rfl)) ?_; (with_reducible refine (laws_szAtomS.calls k _ _ l0_1 a1 qc _ ?side1 ?side2 A3.out).mono ?_); (case side1 => exact cb_ qd HB); (case side2 => exact qe.out); rintro e qq ⟨rfl, hb⟩; refine ⟨_, rfl, ?_⟩; replace qa := kB_ qa hb; replace HB := bS_ HB hb; (try clear hb); (try clear hb2); (try clear hk); (try clear hi)))
  go_ret
  exact ⟨by first | rfl | (simp [errW_none, errW_some] <;> rfl) | (simp [*, errW_none, errW_some] <;> rfl), bb_ HB⟩

/-! ### spec_FormatInt: function 50 -/
def spec_FormatInt.l0 : Nat → Int → ByteArray → Int → Option (ByteArray)
 | 0, _, _, _ => none
 | k + 1, x0, x3, x4 => if x4 = 0 then (if x0 = 0 then (some (⟨#[48]⟩ : ByteArray)) else (if x0 < 0 then (if 1 + x3.size ≤ 9223372036854775807 then (some ((⟨#[45]⟩ : ByteArray) ++ x3)) else (none)) else (some x3))) else (if (Int.tmod x4 10) < 0 then (if 0 ≤ (wrap64 (-(Int.tmod x4 10))) then (if (wrap64 (-(Int.tmod x4 10))) ≤ (wrap64 ((wrap64 (-(Int.tmod x4 10))) + 1)) then (if (wrap64 ((wrap64 (-(Int.tmod x4 10))) + 1)) ≤ 10 then (if ((⟨#[48, 49, 50, 51, 52, 53, 54, 55, 56, 57]⟩ : ByteArray).extract ((wrap64 (-(Int.tmod x4 10))) : Int).toNat ((wrap64 ((wrap64 (-(Int.tmod x4 10))) + 1)) : Int).toNat).size + x3.size ≤ 9223372036854775807 then (spec_FormatInt.l0 k x0 (((⟨#[48, 49, 50, 51, 52, 53, 54, 55, 56, 57]⟩ : ByteArray).extract ((wrap64 (-(Int.tmod x4 10))) : Int).toNat ((wrap64 ((wrap64 (-(Int.tmod x4 10))) + 1)) : Int).toNat) ++ x3) (wrap64 (Int.tdiv x4 10))) else (none)) else (none)) else (none)) else (none)) else (if 0 ≤ (Int.tmod x4 10) then (if (Int.tmod x4 10) ≤ (wrap64 ((Int.tmod x4 10) + 1)) then (if (wrap64 ((Int.tmod x4 10) + 1)) ≤ 10 then (if ((⟨#[48, 49, 50, 51, 52, 53, 54, 55, 56, 57]⟩ : ByteArray).extract ((Int.tmod x4 10) : Int).toNat ((wrap64 ((Int.tmod x4 10) + 1)) : Int).toNat).size + x3.size ≤ 9223372036854775807 then (spec_FormatInt.l0 k x0 (((⟨#[48, 49, 50, 51, 52, 53, 54, 55, 56, 57]⟩ : ByteArray).extract ((Int.tmod x4 10) : Int).toNat ((wrap64 ((Int.tmod x4 10) + 1)) : Int).toNat) ++ x3) (wrap64 (Int.tdiv x4 10))) else (none)) else (none)) else (none)) else (none)))
def spec_FormatInt.f (k : Nat) (a0 : Int) : Option (ByteArray) := spec_FormatInt.l0 k a0 (⟨#[]⟩ : ByteArray) a0
theorem spec_FormatInt.mono_l : ∀ k, (∀ y0 y1 y2, LeO (spec_FormatInt.l0 k y0 y1 y2) (spec_FormatInt.l0 (k + 1) y0 y1 y2))
 | 0 => fun _ _ _ r h => by simp [spec_FormatInt.l0] at h
 | k + 1 => by
  have ih0 := spec_FormatInt.mono_l k
  ·
   intro y0 y1 y2
   unfold spec_FormatInt.l0
   repeat' first
   | (with_reducible exact ih0 _ _ _)
   | (with_reducible exact LeO.refl _)
   | (with_reducible exact LeO.none _)
   | (with_reducible refine LeO.ite ?_ ?_)
   | (with_reducible refine LeO.bind ?_ (fun _ => ?_))
   | exact ih0 _ _ _
   | exact LeO.none _
   | refine LeO.ite ?_ ?_
   | refine LeO.bind ?_ (fun _ => ?_)
theorem spec_FormatInt.mono : ∀ a0 k, LeO (spec_FormatInt.f k a0) (spec_FormatInt.f (k + 1) a0) := by
 intro a0 k
 have ih0 := spec_FormatInt.mono_l k
 unfold spec_FormatInt.f
 repeat' first
   | (with_reducible exact ih0 _ _ _)
   | (with_reducible exact LeO.refl _)
   | (with_reducible exact LeO.none _)
   | (with_reducible refine LeO.ite ?_ ?_)
   | (with_reducible refine LeO.bind ?_ (fun _ => ?_))
   | exact ih0 _ _ _
   | exact LeO.none _
   | refine LeO.ite ?_ ?_
   | refine LeO.bind ?_ (fun _ => ?_)
set_option maxHeartbeats 8000000 in
set_option maxRecDepth 100000 in
theorem spec_FormatInt.calls (k : Nat) (a0 : Int) (r : ByteArray) (w : World) (h : spec_FormatInt.f k a0 = some r) :
  Calls Tryd.prog 50 #[.int .i64 a0] w fun e w' => e = .returned (.string r) ∧ Drawn0 w w' := by
 have H : (spec_FormatInt.l0 k a0 (⟨#[]⟩ : ByteArray) a0) = some r := h
 clear h
 have H' := Aside0.mk H
 clear H
 go_enter Tryd.func50, Tryd.ntmps50
 go_wp2
 go_loopg [3, 4] k (fun kq v3 v4 w' => ∃ (qa : ByteArray) (qb : Int), v3 = .string qa ∧ v4 = .int .i64 qb ∧ Aside0 (spec_FormatInt.l0 kq a0 qa qb = some r) ∧ Aside0 (kq ≤ k) ∧ Drawn0 w w')
 case atStart => exact ⟨((⟨#[]⟩ : ByteArray)), (a0), (by first | rfl | (simp; done) | (simp [*]; done)), (by first | rfl | (simp; done) | (simp [*]; done)), H', ⟨Nat.le_refl _⟩, by repeat (first | exact Drawn0.refl _ | apply Drawn0.step)⟩
 case round =>
  clear H'
  obtain ⟨qa, qb, rfl, rfl, HA, HK1, ⟨m1, rfl⟩⟩ := hrel
  cases gk with
  | zero => exact absurd HA.out (by simp [spec_FormatInt.l0])
  | succ k1 =>
   have H := HA.out
   clear HA
   simp only [spec_FormatInt.l0] at H
   by_cases c2 : qb = 0
   ·
    rw [if_pos c2] at H
    have qd : (qb == 0) = true := beq_iff_eq.mpr c2
    have qe : (qb != 0) = false := bne_eq_false_iff_eq.mpr c2
    clear c2
    by_cases c3 : a0 = 0
    ·
     rw [if_pos c3] at H
     have qf : (a0 == 0) = true := beq_iff_eq.mpr c3
     have qg : (a0 != 0) = false := bne_eq_false_iff_eq.mpr c3
     clear c3
     obtain rfl := Option.some.inj H
     go_wp2
     go_ret
     exact ⟨by first | rfl | (simp; done) | (simp [*]; done), by repeat (first | exact Drawn0.refl _ | apply Drawn0.step)⟩
    ·
     rw [if_neg c3] at H
     have qf : (a0 == 0) = false := beq_eq_false_iff_ne.mpr c3
     have qg : (a0 != 0) = true := bne_iff_ne.mpr c3
     by_cases c4 : a0 < 0
     ·
      rw [if_pos c4] at H
      have qh : decide (a0 < 0) = true := decide_eq_true c4
      clear c4
      by_cases c5 : 1 + qa.size ≤ 9223372036854775807
      ·
       rw [if_pos c5] at H
       have qw := eq_true c5
       have qx : decide (1 + qa.size ≤ 9223372036854775807) = true := decide_eq_true c5
       try have qy : (9223372036854775807 < 1 + qa.size) = False := eq_false (Nat.not_lt.2 c5)
       obtain rfl := Option.some.inj H
       go_wp2
       go_ret
       exact ⟨by first | rfl | (simp; done) | (simp [*]; done), by repeat (first | exact Drawn0.refl _ | apply Drawn0.step)⟩
      ·
       rw [if_neg c5] at H
       exact absurd H (by simp)
     ·
      rw [if_neg c4] at H
      have qh : decide (a0 < 0) = false := decide_eq_false c4
      clear c4
      obtain rfl := Option.some.inj H
      go_wp2
      go_ret
      exact ⟨by first | rfl | (simp; done) | (simp [*]; done), by repeat (first | exact Drawn0.refl _ | apply Drawn0.step)⟩
   ·
    rw [if_neg c2] at H
    have qd : (qb == 0) = false := beq_eq_false_iff_ne.mpr c2
    have qe : (qb != 0) = true := bne_iff_ne.mpr c2
    by_cases c6 : (Int.tmod qb 10) < 0
    ·
     rw [if_pos c6] at H
     have qc : decide ((Int.tmod qb 10) < 0) = true := decide_eq_true c6
     clear c6
     obtain ⟨ji7, hji7⟩ : ∃ j_ : Int, (wrap64 (-(Int.tmod qb 10))) = j_ := ⟨_, rfl⟩
     replace H : (if 0 ≤ (ji7) then (if (ji7) ≤ (wrap64 ((ji7) + 1)) then (if (wrap64 ((ji7) + 1)) ≤ 10 then (if ((⟨#[48, 49, 50, 51, 52, 53, 54, 55, 56, 57]⟩ : ByteArray).extract ((ji7) : Int).toNat ((wrap64 ((ji7) + 1)) : Int).toNat).size + qa.size ≤ 9223372036854775807 then (spec_FormatInt.l0 k1 a0 (((⟨#[48, 49, 50, 51, 52, 53, 54, 55, 56, 57]⟩ : ByteArray).extract ((ji7) : Int).toNat ((wrap64 ((ji7) + 1)) : Int).toNat) ++ qa) (wrap64 (Int.tdiv qb 10))) else (none)) else (none)) else (none)) else (none)) = some r := by first | (rw [hji7] at H; exact H) | (simp only [hji7] at H ⊢; exact H)
     have hji7w : (IntKind.i64.wrap (-(Int.tmod qb 10))) = ji7 := (i64_w _).trans hji7
     by_cases c8 : 0 ≤ (ji7)
     ·
      rw [if_pos c8] at H
      have qz := eq_true c8
      have qA : decide (0 ≤ (ji7)) = true := decide_eq_true c8
      clear c8
      by_cases c9 : (ji7) ≤ (wrap64 ((ji7) + 1))
      ·
       rw [if_pos c9] at H
       have qB := eq_true c9
       have qC : decide ((ji7) ≤ (wrap64 ((ji7) + 1))) = true := decide_eq_true c9
       by_cases c10 : (wrap64 ((ji7) + 1)) ≤ 10
       ·
        rw [if_pos c10] at H
        have qi := eq_true c10
        have qj : decide ((wrap64 ((ji7) + 1)) ≤ 10) = true := decide_eq_true c10
        by_cases c11 : ((⟨#[48, 49, 50, 51, 52, 53, 54, 55, 56, 57]⟩ : ByteArray).extract ((ji7) : Int).toNat ((wrap64 ((ji7) + 1)) : Int).toNat).size + qa.size ≤ 9223372036854775807
        ·
         rw [if_pos c11] at H
         have qk := eq_true c11
         have ql : decide (((⟨#[48, 49, 50, 51, 52, 53, 54, 55, 56, 57]⟩ : ByteArray).extract ((ji7) : Int).toNat ((wrap64 ((ji7) + 1)) : Int).toNat).size + qa.size ≤ 9223372036854775807) = true := decide_eq_true c11
         try have qm : (9223372036854775807 < ((⟨#[48, 49, 50, 51, 52, 53, 54, 55, 56, 57]⟩ : ByteArray).extract ((ji7) : Int).toNat ((wrap64 ((ji7) + 1)) : Int).toNat).size + qa.size) = False := eq_false (Nat.not_lt.2 c11)
         have H' := Aside0.mk H
         clear H
         go_wp2
         go_roundg k1
         case measure => have := HK1.out; omega
         case rel => exact ⟨(((⟨#[48, 49, 50, 51, 52, 53, 54, 55, 56, 57]⟩ : ByteArray).extract ((ji7) : Int).toNat ((wrap64 ((ji7) + 1)) : Int).toNat) ++ qa), (wrap64 (Int.tdiv qb 10)), (by first | rfl | (simp; done) | (simp only [← hji7] <;> (first | rfl | simp)) | (simp [*]; done)), (by first | rfl | (simp; done) | (simp [*]; done)), H', ⟨by have := HK1.out; omega⟩, by repeat (first | exact Drawn0.refl _ | apply Drawn0.step)⟩
        ·
         rw [if_neg c11] at H
         exact absurd H (by simp)
       ·
        rw [if_neg c10] at H
        exact absurd H (by simp)
      ·
       rw [if_neg c9] at H
       exact absurd H (by simp)
     ·
      rw [if_neg c8] at H
      exact absurd H (by simp)
    ·
     rw [if_neg c6] at H
     have qc : decide ((Int.tmod qb 10) < 0) = false := decide_eq_false c6
     clear c6
     obtain ⟨ji12, hji12⟩ : ∃ j_ : Int, (Int.tmod qb 10) = j_ := ⟨_, rfl⟩
     replace H : (if 0 ≤ (ji12) then (if (ji12) ≤ (wrap64 ((ji12) + 1)) then (if (wrap64 ((ji12) + 1)) ≤ 10 then (if ((⟨#[48, 49, 50, 51, 52, 53, 54, 55, 56, 57]⟩ : ByteArray).extract ((ji12) : Int).toNat ((wrap64 ((ji12) + 1)) : Int).toNat).size + qa.size ≤ 9223372036854775807 then (spec_FormatInt.l0 k1 a0 (((⟨#[48, 49, 50, 51, 52, 53, 54, 55, 56, 57]⟩ : ByteArray).extract ((ji12) : Int).toNat ((wrap64 ((ji12) + 1)) : Int).toNat) ++ qa) (wrap64 (Int.tdiv qb 10))) else (none)) else (none)) else (none)) else (none)) = some r := by first | (rw [hji12] at H; exact H) | (simp only [hji12] at H ⊢; exact H)
     (try rw [hji12] at qc)
     by_cases c13 : 0 ≤ (ji12)
     ·
      rw [if_pos c13] at H
      have qn := eq_true c13
      have qo : decide (0 ≤ (ji12)) = true := decide_eq_true c13
      clear c13
      by_cases c14 : (ji12) ≤ (wrap64 ((ji12) + 1))
      ·
       rw [if_pos c14] at H
       have qp := eq_true c14
       have qq : decide ((ji12) ≤ (wrap64 ((ji12) + 1))) = true := decide_eq_true c14
       by_cases c15 : (wrap64 ((ji12) + 1)) ≤ 10
       ·
        rw [if_pos c15] at H
        have qr := eq_true c15
        have qs : decide ((wrap64 ((ji12) + 1)) ≤ 10) = true := decide_eq_true c15
        by_cases c16 : ((⟨#[48, 49, 50, 51, 52, 53, 54, 55, 56, 57]⟩ : ByteArray).extract ((ji12) : Int).toNat ((wrap64 ((ji12) + 1)) : Int).toNat).size + qa.size ≤ 9223372036854775807
        ·
         rw [if_pos c16] at H
         have qt := eq_true c16
         have qu : decide (((⟨#[48, 49, 50, 51, 52, 53, 54, 55, 56, 57]⟩ : ByteArray).extract ((ji12) : Int).toNat ((wrap64 ((ji12) + 1)) : Int).toNat).size + qa.size ≤ 9223372036854775807) = true := decide_eq_true c16
         try have qv : (9223372036854775807 < ((⟨#[48, 49, 50, 51, 52, 53, 54, 55, 56, 57]⟩ : ByteArray).extract ((ji12) : Int).toNat ((wrap64 ((ji12) + 1)) : Int).toNat).size + qa.size) = False := eq_false (Nat.not_lt.2 c16)
         have H' := Aside0.mk H
         clear H
         go_wp2
         go_roundg k1
         case measure => have := HK1.out; omega
         case rel => exact ⟨(((⟨#[48, 49, 50, 51, 52, 53, 54, 55, 56, 57]⟩ : ByteArray).extract ((ji12) : Int).toNat ((wrap64 ((ji12) + 1)) : Int).toNat) ++ qa), (wrap64 (Int.tdiv qb 10)), (by first | rfl | (simp; done) | (simp only [← hji12] <;> (first | rfl | simp)) | (simp [*]; done)), (by first | rfl | (simp; done) | (simp [*]; done)), H', ⟨by have := HK1.out; omega⟩, by repeat (first | exact Drawn0.refl _ | apply Drawn0.step)⟩
        ·
         rw [if_neg c16] at H
         exact absurd H (by simp)
       ·
        rw [if_neg c15] at H
        exact absurd H (by simp)
      ·
       rw [if_neg c14] at H
       exact absurd H (by simp)
     ·
      rw [if_neg c13] at H
      exact absurd H (by simp)

/-! ### spec_l1In: function 80 -/
def spec_l1In.f (a0 : Int) (a1 : Int) (a2 : Int) : Option (Bool) := if a0 ≥ a1 then (some (decide (a0 ≤ a2))) else (some false)
set_option maxHeartbeats 8000000 in
set_option maxRecDepth 100000 in
theorem spec_l1In.calls (a0 : Int) (a1 : Int) (a2 : Int) (r : Bool) (w : World) (h : spec_l1In.f a0 a1 a2 = some r) :
  Calls Tryd.prog 80 #[.int .i64 a0, .int .i64 a1, .int .i64 a2] w fun e w' => e = .returned (.bool r) ∧ Drawn0 w w' := by
 have H : (if a0 ≥ a1 then (some (decide (a0 ≤ a2))) else (some false)) = some r := h
 clear h
 by_cases c4 : a0 ≥ a1
 ·
  rw [if_pos c4] at H
  have qa : decide (a1 ≤ a0) = true := decide_eq_true c4
  clear c4
  obtain rfl := Option.some.inj H
  go_enter Tryd.func80, Tryd.ntmps80
  go_wp2
  go_ret
  exact ⟨by first | rfl | (simp; done) | (simp [*]; done), by repeat (first | exact Drawn0.refl _ | apply Drawn0.step)⟩
 ·
  rw [if_neg c4] at H
  have qa : decide (a1 ≤ a0) = false := decide_eq_false c4
  clear c4
  obtain rfl := Option.some.inj H
  go_enter Tryd.func80, Tryd.ntmps80
  go_wp2
  go_ret
  exact ⟨by first | rfl | (simp; done) | (simp [*]; done), by repeat (first | exact Drawn0.refl _ | apply Drawn0.step)⟩

/-! ### spec_IsNumber: function 59 -/
def spec_IsNumber.f (a0 : Int) : Option (Bool) := (spec_l1In.f a0 (-400000000) 400000000).bind fun qa => (some qa)
set_option maxHeartbeats 8000000 in
set_option maxRecDepth 100000 in
theorem spec_IsNumber.calls (a0 : Int) (r : Bool) (w : World) (h : spec_IsNumber.f a0 = some r) :
  Calls Tryd.prog 59 #[.int .i64 a0] w fun e w' => e = .returned (.bool r) ∧ Drawn0 w w' := by
 have H : ((spec_l1In.f a0 (-400000000) 400000000).bind fun qa => (some qa)) = some r := h
 clear h
 replace H := Option.bind_eq_some_iff.mp H
 obtain ⟨qa, A20, H⟩ := H
 replace H : (some qa) = some r := H
 have A2 := Aside0.mk A20
 clear A20
 obtain rfl := Option.some.inj H
 go_enter Tryd.func59, Tryd.ntmps59
 go_wp2_with (first | ((with_reducible refine gate_callee (f := 80) rfl ?_); refine goesL_ (some 4) rfl rfl Tryd.func80 (by kernel_rfl) rfl #[.int .i64 a0, .int .i64 (-400000000), .int .i64 400000000] rfl (by (try simp only [List.map_toArray, List.map_cons, List.map_nil]); first | done | rfl | (simp only [List.length_drop, List.length_take]; rfl)) ?_; (with_reducible refine (spec_l1In.calls a0 (-400000000) 400000000 qa _ A2.out).mono ?_); rintro e w' ⟨rfl, ⟨nd, rfl⟩⟩; refine ⟨_, rfl, ?_⟩))
 go_ret
 exact ⟨by first | rfl | (simp; done) | (simp [*]; done), by repeat (first | exact Drawn0.refl _ | apply Drawn0.step)⟩

/-! ### spec_l1Abs: function 103 -/
def spec_l1Abs.f (a0 : Int) : Option (Int) := some (mx a0 (wrap64 (-a0)))
set_option maxHeartbeats 8000000 in
set_option maxRecDepth 100000 in
theorem spec_l1Abs.calls (a0 : Int) (r : Int) (w : World) (h : spec_l1Abs.f a0 = some r) :
  Calls Tryd.prog 103 #[.int .i64 a0] w fun e w' => e = .returned (.int .i64 r) ∧ Below w.heap.size w w' := by
 have HB := Aside0.mk (Below.refl w.heap.size w)
 have H : (some (mx a0 (wrap64 (-a0)))) = some r := h
 clear h
 obtain ⟨ji2, hji2⟩ : ∃ j_ : Int, (mx a0 (wrap64 (-a0))) = j_ := ⟨_, rfl⟩
 replace H : (some ji2) = some r := by first | (rw [hji2] at H; exact H) | (simp only [hji2] at H ⊢; exact H)
 have hji2_ : (if a0 < (wrap64 (-a0)) then (wrap64 (-a0)) else a0) = ji2 := hji2
 obtain rfl := Option.some.inj H
 go_enter Tryd.func103, Tryd.ntmps103
 go_wp2
 go_ret
 exact ⟨by first | rfl | (simp [errW_none, errW_some] <;> rfl) | (simp only [← hji2]; first | rfl | (simp [errW_none, errW_some] <;> rfl)) | (simp [*, errW_none, errW_some] <;> rfl), bb_ HB⟩

/-! ### spec_l2Gcd: function 87 -/
mutual
def spec_l2Gcd.l0 : Nat → List Int → Int → Int → Option (Int)
 | 0, _, _, _ => none
 | k + 1, x0, x5, x6 => if x6 < (x0.length : Int) then (if 0 ≤ x6 then ((spec_l1Abs.f (rd x0 x6)).bind fun qe => (spec_l2Gcd.l1 k x0 x5 x6 qe)) else (none)) else (some x5)
def spec_l2Gcd.l1 : Nat → List Int → Int → Int → Int → Option (Int)
 | 0, _, _, _, _ => none
 | k + 1, x0, x5, x6, x7 => if x7 = 0 then (spec_l2Gcd.l0 k x0 x5 (wrap64 (x6 + 1))) else (spec_l2Gcd.l1 k x0 x7 x6 (Int.tmod x5 x7))
end
def spec_l2Gcd.f (k : Nat) (l0 : List Int) (a1 : Int) : Option (Int) := (spec_l1Abs.f a1).bind fun qd => (spec_l2Gcd.l0 k l0 qd 0)
theorem spec_l2Gcd.mono_l : ∀ k, (∀ y0 y1 y2, LeO (spec_l2Gcd.l0 k y0 y1 y2) (spec_l2Gcd.l0 (k + 1) y0 y1 y2)) ∧ (∀ y0 y1 y2 y3, LeO (spec_l2Gcd.l1 k y0 y1 y2 y3) (spec_l2Gcd.l1 (k + 1) y0 y1 y2 y3))
 | 0 => ⟨fun _ _ _ r h => by simp [spec_l2Gcd.l0] at h, fun _ _ _ _ r h => by simp [spec_l2Gcd.l1] at h⟩
 | k + 1 => by
  obtain ⟨ih0, ih1⟩ := spec_l2Gcd.mono_l k
  refine ⟨?_, ?_⟩
  ·
   intro y0 y1 y2
   unfold spec_l2Gcd.l0
   repeat' first
   | (with_reducible exact ih0 _ _ _)
   | (with_reducible exact ih1 _ _ _ _)
   | (with_reducible exact LeO.refl _)
   | (with_reducible exact LeO.none _)
   | (with_reducible refine LeO.ite ?_ ?_)
   | (with_reducible refine LeO.bind ?_ (fun _ => ?_))
   | exact ih0 _ _ _
   | exact ih1 _ _ _ _
   | exact LeO.none _
   | refine LeO.ite ?_ ?_
   | refine LeO.bind ?_ (fun _ => ?_)
  ·
   intro y0 y1 y2 y3
   unfold spec_l2Gcd.l1
   repeat' first
   | (with_reducible exact ih0 _ _ _)
   | (with_reducible exact ih1 _ _ _ _)
   | (with_reducible exact LeO.refl _)
   | (with_reducible exact LeO.none _)
   | (with_reducible refine LeO.ite ?_ ?_)
   | (with_reducible refine LeO.bind ?_ (fun _ => ?_))
   | exact ih0 _ _ _
   | exact ih1 _ _ _ _
   | exact LeO.none _
   | refine LeO.ite ?_ ?_
   | refine LeO.bind ?_ (fun _ => ?_)
theorem spec_l2Gcd.mono : ∀ a0 a1 k, LeO (spec_l2Gcd.f k a0 a1) (spec_l2Gcd.f (k + 1) a0 a1) := by
 intro a0 a1 k
 obtain ⟨ih0, ih1⟩ := spec_l2Gcd.mono_l k
 unfold spec_l2Gcd.f
 repeat' first
   | (with_reducible exact ih0 _ _ _)
   | (with_reducible exact ih1 _ _ _ _)
   | (with_reducible exact LeO.refl _)
   | (with_reducible exact LeO.none _)
   | (with_reducible refine LeO.ite ?_ ?_)
   | (with_reducible refine LeO.bind ?_ (fun _ => ?_))
   | exact ih0 _ _ _
   | exact ih1 _ _ _ _
   | exact LeO.none _
   | refine LeO.ite ?_ ?_
   | refine LeO.bind ?_ (fun _ => ?_)
set_option maxHeartbeats 8000000 in
set_option maxRecDepth 100000 in
theorem spec_l2Gcd.calls (k : Nat) (A0 : Option Addr) (c0 : Nat) (l0 : List Int) (a1 : Int) (r : Int) (w : World) (hr0 : Kd.C (Kd.int .i64) w A0 l0.length l0) (hc0 : l0.length ≤ c0) (h : spec_l2Gcd.f k l0 a1 = some r) :
  Calls Tryd.prog 87 #[.slice A0 l0.length c0, .int .i64 a1] w fun e w' => e = .returned (.int .i64 r) ∧ Below w.heap.size w w' := by
 have HR0 := Aside0.mk hr0
 have HC0 := Aside0.mk hc0
 clear hr0 hc0
 have HB := Aside0.mk (Below.refl w.heap.size w)
 have H : ((spec_l1Abs.f a1).bind fun qd => (spec_l2Gcd.l0 k l0 qd 0)) = some r := h
 clear h
 replace H := Option.bind_eq_some_iff.mp H
 obtain ⟨qd, A30, H⟩ := H
 replace H : (spec_l2Gcd.l0 k l0 qd 0) = some r := H
 have A3 := Aside0.mk A30
 clear A30
 have H' := Aside0.mk H
 clear H
 go_enter Tryd.func87, Tryd.ntmps87
 go_wp2_with (first | (go_at_call 103; (with_reducible refine (spec_l1Abs.calls a1 qd _ A3.out).mono ?_); rintro e w4 ⟨rfl, hb⟩; replace HB := bS_ HB hb; (try clear hb); (try clear hb2); (try clear hk); (try clear hi)))
 repeat (go_quiet (first | (go_at_call 103; (with_reducible refine (spec_l1Abs.calls a1 qd _ A3.out).mono ?_); rintro e w4 ⟨rfl, hb⟩; replace HB := bS_ HB hb; (try clear hb); (try clear hb2); (try clear hk); (try clear hi))); try go_wp2_with (first | (go_at_call 103; (with_reducible refine (spec_l1Abs.calls a1 qd _ A3.out).mono ?_); rintro e w4 ⟨rfl, hb⟩; replace HB := bS_ HB hb; (try clear hb); (try clear hb2); (try clear hk); (try clear hi))))
 go_loopg [5, 6] k (fun kq v5 v6 w' => ∃ (qf : Int) (qa : Int), v5 = .int .i64 qf ∧ v6 = .int .i64 qa ∧ Aside0 (spec_l2Gcd.l0 kq l0 qf qa = some r) ∧ Aside0 (kq ≤ k) ∧ Aside0 (Below w.heap.size w w'))
 case atStart => exact ⟨(qd), (0), (by first | rfl | (simp; done) | (simp [*]; done)), (by first | rfl | (simp; done) | (simp [*]; done)), H', ⟨Nat.le_refl _⟩, ⟨bb_ HB⟩⟩
 case round =>
  clear H'
  try clear p2
  obtain ⟨qf, qa, rfl, rfl, HA, HK1, HB⟩ := hrel
  cases gk with
  | zero => exact absurd HA.out (by simp [spec_l2Gcd.l0])
  | succ k1 =>
   have H := HA.out
   clear HA
   simp only [spec_l2Gcd.l0] at H
   by_cases c5 : qa < (l0.length : Int)
   ·
    rw [if_pos c5] at H
    have qh : decide (qa < (l0.length : Int)) = true := decide_eq_true c5
    clear c5
    by_cases c6 : 0 ≤ qa
    ·
     rw [if_pos c6] at H
     have qi : decide (0 ≤ qa) = true := decide_eq_true c6
     clear c6
     replace H := Option.bind_eq_some_iff.mp H
     obtain ⟨qe, A70, H⟩ := H
     replace H : (spec_l2Gcd.l1 k1 l0 qf qa qe) = some r := H
     have A7 := Aside0.mk A70
     clear A70
     have H' := Aside0.mk H
     clear H
     have p109 : 0 ≤ (qa : Int) := of_decide_eq_true (by first | (with_reducible assumption) | assumption)
     have q109 : qa < (l0.length : Int) := of_decide_eq_true (by first | (with_reducible assumption) | assumption)
     obtain ⟨ql, e109, qb⟩ := Kd.at_int HR0.out qa p109 q109
     cases e109
     replace qb := (HB.out.cell (World.block_lt_of_cell? w _ qb)).trans qb
     replace p109 := eq_true p109
     replace q109 := eq_true q109
     go_wp2_with (first | (go_at_call 103; (with_reducible refine (spec_l1Abs.calls (rd l0 qa) qe _ A7.out).mono ?_); rintro e w8 ⟨rfl, hb⟩; replace HB := bS_ HB hb; (try clear hb); (try clear hb2); (try clear hk); (try clear hi)))
     repeat (go_quiet (first | (go_at_call 103; (with_reducible refine (spec_l1Abs.calls (rd l0 qa) qe _ A7.out).mono ?_); rintro e w8 ⟨rfl, hb⟩; replace HB := bS_ HB hb; (try clear hb); (try clear hb2); (try clear hk); (try clear hi))); try go_wp2_with (first | (go_at_call 103; (with_reducible refine (spec_l1Abs.calls (rd l0 qa) qe _ A7.out).mono ?_); rintro e w8 ⟨rfl, hb⟩; replace HB := bS_ HB hb; (try clear hb); (try clear hb2); (try clear hk); (try clear hi))))
     go_loopg [5, 7] k1 (fun kq v5 v7 w' => ∃ (qg : Int) (qc : Int), v5 = .int .i64 qg ∧ v7 = .int .i64 qc ∧ Aside0 (spec_l2Gcd.l1 kq l0 qg qa qc = some r) ∧ Aside0 (kq ≤ k1) ∧ Aside0 (Below w.heap.size w w'))
     case atStart => exact ⟨(qf), (qe), (by first | rfl | (simp; done) | (simp [*]; done)), (by first | rfl | (simp; done) | (simp [*]; done)), H', ⟨Nat.le_refl _⟩, ⟨bb_ HB⟩⟩
     case round =>
      clear H'
      try clear p1
      try clear q1
      try clear hx1
      try clear p2
      try clear c5
      try clear qh
      try clear c6
      try clear qi
      try clear c8
      try clear qb
      try clear p109
      try clear p2
      try clear q109
      obtain ⟨qg, qc, rfl, rfl, HA, HK2, HB⟩ := hrel
      cases gk with
      | zero => exact absurd HA.out (by simp [spec_l2Gcd.l1])
      | succ k2 =>
       have H := HA.out
       clear HA
       simp only [spec_l2Gcd.l1] at H
       by_cases c9 : qc = 0
       ·
        rw [if_pos c9] at H
        have qj : (qc == 0) = true := beq_iff_eq.mpr c9
        have qk : (qc != 0) = false := bne_eq_false_iff_eq.mpr c9
        clear c9
        have H' := Aside0.mk H
        clear H
        go_wp2
        repeat (go_quiet (fail); try go_wp2)
        go_roundg k2
        case measure => have := HK1.out; have := HK2.out; omega
        case rel => exact ⟨(qg), (wrap64 (qa + 1)), (by first | rfl | (simp; done) | (simp [*]; done)), (by first | rfl | (simp; done) | (simp [*]; done)), H', ⟨by have := HK1.out; have := HK2.out; omega⟩, ⟨bb_ HB⟩⟩
       ·
        rw [if_neg c9] at H
        have qj : (qc == 0) = false := beq_eq_false_iff_ne.mpr c9
        have qk : (qc != 0) = true := bne_iff_ne.mpr c9
        have H' := Aside0.mk H
        clear H
        go_wp2
        repeat (go_quiet (fail); try go_wp2)
        go_roundg k2
        case measure => have := HK1.out; have := HK2.out; omega
        case rel => exact ⟨(qc), (Int.tmod qg qc), (by first | rfl | (simp; done) | (simp [*]; done)), (by first | rfl | (simp; done) | (simp [*]; done)), H', ⟨by have := HK1.out; have := HK2.out; omega⟩, ⟨bb_ HB⟩⟩
    ·
     rw [if_neg c6] at H
     exact absurd H (by simp)
   ·
    rw [if_neg c5] at H
    have qh : decide (qa < (l0.length : Int)) = false := decide_eq_false c5
    clear c5
    obtain rfl := Option.some.inj H
    go_wp2
    repeat (go_quiet (fail); try go_wp2)
    go_ret
    exact ⟨by first | rfl | (simp [errW_none, errW_some] <;> rfl) | (simp [*, errW_none, errW_some] <;> rfl), bb_ HB⟩

/-! ### spec_IsAtom: function 46 -/
mutual
def spec_IsAtom.j0 : Nat → Bool → List Int → Int → Bool → Option (Bool)
 | 0, _, _, _, _ => none
 | k + 1, x13, x112000, x112001, x112002 => if x13 = true then (some false) else (spec_IsAtom.l0 k 0 x112000 x112001 x112002)
def spec_IsAtom.l0 : Nat → Int → List Int → Int → Bool → Option (Bool)
 | 0, _, _, _, _ => none
 | k + 1, x3, x112000, x112001, x112002 => if x3 < (x112000.length : Int) then (if 0 ≤ x3 then ((spec_IsNumber.f (rd x112000 x3)).bind fun qu => (if qu = true then (spec_IsAtom.l0 k (wrap64 (x3 + 1)) x112000 x112001 x112002) else (some false))) else (none)) else ((spec_l2Gcd.f k x112000 x112001).bind fun qv => (some (decide (qv ≤ 1))))
end
def spec_IsAtom.f (k : Nat) (l0_0 : List Int) (a0_1 : Int) (a0_2 : Bool) : Option (Bool) := if (l0_0.length : Int) > 4 then (spec_IsAtom.j0 k true l0_0 a0_1 a0_2) else ((spec_IsNumber.f a0_1).bind fun qe => (spec_IsAtom.j0 k (!qe) l0_0 a0_1 a0_2))
theorem spec_IsAtom.mono_l : ∀ k, (∀ y0 y1 y2 y3, LeO (spec_IsAtom.j0 k y0 y1 y2 y3) (spec_IsAtom.j0 (k + 1) y0 y1 y2 y3)) ∧ (∀ y0 y1 y2 y3, LeO (spec_IsAtom.l0 k y0 y1 y2 y3) (spec_IsAtom.l0 (k + 1) y0 y1 y2 y3))
 | 0 => ⟨fun _ _ _ _ r h => by simp [spec_IsAtom.j0] at h, fun _ _ _ _ r h => by simp [spec_IsAtom.l0] at h⟩
 | k + 1 => by
  obtain ⟨ih0, ih1⟩ := spec_IsAtom.mono_l k
  refine ⟨?_, ?_⟩
  ·
   intro y0 y1 y2 y3
   unfold spec_IsAtom.j0
   repeat' first
   | (with_reducible exact ih0 _ _ _ _)
   | (with_reducible exact ih1 _ _ _ _)
   | (with_reducible exact spec_l2Gcd.mono _ _ _)
   | (with_reducible exact LeO.refl _)
   | (with_reducible exact LeO.none _)
   | (with_reducible refine LeO.ite ?_ ?_)
   | (with_reducible refine LeO.bind ?_ (fun _ => ?_))
   | exact ih0 _ _ _ _
   | exact ih1 _ _ _ _
   | exact spec_l2Gcd.mono _ _ _
   | exact LeO.none _
   | refine LeO.ite ?_ ?_
   | refine LeO.bind ?_ (fun _ => ?_)
  ·
   intro y0 y1 y2 y3
   unfold spec_IsAtom.l0
   repeat' first
   | (with_reducible exact ih0 _ _ _ _)
   | (with_reducible exact ih1 _ _ _ _)
   | (with_reducible exact spec_l2Gcd.mono _ _ _)
   | (with_reducible exact LeO.refl _)
   | (with_reducible exact LeO.none _)
   | (with_reducible refine LeO.ite ?_ ?_)
   | (with_reducible refine LeO.bind ?_ (fun _ => ?_))
   | exact ih0 _ _ _ _
   | exact ih1 _ _ _ _
   | exact spec_l2Gcd.mono _ _ _
   | exact LeO.none _
   | refine LeO.ite ?_ ?_
   | refine LeO.bind ?_ (fun _ => ?_)
theorem spec_IsAtom.mono : ∀ a0 a1 a2 k, LeO (spec_IsAtom.f k a0 a1 a2) (spec_IsAtom.f (k + 1) a0 a1 a2) := by
 intro a0 a1 a2 k
 obtain ⟨ih0, ih1⟩ := spec_IsAtom.mono_l k
 unfold spec_IsAtom.f
 repeat' first
   | (with_reducible exact ih0 _ _ _ _)
   | (with_reducible exact ih1 _ _ _ _)
   | (with_reducible exact spec_l2Gcd.mono _ _ _)
   | (with_reducible exact LeO.refl _)
   | (with_reducible exact LeO.none _)
   | (with_reducible refine LeO.ite ?_ ?_)
   | (with_reducible refine LeO.bind ?_ (fun _ => ?_))
   | exact ih0 _ _ _ _
   | exact ih1 _ _ _ _
   | exact spec_l2Gcd.mono _ _ _
   | exact LeO.none _
   | refine LeO.ite ?_ ?_
   | refine LeO.bind ?_ (fun _ => ?_)
set_option maxHeartbeats 8000000 in
set_option maxRecDepth 100000 in
theorem spec_IsAtom.calls (k : Nat) (A0_0 : Option Addr) (c0_0 : Nat) (l0_0 : List Int) (a0_1 : Int) (a0_2 : Bool) (r : Bool) (w : World) (hr0_0 : Kd.C (Kd.int .i64) w A0_0 l0_0.length l0_0) (hc0_0 : l0_0.length ≤ c0_0) (h : spec_IsAtom.f k l0_0 a0_1 a0_2 = some r) :
  Calls Tryd.prog 46 #[.agg #[.slice A0_0 l0_0.length c0_0, .int .i64 a0_1, .bool a0_2]] w fun e w' => e = .returned (.bool r) ∧ Below w.heap.size w w' := by
 have hu27 := Tryd.underlying27
 have qh := Aside0.mk hr0_0
 have qx := Aside0.mk hc0_0
 clear hr0_0 hc0_0
 have HB := Aside0.mk (Below.refl w.heap.size w)
 have H : (if (l0_0.length : Int) > 4 then (spec_IsAtom.j0 k true l0_0 a0_1 a0_2) else ((spec_IsNumber.f a0_1).bind fun qe => (spec_IsAtom.j0 k (!qe) l0_0 a0_1 a0_2))) = some r := h
 clear h
 have HC2 := Aside0.mk H
 clear H
 go_enter Tryd.func46, Tryd.ntmps46
 go_upto_region 1 with (first | ((with_reducible refine gate_dst (N := 1) rfl ?_); refine box_event ?hg (N := 1) ?hd (cs := #[.slice A0_0 l0_0.length c0_0, .int .i64 a0_1, .bool a0_2]) (t := 27) ?hr ?_; (case hd => rfl); (case hg => rfl); (case hr => first | (go_simp; done) | (go_simp; rfl)); intro qb hg w3 hbox hb; have qa := Aside0.mk (hbox); have qS := Aside0.mk ((by rw [hg]; exact (bz_ HB) : w.heap.size ≤ qb)); have qT := Aside0.mk ((by rw [hg]; exact (bz_ HB) : w.heap.size ≤ qb)); replace HB := bS_ HB hb; clear hb hbox hg))
 (try simp only [Act.put, List.setIfInBounds_toArray, List.set_cons_zero, List.set_cons_succ])
 go_cut [13] (fun v13 wc => ∃ (kq : Nat) (qg : Bool), v13 = .bool qg ∧ Aside0 (spec_IsAtom.j0 kq qg l0_0 a0_1 a0_2 = some r) ∧ Aside0 (kq ≤ k) ∧ Aside0 (wc.heap[qb]? = some (.cells #[(.slice A0_0 l0_0.length c0_0), .int .i64 a0_1, .bool a0_2] 27 (0, 0))) ∧ Aside0 (Below w.heap.size w wc))
 case first =>
  have H := HC2.out
  clear HC2
  by_cases c4 : (l0_0.length : Int) > 4
  ·
   rw [if_pos c4] at H
   have qf : decide (4 < (l0_0.length : Int)) = true := decide_eq_true c4
   have qw : decide (4 < l0_0.length) = true := decide_eq_true (by omega)
   clear c4
   (first | rw [qf] | (simp only [i64_w, i32_w]; rw [qf]) | skip)
   have H' := Aside0.mk H
   clear H
   have qi : w3.cell? ⟨qb, 0, none⟩ = some (.slice A0_0 l0_0.length c0_0) := bc_ qa 0
   have qj : w3.cell? ⟨qb, 1, none⟩ = some (.int .i64 a0_1) := bc_ qa 1
   have qk : w3.cell? ⟨qb, 2, none⟩ = some (.bool a0_2) := bc_ qa 2
   have ql := blk_frozen qa.out 0
   have qm := blk_frozen qa.out 1
   have qn := blk_frozen qa.out 2
   go_wp2
   go_meet
   case rel => exact ⟨_, (true), (by first | rfl | (simp; done) | (simp [*]; done)), H', ⟨by first | omega | exact Nat.le_refl _⟩, ⟨kf_ qa⟩, ⟨bb_ HB⟩⟩
  ·
   rw [if_neg c4] at H
   have qf : decide (4 < (l0_0.length : Int)) = false := decide_eq_false c4
   have qw : decide (4 < l0_0.length) = false := decide_eq_false (by omega)
   clear c4
   (first | rw [qf] | (simp only [i64_w, i32_w]; rw [qf]) | skip)
   replace H := Option.bind_eq_some_iff.mp H
   obtain ⟨qe, A60, H⟩ := H
   replace H : (spec_IsAtom.j0 k (!qe) l0_0 a0_1 a0_2) = some r := H
   have A6 := Aside0.mk A60
   clear A60
   have H' := Aside0.mk H
   clear H
   have qo : w3.cell? ⟨qb, 0, none⟩ = some (.slice A0_0 l0_0.length c0_0) := bc_ qa 0
   have qp : w3.cell? ⟨qb, 1, none⟩ = some (.int .i64 a0_1) := bc_ qa 1
   have qq : w3.cell? ⟨qb, 2, none⟩ = some (.bool a0_2) := bc_ qa 2
   have qr := blk_frozen qa.out 0
   have qs := blk_frozen qa.out 1
   have qt := blk_frozen qa.out 2
   go_wp2_with (first | (go_at_call 59; (with_reducible refine (spec_IsNumber.calls a0_1 qe _ A6.out).mono ?_); rintro e w' ⟨rfl, ⟨nd, rfl⟩⟩))
   go_meet
   case rel => exact ⟨_, (!qe), (by first | rfl | (simp; done) | (simp [*]; done)), H', ⟨by first | omega | exact Nat.le_refl _⟩, ⟨kf_ qa⟩, ⟨bb_ HB⟩⟩
 case rest =>
  clear HC2
  try clear p2
  try clear c4
  try clear qf
  try clear qw
  try clear qi
  try clear qj
  try clear qk
  try clear qo
  try clear qp
  try clear qq
  try clear ql
  try clear qm
  try clear qn
  try clear qr
  try clear qs
  try clear qt
  obtain ⟨kq, qg, rfl, HA, HJ1, qa, HB⟩ := hcut
  cases kq with
  | zero => exact absurd HA.out (by simp [spec_IsAtom.j0])
  | succ kj1 =>
   have H := HA.out
   clear HA
   simp only [spec_IsAtom.j0] at H
   by_cases c8 : qg = true
   ·
    subst c8
    have H1 : (some false) = some r := by rw [if_pos rfl] at H; exact H
    clear H
    have H := H1
    clear H1
    obtain rfl := Option.some.inj H
    go_wp2
    go_ret
    exact ⟨by first | rfl | (simp [errW_none, errW_some] <;> rfl) | (simp [*, errW_none, errW_some] <;> rfl), bb_ HB⟩
   ·
    replace c8 := Bool.eq_false_iff.mpr c8
    subst c8
    have H1 : (spec_IsAtom.l0 kj1 0 l0_0 a0_1 a0_2) = some r := by rw [if_neg (show ¬ (false = true) by decide)] at H; exact H
    clear H
    have H := H1
    clear H1
    have H' := Aside0.mk H
    clear H
    go_wp2
    go_loopg [3] kj1 (fun kq v3 w' => ∃ (qc : Int), v3 = .int .i64 qc ∧ Aside0 (spec_IsAtom.l0 kq qc l0_0 a0_1 a0_2 = some r) ∧ Aside0 (kq ≤ kj1) ∧ Aside0 (w'.heap[qb]? = some (.cells #[(.slice A0_0 l0_0.length c0_0), .int .i64 a0_1, .bool a0_2] 27 (0, 0))) ∧ Aside0 (Below w.heap.size w w'))
    case atStart => exact ⟨(0), (by first | rfl | (simp; done) | (simp [*]; done)), H', ⟨Nat.le_refl _⟩, ⟨kf_ qa⟩, ⟨bb_ HB⟩⟩
    case round =>
     clear H'
     try clear p2
     try clear c4
     try clear qf
     try clear qw
     try clear c8
     try clear qi
     try clear qj
     try clear qk
     try clear qo
     try clear qp
     try clear qq
     try clear ql
     try clear qm
     try clear qn
     try clear qr
     try clear qs
     try clear qt
     try clear p2
     obtain ⟨qc, rfl, HA, HK2, qa, HB⟩ := hrel
     cases gk with
     | zero => exact absurd HA.out (by simp [spec_IsAtom.l0])
     | succ k2 =>
      have H := HA.out
      clear HA
      simp only [spec_IsAtom.l0] at H
      by_cases c9 : qc < (l0_0.length : Int)
      ·
       rw [if_pos c9] at H
       have qR : decide (qc < (l0_0.length : Int)) = true := decide_eq_true c9
       clear c9
       by_cases c10 : 0 ≤ qc
       ·
        rw [if_pos c10] at H
        have qU : decide (0 ≤ qc) = true := decide_eq_true c10
        clear c10
        replace H := Option.bind_eq_some_iff.mp H
        obtain ⟨qu, A110, H⟩ := H
        replace H : (if qu = true then (spec_IsAtom.l0 k2 (wrap64 (qc + 1)) l0_0 a0_1 a0_2) else (some false)) = some r := H
        have A11 := Aside0.mk A110
        clear A110
        by_cases c12 : qu = true
        ·
         subst c12
         have H1 : (spec_IsAtom.l0 k2 (wrap64 (qc + 1)) l0_0 a0_1 a0_2) = some r := by rw [if_pos rfl] at H; exact H
         clear H
         have H := H1
         clear H1
         have H' := Aside0.mk H
         clear H
         have qz : wr.cell? ⟨qb, 0, none⟩ = some (.slice A0_0 l0_0.length c0_0) := bc_ qa 0
         have qA : wr.cell? ⟨qb, 1, none⟩ = some (.int .i64 a0_1) := bc_ qa 1
         have qB : wr.cell? ⟨qb, 2, none⟩ = some (.bool a0_2) := bc_ qa 2
         have qC := blk_frozen qa.out 0
         have qD := blk_frozen qa.out 1
         have qE := blk_frozen qa.out 2
         have p113 : 0 ≤ (qc : Int) := of_decide_eq_true (by first | (with_reducible assumption) | assumption)
         have q113 : qc < (l0_0.length : Int) := of_decide_eq_true (by first | (with_reducible assumption) | assumption)
         obtain ⟨qy, e113, qd⟩ := Kd.at_int qh.out qc p113 q113
         cases e113
         replace qd := (HB.out.cell (World.block_lt_of_cell? w _ qd)).trans qd
         replace p113 := eq_true p113
         replace q113 := eq_true q113
         go_wp2_with (first | ((with_reducible refine gate_callee (f := 59) rfl ?_); refine goesL_ (some 26) rfl rfl Tryd.func59 (by kernel_rfl) rfl #[.int .i64 (rd l0_0 qc)] rfl (by (try simp only [List.map_toArray, List.map_cons, List.map_nil]); first | done | rfl | (simp only [List.length_drop, List.length_take]; rfl)) ?_; (with_reducible refine (spec_IsNumber.calls (rd l0_0 qc) true _ A11.out).mono ?_); rintro e w' ⟨rfl, ⟨nd, rfl⟩⟩; refine ⟨_, rfl, ?_⟩))
         go_roundg k2
         case measure => have := HJ1.out; have := HK2.out; omega
         case rel => exact ⟨(wrap64 (qc + 1)), (by first | rfl | (simp; done) | (simp [*]; done)), H', ⟨by have := HJ1.out; have := HK2.out; omega⟩, ⟨kf_ qa⟩, ⟨bb_ HB⟩⟩
        ·
         replace c12 := Bool.eq_false_iff.mpr c12
         subst c12
         have H1 : (some false) = some r := by rw [if_neg (show ¬ (false = true) by decide)] at H; exact H
         clear H
         have H := H1
         clear H1
         obtain rfl := Option.some.inj H
         have qF : wr.cell? ⟨qb, 0, none⟩ = some (.slice A0_0 l0_0.length c0_0) := bc_ qa 0
         have qG : wr.cell? ⟨qb, 1, none⟩ = some (.int .i64 a0_1) := bc_ qa 1
         have qH : wr.cell? ⟨qb, 2, none⟩ = some (.bool a0_2) := bc_ qa 2
         have qI := blk_frozen qa.out 0
         have qJ := blk_frozen qa.out 1
         have qK := blk_frozen qa.out 2
         have p113 : 0 ≤ (qc : Int) := of_decide_eq_true (by first | (with_reducible assumption) | assumption)
         have q113 : qc < (l0_0.length : Int) := of_decide_eq_true (by first | (with_reducible assumption) | assumption)
         obtain ⟨qy, e113, qd⟩ := Kd.at_int qh.out qc p113 q113
         cases e113
         replace qd := (HB.out.cell (World.block_lt_of_cell? w _ qd)).trans qd
         replace p113 := eq_true p113
         replace q113 := eq_true q113
         go_wp2_with (first | ((with_reducible refine gate_callee (f := 59) rfl ?_); refine goesL_ (some 26) rfl rfl Tryd.func59 (by kernel_rfl) rfl #[.int .i64 (rd l0_0 qc)] rfl (by (try simp only [List.map_toArray, List.map_cons, List.map_nil]); first | done | rfl | (simp only [List.length_drop, List.length_take]; rfl)) ?_; (with_reducible refine (spec_IsNumber.calls (rd l0_0 qc) false _ A11.out).mono ?_); rintro e w' ⟨rfl, ⟨nd, rfl⟩⟩; refine ⟨_, rfl, ?_⟩))
         go_ret
         exact ⟨by first | rfl | (simp [errW_none, errW_some] <;> rfl) | (simp [*, errW_none, errW_some] <;> rfl), bb_ HB⟩
       ·
        rw [if_neg c10] at H
        exact absurd H (by simp)
      ·
       rw [if_neg c9] at H
       have qR : decide (qc < (l0_0.length : Int)) = false := decide_eq_false c9
       clear c9
       replace H := Option.bind_eq_some_iff.mp H
       obtain ⟨qv, A150, H⟩ := H
       replace H : (some (decide (qv ≤ 1))) = some r := H
       have A15 := Aside0.mk A150
       clear A150
       obtain rfl := Option.some.inj H
       have qL : wr.cell? ⟨qb, 0, none⟩ = some (.slice A0_0 l0_0.length c0_0) := bc_ qa 0
       have qM : wr.cell? ⟨qb, 1, none⟩ = some (.int .i64 a0_1) := bc_ qa 1
       have qN : wr.cell? ⟨qb, 2, none⟩ = some (.bool a0_2) := bc_ qa 2
       have qO := blk_frozen qa.out 0
       have qP := blk_frozen qa.out 1
       have qQ := blk_frozen qa.out 2
       go_wp2_with (first | ((with_reducible refine gate_callee (f := 87) rfl ?_); refine goesL_ (some 32) rfl rfl Tryd.func87 (by kernel_rfl) rfl #[.slice A0_0 l0_0.length c0_0, .int .i64 a0_1] rfl (by (try simp only [List.map_toArray, List.map_cons, List.map_nil]); first | done | rfl | (simp only [List.length_drop, List.length_take]; rfl)) ?_; (with_reducible refine (spec_l2Gcd.calls k2 _ _ l0_0 a0_1 qv _ ?side1 ?side2 A15.out).mono ?_); (case side1 => exact cb_ qh HB); (case side2 => exact qx.out); rintro e qV ⟨rfl, hb⟩; refine ⟨_, rfl, ?_⟩; replace qa := kB_ qa hb; replace HB := bS_ HB hb; (try clear hb); (try clear hb2); (try clear hk); (try clear hi)))
       go_ret
       exact ⟨by first | rfl | (simp [errW_none, errW_some] <;> rfl) | (simp [*, errW_none, errW_some] <;> rfl), bb_ HB⟩

/-! ### spec_IsCell: function 63 -/
def spec_IsCell.l0 : Nat → Int → Int → List (S27) → Option (Bool)
 | 0, _, _, _ => none
 | k + 1, x3, x117000, x117001 => if x3 < (x117001.length : Int) then (if 0 ≤ x3 then ((spec_IsAtom.f k ((rd_T27 x117001 x3).f0) ((rd_T27 x117001 x3).f1) ((rd_T27 x117001 x3).f2)).bind fun qr => (if qr = true then (if (((rd_T27 x117001 x3).f0).length : Int) = x117000 then (spec_IsCell.l0 k (wrap64 (x3 + 1)) x117000 x117001) else (some false)) else (some false))) else (none)) else ((spec_l1In.f x117000 0 4).bind fun qs => (if qs = true then (some (decide ((x117001.length : Int) ≤ 16))) else (some false)))
def spec_IsCell.f (k : Nat) (a0_0 : Int) (l0_1 : List (S27)) : Option (Bool) := spec_IsCell.l0 k 0 a0_0 l0_1
theorem spec_IsCell.mono_l : ∀ k, (∀ y0 y1 y2, LeO (spec_IsCell.l0 k y0 y1 y2) (spec_IsCell.l0 (k + 1) y0 y1 y2))
 | 0 => fun _ _ _ r h => by simp [spec_IsCell.l0] at h
 | k + 1 => by
  have ih0 := spec_IsCell.mono_l k
  ·
   intro y0 y1 y2
   unfold spec_IsCell.l0
   repeat' first
   | (with_reducible exact ih0 _ _ _)
   | (with_reducible exact spec_IsAtom.mono _ _ _ _)
   | (with_reducible exact LeO.refl _)
   | (with_reducible exact LeO.none _)
   | (with_reducible refine LeO.ite ?_ ?_)
   | (with_reducible refine LeO.bind ?_ (fun _ => ?_))
   | exact ih0 _ _ _
   | exact spec_IsAtom.mono _ _ _ _
   | exact LeO.none _
   | refine LeO.ite ?_ ?_
   | refine LeO.bind ?_ (fun _ => ?_)
theorem spec_IsCell.mono : ∀ a0 a1 k, LeO (spec_IsCell.f k a0 a1) (spec_IsCell.f (k + 1) a0 a1) := by
 intro a0 a1 k
 have ih0 := spec_IsCell.mono_l k
 unfold spec_IsCell.f
 repeat' first
   | (with_reducible exact ih0 _ _ _)
   | (with_reducible exact spec_IsAtom.mono _ _ _ _)
   | (with_reducible exact LeO.refl _)
   | (with_reducible exact LeO.none _)
   | (with_reducible refine LeO.ite ?_ ?_)
   | (with_reducible refine LeO.bind ?_ (fun _ => ?_))
   | exact ih0 _ _ _
   | exact spec_IsAtom.mono _ _ _ _
   | exact LeO.none _
   | refine LeO.ite ?_ ?_
   | refine LeO.bind ?_ (fun _ => ?_)
def spec_IsCell.T4 : Bool × List (List Nat × List Nat) := (true, [([], []), ([0], [0]), ([], []), ([1, 2], [1, 2]), ([3], [3]), ([4], [4]), ([5], [5]), ([6, 5], [6]), ([7], [7]), ([8, 7], [7, 8]), ([7], [7]), ([9, 10, 7], [7, 9, 10]), ([11, 7], [7, 11]), ([12, 7], [7, 12]), ([13, 7], [7, 13]), ([7], [7]), ([15, 7], [7, 15]), ([14, 16, 7], [7, 14, 16]), ([7, 17], [7, 17])])
def spec_IsCell.B4 : List Nat := [0, 1, 0, 7, 15, 31, 63, 127, 255, 511, 255, 2047, 4095, 8191, 16383, 255, 33023, 131071, 262143]
theorem spec_IsCell.tab4 : rtab .any (opsOf Tryd.f63 4) = spec_IsCell.T4 := by kernel_rfl
theorem spec_IsCell.bits4 : waitsOk spec_IsCell.T4.2 spec_IsCell.B4 = true := by kernel_rfl
set_option maxHeartbeats 8000000 in
set_option maxRecDepth 100000 in
theorem spec_IsCell.calls (k : Nat) (a0_0 : Int) (A0_1 : Option Addr) (c0_1 : Nat) (l0_1 : List (S27)) (r : Bool) (w : World) (hr0_1 : Kd.C k27 w A0_1 l0_1.length l0_1) (hc0_1 : l0_1.length ≤ c0_1) (h : spec_IsCell.f k a0_0 l0_1 = some r) :
  Calls Tryd.prog 63 #[.agg #[.int .i64 a0_0, .slice A0_1 l0_1.length c0_1]] w fun e w' => e = .returned (.bool r) ∧ Below w.heap.size w w' := by
 have hu41 := Tryd.underlying41
 have hu27 := Tryd.underlying27
 have qo := Aside0.mk hr0_1
 have qR := Aside0.mk hc0_1
 clear hr0_1 hc0_1
 have HB := Aside0.mk (Below.refl w.heap.size w)
 have H : (spec_IsCell.l0 k 0 a0_0 l0_1) = some r := h
 clear h
 have H' := Aside0.mk H
 clear H
 go_enter Tryd.func63, Tryd.ntmps63
 go_wp2_with (first | ((with_reducible refine gate_dst (N := 1) rfl ?_); (try (refine gate_guard (by rfl) ?_; dsimp only)); refine box_event ?hg (N := 1) ?hd (cs := #[.int .i64 a0_0, .slice A0_1 l0_1.length c0_1]) (t := 41) ?hr ?_; (case hd => rfl); (case hg => rfl); (case hr => first | (go_simp; done) | (go_simp; rfl)); intro qg hg w2 hbox hb; have qb := Aside0.mk (hbox); have qS := Aside0.mk ((by rw [hg]; exact (bz_ HB) : w.heap.size ≤ qg)); have qT := Aside0.mk ((by rw [hg]; exact (bz_ HB) : w.heap.size ≤ qg)); replace HB := bS_ HB hb; clear hb hbox hg))
 go_loopg [3] k (fun kq v3 w' => ∃ (qa : Int), v3 = .int .i64 qa ∧ Aside0 (spec_IsCell.l0 kq qa a0_0 l0_1 = some r) ∧ Aside0 (kq ≤ k) ∧ Aside0 (w'.heap[qg]? = some (.cells #[.int .i64 a0_0, (.slice A0_1 l0_1.length c0_1)] 41 (0, 0))) ∧ Aside0 (Below w.heap.size w w'))
 case atStart => exact ⟨(0), (by first | rfl | (simp; done) | (simp [*]; done)), H', ⟨Nat.le_refl _⟩, ⟨kf_ qb⟩, ⟨bb_ HB⟩⟩
 case round =>
  clear H'
  try clear p2
  obtain ⟨qa, rfl, HA, HK1, qb, HB⟩ := hrel
  cases gk with
  | zero => exact absurd HA.out (by simp [spec_IsCell.l0])
  | succ k1 =>
   have H := HA.out
   clear HA
   simp only [spec_IsCell.l0] at H
   by_cases c3 : qa < (l0_1.length : Int)
   ·
    rw [if_pos c3] at H
    have qK : decide (qa < (l0_1.length : Int)) = true := decide_eq_true c3
    clear c3
    by_cases c4 : 0 ≤ qa
    ·
     rw [if_pos c4] at H
     have qU : decide (0 ≤ qa) = true := decide_eq_true c4
     clear c4
     replace H := Option.bind_eq_some_iff.mp H
     obtain ⟨qr, A50, H⟩ := H
     replace H : (if qr = true then (if (((rd_T27 l0_1 qa).f0).length : Int) = a0_0 then (spec_IsCell.l0 k1 (wrap64 (qa + 1)) a0_0 l0_1) else (some false)) else (some false)) = some r := H
     have A5 := Aside0.mk A50
     clear A50
     by_cases c6 : qr = true
     ·
      subst c6
      have H1 : (if (((rd_T27 l0_1 qa).f0).length : Int) = a0_0 then (spec_IsCell.l0 k1 (wrap64 (qa + 1)) a0_0 l0_1) else (some false)) = some r := by rw [if_pos rfl] at H; exact H
      clear H
      have H := H1
      clear H1
      by_cases c7 : (((rd_T27 l0_1 qa).f0).length : Int) = a0_0
      ·
       rw [if_pos c7] at H
       have qL : ((((rd_T27 l0_1 qa).f0).length : Int) == a0_0) = true := beq_iff_eq.mpr c7
       have qM : ((((rd_T27 l0_1 qa).f0).length : Int) != a0_0) = false := bne_eq_false_iff_eq.mpr c7
       clear c7
       have H' := Aside0.mk H
       clear H
       have qN : wr.cell? ⟨qg, 0, none⟩ = some (.int .i64 a0_0) := bc_ qb 0
       have qO : wr.cell? ⟨qg, 1, none⟩ = some (.slice A0_1 l0_1.length c0_1) := bc_ qb 1
       have qP := blk_frozen qb.out 0
       have qQ := blk_frozen qb.out 1
       try go_wp2
       replace qb := Aside0.mk (blk_drew qb.out); replace HB := Aside0.mk (below_drew1 HB.out)
       have p117 : 0 ≤ (qa : Int) := of_decide_eq_true (by first | (with_reducible assumption) | assumption)
       have q117 : qa < (l0_1.length : Int) := of_decide_eq_true (by first | (with_reducible assumption) | assumption)
       obtain ⟨qc, ql, c117_0, e117, qd, qe, qf, hl117_0, hi117_0⟩ := at_T27 qo.out qa p117 q117
       have hw117_2 := qf
       have hw117_1 := qe
       have hw117_0 := qd
       cases e117
       replace qd := (HB.out.cell (World.block_lt_of_cell? w _ qd)).trans qd
       replace qe := (HB.out.cell (World.block_lt_of_cell? w _ qe)).trans qe
       replace qf := (HB.out.cell (World.block_lt_of_cell? w _ qf)).trans qf
       have qk := Aside0.mk hi117_0
       have qm := Aside0.mk hl117_0
       clear hi117_0 hl117_0
       replace p117 := eq_true p117
       replace q117 := eq_true q117
       have p119 : 0 ≤ (qa : Int) := of_decide_eq_true (by first | (with_reducible assumption) | assumption)
       have q119 : qa < (l0_1.length : Int) := of_decide_eq_true (by first | (with_reducible assumption) | assumption)
       obtain ⟨qq, qp, c119_0, e119, qh, qi, qj, hl119_0, hi119_0⟩ := at_T27 qo.out qa p119 q119
       have hw119_2 := qj
       have hw119_1 := qi
       have hw119_0 := qh
       obtain rfl : qc = qq := (by injection e119)
       replace qh := (HB.out.cell (World.block_lt_of_cell? w _ qh)).trans qh
       replace qi := (HB.out.cell (World.block_lt_of_cell? w _ qi)).trans qi
       replace qj := (HB.out.cell (World.block_lt_of_cell? w _ qj)).trans qj
       have qn := Aside0.mk hi119_0
       have qt := Aside0.mk hl119_0
       clear hi119_0 hl119_0
       replace p119 := eq_true p119
       replace q119 := eq_true q119
       refine start_ (n := 19) (S := fun w' => w'.cell? ⟨qg, 0, none⟩ = some (.int .i64 a0_0) ∧ w'.cell? ⟨qg, 1, none⟩ = some (.slice (some qc) l0_1.length c0_1) ∧ w'.cell? (qc.add ((qa).toNat * 3)) = some (.slice ql ((rd_T27 l0_1 qa).f0).length c117_0) ∧ w'.cell? ⟨(qc.add ((qa).toNat * 3)).block, (qc.add ((qa).toNat * 3)).off + 1, none⟩ = some (.int .i64 ((rd_T27 l0_1 qa).f1)) ∧ w'.cell? ⟨(qc.add ((qa).toNat * 3)).block, (qc.add ((qa).toNat * 3)).off + 2, none⟩ = some (.bool ((rd_T27 l0_1 qa).f2)) ∧ w'.cell? (qc.add ((qa).toNat * 3)) = some (.slice qp ((rd_T27 l0_1 qa).f0).length c119_0) ∧ w'.cell? ⟨(qc.add ((qa).toNat * 3)).block, (qc.add ((qa).toNat * 3)).off + 1, none⟩ = some (.int .i64 ((rd_T27 l0_1 qa).f1)) ∧ w'.cell? ⟨(qc.add ((qa).toNat * 3)).block, (qc.add ((qa).toNat * 3)).off + 2, none⟩ = some (.bool ((rd_T27 l0_1 qa).f2))) (ds := []) #[false, false, false, false, false, false, false, false, false, false, false, false, false, false, false, false, false, false, false] (by kernel_rfl) rfl rfl ⟨bc_ qb 0, bc_ qb 1, ((HB.out.cell (World.block_lt_of_cell? w _ hw117_0)).trans hw117_0), ((HB.out.cell (World.block_lt_of_cell? w _ hw117_1)).trans hw117_1), ((HB.out.cell (World.block_lt_of_cell? w _ hw117_2)).trans hw117_2), ((HB.out.cell (World.block_lt_of_cell? w _ hw119_0)).trans hw119_0), ((HB.out.cell (World.block_lt_of_cell? w _ hw119_1)).trans hw119_1), ((HB.out.cell (World.block_lt_of_cell? w _ hw119_2)).trans hw119_2)⟩ (fun hHeld => ?_); refine with_tabW spec_IsCell.tab4 spec_IsCell.bits4 (fun HT_ HW_ => ?_)
       generalize wr.drew = w9 at qb HB qk qn qd qe qf qh qi qj hHeld ⊢
       refine pure_ (i := 0) (N := some 11) (v := ?_) (a' := ?_) #[true, false, false, false, false, false, false, false, false, false, false, false, false, false, false, false, false, false, false] rfl rfl (any_of HT_.out (by kernel_rfl)) (fun _ _ _ h => h) (Or.inl ⟨by rfl, ?_⟩) ?_ ?_
       rotate_left
       ·
        intro w'
        go_simp
        with_reducible rfl
       rotate_left
       ·
        simp only [Act.put, List.setIfInBounds_toArray, List.set_cons_zero, List.set_cons_succ, i64_w, i32_w]
        rfl
       refine pure_ (i := 2) (N := some 13) (v := ?_) (a' := ?_) #[true, false, true, false, false, false, false, false, false, false, false, false, false, false, false, false, false, false, false] rfl rfl (any_of HT_.out (by kernel_rfl)) (fun _ _ _ h => h) (Or.inl ⟨by rfl, ?_⟩) ?_ ?_
       rotate_left
       ·
        intro w'
        go_simp
        with_reducible rfl
       rotate_left
       ·
        simp only [Act.put, List.setIfInBounds_toArray, List.set_cons_zero, List.set_cons_succ, i64_w, i32_w]
        rfl
       refine take_ (i := 1) (N := some 12) (v := ?_) (a' := ?_) #[true, true, true, false, false, false, false, false, false, false, false, false, false, false, false, false, false, false, false] rfl rfl (take_ofW HT_.out HW_.out (by kernel_rfl)) (fun _ _ _ h => h) (Or.inl ⟨by rfl, ?_⟩) hHeld ?_ ?_
       rotate_left
       ·
        rintro w' ⟨s0, s1, s2, s3, s4, s5, s6, s7⟩
        go_simp
        with_reducible rfl
       rotate_left
       ·
        simp only [Act.put, List.setIfInBounds_toArray, List.set_cons_zero, List.set_cons_succ, i64_w, i32_w]
        rfl
       refine pure_ (i := 3) (N := some 14) (v := ?_) (a' := ?_) #[true, true, true, true, false, false, false, false, false, false, false, false, false, false, false, false, false, false, false] rfl rfl (any_of HT_.out (by kernel_rfl)) (fun _ _ _ h => h) (Or.inl ⟨by rfl, ?_⟩) ?_ ?_
       rotate_left
       ·
        intro w'
        go_simp
        with_reducible rfl
       rotate_left
       ·
        simp only [Act.put, List.setIfInBounds_toArray, List.set_cons_zero, List.set_cons_succ, i64_w, i32_w]
        rfl
       refine take_ (i := 4) (N := some 15) (v := ?_) (a' := ?_) #[true, true, true, true, true, false, false, false, false, false, false, false, false, false, false, false, false, false, false] rfl rfl (take_ofW HT_.out HW_.out (by kernel_rfl)) (fun _ _ _ h => h) (Or.inl ⟨by rfl, ?_⟩) hHeld ?_ ?_
       rotate_left
       ·
        rintro w' ⟨s0, s1, s2, s3, s4, s5, s6, s7⟩
        go_simp
        with_reducible rfl
       rotate_left
       ·
        simp only [Act.put, List.setIfInBounds_toArray, List.set_cons_zero, List.set_cons_succ, i64_w, i32_w]
        rfl
       refine one_ (i := 5) (N := some 16) #[true, true, true, true, true, true, false, false, false, false, false, false, false, false, false, false, false, false, false] rfl rfl (one_of HT_.out (by kernel_rfl)) (by decide) (fun K hK => ?_)
       refine goes_ Tryd.func46 (by kernel_rfl) rfl #[.agg #[.slice ql ((rd_T27 l0_1 qa).f0).length c117_0, .int .i64 ((rd_T27 l0_1 qa).f1), .bool ((rd_T27 l0_1 qa).f2)]] (by rfl) rfl rfl (by (try simp only [List.map_toArray, List.map_cons, List.map_nil]); first | done | rfl | (simp only [List.length_drop, List.length_take]; rfl)) ?_
       with_reducible refine (spec_IsAtom.calls k1 _ _ ((rd_T27 l0_1 qa).f0) ((rd_T27 l0_1 qa).f1) ((rd_T27 l0_1 qa).f2) true _ ?side1 ?side2 A5.out).mono ?_
       (case side1 => exact cb_ qk HB)
       (case side2 => exact qm.out)
       rintro e qV ⟨rfl, hb⟩
       refine ⟨_, rfl, ?_⟩
       replace qb := kB_ qb hb; replace HB := bS_ HB hb; (try clear hb); (try clear hb2); (try clear hk); (try clear hi)
       refine hK.out _ _ ⟨bc_ qb 0, bc_ qb 1, ((HB.out.cell (World.block_lt_of_cell? w _ hw117_0)).trans hw117_0), ((HB.out.cell (World.block_lt_of_cell? w _ hw117_1)).trans hw117_1), ((HB.out.cell (World.block_lt_of_cell? w _ hw117_2)).trans hw117_2), ((HB.out.cell (World.block_lt_of_cell? w _ hw119_0)).trans hw119_0), ((HB.out.cell (World.block_lt_of_cell? w _ hw119_1)).trans hw119_1), ((HB.out.cell (World.block_lt_of_cell? w _ hw119_2)).trans hw119_2)⟩ (fun hHeld => ?_)
       clear hK K
       refine norm_ (a' := ?_) ?_ ?_
       rotate_left
       ·
        show Act.put _ (some 16) _ = _
        simp only [Act.put, List.setIfInBounds_toArray, List.set_cons_zero, List.set_cons_succ, i64_w, i32_w]
        rfl
       refine pure_ (i := 6) (N := some 17) (v := ?_) (a' := ?_) #[true, true, true, true, true, true, true, false, false, false, false, false, false, false, false, false, false, false, false] rfl rfl (any_of HT_.out (by kernel_rfl)) (fun _ _ _ h => h) (Or.inl ⟨by rfl, ?_⟩) ?_ ?_
       rotate_left
       ·
        intro w'
        go_simp
        with_reducible rfl
       rotate_left
       ·
        simp only [Act.put, List.setIfInBounds_toArray, List.set_cons_zero, List.set_cons_succ, i64_w, i32_w]
        rfl
       refine pure_ (i := 7) (N := some 18) (v := ?_) (a' := ?_) #[true, true, true, true, true, true, true, true, false, false, false, false, false, false, false, false, false, false, false] rfl rfl (any_of HT_.out (by kernel_rfl)) (fun _ _ _ h => h) (Or.inl ⟨by rfl, ?_⟩) ?_ ?_
       rotate_left
       ·
        intro w'
        go_simp
        with_reducible rfl
       rotate_left
       ·
        simp only [Act.put, List.setIfInBounds_toArray, List.set_cons_zero, List.set_cons_succ, i64_w, i32_w]
        rfl
       refine pure_ (i := 8) (N := some 19) (v := ?_) (a' := ?_) #[true, true, true, true, true, true, true, true, true, false, false, false, false, false, false, false, false, false, false] rfl rfl (any_of HT_.out (by kernel_rfl)) (fun _ _ _ h => h) (Or.inl ⟨by rfl, ?_⟩) ?_ ?_
       rotate_left
       ·
        intro w'
        go_simp
        with_reducible rfl
       rotate_left
       ·
        simp only [Act.put, List.setIfInBounds_toArray, List.set_cons_zero, List.set_cons_succ, i64_w, i32_w]
        rfl
       refine pure_ (i := 10) (N := some 21) (v := ?_) (a' := ?_) #[true, true, true, true, true, true, true, true, true, false, true, false, false, false, false, false, false, false, false] rfl rfl (any_of HT_.out (by kernel_rfl)) (fun _ _ _ h => h) (Or.inl ⟨by rfl, ?_⟩) ?_ ?_
       rotate_left
       ·
        intro w'
        go_simp
        with_reducible rfl
       rotate_left
       ·
        simp only [Act.put, List.setIfInBounds_toArray, List.set_cons_zero, List.set_cons_succ, i64_w, i32_w]
        rfl
       refine pure_ (i := 15) (N := some 26) (v := ?_) (a' := ?_) #[true, true, true, true, true, true, true, true, true, false, true, false, false, false, false, true, false, false, false] rfl rfl (any_of HT_.out (by kernel_rfl)) (fun _ _ _ h => h) (Or.inl ⟨by rfl, ?_⟩) ?_ ?_
       rotate_left
       ·
        intro w'
        go_simp
        with_reducible rfl
       rotate_left
       ·
        simp only [Act.put, List.setIfInBounds_toArray, List.set_cons_zero, List.set_cons_succ, i64_w, i32_w]
        rfl
       refine take_ (i := 9) (N := some 20) (v := ?_) (a' := ?_) #[true, true, true, true, true, true, true, true, true, true, true, false, false, false, false, true, false, false, false] rfl rfl (take_ofW HT_.out HW_.out (by kernel_rfl)) (fun _ _ _ h => h) (Or.inl ⟨by rfl, ?_⟩) hHeld ?_ ?_
       rotate_left
       ·
        rintro w' ⟨s0, s1, s2, s3, s4, s5, s6, s7⟩
        go_simp
        with_reducible rfl
       rotate_left
       ·
        simp only [Act.put, List.setIfInBounds_toArray, List.set_cons_zero, List.set_cons_succ, i64_w, i32_w]
        rfl
       refine pure_ (i := 11) (N := some 22) (v := ?_) (a' := ?_) #[true, true, true, true, true, true, true, true, true, true, true, true, false, false, false, true, false, false, false] rfl rfl (any_of HT_.out (by kernel_rfl)) (fun _ _ _ h => h) (Or.inl ⟨by rfl, ?_⟩) ?_ ?_
       rotate_left
       ·
        intro w'
        go_simp
        with_reducible rfl
       rotate_left
       ·
        simp only [Act.put, List.setIfInBounds_toArray, List.set_cons_zero, List.set_cons_succ, i64_w, i32_w]
        rfl
       refine pure_ (i := 12) (N := some 23) (v := ?_) (a' := ?_) #[true, true, true, true, true, true, true, true, true, true, true, true, true, false, false, true, false, false, false] rfl rfl (any_of HT_.out (by kernel_rfl)) (fun _ _ _ h => h) (Or.inl ⟨by rfl, ?_⟩) ?_ ?_
       rotate_left
       ·
        intro w'
        go_simp
        with_reducible rfl
       rotate_left
       ·
        simp only [Act.put, List.setIfInBounds_toArray, List.set_cons_zero, List.set_cons_succ, i64_w, i32_w]
        rfl
       refine take_ (i := 13) (N := some 24) (v := ?_) (a' := ?_) #[true, true, true, true, true, true, true, true, true, true, true, true, true, true, false, true, false, false, false] rfl rfl (take_ofW HT_.out HW_.out (by kernel_rfl)) (fun _ _ _ h => h) (Or.inl ⟨by rfl, ?_⟩) hHeld ?_ ?_
       rotate_left
       ·
        rintro w' ⟨s0, s1, s2, s3, s4, s5, s6, s7⟩
        go_simp
        with_reducible rfl
       rotate_left
       ·
        simp only [Act.put, List.setIfInBounds_toArray, List.set_cons_zero, List.set_cons_succ, i64_w, i32_w]
        rfl
       refine pure_ (i := 14) (N := some 25) (v := ?_) (a' := ?_) #[true, true, true, true, true, true, true, true, true, true, true, true, true, true, true, true, false, false, false] rfl rfl (any_of HT_.out (by kernel_rfl)) (fun _ _ _ h => h) (Or.inl ⟨by rfl, ?_⟩) ?_ ?_
       rotate_left
       ·
        intro w'
        go_simp
        with_reducible rfl
       rotate_left
       ·
        simp only [Act.put, List.setIfInBounds_toArray, List.set_cons_zero, List.set_cons_succ, i64_w, i32_w]
        rfl
       refine take_ (i := 16) (N := some 27) (v := ?_) (a' := ?_) #[true, true, true, true, true, true, true, true, true, true, true, true, true, true, true, true, true, false, false] rfl rfl (take_ofW HT_.out HW_.out (by kernel_rfl)) (fun _ _ _ h => h) (Or.inl ⟨by rfl, ?_⟩) hHeld ?_ ?_
       rotate_left
       ·
        rintro w' ⟨s0, s1, s2, s3, s4, s5, s6, s7⟩
        go_simp
        with_reducible rfl
       rotate_left
       ·
        simp only [Act.put, List.setIfInBounds_toArray, List.set_cons_zero, List.set_cons_succ, i64_w, i32_w]
        rfl
       refine pure_ (i := 17) (N := some 28) (v := ?_) (a' := ?_) #[true, true, true, true, true, true, true, true, true, true, true, true, true, true, true, true, true, true, false] rfl rfl (any_of HT_.out (by kernel_rfl)) (fun _ _ _ h => h) (Or.inl ⟨by rfl, ?_⟩) ?_ ?_
       rotate_left
       ·
        intro w'
        go_simp
        with_reducible rfl
       rotate_left
       ·
        simp only [Act.put, List.setIfInBounds_toArray, List.set_cons_zero, List.set_cons_succ, i64_w, i32_w]
        rfl
       refine pure_ (i := 18) (N := some 29) (v := ?_) (a' := ?_) #[true, true, true, true, true, true, true, true, true, true, true, true, true, true, true, true, true, true, true] rfl rfl (any_of HT_.out (by kernel_rfl)) (fun _ _ _ h => h) (Or.inl ⟨by rfl, ?_⟩) ?_ ?_
       rotate_left
       ·
        intro w'
        go_simp
        with_reducible rfl
       rotate_left
       ·
        simp only [Act.put, List.setIfInBounds_toArray, List.set_cons_zero, List.set_cons_succ, i64_w, i32_w]
        rfl
       refine done_ (done_of HT_.out (by kernel_rfl)) ?_
       try go_wp2
       go_roundg k1
       case measure => have := HK1.out; omega
       case rel => exact ⟨(wrap64 (qa + 1)), (by first | rfl | (simp; done) | (simp [*]; done)), H', ⟨by have := HK1.out; omega⟩, ⟨kf_ qb⟩, ⟨bb_ HB⟩⟩
      ·
       rw [if_neg c7] at H
       have qL : ((((rd_T27 l0_1 qa).f0).length : Int) == a0_0) = false := beq_eq_false_iff_ne.mpr c7
       have qM : ((((rd_T27 l0_1 qa).f0).length : Int) != a0_0) = true := bne_iff_ne.mpr c7
       obtain rfl := Option.some.inj H
       have qu : wr.cell? ⟨qg, 0, none⟩ = some (.int .i64 a0_0) := bc_ qb 0
       have qv : wr.cell? ⟨qg, 1, none⟩ = some (.slice A0_1 l0_1.length c0_1) := bc_ qb 1
       have qw := blk_frozen qb.out 0
       have qx := blk_frozen qb.out 1
       try go_wp2
       replace qb := Aside0.mk (blk_drew qb.out); replace HB := Aside0.mk (below_drew1 HB.out)
       have p117 : 0 ≤ (qa : Int) := of_decide_eq_true (by first | (with_reducible assumption) | assumption)
       have q117 : qa < (l0_1.length : Int) := of_decide_eq_true (by first | (with_reducible assumption) | assumption)
       obtain ⟨qc, ql, c117_0, e117, qd, qe, qf, hl117_0, hi117_0⟩ := at_T27 qo.out qa p117 q117
       have hw117_2 := qf
       have hw117_1 := qe
       have hw117_0 := qd
       cases e117
       replace qd := (HB.out.cell (World.block_lt_of_cell? w _ qd)).trans qd
       replace qe := (HB.out.cell (World.block_lt_of_cell? w _ qe)).trans qe
       replace qf := (HB.out.cell (World.block_lt_of_cell? w _ qf)).trans qf
       have qk := Aside0.mk hi117_0
       have qm := Aside0.mk hl117_0
       clear hi117_0 hl117_0
       replace p117 := eq_true p117
       replace q117 := eq_true q117
       have p119 : 0 ≤ (qa : Int) := of_decide_eq_true (by first | (with_reducible assumption) | assumption)
       have q119 : qa < (l0_1.length : Int) := of_decide_eq_true (by first | (with_reducible assumption) | assumption)
       obtain ⟨qq, qp, c119_0, e119, qh, qi, qj, hl119_0, hi119_0⟩ := at_T27 qo.out qa p119 q119
       have hw119_2 := qj
       have hw119_1 := qi
       have hw119_0 := qh
       obtain rfl : qc = qq := (by injection e119)
       replace qh := (HB.out.cell (World.block_lt_of_cell? w _ qh)).trans qh
       replace qi := (HB.out.cell (World.block_lt_of_cell? w _ qi)).trans qi
       replace qj := (HB.out.cell (World.block_lt_of_cell? w _ qj)).trans qj
       have qn := Aside0.mk hi119_0
       have qt := Aside0.mk hl119_0
       clear hi119_0 hl119_0
       replace p119 := eq_true p119
       replace q119 := eq_true q119
       refine start_ (n := 19) (S := fun w' => w'.cell? ⟨qg, 0, none⟩ = some (.int .i64 a0_0) ∧ w'.cell? ⟨qg, 1, none⟩ = some (.slice (some qc) l0_1.length c0_1) ∧ w'.cell? (qc.add ((qa).toNat * 3)) = some (.slice ql ((rd_T27 l0_1 qa).f0).length c117_0) ∧ w'.cell? ⟨(qc.add ((qa).toNat * 3)).block, (qc.add ((qa).toNat * 3)).off + 1, none⟩ = some (.int .i64 ((rd_T27 l0_1 qa).f1)) ∧ w'.cell? ⟨(qc.add ((qa).toNat * 3)).block, (qc.add ((qa).toNat * 3)).off + 2, none⟩ = some (.bool ((rd_T27 l0_1 qa).f2)) ∧ w'.cell? (qc.add ((qa).toNat * 3)) = some (.slice qp ((rd_T27 l0_1 qa).f0).length c119_0) ∧ w'.cell? ⟨(qc.add ((qa).toNat * 3)).block, (qc.add ((qa).toNat * 3)).off + 1, none⟩ = some (.int .i64 ((rd_T27 l0_1 qa).f1)) ∧ w'.cell? ⟨(qc.add ((qa).toNat * 3)).block, (qc.add ((qa).toNat * 3)).off + 2, none⟩ = some (.bool ((rd_T27 l0_1 qa).f2))) (ds := []) #[false, false, false, false, false, false, false, false, false, false, false, false, false, false, false, false, false, false, false] (by kernel_rfl) rfl rfl ⟨bc_ qb 0, bc_ qb 1, ((HB.out.cell (World.block_lt_of_cell? w _ hw117_0)).trans hw117_0), ((HB.out.cell (World.block_lt_of_cell? w _ hw117_1)).trans hw117_1), ((HB.out.cell (World.block_lt_of_cell? w _ hw117_2)).trans hw117_2), ((HB.out.cell (World.block_lt_of_cell? w _ hw119_0)).trans hw119_0), ((HB.out.cell (World.block_lt_of_cell? w _ hw119_1)).trans hw119_1), ((HB.out.cell (World.block_lt_of_cell? w _ hw119_2)).trans hw119_2)⟩ (fun hHeld => ?_); refine with_tabW spec_IsCell.tab4 spec_IsCell.bits4 (fun HT_ HW_ => ?_)
       generalize wr.drew = qW at qb HB qk qn qd qe qf qh qi qj hHeld ⊢
       refine pure_ (i := 0) (N := some 11) (v := ?_) (a' := ?_) #[true, false, false, false, false, false, false, false, false, false, false, false, false, false, false, false, false, false, false] rfl rfl (any_of HT_.out (by kernel_rfl)) (fun _ _ _ h => h) (Or.inl ⟨by rfl, ?_⟩) ?_ ?_
       rotate_left
       ·
        intro w'
        go_simp
        with_reducible rfl
       rotate_left
       ·
        simp only [Act.put, List.setIfInBounds_toArray, List.set_cons_zero, List.set_cons_succ, i64_w, i32_w]
        rfl
       refine pure_ (i := 2) (N := some 13) (v := ?_) (a' := ?_) #[true, false, true, false, false, false, false, false, false, false, false, false, false, false, false, false, false, false, false] rfl rfl (any_of HT_.out (by kernel_rfl)) (fun _ _ _ h => h) (Or.inl ⟨by rfl, ?_⟩) ?_ ?_
       rotate_left
       ·
        intro w'
        go_simp
        with_reducible rfl
       rotate_left
       ·
        simp only [Act.put, List.setIfInBounds_toArray, List.set_cons_zero, List.set_cons_succ, i64_w, i32_w]
        rfl
       refine take_ (i := 1) (N := some 12) (v := ?_) (a' := ?_) #[true, true, true, false, false, false, false, false, false, false, false, false, false, false, false, false, false, false, false] rfl rfl (take_ofW HT_.out HW_.out (by kernel_rfl)) (fun _ _ _ h => h) (Or.inl ⟨by rfl, ?_⟩) hHeld ?_ ?_
       rotate_left
       ·
        rintro w' ⟨s0, s1, s2, s3, s4, s5, s6, s7⟩
        go_simp
        with_reducible rfl
       rotate_left
       ·
        simp only [Act.put, List.setIfInBounds_toArray, List.set_cons_zero, List.set_cons_succ, i64_w, i32_w]
        rfl
       refine pure_ (i := 3) (N := some 14) (v := ?_) (a' := ?_) #[true, true, true, true, false, false, false, false, false, false, false, false, false, false, false, false, false, false, false] rfl rfl (any_of HT_.out (by kernel_rfl)) (fun _ _ _ h => h) (Or.inl ⟨by rfl, ?_⟩) ?_ ?_
       rotate_left
       ·
        intro w'
        go_simp
        with_reducible rfl
       rotate_left
       ·
        simp only [Act.put, List.setIfInBounds_toArray, List.set_cons_zero, List.set_cons_succ, i64_w, i32_w]
        rfl
       refine take_ (i := 4) (N := some 15) (v := ?_) (a' := ?_) #[true, true, true, true, true, false, false, false, false, false, false, false, false, false, false, false, false, false, false] rfl rfl (take_ofW HT_.out HW_.out (by kernel_rfl)) (fun _ _ _ h => h) (Or.inl ⟨by rfl, ?_⟩) hHeld ?_ ?_
       rotate_left
       ·
        rintro w' ⟨s0, s1, s2, s3, s4, s5, s6, s7⟩
        go_simp
        with_reducible rfl
       rotate_left
       ·
        simp only [Act.put, List.setIfInBounds_toArray, List.set_cons_zero, List.set_cons_succ, i64_w, i32_w]
        rfl
       refine one_ (i := 5) (N := some 16) #[true, true, true, true, true, true, false, false, false, false, false, false, false, false, false, false, false, false, false] rfl rfl (one_of HT_.out (by kernel_rfl)) (by decide) (fun K hK => ?_)
       refine goes_ Tryd.func46 (by kernel_rfl) rfl #[.agg #[.slice ql ((rd_T27 l0_1 qa).f0).length c117_0, .int .i64 ((rd_T27 l0_1 qa).f1), .bool ((rd_T27 l0_1 qa).f2)]] (by rfl) rfl rfl (by (try simp only [List.map_toArray, List.map_cons, List.map_nil]); first | done | rfl | (simp only [List.length_drop, List.length_take]; rfl)) ?_
       with_reducible refine (spec_IsAtom.calls k1 _ _ ((rd_T27 l0_1 qa).f0) ((rd_T27 l0_1 qa).f1) ((rd_T27 l0_1 qa).f2) true _ ?side1 ?side2 A5.out).mono ?_
       (case side1 => exact cb_ qk HB)
       (case side2 => exact qm.out)
       rintro e qX ⟨rfl, hb⟩
       refine ⟨_, rfl, ?_⟩
       replace qb := kB_ qb hb; replace HB := bS_ HB hb; (try clear hb); (try clear hb2); (try clear hk); (try clear hi)
       refine hK.out _ _ ⟨bc_ qb 0, bc_ qb 1, ((HB.out.cell (World.block_lt_of_cell? w _ hw117_0)).trans hw117_0), ((HB.out.cell (World.block_lt_of_cell? w _ hw117_1)).trans hw117_1), ((HB.out.cell (World.block_lt_of_cell? w _ hw117_2)).trans hw117_2), ((HB.out.cell (World.block_lt_of_cell? w _ hw119_0)).trans hw119_0), ((HB.out.cell (World.block_lt_of_cell? w _ hw119_1)).trans hw119_1), ((HB.out.cell (World.block_lt_of_cell? w _ hw119_2)).trans hw119_2)⟩ (fun hHeld => ?_)
       clear hK K
       refine norm_ (a' := ?_) ?_ ?_
       rotate_left
       ·
        show Act.put _ (some 16) _ = _
        simp only [Act.put, List.setIfInBounds_toArray, List.set_cons_zero, List.set_cons_succ, i64_w, i32_w]
        rfl
       refine pure_ (i := 6) (N := some 17) (v := ?_) (a' := ?_) #[true, true, true, true, true, true, true, false, false, false, false, false, false, false, false, false, false, false, false] rfl rfl (any_of HT_.out (by kernel_rfl)) (fun _ _ _ h => h) (Or.inl ⟨by rfl, ?_⟩) ?_ ?_
       rotate_left
       ·
        intro w'
        go_simp
        with_reducible rfl
       rotate_left
       ·
        simp only [Act.put, List.setIfInBounds_toArray, List.set_cons_zero, List.set_cons_succ, i64_w, i32_w]
        rfl
       refine pure_ (i := 7) (N := some 18) (v := ?_) (a' := ?_) #[true, true, true, true, true, true, true, true, false, false, false, false, false, false, false, false, false, false, false] rfl rfl (any_of HT_.out (by kernel_rfl)) (fun _ _ _ h => h) (Or.inl ⟨by rfl, ?_⟩) ?_ ?_
       rotate_left
       ·
        intro w'
        go_simp
        with_reducible rfl
       rotate_left
       ·
        simp only [Act.put, List.setIfInBounds_toArray, List.set_cons_zero, List.set_cons_succ, i64_w, i32_w]
        rfl
       refine pure_ (i := 8) (N := some 19) (v := ?_) (a' := ?_) #[true, true, true, true, true, true, true, true, true, false, false, false, false, false, false, false, false, false, false] rfl rfl (any_of HT_.out (by kernel_rfl)) (fun _ _ _ h => h) (Or.inl ⟨by rfl, ?_⟩) ?_ ?_
       rotate_left
       ·
        intro w'
        go_simp
        with_reducible rfl
       rotate_left
       ·
        simp only [Act.put, List.setIfInBounds_toArray, List.set_cons_zero, List.set_cons_succ, i64_w, i32_w]
        rfl
       refine pure_ (i := 10) (N := some 21) (v := ?_) (a' := ?_) #[true, true, true, true, true, true, true, true, true, false, true, false, false, false, false, false, false, false, false] rfl rfl (any_of HT_.out (by kernel_rfl)) (fun _ _ _ h => h) (Or.inl ⟨by rfl, ?_⟩) ?_ ?_
       rotate_left
       ·
        intro w'
        go_simp
        with_reducible rfl
       rotate_left
       ·
        simp only [Act.put, List.setIfInBounds_toArray, List.set_cons_zero, List.set_cons_succ, i64_w, i32_w]
        rfl
       refine pure_ (i := 15) (N := some 26) (v := ?_) (a' := ?_) #[true, true, true, true, true, true, true, true, true, false, true, false, false, false, false, true, false, false, false] rfl rfl (any_of HT_.out (by kernel_rfl)) (fun _ _ _ h => h) (Or.inl ⟨by rfl, ?_⟩) ?_ ?_
       rotate_left
       ·
        intro w'
        go_simp
        with_reducible rfl
       rotate_left
       ·
        simp only [Act.put, List.setIfInBounds_toArray, List.set_cons_zero, List.set_cons_succ, i64_w, i32_w]
        rfl
       refine take_ (i := 9) (N := some 20) (v := ?_) (a' := ?_) #[true, true, true, true, true, true, true, true, true, true, true, false, false, false, false, true, false, false, false] rfl rfl (take_ofW HT_.out HW_.out (by kernel_rfl)) (fun _ _ _ h => h) (Or.inl ⟨by rfl, ?_⟩) hHeld ?_ ?_
       rotate_left
       ·
        rintro w' ⟨s0, s1, s2, s3, s4, s5, s6, s7⟩
        go_simp
        with_reducible rfl
       rotate_left
       ·
        simp only [Act.put, List.setIfInBounds_toArray, List.set_cons_zero, List.set_cons_succ, i64_w, i32_w]
        rfl
       refine pure_ (i := 11) (N := some 22) (v := ?_) (a' := ?_) #[true, true, true, true, true, true, true, true, true, true, true, true, false, false, false, true, false, false, false] rfl rfl (any_of HT_.out (by kernel_rfl)) (fun _ _ _ h => h) (Or.inl ⟨by rfl, ?_⟩) ?_ ?_
       rotate_left
       ·
        intro w'
        go_simp
        with_reducible rfl
       rotate_left
       ·
        simp only [Act.put, List.setIfInBounds_toArray, List.set_cons_zero, List.set_cons_succ, i64_w, i32_w]
        rfl
       refine pure_ (i := 12) (N := some 23) (v := ?_) (a' := ?_) #[true, true, true, true, true, true, true, true, true, true, true, true, true, false, false, true, false, false, false] rfl rfl (any_of HT_.out (by kernel_rfl)) (fun _ _ _ h => h) (Or.inl ⟨by rfl, ?_⟩) ?_ ?_
       rotate_left
       ·
        intro w'
        go_simp
        with_reducible rfl
       rotate_left
       ·
        simp only [Act.put, List.setIfInBounds_toArray, List.set_cons_zero, List.set_cons_succ, i64_w, i32_w]
        rfl
       refine take_ (i := 13) (N := some 24) (v := ?_) (a' := ?_) #[true, true, true, true, true, true, true, true, true, true, true, true, true, true, false, true, false, false, false] rfl rfl (take_ofW HT_.out HW_.out (by kernel_rfl)) (fun _ _ _ h => h) (Or.inl ⟨by rfl, ?_⟩) hHeld ?_ ?_
       rotate_left
       ·
        rintro w' ⟨s0, s1, s2, s3, s4, s5, s6, s7⟩
        go_simp
        with_reducible rfl
       rotate_left
       ·
        simp only [Act.put, List.setIfInBounds_toArray, List.set_cons_zero, List.set_cons_succ, i64_w, i32_w]
        rfl
       refine pure_ (i := 14) (N := some 25) (v := ?_) (a' := ?_) #[true, true, true, true, true, true, true, true, true, true, true, true, true, true, true, true, false, false, false] rfl rfl (any_of HT_.out (by kernel_rfl)) (fun _ _ _ h => h) (Or.inl ⟨by rfl, ?_⟩) ?_ ?_
       rotate_left
       ·
        intro w'
        go_simp
        with_reducible rfl
       rotate_left
       ·
        simp only [Act.put, List.setIfInBounds_toArray, List.set_cons_zero, List.set_cons_succ, i64_w, i32_w]
        rfl
       refine take_ (i := 16) (N := some 27) (v := ?_) (a' := ?_) #[true, true, true, true, true, true, true, true, true, true, true, true, true, true, true, true, true, false, false] rfl rfl (take_ofW HT_.out HW_.out (by kernel_rfl)) (fun _ _ _ h => h) (Or.inl ⟨by rfl, ?_⟩) hHeld ?_ ?_
       rotate_left
       ·
        rintro w' ⟨s0, s1, s2, s3, s4, s5, s6, s7⟩
        go_simp
        with_reducible rfl
       rotate_left
       ·
        simp only [Act.put, List.setIfInBounds_toArray, List.set_cons_zero, List.set_cons_succ, i64_w, i32_w]
        rfl
       refine pure_ (i := 17) (N := some 28) (v := ?_) (a' := ?_) #[true, true, true, true, true, true, true, true, true, true, true, true, true, true, true, true, true, true, false] rfl rfl (any_of HT_.out (by kernel_rfl)) (fun _ _ _ h => h) (Or.inl ⟨by rfl, ?_⟩) ?_ ?_
       rotate_left
       ·
        intro w'
        go_simp
        with_reducible rfl
       rotate_left
       ·
        simp only [Act.put, List.setIfInBounds_toArray, List.set_cons_zero, List.set_cons_succ, i64_w, i32_w]
        rfl
       refine pure_ (i := 18) (N := some 29) (v := ?_) (a' := ?_) #[true, true, true, true, true, true, true, true, true, true, true, true, true, true, true, true, true, true, true] rfl rfl (any_of HT_.out (by kernel_rfl)) (fun _ _ _ h => h) (Or.inl ⟨by rfl, ?_⟩) ?_ ?_
       rotate_left
       ·
        intro w'
        go_simp
        with_reducible rfl
       rotate_left
       ·
        simp only [Act.put, List.setIfInBounds_toArray, List.set_cons_zero, List.set_cons_succ, i64_w, i32_w]
        rfl
       refine done_ (done_of HT_.out (by kernel_rfl)) ?_
       try go_wp2
       go_ret
       exact ⟨by first | rfl | (simp [errW_none, errW_some] <;> rfl) | (simp [*, errW_none, errW_some] <;> rfl), bb_ HB⟩
     ·
      replace c6 := Bool.eq_false_iff.mpr c6
      subst c6
      have H1 : (some false) = some r := by rw [if_neg (show ¬ (false = true) by decide)] at H; exact H
      clear H
      have H := H1
      clear H1
      obtain rfl := Option.some.inj H
      have qy : wr.cell? ⟨qg, 0, none⟩ = some (.int .i64 a0_0) := bc_ qb 0
      have qz : wr.cell? ⟨qg, 1, none⟩ = some (.slice A0_1 l0_1.length c0_1) := bc_ qb 1
      have qA := blk_frozen qb.out 0
      have qB := blk_frozen qb.out 1
      try go_wp2
      replace qb := Aside0.mk (blk_drew qb.out); replace HB := Aside0.mk (below_drew1 HB.out)
      have p117 : 0 ≤ (qa : Int) := of_decide_eq_true (by first | (with_reducible assumption) | assumption)
      have q117 : qa < (l0_1.length : Int) := of_decide_eq_true (by first | (with_reducible assumption) | assumption)
      obtain ⟨qc, ql, c117_0, e117, qd, qe, qf, hl117_0, hi117_0⟩ := at_T27 qo.out qa p117 q117
      have hw117_2 := qf
      have hw117_1 := qe
      have hw117_0 := qd
      cases e117
      replace qd := (HB.out.cell (World.block_lt_of_cell? w _ qd)).trans qd
      replace qe := (HB.out.cell (World.block_lt_of_cell? w _ qe)).trans qe
      replace qf := (HB.out.cell (World.block_lt_of_cell? w _ qf)).trans qf
      have qk := Aside0.mk hi117_0
      have qm := Aside0.mk hl117_0
      clear hi117_0 hl117_0
      replace p117 := eq_true p117
      replace q117 := eq_true q117
      refine start_ (n := 19) (S := fun w' => w'.cell? ⟨qg, 0, none⟩ = some (.int .i64 a0_0) ∧ w'.cell? ⟨qg, 1, none⟩ = some (.slice (some qc) l0_1.length c0_1) ∧ w'.cell? (qc.add ((qa).toNat * 3)) = some (.slice ql ((rd_T27 l0_1 qa).f0).length c117_0) ∧ w'.cell? ⟨(qc.add ((qa).toNat * 3)).block, (qc.add ((qa).toNat * 3)).off + 1, none⟩ = some (.int .i64 ((rd_T27 l0_1 qa).f1)) ∧ w'.cell? ⟨(qc.add ((qa).toNat * 3)).block, (qc.add ((qa).toNat * 3)).off + 2, none⟩ = some (.bool ((rd_T27 l0_1 qa).f2))) (ds := []) #[false, false, false, false, false, false, false, false, false, false, false, false, false, false, false, false, false, false, false] (by kernel_rfl) rfl rfl ⟨bc_ qb 0, bc_ qb 1, ((HB.out.cell (World.block_lt_of_cell? w _ hw117_0)).trans hw117_0), ((HB.out.cell (World.block_lt_of_cell? w _ hw117_1)).trans hw117_1), ((HB.out.cell (World.block_lt_of_cell? w _ hw117_2)).trans hw117_2)⟩ (fun hHeld => ?_); refine with_tabW spec_IsCell.tab4 spec_IsCell.bits4 (fun HT_ HW_ => ?_)
      generalize wr.drew = qY at qb HB qk qd qe qf hHeld ⊢
      refine pure_ (i := 0) (N := some 11) (v := ?_) (a' := ?_) #[true, false, false, false, false, false, false, false, false, false, false, false, false, false, false, false, false, false, false] rfl rfl (any_of HT_.out (by kernel_rfl)) (fun _ _ _ h => h) (Or.inl ⟨by rfl, ?_⟩) ?_ ?_
      rotate_left
      ·
       intro w'
       go_simp
       with_reducible rfl
      rotate_left
      ·
       simp only [Act.put, List.setIfInBounds_toArray, List.set_cons_zero, List.set_cons_succ, i64_w, i32_w]
       rfl
      refine pure_ (i := 2) (N := some 13) (v := ?_) (a' := ?_) #[true, false, true, false, false, false, false, false, false, false, false, false, false, false, false, false, false, false, false] rfl rfl (any_of HT_.out (by kernel_rfl)) (fun _ _ _ h => h) (Or.inl ⟨by rfl, ?_⟩) ?_ ?_
      rotate_left
      ·
       intro w'
       go_simp
       with_reducible rfl
      rotate_left
      ·
       simp only [Act.put, List.setIfInBounds_toArray, List.set_cons_zero, List.set_cons_succ, i64_w, i32_w]
       rfl
      refine take_ (i := 1) (N := some 12) (v := ?_) (a' := ?_) #[true, true, true, false, false, false, false, false, false, false, false, false, false, false, false, false, false, false, false] rfl rfl (take_ofW HT_.out HW_.out (by kernel_rfl)) (fun _ _ _ h => h) (Or.inl ⟨by rfl, ?_⟩) hHeld ?_ ?_
      rotate_left
      ·
       rintro w' ⟨s0, s1, s2, s3, s4⟩
       go_simp
       with_reducible rfl
      rotate_left
      ·
       simp only [Act.put, List.setIfInBounds_toArray, List.set_cons_zero, List.set_cons_succ, i64_w, i32_w]
       rfl
      refine pure_ (i := 3) (N := some 14) (v := ?_) (a' := ?_) #[true, true, true, true, false, false, false, false, false, false, false, false, false, false, false, false, false, false, false] rfl rfl (any_of HT_.out (by kernel_rfl)) (fun _ _ _ h => h) (Or.inl ⟨by rfl, ?_⟩) ?_ ?_
      rotate_left
      ·
       intro w'
       go_simp
       with_reducible rfl
      rotate_left
      ·
       simp only [Act.put, List.setIfInBounds_toArray, List.set_cons_zero, List.set_cons_succ, i64_w, i32_w]
       rfl
      refine take_ (i := 4) (N := some 15) (v := ?_) (a' := ?_) #[true, true, true, true, true, false, false, false, false, false, false, false, false, false, false, false, false, false, false] rfl rfl (take_ofW HT_.out HW_.out (by kernel_rfl)) (fun _ _ _ h => h) (Or.inl ⟨by rfl, ?_⟩) hHeld ?_ ?_
      rotate_left
      ·
       rintro w' ⟨s0, s1, s2, s3, s4⟩
       go_simp
       with_reducible rfl
      rotate_left
      ·
       simp only [Act.put, List.setIfInBounds_toArray, List.set_cons_zero, List.set_cons_succ, i64_w, i32_w]
       rfl
      refine one_ (i := 5) (N := some 16) #[true, true, true, true, true, true, false, false, false, false, false, false, false, false, false, false, false, false, false] rfl rfl (one_of HT_.out (by kernel_rfl)) (by decide) (fun K hK => ?_)
      refine goes_ Tryd.func46 (by kernel_rfl) rfl #[.agg #[.slice ql ((rd_T27 l0_1 qa).f0).length c117_0, .int .i64 ((rd_T27 l0_1 qa).f1), .bool ((rd_T27 l0_1 qa).f2)]] (by rfl) rfl rfl (by (try simp only [List.map_toArray, List.map_cons, List.map_nil]); first | done | rfl | (simp only [List.length_drop, List.length_take]; rfl)) ?_
      with_reducible refine (spec_IsAtom.calls k1 _ _ ((rd_T27 l0_1 qa).f0) ((rd_T27 l0_1 qa).f1) ((rd_T27 l0_1 qa).f2) false _ ?side1 ?side2 A5.out).mono ?_
      (case side1 => exact cb_ qk HB)
      (case side2 => exact qm.out)
      rintro e qZ ⟨rfl, hb⟩
      refine ⟨_, rfl, ?_⟩
      replace qb := kB_ qb hb; replace HB := bS_ HB hb; (try clear hb); (try clear hb2); (try clear hk); (try clear hi)
      refine hK.out _ _ ⟨bc_ qb 0, bc_ qb 1, ((HB.out.cell (World.block_lt_of_cell? w _ hw117_0)).trans hw117_0), ((HB.out.cell (World.block_lt_of_cell? w _ hw117_1)).trans hw117_1), ((HB.out.cell (World.block_lt_of_cell? w _ hw117_2)).trans hw117_2)⟩ (fun hHeld => ?_)
      clear hK K
      refine norm_ (a' := ?_) ?_ ?_
      rotate_left
      ·
       show Act.put _ (some 16) _ = _
       simp only [Act.put, List.setIfInBounds_toArray, List.set_cons_zero, List.set_cons_succ, i64_w, i32_w]
       rfl
      refine pure_ (i := 6) (N := some 17) (v := ?_) (a' := ?_) #[true, true, true, true, true, true, true, false, false, false, false, false, false, false, false, false, false, false, false] rfl rfl (any_of HT_.out (by kernel_rfl)) (fun _ _ _ h => h) (Or.inl ⟨by rfl, ?_⟩) ?_ ?_
      rotate_left
      ·
       intro w'
       go_simp
       with_reducible rfl
      rotate_left
      ·
       simp only [Act.put, List.setIfInBounds_toArray, List.set_cons_zero, List.set_cons_succ, i64_w, i32_w]
       rfl
      refine pure_ (i := 7) (N := some 18) (v := ?_) (a' := ?_) #[true, true, true, true, true, true, true, true, false, false, false, false, false, false, false, false, false, false, false] rfl rfl (any_of HT_.out (by kernel_rfl)) (fun _ _ _ h => h) (Or.inl ⟨by rfl, ?_⟩) ?_ ?_
      rotate_left
      ·
       intro w'
       go_simp
       with_reducible rfl
      rotate_left
      ·
       simp only [Act.put, List.setIfInBounds_toArray, List.set_cons_zero, List.set_cons_succ, i64_w, i32_w]
       rfl
      refine pure_ (i := 8) (N := some 19) (v := undef) (a' := ?_) #[true, true, true, true, true, true, true, true, true, false, false, false, false, false, false, false, false, false, false] rfl rfl (any_of HT_.out (by kernel_rfl)) (fun _ _ _ h => h) (Or.inr ⟨by rfl, rfl⟩) ?_ ?_
      rotate_left
      ·
       simp only [Act.put, List.setIfInBounds_toArray, List.set_cons_zero, List.set_cons_succ, i64_w, i32_w]
       rfl
      refine pure_ (i := 9) (N := some 20) (v := undef) (a' := ?_) #[true, true, true, true, true, true, true, true, true, true, false, false, false, false, false, false, false, false, false] rfl rfl (any_of HT_.out (by kernel_rfl)) (fun _ _ _ h => h) (Or.inr ⟨by rfl, rfl⟩) ?_ ?_
      rotate_left
      ·
       simp only [Act.put, List.setIfInBounds_toArray, List.set_cons_zero, List.set_cons_succ, i64_w, i32_w]
       rfl
      refine pure_ (i := 10) (N := some 21) (v := undef) (a' := ?_) #[true, true, true, true, true, true, true, true, true, true, true, false, false, false, false, false, false, false, false] rfl rfl (any_of HT_.out (by kernel_rfl)) (fun _ _ _ h => h) (Or.inr ⟨by rfl, rfl⟩) ?_ ?_
      rotate_left
      ·
       simp only [Act.put, List.setIfInBounds_toArray, List.set_cons_zero, List.set_cons_succ, i64_w, i32_w]
       rfl
      refine pure_ (i := 11) (N := some 22) (v := undef) (a' := ?_) #[true, true, true, true, true, true, true, true, true, true, true, true, false, false, false, false, false, false, false] rfl rfl (any_of HT_.out (by kernel_rfl)) (fun _ _ _ h => h) (Or.inr ⟨by rfl, rfl⟩) ?_ ?_
      rotate_left
      ·
       simp only [Act.put, List.setIfInBounds_toArray, List.set_cons_zero, List.set_cons_succ, i64_w, i32_w]
       rfl
      refine pure_ (i := 12) (N := some 23) (v := undef) (a' := ?_) #[true, true, true, true, true, true, true, true, true, true, true, true, true, false, false, false, false, false, false] rfl rfl (any_of HT_.out (by kernel_rfl)) (fun _ _ _ h => h) (Or.inr ⟨by rfl, rfl⟩) ?_ ?_
      rotate_left
      ·
       simp only [Act.put, List.setIfInBounds_toArray, List.set_cons_zero, List.set_cons_succ, i64_w, i32_w]
       rfl
      refine pure_ (i := 13) (N := some 24) (v := undef) (a' := ?_) #[true, true, true, true, true, true, true, true, true, true, true, true, true, true, false, false, false, false, false] rfl rfl (any_of HT_.out (by kernel_rfl)) (fun _ _ _ h => h) (Or.inr ⟨by rfl, rfl⟩) ?_ ?_
      rotate_left
      ·
       simp only [Act.put, List.setIfInBounds_toArray, List.set_cons_zero, List.set_cons_succ, i64_w, i32_w]
       rfl
      refine pure_ (i := 14) (N := some 25) (v := undef) (a' := ?_) #[true, true, true, true, true, true, true, true, true, true, true, true, true, true, true, false, false, false, false] rfl rfl (any_of HT_.out (by kernel_rfl)) (fun _ _ _ h => h) (Or.inr ⟨by rfl, rfl⟩) ?_ ?_
      rotate_left
      ·
       simp only [Act.put, List.setIfInBounds_toArray, List.set_cons_zero, List.set_cons_succ, i64_w, i32_w]
       rfl
      refine pure_ (i := 15) (N := some 26) (v := undef) (a' := ?_) #[true, true, true, true, true, true, true, true, true, true, true, true, true, true, true, true, false, false, false] rfl rfl (any_of HT_.out (by kernel_rfl)) (fun _ _ _ h => h) (Or.inr ⟨by rfl, rfl⟩) ?_ ?_
      rotate_left
      ·
       simp only [Act.put, List.setIfInBounds_toArray, List.set_cons_zero, List.set_cons_succ, i64_w, i32_w]
       rfl
      refine pure_ (i := 16) (N := some 27) (v := undef) (a' := ?_) #[true, true, true, true, true, true, true, true, true, true, true, true, true, true, true, true, true, false, false] rfl rfl (any_of HT_.out (by kernel_rfl)) (fun _ _ _ h => h) (Or.inr ⟨by rfl, rfl⟩) ?_ ?_
      rotate_left
      ·
       simp only [Act.put, List.setIfInBounds_toArray, List.set_cons_zero, List.set_cons_succ, i64_w, i32_w]
       rfl
      refine pure_ (i := 17) (N := some 28) (v := undef) (a' := ?_) #[true, true, true, true, true, true, true, true, true, true, true, true, true, true, true, true, true, true, false] rfl rfl (any_of HT_.out (by kernel_rfl)) (fun _ _ _ h => h) (Or.inr ⟨by rfl, rfl⟩) ?_ ?_
      rotate_left
      ·
       simp only [Act.put, List.setIfInBounds_toArray, List.set_cons_zero, List.set_cons_succ, i64_w, i32_w]
       rfl
      refine pure_ (i := 18) (N := some 29) (v := ?_) (a' := ?_) #[true, true, true, true, true, true, true, true, true, true, true, true, true, true, true, true, true, true, true] rfl rfl (any_of HT_.out (by kernel_rfl)) (fun _ _ _ h => h) (Or.inl ⟨by rfl, ?_⟩) ?_ ?_
      rotate_left
      ·
       intro w'
       go_simp
       with_reducible rfl
      rotate_left
      ·
       simp only [Act.put, List.setIfInBounds_toArray, List.set_cons_zero, List.set_cons_succ, i64_w, i32_w]
       rfl
      refine done_ (done_of HT_.out (by kernel_rfl)) ?_
      try go_wp2
      go_ret
      exact ⟨by first | rfl | (simp [errW_none, errW_some] <;> rfl) | (simp [*, errW_none, errW_some] <;> rfl), bb_ HB⟩
    ·
     rw [if_neg c4] at H
     exact absurd H (by simp)
   ·
    rw [if_neg c3] at H
    have qK : decide (qa < (l0_1.length : Int)) = false := decide_eq_false c3
    clear c3
    replace H := Option.bind_eq_some_iff.mp H
    obtain ⟨qs, A170, H⟩ := H
    replace H : (if qs = true then (some (decide ((l0_1.length : Int) ≤ 16))) else (some false)) = some r := H
    have A17 := Aside0.mk A170
    clear A170
    by_cases c18 : qs = true
    ·
     subst c18
     have H1 : (some (decide ((l0_1.length : Int) ≤ 16))) = some r := by rw [if_pos rfl] at H; exact H
     clear H
     have H := H1
     clear H1
     obtain rfl := Option.some.inj H
     have qC : wr.cell? ⟨qg, 0, none⟩ = some (.int .i64 a0_0) := bc_ qb 0
     have qD : wr.cell? ⟨qg, 1, none⟩ = some (.slice A0_1 l0_1.length c0_1) := bc_ qb 1
     have qE := blk_frozen qb.out 0
     have qF := blk_frozen qb.out 1
     go_wp2_with (first | ((with_reducible refine gate_callee (f := 80) rfl ?_); refine goesL_ (some 32) rfl rfl Tryd.func80 (by kernel_rfl) rfl #[.int .i64 a0_0, .int .i64 0, .int .i64 4] rfl (by (try simp only [List.map_toArray, List.map_cons, List.map_nil]); first | done | rfl | (simp only [List.length_drop, List.length_take]; rfl)) ?_; (with_reducible refine (spec_l1In.calls a0_0 0 4 true _ A17.out).mono ?_); rintro e w' ⟨rfl, ⟨nd, rfl⟩⟩; refine ⟨_, rfl, ?_⟩))
     go_ret
     exact ⟨by first | rfl | (simp [errW_none, errW_some] <;> rfl) | (simp [*, errW_none, errW_some] <;> rfl), bb_ HB⟩
    ·
     replace c18 := Bool.eq_false_iff.mpr c18
     subst c18
     have H1 : (some false) = some r := by rw [if_neg (show ¬ (false = true) by decide)] at H; exact H
     clear H
     have H := H1
     clear H1
     obtain rfl := Option.some.inj H
     have qG : wr.cell? ⟨qg, 0, none⟩ = some (.int .i64 a0_0) := bc_ qb 0
     have qH : wr.cell? ⟨qg, 1, none⟩ = some (.slice A0_1 l0_1.length c0_1) := bc_ qb 1
     have qI := blk_frozen qb.out 0
     have qJ := blk_frozen qb.out 1
     go_wp2_with (first | ((with_reducible refine gate_callee (f := 80) rfl ?_); refine goesL_ (some 32) rfl rfl Tryd.func80 (by kernel_rfl) rfl #[.int .i64 a0_0, .int .i64 0, .int .i64 4] rfl (by (try simp only [List.map_toArray, List.map_cons, List.map_nil]); first | done | rfl | (simp only [List.length_drop, List.length_take]; rfl)) ?_; (with_reducible refine (spec_l1In.calls a0_0 0 4 false _ A17.out).mono ?_); rintro e w' ⟨rfl, ⟨nd, rfl⟩⟩; refine ⟨_, rfl, ?_⟩))
     go_ret
     exact ⟨by first | rfl | (simp [errW_none, errW_some] <;> rfl) | (simp [*, errW_none, errW_some] <;> rfl), bb_ HB⟩

/-! ### spec_FormatAtom: function 12 -/
mutual
def spec_FormatAtom.l0 : Nat → ByteArray → Int → List Int → Int → Bool → Option (ByteArray)
 | 0, _, _, _, _, _ => none
 | k + 1, x3, x4, x122000, x122001, x122002 => if x4 < (x122000.length : Int) then (if 0 ≤ x4 then (if (rd x122000 x4) = 0 then (spec_FormatAtom.l0 k x3 (wrap64 (x4 + 1)) x122000 x122001 x122002) else (if (rd x122000 x4) > 0 then (spec_FormatAtom.j1 k x3 x4 (rd x122000 x4) (x3.toList != ([] : List UInt8)) x122000 x122001 x122002) else (spec_FormatAtom.j1 k x3 x4 (rd x122000 x4) false x122000 x122001 x122002))) else (none)) else (if x122001 > 0 then (spec_FormatAtom.j3 k x3 (x3.toList != ([] : List UInt8)) x122000 x122001 x122002) else (spec_FormatAtom.j3 k x3 false x122000 x122001 x122002))
def spec_FormatAtom.j1 : Nat → ByteArray → Int → Int → Bool → List Int → Int → Bool → Option (ByteArray)
 | 0, _, _, _, _, _, _, _ => none
 | k + 1, x3, x4, x5, x28, x122000, x122001, x122002 => if x28 = true then (if x3.size + 1 ≤ 9223372036854775807 then (spec_FormatAtom.j2 k (x3 ++ (⟨#[43]⟩ : ByteArray)) x4 x5 x122000 x122001 x122002) else (none)) else (spec_FormatAtom.j2 k x3 x4 x5 x122000 x122001 x122002)
def spec_FormatAtom.j2 : Nat → ByteArray → Int → Int → List Int → Int → Bool → Option (ByteArray)
 | 0, _, _, _, _, _, _ => none
 | k + 1, x3, x4, x5, x122000, x122001, x122002 => if x5 = (-1) then (if x3.size + 1 ≤ 9223372036854775807 then (if 0 ≤ x4 then (if x4 ≤ (wrap64 (x4 + 1)) then (if (wrap64 (x4 + 1)) ≤ 4 then (if (x3 ++ (⟨#[45]⟩ : ByteArray)).size + ((⟨#[120, 121, 122, 116]⟩ : ByteArray).extract (x4 : Int).toNat ((wrap64 (x4 + 1)) : Int).toNat).size ≤ 9223372036854775807 then (spec_FormatAtom.l0 k ((x3 ++ (⟨#[45]⟩ : ByteArray)) ++ ((⟨#[120, 121, 122, 116]⟩ : ByteArray).extract (x4 : Int).toNat ((wrap64 (x4 + 1)) : Int).toNat)) (wrap64 (x4 + 1)) x122000 x122001 x122002) else (none)) else (none)) else (none)) else (none)) else (none)) else (if x5 = 1 then (if 0 ≤ x4 then (if x4 ≤ (wrap64 (x4 + 1)) then (if (wrap64 (x4 + 1)) ≤ 4 then (if x3.size + ((⟨#[120, 121, 122, 116]⟩ : ByteArray).extract (x4 : Int).toNat ((wrap64 (x4 + 1)) : Int).toNat).size ≤ 9223372036854775807 then (spec_FormatAtom.l0 k (x3 ++ ((⟨#[120, 121, 122, 116]⟩ : ByteArray).extract (x4 : Int).toNat ((wrap64 (x4 + 1)) : Int).toNat)) (wrap64 (x4 + 1)) x122000 x122001 x122002) else (none)) else (none)) else (none)) else (none)) else ((spec_FormatInt.f k x5).bind fun qj => (if x3.size + qj.size ≤ 9223372036854775807 then (if 0 ≤ x4 then (if x4 ≤ (wrap64 (x4 + 1)) then (if (wrap64 (x4 + 1)) ≤ 4 then (if (x3 ++ qj).size + ((⟨#[120, 121, 122, 116]⟩ : ByteArray).extract (x4 : Int).toNat ((wrap64 (x4 + 1)) : Int).toNat).size ≤ 9223372036854775807 then (spec_FormatAtom.l0 k ((x3 ++ qj) ++ ((⟨#[120, 121, 122, 116]⟩ : ByteArray).extract (x4 : Int).toNat ((wrap64 (x4 + 1)) : Int).toNat)) (wrap64 (x4 + 1)) x122000 x122001 x122002) else (none)) else (none)) else (none)) else (none)) else (none))))
def spec_FormatAtom.j3 : Nat → ByteArray → Bool → List Int → Int → Bool → Option (ByteArray)
 | 0, _, _, _, _, _ => none
 | k + 1, x3, x53, x122000, x122001, x122002 => if x53 = true then (if x3.size + 1 ≤ 9223372036854775807 then (spec_FormatAtom.j4 k (x3 ++ (⟨#[43]⟩ : ByteArray)) x122000 x122001 x122002) else (none)) else (spec_FormatAtom.j4 k x3 x122000 x122001 x122002)
def spec_FormatAtom.j4 : Nat → ByteArray → List Int → Int → Bool → Option (ByteArray)
 | 0, _, _, _, _ => none
 | k + 1, x3, x122000, x122001, x122002 => if x122001 = 0 then (spec_FormatAtom.j5 k x3 (x3.toList == ([] : List UInt8)) x122000 x122001 x122002) else (spec_FormatAtom.j5 k x3 true x122000 x122001 x122002)
def spec_FormatAtom.j5 : Nat → ByteArray → Bool → List Int → Int → Bool → Option (ByteArray)
 | 0, _, _, _, _, _ => none
 | k + 1, x3, x62, x122000, x122001, x122002 => if x62 = true then ((spec_FormatInt.f k x122001).bind fun qf => (if x3.size + qf.size ≤ 9223372036854775807 then (if x122002 = true then (if (x3 ++ qf).size + 2 ≤ 9223372036854775807 then (some ((x3 ++ qf) ++ (⟨#[60, 48]⟩ : ByteArray))) else (none)) else (if (x3 ++ qf).size + 3 ≤ 9223372036854775807 then (some ((x3 ++ qf) ++ (⟨#[60, 61, 48]⟩ : ByteArray))) else (none))) else (none))) else (if x122002 = true then (if x3.size + 2 ≤ 9223372036854775807 then (some (x3 ++ (⟨#[60, 48]⟩ : ByteArray))) else (none)) else (if x3.size + 3 ≤ 9223372036854775807 then (some (x3 ++ (⟨#[60, 61, 48]⟩ : ByteArray))) else (none)))
end
def spec_FormatAtom.f (k : Nat) (l0_0 : List Int) (a0_1 : Int) (a0_2 : Bool) : Option (ByteArray) := (spec_IsAtom.f k l0_0 a0_1 a0_2).bind fun za => (if za = true then (spec_FormatAtom.l0 k (⟨#[]⟩ : ByteArray) 0 l0_0 a0_1 a0_2) else (some (⟨#[]⟩ : ByteArray)))
theorem spec_FormatAtom.mono_l : ∀ k, (∀ y0 y1 y2 y3 y4, LeO (spec_FormatAtom.l0 k y0 y1 y2 y3 y4) (spec_FormatAtom.l0 (k + 1) y0 y1 y2 y3 y4)) ∧ (∀ y0 y1 y2 y3 y4 y5 y6, LeO (spec_FormatAtom.j1 k y0 y1 y2 y3 y4 y5 y6) (spec_FormatAtom.j1 (k + 1) y0 y1 y2 y3 y4 y5 y6)) ∧ (∀ y0 y1 y2 y3 y4 y5, LeO (spec_FormatAtom.j2 k y0 y1 y2 y3 y4 y5) (spec_FormatAtom.j2 (k + 1) y0 y1 y2 y3 y4 y5)) ∧ (∀ y0 y1 y2 y3 y4, LeO (spec_FormatAtom.j3 k y0 y1 y2 y3 y4) (spec_FormatAtom.j3 (k + 1) y0 y1 y2 y3 y4)) ∧ (∀ y0 y1 y2 y3, LeO (spec_FormatAtom.j4 k y0 y1 y2 y3) (spec_FormatAtom.j4 (k + 1) y0 y1 y2 y3)) ∧ (∀ y0 y1 y2 y3 y4, LeO (spec_FormatAtom.j5 k y0 y1 y2 y3 y4) (spec_FormatAtom.j5 (k + 1) y0 y1 y2 y3 y4))
 | 0 => ⟨fun _ _ _ _ _ r h => by simp [spec_FormatAtom.l0] at h, fun _ _ _ _ _ _ _ r h => by simp [spec_FormatAtom.j1] at h, fun _ _ _ _ _ _ r h => by simp [spec_FormatAtom.j2] at h, fun _ _ _ _ _ r h => by simp [spec_FormatAtom.j3] at h, fun _ _ _ _ r h => by simp [spec_FormatAtom.j4] at h, fun _ _ _ _ _ r h => by simp [spec_FormatAtom.j5] at h⟩
 | k + 1 => by
  obtain ⟨ih0, ih1, ih2, ih3, ih4, ih5⟩ := spec_FormatAtom.mono_l k
  refine ⟨?_, ?_, ?_, ?_, ?_, ?_⟩
  ·
   intro y0 y1 y2 y3 y4
   unfold spec_FormatAtom.l0
   repeat' first
   | (with_reducible exact ih0 _ _ _ _ _)
   | (with_reducible exact ih1 _ _ _ _ _ _ _)
   | (with_reducible exact ih2 _ _ _ _ _ _)
   | (with_reducible exact ih3 _ _ _ _ _)
   | (with_reducible exact ih4 _ _ _ _)
   | (with_reducible exact ih5 _ _ _ _ _)
   | (with_reducible exact spec_FormatInt.mono _ _)
   | (with_reducible exact spec_IsAtom.mono _ _ _ _)
   | (with_reducible exact LeO.refl _)
   | (with_reducible exact LeO.none _)
   | (with_reducible refine LeO.ite ?_ ?_)
   | (with_reducible refine LeO.bind ?_ (fun _ => ?_))
   | exact ih0 _ _ _ _ _
   | exact ih1 _ _ _ _ _ _ _
   | exact ih2 _ _ _ _ _ _
   | exact ih3 _ _ _ _ _
   | exact ih4 _ _ _ _
   | exact ih5 _ _ _ _ _
   | exact spec_FormatInt.mono _ _
   | exact spec_IsAtom.mono _ _ _ _
   | exact LeO.none _
   | refine LeO.ite ?_ ?_
   | refine LeO.bind ?_ (fun _ => ?_)
  ·
   intro y0 y1 y2 y3 y4 y5 y6
   unfold spec_FormatAtom.j1
   repeat' first
   | (with_reducible exact ih0 _ _ _ _ _)
   | (with_reducible exact ih1 _ _ _ _ _ _ _)
   | (with_reducible exact ih2 _ _ _ _ _ _)
   | (with_reducible exact ih3 _ _ _ _ _)
   | (with_reducible exact ih4 _ _ _ _)
   | (with_reducible exact ih5 _ _ _ _ _)
   | (with_reducible exact spec_FormatInt.mono _ _)
   | (with_reducible exact spec_IsAtom.mono _ _ _ _)
   | (with_reducible exact LeO.refl _)
   | (with_reducible exact LeO.none _)
   | (with_reducible refine LeO.ite ?_ ?_)
   | (with_reducible refine LeO.bind ?_ (fun _ => ?_))
   | exact ih0 _ _ _ _ _
   | exact ih1 _ _ _ _ _ _ _
   | exact ih2 _ _ _ _ _ _
   | exact ih3 _ _ _ _ _
   | exact ih4 _ _ _ _
   | exact ih5 _ _ _ _ _
   | exact spec_FormatInt.mono _ _
   | exact spec_IsAtom.mono _ _ _ _
   | exact LeO.none _
   | refine LeO.ite ?_ ?_
   | refine LeO.bind ?_ (fun _ => ?_)
  ·
   intro y0 y1 y2 y3 y4 y5
   unfold spec_FormatAtom.j2
   repeat' first
   | (with_reducible exact ih0 _ _ _ _ _)
   | (with_reducible exact ih1 _ _ _ _ _ _ _)
   | (with_reducible exact ih2 _ _ _ _ _ _)
   | (with_reducible exact ih3 _ _ _ _ _)
   | (with_reducible exact ih4 _ _ _ _)
   | (with_reducible exact ih5 _ _ _ _ _)
   | (with_reducible exact spec_FormatInt.mono _ _)
   | (with_reducible exact spec_IsAtom.mono _ _ _ _)
   | (with_reducible exact LeO.refl _)
   | (with_reducible exact LeO.none _)
   | (with_reducible refine LeO.ite ?_ ?_)
   | (with_reducible refine LeO.bind ?_ (fun _ => ?_))
   | exact ih0 _ _ _ _ _
   | exact ih1 _ _ _ _ _ _ _
   | exact ih2 _ _ _ _ _ _
   | exact ih3 _ _ _ _ _
   | exact ih4 _ _ _ _
   | exact ih5 _ _ _ _ _
   | exact spec_FormatInt.mono _ _
   | exact spec_IsAtom.mono _ _ _ _
   | exact LeO.none _
   | refine LeO.ite ?_ ?_
   | refine LeO.bind ?_ (fun _ => ?_)
  ·
   intro y0 y1 y2 y3 y4
   unfold spec_FormatAtom.j3
   repeat' first
   | (with_reducible exact ih0 _ _ _ _ _)
   | (with_reducible exact ih1 _ _ _ _ _ _ _)
   | (with_reducible exact ih2 _ _ _ _ _ _)
   | (with_reducible exact ih3 _ _ _ _ _)
   | (with_reducible exact ih4 _ _ _ _)
   | (with_reducible exact ih5 _ _ _ _ _)
   | (with_reducible exact spec_FormatInt.mono _ _)
   | (with_reducible exact spec_IsAtom.mono _ _ _ _)
   | (with_reducible exact LeO.refl _)
   | (with_reducible exact LeO.none _)
   | (with_reducible refine LeO.ite ?_ ?_)
   | (with_reducible refine LeO.bind ?_ (fun _ => ?_))
   | exact ih0 _ _ _ _ _
   | exact ih1 _ _ _ _ _ _ _
   | exact ih2 _ _ _ _ _ _
   | exact ih3 _ _ _ _ _
   | exact ih4 _ _ _ _
   | exact ih5 _ _ _ _ _
   | exact spec_FormatInt.mono _ _
   | exact spec_IsAtom.mono _ _ _ _
   | exact LeO.none _
   | refine LeO.ite ?_ ?_
   | refine LeO.bind ?_ (fun _ => ?_)
  ·
   intro y0 y1 y2 y3
   unfold spec_FormatAtom.j4
   repeat' first
   | (with_reducible exact ih0 _ _ _ _ _)
   | (with_reducible exact ih1 _ _ _ _ _ _ _)
   | (with_reducible exact ih2 _ _ _ _ _ _)
   | (with_reducible exact ih3 _ _ _ _ _)
   | (with_reducible exact ih4 _ _ _ _)
   | (with_reducible exact ih5 _ _ _ _ _)
   | (with_reducible exact spec_FormatInt.mono _ _)
   | (with_reducible exact spec_IsAtom.mono _ _ _ _)
   | (with_reducible exact LeO.refl _)
   | (with_reducible exact LeO.none _)
   | (with_reducible refine LeO.ite ?_ ?_)
   | (with_reducible refine LeO.bind ?_ (fun _ => ?_))
   | exact ih0 _ _ _ _ _
   | exact ih1 _ _ _ _ _ _ _
   | exact ih2 _ _ _ _ _ _
   | exact ih3 _ _ _ _ _
   | exact ih4 _ _ _ _
   | exact ih5 _ _ _ _ _
   | exact spec_FormatInt.mono _ _
   | exact spec_IsAtom.mono _ _ _ _
   | exact LeO.none _
   | refine LeO.ite ?_ ?_
   | refine LeO.bind ?_ (fun _ => ?_)
  ·
   intro y0 y1 y2 y3 y4
   unfold spec_FormatAtom.j5
   repeat' first
   | (with_reducible exact ih0 _ _ _ _ _)
   | (with_reducible exact ih1 _ _ _ _ _ _ _)
   | (with_reducible exact ih2 _ _ _ _ _ _)
   | (with_reducible exact ih3 _ _ _ _ _)
   | (with_reducible exact ih4 _ _ _ _)
   | (with_reducible exact ih5 _ _ _ _ _)
   | (with_reducible exact spec_FormatInt.mono _ _)
   | (with_reducible exact spec_IsAtom.mono _ _ _ _)
   | (with_reducible exact LeO.refl _)
   | (with_reducible exact LeO.none _)
   | (with_reducible refine LeO.ite ?_ ?_)
   | (with_reducible refine LeO.bind ?_ (fun _ => ?_))
   | exact ih0 _ _ _ _ _
   | exact ih1 _ _ _ _ _ _ _
   | exact ih2 _ _ _ _ _ _
   | exact ih3 _ _ _ _ _
   | exact ih4 _ _ _ _
   | exact ih5 _ _ _ _ _
   | exact spec_FormatInt.mono _ _
   | exact spec_IsAtom.mono _ _ _ _
   | exact LeO.none _
   | refine LeO.ite ?_ ?_
   | refine LeO.bind ?_ (fun _ => ?_)
theorem spec_FormatAtom.mono : ∀ a0 a1 a2 k, LeO (spec_FormatAtom.f k a0 a1 a2) (spec_FormatAtom.f (k + 1) a0 a1 a2) := by
 intro a0 a1 a2 k
 obtain ⟨ih0, ih1, ih2, ih3, ih4, ih5⟩ := spec_FormatAtom.mono_l k
 unfold spec_FormatAtom.f
 repeat' first
   | (with_reducible exact ih0 _ _ _ _ _)
   | (with_reducible exact ih1 _ _ _ _ _ _ _)
   | (with_reducible exact ih2 _ _ _ _ _ _)
   | (with_reducible exact ih3 _ _ _ _ _)
   | (with_reducible exact ih4 _ _ _ _)
   | (with_reducible exact ih5 _ _ _ _ _)
   | (with_reducible exact spec_FormatInt.mono _ _)
   | (with_reducible exact spec_IsAtom.mono _ _ _ _)
   | (with_reducible exact LeO.refl _)
   | (with_reducible exact LeO.none _)
   | (with_reducible refine LeO.ite ?_ ?_)
   | (with_reducible refine LeO.bind ?_ (fun _ => ?_))
   | exact ih0 _ _ _ _ _
   | exact ih1 _ _ _ _ _ _ _
   | exact ih2 _ _ _ _ _ _
   | exact ih3 _ _ _ _ _
   | exact ih4 _ _ _ _
   | exact ih5 _ _ _ _ _
   | exact spec_FormatInt.mono _ _
   | exact spec_IsAtom.mono _ _ _ _
   | exact LeO.none _
   | refine LeO.ite ?_ ?_
   | refine LeO.bind ?_ (fun _ => ?_)
set_option maxHeartbeats 8000000 in
set_option maxRecDepth 100000 in
theorem spec_FormatAtom.calls (k : Nat) (A0_0 : Option Addr) (c0_0 : Nat) (l0_0 : List Int) (a0_1 : Int) (a0_2 : Bool) (r : ByteArray) (w : World) (hr0_0 : Kd.C (Kd.int .i64) w A0_0 l0_0.length l0_0) (hc0_0 : l0_0.length ≤ c0_0) (h : spec_FormatAtom.f k l0_0 a0_1 a0_2 = some r) :
  Calls Tryd.prog 12 #[.agg #[.slice A0_0 l0_0.length c0_0, .int .i64 a0_1, .bool a0_2]] w fun e w' => e = .returned (.string r) ∧ Below w.heap.size w w' := by
 have hu27 := Tryd.underlying27
 have qZ := Aside0.mk hr0_0
 have zX := Aside0.mk hc0_0
 clear hr0_0 hc0_0
 have HB := Aside0.mk (Below.refl w.heap.size w)
 have H : ((spec_IsAtom.f k l0_0 a0_1 a0_2).bind fun za => (if za = true then (spec_FormatAtom.l0 k (⟨#[]⟩ : ByteArray) 0 l0_0 a0_1 a0_2) else (some (⟨#[]⟩ : ByteArray)))) = some r := h
 clear h
 replace H := Option.bind_eq_some_iff.mp H
 obtain ⟨za, A20, H⟩ := H
 replace H : (if za = true then (spec_FormatAtom.l0 k (⟨#[]⟩ : ByteArray) 0 l0_0 a0_1 a0_2) else (some (⟨#[]⟩ : ByteArray))) = some r := H
 have A2 := Aside0.mk A20
 clear A20
 by_cases c3 : za = true
 ·
  subst c3
  have H1 : (spec_FormatAtom.l0 k (⟨#[]⟩ : ByteArray) 0 l0_0 a0_1 a0_2) = some r := by rw [if_pos rfl] at H; exact H
  clear H
  have H := H1
  clear H1
  have H' := Aside0.mk H
  clear H
  go_enter Tryd.func12, Tryd.ntmps12
  go_wp2_with (first | ((with_reducible refine gate_dst (N := 1) rfl ?_); refine box_event ?hg (N := 1) ?hd (cs := #[.slice A0_0 l0_0.length c0_0, .int .i64 a0_1, .bool a0_2]) (t := 27) ?hr ?_; (case hd => rfl); (case hg => rfl); (case hr => first | (go_simp; done) | (go_simp; rfl)); intro qc hg w4 hbox hb; have qa := Aside0.mk (hbox); have z2 := Aside0.mk ((by rw [hg]; exact (bz_ HB) : w.heap.size ≤ qc)); have z3 := Aside0.mk ((by rw [hg]; exact (bz_ HB) : w.heap.size ≤ qc)); replace HB := bS_ HB hb; clear hb hbox hg; have qw : w4.cell? ⟨qc, 0, none⟩ = some (.slice A0_0 l0_0.length c0_0) := bc_ qa 0; have qx : w4.cell? ⟨qc, 1, none⟩ = some (.int .i64 a0_1) := bc_ qa 1; have qy : w4.cell? ⟨qc, 2, none⟩ = some (.bool a0_2) := bc_ qa 2; have qz := blk_frozen qa.out 0; have qA := blk_frozen qa.out 1; have qB := blk_frozen qa.out 2) | ((with_reducible refine gate_callee (f := 46) rfl ?_); refine goesL_ (some 7) rfl rfl Tryd.func46 (by kernel_rfl) rfl #[.agg #[.slice A0_0 l0_0.length c0_0, .int .i64 a0_1, .bool a0_2]] rfl (by (try simp only [List.map_toArray, List.map_cons, List.map_nil]); first | done | rfl | (simp only [List.length_drop, List.length_take]; rfl)) ?_; (with_reducible refine (spec_IsAtom.calls k _ _ l0_0 a0_1 a0_2 true _ ?side1 ?side2 A2.out).mono ?_); (case side1 => exact cb_ qZ HB); (case side2 => exact zX.out); rintro e w6 ⟨rfl, hb⟩; refine ⟨_, rfl, ?_⟩; replace qa := kB_ qa hb; replace HB := bS_ HB hb; (try clear hb); (try clear hb2); (try clear hk); (try clear hi)))
  go_loopg [3, 4] k (fun kq v3 v4 w' => ∃ (qh : ByteArray) (qb : Int), v3 = .string qh ∧ v4 = .int .i64 qb ∧ Aside0 (spec_FormatAtom.l0 kq qh qb l0_0 a0_1 a0_2 = some r) ∧ Aside0 (kq ≤ k) ∧ Aside0 (w'.heap[qc]? = some (.cells #[(.slice A0_0 l0_0.length c0_0), .int .i64 a0_1, .bool a0_2] 27 (0, 0))) ∧ Aside0 (Below w.heap.size w w'))
  case atStart => exact ⟨((⟨#[]⟩ : ByteArray)), (0), (by first | rfl | (simp; done) | (simp [*]; done)), (by first | rfl | (simp; done) | (simp [*]; done)), H', ⟨Nat.le_refl _⟩, ⟨kf_ qa⟩, ⟨bb_ HB⟩⟩
  case round =>
   clear H'
   try clear c1
   try clear p2
   try clear c3
   try clear c4
   try clear qw
   try clear qx
   try clear qy
   try clear qz
   try clear qA
   try clear qB
   obtain ⟨qh, qb, rfl, rfl, HA, HK1, qa, HB⟩ := hrel
   cases gk with
   | zero => exact absurd HA.out (by simp [spec_FormatAtom.l0])
   | succ k1 =>
    have H := HA.out
    clear HA
    simp only [spec_FormatAtom.l0] at H
    by_cases c7 : qb < (l0_0.length : Int)
    ·
     rw [if_pos c7] at H
     have zb : decide (qb < (l0_0.length : Int)) = true := decide_eq_true c7
     clear c7
     by_cases c8 : 0 ≤ qb
     ·
      rw [if_pos c8] at H
      have ze : decide (0 ≤ qb) = true := decide_eq_true c8
      clear c8
      by_cases c9 : (rd l0_0 qb) = 0
      ·
       rw [if_pos c9] at H
       have zc : ((rd l0_0 qb) == 0) = true := beq_iff_eq.mpr c9
       have zd : ((rd l0_0 qb) != 0) = false := bne_eq_false_iff_eq.mpr c9
       clear c9
       have H' := Aside0.mk H
       clear H
       have qk : wr.cell? ⟨qc, 0, none⟩ = some (.slice A0_0 l0_0.length c0_0) := bc_ qa 0
       have ql : wr.cell? ⟨qc, 1, none⟩ = some (.int .i64 a0_1) := bc_ qa 1
       have qm : wr.cell? ⟨qc, 2, none⟩ = some (.bool a0_2) := bc_ qa 2
       have qn := blk_frozen qa.out 0
       have qo := blk_frozen qa.out 1
       have qp := blk_frozen qa.out 2
       have p123 : 0 ≤ (qb : Int) := of_decide_eq_true (by first | (with_reducible assumption) | assumption)
       have q123 : qb < (l0_0.length : Int) := of_decide_eq_true (by first | (with_reducible assumption) | assumption)
       obtain ⟨zf, e123, qg⟩ := Kd.at_int qZ.out qb p123 q123
       cases e123
       replace qg := (HB.out.cell (World.block_lt_of_cell? w _ qg)).trans qg
       replace p123 := eq_true p123
       replace q123 := eq_true q123
       go_wp2
       go_roundg k1
       case measure => have := HK1.out; omega
       case rel => exact ⟨(qh), (wrap64 (qb + 1)), (by first | rfl | (simp; done) | (simp [*]; done)), (by first | rfl | (simp; done) | (simp [*]; done)), H', ⟨by have := HK1.out; omega⟩, ⟨kf_ qa⟩, ⟨bb_ HB⟩⟩
      ·
       rw [if_neg c9] at H
       have zc : ((rd l0_0 qb) == 0) = false := beq_eq_false_iff_ne.mpr c9
       have zd : ((rd l0_0 qb) != 0) = true := bne_iff_ne.mpr c9
       have HC11 := Aside0.mk H
       clear H
       have qq : wr.cell? ⟨qc, 0, none⟩ = some (.slice A0_0 l0_0.length c0_0) := bc_ qa 0
       have qr : wr.cell? ⟨qc, 1, none⟩ = some (.int .i64 a0_1) := bc_ qa 1
       have qs : wr.cell? ⟨qc, 2, none⟩ = some (.bool a0_2) := bc_ qa 2
       have qt := blk_frozen qa.out 0
       have qu := blk_frozen qa.out 1
       have qv := blk_frozen qa.out 2
       have p123 : 0 ≤ (qb : Int) := of_decide_eq_true (by first | (with_reducible assumption) | assumption)
       have q123 : qb < (l0_0.length : Int) := of_decide_eq_true (by first | (with_reducible assumption) | assumption)
       obtain ⟨zf, e123, qg⟩ := Kd.at_int qZ.out qb p123 q123
       cases e123
       replace qg := (HB.out.cell (World.block_lt_of_cell? w _ qg)).trans qg
       replace p123 := eq_true p123
       replace q123 := eq_true q123
       go_upto_region 9 with (fail)
       go_cut [28] (fun v28 wc => ∃ (kq : Nat) (qE : Bool), v28 = .bool qE ∧ Aside0 (spec_FormatAtom.j1 kq qh qb (rd l0_0 qb) qE l0_0 a0_1 a0_2 = some r) ∧ Aside0 (kq ≤ k1) ∧ Aside0 (wc.heap[qc]? = some (.cells #[(.slice (some zf) l0_0.length c0_0), .int .i64 a0_1, .bool a0_2] 27 (0, 0))) ∧ Aside0 (Below w.heap.size w wc))
       case first =>
        have H := HC11.out
        clear HC11
        by_cases c13 : (rd l0_0 qb) > 0
        ·
         rw [if_pos c13] at H
         have qi : decide (0 < (rd l0_0 qb)) = true := decide_eq_true c13
         clear c13
         (first | rw [qi] | (simp only [i64_w, i32_w]; rw [qi]) | skip)
         have H' := Aside0.mk H
         clear H
         go_wp2
         go_meet
         case rel => exact ⟨_, ((qh.toList != ([] : List UInt8))), (by first | rfl | (simp; done) | (simp [*]; done) | (simp; exact isE_ _)), H', ⟨by have := HK1.out; first | omega | exact Nat.le_refl _⟩, ⟨kf_ qa⟩, ⟨bb_ HB⟩⟩
        ·
         rw [if_neg c13] at H
         have qi : decide (0 < (rd l0_0 qb)) = false := decide_eq_false c13
         clear c13
         (first | rw [qi] | (simp only [i64_w, i32_w]; rw [qi]) | skip)
         have H' := Aside0.mk H
         clear H
         go_wp2
         go_meet
         case rel => exact ⟨_, (false), (by first | rfl | (simp; done) | (simp [*]; done)), H', ⟨by have := HK1.out; first | omega | exact Nat.le_refl _⟩, ⟨kf_ qa⟩, ⟨bb_ HB⟩⟩
       case rest =>
        clear HC11
        try clear c1
        try clear p1
        try clear q1
        try clear hx1
        try clear p2
        try clear c3
        try clear c4
        try clear p6
        try clear c7
        try clear zb
        try clear c8
        try clear ze
        try clear c9
        try clear zc
        try clear zd
        try clear c12
        try clear p12
        try clear q12
        try clear hx12
        try clear c13
        try clear qi
        try clear qk
        try clear ql
        try clear qm
        try clear qq
        try clear qr
        try clear qs
        try clear qw
        try clear qx
        try clear qy
        try clear qn
        try clear qo
        try clear qp
        try clear qt
        try clear qu
        try clear qv
        try clear qz
        try clear qA
        try clear qB
        try clear qg
        try clear p123
        try clear p2
        try clear q123
        obtain ⟨kq, qE, rfl, HA, HJ10, qa, HB⟩ := hcut
        cases kq with
        | zero => exact absurd HA.out (by simp [spec_FormatAtom.j1])
        | succ kj10 =>
         have H := HA.out
         clear HA
         simp only [spec_FormatAtom.j1] at H
         have HC14 := Aside0.mk H
         clear H
         go_upto_if 28 with (fail)
         go_cut [3] (fun v3 wc => ∃ (kq : Nat) (qe : ByteArray), v3 = .string qe ∧ Aside0 (spec_FormatAtom.j2 kq qe qb (rd l0_0 qb) l0_0 a0_1 a0_2 = some r) ∧ Aside0 (kq ≤ kj10) ∧ Aside0 (wc.heap[qc]? = some (.cells #[(.slice (some zf) l0_0.length c0_0), .int .i64 a0_1, .bool a0_2] 27 (0, 0))) ∧ Aside0 (Below w.heap.size w wc))
         case first =>
          have H := HC14.out
          clear HC14
          by_cases c15 : qE = true
          ·
           subst c15
           have H1 : (if qh.size + 1 ≤ 9223372036854775807 then (spec_FormatAtom.j2 kj10 (qh ++ (⟨#[43]⟩ : ByteArray)) qb (rd l0_0 qb) l0_0 a0_1 a0_2) else (none)) = some r := by rw [if_pos rfl] at H; exact H
           clear H
           have H := H1
           clear H1
           by_cases c16 : qh.size + 1 ≤ 9223372036854775807
           ·
            rw [if_pos c16] at H
            have q0 := eq_true c16
            have q2 : decide (qh.size + 1 ≤ 9223372036854775807) = true := decide_eq_true c16
            try have q3 : (9223372036854775807 < qh.size + 1) = False := eq_false (Nat.not_lt.2 c16)
            have H' := Aside0.mk H
            clear H
            go_wp2
            go_meet
            case rel => exact ⟨_, (qh ++ (⟨#[43]⟩ : ByteArray)), (by first | rfl | (simp; done) | (simp [*]; done)), H', ⟨by have := HK1.out; have := HJ10.out; first | omega | exact Nat.le_refl _⟩, ⟨kf_ qa⟩, ⟨bb_ HB⟩⟩
           ·
            rw [if_neg c16] at H
            exact absurd H (by simp)
          ·
           replace c15 := Bool.eq_false_iff.mpr c15
           subst c15
           have H1 : (spec_FormatAtom.j2 kj10 qh qb (rd l0_0 qb) l0_0 a0_1 a0_2) = some r := by rw [if_neg (show ¬ (false = true) by decide)] at H; exact H
           clear H
           have H := H1
           clear H1
           have H' := Aside0.mk H
           clear H
           go_wp2
           go_meet
           case rel => exact ⟨_, (qh), (by first | rfl | (simp; done) | (simp [*]; done)), H', ⟨by have := HK1.out; have := HJ10.out; first | omega | exact Nat.le_refl _⟩, ⟨kf_ qa⟩, ⟨bb_ HB⟩⟩
         case rest =>
          clear HC14
          try clear c1
          try clear p1
          try clear q1
          try clear hx1
          try clear p2
          try clear c3
          try clear c4
          try clear p6
          try clear c7
          try clear zb
          try clear c8
          try clear ze
          try clear c9
          try clear zc
          try clear zd
          try clear c12
          try clear p12
          try clear q12
          try clear hx12
          try clear c13
          try clear qi
          try clear c15
          try clear c16
          try clear q0
          try clear q2
          try clear q3
          try clear qk
          try clear ql
          try clear qm
          try clear qq
          try clear qr
          try clear qs
          try clear qw
          try clear qx
          try clear qy
          try clear qn
          try clear qo
          try clear qp
          try clear qt
          try clear qu
          try clear qv
          try clear qz
          try clear qA
          try clear qB
          try clear qg
          try clear p1
          try clear p12
          try clear p123
          try clear p2
          try clear p6
          try clear q1
          try clear q12
          try clear q123
          obtain ⟨kq, qe, rfl, HA, HJ13, qa, HB⟩ := hcut
          cases kq with
          | zero => exact absurd HA.out (by simp [spec_FormatAtom.j2])
          | succ kj13 =>
           have H := HA.out
           clear HA
           simp only [spec_FormatAtom.j2] at H
           by_cases c17 : (rd l0_0 qb) = (-1)
           ·
            rw [if_pos c17] at H
            have q4 : ((rd l0_0 qb) == (-1)) = true := beq_iff_eq.mpr c17
            have q5 : ((rd l0_0 qb) != (-1)) = false := bne_eq_false_iff_eq.mpr c17
            clear c17
            by_cases c18 : qe.size + 1 ≤ 9223372036854775807
            ·
             rw [if_pos c18] at H
             have zg := eq_true c18
             have zh : decide (qe.size + 1 ≤ 9223372036854775807) = true := decide_eq_true c18
             try have zi : (9223372036854775807 < qe.size + 1) = False := eq_false (Nat.not_lt.2 c18)
             by_cases c19 : 0 ≤ qb
             ·
              rw [if_pos c19] at H
              have zj := eq_true c19
              have zk : decide (0 ≤ qb) = true := decide_eq_true c19
              clear c19
              by_cases c20 : qb ≤ (wrap64 (qb + 1))
              ·
               rw [if_pos c20] at H
               have zl := eq_true c20
               have zm : decide (qb ≤ (wrap64 (qb + 1))) = true := decide_eq_true c20
               by_cases c21 : (wrap64 (qb + 1)) ≤ 4
               ·
                rw [if_pos c21] at H
                have zn := eq_true c21
                have zo : decide ((wrap64 (qb + 1)) ≤ 4) = true := decide_eq_true c21
                by_cases c22 : (qe ++ (⟨#[45]⟩ : ByteArray)).size + ((⟨#[120, 121, 122, 116]⟩ : ByteArray).extract (qb : Int).toNat ((wrap64 (qb + 1)) : Int).toNat).size ≤ 9223372036854775807
                ·
                 rw [if_pos c22] at H
                 have zp := eq_true c22
                 have zq : decide ((qe ++ (⟨#[45]⟩ : ByteArray)).size + ((⟨#[120, 121, 122, 116]⟩ : ByteArray).extract (qb : Int).toNat ((wrap64 (qb + 1)) : Int).toNat).size ≤ 9223372036854775807) = true := decide_eq_true c22
                 try have q6 : (9223372036854775807 < (qe ++ (⟨#[45]⟩ : ByteArray)).size + ((⟨#[120, 121, 122, 116]⟩ : ByteArray).extract (qb : Int).toNat ((wrap64 (qb + 1)) : Int).toNat).size) = False := eq_false (Nat.not_lt.2 c22)
                 try (have z4 := q6; simp only [ByteArray.size_append, show ∀ c, (ByteArray.mk #[c]).size = 1 from fun _ => rfl, show ∀ c d, (ByteArray.mk #[c, d]).size = 2 from fun _ _ => rfl, show ∀ c d e, (ByteArray.mk #[c, d, e]).size = 3 from fun _ _ _ => rfl] at z4)
                 have H' := Aside0.mk H
                 clear H
                 go_wp2
                 go_roundg kj13
                 case measure => have := HK1.out; have := HJ10.out; have := HJ13.out; omega
                 case rel => exact ⟨((qe ++ (⟨#[45]⟩ : ByteArray)) ++ ((⟨#[120, 121, 122, 116]⟩ : ByteArray).extract (qb : Int).toNat ((wrap64 (qb + 1)) : Int).toNat)), (wrap64 (qb + 1)), (by first | rfl | (simp; done) | (simp [*]; done)), (by first | rfl | (simp; done) | (simp [*]; done)), H', ⟨by have := HK1.out; have := HJ10.out; have := HJ13.out; omega⟩, ⟨kf_ qa⟩, ⟨bb_ HB⟩⟩
                ·
                 rw [if_neg c22] at H
                 exact absurd H (by simp)
               ·
                rw [if_neg c21] at H
                exact absurd H (by simp)
              ·
               rw [if_neg c20] at H
               exact absurd H (by simp)
             ·
              rw [if_neg c19] at H
              exact absurd H (by simp)
            ·
             rw [if_neg c18] at H
             exact absurd H (by simp)
           ·
            rw [if_neg c17] at H
            have q4 : ((rd l0_0 qb) == (-1)) = false := beq_eq_false_iff_ne.mpr c17
            have q5 : ((rd l0_0 qb) != (-1)) = true := bne_iff_ne.mpr c17
            by_cases c23 : (rd l0_0 qb) = 1
            ·
             rw [if_pos c23] at H
             have q7 : ((rd l0_0 qb) == 1) = true := beq_iff_eq.mpr c23
             have q8 : ((rd l0_0 qb) != 1) = false := bne_eq_false_iff_eq.mpr c23
             clear c23
             by_cases c24 : 0 ≤ qb
             ·
              rw [if_pos c24] at H
              have zr := eq_true c24
              have zs : decide (0 ≤ qb) = true := decide_eq_true c24
              clear c24
              by_cases c25 : qb ≤ (wrap64 (qb + 1))
              ·
               rw [if_pos c25] at H
               have zt := eq_true c25
               have zu : decide (qb ≤ (wrap64 (qb + 1))) = true := decide_eq_true c25
               by_cases c26 : (wrap64 (qb + 1)) ≤ 4
               ·
                rw [if_pos c26] at H
                have zv := eq_true c26
                have zw : decide ((wrap64 (qb + 1)) ≤ 4) = true := decide_eq_true c26
                by_cases c27 : qe.size + ((⟨#[120, 121, 122, 116]⟩ : ByteArray).extract (qb : Int).toNat ((wrap64 (qb + 1)) : Int).toNat).size ≤ 9223372036854775807
                ·
                 rw [if_pos c27] at H
                 have zx := eq_true c27
                 have zy : decide (qe.size + ((⟨#[120, 121, 122, 116]⟩ : ByteArray).extract (qb : Int).toNat ((wrap64 (qb + 1)) : Int).toNat).size ≤ 9223372036854775807) = true := decide_eq_true c27
                 try have zz : (9223372036854775807 < qe.size + ((⟨#[120, 121, 122, 116]⟩ : ByteArray).extract (qb : Int).toNat ((wrap64 (qb + 1)) : Int).toNat).size) = False := eq_false (Nat.not_lt.2 c27)
                 have H' := Aside0.mk H
                 clear H
                 go_wp2
                 go_roundg kj13
                 case measure => have := HK1.out; have := HJ10.out; have := HJ13.out; omega
                 case rel => exact ⟨(qe ++ ((⟨#[120, 121, 122, 116]⟩ : ByteArray).extract (qb : Int).toNat ((wrap64 (qb + 1)) : Int).toNat)), (wrap64 (qb + 1)), (by first | rfl | (simp; done) | (simp [*]; done)), (by first | rfl | (simp; done) | (simp [*]; done)), H', ⟨by have := HK1.out; have := HJ10.out; have := HJ13.out; omega⟩, ⟨kf_ qa⟩, ⟨bb_ HB⟩⟩
                ·
                 rw [if_neg c27] at H
                 exact absurd H (by simp)
               ·
                rw [if_neg c26] at H
                exact absurd H (by simp)
              ·
               rw [if_neg c25] at H
               exact absurd H (by simp)
             ·
              rw [if_neg c24] at H
              exact absurd H (by simp)
            ·
             rw [if_neg c23] at H
             have q7 : ((rd l0_0 qb) == 1) = false := beq_eq_false_iff_ne.mpr c23
             have q8 : ((rd l0_0 qb) != 1) = true := bne_iff_ne.mpr c23
             replace H := Option.bind_eq_some_iff.mp H
             obtain ⟨qj, A280, H⟩ := H
             replace H : (if qe.size + qj.size ≤ 9223372036854775807 then (if 0 ≤ qb then (if qb ≤ (wrap64 (qb + 1)) then (if (wrap64 (qb + 1)) ≤ 4 then (if (qe ++ qj).size + ((⟨#[120, 121, 122, 116]⟩ : ByteArray).extract (qb : Int).toNat ((wrap64 (qb + 1)) : Int).toNat).size ≤ 9223372036854775807 then (spec_FormatAtom.l0 kj13 ((qe ++ qj) ++ ((⟨#[120, 121, 122, 116]⟩ : ByteArray).extract (qb : Int).toNat ((wrap64 (qb + 1)) : Int).toNat)) (wrap64 (qb + 1)) l0_0 a0_1 a0_2) else (none)) else (none)) else (none)) else (none)) else (none)) = some r := H
             have A28 := Aside0.mk A280
             clear A280
             by_cases c29 : qe.size + qj.size ≤ 9223372036854775807
             ·
              rw [if_pos c29] at H
              have zA := eq_true c29
              have zB : decide (qe.size + qj.size ≤ 9223372036854775807) = true := decide_eq_true c29
              try have zC : (9223372036854775807 < qe.size + qj.size) = False := eq_false (Nat.not_lt.2 c29)
              by_cases c30 : 0 ≤ qb
              ·
               rw [if_pos c30] at H
               have zD := eq_true c30
               have zE : decide (0 ≤ qb) = true := decide_eq_true c30
               clear c30
               by_cases c31 : qb ≤ (wrap64 (qb + 1))
               ·
                rw [if_pos c31] at H
                have zF := eq_true c31
                have zG : decide (qb ≤ (wrap64 (qb + 1))) = true := decide_eq_true c31
                by_cases c32 : (wrap64 (qb + 1)) ≤ 4
                ·
                 rw [if_pos c32] at H
                 have zH := eq_true c32
                 have zI : decide ((wrap64 (qb + 1)) ≤ 4) = true := decide_eq_true c32
                 by_cases c33 : (qe ++ qj).size + ((⟨#[120, 121, 122, 116]⟩ : ByteArray).extract (qb : Int).toNat ((wrap64 (qb + 1)) : Int).toNat).size ≤ 9223372036854775807
                 ·
                  rw [if_pos c33] at H
                  have zJ := eq_true c33
                  have zK : decide ((qe ++ qj).size + ((⟨#[120, 121, 122, 116]⟩ : ByteArray).extract (qb : Int).toNat ((wrap64 (qb + 1)) : Int).toNat).size ≤ 9223372036854775807) = true := decide_eq_true c33
                  try have q9 : (9223372036854775807 < (qe ++ qj).size + ((⟨#[120, 121, 122, 116]⟩ : ByteArray).extract (qb : Int).toNat ((wrap64 (qb + 1)) : Int).toNat).size) = False := eq_false (Nat.not_lt.2 c33)
                  try (have z5 := q9; simp only [ByteArray.size_append, show ∀ c, (ByteArray.mk #[c]).size = 1 from fun _ => rfl, show ∀ c d, (ByteArray.mk #[c, d]).size = 2 from fun _ _ => rfl, show ∀ c d e, (ByteArray.mk #[c, d, e]).size = 3 from fun _ _ _ => rfl] at z5)
                  have H' := Aside0.mk H
                  clear H
                  go_wp2_with (first | ((with_reducible refine gate_callee (f := 50) rfl ?_); refine goesL_ (some 39) rfl rfl Tryd.func50 (by kernel_rfl) rfl #[.int .i64 (rd l0_0 qb)] rfl (by (try simp only [List.map_toArray, List.map_cons, List.map_nil]); first | done | rfl | (simp only [List.length_drop, List.length_take]; rfl)) ?_; (with_reducible refine (spec_FormatInt.calls kj13 (rd l0_0 qb) qj _ A28.out).mono ?_); rintro e w' ⟨rfl, ⟨nd, rfl⟩⟩; refine ⟨_, rfl, ?_⟩))
                  go_roundg kj13
                  case measure => have := HK1.out; have := HJ10.out; have := HJ13.out; omega
                  case rel => exact ⟨((qe ++ qj) ++ ((⟨#[120, 121, 122, 116]⟩ : ByteArray).extract (qb : Int).toNat ((wrap64 (qb + 1)) : Int).toNat)), (wrap64 (qb + 1)), (by first | rfl | (simp; done) | (simp [*]; done)), (by first | rfl | (simp; done) | (simp [*]; done)), H', ⟨by have := HK1.out; have := HJ10.out; have := HJ13.out; omega⟩, ⟨kf_ qa⟩, ⟨bb_ HB⟩⟩
                 ·
                  rw [if_neg c33] at H
                  exact absurd H (by simp)
                ·
                 rw [if_neg c32] at H
                 exact absurd H (by simp)
               ·
                rw [if_neg c31] at H
                exact absurd H (by simp)
              ·
               rw [if_neg c30] at H
               exact absurd H (by simp)
             ·
              rw [if_neg c29] at H
              exact absurd H (by simp)
     ·
      rw [if_neg c8] at H
      exact absurd H (by simp)
    ·
     rw [if_neg c7] at H
     have zb : decide (qb < (l0_0.length : Int)) = false := decide_eq_false c7
     clear c7
     have HC34 := Aside0.mk H
     clear H
     have qF : wr.cell? ⟨qc, 0, none⟩ = some (.slice A0_0 l0_0.length c0_0) := bc_ qa 0
     have qG : wr.cell? ⟨qc, 1, none⟩ = some (.int .i64 a0_1) := bc_ qa 1
     have qH : wr.cell? ⟨qc, 2, none⟩ = some (.bool a0_2) := bc_ qa 2
     have qI := blk_frozen qa.out 0
     have qJ := blk_frozen qa.out 1
     have qK := blk_frozen qa.out 2
     go_upto_region 16 with (fail)
     go_cut [53] (fun v53 wc => ∃ (kq : Nat) (qL : Bool), v53 = .bool qL ∧ Aside0 (spec_FormatAtom.j3 kq qh qL l0_0 a0_1 a0_2 = some r) ∧ Aside0 (kq ≤ k1) ∧ Aside0 (wc.heap[qc]? = some (.cells #[(.slice A0_0 l0_0.length c0_0), .int .i64 a0_1, .bool a0_2] 27 (0, 0))) ∧ Aside0 (Below w.heap.size w wc))
     case first =>
      have H := HC34.out
      clear HC34
      by_cases c36 : a0_1 > 0
      ·
       rw [if_pos c36] at H
       have qC : decide (0 < a0_1) = true := decide_eq_true c36
       clear c36
       (first | rw [qC] | (simp only [i64_w, i32_w]; rw [qC]) | skip)
       have H' := Aside0.mk H
       clear H
       have qM : wr.cell? ⟨qc, 0, none⟩ = some (.slice A0_0 l0_0.length c0_0) := bc_ qa 0
       have qN : wr.cell? ⟨qc, 1, none⟩ = some (.int .i64 a0_1) := bc_ qa 1
       have qO : wr.cell? ⟨qc, 2, none⟩ = some (.bool a0_2) := bc_ qa 2
       have qP := blk_frozen qa.out 0
       have qQ := blk_frozen qa.out 1
       have qR := blk_frozen qa.out 2
       go_wp2
       go_meet
       case rel => exact ⟨_, ((qh.toList != ([] : List UInt8))), (by first | rfl | (simp; done) | (simp [*]; done) | (simp; exact isE_ _)), H', ⟨by have := HK1.out; first | omega | exact Nat.le_refl _⟩, ⟨kf_ qa⟩, ⟨bb_ HB⟩⟩
      ·
       rw [if_neg c36] at H
       have qC : decide (0 < a0_1) = false := decide_eq_false c36
       clear c36
       (first | rw [qC] | (simp only [i64_w, i32_w]; rw [qC]) | skip)
       have H' := Aside0.mk H
       clear H
       have qS : wr.cell? ⟨qc, 0, none⟩ = some (.slice A0_0 l0_0.length c0_0) := bc_ qa 0
       have qT : wr.cell? ⟨qc, 1, none⟩ = some (.int .i64 a0_1) := bc_ qa 1
       have qU : wr.cell? ⟨qc, 2, none⟩ = some (.bool a0_2) := bc_ qa 2
       have qV := blk_frozen qa.out 0
       have qW := blk_frozen qa.out 1
       have qX := blk_frozen qa.out 2
       go_wp2
       go_meet
       case rel => exact ⟨_, (false), (by first | rfl | (simp; done) | (simp [*]; done)), H', ⟨by have := HK1.out; first | omega | exact Nat.le_refl _⟩, ⟨kf_ qa⟩, ⟨bb_ HB⟩⟩
     case rest =>
      clear HC34
      try clear c1
      try clear p1
      try clear q1
      try clear hx1
      try clear c2
      try clear p2
      try clear c3
      try clear c4
      try clear c5
      try clear p6
      try clear c7
      try clear zb
      try clear c8
      try clear ze
      try clear c9
      try clear zc
      try clear zd
      try clear c12
      try clear p12
      try clear q12
      try clear hx12
      try clear c13
      try clear qi
      try clear c15
      try clear c16
      try clear q0
      try clear q2
      try clear q3
      try clear c17
      try clear q4
      try clear q5
      try clear c18
      try clear zg
      try clear zh
      try clear zi
      try clear c19
      try clear zj
      try clear zk
      try clear c20
      try clear zl
      try clear zm
      try clear c21
      try clear zn
      try clear zo
      try clear c22
      try clear zp
      try clear zq
      try clear q6
      try clear c23
      try clear q7
      try clear q8
      try clear c24
      try clear zr
      try clear zs
      try clear c25
      try clear zt
      try clear zu
      try clear c26
      try clear zv
      try clear zw
      try clear c27
      try clear zx
      try clear zy
      try clear zz
      try clear c29
      try clear zA
      try clear zB
      try clear zC
      try clear c30
      try clear zD
      try clear zE
      try clear c31
      try clear zF
      try clear zG
      try clear c32
      try clear zH
      try clear zI
      try clear c33
      try clear zJ
      try clear zK
      try clear q9
      try clear c36
      try clear qC
      try clear qk
      try clear ql
      try clear qm
      try clear qq
      try clear qr
      try clear qs
      try clear qF
      try clear qG
      try clear qH
      try clear qM
      try clear qN
      try clear qO
      try clear qS
      try clear qT
      try clear qU
      try clear qw
      try clear qx
      try clear qy
      try clear qn
      try clear qo
      try clear qp
      try clear qt
      try clear qu
      try clear qv
      try clear qI
      try clear qJ
      try clear qK
      try clear qP
      try clear qQ
      try clear qR
      try clear qV
      try clear qW
      try clear qX
      try clear qz
      try clear qA
      try clear qB
      try clear qg
      try clear p1
      try clear p12
      try clear p123
      try clear p2
      try clear p6
      try clear q1
      try clear q12
      try clear q123
      obtain ⟨kq, qL, rfl, HA, HJ33, qa, HB⟩ := hcut
      cases kq with
      | zero => exact absurd HA.out (by simp [spec_FormatAtom.j3])
      | succ kj33 =>
       have H := HA.out
       clear HA
       simp only [spec_FormatAtom.j3] at H
       have HC39 := Aside0.mk H
       clear H
       go_upto_if 53 with (fail)
       go_cut [3] (fun v3 wc => ∃ (kq : Nat) (qd : ByteArray), v3 = .string qd ∧ Aside0 (spec_FormatAtom.j4 kq qd l0_0 a0_1 a0_2 = some r) ∧ Aside0 (kq ≤ kj33) ∧ Aside0 (wc.heap[qc]? = some (.cells #[(.slice A0_0 l0_0.length c0_0), .int .i64 a0_1, .bool a0_2] 27 (0, 0))) ∧ Aside0 (Below w.heap.size w wc))
       case first =>
        have H := HC39.out
        clear HC39
        by_cases c40 : qL = true
        ·
         subst c40
         have H1 : (if qh.size + 1 ≤ 9223372036854775807 then (spec_FormatAtom.j4 kj33 (qh ++ (⟨#[43]⟩ : ByteArray)) l0_0 a0_1 a0_2) else (none)) = some r := by rw [if_pos rfl] at H; exact H
         clear H
         have H := H1
         clear H1
         by_cases c41 : qh.size + 1 ≤ 9223372036854775807
         ·
          rw [if_pos c41] at H
          have zY := eq_true c41
          have zZ : decide (qh.size + 1 ≤ 9223372036854775807) = true := decide_eq_true c41
          try have z0 : (9223372036854775807 < qh.size + 1) = False := eq_false (Nat.not_lt.2 c41)
          have H' := Aside0.mk H
          clear H
          go_wp2
          go_meet
          case rel => exact ⟨_, (qh ++ (⟨#[43]⟩ : ByteArray)), (by first | rfl | (simp; done) | (simp [*]; done)), H', ⟨by have := HK1.out; have := HJ33.out; first | omega | exact Nat.le_refl _⟩, ⟨kf_ qa⟩, ⟨bb_ HB⟩⟩
         ·
          rw [if_neg c41] at H
          exact absurd H (by simp)
        ·
         replace c40 := Bool.eq_false_iff.mpr c40
         subst c40
         have H1 : (spec_FormatAtom.j4 kj33 qh l0_0 a0_1 a0_2) = some r := by rw [if_neg (show ¬ (false = true) by decide)] at H; exact H
         clear H
         have H := H1
         clear H1
         have H' := Aside0.mk H
         clear H
         go_wp2
         go_meet
         case rel => exact ⟨_, (qh), (by first | rfl | (simp; done) | (simp [*]; done)), H', ⟨by have := HK1.out; have := HJ33.out; first | omega | exact Nat.le_refl _⟩, ⟨kf_ qa⟩, ⟨bb_ HB⟩⟩
       case rest =>
        clear HC39
        try clear c1
        try clear p1
        try clear q1
        try clear hx1
        try clear c2
        try clear p2
        try clear c3
        try clear c4
        try clear c5
        try clear p6
        try clear c7
        try clear zb
        try clear c8
        try clear ze
        try clear c9
        try clear zc
        try clear zd
        try clear c12
        try clear p12
        try clear q12
        try clear hx12
        try clear c13
        try clear qi
        try clear c15
        try clear c16
        try clear q0
        try clear q2
        try clear q3
        try clear c17
        try clear q4
        try clear q5
        try clear c18
        try clear zg
        try clear zh
        try clear zi
        try clear c19
        try clear zj
        try clear zk
        try clear c20
        try clear zl
        try clear zm
        try clear c21
        try clear zn
        try clear zo
        try clear c22
        try clear zp
        try clear zq
        try clear q6
        try clear c23
        try clear q7
        try clear q8
        try clear c24
        try clear zr
        try clear zs
        try clear c25
        try clear zt
        try clear zu
        try clear c26
        try clear zv
        try clear zw
        try clear c27
        try clear zx
        try clear zy
        try clear zz
        try clear c29
        try clear zA
        try clear zB
        try clear zC
        try clear c30
        try clear zD
        try clear zE
        try clear c31
        try clear zF
        try clear zG
        try clear c32
        try clear zH
        try clear zI
        try clear c33
        try clear zJ
        try clear zK
        try clear q9
        try clear c36
        try clear qC
        try clear c40
        try clear c41
        try clear zY
        try clear zZ
        try clear z0
        try clear qk
        try clear ql
        try clear qm
        try clear qq
        try clear qr
        try clear qs
        try clear qF
        try clear qG
        try clear qH
        try clear qM
        try clear qN
        try clear qO
        try clear qS
        try clear qT
        try clear qU
        try clear qw
        try clear qx
        try clear qy
        try clear qn
        try clear qo
        try clear qp
        try clear qt
        try clear qu
        try clear qv
        try clear qI
        try clear qJ
        try clear qK
        try clear qP
        try clear qQ
        try clear qR
        try clear qV
        try clear qW
        try clear qX
        try clear qz
        try clear qA
        try clear qB
        try clear qg
        try clear p1
        try clear p12
        try clear p123
        try clear p2
        try clear p6
        try clear q1
        try clear q12
        try clear q123
        obtain ⟨kq, qd, rfl, HA, HJ38, qa, HB⟩ := hcut
        cases kq with
        | zero => exact absurd HA.out (by simp [spec_FormatAtom.j4])
        | succ kj38 =>
         have H := HA.out
         clear HA
         simp only [spec_FormatAtom.j4] at H
         have HC42 := Aside0.mk H
         clear H
         go_upto_region 18 with (fail)
         go_cut [62] (fun v62 wc => ∃ (kq : Nat) (qY : Bool), v62 = .bool qY ∧ Aside0 (spec_FormatAtom.j5 kq qd qY l0_0 a0_1 a0_2 = some r) ∧ Aside0 (kq ≤ kj38) ∧ Aside0 (wc.heap[qc]? = some (.cells #[(.slice A0_0 l0_0.length c0_0), .int .i64 a0_1, .bool a0_2] 27 (0, 0))) ∧ Aside0 (Below w.heap.size w wc))
         case first =>
          have H := HC42.out
          clear HC42
          by_cases c43 : a0_1 = 0
          ·
           rw [if_pos c43] at H
           have qD : (a0_1 == 0) = true := beq_iff_eq.mpr c43
           have z1 : (a0_1 != 0) = false := bne_eq_false_iff_eq.mpr c43
           clear c43
           (first | rw [qD] | (simp only [i64_w, i32_w]; rw [qD]) | skip)
           have H' := Aside0.mk H
           clear H
           have zL : wc.cell? ⟨qc, 0, none⟩ = some (.slice A0_0 l0_0.length c0_0) := bc_ qa 0
           have zM : wc.cell? ⟨qc, 1, none⟩ = some (.int .i64 a0_1) := bc_ qa 1
           have zN : wc.cell? ⟨qc, 2, none⟩ = some (.bool a0_2) := bc_ qa 2
           have zO := blk_frozen qa.out 0
           have zP := blk_frozen qa.out 1
           have zQ := blk_frozen qa.out 2
           go_wp2
           go_meet
           case rel => exact ⟨_, ((qd.toList == ([] : List UInt8))), (by first | rfl | (simp; done) | (simp [*]; done)), H', ⟨by have := HK1.out; have := HJ33.out; have := HJ38.out; first | omega | exact Nat.le_refl _⟩, ⟨kf_ qa⟩, ⟨bb_ HB⟩⟩
          ·
           rw [if_neg c43] at H
           have qD : (a0_1 == 0) = false := beq_eq_false_iff_ne.mpr c43
           have z1 : (a0_1 != 0) = true := bne_iff_ne.mpr c43
           (first | rw [qD] | (simp only [i64_w, i32_w]; rw [qD]) | skip)
           have H' := Aside0.mk H
           clear H
           have zR : wc.cell? ⟨qc, 0, none⟩ = some (.slice A0_0 l0_0.length c0_0) := bc_ qa 0
           have zS : wc.cell? ⟨qc, 1, none⟩ = some (.int .i64 a0_1) := bc_ qa 1
           have zT : wc.cell? ⟨qc, 2, none⟩ = some (.bool a0_2) := bc_ qa 2
           have zU := blk_frozen qa.out 0
           have zV := blk_frozen qa.out 1
           have zW := blk_frozen qa.out 2
           go_wp2
           go_meet
           case rel => exact ⟨_, (true), (by first | rfl | (simp; done) | (simp [*]; done)), H', ⟨by have := HK1.out; have := HJ33.out; have := HJ38.out; first | omega | exact Nat.le_refl _⟩, ⟨kf_ qa⟩, ⟨bb_ HB⟩⟩
         case rest =>
          clear HC42
          try clear c1
          try clear p1
          try clear q1
          try clear hx1
          try clear c2
          try clear p2
          try clear c3
          try clear c4
          try clear c5
          try clear p6
          try clear c7
          try clear zb
          try clear c8
          try clear ze
          try clear c9
          try clear zc
          try clear zd
          try clear c12
          try clear p12
          try clear q12
          try clear hx12
          try clear c13
          try clear qi
          try clear c15
          try clear c16
          try clear q0
          try clear q2
          try clear q3
          try clear c17
          try clear q4
          try clear q5
          try clear c18
          try clear zg
          try clear zh
          try clear zi
          try clear c19
          try clear zj
          try clear zk
          try clear c20
          try clear zl
          try clear zm
          try clear c21
          try clear zn
          try clear zo
          try clear c22
          try clear zp
          try clear zq
          try clear q6
          try clear c23
          try clear q7
          try clear q8
          try clear c24
          try clear zr
          try clear zs
          try clear c25
          try clear zt
          try clear zu
          try clear c26
          try clear zv
          try clear zw
          try clear c27
          try clear zx
          try clear zy
          try clear zz
          try clear c29
          try clear zA
          try clear zB
          try clear zC
          try clear c30
          try clear zD
          try clear zE
          try clear c31
          try clear zF
          try clear zG
          try clear c32
          try clear zH
          try clear zI
          try clear c33
          try clear zJ
          try clear zK
          try clear q9
          try clear c36
          try clear qC
          try clear c40
          try clear c41
          try clear zY
          try clear zZ
          try clear z0
          try clear c43
          try clear qD
          try clear z1
          try clear qk
          try clear ql
          try clear qm
          try clear qq
          try clear qr
          try clear qs
          try clear qF
          try clear qG
          try clear qH
          try clear qM
          try clear qN
          try clear qO
          try clear qS
          try clear qT
          try clear qU
          try clear zL
          try clear zM
          try clear zN
          try clear zR
          try clear zS
          try clear zT
          try clear qw
          try clear qx
          try clear qy
          try clear qn
          try clear qo
          try clear qp
          try clear qt
          try clear qu
          try clear qv
          try clear qI
          try clear qJ
          try clear qK
          try clear qP
          try clear qQ
          try clear qR
          try clear qV
          try clear qW
          try clear qX
          try clear zO
          try clear zP
          try clear zQ
          try clear zU
          try clear zV
          try clear zW
          try clear qz
          try clear qA
          try clear qB
          try clear qg
          try clear p1
          try clear p12
          try clear p123
          try clear p2
          try clear p6
          try clear q1
          try clear q12
          try clear q123
          obtain ⟨kq, qY, rfl, HA, HJ41, qa, HB⟩ := hcut
          cases kq with
          | zero => exact absurd HA.out (by simp [spec_FormatAtom.j5])
          | succ kj41 =>
           have H := HA.out
           clear HA
           simp only [spec_FormatAtom.j5] at H
           by_cases c46 : qY = true
           ·
            subst c46
            have H1 : ((spec_FormatInt.f kj41 a0_1).bind fun qf => (if qd.size + qf.size ≤ 9223372036854775807 then (if a0_2 = true then (if (qd ++ qf).size + 2 ≤ 9223372036854775807 then (some ((qd ++ qf) ++ (⟨#[60, 48]⟩ : ByteArray))) else (none)) else (if (qd ++ qf).size + 3 ≤ 9223372036854775807 then (some ((qd ++ qf) ++ (⟨#[60, 61, 48]⟩ : ByteArray))) else (none))) else (none))) = some r := by rw [if_pos rfl] at H; exact H
            clear H
            have H := H1
            clear H1
            replace H := Option.bind_eq_some_iff.mp H
            obtain ⟨qf, A470, H⟩ := H
            replace H : (if qd.size + qf.size ≤ 9223372036854775807 then (if a0_2 = true then (if (qd ++ qf).size + 2 ≤ 9223372036854775807 then (some ((qd ++ qf) ++ (⟨#[60, 48]⟩ : ByteArray))) else (none)) else (if (qd ++ qf).size + 3 ≤ 9223372036854775807 then (some ((qd ++ qf) ++ (⟨#[60, 61, 48]⟩ : ByteArray))) else (none))) else (none)) = some r := H
            have A47 := Aside0.mk A470
            clear A470
            by_cases c48 : qd.size + qf.size ≤ 9223372036854775807
            ·
             rw [if_pos c48] at H
             have jF := eq_true c48
             have jG : decide (qd.size + qf.size ≤ 9223372036854775807) = true := decide_eq_true c48
             try have jH : (9223372036854775807 < qd.size + qf.size) = False := eq_false (Nat.not_lt.2 c48)
             by_cases c49 : a0_2 = true
             ·
              subst c49
              have H1 : (if (qd ++ qf).size + 2 ≤ 9223372036854775807 then (some ((qd ++ qf) ++ (⟨#[60, 48]⟩ : ByteArray))) else (none)) = some r := by rw [if_pos rfl] at H; exact H
              clear H
              have H := H1
              clear H1
              by_cases c50 : (qd ++ qf).size + 2 ≤ 9223372036854775807
              ·
               rw [if_pos c50] at H
               have jI := eq_true c50
               have jJ : decide ((qd ++ qf).size + 2 ≤ 9223372036854775807) = true := decide_eq_true c50
               try have z6 : (9223372036854775807 < (qd ++ qf).size + 2) = False := eq_false (Nat.not_lt.2 c50)
               try (have z7 := z6; simp only [ByteArray.size_append, show ∀ c, (ByteArray.mk #[c]).size = 1 from fun _ => rfl, show ∀ c d, (ByteArray.mk #[c, d]).size = 2 from fun _ _ => rfl, show ∀ c d e, (ByteArray.mk #[c, d, e]).size = 3 from fun _ _ _ => rfl] at z7)
               obtain rfl := Option.some.inj H
               have ja : wc.cell? ⟨qc, 0, none⟩ = some (.slice A0_0 l0_0.length c0_0) := bc_ qa 0
               have jb : wc.cell? ⟨qc, 1, none⟩ = some (.int .i64 a0_1) := bc_ qa 1
               have jc : wc.cell? ⟨qc, 2, none⟩ = some (.bool true) := bc_ qa 2
               have jd := blk_frozen qa.out 0
               have je := blk_frozen qa.out 1
               have jf := blk_frozen qa.out 2
               go_wp2_with (first | ((with_reducible refine gate_callee (f := 50) rfl ?_); refine goesL_ (some 66) rfl rfl Tryd.func50 (by kernel_rfl) rfl #[.int .i64 a0_1] rfl (by (try simp only [List.map_toArray, List.map_cons, List.map_nil]); first | done | rfl | (simp only [List.length_drop, List.length_take]; rfl)) ?_; (with_reducible refine (spec_FormatInt.calls kj41 a0_1 qf _ A47.out).mono ?_); rintro e w' ⟨rfl, ⟨nd, rfl⟩⟩; refine ⟨_, rfl, ?_⟩))
               go_ret
               exact ⟨by first | rfl | (simp [errW_none, errW_some] <;> rfl) | (simp [*, errW_none, errW_some] <;> rfl), bb_ HB⟩
              ·
               rw [if_neg c50] at H
               exact absurd H (by simp)
             ·
              replace c49 := Bool.eq_false_iff.mpr c49
              subst c49
              have H1 : (if (qd ++ qf).size + 3 ≤ 9223372036854775807 then (some ((qd ++ qf) ++ (⟨#[60, 61, 48]⟩ : ByteArray))) else (none)) = some r := by rw [if_neg (show ¬ (false = true) by decide)] at H; exact H
              clear H
              have H := H1
              clear H1
              by_cases c52 : (qd ++ qf).size + 3 ≤ 9223372036854775807
              ·
               rw [if_pos c52] at H
               have jK := eq_true c52
               have jL : decide ((qd ++ qf).size + 3 ≤ 9223372036854775807) = true := decide_eq_true c52
               try have z8 : (9223372036854775807 < (qd ++ qf).size + 3) = False := eq_false (Nat.not_lt.2 c52)
               try (have z9 := z8; simp only [ByteArray.size_append, show ∀ c, (ByteArray.mk #[c]).size = 1 from fun _ => rfl, show ∀ c d, (ByteArray.mk #[c, d]).size = 2 from fun _ _ => rfl, show ∀ c d e, (ByteArray.mk #[c, d, e]).size = 3 from fun _ _ _ => rfl] at z9)
               obtain rfl := Option.some.inj H
               have jg : wc.cell? ⟨qc, 0, none⟩ = some (.slice A0_0 l0_0.length c0_0) := bc_ qa 0
               have jh : wc.cell? ⟨qc, 1, none⟩ = some (.int .i64 a0_1) := bc_ qa 1
               have ji : wc.cell? ⟨qc, 2, none⟩ = some (.bool false) := bc_ qa 2
               have jj := blk_frozen qa.out 0
               have jk := blk_frozen qa.out 1
               have jl := blk_frozen qa.out 2
               go_wp2_with (first | ((with_reducible refine gate_callee (f := 50) rfl ?_); refine goesL_ (some 66) rfl rfl Tryd.func50 (by kernel_rfl) rfl #[.int .i64 a0_1] rfl (by (try simp only [List.map_toArray, List.map_cons, List.map_nil]); first | done | rfl | (simp only [List.length_drop, List.length_take]; rfl)) ?_; (with_reducible refine (spec_FormatInt.calls kj41 a0_1 qf _ A47.out).mono ?_); rintro e w' ⟨rfl, ⟨nd, rfl⟩⟩; refine ⟨_, rfl, ?_⟩))
               go_ret
               exact ⟨by first | rfl | (simp [errW_none, errW_some] <;> rfl) | (simp [*, errW_none, errW_some] <;> rfl), bb_ HB⟩
              ·
               rw [if_neg c52] at H
               exact absurd H (by simp)
            ·
             rw [if_neg c48] at H
             exact absurd H (by simp)
           ·
            replace c46 := Bool.eq_false_iff.mpr c46
            subst c46
            have H1 : (if a0_2 = true then (if qd.size + 2 ≤ 9223372036854775807 then (some (qd ++ (⟨#[60, 48]⟩ : ByteArray))) else (none)) else (if qd.size + 3 ≤ 9223372036854775807 then (some (qd ++ (⟨#[60, 61, 48]⟩ : ByteArray))) else (none))) = some r := by rw [if_neg (show ¬ (false = true) by decide)] at H; exact H
            clear H
            have H := H1
            clear H1
            by_cases c54 : a0_2 = true
            ·
             subst c54
             have H1 : (if qd.size + 2 ≤ 9223372036854775807 then (some (qd ++ (⟨#[60, 48]⟩ : ByteArray))) else (none)) = some r := by rw [if_pos rfl] at H; exact H
             clear H
             have H := H1
             clear H1
             by_cases c55 : qd.size + 2 ≤ 9223372036854775807
             ·
              rw [if_pos c55] at H
              have jM := eq_true c55
              have jN : decide (qd.size + 2 ≤ 9223372036854775807) = true := decide_eq_true c55
              try have jO : (9223372036854775807 < qd.size + 2) = False := eq_false (Nat.not_lt.2 c55)
              obtain rfl := Option.some.inj H
              have jm : wc.cell? ⟨qc, 0, none⟩ = some (.slice A0_0 l0_0.length c0_0) := bc_ qa 0
              have jn : wc.cell? ⟨qc, 1, none⟩ = some (.int .i64 a0_1) := bc_ qa 1
              have jo : wc.cell? ⟨qc, 2, none⟩ = some (.bool true) := bc_ qa 2
              have jp := blk_frozen qa.out 0
              have jq := blk_frozen qa.out 1
              have jr := blk_frozen qa.out 2
              go_wp2
              go_ret
              exact ⟨by first | rfl | (simp [errW_none, errW_some] <;> rfl) | (simp [*, errW_none, errW_some] <;> rfl), bb_ HB⟩
             ·
              rw [if_neg c55] at H
              exact absurd H (by simp)
            ·
             replace c54 := Bool.eq_false_iff.mpr c54
             subst c54
             have H1 : (if qd.size + 3 ≤ 9223372036854775807 then (some (qd ++ (⟨#[60, 61, 48]⟩ : ByteArray))) else (none)) = some r := by rw [if_neg (show ¬ (false = true) by decide)] at H; exact H
             clear H
             have H := H1
             clear H1
             by_cases c57 : qd.size + 3 ≤ 9223372036854775807
             ·
              rw [if_pos c57] at H
              have jP := eq_true c57
              have jQ : decide (qd.size + 3 ≤ 9223372036854775807) = true := decide_eq_true c57
              try have jR : (9223372036854775807 < qd.size + 3) = False := eq_false (Nat.not_lt.2 c57)
              obtain rfl := Option.some.inj H
              have js : wc.cell? ⟨qc, 0, none⟩ = some (.slice A0_0 l0_0.length c0_0) := bc_ qa 0
              have jt : wc.cell? ⟨qc, 1, none⟩ = some (.int .i64 a0_1) := bc_ qa 1
              have ju : wc.cell? ⟨qc, 2, none⟩ = some (.bool false) := bc_ qa 2
              have jv := blk_frozen qa.out 0
              have jw := blk_frozen qa.out 1
              have jx := blk_frozen qa.out 2
              go_wp2
              go_ret
              exact ⟨by first | rfl | (simp [errW_none, errW_some] <;> rfl) | (simp [*, errW_none, errW_some] <;> rfl), bb_ HB⟩
             ·
              rw [if_neg c57] at H
              exact absurd H (by simp)
 ·
  replace c3 := Bool.eq_false_iff.mpr c3
  subst c3
  have H1 : (some (⟨#[]⟩ : ByteArray)) = some r := by rw [if_neg (show ¬ (false = true) by decide)] at H; exact H
  clear H
  have H := H1
  clear H1
  obtain rfl := Option.some.inj H
  go_enter Tryd.func12, Tryd.ntmps12
  go_wp2_with (first | ((with_reducible refine gate_dst (N := 1) rfl ?_); refine box_event ?hg (N := 1) ?hd (cs := #[.slice A0_0 l0_0.length c0_0, .int .i64 a0_1, .bool a0_2]) (t := 27) ?hr ?_; (case hd => rfl); (case hg => rfl); (case hr => first | (go_simp; done) | (go_simp; rfl)); intro qc hg jE hbox hb; have qa := Aside0.mk (hbox); have z2 := Aside0.mk ((by rw [hg]; exact (bz_ HB) : w.heap.size ≤ qc)); have z3 := Aside0.mk ((by rw [hg]; exact (bz_ HB) : w.heap.size ≤ qc)); replace HB := bS_ HB hb; clear hb hbox hg; have jy : jE.cell? ⟨qc, 0, none⟩ = some (.slice A0_0 l0_0.length c0_0) := bc_ qa 0; have jz : jE.cell? ⟨qc, 1, none⟩ = some (.int .i64 a0_1) := bc_ qa 1; have jA : jE.cell? ⟨qc, 2, none⟩ = some (.bool a0_2) := bc_ qa 2; have jB := blk_frozen qa.out 0; have jC := blk_frozen qa.out 1; have jD := blk_frozen qa.out 2) | ((with_reducible refine gate_callee (f := 46) rfl ?_); refine goesL_ (some 7) rfl rfl Tryd.func46 (by kernel_rfl) rfl #[.agg #[.slice A0_0 l0_0.length c0_0, .int .i64 a0_1, .bool a0_2]] rfl (by (try simp only [List.map_toArray, List.map_cons, List.map_nil]); first | done | rfl | (simp only [List.length_drop, List.length_take]; rfl)) ?_; (with_reducible refine (spec_IsAtom.calls k _ _ l0_0 a0_1 a0_2 false _ ?side1 ?side2 A2.out).mono ?_); (case side1 => exact cb_ qZ HB); (case side2 => exact zX.out); rintro e jS ⟨rfl, hb⟩; refine ⟨_, rfl, ?_⟩; replace qa := kB_ qa hb; replace HB := bS_ HB hb; (try clear hb); (try clear hb2); (try clear hk); (try clear hi)))
  go_ret
  exact ⟨by first | rfl | (simp [errW_none, errW_some] <;> rfl) | (simp [*, errW_none, errW_some] <;> rfl), bb_ HB⟩

/-! ### spec_l3Text: function 64 -/
def spec_l3Text.l0 : Nat → ByteArray → Int → Int → List (S27) → Option (ByteArray)
 | 0, _, _, _, _ => none
 | k + 1, x3, x4, x127000, x127001 => if x4 < (x127001.length : Int) then (if x4 > 0 then (if x3.size + 1 ≤ 9223372036854775807 then (if 0 ≤ x4 then ((spec_FormatAtom.f k ((rd_T27 x127001 x4).f0) ((rd_T27 x127001 x4).f1) ((rd_T27 x127001 x4).f2)).bind fun qe => (if (x3 ++ (⟨#[44]⟩ : ByteArray)).size + qe.size ≤ 9223372036854775807 then (spec_l3Text.l0 k ((x3 ++ (⟨#[44]⟩ : ByteArray)) ++ qe) (wrap64 (x4 + 1)) x127000 x127001) else (none))) else (none)) else (none)) else (if 0 ≤ x4 then ((spec_FormatAtom.f k ((rd_T27 x127001 x4).f0) ((rd_T27 x127001 x4).f1) ((rd_T27 x127001 x4).f2)).bind fun qf => (if x3.size + qf.size ≤ 9223372036854775807 then (spec_l3Text.l0 k (x3 ++ qf) (wrap64 (x4 + 1)) x127000 x127001) else (none))) else (none))) else (if x3.size + 1 ≤ 9223372036854775807 then (some (x3 ++ (⟨#[125]⟩ : ByteArray))) else (none))
def spec_l3Text.f (k : Nat) (a0_0 : Int) (l0_1 : List (S27)) : Option (ByteArray) := spec_l3Text.l0 k (⟨#[123]⟩ : ByteArray) 0 a0_0 l0_1
theorem spec_l3Text.mono_l : ∀ k, (∀ y0 y1 y2 y3, LeO (spec_l3Text.l0 k y0 y1 y2 y3) (spec_l3Text.l0 (k + 1) y0 y1 y2 y3))
 | 0 => fun _ _ _ _ r h => by simp [spec_l3Text.l0] at h
 | k + 1 => by
  have ih0 := spec_l3Text.mono_l k
  ·
   intro y0 y1 y2 y3
   unfold spec_l3Text.l0
   repeat' first
   | (with_reducible exact ih0 _ _ _ _)
   | (with_reducible exact spec_FormatAtom.mono _ _ _ _)
   | (with_reducible exact LeO.refl _)
   | (with_reducible exact LeO.none _)
   | (with_reducible refine LeO.ite ?_ ?_)
   | (with_reducible refine LeO.bind ?_ (fun _ => ?_))
   | exact ih0 _ _ _ _
   | exact spec_FormatAtom.mono _ _ _ _
   | exact LeO.none _
   | refine LeO.ite ?_ ?_
   | refine LeO.bind ?_ (fun _ => ?_)
theorem spec_l3Text.mono : ∀ a0 a1 k, LeO (spec_l3Text.f k a0 a1) (spec_l3Text.f (k + 1) a0 a1) := by
 intro a0 a1 k
 have ih0 := spec_l3Text.mono_l k
 unfold spec_l3Text.f
 repeat' first
   | (with_reducible exact ih0 _ _ _ _)
   | (with_reducible exact spec_FormatAtom.mono _ _ _ _)
   | (with_reducible exact LeO.refl _)
   | (with_reducible exact LeO.none _)
   | (with_reducible refine LeO.ite ?_ ?_)
   | (with_reducible refine LeO.bind ?_ (fun _ => ?_))
   | exact ih0 _ _ _ _
   | exact spec_FormatAtom.mono _ _ _ _
   | exact LeO.none _
   | refine LeO.ite ?_ ?_
   | refine LeO.bind ?_ (fun _ => ?_)
set_option maxHeartbeats 8000000 in
set_option maxRecDepth 100000 in
theorem spec_l3Text.calls (k : Nat) (a0_0 : Int) (A0_1 : Option Addr) (c0_1 : Nat) (l0_1 : List (S27)) (r : ByteArray) (w : World) (hr0_1 : Kd.C k27 w A0_1 l0_1.length l0_1) (hc0_1 : l0_1.length ≤ c0_1) (h : spec_l3Text.f k a0_0 l0_1 = some r) :
  Calls Tryd.prog 64 #[.agg #[.int .i64 a0_0, .slice A0_1 l0_1.length c0_1]] w fun e w' => e = .returned (.string r) ∧ Below w.heap.size w w' := by
 have hu41 := Tryd.underlying41
 have hu27 := Tryd.underlying27
 have qq := Aside0.mk hr0_1
 have qJ := Aside0.mk hc0_1
 clear hr0_1 hc0_1
 have HB := Aside0.mk (Below.refl w.heap.size w)
 have H : (spec_l3Text.l0 k (⟨#[123]⟩ : ByteArray) 0 a0_0 l0_1) = some r := h
 clear h
 have H' := Aside0.mk H
 clear H
 go_enter Tryd.func64, Tryd.ntmps64
 go_wp2_with (first | ((with_reducible refine gate_dst (N := 1) rfl ?_); refine box_event ?hg (N := 1) ?hd (cs := #[.int .i64 a0_0, .slice A0_1 l0_1.length c0_1]) (t := 41) ?hr ?_; (case hd => rfl); (case hg => rfl); (case hr => first | (go_simp; done) | (go_simp; rfl)); intro qd hg w2 hbox hb; have qb := Aside0.mk (hbox); have qK := Aside0.mk ((by rw [hg]; exact (bz_ HB) : w.heap.size ≤ qd)); have qL := Aside0.mk ((by rw [hg]; exact (bz_ HB) : w.heap.size ≤ qd)); replace HB := bS_ HB hb; clear hb hbox hg))
 go_loopg [3, 4] k (fun kq v3 v4 w' => ∃ (qc : ByteArray) (qa : Int), v3 = .string qc ∧ v4 = .int .i64 qa ∧ Aside0 (spec_l3Text.l0 kq qc qa a0_0 l0_1 = some r) ∧ Aside0 (kq ≤ k) ∧ Aside0 (w'.heap[qd]? = some (.cells #[.int .i64 a0_0, (.slice A0_1 l0_1.length c0_1)] 41 (0, 0))) ∧ Aside0 (Below w.heap.size w w'))
 case atStart => exact ⟨((⟨#[123]⟩ : ByteArray)), (0), (by first | rfl | (simp; done) | (simp [*]; done)), (by first | rfl | (simp; done) | (simp [*]; done)), H', ⟨Nat.le_refl _⟩, ⟨kf_ qb⟩, ⟨bb_ HB⟩⟩
 case round =>
  clear H'
  try clear p2
  obtain ⟨qc, qa, rfl, rfl, HA, HK1, qb, HB⟩ := hrel
  cases gk with
  | zero => exact absurd HA.out (by simp [spec_l3Text.l0])
  | succ k1 =>
   have H := HA.out
   clear HA
   simp only [spec_l3Text.l0] at H
   by_cases c3 : qa < (l0_1.length : Int)
   ·
    rw [if_pos c3] at H
    have qB : decide (qa < (l0_1.length : Int)) = true := decide_eq_true c3
    clear c3
    by_cases c4 : qa > 0
    ·
     rw [if_pos c4] at H
     have qC : decide (0 < qa) = true := decide_eq_true c4
     clear c4
     by_cases c5 : qc.size + 1 ≤ 9223372036854775807
     ·
      rw [if_pos c5] at H
      have qV := eq_true c5
      have qW : decide (qc.size + 1 ≤ 9223372036854775807) = true := decide_eq_true c5
      try have qX : (9223372036854775807 < qc.size + 1) = False := eq_false (Nat.not_lt.2 c5)
      by_cases c6 : 0 ≤ qa
      ·
       rw [if_pos c6] at H
       have qY : decide (0 ≤ qa) = true := decide_eq_true c6
       clear c6
       replace H := Option.bind_eq_some_iff.mp H
       obtain ⟨qe, A70, H⟩ := H
       replace H : (if (qc ++ (⟨#[44]⟩ : ByteArray)).size + qe.size ≤ 9223372036854775807 then (spec_l3Text.l0 k1 ((qc ++ (⟨#[44]⟩ : ByteArray)) ++ qe) (wrap64 (qa + 1)) a0_0 l0_1) else (none)) = some r := H
       have A7 := Aside0.mk A70
       clear A70
       by_cases c8 : (qc ++ (⟨#[44]⟩ : ByteArray)).size + qe.size ≤ 9223372036854775807
       ·
        rw [if_pos c8] at H
        have qZ := eq_true c8
        have q0 : decide ((qc ++ (⟨#[44]⟩ : ByteArray)).size + qe.size ≤ 9223372036854775807) = true := decide_eq_true c8
        try have qD : (9223372036854775807 < (qc ++ (⟨#[44]⟩ : ByteArray)).size + qe.size) = False := eq_false (Nat.not_lt.2 c8)
        try (have qE := qD; simp only [ByteArray.size_append, show ∀ c, (ByteArray.mk #[c]).size = 1 from fun _ => rfl, show ∀ c d, (ByteArray.mk #[c, d]).size = 2 from fun _ _ => rfl, show ∀ c d e, (ByteArray.mk #[c, d, e]).size = 3 from fun _ _ _ => rfl] at qE)
        have H' := Aside0.mk H
        clear H
        have qF : wr.cell? ⟨qd, 0, none⟩ = some (.int .i64 a0_0) := bc_ qb 0
        have qG : wr.cell? ⟨qd, 1, none⟩ = some (.slice A0_1 l0_1.length c0_1) := bc_ qb 1
        have qH := blk_frozen qb.out 0
        have qI := blk_frozen qb.out 1
        have p127 : 0 ≤ (qa : Int) := of_decide_eq_true (by first | (with_reducible assumption) | assumption)
        have q127 : qa < (l0_1.length : Int) := of_decide_eq_true (by first | (with_reducible assumption) | assumption)
        obtain ⟨qM, qr, c127_0, e127, qg, qh, qi, hl127_0, hi127_0⟩ := at_T27 qq.out qa p127 q127
        cases e127
        replace qg := (HB.out.cell (World.block_lt_of_cell? w _ qg)).trans qg
        replace qh := (HB.out.cell (World.block_lt_of_cell? w _ qh)).trans qh
        replace qi := (HB.out.cell (World.block_lt_of_cell? w _ qi)).trans qi
        have qm := Aside0.mk hi127_0
        have qn := Aside0.mk hl127_0
        clear hi127_0 hl127_0
        replace p127 := eq_true p127
        replace q127 := eq_true q127
        go_wp2_with (first | ((with_reducible refine gate_callee (f := 12) rfl ?_); refine goesL_ (some 22) rfl rfl Tryd.func12 (by kernel_rfl) rfl #[.agg #[.slice qr ((rd_T27 l0_1 qa).f0).length c127_0, .int .i64 ((rd_T27 l0_1 qa).f1), .bool ((rd_T27 l0_1 qa).f2)]] rfl (by (try simp only [List.map_toArray, List.map_cons, List.map_nil]); first | done | rfl | (simp only [List.length_drop, List.length_take]; rfl)) ?_; (with_reducible refine (spec_FormatAtom.calls k1 _ _ ((rd_T27 l0_1 qa).f0) ((rd_T27 l0_1 qa).f1) ((rd_T27 l0_1 qa).f2) qe _ ?side1 ?side2 A7.out).mono ?_); (case side1 => exact cb_ qm HB); (case side2 => exact qn.out); rintro e q1 ⟨rfl, hb⟩; refine ⟨_, rfl, ?_⟩; replace qb := kB_ qb hb; replace HB := bS_ HB hb; (try clear hb); (try clear hb2); (try clear hk); (try clear hi)))
        go_roundg k1
        case measure => have := HK1.out; omega
        case rel => exact ⟨((qc ++ (⟨#[44]⟩ : ByteArray)) ++ qe), (wrap64 (qa + 1)), (by first | rfl | (simp; done) | (simp [*]; done)), (by first | rfl | (simp; done) | (simp [*]; done)), H', ⟨by have := HK1.out; omega⟩, ⟨kf_ qb⟩, ⟨bb_ HB⟩⟩
       ·
        rw [if_neg c8] at H
        exact absurd H (by simp)
      ·
       rw [if_neg c6] at H
       exact absurd H (by simp)
     ·
      rw [if_neg c5] at H
      exact absurd H (by simp)
    ·
     rw [if_neg c4] at H
     have qC : decide (0 < qa) = false := decide_eq_false c4
     clear c4
     by_cases c11 : 0 ≤ qa
     ·
      rw [if_pos c11] at H
      have qN : decide (0 ≤ qa) = true := decide_eq_true c11
      clear c11
      replace H := Option.bind_eq_some_iff.mp H
      obtain ⟨qf, A120, H⟩ := H
      replace H : (if qc.size + qf.size ≤ 9223372036854775807 then (spec_l3Text.l0 k1 (qc ++ qf) (wrap64 (qa + 1)) a0_0 l0_1) else (none)) = some r := H
      have A12 := Aside0.mk A120
      clear A120
      by_cases c13 : qc.size + qf.size ≤ 9223372036854775807
      ·
       rw [if_pos c13] at H
       have qO := eq_true c13
       have qP : decide (qc.size + qf.size ≤ 9223372036854775807) = true := decide_eq_true c13
       try have qQ : (9223372036854775807 < qc.size + qf.size) = False := eq_false (Nat.not_lt.2 c13)
       have H' := Aside0.mk H
       clear H
       have qt : wr.cell? ⟨qd, 0, none⟩ = some (.int .i64 a0_0) := bc_ qb 0
       have qu : wr.cell? ⟨qd, 1, none⟩ = some (.slice A0_1 l0_1.length c0_1) := bc_ qb 1
       have qv := blk_frozen qb.out 0
       have qw := blk_frozen qb.out 1
       have p129 : 0 ≤ (qa : Int) := of_decide_eq_true (by first | (with_reducible assumption) | assumption)
       have q129 : qa < (l0_1.length : Int) := of_decide_eq_true (by first | (with_reducible assumption) | assumption)
       obtain ⟨qR, qs, c129_0, e129, qj, qk, ql, hl129_0, hi129_0⟩ := at_T27 qq.out qa p129 q129
       cases e129
       replace qj := (HB.out.cell (World.block_lt_of_cell? w _ qj)).trans qj
       replace qk := (HB.out.cell (World.block_lt_of_cell? w _ qk)).trans qk
       replace ql := (HB.out.cell (World.block_lt_of_cell? w _ ql)).trans ql
       have qo := Aside0.mk hi129_0
       have qp := Aside0.mk hl129_0
       clear hi129_0 hl129_0
       replace p129 := eq_true p129
       replace q129 := eq_true q129
       go_wp2_with (first | ((with_reducible refine gate_callee (f := 12) rfl ?_); refine goesL_ (some 22) rfl rfl Tryd.func12 (by kernel_rfl) rfl #[.agg #[.slice qs ((rd_T27 l0_1 qa).f0).length c129_0, .int .i64 ((rd_T27 l0_1 qa).f1), .bool ((rd_T27 l0_1 qa).f2)]] rfl (by (try simp only [List.map_toArray, List.map_cons, List.map_nil]); first | done | rfl | (simp only [List.length_drop, List.length_take]; rfl)) ?_; (with_reducible refine (spec_FormatAtom.calls k1 _ _ ((rd_T27 l0_1 qa).f0) ((rd_T27 l0_1 qa).f1) ((rd_T27 l0_1 qa).f2) qf _ ?side1 ?side2 A12.out).mono ?_); (case side1 => exact cb_ qo HB); (case side2 => exact qp.out); rintro e q2 ⟨rfl, hb⟩; refine ⟨_, rfl, ?_⟩; replace qb := kB_ qb hb; replace HB := bS_ HB hb; (try clear hb); (try clear hb2); (try clear hk); (try clear hi)))
       go_roundg k1
       case measure => have := HK1.out; omega
       case rel => exact ⟨(qc ++ qf), (wrap64 (qa + 1)), (by first | rfl | (simp; done) | (simp [*]; done)), (by first | rfl | (simp; done) | (simp [*]; done)), H', ⟨by have := HK1.out; omega⟩, ⟨kf_ qb⟩, ⟨bb_ HB⟩⟩
      ·
       rw [if_neg c13] at H
       exact absurd H (by simp)
     ·
      rw [if_neg c11] at H
      exact absurd H (by simp)
   ·
    rw [if_neg c3] at H
    have qB : decide (qa < (l0_1.length : Int)) = false := decide_eq_false c3
    clear c3
    by_cases c16 : qc.size + 1 ≤ 9223372036854775807
    ·
     rw [if_pos c16] at H
     have qS := eq_true c16
     have qT : decide (qc.size + 1 ≤ 9223372036854775807) = true := decide_eq_true c16
     try have qU : (9223372036854775807 < qc.size + 1) = False := eq_false (Nat.not_lt.2 c16)
     obtain rfl := Option.some.inj H
     have qx : wr.cell? ⟨qd, 0, none⟩ = some (.int .i64 a0_0) := bc_ qb 0
     have qy : wr.cell? ⟨qd, 1, none⟩ = some (.slice A0_1 l0_1.length c0_1) := bc_ qb 1
     have qz := blk_frozen qb.out 0
     have qA := blk_frozen qb.out 1
     go_wp2
     go_ret
     exact ⟨by first | rfl | (simp [errW_none, errW_some] <;> rfl) | (simp [*, errW_none, errW_some] <;> rfl), bb_ HB⟩
    ·
     rw [if_neg c16] at H
     exact absurd H (by simp)

/-! ### spec_FormatCell: function 19 -/
def spec_FormatCell.f (k : Nat) (a0_0 : Int) (l0_1 : List (S27)) : Option (ByteArray) := (spec_IsCell.f k a0_0 l0_1).bind fun qe => (if qe = true then ((spec_FormatInt.f k a0_0).bind fun qc => ((spec_l3Text.f k a0_0 l0_1).bind fun qb => (if qc.size + qb.size ≤ 9223372036854775807 then (some (qc ++ qb)) else (none)))) else (some (⟨#[]⟩ : ByteArray)))
theorem spec_FormatCell.mono : ∀ a0 a1 k, LeO (spec_FormatCell.f k a0 a1) (spec_FormatCell.f (k + 1) a0 a1) := by
 intro a0 a1 k
 unfold spec_FormatCell.f
 repeat' first
   | (with_reducible exact spec_FormatInt.mono _ _)
   | (with_reducible exact spec_IsCell.mono _ _ _)
   | (with_reducible exact spec_l3Text.mono _ _ _)
   | (with_reducible exact LeO.refl _)
   | (with_reducible exact LeO.none _)
   | (with_reducible refine LeO.ite ?_ ?_)
   | (with_reducible refine LeO.bind ?_ (fun _ => ?_))
   | exact spec_FormatInt.mono _ _
   | exact spec_IsCell.mono _ _ _
   | exact spec_l3Text.mono _ _ _
   | exact LeO.none _
   | refine LeO.ite ?_ ?_
   | refine LeO.bind ?_ (fun _ => ?_)
set_option maxHeartbeats 8000000 in
set_option maxRecDepth 100000 in
theorem spec_FormatCell.calls (k : Nat) (a0_0 : Int) (A0_1 : Option Addr) (c0_1 : Nat) (l0_1 : List (S27)) (r : ByteArray) (w : World) (hr0_1 : Kd.C k27 w A0_1 l0_1.length l0_1) (hc0_1 : l0_1.length ≤ c0_1) (h : spec_FormatCell.f k a0_0 l0_1 = some r) :
  Calls Tryd.prog 19 #[.agg #[.int .i64 a0_0, .slice A0_1 l0_1.length c0_1]] w fun e w' => e = .returned (.string r) ∧ Below w.heap.size w w' := by
 have hu41 := Tryd.underlying41
 have qf := Aside0.mk hr0_1
 have qg := Aside0.mk hc0_1
 clear hr0_1 hc0_1
 have HB := Aside0.mk (Below.refl w.heap.size w)
 have H : ((spec_IsCell.f k a0_0 l0_1).bind fun qe => (if qe = true then ((spec_FormatInt.f k a0_0).bind fun qc => ((spec_l3Text.f k a0_0 l0_1).bind fun qb => (if qc.size + qb.size ≤ 9223372036854775807 then (some (qc ++ qb)) else (none)))) else (some (⟨#[]⟩ : ByteArray)))) = some r := h
 clear h
 replace H := Option.bind_eq_some_iff.mp H
 obtain ⟨qe, A20, H⟩ := H
 replace H : (if qe = true then ((spec_FormatInt.f k a0_0).bind fun qc => ((spec_l3Text.f k a0_0 l0_1).bind fun qb => (if qc.size + qb.size ≤ 9223372036854775807 then (some (qc ++ qb)) else (none)))) else (some (⟨#[]⟩ : ByteArray))) = some r := H
 have A2 := Aside0.mk A20
 clear A20
 by_cases c3 : qe = true
 ·
  subst c3
  have H1 : ((spec_FormatInt.f k a0_0).bind fun qc => ((spec_l3Text.f k a0_0 l0_1).bind fun qb => (if qc.size + qb.size ≤ 9223372036854775807 then (some (qc ++ qb)) else (none)))) = some r := by rw [if_pos rfl] at H; exact H
  clear H
  have H := H1
  clear H1
  replace H := Option.bind_eq_some_iff.mp H
  obtain ⟨qc, A40, H⟩ := H
  replace H : ((spec_l3Text.f k a0_0 l0_1).bind fun qb => (if qc.size + qb.size ≤ 9223372036854775807 then (some (qc ++ qb)) else (none))) = some r := H
  have A4 := Aside0.mk A40
  clear A40
  replace H := Option.bind_eq_some_iff.mp H
  obtain ⟨qb, A50, H⟩ := H
  replace H : (if qc.size + qb.size ≤ 9223372036854775807 then (some (qc ++ qb)) else (none)) = some r := H
  have A5 := Aside0.mk A50
  clear A50
  by_cases c6 : qc.size + qb.size ≤ 9223372036854775807
  ·
   rw [if_pos c6] at H
   have qs := eq_true c6
   have qt : decide (qc.size + qb.size ≤ 9223372036854775807) = true := decide_eq_true c6
   try have qu : (9223372036854775807 < qc.size + qb.size) = False := eq_false (Nat.not_lt.2 c6)
   obtain rfl := Option.some.inj H
   go_enter Tryd.func19, Tryd.ntmps19
   try go_wp2_with (first | ((with_reducible refine gate_dst (N := 1) rfl ?_); refine box_event ?hg (N := 1) ?hd (cs := #[.int .i64 a0_0, .slice A0_1 l0_1.length c0_1]) (t := 41) ?hr ?_; (case hd => rfl); (case hg => rfl); (case hr => first | (go_simp; done) | (go_simp; rfl)); intro qd hg w7 hbox hb; have qa := Aside0.mk (hbox); have qh := Aside0.mk ((by rw [hg]; exact (bz_ HB) : w.heap.size ≤ qd)); have qi := Aside0.mk ((by rw [hg]; exact (bz_ HB) : w.heap.size ≤ qd)); replace HB := bS_ HB hb; clear hb hbox hg; have qn : w7.cell? ⟨qd, 0, none⟩ = some (.int .i64 a0_0) := bc_ qa 0; have qo : w7.cell? ⟨qd, 1, none⟩ = some (.slice A0_1 l0_1.length c0_1) := bc_ qa 1; have qp := blk_frozen qa.out 0; have qq := blk_frozen qa.out 1) | ((with_reducible refine gate_callee (f := 63) rfl ?_); refine goesL_ (some 4) rfl rfl Tryd.func63 (by kernel_rfl) rfl #[.agg #[.int .i64 a0_0, .slice A0_1 l0_1.length c0_1]] rfl (by (try simp only [List.map_toArray, List.map_cons, List.map_nil]); first | done | rfl | (simp only [List.length_drop, List.length_take]; rfl)) ?_; (with_reducible refine (spec_IsCell.calls k a0_0 _ _ l0_1 true _ ?side1 ?side2 A2.out).mono ?_); (case side1 => exact cb_ qf HB); (case side2 => exact qg.out); rintro e w9 ⟨rfl, hb⟩; refine ⟨_, rfl, ?_⟩; replace qa := kB_ qa hb; replace HB := bS_ HB hb; (try clear hb); (try clear hb2); (try clear hk); (try clear hi)))
   replace qa := Aside0.mk (blk_drew qa.out); replace HB := Aside0.mk (below_drew1 HB.out)
   refine start_ (n := 7) (S := fun w' => w'.cell? ⟨qd, 0, none⟩ = some (.int .i64 a0_0) ∧ w'.cell? ⟨qd, 1, none⟩ = some (.slice A0_1 l0_1.length c0_1)) (ds := []) #[false, false, false, false, false, false, false] (by kernel_rfl) rfl rfl ⟨bc_ qa 0, bc_ qa 1⟩ (fun hHeld => ?_)
   generalize w9.drew = qv at qa HB hHeld ⊢
   refine pure_ (i := 0) (N := some 6) (v := ?_) (a' := ?_) #[true, false, false, false, false, false, false] rfl rfl (by kernel_rfl) (fun _ _ _ h => h) (Or.inl ⟨by rfl, ?_⟩) ?_ ?_
   rotate_left
   ·
    intro w'
    go_simp
    with_reducible rfl
   rotate_left
   ·
    simp only [Act.put, List.setIfInBounds_toArray, List.set_cons_zero, List.set_cons_succ, i64_w, i32_w]
    rfl
   refine take_ (i := 1) (N := some 7) (v := ?_) (a' := ?_) #[true, true, false, false, false, false, false] rfl rfl (by kernel_rfl) (fun _ _ _ h => h) (Or.inl ⟨by rfl, ?_⟩) hHeld ?_ ?_
   rotate_left
   ·
    rintro w' ⟨s0, s1⟩
    go_simp
    with_reducible rfl
   rotate_left
   ·
    simp only [Act.put, List.setIfInBounds_toArray, List.set_cons_zero, List.set_cons_succ, i64_w, i32_w]
    rfl
   refine take_ (i := 3) (N := some 9) (v := ?_) (a' := ?_) #[true, true, false, true, false, false, false] rfl rfl (by kernel_rfl) (fun _ _ _ h => h) (Or.inl ⟨by rfl, ?_⟩) hHeld ?_ ?_
   rotate_left
   ·
    rintro w' ⟨s0, s1⟩
    go_simp
    with_reducible rfl
   rotate_left
   ·
    simp only [Act.put, List.setIfInBounds_toArray, List.set_cons_zero, List.set_cons_succ, i64_w, i32_w]
    rfl
   refine one_ (i := 2) (N := some 8) #[true, true, true, true, false, false, false] rfl rfl (by kernel_rfl) (by decide) (fun K hK => ?_)
   refine goes_ Tryd.func50 (by kernel_rfl) rfl #[.int .i64 a0_0] (by rfl) rfl rfl (by (try simp only [List.map_toArray, List.map_cons, List.map_nil]); first | done | rfl | (simp only [List.length_drop, List.length_take]; rfl)) ?_
   with_reducible refine (spec_FormatInt.calls k a0_0 qc _ A4.out).mono ?_
   rintro e w' ⟨rfl, ⟨nd, rfl⟩⟩
   refine ⟨_, rfl, ?_⟩
   refine hK.out _ _ ⟨bc_ qa 0, bc_ qa 1⟩ (fun hHeld => ?_)
   clear hK K
   refine norm_ (a' := ?_) ?_ ?_
   rotate_left
   ·
    show Act.put _ (some 8) _ = _
    simp only [Act.put, List.setIfInBounds_toArray, List.set_cons_zero, List.set_cons_succ, i64_w, i32_w]
    rfl
   refine one_ (i := 4) (N := some 10) #[true, true, true, true, true, false, false] rfl rfl (by kernel_rfl) (by decide) (fun K hK => ?_)
   refine goes_ Tryd.func64 (by kernel_rfl) rfl #[.agg #[.int .i64 a0_0, .slice A0_1 l0_1.length c0_1]] (by rfl) rfl rfl (by (try simp only [List.map_toArray, List.map_cons, List.map_nil]); first | done | rfl | (simp only [List.length_drop, List.length_take]; rfl)) ?_
   with_reducible refine (spec_l3Text.calls k a0_0 _ _ l0_1 qb _ ?side1 ?side2 A5.out).mono ?_
   (case side1 => repeat (first | exact (Kd.C_below qf.out (bb_ HB)) | (with_reducible refine Kd.C_alloc ?_ _) | (with_reducible refine Kd.C_drewN ?_ _) | (with_reducible refine Kd.C_drew ?_)))
   (case side2 => exact qg.out)
   rintro e qw ⟨rfl, hb⟩
   refine ⟨_, rfl, ?_⟩
   replace qa := kB_ qa hb; replace HB := bS_ HB hb; (try clear hb); (try clear hb2); (try clear hk); (try clear hi)
   refine hK.out _ _ ⟨bc_ qa 0, bc_ qa 1⟩ (fun hHeld => ?_)
   clear hK K
   refine norm_ (a' := ?_) ?_ ?_
   rotate_left
   ·
    show Act.put _ (some 10) _ = _
    simp only [Act.put, List.setIfInBounds_toArray, List.set_cons_zero, List.set_cons_succ, i64_w, i32_w]
    rfl
   refine pure_ (i := 5) (N := some 11) (v := ?_) (a' := ?_) #[true, true, true, true, true, true, false] rfl rfl (by kernel_rfl) (fun _ _ _ h => h) (Or.inl ⟨by rfl, ?_⟩) ?_ ?_
   rotate_left
   ·
    intro w'
    go_simp
    with_reducible rfl
   rotate_left
   ·
    simp only [Act.put, List.setIfInBounds_toArray, List.set_cons_zero, List.set_cons_succ, i64_w, i32_w]
    rfl
   refine pure_ (i := 6) (N := some 2) (v := ?_) (a' := ?_) #[true, true, true, true, true, true, true] rfl rfl (by kernel_rfl) (fun _ _ _ h => h) (Or.inl ⟨by rfl, ?_⟩) ?_ ?_
   rotate_left
   ·
    intro w'
    go_simp
    with_reducible rfl
   rotate_left
   ·
    simp only [Act.put, List.setIfInBounds_toArray, List.set_cons_zero, List.set_cons_succ, i64_w, i32_w]
    rfl
   refine done_ (by kernel_rfl) ?_
   try go_wp2
   go_ret
   exact ⟨by first | rfl | (simp [errW_none, errW_some] <;> rfl) | (simp [*, errW_none, errW_some] <;> rfl), bb_ HB⟩
  ·
   rw [if_neg c6] at H
   exact absurd H (by simp)
 ·
  replace c3 := Bool.eq_false_iff.mpr c3
  subst c3
  have H1 : (some (⟨#[]⟩ : ByteArray)) = some r := by rw [if_neg (show ¬ (false = true) by decide)] at H; exact H
  clear H
  have H := H1
  clear H1
  obtain rfl := Option.some.inj H
  go_enter Tryd.func19, Tryd.ntmps19
  go_wp2_with (first | ((with_reducible refine gate_dst (N := 1) rfl ?_); refine box_event ?hg (N := 1) ?hd (cs := #[.int .i64 a0_0, .slice A0_1 l0_1.length c0_1]) (t := 41) ?hr ?_; (case hd => rfl); (case hg => rfl); (case hr => first | (go_simp; done) | (go_simp; rfl)); intro qd hg qr hbox hb; have qa := Aside0.mk (hbox); have qh := Aside0.mk ((by rw [hg]; exact (bz_ HB) : w.heap.size ≤ qd)); have qi := Aside0.mk ((by rw [hg]; exact (bz_ HB) : w.heap.size ≤ qd)); replace HB := bS_ HB hb; clear hb hbox hg; have qj : qr.cell? ⟨qd, 0, none⟩ = some (.int .i64 a0_0) := bc_ qa 0; have qk : qr.cell? ⟨qd, 1, none⟩ = some (.slice A0_1 l0_1.length c0_1) := bc_ qa 1; have ql := blk_frozen qa.out 0; have qm := blk_frozen qa.out 1) | ((with_reducible refine gate_callee (f := 63) rfl ?_); refine goesL_ (some 4) rfl rfl Tryd.func63 (by kernel_rfl) rfl #[.agg #[.int .i64 a0_0, .slice A0_1 l0_1.length c0_1]] rfl (by (try simp only [List.map_toArray, List.map_cons, List.map_nil]); first | done | rfl | (simp only [List.length_drop, List.length_take]; rfl)) ?_; (with_reducible refine (spec_IsCell.calls k a0_0 _ _ l0_1 false _ ?side1 ?side2 A2.out).mono ?_); (case side1 => exact cb_ qf HB); (case side2 => exact qg.out); rintro e qx ⟨rfl, hb⟩; refine ⟨_, rfl, ?_⟩; replace qa := kB_ qa hb; replace HB := bS_ HB hb; (try clear hb); (try clear hb2); (try clear hk); (try clear hi)))
  go_ret
  exact ⟨by first | rfl | (simp [errW_none, errW_some] <;> rfl) | (simp [*, errW_none, errW_some] <;> rfl), bb_ HB⟩

/-! ### laws_toIntS: function 51 -/
def laws_toIntS.l0 : Nat → List Int → List Int → Int → Option (List Int)
 | 0, _, _, _ => none
 | k + 1, x0, x3, x4 => if x4 < (x0.length : Int) then (if 0 ≤ x4 then (if x4 < (x3.length : Int) then (laws_toIntS.l0 k x0 (x3.set (x4 : Int).toNat (rd x0 x4)) (wrap64 (x4 + 1))) else (none)) else (none)) else (some x3)
def laws_toIntS.f (k : Nat) (l0 : List Int) : Option (List Int) := if 0 ≤ (l0.length : Int) then (if ((l0.length : Int) : Int).toNat ≤ 35184372088832 then (laws_toIntS.l0 k l0 (List.replicate ((l0.length : Int) : Int).toNat 0) 0) else (none)) else (none)
theorem laws_toIntS.mono_l : ∀ k, (∀ y0 y1 y2, LeO (laws_toIntS.l0 k y0 y1 y2) (laws_toIntS.l0 (k + 1) y0 y1 y2))
 | 0 => fun _ _ _ r h => by simp [laws_toIntS.l0] at h
 | k + 1 => by
  have ih0 := laws_toIntS.mono_l k
  ·
   intro y0 y1 y2
   unfold laws_toIntS.l0
   repeat' first
   | (with_reducible exact ih0 _ _ _)
   | (with_reducible exact LeO.refl _)
   | (with_reducible exact LeO.none _)
   | (with_reducible refine LeO.ite ?_ ?_)
   | (with_reducible refine LeO.bind ?_ (fun _ => ?_))
   | exact ih0 _ _ _
   | exact LeO.none _
   | refine LeO.ite ?_ ?_
   | refine LeO.bind ?_ (fun _ => ?_)
theorem laws_toIntS.mono : ∀ a0 k, LeO (laws_toIntS.f k a0) (laws_toIntS.f (k + 1) a0) := by
 intro a0 k
 have ih0 := laws_toIntS.mono_l k
 unfold laws_toIntS.f
 repeat' first
   | (with_reducible exact ih0 _ _ _)
   | (with_reducible exact LeO.refl _)
   | (with_reducible exact LeO.none _)
   | (with_reducible refine LeO.ite ?_ ?_)
   | (with_reducible refine LeO.bind ?_ (fun _ => ?_))
   | exact ih0 _ _ _
   | exact LeO.none _
   | refine LeO.ite ?_ ?_
   | refine LeO.bind ?_ (fun _ => ?_)
set_option maxHeartbeats 8000000 in
set_option maxRecDepth 100000 in
theorem laws_toIntS.calls (k : Nat) (A0 : Option Addr) (c0 : Nat) (l0 : List Int) (r : List Int) (w : World) (hr0 : Kd.C (Kd.int .i64) w A0 l0.length l0) (hc0 : l0.length ≤ c0) (h : laws_toIntS.f k l0 = some r) :
  Calls Tryd.prog 51 #[.slice A0 l0.length c0] w fun e w' => ∃ v0_ : Value, e = .returned (v0_) ∧ Kd.R (Kd.int .i64) 3 w' w.heap.size (fun _ => True) v0_ r ∧ Below w.heap.size w w' := by
 have HR0 := Aside0.mk hr0
 have HC0 := Aside0.mk hc0
 clear hr0 hc0
 have HB := Aside0.mk (Below.refl w.heap.size w)
 have H : (if 0 ≤ (l0.length : Int) then (if ((l0.length : Int) : Int).toNat ≤ 35184372088832 then (laws_toIntS.l0 k l0 (List.replicate ((l0.length : Int) : Int).toNat 0) 0) else (none)) else (none)) = some r := h
 clear h
 by_cases c2 : 0 ≤ (l0.length : Int)
 ·
  rw [if_pos c2] at H
  have qg := eq_true c2
  have qh : decide (0 ≤ (l0.length : Int)) = true := decide_eq_true c2
  clear c2
  by_cases c3 : ((l0.length : Int) : Int).toNat ≤ 35184372088832
  ·
   rw [if_pos c3] at H
   have qi := eq_true c3
   have qj : decide (((l0.length : Int) : Int).toNat ≤ 35184372088832) = true := decide_eq_true c3
   clear c3
   obtain ⟨y135, hy135⟩ : ∃ y_ : List Int, y_ = (List.replicate ((l0.length : Int) : Int).toNat 0) := ⟨_, rfl⟩
   replace H : (laws_toIntS.l0 k l0 y135 0) = some r := by first | (rw [hy135]; with_reducible exact H) | (have H2_ := (Option.bind_some _ _).symm.trans H; rw [hy135]; with_reducible exact H2_) | (have H2_ := (Option.bind_some _ _).symm.trans H; with_reducible exact H2_) | with_reducible exact H | (rw [hy135]; exact H) | exact H
   have Ny135 := Aside0.mk hy135
   clear hy135
   have H' := Aside0.mk H
   clear H
   go_enter Tryd.func51, Tryd.ntmps51
   go_wp2_with (first | ((with_reducible refine gate_dst (N := 7) rfl ?_); refine Kd.R_make (Kd.int .i64) _ 3 rfl (N := 7) rfl 22 _ _ rfl (l0.length : Int) rfl rfl Tryd.underlying22 (.int .i64 0) 8 info3 rfl (by decide) (by omega) 0 (ok := fun _ => True) (okp := fun _ => True) rfl (fun _ hk => hk) trivial (of_decide_eq_true (by first | (with_reducible assumption) | assumption)) (Nat.le_trans (Nat.mul_le_mul_right _ (of_decide_eq_true (by first | (with_reducible assumption) | assumption) : (l0.length : Int).toNat ≤ 35184372088832)) (by omega)) (Below.refl _ _) (Nat.le_refl _) ?_; intro qk w4 ho5 hb hg_ hnew_; clear hg_ hnew_; (first | rw [← Ny135.out] at ho5 | (simp only [Int.reduceToNat] at ho5; rw [← Ny135.out] at ho5)); have qf := Aside0.mk (Kd.R_lower ho5 (bz_ HB)); replace HB := bS_ HB hb; clear hb ho5))
   go_loopg [4] k (fun kq v4 w' => ∃ (qc : List Int) (qa : Int), v4 = .int .i64 qa ∧ Aside0 (laws_toIntS.l0 kq l0 qc qa = some r) ∧ Aside0 (kq ≤ k) ∧ Aside0 (Kd.R (Kd.int .i64) 3 w' w.heap.size (fun _ => True) qk qc) ∧ Aside0 (Below w.heap.size w w'))
   case atStart => exact ⟨(y135), (0), (by first | rfl | (simp; done) | (simp [*]; done)), H', ⟨Nat.le_refl _⟩, ⟨by (with_reducible repeat (first | apply Kd.R_alloc | apply Kd.R_drewN | apply Kd.R_drew)); exact qf.out⟩, ⟨bb_ HB⟩⟩
   case round =>
    clear H'
    try clear c2
    try clear qg
    try clear qh
    try clear p2
    try clear c3
    try clear qi
    try clear qj
    try clear c5
    obtain ⟨qc, qa, rfl, HA, HK1, qd, HB⟩ := hrel
    cases gk with
    | zero => exact absurd HA.out (by simp [laws_toIntS.l0])
    | succ k1 =>
     have H := HA.out
     clear HA
     simp only [laws_toIntS.l0] at H
     by_cases c6 : qa < (l0.length : Int)
     ·
      rw [if_pos c6] at H
      have ql : decide (qa < (l0.length : Int)) = true := decide_eq_true c6
      clear c6
      by_cases c7 : 0 ≤ qa
      ·
       rw [if_pos c7] at H
       have qq : decide (0 ≤ qa) = true := decide_eq_true c7
       clear c7
       by_cases c8 : qa < (qc.length : Int)
       ·
        rw [if_pos c8] at H
        have qr : decide (qa < (qc.length : Int)) = true := decide_eq_true c8
        clear c8
        obtain ⟨y139, hy139⟩ : ∃ y_ : List Int, y_ = (qc.set (qa : Int).toNat (rd l0 qa)) := ⟨_, rfl⟩
        replace H : (laws_toIntS.l0 k1 l0 y139 (wrap64 (qa + 1))) = some r := by first | (rw [hy139]; with_reducible exact H) | (have H2_ := (Option.bind_some _ _).symm.trans H; rw [hy139]; with_reducible exact H2_) | (have H2_ := (Option.bind_some _ _).symm.trans H; with_reducible exact H2_) | with_reducible exact H | (rw [hy139]; exact H) | exact H
        have Ny139 := Aside0.mk hy139
        clear hy139
        have H' := Aside0.mk H
        clear H
        have p138 : 0 ≤ (qa : Int) := of_decide_eq_true (by first | (with_reducible assumption) | assumption)
        have q138 : qa < (l0.length : Int) := of_decide_eq_true (by first | (with_reducible assumption) | assumption)
        obtain ⟨qn, e138, qb⟩ := Kd.at_int HR0.out qa p138 q138
        cases e138
        replace qb := (HB.out.cell (World.block_lt_of_cell? w _ qb)).trans qb
        replace p138 := eq_true p138
        replace q138 := eq_true q138
        have p9 : 0 ≤ (qa : Int) := of_decide_eq_true (by first | (with_reducible assumption) | assumption)
        have q9 : (qa : Int) < ((qc.length : Int) : Int) := of_decide_eq_true (by first | (with_reducible assumption) | assumption)
        obtain ⟨go9, qs, eo9, qo, gl9, cl9, HG9⟩ := Kd.R_form qd.out (by omega)
        (first | cases eo9 | (injection eo9 with ea_ en_ ec_; (first | subst ea_ | (injection ea_ with ea_; subst ea_)); subst ec_; clear en_))
        have qt := Aside0.mk qo
        have qu := Aside0.mk HG9
        clear qo gl9 HG9
        obtain ⟨qp, hf9_0⟩ := Kd.R_celln 0 qd.out (qa : Int) p9 q9
        replace p9 := eq_true p9
        replace q9 := eq_true q9
        have qe := Kd.R_putg qd.out (qa : Int) (rd l0 qa)
        go_wp2_with (first | ((with_reducible refine gate_store (t := 3) (p := 20) rfl ?_); refine store_event (t := 3) (p := 20) (v := ?vo_w11) (w1 := (wr.setCell ⟨go9, (qa : Int).toNat, none⟩ (.int .i64 (rd l0 qa)))) ?hg ?ho ?hn ?hr ?_; (case ho => rfl); (case hg => rfl); (case hn => rfl); (case hr => first | (go_simp; done) | (go_simp; rfl)); intro qm hw; have hg : wr.grownBy qm (some go9) := (by rw [hw]; exact qe.2); have hp_ : Kd.R (Kd.int .i64) 3 qm w.heap.size (fun _ => True) (.slice (some ⟨go9, 0, none⟩) qc.length qs) y139 := (by rw [hw, Ny139.out]; exact qe.1); clear qe; replace qd := Aside0.mk (hp_); replace HB := Aside0.mk ((by rw [hw]; exact below_set (HB.out) qt.out : Below w.heap.size w qm)); clear hg hw hp_))
        go_roundg k1
        case measure => have := HK1.out; omega
        case rel => exact ⟨(y139), (wrap64 (qa + 1)), (by first | rfl | (simp; done) | (simp [*]; done)), H', ⟨by have := HK1.out; omega⟩, ⟨by (with_reducible repeat (first | apply Kd.R_alloc | apply Kd.R_drewN | apply Kd.R_drew)); exact qd.out⟩, ⟨bb_ HB⟩⟩
       ·
        rw [if_neg c8] at H
        exact absurd H (by simp)
      ·
       rw [if_neg c7] at H
       exact absurd H (by simp)
     ·
      rw [if_neg c6] at H
      have ql : decide (qa < (l0.length : Int)) = false := decide_eq_false c6
      clear c6
      obtain rfl := Option.some.inj H
      go_wp2
      go_ret
      exact ⟨_, by first | rfl | (simp [errW_none, errW_some] <;> rfl) | (simp [*, errW_none, errW_some] <;> rfl), by (with_reducible repeat (first | apply Kd.R_alloc | apply Kd.R_drewN | apply Kd.R_drew)); exact qd.out, bb_ HB⟩
  ·
   rw [if_neg c3] at H
   exact absurd H (by simp)
 ·
  rw [if_neg c2] at H
  exact absurd H (by simp)

/-! ### laws_toAtom: function 13 -/
def laws_toAtom.f (k : Nat) (l0_0 : List Int) (a0_1 : Int) (a0_2 : Bool) : Option (List Int × Int × Bool) := (laws_toIntS.f k l0_0).bind fun qh => (some (qh, a0_1, a0_2))
theorem laws_toAtom.mono : ∀ a0 a1 a2 k, LeO (laws_toAtom.f k a0 a1 a2) (laws_toAtom.f (k + 1) a0 a1 a2) := by
 intro a0 a1 a2 k
 unfold laws_toAtom.f
 repeat' first
   | (with_reducible exact laws_toIntS.mono _ _)
   | (with_reducible exact LeO.refl _)
   | (with_reducible exact LeO.none _)
   | (with_reducible refine LeO.ite ?_ ?_)
   | (with_reducible refine LeO.bind ?_ (fun _ => ?_))
   | exact laws_toIntS.mono _ _
   | exact LeO.none _
   | refine LeO.ite ?_ ?_
   | refine LeO.bind ?_ (fun _ => ?_)
set_option maxHeartbeats 8000000 in
set_option maxRecDepth 100000 in
theorem laws_toAtom.calls (k : Nat) (A0_0 : Option Addr) (c0_0 : Nat) (l0_0 : List Int) (a0_1 : Int) (a0_2 : Bool) (r1 : List Int) (r2 : Int) (r3 : Bool) (w : World) (hr0_0 : Kd.C (Kd.int .i64) w A0_0 l0_0.length l0_0) (hc0_0 : l0_0.length ≤ c0_0) (h : laws_toAtom.f k l0_0 a0_1 a0_2 = some (r1, r2, r3)) :
  Calls Tryd.prog 13 #[.agg #[.slice A0_0 l0_0.length c0_0, .int .i64 a0_1, .bool a0_2]] w fun e w' => ∃ v0_ : Value, e = .returned (.agg #[v0_, .int .i64 r2, .bool r3]) ∧ Kd.R (Kd.int .i64) 3 w' w.heap.size (fun _ => True) v0_ r1 ∧ Below w.heap.size w w' := by
 have hu24 := Tryd.underlying24
 have hu27 := Tryd.underlying27
 have qq := Aside0.mk hr0_0
 have qr := Aside0.mk hc0_0
 clear hr0_0 hc0_0
 have HB := Aside0.mk (Below.refl w.heap.size w)
 have H : ((laws_toIntS.f k l0_0).bind fun qh => (some (qh, a0_1, a0_2))) = some (r1, r2, r3) := h
 clear h
 replace H := Option.bind_eq_some_iff.mp H
 obtain ⟨qh, A20, H⟩ := H
 replace H : (some (qh, a0_1, a0_2)) = some (r1, r2, r3) := H
 have A2 := Aside0.mk A20
 clear A20
 simp only [Option.some.injEq, Prod.mk.injEq] at H
 obtain ⟨rfl, rfl, rfl⟩ := H
 go_enter Tryd.func13, Tryd.ntmps13
 go_wp2_with (first | ((with_reducible refine gate_dst (N := 1) rfl ?_); refine box_event ?hg (N := 1) ?hd (cs := #[.slice A0_0 l0_0.length c0_0, .int .i64 a0_1, .bool a0_2]) (t := 24) ?hr ?_; (case hd => rfl); (case hg => rfl); (case hr => first | (go_simp; done) | (go_simp; rfl)); intro qd hg w3 hbox hb; have qa := Aside0.mk (hbox); have qQ := Aside0.mk ((by rw [hg]; exact (bz_ HB) : w.heap.size ≤ qd)); have qR := Aside0.mk ((by rw [hg]; exact (bz_ HB) : w.heap.size ≤ qd)); replace HB := bS_ HB hb; clear hb hbox hg) | ((with_reducible refine gate_dst (N := 2) rfl ?_); refine box_event ?hg (N := 2) ?hd (cs := #[.slice none 0 0, .int .i64 0, .bool false]) (t := 27) ?hr ?_; (case hd => rfl); (case hg => rfl); (case hr => first | (go_simp; done) | (go_simp; rfl)); intro qc hg w4 hbox hb; have qb := Aside0.mk (hbox); have qS := Aside0.mk ((by rw [hg]; exact (bz_ HB) : w.heap.size ≤ qc)); have qT := Aside0.mk ((by rw [hg]; exact (bz_ HB) : w.heap.size ≤ qc)); replace HB := bS_ HB hb; have qi := Aside0.mk ((nl_ qa hg : qd ≠ qc)); have qj := Aside0.mk ((ng_ qa hg : qc ≠ qd)); replace qa := kB_ qa hb; clear hb hbox hg) | ((with_reducible refine gate_dst (N := 3) rfl ?_); refine box_event ?hg (N := 3) ?hd (cs := #[.slice none 0 0, .int .i64 0, .bool false]) (t := 27) ?hr ?_; (case hd => rfl); (case hg => rfl); (case hr => first | (go_simp; done) | (go_simp; rfl)); intro qe hg w5 hbox hb; have qg := Aside0.mk (hbox); have qU := Aside0.mk ((by rw [hg]; exact (bz_ HB) : w.heap.size ≤ qe)); have qV := Aside0.mk ((by rw [hg]; exact (bz_ HB) : w.heap.size ≤ qe)); replace HB := bS_ HB hb; have qk := Aside0.mk ((nl_ qa hg : qd ≠ qe)); have ql := Aside0.mk ((ng_ qa hg : qe ≠ qd)); replace qa := kB_ qa hb; have qf := Aside0.mk ((nl_ qb hg : qc ≠ qe)); have qm := Aside0.mk ((ng_ qb hg : qe ≠ qc)); replace qb := kB_ qb hb; clear hb hbox hg; have qY := qi.out; have qZ := qj.out; have q0 := qk.out; have q1 := ql.out; have qK : w5.cell? ⟨qd, 0, none⟩ = some (.slice A0_0 l0_0.length c0_0) := bc_ qa 0; have qL : w5.cell? ⟨qd, 1, none⟩ = some (.int .i64 a0_1) := bc_ qa 1; have qM : w5.cell? ⟨qd, 2, none⟩ = some (.bool a0_2) := bc_ qa 2; have qN := blk_frozen qa.out 0; have qO := blk_frozen qa.out 1; have qP := blk_frozen qa.out 2) | ((with_reducible refine gate_callee (f := 51) rfl ?_); refine goesL_ (some 6) rfl rfl Tryd.func51 (by kernel_rfl) rfl #[.slice A0_0 l0_0.length c0_0] rfl (by (try simp only [List.map_toArray, List.map_cons, List.map_nil]); first | done | rfl | (simp only [List.length_drop, List.length_take]; rfl)) ?_; (with_reducible refine (laws_toIntS.calls k _ _ l0_0 qh _ ?side1 ?side2 A2.out).mono ?_); (case side1 => exact cb_ qq HB); (case side2 => exact qr.out); rintro e w9 ⟨q2, rfl, ho0, hb⟩; refine ⟨_, rfl, ?_⟩; have qp := Aside0.mk (Kd.R_lower ho0 (bz_ HB)); replace qa := kB_ qa hb; replace qb := kB_ qb hb; replace qg := kB_ qg hb; replace HB := bS_ HB hb; (try clear hb); (try clear hb2); (try clear hk); (try clear hi); (try clear ho0); obtain ⟨qn, qo, eo10⟩ := Kd.R_slice qp.out; subst eo10; have qW := qm.out; have qX := qf.out; have qs : w9.cell? ⟨qe, 0, none⟩ = some (.slice none 0 0) := bc_ qg 0; have qt : w9.cell? ⟨qe, 1, none⟩ = some (.int .i64 0) := bc_ qg 1; have qu : w9.cell? ⟨qe, 2, none⟩ = some (.bool false) := bc_ qg 2; have qv := blk_frozen qg.out 0; have qw := blk_frozen qg.out 1; have qx := blk_frozen qg.out 2; have qy : w9.cell? ⟨qd, 0, none⟩ = some (.slice A0_0 l0_0.length c0_0) := bc_ qa 0; have qz : w9.cell? ⟨qd, 1, none⟩ = some (.int .i64 a0_1) := bc_ qa 1; have qA : w9.cell? ⟨qd, 2, none⟩ = some (.bool a0_2) := bc_ qa 2; have qB := blk_frozen qa.out 0; have qC := blk_frozen qa.out 1; have qD := blk_frozen qa.out 2; have qE : w9.cell? ⟨qc, 0, none⟩ = some (.slice none 0 0) := bc_ qb 0; have qF : w9.cell? ⟨qc, 1, none⟩ = some (.int .i64 0) := bc_ qb 1; have qG : w9.cell? ⟨qc, 2, none⟩ = some (.bool false) := bc_ qb 2; have qH := blk_frozen qb.out 0; have qI := blk_frozen qb.out 1; have qJ := blk_frozen qb.out 2))
 refine bodyPost_ret (results_cell_row rfl _ _ qc 27 #[.slice qn qh.length qo, .int .i64 a0_1, .bool a0_2] (0, 0) _ rfl (by (with_reducible repeat (first | refine blk_drewN ?_ _ | refine blk_drew ?_ | refine blk_alloc ?_ _)); refine blk_put (cs := #[.slice qn qh.length qo, .int .i64 a0_1, .bool false]) ?_ 2 _ rfl; (with_reducible repeat (first | refine blk_drewN ?_ _ | refine blk_drew ?_ | refine blk_alloc ?_ _)); refine blk_put (cs := #[.slice qn qh.length qo, .int .i64 0, .bool false]) ?_ 1 _ rfl; (with_reducible repeat (first | refine blk_drewN ?_ _ | refine blk_drew ?_ | refine blk_alloc ?_ _)); refine blk_put (cs := #[.slice none 0 0, .int .i64 0, .bool false]) ?_ 0 _ rfl; (with_reducible repeat (first | refine blk_drewN ?_ _ | refine blk_drew ?_ | refine blk_alloc ?_ _)); refine blk_far ?_ qf.out _; (with_reducible repeat (first | refine blk_drewN ?_ _ | refine blk_drew ?_ | refine blk_alloc ?_ _)); refine blk_far ?_ qf.out _; (with_reducible repeat (first | refine blk_drewN ?_ _ | refine blk_drew ?_ | refine blk_alloc ?_ _)); refine blk_far ?_ qf.out _; (with_reducible repeat (first | refine blk_drewN ?_ _ | refine blk_drew ?_ | refine blk_alloc ?_ _)); exact qb.out) Tryd.underlying27 rfl (by kernel_rfl)) rfl ?_
 exact ⟨_, by first | rfl | (simp [errW_none, errW_some] <;> rfl) | (simp [*, errW_none, errW_some] <;> rfl), by (with_reducible repeat (first | apply Kd.R_alloc | apply Kd.R_drewN | apply Kd.R_drew)); exact Kd.R_mono (Kd.R_far (p := ⟨qc, 2, none⟩) (Kd.R_far (p := ⟨qc, 1, none⟩) (Kd.R_far (p := ⟨qc, 0, none⟩) (Kd.R_far (p := ⟨qe, 2, none⟩) (Kd.R_far (p := ⟨qe, 1, none⟩) (Kd.R_far (p := ⟨qe, 0, none⟩) (Kd.R_types (Kd.R_types qp.out qg.out (by decide)) qb.out (by decide)) (fun _ hk => hk.1.2) (.slice qn qh.length qo)) (fun _ hk => hk.1.2) (.int .i64 a0_1)) (fun _ hk => hk.1.2) (.bool a0_2)) (fun _ hk => hk.2) (.slice qn qh.length qo)) (fun _ hk => hk.2) (.int .i64 a0_1)) (fun _ hk => hk.2) (.bool a0_2)) (fun _ hk => trivial), bb_ HB⟩

/-! ### laws_toAtomS: function 65 -/
def laws_toAtomS.l0 : Nat → List (S24) → List (S27) → Int → Option ((List (S27)))
 | 0, _, _, _ => none
 | k + 1, x0, x3, x4 => if x4 < (x0.length : Int) then (if 0 ≤ x4 then ((laws_toAtom.f k ((rd_T24 x0 x4).f0) ((rd_T24 x0 x4).f1) ((rd_T24 x0 x4).f2)).bind fun qj => (if x4 < (x3.length : Int) then (laws_toAtomS.l0 k x0 (x3.set (x4 : Int).toNat (⟨qj.1, qj.2.1, qj.2.2⟩ : S27)) (wrap64 (x4 + 1))) else (none))) else (none)) else (some x3)
def laws_toAtomS.f (k : Nat) (l0 : List (S24)) : Option ((List (S27))) := if 0 ≤ (l0.length : Int) then (if ((l0.length : Int) : Int).toNat ≤ 7036874417766 then (laws_toAtomS.l0 k l0 (List.replicate ((l0.length : Int) : Int).toNat z27) 0) else (none)) else (none)
theorem laws_toAtomS.mono_l : ∀ k, (∀ y0 y1 y2, LeO (laws_toAtomS.l0 k y0 y1 y2) (laws_toAtomS.l0 (k + 1) y0 y1 y2))
 | 0 => fun _ _ _ r h => by simp [laws_toAtomS.l0] at h
 | k + 1 => by
  have ih0 := laws_toAtomS.mono_l k
  ·
   intro y0 y1 y2
   unfold laws_toAtomS.l0
   repeat' first
   | (with_reducible exact ih0 _ _ _)
   | (with_reducible exact laws_toAtom.mono _ _ _ _)
   | (with_reducible exact LeO.refl _)
   | (with_reducible exact LeO.none _)
   | (with_reducible refine LeO.ite ?_ ?_)
   | (with_reducible refine LeO.bind ?_ (fun _ => ?_))
   | exact ih0 _ _ _
   | exact laws_toAtom.mono _ _ _ _
   | exact LeO.none _
   | refine LeO.ite ?_ ?_
   | refine LeO.bind ?_ (fun _ => ?_)
theorem laws_toAtomS.mono : ∀ a0 k, LeO (laws_toAtomS.f k a0) (laws_toAtomS.f (k + 1) a0) := by
 intro a0 k
 have ih0 := laws_toAtomS.mono_l k
 unfold laws_toAtomS.f
 repeat' first
   | (with_reducible exact ih0 _ _ _)
   | (with_reducible exact laws_toAtom.mono _ _ _ _)
   | (with_reducible exact LeO.refl _)
   | (with_reducible exact LeO.none _)
   | (with_reducible refine LeO.ite ?_ ?_)
   | (with_reducible refine LeO.bind ?_ (fun _ => ?_))
   | exact ih0 _ _ _
   | exact laws_toAtom.mono _ _ _ _
   | exact LeO.none _
   | refine LeO.ite ?_ ?_
   | refine LeO.bind ?_ (fun _ => ?_)
set_option maxHeartbeats 8000000 in
set_option maxRecDepth 100000 in
theorem laws_toAtomS.calls (k : Nat) (A0 : Option Addr) (c0 : Nat) (l0 : List (S24)) (r : List (S27)) (w : World) (hr0 : Kd.C k24 w A0 l0.length l0) (hc0 : l0.length ≤ c0) (h : laws_toAtomS.f k l0 = some r) :
  Calls Tryd.prog 65 #[.slice A0 l0.length c0] w fun e w' => ∃ v0_ : Value, e = .returned (v0_) ∧ Kd.S k27 27 w' w.heap.size (fun _ => True) v0_ r ∧ Below w.heap.size w w' := by
 have hu24 := Tryd.underlying24
 have hu27 := Tryd.underlying27
 have HR0 := Aside0.mk hr0
 have HC0 := Aside0.mk hc0
 clear hr0 hc0
 have HB := Aside0.mk (Below.refl w.heap.size w)
 have H : (if 0 ≤ (l0.length : Int) then (if ((l0.length : Int) : Int).toNat ≤ 7036874417766 then (laws_toAtomS.l0 k l0 (List.replicate ((l0.length : Int) : Int).toNat z27) 0) else (none)) else (none)) = some r := h
 clear h
 by_cases c2 : 0 ≤ (l0.length : Int)
 ·
  rw [if_pos c2] at H
  have qy := eq_true c2
  have qz : decide (0 ≤ (l0.length : Int)) = true := decide_eq_true c2
  clear c2
  by_cases c3 : ((l0.length : Int) : Int).toNat ≤ 7036874417766
  ·
   rw [if_pos c3] at H
   have qA := eq_true c3
   have qB : decide (((l0.length : Int) : Int).toNat ≤ 7036874417766) = true := decide_eq_true c3
   clear c3
   obtain ⟨y146, hy146⟩ : ∃ y_ : List (S27), y_ = (List.replicate ((l0.length : Int) : Int).toNat z27) := ⟨_, rfl⟩
   replace H : (laws_toAtomS.l0 k l0 y146 0) = some r := by first | (rw [hy146]; with_reducible exact H) | (have H2_ := (Option.bind_some _ _).symm.trans H; rw [hy146]; with_reducible exact H2_) | (have H2_ := (Option.bind_some _ _).symm.trans H; with_reducible exact H2_) | with_reducible exact H | (rw [hy146]; exact H) | exact H
   have Ny146 := Aside0.mk hy146
   clear hy146
   have H' := Aside0.mk H
   clear H
   go_enter Tryd.func65, Tryd.ntmps65
   go_wp2_with (first | ((with_reducible refine gate_dst (N := 7) rfl ?_); refine Kd.S_make k27 _ 27 rfl (N := 7) rfl 39 _ _ rfl (l0.length : Int) rfl rfl Tryd.underlying39 (.agg #[(.slice none 0 0), (.int .i64 0), (.bool false)]) 40 info27 rfl (by decide) (by omega) z27 (ok := fun _ => True) (okp := fun _ => True) (k27_mkM _ _ _ z27 (Kd.R_nil _ _ _ _ _)) (fun _ hk => hk) trivial (of_decide_eq_true (by first | (with_reducible assumption) | assumption)) (Nat.le_trans (Nat.mul_le_mul_right _ (of_decide_eq_true (by first | (with_reducible assumption) | assumption) : (l0.length : Int).toNat ≤ 7036874417766)) (by omega)) (Below.refl _ _) (Nat.le_refl _) ?_; intro qC w4 ho5 hb hg_ hnew_; clear hg_ hnew_; (first | rw [← Ny146.out] at ho5 | (simp only [Int.reduceToNat] at ho5; rw [← Ny146.out] at ho5)); have qv := Aside0.mk (Kd.S_lower ho5 (bz_ HB)); replace HB := bS_ HB hb; clear hb ho5))
   go_loopg [4] k (fun kq v4 w' => ∃ (qb : List (S27)) (qa : Int), v4 = .int .i64 qa ∧ Aside0 (laws_toAtomS.l0 kq l0 qb qa = some r) ∧ Aside0 (kq ≤ k) ∧ Aside0 (Kd.S k27 27 w' w.heap.size (fun _ => True) qC qb) ∧ Aside0 (Below w.heap.size w w'))
   case atStart => exact ⟨(y146), (0), (by first | rfl | (simp; done) | (simp [*]; done)), H', ⟨Nat.le_refl _⟩, ⟨by (with_reducible repeat (first | apply Kd.S_alloc | apply Kd.S_drewN | apply Kd.S_drew)); exact qv.out⟩, ⟨bb_ HB⟩⟩
   case round =>
    clear H'
    try clear c2
    try clear qy
    try clear qz
    try clear p2
    try clear c3
    try clear qA
    try clear qB
    obtain ⟨qb, qa, rfl, HA, HK1, qc, HB⟩ := hrel
    cases gk with
    | zero => exact absurd HA.out (by simp [laws_toAtomS.l0])
    | succ k1 =>
     have H := HA.out
     clear HA
     simp only [laws_toAtomS.l0] at H
     by_cases c6 : qa < (l0.length : Int)
     ·
      rw [if_pos c6] at H
      have qD : decide (qa < (l0.length : Int)) = true := decide_eq_true c6
      clear c6
      by_cases c7 : 0 ≤ qa
      ·
       rw [if_pos c7] at H
       have qK : decide (0 ≤ qa) = true := decide_eq_true c7
       clear c7
       replace H := Option.bind_eq_some_iff.mp H
       obtain ⟨⟨qk, qg, qh⟩, A80, H⟩ := H
       replace H : (if qa < (qb.length : Int) then (laws_toAtomS.l0 k1 l0 (qb.set (qa : Int).toNat (⟨qk, qg, qh⟩ : S27)) (wrap64 (qa + 1))) else (none)) = some r := H
       have A8 := Aside0.mk A80
       clear A80
       by_cases c9 : qa < (qb.length : Int)
       ·
        rw [if_pos c9] at H
        have qL : decide (qa < (qb.length : Int)) = true := decide_eq_true c9
        clear c9
        obtain ⟨y155, hy155⟩ : ∃ y_ : List (S27), y_ = (qb.set (qa : Int).toNat (⟨qk, qg, qh⟩ : S27)) := ⟨_, rfl⟩
        replace H : (laws_toAtomS.l0 k1 l0 y155 (wrap64 (qa + 1))) = some r := by first | (rw [hy155]; with_reducible exact H) | (have H2_ := (Option.bind_some _ _).symm.trans H; rw [hy155]; with_reducible exact H2_) | (have H2_ := (Option.bind_some _ _).symm.trans H; with_reducible exact H2_) | with_reducible exact H | (rw [hy155]; exact H) | exact H
        have Ny155 := Aside0.mk hy155
        clear hy155
        have H' := Aside0.mk H
        clear H
        have p149 : 0 ≤ (qa : Int) := of_decide_eq_true (by first | (with_reducible assumption) | assumption)
        have q149 : qa < (l0.length : Int) := of_decide_eq_true (by first | (with_reducible assumption) | assumption)
        obtain ⟨qJ, qp, c149_0, e149, qd, qe, qf, hl149_0, hi149_0⟩ := at_T24 HR0.out qa p149 q149
        cases e149
        replace qd := (HB.out.cell (World.block_lt_of_cell? w _ qd)).trans qd
        replace qe := (HB.out.cell (World.block_lt_of_cell? w _ qe)).trans qe
        replace qf := (HB.out.cell (World.block_lt_of_cell? w _ qf)).trans qf
        have ql := Aside0.mk hi149_0
        have qm := Aside0.mk hl149_0
        clear hi149_0 hl149_0
        replace p149 := eq_true p149
        replace q149 := eq_true q149
        go_wp2_with (first | ((with_reducible refine gate_callee (f := 13) rfl ?_); refine goesL_ (some 20) rfl rfl Tryd.func13 (by kernel_rfl) rfl #[.agg #[.slice qp ((rd_T24 l0 qa).f0).length c149_0, .int .i64 ((rd_T24 l0 qa).f1), .bool ((rd_T24 l0 qa).f2)]] rfl (by (try simp only [List.map_toArray, List.map_cons, List.map_nil]); first | done | rfl | (simp only [List.length_drop, List.length_take]; rfl)) ?_; (with_reducible refine (laws_toAtom.calls k1 _ _ ((rd_T24 l0 qa).f0) ((rd_T24 l0 qa).f1) ((rd_T24 l0 qa).f2) qk qg qh _ ?side1 ?side2 A8.out).mono ?_); (case side1 => exact cb_ ql HB); (case side2 => exact qm.out); rintro e qn ⟨qo, rfl, ho0, hb⟩; refine ⟨_, rfl, ?_⟩; replace qc := Aside0.mk (Kd.S_elder' (sm_ qc) (Kd.R_base ho0) hb); have qi := Aside0.mk (Kd.R_lower ho0 (bz_ HB)); replace HB := bS_ HB hb; (try clear hb); (try clear hb2); (try clear hk); (try clear hi); (try clear ho0); have p10 : 0 ≤ (qa : Int) := of_decide_eq_true (by first | (with_reducible assumption) | assumption); have q10 : (qa : Int) < ((qb.length : Int) : Int) := of_decide_eq_true (by first | (with_reducible assumption) | assumption); obtain ⟨go10, qw, eo10, qx, gl10, cl10, HG10⟩ := Kd.S_form qc.out (by omega); (first | cases eo10 | (injection eo10 with ea_ en_ ec_; (first | subst ea_ | (injection ea_ with ea_; subst ea_)); subst ec_; clear en_)); have qq := Aside0.mk qx; have qM := Aside0.mk HG10; clear qx gl10 HG10; obtain ⟨_, ce10, hcl10, hM10, hcc10, hfr10, _, _⟩ := Kd.S_elem qc.out z27 (qa : Int) p10 q10; obtain ⟨ve10_0, rfl, ge10_0⟩ := k27_openM hM10; have qE : qn.cell? ⟨go10, (qa : Int).toNat * 3, none⟩ = some (ve10_0) := hcc10 0 _ rfl; have qF : qn.cell? ⟨go10, (qa : Int).toNat * 3 + 1, none⟩ = some (.int .i64 ((rd_T27 qb qa).f1)) := hcc10 1 _ rfl; have qG : qn.cell? ⟨go10, (qa : Int).toNat * 3 + 2, none⟩ = some (.bool ((rd_T27 qb qa).f2)) := hcc10 2 _ rfl; have hf10_0 : qn.frozen? ⟨go10, (qa : Int).toNat * 3, none⟩ = false := hfr10 0; have hf10_1 : qn.frozen? ⟨go10, (qa : Int).toNat * 3 + 1, none⟩ = false := hfr10 1; have hf10_2 : qn.frozen? ⟨go10, (qa : Int).toNat * 3 + 2, none⟩ = false := hfr10 2; clear hcl10 hcc10 hfr10 hM10; replace p10 := eq_true p10; replace q10 := eq_true q10; have n_ := Aside0.mk (Kd.S_mono (ok' := (fun k_ => some k_ ≠ (qo : Value).ownBlock)) qc.out (fun k_ hk => hk.2)); clear qc; have qc := n_; clear n_; have qH := Aside0.mk (show Kd.S k27 27 qn w.heap.size (fun k_ => ((fun _ => True)) k_ ∧ ¬ ((fun k_ => some k_ = (qo : Value).ownBlock)) k_) (.slice (some ⟨go10, 0, none⟩) qb.length qw) qb from (by (with_reducible repeat (first | apply Kd.S_alloc | apply Kd.S_drewN | apply Kd.S_drew)); exact Kd.S_mono qc.out (fun k_ hk => ⟨trivial, fun e_ => hk e_⟩))); obtain ⟨oki12, ce12, hcl12, hM12, hcc12, hfr12, hoki12, hH12⟩ := Kd.S_elem qH.out z27 (qa : Int) (of_decide_eq_true (by first | (with_reducible assumption) | assumption)) (by have h_ : (qa : Int) < ((qb.length : Int) : Int) := of_decide_eq_true (by first | (with_reducible assumption) | assumption); first | exact h_ | (have e_ := (Kd.S_reads' qc.out).1; omega) | simpa using h_); obtain ⟨ve12_0, rfl, ge12_0⟩ := k27_openM hM12; have qr := Kd.S_seg hH12 (of_decide_eq_true (by first | (with_reducible assumption) | assumption)) (by have h_ : (qa : Int) < ((qb.length : Int) : Int) := of_decide_eq_true (by first | (with_reducible assumption) | assumption); first | exact h_ | (have e_ := (Kd.S_reads' qc.out).1; omega) | simpa using h_) (seg := [qo, .int .i64 qg, .bool qh]) (j := 0) (show 3 ≤ 3 from by decide) (x' := (⟨qk, qg, qh⟩ : S27)) (k27_mkM _ _ _ (⟨qk, qg, qh⟩ : S27) (Kd.R_mono (Kd.R_tight rfl (Kd.R_mono (ok' := fun k_ => ((fun _ => True)) k_ ∧ k_ ≠ go10) (Kd.R_apart' (qi.out) (Kd.S_typed qc.out) (by decide)) (fun k_ hk => ⟨trivial, fun e_ => (hk.2) (by rw [e_]; rfl)⟩))) (fun _ h_ => Or.inr (h_)))) (fun _ hk => hk) (fun k_ hk_ => ((Kd.R_mono (ok' := fun k_ => ((fun _ => True)) k_ ∧ k_ ≠ go10) (Kd.R_apart' (qi.out) (Kd.S_typed qc.out) (by decide)) (fun k_ hk => ⟨trivial, fun e_ => (hk.2) (by rw [e_]; rfl)⟩))).1 k_ hk_.symm); have qs := hcc12 0 _ rfl; (try simp only [show (k27).sz = 3 from rfl, Nat.mul_one, Nat.add_zero] at qs); have hf12_0 := hfr12 0; (try simp only [show (k27).sz = 3 from rfl, Nat.mul_one, Nat.add_zero] at hf12_0); have qt := hcc12 1 _ rfl; (try simp only [show (k27).sz = 3 from rfl, Nat.mul_one, Nat.add_zero] at qt); have hf12_1 := hfr12 1; (try simp only [show (k27).sz = 3 from rfl, Nat.mul_one, Nat.add_zero] at hf12_1); have qu := hcc12 2 _ rfl; (try simp only [show (k27).sz = 3 from rfl, Nat.mul_one, Nat.add_zero] at qu); have hf12_2 := hfr12 2; (try simp only [show (k27).sz = 3 from rfl, Nat.mul_one, Nat.add_zero] at hf12_2); clear hcl12 hcc12 hfr12 hM12 hoki12 hH12) | ((with_reducible refine gate_store (t := 27) (p := 21) rfl ?_); refine store_event (t := 27) (p := 21) (v := ?vo_w13) (w1 := (((qn.setCell ⟨go10, (qa : Int).toNat * 3, none⟩ (qo)).setCell ⟨go10, (qa : Int).toNat * 3 + 1, none⟩ (.int .i64 qg)).setCell ⟨go10, (qa : Int).toNat * 3 + 2, none⟩ (.bool qh))) ?hg ?ho ?hn ?hr ?_; (case ho => rfl); (case hg => rfl); (case hn => rfl); (case hr => (obtain ⟨Av_, cv_, ev_⟩ := Kd.R_slice qi.out; subst ev_; first | (go_simp; done) | (go_simp; rfl))); intro qI hw; have hg : qn.grownBy qI (some go10) := (by rw [hw]; exact qr.2); have hp_ : Kd.S k27 27 qI w.heap.size (fun _ => True) (.slice (some ⟨go10, 0, none⟩) qb.length qw) y155 := (by rw [hw, Ny155.out]; exact qr.1); clear qr; replace qc := Aside0.mk (hp_); replace HB := Aside0.mk ((by rw [hw]; exact below_set (below_set (below_set (HB.out) qq.out) qq.out) qq.out : Below w.heap.size w qI)); clear qi; clear hg hw hp_))
        go_roundg k1
        case measure => have := HK1.out; omega
        case rel => exact ⟨(y155), (wrap64 (qa + 1)), (by first | rfl | (simp; done) | (simp [*]; done)), H', ⟨by have := HK1.out; omega⟩, ⟨by (with_reducible repeat (first | apply Kd.S_alloc | apply Kd.S_drewN | apply Kd.S_drew)); exact qc.out⟩, ⟨bb_ HB⟩⟩
       ·
        rw [if_neg c9] at H
        exact absurd H (by simp)
      ·
       rw [if_neg c7] at H
       exact absurd H (by simp)
     ·
      rw [if_neg c6] at H
      have qD : decide (qa < (l0.length : Int)) = false := decide_eq_false c6
      clear c6
      obtain rfl := Option.some.inj H
      go_wp2
      go_ret
      exact ⟨_, by first | rfl | (simp [errW_none, errW_some] <;> rfl) | (simp [*, errW_none, errW_some] <;> rfl), by (with_reducible repeat (first | apply Kd.S_alloc | apply Kd.S_drewN | apply Kd.S_drew)); exact qc.out, bb_ HB⟩
  ·
   rw [if_neg c3] at H
   exact absurd H (by simp)
 ·
  rw [if_neg c2] at H
  exact absurd H (by simp)

/-! ### laws_toCell: function 20 -/
def laws_toCell.f (k : Nat) (a0_0 : Int) (l0_1 : List (S24)) : Option (Int × (List (S27))) := (laws_toAtomS.f k l0_1).bind fun qh => (some (a0_0, qh))
theorem laws_toCell.mono : ∀ a0 a1 k, LeO (laws_toCell.f k a0 a1) (laws_toCell.f (k + 1) a0 a1) := by
 intro a0 a1 k
 unfold laws_toCell.f
 repeat' first
   | (with_reducible exact laws_toAtomS.mono _ _)
   | (with_reducible exact LeO.refl _)
   | (with_reducible exact LeO.none _)
   | (with_reducible refine LeO.ite ?_ ?_)
   | (with_reducible refine LeO.bind ?_ (fun _ => ?_))
   | exact laws_toAtomS.mono _ _
   | exact LeO.none _
   | refine LeO.ite ?_ ?_
   | refine LeO.bind ?_ (fun _ => ?_)
set_option maxHeartbeats 8000000 in
set_option maxRecDepth 100000 in
theorem laws_toCell.calls (k : Nat) (a0_0 : Int) (A0_1 : Option Addr) (c0_1 : Nat) (l0_1 : List (S24)) (r1 : Int) (r2 : List (S27)) (w : World) (hr0_1 : Kd.C k24 w A0_1 l0_1.length l0_1) (hc0_1 : l0_1.length ≤ c0_1) (h : laws_toCell.f k a0_0 l0_1 = some (r1, r2)) :
  Calls Tryd.prog 20 #[.agg #[.int .i64 a0_0, .slice A0_1 l0_1.length c0_1]] w fun e w' => ∃ v1_ : Value, e = .returned (.agg #[.int .i64 r1, v1_]) ∧ Kd.S k27 27 w' w.heap.size (fun _ => True) v1_ r2 ∧ Below w.heap.size w w' := by
 have hu36 := Tryd.underlying36
 have hu41 := Tryd.underlying41
 have qq := Aside0.mk hr0_1
 have qr := Aside0.mk hc0_1
 clear hr0_1 hc0_1
 have HB := Aside0.mk (Below.refl w.heap.size w)
 have H : ((laws_toAtomS.f k l0_1).bind fun qh => (some (a0_0, qh))) = some (r1, r2) := h
 clear h
 replace H := Option.bind_eq_some_iff.mp H
 obtain ⟨qh, A20, H⟩ := H
 replace H : (some (a0_0, qh)) = some (r1, r2) := H
 have A2 := Aside0.mk A20
 clear A20
 simp only [Option.some.injEq, Prod.mk.injEq] at H
 obtain ⟨rfl, rfl⟩ := H
 go_enter Tryd.func20, Tryd.ntmps20
 go_wp2_with (first | ((with_reducible refine gate_dst (N := 1) rfl ?_); refine box_event ?hg (N := 1) ?hd (cs := #[.int .i64 a0_0, .slice A0_1 l0_1.length c0_1]) (t := 36) ?hr ?_; (case hd => rfl); (case hg => rfl); (case hr => first | (go_simp; done) | (go_simp; rfl)); intro qf hg w3 hbox hb; have qa := Aside0.mk (hbox); have qJ := Aside0.mk ((by rw [hg]; exact (bz_ HB) : w.heap.size ≤ qf)); have qK := Aside0.mk ((by rw [hg]; exact (bz_ HB) : w.heap.size ≤ qf)); replace HB := bS_ HB hb; clear hb hbox hg) | ((with_reducible refine gate_dst (N := 2) rfl ?_); refine box_event ?hg (N := 2) ?hd (cs := #[.int .i64 0, .slice none 0 0]) (t := 41) ?hr ?_; (case hd => rfl); (case hg => rfl); (case hr => first | (go_simp; done) | (go_simp; rfl)); intro qb hg w4 hbox hb; have qc := Aside0.mk (hbox); have qL := Aside0.mk ((by rw [hg]; exact (bz_ HB) : w.heap.size ≤ qb)); have qM := Aside0.mk ((by rw [hg]; exact (bz_ HB) : w.heap.size ≤ qb)); replace HB := bS_ HB hb; have qi := Aside0.mk ((nl_ qa hg : qf ≠ qb)); have qj := Aside0.mk ((ng_ qa hg : qb ≠ qf)); replace qa := kB_ qa hb; clear hb hbox hg) | ((with_reducible refine gate_dst (N := 3) rfl ?_); refine box_event ?hg (N := 3) ?hd (cs := #[.int .i64 0, .slice none 0 0]) (t := 41) ?hr ?_; (case hd => rfl); (case hg => rfl); (case hr => first | (go_simp; done) | (go_simp; rfl)); intro qd hg w5 hbox hb; have qe := Aside0.mk (hbox); have qN := Aside0.mk ((by rw [hg]; exact (bz_ HB) : w.heap.size ≤ qd)); have qO := Aside0.mk ((by rw [hg]; exact (bz_ HB) : w.heap.size ≤ qd)); replace HB := bS_ HB hb; have qk := Aside0.mk ((nl_ qa hg : qf ≠ qd)); have ql := Aside0.mk ((ng_ qa hg : qd ≠ qf)); replace qa := kB_ qa hb; have qg := Aside0.mk ((nl_ qc hg : qb ≠ qd)); have qm := Aside0.mk ((ng_ qc hg : qd ≠ qb)); replace qc := kB_ qc hb; clear hb hbox hg; have qP := qi.out; have qQ := qj.out; have qR := qk.out; have qS := ql.out; have qF : w5.cell? ⟨qf, 0, none⟩ = some (.int .i64 a0_0) := bc_ qa 0; have qG : w5.cell? ⟨qf, 1, none⟩ = some (.slice A0_1 l0_1.length c0_1) := bc_ qa 1; have qH := blk_frozen qa.out 0; have qI := blk_frozen qa.out 1; have qT := qm.out; have qU := qg.out; have qs : w5.cell? ⟨qd, 0, none⟩ = some (.int .i64 0) := bc_ qe 0; have qt : w5.cell? ⟨qd, 1, none⟩ = some (.slice none 0 0) := bc_ qe 1; have qu := blk_frozen qe.out 0; have qv := blk_frozen qe.out 1) | ((with_reducible refine gate_callee (f := 65) rfl ?_); refine goesL_ (some 9) rfl rfl Tryd.func65 (by kernel_rfl) rfl #[.slice A0_1 l0_1.length c0_1] rfl (by (try simp only [List.map_toArray, List.map_cons, List.map_nil]); first | done | rfl | (simp only [List.length_drop, List.length_take]; rfl)) ?_; (with_reducible refine (laws_toAtomS.calls k _ _ l0_1 qh _ ?side1 ?side2 A2.out).mono ?_); (case side1 => exact Kd.C_below qq.out (bb_ HB)); (case side2 => exact qr.out); rintro e qw ⟨qV, rfl, ho0, hb⟩; refine ⟨_, rfl, ?_⟩; have qn := Aside0.mk (Kd.S_lower ho0 (bz_ HB)); replace qa := Aside0.mk (blk_below (g := qf) (o := .cells #[.int .i64 a0_0, .slice A0_1 l0_1.length c0_1] 36 (0, 0)) (kf_ qa) hb); replace qc := Aside0.mk (blk_below (g := qb) (o := .cells #[.int .i64 0, .slice none 0 0] 41 (0, 0)) (kf_ qc) hb); replace qe := Aside0.mk (blk_below (g := qd) (o := .cells #[.int .i64 a0_0, .slice none 0 0] 41 (0, 0)) (by (with_reducible repeat (first | refine blk_drewN ?_ _ | refine blk_drew ?_ | refine blk_alloc ?_ _)); refine blk_put (cs := #[.int .i64 0, .slice none 0 0]) ?_ 0 _ rfl; (with_reducible repeat (first | refine blk_drewN ?_ _ | refine blk_drew ?_ | refine blk_alloc ?_ _)); exact qe.out) hb); replace HB := bS_ HB hb; (try clear hb); (try clear hb2); (try clear hk); (try clear hi); (try clear ho0); obtain ⟨qo, qp, eo12⟩ := Kd.S_slice qn.out; subst eo12; have qx : qw.cell? ⟨qd, 0, none⟩ = some (.int .i64 a0_0) := bc_ qe 0; have qy : qw.cell? ⟨qd, 1, none⟩ = some (.slice none 0 0) := bc_ qe 1; have qz := blk_frozen qe.out 0; have qA := blk_frozen qe.out 1; have qB : qw.cell? ⟨qb, 0, none⟩ = some (.int .i64 0) := bc_ qc 0; have qC : qw.cell? ⟨qb, 1, none⟩ = some (.slice none 0 0) := bc_ qc 1; have qD := blk_frozen qc.out 0; have qE := blk_frozen qc.out 1))
 refine bodyPost_ret (results_cell_row rfl _ _ qb 41 #[.int .i64 a0_0, .slice qo qh.length qp] (0, 0) _ rfl (by (with_reducible repeat (first | refine blk_drewN ?_ _ | refine blk_drew ?_ | refine blk_alloc ?_ _)); refine blk_put (cs := #[.int .i64 a0_0, .slice none 0 0]) ?_ 1 _ rfl; (with_reducible repeat (first | refine blk_drewN ?_ _ | refine blk_drew ?_ | refine blk_alloc ?_ _)); refine blk_put (cs := #[.int .i64 0, .slice none 0 0]) ?_ 0 _ rfl; (with_reducible repeat (first | refine blk_drewN ?_ _ | refine blk_drew ?_ | refine blk_alloc ?_ _)); refine blk_far ?_ qg.out _; (with_reducible repeat (first | refine blk_drewN ?_ _ | refine blk_drew ?_ | refine blk_alloc ?_ _)); exact qc.out) Tryd.underlying41 rfl (by kernel_rfl)) rfl ?_
 exact ⟨_, by first | rfl | (simp [errW_none, errW_some] <;> rfl) | (simp [*, errW_none, errW_some] <;> rfl), by (with_reducible repeat (first | apply Kd.S_alloc | apply Kd.S_drewN | apply Kd.S_drew)); exact Kd.S_mono (Kd.S_far (p := ⟨qb, 1, none⟩) (Kd.S_far (p := ⟨qb, 0, none⟩) (Kd.S_far (p := ⟨qd, 1, none⟩) (Kd.S_types (Kd.S_types qn.out qe.out (by decide)) qc.out (by decide)) (fun _ hk => hk.1.2) (.slice qo qh.length qp)) (fun _ hk => hk.2) (.int .i64 a0_0)) (fun _ hk => hk.2) (.slice qo qh.length qp)) (fun _ hk => trivial), bb_ HB⟩

/-! ### strconv_Itoa: function 95 -/
class LaidW (w : World) : Prop where
 out : Lib.TabIs Tryd.prog w "internal/strconv.uint64pow10" .u64 Lib.pow10Tab
def strconv_Itoa.f (a0 : Int) : Option (ByteArray) := if -9223372036854775808 ≤ a0 ∧ a0 ≤ 9223372036854775807 then some ⟨(Lib.itoa a0).toArray⟩ else none
theorem strconv_Itoa.calls (a0 : Int) (r : ByteArray) (w : World) (hL : LaidW w) (h : strconv_Itoa.f a0 = some r) :
  Calls Tryd.prog 95 #[.int .i64 a0] w fun e w' => e = .returned (.string r) ∧ Below w.heap.size w w' := by
 unfold strconv_Itoa.f at h
 split at h
 ·
  rename_i hb
  obtain rfl := Option.some.inj h
  refine (Tryd.strconv_Itoa a0 hb.1 hb.2 w hL.out).mono ?_
  rintro e w' ⟨rfl, k, os, rfl⟩
  exact ⟨rfl, Lib.below_grow _ _ (Nat.le_refl _) k os⟩
 ·
  exact absurd h (by simp)

theorem laid_ {w W W2 : World} (hL : Aside0 (LaidW w)) (h : Aside0 (Below w.heap.size w W)) [k : Lts w W W2] : LaidW W2 := ⟨Lib.tabBelow_of_tabIs hL.out.out W2 (bb_ h)⟩

/-! ### impl_FormatInt: function 56 -/
def impl_FormatInt.f (a0 : Int) : Option (ByteArray) := (strconv_Itoa.f a0).bind fun qa => (some qa)
set_option maxHeartbeats 8000000 in
set_option maxRecDepth 100000 in
theorem impl_FormatInt.calls (a0 : Int) (r : ByteArray) (w : World) (hL : LaidW w) (h : impl_FormatInt.f a0 = some r) :
  Calls Tryd.prog 56 #[.int .i64 a0] w fun e w' => e = .returned (.string r) ∧ Below w.heap.size w w' := by
 have HL_ := Aside0.mk hL
 clear hL
 have HB := Aside0.mk (Below.refl w.heap.size w)
 have H : ((strconv_Itoa.f a0).bind fun qa => (some qa)) = some r := h
 clear h
 replace H := Option.bind_eq_some_iff.mp H
 obtain ⟨qa, A20, H⟩ := H
 replace H : (some qa) = some r := H
 have A2 := Aside0.mk A20
 clear A20
 obtain rfl := Option.some.inj H
 go_enter Tryd.func56, Tryd.ntmps56
 go_wp2_with (first | ((with_reducible refine gate_callee (f := 95) rfl ?_); refine goesL_ (some 4) rfl rfl Tryd.func95 (by kernel_rfl) rfl #[.int .i64 a0] rfl (by (try simp only [List.map_toArray, List.map_cons, List.map_nil]); first | done | rfl | (simp only [List.length_drop, List.length_take]; rfl)) ?_; (with_reducible refine (strconv_Itoa.calls (hL := laid_ HL_ HB) a0 qa _ A2.out).mono ?_); rintro e w3 ⟨rfl, hb⟩; refine ⟨_, rfl, ?_⟩; replace HB := bS_ HB hb; (try clear hb); (try clear hb2); (try clear hk); (try clear hi)))
 go_ret
 exact ⟨by first | rfl | (simp [errW_none, errW_some] <;> rfl) | (simp [*, errW_none, errW_some] <;> rfl), bb_ HB⟩

/-! ### impl_IsNumber: function 61 -/
def impl_IsNumber.f (a0 : Int) : Option (Bool) := if a0 ≥ (-400000000) then (some (decide (a0 ≤ 400000000))) else (some false)
set_option maxHeartbeats 8000000 in
set_option maxRecDepth 100000 in
theorem impl_IsNumber.calls (a0 : Int) (r : Bool) (w : World) (h : impl_IsNumber.f a0 = some r) :
  Calls Tryd.prog 61 #[.int .i64 a0] w fun e w' => e = .returned (.bool r) ∧ Drawn0 w w' := by
 have H : (if a0 ≥ (-400000000) then (some (decide (a0 ≤ 400000000))) else (some false)) = some r := h
 clear h
 by_cases c2 : a0 ≥ (-400000000)
 ·
  rw [if_pos c2] at H
  have qa : decide ((-400000000) ≤ a0) = true := decide_eq_true c2
  clear c2
  obtain rfl := Option.some.inj H
  go_enter Tryd.func61, Tryd.ntmps61
  go_wp2
  go_ret
  exact ⟨by first | rfl | (simp; done) | (simp [*]; done), by repeat (first | exact Drawn0.refl _ | apply Drawn0.step)⟩
 ·
  rw [if_neg c2] at H
  have qa : decide ((-400000000) ≤ a0) = false := decide_eq_false c2
  clear c2
  obtain rfl := Option.some.inj H
  go_enter Tryd.func61, Tryd.ntmps61
  go_wp2
  go_ret
  exact ⟨by first | rfl | (simp; done) | (simp [*]; done), by repeat (first | exact Drawn0.refl _ | apply Drawn0.step)⟩

/-! ### impl_absolute: function 110 -/
def impl_absolute.f (a0 : Int) : Option (Int) := if a0 < 0 then (some (wrap64 (-a0))) else (some a0)
set_option maxHeartbeats 8000000 in
set_option maxRecDepth 100000 in
theorem impl_absolute.calls (a0 : Int) (r : Int) (w : World) (h : impl_absolute.f a0 = some r) :
  Calls Tryd.prog 110 #[.int .i64 a0] w fun e w' => e = .returned (.int .i64 r) ∧ Drawn0 w w' := by
 have H : (if a0 < 0 then (some (wrap64 (-a0))) else (some a0)) = some r := h
 clear h
 by_cases c2 : a0 < 0
 ·
  rw [if_pos c2] at H
  have qa : decide (a0 < 0) = true := decide_eq_true c2
  clear c2
  obtain rfl := Option.some.inj H
  go_enter Tryd.func110, Tryd.ntmps110
  go_wp2
  go_ret
  exact ⟨by first | rfl | (simp; done) | (simp [*]; done), by repeat (first | exact Drawn0.refl _ | apply Drawn0.step)⟩
 ·
  rw [if_neg c2] at H
  have qa : decide (a0 < 0) = false := decide_eq_false c2
  clear c2
  obtain rfl := Option.some.inj H
  go_enter Tryd.func110, Tryd.ntmps110
  go_wp2
  go_ret
  exact ⟨by first | rfl | (simp; done) | (simp [*]; done), by repeat (first | exact Drawn0.refl _ | apply Drawn0.step)⟩

/-! ### impl_commonDivisor: function 92 -/
def impl_commonDivisor.l0 : Nat → Int → Int → Option (Int)
 | 0, _, _ => none
 | k + 1, x0, x1 => if x1 = 0 then (some x0) else (impl_commonDivisor.l0 k x1 (Int.tmod x0 x1))
def impl_commonDivisor.f (k : Nat) (a0 : Int) (a1 : Int) : Option (Int) := (impl_absolute.f a0).bind fun qb => ((impl_absolute.f a1).bind fun qa => (impl_commonDivisor.l0 k qb qa))
theorem impl_commonDivisor.mono_l : ∀ k, (∀ y0 y1, LeO (impl_commonDivisor.l0 k y0 y1) (impl_commonDivisor.l0 (k + 1) y0 y1))
 | 0 => fun _ _ r h => by simp [impl_commonDivisor.l0] at h
 | k + 1 => by
  have ih0 := impl_commonDivisor.mono_l k
  ·
   intro y0 y1
   unfold impl_commonDivisor.l0
   repeat' first
   | (with_reducible exact ih0 _ _)
   | (with_reducible exact LeO.refl _)
   | (with_reducible exact LeO.none _)
   | (with_reducible refine LeO.ite ?_ ?_)
   | (with_reducible refine LeO.bind ?_ (fun _ => ?_))
   | exact ih0 _ _
   | exact LeO.none _
   | refine LeO.ite ?_ ?_
   | refine LeO.bind ?_ (fun _ => ?_)
theorem impl_commonDivisor.mono : ∀ a0 a1 k, LeO (impl_commonDivisor.f k a0 a1) (impl_commonDivisor.f (k + 1) a0 a1) := by
 intro a0 a1 k
 have ih0 := impl_commonDivisor.mono_l k
 unfold impl_commonDivisor.f
 repeat' first
   | (with_reducible exact ih0 _ _)
   | (with_reducible exact LeO.refl _)
   | (with_reducible exact LeO.none _)
   | (with_reducible refine LeO.ite ?_ ?_)
   | (with_reducible refine LeO.bind ?_ (fun _ => ?_))
   | exact ih0 _ _
   | exact LeO.none _
   | refine LeO.ite ?_ ?_
   | refine LeO.bind ?_ (fun _ => ?_)
set_option maxHeartbeats 8000000 in
set_option maxRecDepth 100000 in
theorem impl_commonDivisor.calls (k : Nat) (a0 : Int) (a1 : Int) (r : Int) (w : World) (h : impl_commonDivisor.f k a0 a1 = some r) :
  Calls Tryd.prog 92 #[.int .i64 a0, .int .i64 a1] w fun e w' => e = .returned (.int .i64 r) ∧ Drawn0 w w' := by
 have H : ((impl_absolute.f a0).bind fun qb => ((impl_absolute.f a1).bind fun qa => (impl_commonDivisor.l0 k qb qa))) = some r := h
 clear h
 replace H := Option.bind_eq_some_iff.mp H
 obtain ⟨qb, A30, H⟩ := H
 replace H : ((impl_absolute.f a1).bind fun qa => (impl_commonDivisor.l0 k qb qa)) = some r := H
 have A3 := Aside0.mk A30
 clear A30
 replace H := Option.bind_eq_some_iff.mp H
 obtain ⟨qa, A40, H⟩ := H
 replace H : (impl_commonDivisor.l0 k qb qa) = some r := H
 have A4 := Aside0.mk A40
 clear A40
 have H' := Aside0.mk H
 clear H
 go_enter Tryd.func92, Tryd.ntmps92
 go_wp2_with (first | (go_at_call 110; (with_reducible refine (impl_absolute.calls a0 qb _ A3.out).mono ?_); rintro e w' ⟨rfl, ⟨nd, rfl⟩⟩; (try first | exact ⟨rfl, _, World.drewN_drewN _ _ _⟩ | exact ⟨rfl, _, Eq.trans (World.drewN_drewN _ _ _) (congrArg (World.drewN _) (Nat.add_assoc _ _ _))⟩)) | (go_at_call 110; (with_reducible refine (impl_absolute.calls a1 qa _ A4.out).mono ?_); rintro e w' ⟨rfl, ⟨nd, rfl⟩⟩; (try first | exact ⟨rfl, _, World.drewN_drewN _ _ _⟩ | exact ⟨rfl, _, Eq.trans (World.drewN_drewN _ _ _) (congrArg (World.drewN _) (Nat.add_assoc _ _ _))⟩)))
 repeat (go_quiet (first | (go_at_call 110; (with_reducible refine (impl_absolute.calls a0 qb _ A3.out).mono ?_); rintro e w' ⟨rfl, ⟨nd, rfl⟩⟩; (try first | exact ⟨rfl, _, World.drewN_drewN _ _ _⟩ | exact ⟨rfl, _, Eq.trans (World.drewN_drewN _ _ _) (congrArg (World.drewN _) (Nat.add_assoc _ _ _))⟩)) | (go_at_call 110; (with_reducible refine (impl_absolute.calls a1 qa _ A4.out).mono ?_); rintro e w' ⟨rfl, ⟨nd, rfl⟩⟩; (try first | exact ⟨rfl, _, World.drewN_drewN _ _ _⟩ | exact ⟨rfl, _, Eq.trans (World.drewN_drewN _ _ _) (congrArg (World.drewN _) (Nat.add_assoc _ _ _))⟩))); try go_wp2_with (first | (go_at_call 110; (with_reducible refine (impl_absolute.calls a0 qb _ A3.out).mono ?_); rintro e w' ⟨rfl, ⟨nd, rfl⟩⟩; (try first | exact ⟨rfl, _, World.drewN_drewN _ _ _⟩ | exact ⟨rfl, _, Eq.trans (World.drewN_drewN _ _ _) (congrArg (World.drewN _) (Nat.add_assoc _ _ _))⟩)) | (go_at_call 110; (with_reducible refine (impl_absolute.calls a1 qa _ A4.out).mono ?_); rintro e w' ⟨rfl, ⟨nd, rfl⟩⟩; (try first | exact ⟨rfl, _, World.drewN_drewN _ _ _⟩ | exact ⟨rfl, _, Eq.trans (World.drewN_drewN _ _ _) (congrArg (World.drewN _) (Nat.add_assoc _ _ _))⟩))))
 go_loopg [0, 1] k (fun kq v0 v1 w' => ∃ (qd : Int) (qc : Int), v0 = .int .i64 qd ∧ v1 = .int .i64 qc ∧ Aside0 (impl_commonDivisor.l0 kq qd qc = some r) ∧ Aside0 (kq ≤ k) ∧ Drawn0 w w')
 case atStart => exact ⟨(qb), (qa), (by first | rfl | (simp; done) | (simp [*]; done)), (by first | rfl | (simp; done) | (simp [*]; done)), H', ⟨Nat.le_refl _⟩, by repeat (first | exact Drawn0.refl _ | apply Drawn0.step)⟩
 case round =>
  clear H'
  try clear p2
  obtain ⟨qd, qc, rfl, rfl, HA, HK1, ⟨m1, rfl⟩⟩ := hrel
  cases gk with
  | zero => exact absurd HA.out (by simp [impl_commonDivisor.l0])
  | succ k1 =>
   have H := HA.out
   clear HA
   simp only [impl_commonDivisor.l0] at H
   by_cases c5 : qc = 0
   ·
    rw [if_pos c5] at H
    have qe : (qc == 0) = true := beq_iff_eq.mpr c5
    have qf : (qc != 0) = false := bne_eq_false_iff_eq.mpr c5
    clear c5
    obtain rfl := Option.some.inj H
    go_wp2
    repeat (go_quiet (fail); try go_wp2)
    go_ret
    exact ⟨by first | rfl | (simp; done) | (simp [*]; done), by repeat (first | exact Drawn0.refl _ | apply Drawn0.step)⟩
   ·
    rw [if_neg c5] at H
    have qe : (qc == 0) = false := beq_eq_false_iff_ne.mpr c5
    have qf : (qc != 0) = true := bne_iff_ne.mpr c5
    have H' := Aside0.mk H
    clear H
    go_wp2
    repeat (go_quiet (fail); try go_wp2)
    go_roundg k1
    case measure => have := HK1.out; omega
    case rel => exact ⟨(qc), (Int.tmod qd qc), (by first | rfl | (simp; done) | (simp [*]; done)), (by first | rfl | (simp; done) | (simp [*]; done)), H', ⟨by have := HK1.out; omega⟩, by repeat (first | exact Drawn0.refl _ | apply Drawn0.step)⟩

/-! ### impl_divisorOf: function 93 -/
def impl_divisorOf.l0 : Nat → Int → List Int → Int → Int → Option (Int)
 | 0, _, _, _, _ => none
 | k + 1, x3, x6, x7, x8 => if x8 < x7 then (if 0 ≤ x8 then (if x8 < (x6.length : Int) then ((impl_commonDivisor.f k x3 (rd x6 x8)).bind fun qb => (impl_divisorOf.l0 k qb x6 x7 (wrap64 (x8 + 1)))) else (none)) else (none)) else (some x3)
def impl_divisorOf.f (k : Nat) (l0 : List Int) : Option (Int) := impl_divisorOf.l0 k 0 l0 (l0.length : Int) 0
theorem impl_divisorOf.mono_l : ∀ k, (∀ y0 y1 y2 y3, LeO (impl_divisorOf.l0 k y0 y1 y2 y3) (impl_divisorOf.l0 (k + 1) y0 y1 y2 y3))
 | 0 => fun _ _ _ _ r h => by simp [impl_divisorOf.l0] at h
 | k + 1 => by
  have ih0 := impl_divisorOf.mono_l k
  ·
   intro y0 y1 y2 y3
   unfold impl_divisorOf.l0
   repeat' first
   | (with_reducible exact ih0 _ _ _ _)
   | (with_reducible exact impl_commonDivisor.mono _ _ _)
   | (with_reducible exact LeO.refl _)
   | (with_reducible exact LeO.none _)
   | (with_reducible refine LeO.ite ?_ ?_)
   | (with_reducible refine LeO.bind ?_ (fun _ => ?_))
   | exact ih0 _ _ _ _
   | exact impl_commonDivisor.mono _ _ _
   | exact LeO.none _
   | refine LeO.ite ?_ ?_
   | refine LeO.bind ?_ (fun _ => ?_)
theorem impl_divisorOf.mono : ∀ a0 k, LeO (impl_divisorOf.f k a0) (impl_divisorOf.f (k + 1) a0) := by
 intro a0 k
 have ih0 := impl_divisorOf.mono_l k
 unfold impl_divisorOf.f
 repeat' first
   | (with_reducible exact ih0 _ _ _ _)
   | (with_reducible exact impl_commonDivisor.mono _ _ _)
   | (with_reducible exact LeO.refl _)
   | (with_reducible exact LeO.none _)
   | (with_reducible refine LeO.ite ?_ ?_)
   | (with_reducible refine LeO.bind ?_ (fun _ => ?_))
   | exact ih0 _ _ _ _
   | exact impl_commonDivisor.mono _ _ _
   | exact LeO.none _
   | refine LeO.ite ?_ ?_
   | refine LeO.bind ?_ (fun _ => ?_)
set_option maxHeartbeats 8000000 in
set_option maxRecDepth 100000 in
theorem impl_divisorOf.calls (k : Nat) (A0 : Option Addr) (c0 : Nat) (l0 : List Int) (r : Int) (w : World) (hr0 : Kd.C (Kd.int .i64) w A0 l0.length l0) (hc0 : l0.length ≤ c0) (h : impl_divisorOf.f k l0 = some r) :
  Calls Tryd.prog 93 #[.slice A0 l0.length c0] w fun e w' => e = .returned (.int .i64 r) ∧ Drawn0 w w' := by
 have HR0 := Aside0.mk hr0
 have HC0 := Aside0.mk hc0
 clear hr0 hc0
 have H : (impl_divisorOf.l0 k 0 l0 (l0.length : Int) 0) = some r := h
 clear h
 have H' := Aside0.mk H
 clear H
 go_enter Tryd.func93, Tryd.ntmps93
 go_wp2
 go_loopg [3, 8] k (fun kq v3 v8 w' => ∃ (qc : Int) (qa : Int), v3 = .int .i64 qc ∧ v8 = .int .i64 qa ∧ Aside0 (impl_divisorOf.l0 kq qc l0 (l0.length : Int) qa = some r) ∧ Aside0 (kq ≤ k) ∧ Drawn0 w w')
 case atStart => exact ⟨(0), (0), (by first | rfl | (simp; done) | (simp [*]; done)), (by first | rfl | (simp; done) | (simp [*]; done)), H', ⟨Nat.le_refl _⟩, by repeat (first | exact Drawn0.refl _ | apply Drawn0.step)⟩
 case round =>
  clear H'
  obtain ⟨qc, qa, rfl, rfl, HA, HK1, ⟨m1, rfl⟩⟩ := hrel
  cases gk with
  | zero => exact absurd HA.out (by simp [impl_divisorOf.l0])
  | succ k1 =>
   have H := HA.out
   clear HA
   simp only [impl_divisorOf.l0] at H
   by_cases c2 : qa < (l0.length : Int)
   ·
    rw [if_pos c2] at H
    have qe : decide (qa < (l0.length : Int)) = true := decide_eq_true c2
    clear c2
    by_cases c3 : 0 ≤ qa
    ·
     rw [if_pos c3] at H
     have qg : decide (0 ≤ qa) = true := decide_eq_true c3
     clear c3
     by_cases c4 : qa < (l0.length : Int)
     ·
      rw [if_pos c4] at H
      have qh : decide (qa < (l0.length : Int)) = true := decide_eq_true c4
      clear c4
      replace H := Option.bind_eq_some_iff.mp H
      obtain ⟨qb, A50, H⟩ := H
      replace H : (impl_divisorOf.l0 k1 qb l0 (l0.length : Int) (wrap64 (qa + 1))) = some r := H
      have A5 := Aside0.mk A50
      clear A50
      have H' := Aside0.mk H
      clear H
      have p184 : 0 ≤ (qa : Int) := of_decide_eq_true (by first | (with_reducible assumption) | assumption)
      have q184 : qa < (l0.length : Int) := of_decide_eq_true (by first | (with_reducible assumption) | assumption)
      obtain ⟨qf, e184, qd⟩ := Kd.at_int HR0.out qa p184 q184
      cases e184
      replace p184 := eq_true p184
      replace q184 := eq_true q184
      go_wp2_with (first | ((with_reducible refine gate_callee (f := 92) rfl ?_); refine goesL_ (some 14) rfl rfl Tryd.func92 (by kernel_rfl) rfl #[.int .i64 qc, .int .i64 (rd l0 qa)] rfl (by (try simp only [List.map_toArray, List.map_cons, List.map_nil]); first | done | rfl | (simp only [List.length_drop, List.length_take]; rfl)) ?_; (with_reducible refine (impl_commonDivisor.calls k1 qc (rd l0 qa) qb _ A5.out).mono ?_); rintro e w' ⟨rfl, ⟨nd, rfl⟩⟩; refine ⟨_, rfl, ?_⟩))
      go_roundg k1
      case measure => have := HK1.out; omega
      case rel => exact ⟨(qb), (wrap64 (qa + 1)), (by first | rfl | (simp; done) | (simp [*]; done)), (by first | rfl | (simp; done) | (simp [*]; done)), H', ⟨by have := HK1.out; omega⟩, by repeat (first | exact Drawn0.refl _ | apply Drawn0.step)⟩
     ·
      rw [if_neg c4] at H
      exact absurd H (by simp)
    ·
     rw [if_neg c3] at H
     exact absurd H (by simp)
   ·
    rw [if_neg c2] at H
    have qe : decide (qa < (l0.length : Int)) = false := decide_eq_false c2
    clear c2
    obtain rfl := Option.some.inj H
    go_wp2
    go_ret
    exact ⟨by first | rfl | (simp; done) | (simp [*]; done), by repeat (first | exact Drawn0.refl _ | apply Drawn0.step)⟩

/-! ### impl_IsAtom: function 52 -/
mutual
def impl_IsAtom.j0 : Nat → Bool → List Int → Int → Bool → Option (Bool)
 | 0, _, _, _, _ => none
 | k + 1, x14, x187000, x187001, x187002 => if x14 = true then (some false) else (impl_IsAtom.l0 k x187000 (x187000.length : Int) 0 x187000 x187001 x187002)
def impl_IsAtom.l0 : Nat → List Int → Int → Int → List Int → Int → Bool → Option (Bool)
 | 0, _, _, _, _, _, _ => none
 | k + 1, x16, x17, x18, x187000, x187001, x187002 => if x18 < x17 then (if 0 ≤ x18 then (if x18 < (x16.length : Int) then ((impl_IsNumber.f (rd x16 x18)).bind fun qx => (if qx = true then (impl_IsAtom.l0 k x16 x17 (wrap64 (x18 + 1)) x187000 x187001 x187002) else (some false))) else (none)) else (none)) else ((impl_divisorOf.f k x187000).bind fun qe => ((impl_commonDivisor.f k qe x187001).bind fun qg => (some (decide (qg ≤ 1)))))
end
def impl_IsAtom.f (k : Nat) (l0_0 : List Int) (a0_1 : Int) (a0_2 : Bool) : Option (Bool) := if (l0_0.length : Int) > 4 then (impl_IsAtom.j0 k true l0_0 a0_1 a0_2) else ((impl_IsNumber.f a0_1).bind fun qf => (impl_IsAtom.j0 k (!qf) l0_0 a0_1 a0_2))
theorem impl_IsAtom.mono_l : ∀ k, (∀ y0 y1 y2 y3, LeO (impl_IsAtom.j0 k y0 y1 y2 y3) (impl_IsAtom.j0 (k + 1) y0 y1 y2 y3)) ∧ (∀ y0 y1 y2 y3 y4 y5, LeO (impl_IsAtom.l0 k y0 y1 y2 y3 y4 y5) (impl_IsAtom.l0 (k + 1) y0 y1 y2 y3 y4 y5))
 | 0 => ⟨fun _ _ _ _ r h => by simp [impl_IsAtom.j0] at h, fun _ _ _ _ _ _ r h => by simp [impl_IsAtom.l0] at h⟩
 | k + 1 => by
  obtain ⟨ih0, ih1⟩ := impl_IsAtom.mono_l k
  refine ⟨?_, ?_⟩
  ·
   intro y0 y1 y2 y3
   unfold impl_IsAtom.j0
   repeat' first
   | (with_reducible exact ih0 _ _ _ _)
   | (with_reducible exact ih1 _ _ _ _ _ _)
   | (with_reducible exact impl_commonDivisor.mono _ _ _)
   | (with_reducible exact impl_divisorOf.mono _ _)
   | (with_reducible exact LeO.refl _)
   | (with_reducible exact LeO.none _)
   | (with_reducible refine LeO.ite ?_ ?_)
   | (with_reducible refine LeO.bind ?_ (fun _ => ?_))
   | exact ih0 _ _ _ _
   | exact ih1 _ _ _ _ _ _
   | exact impl_commonDivisor.mono _ _ _
   | exact impl_divisorOf.mono _ _
   | exact LeO.none _
   | refine LeO.ite ?_ ?_
   | refine LeO.bind ?_ (fun _ => ?_)
  ·
   intro y0 y1 y2 y3 y4 y5
   unfold impl_IsAtom.l0
   repeat' first
   | (with_reducible exact ih0 _ _ _ _)
   | (with_reducible exact ih1 _ _ _ _ _ _)
   | (with_reducible exact impl_commonDivisor.mono _ _ _)
   | (with_reducible exact impl_divisorOf.mono _ _)
   | (with_reducible exact LeO.refl _)
   | (with_reducible exact LeO.none _)
   | (with_reducible refine LeO.ite ?_ ?_)
   | (with_reducible refine LeO.bind ?_ (fun _ => ?_))
   | exact ih0 _ _ _ _
   | exact ih1 _ _ _ _ _ _
   | exact impl_commonDivisor.mono _ _ _
   | exact impl_divisorOf.mono _ _
   | exact LeO.none _
   | refine LeO.ite ?_ ?_
   | refine LeO.bind ?_ (fun _ => ?_)
theorem impl_IsAtom.mono : ∀ a0 a1 a2 k, LeO (impl_IsAtom.f k a0 a1 a2) (impl_IsAtom.f (k + 1) a0 a1 a2) := by
 intro a0 a1 a2 k
 obtain ⟨ih0, ih1⟩ := impl_IsAtom.mono_l k
 unfold impl_IsAtom.f
 repeat' first
   | (with_reducible exact ih0 _ _ _ _)
   | (with_reducible exact ih1 _ _ _ _ _ _)
   | (with_reducible exact impl_commonDivisor.mono _ _ _)
   | (with_reducible exact impl_divisorOf.mono _ _)
   | (with_reducible exact LeO.refl _)
   | (with_reducible exact LeO.none _)
   | (with_reducible refine LeO.ite ?_ ?_)
   | (with_reducible refine LeO.bind ?_ (fun _ => ?_))
   | exact ih0 _ _ _ _
   | exact ih1 _ _ _ _ _ _
   | exact impl_commonDivisor.mono _ _ _
   | exact impl_divisorOf.mono _ _
   | exact LeO.none _
   | refine LeO.ite ?_ ?_
   | refine LeO.bind ?_ (fun _ => ?_)
set_option maxHeartbeats 8000000 in
set_option maxRecDepth 100000 in
theorem impl_IsAtom.calls (k : Nat) (A0_0 : Option Addr) (c0_0 : Nat) (l0_0 : List Int) (a0_1 : Int) (a0_2 : Bool) (r : Bool) (w : World) (hr0_0 : Kd.C (Kd.int .i64) w A0_0 l0_0.length l0_0) (hc0_0 : l0_0.length ≤ c0_0) (h : impl_IsAtom.f k l0_0 a0_1 a0_2 = some r) :
  Calls Tryd.prog 52 #[.agg #[.slice A0_0 l0_0.length c0_0, .int .i64 a0_1, .bool a0_2]] w fun e w' => e = .returned (.bool r) ∧ Below w.heap.size w w' := by
 have hu27 := Tryd.underlying27
 have qh := Aside0.mk hr0_0
 have qk := Aside0.mk hc0_0
 clear hr0_0 hc0_0
 have HB := Aside0.mk (Below.refl w.heap.size w)
 have H : (if (l0_0.length : Int) > 4 then (impl_IsAtom.j0 k true l0_0 a0_1 a0_2) else ((impl_IsNumber.f a0_1).bind fun qf => (impl_IsAtom.j0 k (!qf) l0_0 a0_1 a0_2))) = some r := h
 clear h
 have HC2 := Aside0.mk H
 clear H
 go_enter Tryd.func52, Tryd.ntmps52
 go_upto_region 1 with (first | ((with_reducible refine gate_dst (N := 1) rfl ?_); refine box_event ?hg (N := 1) ?hd (cs := #[.slice A0_0 l0_0.length c0_0, .int .i64 a0_1, .bool a0_2]) (t := 27) ?hr ?_; (case hd => rfl); (case hg => rfl); (case hr => first | (go_simp; done) | (go_simp; rfl)); intro qc hg w3 hbox hb; have qa := Aside0.mk (hbox); have qy := Aside0.mk ((by rw [hg]; exact (bz_ HB) : w.heap.size ≤ qc)); have qz := Aside0.mk ((by rw [hg]; exact (bz_ HB) : w.heap.size ≤ qc)); replace HB := bS_ HB hb; clear hb hbox hg))
 repeat (go_quiet (first | ((with_reducible refine gate_dst (N := 1) rfl ?_); refine box_event ?hg (N := 1) ?hd (cs := #[.slice A0_0 l0_0.length c0_0, .int .i64 a0_1, .bool a0_2]) (t := 27) ?hr ?_; (case hd => rfl); (case hg => rfl); (case hr => first | (go_simp; done) | (go_simp; rfl)); intro qc hg w3 hbox hb; have qa := Aside0.mk (hbox); have qy := Aside0.mk ((by rw [hg]; exact (bz_ HB) : w.heap.size ≤ qc)); have qz := Aside0.mk ((by rw [hg]; exact (bz_ HB) : w.heap.size ≤ qc)); replace HB := bS_ HB hb; clear hb hbox hg)); go_upto_region 1 with (first | ((with_reducible refine gate_dst (N := 1) rfl ?_); refine box_event ?hg (N := 1) ?hd (cs := #[.slice A0_0 l0_0.length c0_0, .int .i64 a0_1, .bool a0_2]) (t := 27) ?hr ?_; (case hd => rfl); (case hg => rfl); (case hr => first | (go_simp; done) | (go_simp; rfl)); intro qc hg w3 hbox hb; have qa := Aside0.mk (hbox); have qy := Aside0.mk ((by rw [hg]; exact (bz_ HB) : w.heap.size ≤ qc)); have qz := Aside0.mk ((by rw [hg]; exact (bz_ HB) : w.heap.size ≤ qc)); replace HB := bS_ HB hb; clear hb hbox hg)))
 (try simp only [Act.put, List.setIfInBounds_toArray, List.set_cons_zero, List.set_cons_succ])
 go_cut [14] (fun v14 wc => ∃ (kq : Nat) (qj : Bool), v14 = .bool qj ∧ Aside0 (impl_IsAtom.j0 kq qj l0_0 a0_1 a0_2 = some r) ∧ Aside0 (kq ≤ k) ∧ Aside0 (wc.heap[qc]? = some (.cells #[(.slice A0_0 l0_0.length c0_0), .int .i64 a0_1, .bool a0_2] 27 (0, 0))) ∧ Aside0 (Below w.heap.size w wc))
 case first =>
  have H := HC2.out
  clear HC2
  by_cases c4 : (l0_0.length : Int) > 4
  ·
   rw [if_pos c4] at H
   have qi : decide (4 < (l0_0.length : Int)) = true := decide_eq_true c4
   have qA : decide (4 < l0_0.length) = true := decide_eq_true (by omega)
   clear c4
   (first | rw [qi] | (simp only [i64_w, i32_w]; rw [qi]) | skip)
   have H' := Aside0.mk H
   clear H
   have ql : w3.cell? ⟨qc, 0, none⟩ = some (.slice A0_0 l0_0.length c0_0) := bc_ qa 0
   have qm : w3.cell? ⟨qc, 1, none⟩ = some (.int .i64 a0_1) := bc_ qa 1
   have qn : w3.cell? ⟨qc, 2, none⟩ = some (.bool a0_2) := bc_ qa 2
   have qo := blk_frozen qa.out 0
   have qp := blk_frozen qa.out 1
   have qq := blk_frozen qa.out 2
   go_wp2
   repeat (go_quiet (fail); try go_wp2)
   go_meet
   case rel => exact ⟨_, (true), (by first | rfl | (simp; done) | (simp [*]; done)), H', ⟨by first | omega | exact Nat.le_refl _⟩, ⟨kf_ qa⟩, ⟨bb_ HB⟩⟩
  ·
   rw [if_neg c4] at H
   have qi : decide (4 < (l0_0.length : Int)) = false := decide_eq_false c4
   have qA : decide (4 < l0_0.length) = false := decide_eq_false (by omega)
   clear c4
   (first | rw [qi] | (simp only [i64_w, i32_w]; rw [qi]) | skip)
   replace H := Option.bind_eq_some_iff.mp H
   obtain ⟨qf, A60, H⟩ := H
   replace H : (impl_IsAtom.j0 k (!qf) l0_0 a0_1 a0_2) = some r := H
   have A6 := Aside0.mk A60
   clear A60
   have H' := Aside0.mk H
   clear H
   have qr : w3.cell? ⟨qc, 0, none⟩ = some (.slice A0_0 l0_0.length c0_0) := bc_ qa 0
   have qs : w3.cell? ⟨qc, 1, none⟩ = some (.int .i64 a0_1) := bc_ qa 1
   have qt : w3.cell? ⟨qc, 2, none⟩ = some (.bool a0_2) := bc_ qa 2
   have qu := blk_frozen qa.out 0
   have qv := blk_frozen qa.out 1
   have qw := blk_frozen qa.out 2
   go_wp2_with (first | (go_at_call 61; (with_reducible refine (impl_IsNumber.calls a0_1 qf _ A6.out).mono ?_); rintro e w' ⟨rfl, ⟨nd, rfl⟩⟩; (try first | exact ⟨rfl, _, World.drewN_drewN _ _ _⟩ | exact ⟨rfl, _, Eq.trans (World.drewN_drewN _ _ _) (congrArg (World.drewN _) (Nat.add_assoc _ _ _))⟩)))
   repeat (go_quiet (first | (go_at_call 61; (with_reducible refine (impl_IsNumber.calls a0_1 qf _ A6.out).mono ?_); rintro e w' ⟨rfl, ⟨nd, rfl⟩⟩; (try first | exact ⟨rfl, _, World.drewN_drewN _ _ _⟩ | exact ⟨rfl, _, Eq.trans (World.drewN_drewN _ _ _) (congrArg (World.drewN _) (Nat.add_assoc _ _ _))⟩))); try go_wp2_with (first | (go_at_call 61; (with_reducible refine (impl_IsNumber.calls a0_1 qf _ A6.out).mono ?_); rintro e w' ⟨rfl, ⟨nd, rfl⟩⟩; (try first | exact ⟨rfl, _, World.drewN_drewN _ _ _⟩ | exact ⟨rfl, _, Eq.trans (World.drewN_drewN _ _ _) (congrArg (World.drewN _) (Nat.add_assoc _ _ _))⟩))))
   go_meet
   case rel => exact ⟨_, (!qf), (by first | rfl | (simp; done) | (simp [*]; done)), H', ⟨by first | omega | exact Nat.le_refl _⟩, ⟨kf_ qa⟩, ⟨bb_ HB⟩⟩
 case rest =>
  clear HC2
  try clear p2
  try clear c4
  try clear qi
  try clear qA
  try clear c5
  try clear ql
  try clear qm
  try clear qn
  try clear qr
  try clear qs
  try clear qt
  try clear qo
  try clear qp
  try clear qq
  try clear qu
  try clear qv
  try clear qw
  obtain ⟨kq, qj, rfl, HA, HJ1, qa, HB⟩ := hcut
  cases kq with
  | zero => exact absurd HA.out (by simp [impl_IsAtom.j0])
  | succ kj1 =>
   have H := HA.out
   clear HA
   simp only [impl_IsAtom.j0] at H
   by_cases c8 : qj = true
   ·
    subst c8
    have H1 : (some false) = some r := by rw [if_pos rfl] at H; exact H
    clear H
    have H := H1
    clear H1
    obtain rfl := Option.some.inj H
    go_wp2
    repeat (go_quiet (fail); try go_wp2)
    go_ret
    exact ⟨by first | rfl | (simp [errW_none, errW_some] <;> rfl) | (simp [*, errW_none, errW_some] <;> rfl), bb_ HB⟩
   ·
    replace c8 := Bool.eq_false_iff.mpr c8
    subst c8
    have H1 : (impl_IsAtom.l0 kj1 l0_0 (l0_0.length : Int) 0 l0_0 a0_1 a0_2) = some r := by rw [if_neg (show ¬ (false = true) by decide)] at H; exact H
    clear H
    have H := H1
    clear H1
    have H' := Aside0.mk H
    clear H
    have qB : wc.cell? ⟨qc, 0, none⟩ = some (.slice A0_0 l0_0.length c0_0) := bc_ qa 0
    have qC : wc.cell? ⟨qc, 1, none⟩ = some (.int .i64 a0_1) := bc_ qa 1
    have qD : wc.cell? ⟨qc, 2, none⟩ = some (.bool a0_2) := bc_ qa 2
    have qE := blk_frozen qa.out 0
    have qF := blk_frozen qa.out 1
    have qG := blk_frozen qa.out 2
    go_wp2
    repeat (go_quiet (fail); try go_wp2)
    go_loopg [18] kj1 (fun kq v18 w' => ∃ (qb : Int), v18 = .int .i64 qb ∧ Aside0 (impl_IsAtom.l0 kq l0_0 (l0_0.length : Int) qb l0_0 a0_1 a0_2 = some r) ∧ Aside0 (kq ≤ kj1) ∧ Aside0 (w'.heap[qc]? = some (.cells #[(.slice A0_0 l0_0.length c0_0), .int .i64 a0_1, .bool a0_2] 27 (0, 0))) ∧ Aside0 (Below w.heap.size w w'))
    case atStart => exact ⟨(0), (by first | rfl | (simp; done) | (simp [*]; done)), H', ⟨Nat.le_refl _⟩, ⟨kf_ qa⟩, ⟨bb_ HB⟩⟩
    case round =>
     clear H'
     try clear p2
     try clear c4
     try clear qi
     try clear qA
     try clear c5
     try clear c8
     try clear ql
     try clear qm
     try clear qn
     try clear qr
     try clear qs
     try clear qt
     try clear qB
     try clear qC
     try clear qD
     try clear qo
     try clear qp
     try clear qq
     try clear qu
     try clear qv
     try clear qw
     try clear qE
     try clear qF
     try clear qG
     try clear p2
     obtain ⟨qb, rfl, HA, HK2, qa, HB⟩ := hrel
     cases gk with
     | zero => exact absurd HA.out (by simp [impl_IsAtom.l0])
     | succ k2 =>
      have H := HA.out
      clear HA
      simp only [impl_IsAtom.l0] at H
      by_cases c10 : qb < (l0_0.length : Int)
      ·
       rw [if_pos c10] at H
       have qH : decide (qb < (l0_0.length : Int)) = true := decide_eq_true c10
       clear c10
       by_cases c11 : 0 ≤ qb
       ·
        rw [if_pos c11] at H
        have qP : decide (0 ≤ qb) = true := decide_eq_true c11
        clear c11
        by_cases c12 : qb < (l0_0.length : Int)
        ·
         rw [if_pos c12] at H
         have qQ : decide (qb < (l0_0.length : Int)) = true := decide_eq_true c12
         clear c12
         replace H := Option.bind_eq_some_iff.mp H
         obtain ⟨qx, A130, H⟩ := H
         replace H : (if qx = true then (impl_IsAtom.l0 k2 l0_0 (l0_0.length : Int) (wrap64 (qb + 1)) l0_0 a0_1 a0_2) else (some false)) = some r := H
         have A13 := Aside0.mk A130
         clear A130
         by_cases c14 : qx = true
         ·
          subst c14
          have H1 : (impl_IsAtom.l0 k2 l0_0 (l0_0.length : Int) (wrap64 (qb + 1)) l0_0 a0_1 a0_2) = some r := by rw [if_pos rfl] at H; exact H
          clear H
          have H := H1
          clear H1
          have H' := Aside0.mk H
          clear H
          have p188 : 0 ≤ (qb : Int) := of_decide_eq_true (by first | (with_reducible assumption) | assumption)
          have q188 : qb < (l0_0.length : Int) := of_decide_eq_true (by first | (with_reducible assumption) | assumption)
          obtain ⟨qI, e188, qd⟩ := Kd.at_int qh.out qb p188 q188
          cases e188
          replace qd := (HB.out.cell (World.block_lt_of_cell? w _ qd)).trans qd
          replace p188 := eq_true p188
          replace q188 := eq_true q188
          go_wp2_with (first | (go_at_call 61; (with_reducible refine (impl_IsNumber.calls (rd l0_0 qb) true _ A13.out).mono ?_); rintro e w' ⟨rfl, ⟨nd, rfl⟩⟩; (try first | exact ⟨rfl, _, World.drewN_drewN _ _ _⟩ | exact ⟨rfl, _, Eq.trans (World.drewN_drewN _ _ _) (congrArg (World.drewN _) (Nat.add_assoc _ _ _))⟩)))
          repeat (go_quiet (first | (go_at_call 61; (with_reducible refine (impl_IsNumber.calls (rd l0_0 qb) true _ A13.out).mono ?_); rintro e w' ⟨rfl, ⟨nd, rfl⟩⟩; (try first | exact ⟨rfl, _, World.drewN_drewN _ _ _⟩ | exact ⟨rfl, _, Eq.trans (World.drewN_drewN _ _ _) (congrArg (World.drewN _) (Nat.add_assoc _ _ _))⟩))); try go_wp2_with (first | (go_at_call 61; (with_reducible refine (impl_IsNumber.calls (rd l0_0 qb) true _ A13.out).mono ?_); rintro e w' ⟨rfl, ⟨nd, rfl⟩⟩; (try first | exact ⟨rfl, _, World.drewN_drewN _ _ _⟩ | exact ⟨rfl, _, Eq.trans (World.drewN_drewN _ _ _) (congrArg (World.drewN _) (Nat.add_assoc _ _ _))⟩))))
          go_roundg k2
          case measure => have := HJ1.out; have := HK2.out; omega
          case rel => exact ⟨(wrap64 (qb + 1)), (by first | rfl | (simp; done) | (simp [*]; done)), H', ⟨by have := HJ1.out; have := HK2.out; omega⟩, ⟨kf_ qa⟩, ⟨bb_ HB⟩⟩
         ·
          replace c14 := Bool.eq_false_iff.mpr c14
          subst c14
          have H1 : (some false) = some r := by rw [if_neg (show ¬ (false = true) by decide)] at H; exact H
          clear H
          have H := H1
          clear H1
          obtain rfl := Option.some.inj H
          have p188 : 0 ≤ (qb : Int) := of_decide_eq_true (by first | (with_reducible assumption) | assumption)
          have q188 : qb < (l0_0.length : Int) := of_decide_eq_true (by first | (with_reducible assumption) | assumption)
          obtain ⟨qI, e188, qd⟩ := Kd.at_int qh.out qb p188 q188
          cases e188
          replace qd := (HB.out.cell (World.block_lt_of_cell? w _ qd)).trans qd
          replace p188 := eq_true p188
          replace q188 := eq_true q188
          go_wp2_with (first | (go_at_call 61; (with_reducible refine (impl_IsNumber.calls (rd l0_0 qb) false _ A13.out).mono ?_); rintro e w' ⟨rfl, ⟨nd, rfl⟩⟩; (try first | exact ⟨rfl, _, World.drewN_drewN _ _ _⟩ | exact ⟨rfl, _, Eq.trans (World.drewN_drewN _ _ _) (congrArg (World.drewN _) (Nat.add_assoc _ _ _))⟩)))
          repeat (go_quiet (first | (go_at_call 61; (with_reducible refine (impl_IsNumber.calls (rd l0_0 qb) false _ A13.out).mono ?_); rintro e w' ⟨rfl, ⟨nd, rfl⟩⟩; (try first | exact ⟨rfl, _, World.drewN_drewN _ _ _⟩ | exact ⟨rfl, _, Eq.trans (World.drewN_drewN _ _ _) (congrArg (World.drewN _) (Nat.add_assoc _ _ _))⟩))); try go_wp2_with (first | (go_at_call 61; (with_reducible refine (impl_IsNumber.calls (rd l0_0 qb) false _ A13.out).mono ?_); rintro e w' ⟨rfl, ⟨nd, rfl⟩⟩; (try first | exact ⟨rfl, _, World.drewN_drewN _ _ _⟩ | exact ⟨rfl, _, Eq.trans (World.drewN_drewN _ _ _) (congrArg (World.drewN _) (Nat.add_assoc _ _ _))⟩))))
          go_ret
          exact ⟨by first | rfl | (simp [errW_none, errW_some] <;> rfl) | (simp [*, errW_none, errW_some] <;> rfl), bb_ HB⟩
        ·
         rw [if_neg c12] at H
         exact absurd H (by simp)
       ·
        rw [if_neg c11] at H
        exact absurd H (by simp)
      ·
       rw [if_neg c10] at H
       have qH : decide (qb < (l0_0.length : Int)) = false := decide_eq_false c10
       clear c10
       replace H := Option.bind_eq_some_iff.mp H
       obtain ⟨qe, A150, H⟩ := H
       replace H : ((impl_commonDivisor.f k2 qe a0_1).bind fun qg => (some (decide (qg ≤ 1)))) = some r := H
       have A15 := Aside0.mk A150
       clear A150
       replace H := Option.bind_eq_some_iff.mp H
       obtain ⟨qg, A160, H⟩ := H
       replace H : (some (decide (qg ≤ 1))) = some r := H
       have A16 := Aside0.mk A160
       clear A160
       obtain rfl := Option.some.inj H
       have qJ : wr.cell? ⟨qc, 0, none⟩ = some (.slice A0_0 l0_0.length c0_0) := bc_ qa 0
       have qK : wr.cell? ⟨qc, 1, none⟩ = some (.int .i64 a0_1) := bc_ qa 1
       have qL : wr.cell? ⟨qc, 2, none⟩ = some (.bool a0_2) := bc_ qa 2
       have qM := blk_frozen qa.out 0
       have qN := blk_frozen qa.out 1
       have qO := blk_frozen qa.out 2
       go_wp2_with (first | (go_at_call 93; (with_reducible refine (impl_divisorOf.calls k2 _ _ l0_0 qe _ ?side1 ?side2 A15.out).mono ?_); (case side1 => exact cb_ qh HB); (case side2 => exact qk.out); rintro e w' ⟨rfl, ⟨nd, rfl⟩⟩; (try first | exact ⟨rfl, _, World.drewN_drewN _ _ _⟩ | exact ⟨rfl, _, Eq.trans (World.drewN_drewN _ _ _) (congrArg (World.drewN _) (Nat.add_assoc _ _ _))⟩)) | (go_at_call 92; (with_reducible refine (impl_commonDivisor.calls k2 qe a0_1 qg _ A16.out).mono ?_); rintro e w' ⟨rfl, ⟨nd, rfl⟩⟩; (try first | exact ⟨rfl, _, World.drewN_drewN _ _ _⟩ | exact ⟨rfl, _, Eq.trans (World.drewN_drewN _ _ _) (congrArg (World.drewN _) (Nat.add_assoc _ _ _))⟩)))
       repeat (go_quiet (first | (go_at_call 93; (with_reducible refine (impl_divisorOf.calls k2 _ _ l0_0 qe _ ?side1 ?side2 A15.out).mono ?_); (case side1 => exact cb_ qh HB); (case side2 => exact qk.out); rintro e w' ⟨rfl, ⟨nd, rfl⟩⟩; (try first | exact ⟨rfl, _, World.drewN_drewN _ _ _⟩ | exact ⟨rfl, _, Eq.trans (World.drewN_drewN _ _ _) (congrArg (World.drewN _) (Nat.add_assoc _ _ _))⟩)) | (go_at_call 92; (with_reducible refine (impl_commonDivisor.calls k2 qe a0_1 qg _ A16.out).mono ?_); rintro e w' ⟨rfl, ⟨nd, rfl⟩⟩; (try first | exact ⟨rfl, _, World.drewN_drewN _ _ _⟩ | exact ⟨rfl, _, Eq.trans (World.drewN_drewN _ _ _) (congrArg (World.drewN _) (Nat.add_assoc _ _ _))⟩))); try go_wp2_with (first | (go_at_call 93; (with_reducible refine (impl_divisorOf.calls k2 _ _ l0_0 qe _ ?side1 ?side2 A15.out).mono ?_); (case side1 => exact cb_ qh HB); (case side2 => exact qk.out); rintro e w' ⟨rfl, ⟨nd, rfl⟩⟩; (try first | exact ⟨rfl, _, World.drewN_drewN _ _ _⟩ | exact ⟨rfl, _, Eq.trans (World.drewN_drewN _ _ _) (congrArg (World.drewN _) (Nat.add_assoc _ _ _))⟩)) | (go_at_call 92; (with_reducible refine (impl_commonDivisor.calls k2 qe a0_1 qg _ A16.out).mono ?_); rintro e w' ⟨rfl, ⟨nd, rfl⟩⟩; (try first | exact ⟨rfl, _, World.drewN_drewN _ _ _⟩ | exact ⟨rfl, _, Eq.trans (World.drewN_drewN _ _ _) (congrArg (World.drewN _) (Nat.add_assoc _ _ _))⟩))))
       go_ret
       exact ⟨by first | rfl | (simp [errW_none, errW_some] <;> rfl) | (simp [*, errW_none, errW_some] <;> rfl), bb_ HB⟩

end Go.Proofs.YtohoibekddhneaaDoor.PFnExactFormatCell
