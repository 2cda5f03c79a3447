/- The functions that the law FnExactFormatRegion reaches, each as a Lean function with the same answers, and the proof that the call comes to exactly these: turned by program out of the printed texts. No condition but those that each theorem names. -/
import Derived.Test.YtohoibekddhneaaDoorQFnExactFormatRegionx0
namespace Go.Proofs.YtohoibekddhneaaDoor.PFnExactFormatRegion
open Go.RowKit Go.Proofs.YtohoibekddhneaaDoorW.PrintWords Go.Proofs.YtohoibekddhneaaDoorW.PrintLast Go.Proofs.YtohoibekddhneaaDoorW.PrintMore
attribute [local go_sem] max2_int min2_int max_two min_two max_three min_three max_four min_four   -- for this text's walks alone
set_option linter.unusedVariables false
set_option linter.unusedSimpArgs false

/-! ### laws_szIntS: function 49 -/
def laws_szIntS.f (l0 : List Int) (a1 : Int) : Option (Int) := if (wrap64 (a1 - (l0.length : Int))) < 0 then (some (-1)) else (some (wrap64 (a1 - (l0.length : Int))))
set_option maxHeartbeats 8000000 in
set_option maxRecDepth 100000 in
theorem laws_szIntS.calls (A0 : Option Addr) (c0 : Nat) (l0 : List Int) (a1 : Int) (r : Int) (w : World) (hr0 : Kd.C (Kd.int .i64) w A0 l0.length l0) (hc0 : l0.length ≤ c0) (h : laws_szIntS.f l0 a1 = some r) :
  Calls Tryd.prog 49 #[.slice A0 l0.length c0, .int .i64 a1] w fun e w' => e = .returned (.int .i64 r) ∧ Drawn0 w w' := by
 have HR0 := Aside0.mk hr0
 have HC0 := Aside0.mk hc0
 clear hr0 hc0
 have H : (if (wrap64 (a1 - (l0.length : Int))) < 0 then (some (-1)) else (some (wrap64 (a1 - (l0.length : Int))))) = some r := h
 clear h
 by_cases c3 : (wrap64 (a1 - (l0.length : Int))) < 0
 ·
  rw [if_pos c3] at H
  have qa : decide ((wrap64 (a1 - (l0.length : Int))) < 0) = true := decide_eq_true c3
  clear c3
  obtain rfl := Option.some.inj H
  go_enter Tryd.func49, Tryd.ntmps49
  go_wp2
  go_ret
  exact ⟨by first | rfl | (simp; done) | (simp [*]; done), by repeat (first | exact Drawn0.refl _ | apply Drawn0.step)⟩
 rw [if_neg c3] at H
 have qa : decide ((wrap64 (a1 - (l0.length : Int))) < 0) = false := decide_eq_false c3
 clear c3
 obtain rfl := Option.some.inj H
 go_enter Tryd.func49, Tryd.ntmps49
 go_wp2
 go_ret
 exact ⟨by first | rfl | (simp; done) | (simp [*]; done), by repeat (first | exact Drawn0.refl _ | apply Drawn0.step)⟩

/-! ### laws_szAtom: function 11 -/
def laws_szAtom.f (l0_0 : List Int) (a0_1 : Int) (a0_2 : Bool) (a1 : Int) : Option (Int) := (laws_szIntS.f l0_0 a1).bind fun qa => (if qa < 0 then (some (-1)) else (some qa))
set_option maxHeartbeats 8000000 in
set_option maxRecDepth 100000 in
theorem laws_szAtom.calls (A0_0 : Option Addr) (c0_0 : Nat) (l0_0 : List Int) (a0_1 : Int) (a0_2 : Bool) (a1 : Int) (r : Int) (w : World) (hr0_0 : Kd.C (Kd.int .i64) w A0_0 l0_0.length l0_0) (hc0_0 : l0_0.length ≤ c0_0) (h : laws_szAtom.f l0_0 a0_1 a0_2 a1 = some r) :
  Calls Tryd.prog 11 #[.agg #[.slice A0_0 l0_0.length c0_0, .int .i64 a0_1, .bool a0_2], .int .i64 a1] w fun e w' => e = .returned (.int .i64 r) ∧ Below w.heap.size w w' := by
 have hu24 := Tryd.underlying24
 have qc := Aside0.mk hr0_0
 have qd := Aside0.mk hc0_0
 clear hr0_0 hc0_0
 have HB := Aside0.mk (Below.refl w.heap.size w)
 have H : ((laws_szIntS.f l0_0 a1).bind fun qa => (if qa < 0 then (some (-1)) else (some qa))) = some r := h
 clear h
 replace H := Option.bind_eq_some_iff.mp H
 obtain ⟨qa, A30, H⟩ := H
 replace H : (if qa < 0 then (some (-1)) else (some qa)) = some r := H
 have A3 := Aside0.mk A30
 clear A30
 by_cases c4 : qa < 0
 ·
  rw [if_pos c4] at H
  have qh : decide (qa < 0) = true := decide_eq_true c4
  clear c4
  obtain rfl := Option.some.inj H
  go_enter Tryd.func11, Tryd.ntmps11
  go_wp2_with (first | ((with_reducible refine gate_dst (N := 2) rfl ?_); refine bx_ (cs := #[.slice A0_0 l0_0.length c0_0, .int .i64 a0_1, .bool a0_2]) (t := 24) ?_; intro qe hg w5 hbox hb; have qb := Aside0.mk (hbox); have qf := hz_ HB hg; have qg := hz_ HB hg; replace HB := bS_ HB hb; clear hb hbox hg; obtain ⟨qi, qj, qk, ql, qm, qn⟩ := b3_ qb) | ((with_reducible refine gate_callee (f := 49) rfl ?_); refine gL_ (some 8) Tryd.func49 #[.slice A0_0 l0_0.length c0_0, .int .i64 a1] ?_; (with_reducible refine (laws_szIntS.calls _ _ l0_0 a1 qa _ ?side1 ?side2 A3.out).mono ?_); (case side1 => exact cb_ qc HB); (case side2 => exact qd.out); rintro e w' ⟨rfl, ⟨nd, rfl⟩⟩; refine ⟨_, rfl, ?_⟩))
  go_ret
  exact ⟨by first | rfl | (simp [errW_none, errW_some] <;> rfl) | (simp [*, errW_none, errW_some] <;> rfl), bb_ HB⟩
 rw [if_neg c4] at H
 have qh : decide (qa < 0) = false := decide_eq_false c4
 clear c4
 obtain rfl := Option.some.inj H
 go_enter Tryd.func11, Tryd.ntmps11
 go_wp2_with (first | ((with_reducible refine gate_dst (N := 2) rfl ?_); refine bx_ (cs := #[.slice A0_0 l0_0.length c0_0, .int .i64 a0_1, .bool a0_2]) (t := 24) ?_; intro qe hg w7 hbox hb; have qb := Aside0.mk (hbox); have qf := hz_ HB hg; have qg := hz_ HB hg; replace HB := bS_ HB hb; clear hb hbox hg; obtain ⟨qo, qp, qq, qr, qs, qt⟩ := b3_ qb) | ((with_reducible refine gate_callee (f := 49) rfl ?_); refine gL_ (some 8) Tryd.func49 #[.slice A0_0 l0_0.length c0_0, .int .i64 a1] ?_; (with_reducible refine (laws_szIntS.calls _ _ l0_0 a1 qa _ ?side1 ?side2 A3.out).mono ?_); (case side1 => exact cb_ qc HB); (case side2 => exact qd.out); rintro e w' ⟨rfl, ⟨nd, rfl⟩⟩; refine ⟨_, rfl, ?_⟩))
 go_ret
 exact ⟨by first | rfl | (simp [errW_none, errW_some] <;> rfl) | (simp [*, errW_none, errW_some] <;> rfl), bb_ HB⟩

/-! ### laws_szAtomS: function 62 -/
def laws_szAtomS.l0 : Nat → List (S24) → Int → Int → Option (Int)
 | 0, _, _, _ => none
 | k + 1, x0, x1, x5 => if x5 < (x0.length : Int) then (if 0 ≤ x5 then ((laws_szAtom.f ((rd_T24 x0 x5).f0) ((rd_T24 x0 x5).f1) ((rd_T24 x0 x5).f2) x1).bind fun qe => (if qe < 0 then (some (-1)) else (laws_szAtomS.l0 k x0 qe (wrap64 (x5 + 1))))) else (none)) else (some x1)
def laws_szAtomS.f (k : Nat) (l0 : List (S24)) (a1 : Int) : Option (Int) := if (wrap64 (a1 - (l0.length : Int))) < 0 then (some (-1)) else (laws_szAtomS.l0 k l0 (wrap64 (a1 - (l0.length : Int))) 0)
theorem laws_szAtomS.mono_l : ∀ k, (∀ y0 y1 y2, LeO (laws_szAtomS.l0 k y0 y1 y2) (laws_szAtomS.l0 (k + 1) y0 y1 y2))
 | 0 => fun _ _ _ r h => by simp [laws_szAtomS.l0] at h
 | k + 1 => by
  have ih0 := laws_szAtomS.mono_l k
  ·
   intro y0 y1 y2
   unfold laws_szAtomS.l0
   repeat' first
   | (with_reducible exact ih0 _ _ _)
   | (with_reducible exact LeO.refl _)
   | (with_reducible exact LeO.none _)
   | (with_reducible refine LeO.ite ?_ ?_)
   | (with_reducible refine LeO.bind ?_ (fun _ => ?_))
   | exact ih0 _ _ _
   | exact LeO.none _
   | refine LeO.ite ?_ ?_
   | refine LeO.bind ?_ (fun _ => ?_)
theorem laws_szAtomS.mono : ∀ a0 a1 k, LeO (laws_szAtomS.f k a0 a1) (laws_szAtomS.f (k + 1) a0 a1) := by
 intro a0 a1 k
 have ih0 := laws_szAtomS.mono_l k
 unfold laws_szAtomS.f
 repeat' first
   | (with_reducible exact ih0 _ _ _)
   | (with_reducible exact LeO.refl _)
   | (with_reducible exact LeO.none _)
   | (with_reducible refine LeO.ite ?_ ?_)
   | (with_reducible refine LeO.bind ?_ (fun _ => ?_))
   | exact ih0 _ _ _
   | exact LeO.none _
   | refine LeO.ite ?_ ?_
   | refine LeO.bind ?_ (fun _ => ?_)
set_option maxHeartbeats 8000000 in
set_option maxRecDepth 100000 in
theorem laws_szAtomS.calls (k : Nat) (A0 : Option Addr) (c0 : Nat) (l0 : List (S24)) (a1 : Int) (r : Int) (w : World) (hr0 : Kd.C k24 w A0 l0.length l0) (hc0 : l0.length ≤ c0) (h : laws_szAtomS.f k l0 a1 = some r) :
  Calls Tryd.prog 62 #[.slice A0 l0.length c0, .int .i64 a1] w fun e w' => e = .returned (.int .i64 r) ∧ Below w.heap.size w w' := by
 have hu24 := Tryd.underlying24
 have HR0 := Aside0.mk hr0
 have HC0 := Aside0.mk hc0
 clear hr0 hc0
 have HB := Aside0.mk (Below.refl w.heap.size w)
 have H : (if (wrap64 (a1 - (l0.length : Int))) < 0 then (some (-1)) else (laws_szAtomS.l0 k l0 (wrap64 (a1 - (l0.length : Int))) 0)) = some r := h
 clear h
 by_cases c3 : (wrap64 (a1 - (l0.length : Int))) < 0
 ·
  rw [if_pos c3] at H
  have qj : decide ((wrap64 (a1 - (l0.length : Int))) < 0) = true := decide_eq_true c3
  clear c3
  obtain rfl := Option.some.inj H
  go_enter Tryd.func62, Tryd.ntmps62
  go_wp2
  go_ret
  exact ⟨by first | rfl | (simp [errW_none, errW_some] <;> rfl) | (simp [*, errW_none, errW_some] <;> rfl), bb_ HB⟩
 rw [if_neg c3] at H
 have qj : decide ((wrap64 (a1 - (l0.length : Int))) < 0) = false := decide_eq_false c3
 clear c3
 have H' := Aside0.mk H
 clear H
 go_enter Tryd.func62, Tryd.ntmps62
 go_wp2
 go_loopg [1, 5] k (fun kq v1 v5 w' => ∃ (qh : Int) (qa : Int), v1 = .int .i64 qh ∧ v5 = .int .i64 qa ∧ Aside0 (laws_szAtomS.l0 kq l0 qh qa = some r) ∧ Aside0 (kq ≤ k) ∧ Aside0 (Below w.heap.size w w'))
 case atStart => exact ⟨(wrap64 (a1 - (l0.length : Int))), (0), (by first | rfl | (simp; done) | (simp [*]; done)), (by first | rfl | (simp; done) | (simp [*]; done)), H', ⟨Nat.le_refl _⟩, ⟨bb_ HB⟩⟩
 case round =>
  clear H'
  try clear p2
  try clear c3
  try clear qj
  obtain ⟨qh, qa, rfl, rfl, HA, HK1, HB⟩ := hrel
  cases gk with
  | zero => exact absurd HA.out (by simp [laws_szAtomS.l0])
  | succ k1 =>
   have H := HA.out
   clear HA
   simp only [laws_szAtomS.l0] at H
   by_cases c4 : qa < (l0.length : Int)
   rotate_left
   ·
    rw [if_neg c4] at H
    have ql : decide (qa < (l0.length : Int)) = false := decide_eq_false c4
    clear c4
    obtain rfl := Option.some.inj H
    go_wp2
    go_ret
    exact ⟨by first | rfl | (simp [errW_none, errW_some] <;> rfl) | (simp [*, errW_none, errW_some] <;> rfl), bb_ HB⟩
   rw [if_pos c4] at H
   have ql : decide (qa < (l0.length : Int)) = true := decide_eq_true c4
   clear c4
   by_cases c5 : 0 ≤ qa
   rotate_left
   ·
    rw [if_neg c5] at H
    exact absurd H (by simp)
   rw [if_pos c5] at H
   have qn : decide (0 ≤ qa) = true := decide_eq_true c5
   clear c5
   replace H := Option.bind_eq_some_iff.mp H
   obtain ⟨qe, A60, H⟩ := H
   replace H : (if qe < 0 then (some (-1)) else (laws_szAtomS.l0 k1 l0 qe (wrap64 (qa + 1)))) = some r := H
   have A6 := Aside0.mk A60
   clear A60
   by_cases c7 : qe < 0
   ·
    rw [if_pos c7] at H
    have qm : decide (qe < 0) = true := decide_eq_true c7
    clear c7
    obtain rfl := Option.some.inj H
    have p103 : 0 ≤ (qa : Int) := of_decide_eq_true (by first | (with_reducible assumption) | assumption)
    have q103 : qa < (l0.length : Int) := of_decide_eq_true (by first | (with_reducible assumption) | assumption)
    obtain ⟨qk, qi, c103_0, e103, qb, qc, qd, hl103_0, hi103_0⟩ := at_T24 HR0.out qa p103 q103
    cases e103
    replace qb := (HB.out.cell (World.block_lt_of_cell? w _ qb)).trans qb
    replace qc := (HB.out.cell (World.block_lt_of_cell? w _ qc)).trans qc
    replace qd := (HB.out.cell (World.block_lt_of_cell? w _ qd)).trans qd
    have qf := Aside0.mk hi103_0
    have qg := Aside0.mk hl103_0
    clear hi103_0 hl103_0
    replace p103 := eq_true p103
    replace q103 := eq_true q103
    go_wp2_with (first | ((with_reducible refine gate_callee (f := 11) rfl ?_); refine gL_ (some 23) Tryd.func11 #[.agg #[.slice qi ((rd_T24 l0 qa).f0).length c103_0, .int .i64 ((rd_T24 l0 qa).f1), .bool ((rd_T24 l0 qa).f2)], .int .i64 qh] ?_; (with_reducible refine (laws_szAtom.calls _ _ ((rd_T24 l0 qa).f0) ((rd_T24 l0 qa).f1) ((rd_T24 l0 qa).f2) qh qe _ ?side1 ?side2 A6.out).mono ?_); (case side1 => exact cb_ qf HB); (case side2 => exact qg.out); rintro e w8 ⟨rfl, hb⟩; refine ⟨_, rfl, ?_⟩; replace HB := bS_ HB hb; clear hb))
    go_ret
    exact ⟨by first | rfl | (simp [errW_none, errW_some] <;> rfl) | (simp [*, errW_none, errW_some] <;> rfl), bb_ HB⟩
   rw [if_neg c7] at H
   have qm : decide (qe < 0) = false := decide_eq_false c7
   clear c7
   have H' := Aside0.mk H
   clear H
   have p103 : 0 ≤ (qa : Int) := of_decide_eq_true (by first | (with_reducible assumption) | assumption)
   have q103 : qa < (l0.length : Int) := of_decide_eq_true (by first | (with_reducible assumption) | assumption)
   obtain ⟨qk, qi, c103_0, e103, qb, qc, qd, hl103_0, hi103_0⟩ := at_T24 HR0.out qa p103 q103
   cases e103
   replace qb := (HB.out.cell (World.block_lt_of_cell? w _ qb)).trans qb
   replace qc := (HB.out.cell (World.block_lt_of_cell? w _ qc)).trans qc
   replace qd := (HB.out.cell (World.block_lt_of_cell? w _ qd)).trans qd
   have qf := Aside0.mk hi103_0
   have qg := Aside0.mk hl103_0
   clear hi103_0 hl103_0
   replace p103 := eq_true p103
   replace q103 := eq_true q103
   go_wp2_with (first | ((with_reducible refine gate_callee (f := 11) rfl ?_); refine gL_ (some 23) Tryd.func11 #[.agg #[.slice qi ((rd_T24 l0 qa).f0).length c103_0, .int .i64 ((rd_T24 l0 qa).f1), .bool ((rd_T24 l0 qa).f2)], .int .i64 qh] ?_; (with_reducible refine (laws_szAtom.calls _ _ ((rd_T24 l0 qa).f0) ((rd_T24 l0 qa).f1) ((rd_T24 l0 qa).f2) qh qe _ ?side1 ?side2 A6.out).mono ?_); (case side1 => exact cb_ qf HB); (case side2 => exact qg.out); rintro e w9 ⟨rfl, hb⟩; refine ⟨_, rfl, ?_⟩; replace HB := bS_ HB hb; clear hb))
   go_roundg k1
   case measure => have := HK1.out; omega
   case rel => exact ⟨(qe), (wrap64 (qa + 1)), (by first | rfl | (simp; done) | (simp [*]; done)), (by first | rfl | (simp; done) | (simp [*]; done)), H', ⟨by have := HK1.out; omega⟩, ⟨bb_ HB⟩⟩

/-! ### laws_szCell: function 18 -/
def laws_szCell.f (k : Nat) (a0_0 : Int) (l0_1 : List (S24)) (a1 : Int) : Option (Int) := (laws_szAtomS.f k l0_1 a1).bind fun qa => (if qa < 0 then (some (-1)) else (some qa))
theorem laws_szCell.mono : ∀ a0 a1 a2 k, LeO (laws_szCell.f k a0 a1 a2) (laws_szCell.f (k + 1) a0 a1 a2) := by
 intro a0 a1 a2 k
 unfold laws_szCell.f
 repeat' first
   | (with_reducible exact laws_szAtomS.mono _ _ _)
   | (with_reducible exact LeO.refl _)
   | (with_reducible exact LeO.none _)
   | (with_reducible refine LeO.ite ?_ ?_)
   | (with_reducible refine LeO.bind ?_ (fun _ => ?_))
   | exact laws_szAtomS.mono _ _ _
   | exact LeO.none _
   | refine LeO.ite ?_ ?_
   | refine LeO.bind ?_ (fun _ => ?_)
set_option maxHeartbeats 8000000 in
set_option maxRecDepth 100000 in
theorem laws_szCell.calls (k : Nat) (a0_0 : Int) (A0_1 : Option Addr) (c0_1 : Nat) (l0_1 : List (S24)) (a1 : Int) (r : Int) (w : World) (hr0_1 : Kd.C k24 w A0_1 l0_1.length l0_1) (hc0_1 : l0_1.length ≤ c0_1) (h : laws_szCell.f k a0_0 l0_1 a1 = some r) :
  Calls Tryd.prog 18 #[.agg #[.int .i64 a0_0, .slice A0_1 l0_1.length c0_1], .int .i64 a1] w fun e w' => e = .returned (.int .i64 r) ∧ Below w.heap.size w w' := by
 have hu36 := Tryd.underlying36
 have qc := Aside0.mk hr0_1
 have qd := Aside0.mk hc0_1
 clear hr0_1 hc0_1
 have HB := Aside0.mk (Below.refl w.heap.size w)
 have H : ((laws_szAtomS.f k l0_1 a1).bind fun qa => (if qa < 0 then (some (-1)) else (some qa))) = some r := h
 clear h
 replace H := Option.bind_eq_some_iff.mp H
 obtain ⟨qa, A30, H⟩ := H
 replace H : (if qa < 0 then (some (-1)) else (some qa)) = some r := H
 have A3 := Aside0.mk A30
 clear A30
 by_cases c4 : qa < 0
 ·
  rw [if_pos c4] at H
  have qh : decide (qa < 0) = true := decide_eq_true c4
  clear c4
  obtain rfl := Option.some.inj H
  go_enter Tryd.func18, Tryd.ntmps18
  go_wp2_with (first | ((with_reducible refine gate_dst (N := 2) rfl ?_); refine bx_ (cs := #[.int .i64 a0_0, .slice A0_1 l0_1.length c0_1]) (t := 36) ?_; intro qe hg w5 hbox hb; have qb := Aside0.mk (hbox); have qf := hz_ HB hg; have qg := hz_ HB hg; replace HB := bS_ HB hb; clear hb hbox hg; obtain ⟨qi, qj, qk, ql⟩ := b2_ qb) | ((with_reducible refine gate_callee (f := 62) rfl ?_); refine gL_ (some 8) Tryd.func62 #[.slice A0_1 l0_1.length c0_1, .int .i64 a1] ?_; (with_reducible refine (laws_szAtomS.calls k _ _ l0_1 a1 qa _ ?side1 ?side2 A3.out).mono ?_); (case side1 => exact cb_ qc HB); (case side2 => exact qd.out); rintro e w7 ⟨rfl, hb⟩; refine ⟨_, rfl, ?_⟩; replace qb := kB_ qb hb; replace HB := bS_ HB hb; clear hb))
  go_ret
  exact ⟨by first | rfl | (simp [errW_none, errW_some] <;> rfl) | (simp [*, errW_none, errW_some] <;> rfl), bb_ HB⟩
 rw [if_neg c4] at H
 have qh : decide (qa < 0) = false := decide_eq_false c4
 clear c4
 obtain rfl := Option.some.inj H
 go_enter Tryd.func18, Tryd.ntmps18
 go_wp2_with (first | ((with_reducible refine gate_dst (N := 2) rfl ?_); refine bx_ (cs := #[.int .i64 a0_0, .slice A0_1 l0_1.length c0_1]) (t := 36) ?_; intro qe hg w8 hbox hb; have qb := Aside0.mk (hbox); have qf := hz_ HB hg; have qg := hz_ HB hg; replace HB := bS_ HB hb; clear hb hbox hg; obtain ⟨qm, qn, qo, qp⟩ := b2_ qb) | ((with_reducible refine gate_callee (f := 62) rfl ?_); refine gL_ (some 8) Tryd.func62 #[.slice A0_1 l0_1.length c0_1, .int .i64 a1] ?_; (with_reducible refine (laws_szAtomS.calls k _ _ l0_1 a1 qa _ ?side1 ?side2 A3.out).mono ?_); (case side1 => exact cb_ qc HB); (case side2 => exact qd.out); rintro e qq ⟨rfl, hb⟩; refine ⟨_, rfl, ?_⟩; replace qb := kB_ qb hb; replace HB := bS_ HB hb; clear hb))
 go_ret
 exact ⟨by first | rfl | (simp [errW_none, errW_some] <;> rfl) | (simp [*, errW_none, errW_some] <;> rfl), bb_ HB⟩

/-! ### laws_szCellS: function 73 -/
def laws_szCellS.l0 : Nat → List (S36) → Int → Int → Option (Int)
 | 0, _, _, _ => none
 | k + 1, x0, x1, x5 => if x5 < (x0.length : Int) then (if 0 ≤ x5 then ((laws_szCell.f k ((rd_T36 x0 x5).f0) ((rd_T36 x0 x5).f1) x1).bind fun qd => (if qd < 0 then (some (-1)) else (laws_szCellS.l0 k x0 qd (wrap64 (x5 + 1))))) else (none)) else (some x1)
def laws_szCellS.f (k : Nat) (l0 : List (S36)) (a1 : Int) : Option (Int) := if (wrap64 (a1 - (l0.length : Int))) < 0 then (some (-1)) else (laws_szCellS.l0 k l0 (wrap64 (a1 - (l0.length : Int))) 0)
theorem laws_szCellS.mono_l : ∀ k, (∀ y0 y1 y2, LeO (laws_szCellS.l0 k y0 y1 y2) (laws_szCellS.l0 (k + 1) y0 y1 y2))
 | 0 => fun _ _ _ r h => by simp [laws_szCellS.l0] at h
 | k + 1 => by
  have ih0 := laws_szCellS.mono_l k
  ·
   intro y0 y1 y2
   unfold laws_szCellS.l0
   repeat' first
   | (with_reducible exact ih0 _ _ _)
   | (with_reducible exact laws_szCell.mono _ _ _ _)
   | (with_reducible exact LeO.refl _)
   | (with_reducible exact LeO.none _)
   | (with_reducible refine LeO.ite ?_ ?_)
   | (with_reducible refine LeO.bind ?_ (fun _ => ?_))
   | exact ih0 _ _ _
   | exact laws_szCell.mono _ _ _ _
   | exact LeO.none _
   | refine LeO.ite ?_ ?_
   | refine LeO.bind ?_ (fun _ => ?_)
theorem laws_szCellS.mono : ∀ a0 a1 k, LeO (laws_szCellS.f k a0 a1) (laws_szCellS.f (k + 1) a0 a1) := by
 intro a0 a1 k
 have ih0 := laws_szCellS.mono_l k
 unfold laws_szCellS.f
 repeat' first
   | (with_reducible exact ih0 _ _ _)
   | (with_reducible exact laws_szCell.mono _ _ _ _)
   | (with_reducible exact LeO.refl _)
   | (with_reducible exact LeO.none _)
   | (with_reducible refine LeO.ite ?_ ?_)
   | (with_reducible refine LeO.bind ?_ (fun _ => ?_))
   | exact ih0 _ _ _
   | exact laws_szCell.mono _ _ _ _
   | exact LeO.none _
   | refine LeO.ite ?_ ?_
   | refine LeO.bind ?_ (fun _ => ?_)
set_option maxHeartbeats 8000000 in
set_option maxRecDepth 100000 in
theorem laws_szCellS.calls (k : Nat) (A0 : Option Addr) (c0 : Nat) (l0 : List (S36)) (a1 : Int) (r : Int) (w : World) (hr0 : Kd.C k36 w A0 l0.length l0) (hc0 : l0.length ≤ c0) (h : laws_szCellS.f k l0 a1 = some r) :
  Calls Tryd.prog 73 #[.slice A0 l0.length c0, .int .i64 a1] w fun e w' => e = .returned (.int .i64 r) ∧ Below w.heap.size w w' := by
 have hu36 := Tryd.underlying36
 have HR0 := Aside0.mk hr0
 have HC0 := Aside0.mk hc0
 clear hr0 hc0
 have HB := Aside0.mk (Below.refl w.heap.size w)
 have H : (if (wrap64 (a1 - (l0.length : Int))) < 0 then (some (-1)) else (laws_szCellS.l0 k l0 (wrap64 (a1 - (l0.length : Int))) 0)) = some r := h
 clear h
 by_cases c3 : (wrap64 (a1 - (l0.length : Int))) < 0
 ·
  rw [if_pos c3] at H
  have qi : decide ((wrap64 (a1 - (l0.length : Int))) < 0) = true := decide_eq_true c3
  clear c3
  obtain rfl := Option.some.inj H
  go_enter Tryd.func73, Tryd.ntmps73
  go_wp2
  go_ret
  exact ⟨by first | rfl | (simp [errW_none, errW_some] <;> rfl) | (simp [*, errW_none, errW_some] <;> rfl), bb_ HB⟩
 rw [if_neg c3] at H
 have qi : decide ((wrap64 (a1 - (l0.length : Int))) < 0) = false := decide_eq_false c3
 clear c3
 have H' := Aside0.mk H
 clear H
 go_enter Tryd.func73, Tryd.ntmps73
 go_wp2
 go_loopg [1, 5] k (fun kq v1 v5 w' => ∃ (qg : Int) (qa : Int), v1 = .int .i64 qg ∧ v5 = .int .i64 qa ∧ Aside0 (laws_szCellS.l0 kq l0 qg qa = some r) ∧ Aside0 (kq ≤ k) ∧ Aside0 (Below w.heap.size w w'))
 case atStart => exact ⟨(wrap64 (a1 - (l0.length : Int))), (0), (by first | rfl | (simp; done) | (simp [*]; done)), (by first | rfl | (simp; done) | (simp [*]; done)), H', ⟨Nat.le_refl _⟩, ⟨bb_ HB⟩⟩
 case round =>
  clear H'
  try clear p2
  try clear c3
  try clear qi
  obtain ⟨qg, qa, rfl, rfl, HA, HK1, HB⟩ := hrel
  cases gk with
  | zero => exact absurd HA.out (by simp [laws_szCellS.l0])
  | succ k1 =>
   have H := HA.out
   clear HA
   simp only [laws_szCellS.l0] at H
   by_cases c4 : qa < (l0.length : Int)
   rotate_left
   ·
    rw [if_neg c4] at H
    have qk : decide (qa < (l0.length : Int)) = false := decide_eq_false c4
    clear c4
    obtain rfl := Option.some.inj H
    go_wp2
    go_ret
    exact ⟨by first | rfl | (simp [errW_none, errW_some] <;> rfl) | (simp [*, errW_none, errW_some] <;> rfl), bb_ HB⟩
   rw [if_pos c4] at H
   have qk : decide (qa < (l0.length : Int)) = true := decide_eq_true c4
   clear c4
   by_cases c5 : 0 ≤ qa
   rotate_left
   ·
    rw [if_neg c5] at H
    exact absurd H (by simp)
   rw [if_pos c5] at H
   have qm : decide (0 ≤ qa) = true := decide_eq_true c5
   clear c5
   replace H := Option.bind_eq_some_iff.mp H
   obtain ⟨qd, A60, H⟩ := H
   replace H : (if qd < 0 then (some (-1)) else (laws_szCellS.l0 k1 l0 qd (wrap64 (qa + 1)))) = some r := H
   have A6 := Aside0.mk A60
   clear A60
   by_cases c7 : qd < 0
   ·
    rw [if_pos c7] at H
    have ql : decide (qd < 0) = true := decide_eq_true c7
    clear c7
    obtain rfl := Option.some.inj H
    have p107 : 0 ≤ (qa : Int) := of_decide_eq_true (by first | (with_reducible assumption) | assumption)
    have q107 : qa < (l0.length : Int) := of_decide_eq_true (by first | (with_reducible assumption) | assumption)
    obtain ⟨qj, qh, c107_1, e107, qb, qc, hl107_1, hi107_1⟩ := at_T36 HR0.out qa p107 q107
    cases e107
    replace qb := (HB.out.cell (World.block_lt_of_cell? w _ qb)).trans qb
    replace qc := (HB.out.cell (World.block_lt_of_cell? w _ qc)).trans qc
    have qe := Aside0.mk hi107_1
    have qf := Aside0.mk hl107_1
    clear hi107_1 hl107_1
    replace p107 := eq_true p107
    replace q107 := eq_true q107
    go_wp2_with (first | ((with_reducible refine gate_callee (f := 18) rfl ?_); refine gL_ (some 23) Tryd.func18 #[.agg #[.int .i64 ((rd_T36 l0 qa).f0), .slice qh ((rd_T36 l0 qa).f1).length c107_1], .int .i64 qg] ?_; (with_reducible refine (laws_szCell.calls k1 ((rd_T36 l0 qa).f0) _ _ ((rd_T36 l0 qa).f1) qg qd _ ?side1 ?side2 A6.out).mono ?_); (case side1 => exact cb_ qe HB); (case side2 => exact qf.out); rintro e w8 ⟨rfl, hb⟩; refine ⟨_, rfl, ?_⟩; replace HB := bS_ HB hb; clear hb))
    go_ret
    exact ⟨by first | rfl | (simp [errW_none, errW_some] <;> rfl) | (simp [*, errW_none, errW_some] <;> rfl), bb_ HB⟩
   rw [if_neg c7] at H
   have ql : decide (qd < 0) = false := decide_eq_false c7
   clear c7
   have H' := Aside0.mk H
   clear H
   have p107 : 0 ≤ (qa : Int) := of_decide_eq_true (by first | (with_reducible assumption) | assumption)
   have q107 : qa < (l0.length : Int) := of_decide_eq_true (by first | (with_reducible assumption) | assumption)
   obtain ⟨qj, qh, c107_1, e107, qb, qc, hl107_1, hi107_1⟩ := at_T36 HR0.out qa p107 q107
   cases e107
   replace qb := (HB.out.cell (World.block_lt_of_cell? w _ qb)).trans qb
   replace qc := (HB.out.cell (World.block_lt_of_cell? w _ qc)).trans qc
   have qe := Aside0.mk hi107_1
   have qf := Aside0.mk hl107_1
   clear hi107_1 hl107_1
   replace p107 := eq_true p107
   replace q107 := eq_true q107
   go_wp2_with (first | ((with_reducible refine gate_callee (f := 18) rfl ?_); refine gL_ (some 23) Tryd.func18 #[.agg #[.int .i64 ((rd_T36 l0 qa).f0), .slice qh ((rd_T36 l0 qa).f1).length c107_1], .int .i64 qg] ?_; (with_reducible refine (laws_szCell.calls k1 ((rd_T36 l0 qa).f0) _ _ ((rd_T36 l0 qa).f1) qg qd _ ?side1 ?side2 A6.out).mono ?_); (case side1 => exact cb_ qe HB); (case side2 => exact qf.out); rintro e w9 ⟨rfl, hb⟩; refine ⟨_, rfl, ?_⟩; replace HB := bS_ HB hb; clear hb))
   go_roundg k1
   case measure => have := HK1.out; omega
   case rel => exact ⟨(qd), (wrap64 (qa + 1)), (by first | rfl | (simp; done) | (simp [*]; done)), (by first | rfl | (simp; done) | (simp [*]; done)), H', ⟨by have := HK1.out; omega⟩, ⟨bb_ HB⟩⟩

/-! ### laws_szRegion: function 26 -/
def laws_szRegion.f (k : Nat) (a0_0 : Int) (l0_1 : List (S36)) (a1 : Int) : Option (Int) := (laws_szCellS.f k l0_1 a1).bind fun qa => (if qa < 0 then (some (-1)) else (some qa))
theorem laws_szRegion.mono : ∀ a0 a1 a2 k, LeO (laws_szRegion.f k a0 a1 a2) (laws_szRegion.f (k + 1) a0 a1 a2) := by
 intro a0 a1 a2 k
 unfold laws_szRegion.f
 repeat' first
   | (with_reducible exact laws_szCellS.mono _ _ _)
   | (with_reducible exact LeO.refl _)
   | (with_reducible exact LeO.none _)
   | (with_reducible refine LeO.ite ?_ ?_)
   | (with_reducible refine LeO.bind ?_ (fun _ => ?_))
   | exact laws_szCellS.mono _ _ _
   | exact LeO.none _
   | refine LeO.ite ?_ ?_
   | refine LeO.bind ?_ (fun _ => ?_)
set_option maxHeartbeats 8000000 in
set_option maxRecDepth 100000 in
theorem laws_szRegion.calls (k : Nat) (a0_0 : Int) (A0_1 : Option Addr) (c0_1 : Nat) (l0_1 : List (S36)) (a1 : Int) (r : Int) (w : World) (hr0_1 : Kd.C k36 w A0_1 l0_1.length l0_1) (hc0_1 : l0_1.length ≤ c0_1) (h : laws_szRegion.f k a0_0 l0_1 a1 = some r) :
  Calls Tryd.prog 26 #[.agg #[.int .i64 a0_0, .slice A0_1 l0_1.length c0_1], .int .i64 a1] w fun e w' => e = .returned (.int .i64 r) ∧ Below w.heap.size w w' := by
 have hu52 := Tryd.underlying52
 have qc := Aside0.mk hr0_1
 have qd := Aside0.mk hc0_1
 clear hr0_1 hc0_1
 have HB := Aside0.mk (Below.refl w.heap.size w)
 have H : ((laws_szCellS.f k l0_1 a1).bind fun qa => (if qa < 0 then (some (-1)) else (some qa))) = some r := h
 clear h
 replace H := Option.bind_eq_some_iff.mp H
 obtain ⟨qa, A30, H⟩ := H
 replace H : (if qa < 0 then (some (-1)) else (some qa)) = some r := H
 have A3 := Aside0.mk A30
 clear A30
 by_cases c4 : qa < 0
 ·
  rw [if_pos c4] at H
  have qh : decide (qa < 0) = true := decide_eq_true c4
  clear c4
  obtain rfl := Option.some.inj H
  go_enter Tryd.func26, Tryd.ntmps26
  go_wp2_with (first | ((with_reducible refine gate_dst (N := 2) rfl ?_); refine bx_ (cs := #[.int .i64 a0_0, .slice A0_1 l0_1.length c0_1]) (t := 52) ?_; intro qe hg w5 hbox hb; have qb := Aside0.mk (hbox); have qf := hz_ HB hg; have qg := hz_ HB hg; replace HB := bS_ HB hb; clear hb hbox hg; obtain ⟨qi, qj, qk, ql⟩ := b2_ qb) | ((with_reducible refine gate_callee (f := 73) rfl ?_); refine gL_ (some 8) Tryd.func73 #[.slice A0_1 l0_1.length c0_1, .int .i64 a1] ?_; (with_reducible refine (laws_szCellS.calls k _ _ l0_1 a1 qa _ ?side1 ?side2 A3.out).mono ?_); (case side1 => exact cb_ qc HB); (case side2 => exact qd.out); rintro e w7 ⟨rfl, hb⟩; refine ⟨_, rfl, ?_⟩; replace qb := kB_ qb hb; replace HB := bS_ HB hb; clear hb))
  go_ret
  exact ⟨by first | rfl | (simp [errW_none, errW_some] <;> rfl) | (simp [*, errW_none, errW_some] <;> rfl), bb_ HB⟩
 rw [if_neg c4] at H
 have qh : decide (qa < 0) = false := decide_eq_false c4
 clear c4
 obtain rfl := Option.some.inj H
 go_enter Tryd.func26, Tryd.ntmps26
 go_wp2_with (first | ((with_reducible refine gate_dst (N := 2) rfl ?_); refine bx_ (cs := #[.int .i64 a0_0, .slice A0_1 l0_1.length c0_1]) (t := 52) ?_; intro qe hg w8 hbox hb; have qb := Aside0.mk (hbox); have qf := hz_ HB hg; have qg := hz_ HB hg; replace HB := bS_ HB hb; clear hb hbox hg; obtain ⟨qm, qn, qo, qp⟩ := b2_ qb) | ((with_reducible refine gate_callee (f := 73) rfl ?_); refine gL_ (some 8) Tryd.func73 #[.slice A0_1 l0_1.length c0_1, .int .i64 a1] ?_; (with_reducible refine (laws_szCellS.calls k _ _ l0_1 a1 qa _ ?side1 ?side2 A3.out).mono ?_); (case side1 => exact cb_ qc HB); (case side2 => exact qd.out); rintro e qq ⟨rfl, hb⟩; refine ⟨_, rfl, ?_⟩; replace qb := kB_ qb hb; replace HB := bS_ HB hb; clear hb))
 go_ret
 exact ⟨by first | rfl | (simp [errW_none, errW_some] <;> rfl) | (simp [*, errW_none, errW_some] <;> rfl), bb_ HB⟩

/-! ### spec_FormatInt: function 50 -/
def spec_FormatInt.l0 : Nat → Int → ByteArray → Int → Option (ByteArray)
 | 0, _, _, _ => none
 | k + 1, x0, x3, x4 => if x4 = 0 then (if x0 = 0 then (some (⟨#[48]⟩ : ByteArray)) else (if x0 < 0 then (if 1 + x3.size ≤ 9223372036854775807 then (some ((⟨#[45]⟩ : ByteArray) ++ x3)) else (none)) else (some x3))) else (if (Int.tmod x4 10) < 0 then (if 0 ≤ (wrap64 (-(Int.tmod x4 10))) then (if (wrap64 (-(Int.tmod x4 10))) ≤ (wrap64 ((wrap64 (-(Int.tmod x4 10))) + 1)) then (if (wrap64 ((wrap64 (-(Int.tmod x4 10))) + 1)) ≤ 10 then (if ((⟨#[48, 49, 50, 51, 52, 53, 54, 55, 56, 57]⟩ : ByteArray).extract ((wrap64 (-(Int.tmod x4 10))) : Int).toNat ((wrap64 ((wrap64 (-(Int.tmod x4 10))) + 1)) : Int).toNat).size + x3.size ≤ 9223372036854775807 then (spec_FormatInt.l0 k x0 (((⟨#[48, 49, 50, 51, 52, 53, 54, 55, 56, 57]⟩ : ByteArray).extract ((wrap64 (-(Int.tmod x4 10))) : Int).toNat ((wrap64 ((wrap64 (-(Int.tmod x4 10))) + 1)) : Int).toNat) ++ x3) (wrap64 (Int.tdiv x4 10))) else (none)) else (none)) else (none)) else (none)) else (if 0 ≤ (Int.tmod x4 10) then (if (Int.tmod x4 10) ≤ (wrap64 ((Int.tmod x4 10) + 1)) then (if (wrap64 ((Int.tmod x4 10) + 1)) ≤ 10 then (if ((⟨#[48, 49, 50, 51, 52, 53, 54, 55, 56, 57]⟩ : ByteArray).extract ((Int.tmod x4 10) : Int).toNat ((wrap64 ((Int.tmod x4 10) + 1)) : Int).toNat).size + x3.size ≤ 9223372036854775807 then (spec_FormatInt.l0 k x0 (((⟨#[48, 49, 50, 51, 52, 53, 54, 55, 56, 57]⟩ : ByteArray).extract ((Int.tmod x4 10) : Int).toNat ((wrap64 ((Int.tmod x4 10) + 1)) : Int).toNat) ++ x3) (wrap64 (Int.tdiv x4 10))) else (none)) else (none)) else (none)) else (none)))
def spec_FormatInt.f (k : Nat) (a0 : Int) : Option (ByteArray) := spec_FormatInt.l0 k a0 (⟨#[]⟩ : ByteArray) a0
theorem spec_FormatInt.mono_l : ∀ k, (∀ y0 y1 y2, LeO (spec_FormatInt.l0 k y0 y1 y2) (spec_FormatInt.l0 (k + 1) y0 y1 y2))
 | 0 => fun _ _ _ r h => by simp [spec_FormatInt.l0] at h
 | k + 1 => by
  have ih0 := spec_FormatInt.mono_l k
  ·
   intro y0 y1 y2
   unfold spec_FormatInt.l0
   repeat' first
   | (with_reducible exact ih0 _ _ _)
   | (with_reducible exact LeO.refl _)
   | (with_reducible exact LeO.none _)
   | (with_reducible refine LeO.ite ?_ ?_)
   | (with_reducible refine LeO.bind ?_ (fun _ => ?_))
   | exact ih0 _ _ _
   | exact LeO.none _
   | refine LeO.ite ?_ ?_
   | refine LeO.bind ?_ (fun _ => ?_)
theorem spec_FormatInt.mono : ∀ a0 k, LeO (spec_FormatInt.f k a0) (spec_FormatInt.f (k + 1) a0) := by
 intro a0 k
 have ih0 := spec_FormatInt.mono_l k
 unfold spec_FormatInt.f
 repeat' first
   | (with_reducible exact ih0 _ _ _)
   | (with_reducible exact LeO.refl _)
   | (with_reducible exact LeO.none _)
   | (with_reducible refine LeO.ite ?_ ?_)
   | (with_reducible refine LeO.bind ?_ (fun _ => ?_))
   | exact ih0 _ _ _
   | exact LeO.none _
   | refine LeO.ite ?_ ?_
   | refine LeO.bind ?_ (fun _ => ?_)
set_option maxHeartbeats 8000000 in
set_option maxRecDepth 100000 in
theorem spec_FormatInt.calls (k : Nat) (a0 : Int) (r : ByteArray) (w : World) (h : spec_FormatInt.f k a0 = some r) :
  Calls Tryd.prog 50 #[.int .i64 a0] w fun e w' => e = .returned (.string r) ∧ Drawn0 w w' := by
 have H : (spec_FormatInt.l0 k a0 (⟨#[]⟩ : ByteArray) a0) = some r := h
 clear h
 have H' := Aside0.mk H
 clear H
 go_enter Tryd.func50, Tryd.ntmps50
 go_wp2
 go_loopg [3, 4] k (fun kq v3 v4 w' => ∃ (qa : ByteArray) (qb : Int), v3 = .string qa ∧ v4 = .int .i64 qb ∧ Aside0 (spec_FormatInt.l0 kq a0 qa qb = some r) ∧ Aside0 (kq ≤ k) ∧ Drawn0 w w')
 case atStart => exact ⟨((⟨#[]⟩ : ByteArray)), (a0), (by first | rfl | (simp; done) | (simp [*]; done)), (by first | rfl | (simp; done) | (simp [*]; done)), H', ⟨Nat.le_refl _⟩, by repeat (first | exact Drawn0.refl _ | apply Drawn0.step)⟩
 case round =>
  clear H'
  obtain ⟨qa, qb, rfl, rfl, HA, HK1, ⟨m1, rfl⟩⟩ := hrel
  cases gk with
  | zero => exact absurd HA.out (by simp [spec_FormatInt.l0])
  | succ k1 =>
   have H := HA.out
   clear HA
   simp only [spec_FormatInt.l0] at H
   by_cases c2 : qb = 0
   ·
    rw [if_pos c2] at H
    have qd : (qb == 0) = true := beq_iff_eq.mpr c2
    have qe : (qb != 0) = false := bne_eq_false_iff_eq.mpr c2
    clear c2
    by_cases c3 : a0 = 0
    ·
     rw [if_pos c3] at H
     have qf : (a0 == 0) = true := beq_iff_eq.mpr c3
     have qg : (a0 != 0) = false := bne_eq_false_iff_eq.mpr c3
     clear c3
     obtain rfl := Option.some.inj H
     go_wp2
     go_ret
     exact ⟨by first | rfl | (simp; done) | (simp [*]; done), by repeat (first | exact Drawn0.refl _ | apply Drawn0.step)⟩
    rw [if_neg c3] at H
    have qf : (a0 == 0) = false := beq_eq_false_iff_ne.mpr c3
    have qg : (a0 != 0) = true := bne_iff_ne.mpr c3
    by_cases c4 : a0 < 0
    rotate_left
    ·
     rw [if_neg c4] at H
     have qh : decide (a0 < 0) = false := decide_eq_false c4
     clear c4
     obtain rfl := Option.some.inj H
     go_wp2
     go_ret
     exact ⟨by first | rfl | (simp; done) | (simp [*]; done), by repeat (first | exact Drawn0.refl _ | apply Drawn0.step)⟩
    rw [if_pos c4] at H
    have qh : decide (a0 < 0) = true := decide_eq_true c4
    clear c4
    by_cases c5 : 1 + qa.size ≤ 9223372036854775807
    rotate_left
    ·
     rw [if_neg c5] at H
     exact absurd H (by simp)
    rw [if_pos c5] at H
    have qw := eq_true c5
    have qx : decide (1 + qa.size ≤ 9223372036854775807) = true := decide_eq_true c5
    try have qy : (9223372036854775807 < 1 + qa.size) = False := eq_false (Nat.not_lt.2 c5)
    obtain rfl := Option.some.inj H
    go_wp2
    go_ret
    exact ⟨by first | rfl | (simp; done) | (simp [*]; done), by repeat (first | exact Drawn0.refl _ | apply Drawn0.step)⟩
   rw [if_neg c2] at H
   have qd : (qb == 0) = false := beq_eq_false_iff_ne.mpr c2
   have qe : (qb != 0) = true := bne_iff_ne.mpr c2
   by_cases c6 : (Int.tmod qb 10) < 0
   rotate_left
   ·
    rw [if_neg c6] at H
    have qc : decide ((Int.tmod qb 10) < 0) = false := decide_eq_false c6
    clear c6
    obtain ⟨ji12, hji12⟩ : ∃ j_ : Int, (Int.tmod qb 10) = j_ := ⟨_, rfl⟩
    replace H : (if 0 ≤ (ji12) then (if (ji12) ≤ (wrap64 ((ji12) + 1)) then (if (wrap64 ((ji12) + 1)) ≤ 10 then (if ((⟨#[48, 49, 50, 51, 52, 53, 54, 55, 56, 57]⟩ : ByteArray).extract ((ji12) : Int).toNat ((wrap64 ((ji12) + 1)) : Int).toNat).size + qa.size ≤ 9223372036854775807 then (spec_FormatInt.l0 k1 a0 (((⟨#[48, 49, 50, 51, 52, 53, 54, 55, 56, 57]⟩ : ByteArray).extract ((ji12) : Int).toNat ((wrap64 ((ji12) + 1)) : Int).toNat) ++ qa) (wrap64 (Int.tdiv qb 10))) else (none)) else (none)) else (none)) else (none)) = some r := by first | (rw [hji12] at H; exact H) | (simp only [hji12] at H ⊢; exact H)
    (try rw [hji12] at qc)
    by_cases c13 : 0 ≤ (ji12)
    rotate_left
    ·
     rw [if_neg c13] at H
     exact absurd H (by simp)
    rw [if_pos c13] at H
    have qi := eq_true c13
    have qj : decide (0 ≤ (ji12)) = true := decide_eq_true c13
    clear c13
    by_cases c14 : (ji12) ≤ (wrap64 ((ji12) + 1))
    rotate_left
    ·
     rw [if_neg c14] at H
     exact absurd H (by simp)
    rw [if_pos c14] at H
    have qk := eq_true c14
    have ql : decide ((ji12) ≤ (wrap64 ((ji12) + 1))) = true := decide_eq_true c14
    by_cases c15 : (wrap64 ((ji12) + 1)) ≤ 10
    rotate_left
    ·
     rw [if_neg c15] at H
     exact absurd H (by simp)
    rw [if_pos c15] at H
    have qm := eq_true c15
    have qn : decide ((wrap64 ((ji12) + 1)) ≤ 10) = true := decide_eq_true c15
    by_cases c16 : ((⟨#[48, 49, 50, 51, 52, 53, 54, 55, 56, 57]⟩ : ByteArray).extract ((ji12) : Int).toNat ((wrap64 ((ji12) + 1)) : Int).toNat).size + qa.size ≤ 9223372036854775807
    rotate_left
    ·
     rw [if_neg c16] at H
     exact absurd H (by simp)
    rw [if_pos c16] at H
    have qo := eq_true c16
    have qp : decide (((⟨#[48, 49, 50, 51, 52, 53, 54, 55, 56, 57]⟩ : ByteArray).extract ((ji12) : Int).toNat ((wrap64 ((ji12) + 1)) : Int).toNat).size + qa.size ≤ 9223372036854775807) = true := decide_eq_true c16
    try have qq : (9223372036854775807 < ((⟨#[48, 49, 50, 51, 52, 53, 54, 55, 56, 57]⟩ : ByteArray).extract ((ji12) : Int).toNat ((wrap64 ((ji12) + 1)) : Int).toNat).size + qa.size) = False := eq_false (Nat.not_lt.2 c16)
    have H' := Aside0.mk H
    clear H
    go_wp2
    go_roundg k1
    case measure => have := HK1.out; omega
    case rel => exact ⟨(((⟨#[48, 49, 50, 51, 52, 53, 54, 55, 56, 57]⟩ : ByteArray).extract ((ji12) : Int).toNat ((wrap64 ((ji12) + 1)) : Int).toNat) ++ qa), (wrap64 (Int.tdiv qb 10)), (by first | rfl | (simp; done) | (simp only [← hji12] <;> (first | rfl | simp)) | (simp [*]; done)), (by first | rfl | (simp; done) | (simp [*]; done)), H', ⟨by have := HK1.out; omega⟩, by repeat (first | exact Drawn0.refl _ | apply Drawn0.step)⟩
   rw [if_pos c6] at H
   have qc : decide ((Int.tmod qb 10) < 0) = true := decide_eq_true c6
   clear c6
   obtain ⟨ji7, hji7⟩ : ∃ j_ : Int, (wrap64 (-(Int.tmod qb 10))) = j_ := ⟨_, rfl⟩
   replace H : (if 0 ≤ (ji7) then (if (ji7) ≤ (wrap64 ((ji7) + 1)) then (if (wrap64 ((ji7) + 1)) ≤ 10 then (if ((⟨#[48, 49, 50, 51, 52, 53, 54, 55, 56, 57]⟩ : ByteArray).extract ((ji7) : Int).toNat ((wrap64 ((ji7) + 1)) : Int).toNat).size + qa.size ≤ 9223372036854775807 then (spec_FormatInt.l0 k1 a0 (((⟨#[48, 49, 50, 51, 52, 53, 54, 55, 56, 57]⟩ : ByteArray).extract ((ji7) : Int).toNat ((wrap64 ((ji7) + 1)) : Int).toNat) ++ qa) (wrap64 (Int.tdiv qb 10))) else (none)) else (none)) else (none)) else (none)) = some r := by first | (rw [hji7] at H; exact H) | (simp only [hji7] at H ⊢; exact H)
   have hji7w : (IntKind.i64.wrap (-(Int.tmod qb 10))) = ji7 := (i64_w _).trans hji7
   by_cases c8 : 0 ≤ (ji7)
   rotate_left
   ·
    rw [if_neg c8] at H
    exact absurd H (by simp)
   rw [if_pos c8] at H
   have qz := eq_true c8
   have qA : decide (0 ≤ (ji7)) = true := decide_eq_true c8
   clear c8
   by_cases c9 : (ji7) ≤ (wrap64 ((ji7) + 1))
   rotate_left
   ·
    rw [if_neg c9] at H
    exact absurd H (by simp)
   rw [if_pos c9] at H
   have qB := eq_true c9
   have qC : decide ((ji7) ≤ (wrap64 ((ji7) + 1))) = true := decide_eq_true c9
   by_cases c10 : (wrap64 ((ji7) + 1)) ≤ 10
   rotate_left
   ·
    rw [if_neg c10] at H
    exact absurd H (by simp)
   rw [if_pos c10] at H
   have qr := eq_true c10
   have qs : decide ((wrap64 ((ji7) + 1)) ≤ 10) = true := decide_eq_true c10
   by_cases c11 : ((⟨#[48, 49, 50, 51, 52, 53, 54, 55, 56, 57]⟩ : ByteArray).extract ((ji7) : Int).toNat ((wrap64 ((ji7) + 1)) : Int).toNat).size + qa.size ≤ 9223372036854775807
   rotate_left
   ·
    rw [if_neg c11] at H
    exact absurd H (by simp)
   rw [if_pos c11] at H
   have qt := eq_true c11
   have qu : decide (((⟨#[48, 49, 50, 51, 52, 53, 54, 55, 56, 57]⟩ : ByteArray).extract ((ji7) : Int).toNat ((wrap64 ((ji7) + 1)) : Int).toNat).size + qa.size ≤ 9223372036854775807) = true := decide_eq_true c11
   try have qv : (9223372036854775807 < ((⟨#[48, 49, 50, 51, 52, 53, 54, 55, 56, 57]⟩ : ByteArray).extract ((ji7) : Int).toNat ((wrap64 ((ji7) + 1)) : Int).toNat).size + qa.size) = False := eq_false (Nat.not_lt.2 c11)
   have H' := Aside0.mk H
   clear H
   go_wp2
   go_roundg k1
   case measure => have := HK1.out; omega
   case rel => exact ⟨(((⟨#[48, 49, 50, 51, 52, 53, 54, 55, 56, 57]⟩ : ByteArray).extract ((ji7) : Int).toNat ((wrap64 ((ji7) + 1)) : Int).toNat) ++ qa), (wrap64 (Int.tdiv qb 10)), (by first | rfl | (simp; done) | (simp only [← hji7] <;> (first | rfl | simp)) | (simp [*]; done)), (by first | rfl | (simp; done) | (simp [*]; done)), H', ⟨by have := HK1.out; omega⟩, by repeat (first | exact Drawn0.refl _ | apply Drawn0.step)⟩

/-! ### spec_l1In: function 80 -/
def spec_l1In.f (a0 : Int) (a1 : Int) (a2 : Int) : Option (Bool) := if a0 ≥ a1 then (some (decide (a0 ≤ a2))) else (some false)
set_option maxHeartbeats 8000000 in
set_option maxRecDepth 100000 in
theorem spec_l1In.calls (a0 : Int) (a1 : Int) (a2 : Int) (r : Bool) (w : World) (h : spec_l1In.f a0 a1 a2 = some r) :
  Calls Tryd.prog 80 #[.int .i64 a0, .int .i64 a1, .int .i64 a2] w fun e w' => e = .returned (.bool r) ∧ Drawn0 w w' := by
 have H : (if a0 ≥ a1 then (some (decide (a0 ≤ a2))) else (some false)) = some r := h
 clear h
 by_cases c4 : a0 ≥ a1
 ·
  rw [if_pos c4] at H
  have qa : decide (a1 ≤ a0) = true := decide_eq_true c4
  clear c4
  obtain rfl := Option.some.inj H
  go_enter Tryd.func80, Tryd.ntmps80
  go_wp2
  go_ret
  exact ⟨by first | rfl | (simp; done) | (simp [*]; done), by repeat (first | exact Drawn0.refl _ | apply Drawn0.step)⟩
 rw [if_neg c4] at H
 have qa : decide (a1 ≤ a0) = false := decide_eq_false c4
 clear c4
 obtain rfl := Option.some.inj H
 go_enter Tryd.func80, Tryd.ntmps80
 go_wp2
 go_ret
 exact ⟨by first | rfl | (simp; done) | (simp [*]; done), by repeat (first | exact Drawn0.refl _ | apply Drawn0.step)⟩

/-! ### spec_IsNumber: function 59 -/
def spec_IsNumber.f (a0 : Int) : Option (Bool) := (spec_l1In.f a0 (-400000000) 400000000).bind fun qa => (some qa)
set_option maxHeartbeats 8000000 in
set_option maxRecDepth 100000 in
theorem spec_IsNumber.calls (a0 : Int) (r : Bool) (w : World) (h : spec_IsNumber.f a0 = some r) :
  Calls Tryd.prog 59 #[.int .i64 a0] w fun e w' => e = .returned (.bool r) ∧ Drawn0 w w' := by
 have H : ((spec_l1In.f a0 (-400000000) 400000000).bind fun qa => (some qa)) = some r := h
 clear h
 replace H := Option.bind_eq_some_iff.mp H
 obtain ⟨qa, A20, H⟩ := H
 replace H : (some qa) = some r := H
 have A2 := Aside0.mk A20
 clear A20
 obtain rfl := Option.some.inj H
 go_enter Tryd.func59, Tryd.ntmps59
 go_wp2_with (first | ((with_reducible refine gate_callee (f := 80) rfl ?_); refine gL_ (some 4) Tryd.func80 #[.int .i64 a0, .int .i64 (-400000000), .int .i64 400000000] ?_; (with_reducible refine (spec_l1In.calls a0 (-400000000) 400000000 qa _ A2.out).mono ?_); rintro e w' ⟨rfl, ⟨nd, rfl⟩⟩; refine ⟨_, rfl, ?_⟩))
 go_ret
 exact ⟨by first | rfl | (simp; done) | (simp [*]; done), by repeat (first | exact Drawn0.refl _ | apply Drawn0.step)⟩

/-! ### spec_l1Abs: function 103 -/
def spec_l1Abs.f (a0 : Int) : Option (Int) := some (mx a0 (wrap64 (-a0)))
set_option maxHeartbeats 8000000 in
set_option maxRecDepth 100000 in
theorem spec_l1Abs.calls (a0 : Int) (r : Int) (w : World) (h : spec_l1Abs.f a0 = some r) :
  Calls Tryd.prog 103 #[.int .i64 a0] w fun e w' => e = .returned (.int .i64 r) ∧ Below w.heap.size w w' := by
 have HB := Aside0.mk (Below.refl w.heap.size w)
 have H : (some (mx a0 (wrap64 (-a0)))) = some r := h
 clear h
 obtain ⟨ji2, hji2⟩ : ∃ j_ : Int, (mx a0 (wrap64 (-a0))) = j_ := ⟨_, rfl⟩
 replace H : (some ji2) = some r := by first | (rw [hji2] at H; exact H) | (simp only [hji2] at H ⊢; exact H)
 have hji2_ : (if a0 < (wrap64 (-a0)) then (wrap64 (-a0)) else a0) = ji2 := hji2
 obtain rfl := Option.some.inj H
 go_enter Tryd.func103, Tryd.ntmps103
 go_wp2
 go_ret
 exact ⟨by first | rfl | (simp [errW_none, errW_some] <;> rfl) | (simp only [← hji2]; first | rfl | (simp [errW_none, errW_some] <;> rfl)) | (simp [*, errW_none, errW_some] <;> rfl), bb_ HB⟩

/-! ### spec_l2Gcd: function 87 -/
mutual
def spec_l2Gcd.l0 : Nat → List Int → Int → Int → Option (Int)
 | 0, _, _, _ => none
 | k + 1, x0, x5, x6 => if x6 < (x0.length : Int) then (if 0 ≤ x6 then ((spec_l1Abs.f (rd x0 x6)).bind fun qe => (spec_l2Gcd.l1 k x0 x5 x6 qe)) else (none)) else (some x5)
def spec_l2Gcd.l1 : Nat → List Int → Int → Int → Int → Option (Int)
 | 0, _, _, _, _ => none
 | k + 1, x0, x5, x6, x7 => if x7 = 0 then (spec_l2Gcd.l0 k x0 x5 (wrap64 (x6 + 1))) else (spec_l2Gcd.l1 k x0 x7 x6 (Int.tmod x5 x7))
end
def spec_l2Gcd.f (k : Nat) (l0 : List Int) (a1 : Int) : Option (Int) := (spec_l1Abs.f a1).bind fun qd => (spec_l2Gcd.l0 k l0 qd 0)
theorem spec_l2Gcd.mono_l : ∀ k, (∀ y0 y1 y2, LeO (spec_l2Gcd.l0 k y0 y1 y2) (spec_l2Gcd.l0 (k + 1) y0 y1 y2)) ∧ (∀ y0 y1 y2 y3, LeO (spec_l2Gcd.l1 k y0 y1 y2 y3) (spec_l2Gcd.l1 (k + 1) y0 y1 y2 y3))
 | 0 => ⟨fun _ _ _ r h => by simp [spec_l2Gcd.l0] at h, fun _ _ _ _ r h => by simp [spec_l2Gcd.l1] at h⟩
 | k + 1 => by
  obtain ⟨ih0, ih1⟩ := spec_l2Gcd.mono_l k
  refine ⟨?_, ?_⟩ <;> (intros; first | unfold spec_l2Gcd.l0 | unfold spec_l2Gcd.l1)
  all_goals
   repeat' first
   | (with_reducible exact ih0 _ _ _)
   | (with_reducible exact ih1 _ _ _ _)
   | (with_reducible exact LeO.refl _)
   | (with_reducible exact LeO.none _)
   | (with_reducible refine LeO.ite ?_ ?_)
   | (with_reducible refine LeO.bind ?_ (fun _ => ?_))
   | exact ih0 _ _ _
   | exact ih1 _ _ _ _
   | exact LeO.none _
   | refine LeO.ite ?_ ?_
   | refine LeO.bind ?_ (fun _ => ?_)
theorem spec_l2Gcd.mono : ∀ a0 a1 k, LeO (spec_l2Gcd.f k a0 a1) (spec_l2Gcd.f (k + 1) a0 a1) := by
 intro a0 a1 k
 obtain ⟨ih0, ih1⟩ := spec_l2Gcd.mono_l k
 unfold spec_l2Gcd.f
 repeat' first
   | (with_reducible exact ih0 _ _ _)
   | (with_reducible exact ih1 _ _ _ _)
   | (with_reducible exact LeO.refl _)
   | (with_reducible exact LeO.none _)
   | (with_reducible refine LeO.ite ?_ ?_)
   | (with_reducible refine LeO.bind ?_ (fun _ => ?_))
   | exact ih0 _ _ _
   | exact ih1 _ _ _ _
   | exact LeO.none _
   | refine LeO.ite ?_ ?_
   | refine LeO.bind ?_ (fun _ => ?_)
set_option maxHeartbeats 8000000 in
set_option maxRecDepth 100000 in
theorem spec_l2Gcd.calls (k : Nat) (A0 : Option Addr) (c0 : Nat) (l0 : List Int) (a1 : Int) (r : Int) (w : World) (hr0 : Kd.C (Kd.int .i64) w A0 l0.length l0) (hc0 : l0.length ≤ c0) (h : spec_l2Gcd.f k l0 a1 = some r) :
  Calls Tryd.prog 87 #[.slice A0 l0.length c0, .int .i64 a1] w fun e w' => e = .returned (.int .i64 r) ∧ Below w.heap.size w w' := by
 have HR0 := Aside0.mk hr0
 have HC0 := Aside0.mk hc0
 clear hr0 hc0
 have HB := Aside0.mk (Below.refl w.heap.size w)
 have H : ((spec_l1Abs.f a1).bind fun qd => (spec_l2Gcd.l0 k l0 qd 0)) = some r := h
 clear h
 replace H := Option.bind_eq_some_iff.mp H
 obtain ⟨qd, A30, H⟩ := H
 replace H : (spec_l2Gcd.l0 k l0 qd 0) = some r := H
 have A3 := Aside0.mk A30
 clear A30
 have H' := Aside0.mk H
 clear H
 go_enter Tryd.func87, Tryd.ntmps87
 go_wp2_with (first | (go_at_call 103; (with_reducible refine (spec_l1Abs.calls a1 qd _ A3.out).mono ?_); rintro e w4 ⟨rfl, hb⟩; replace HB := bS_ HB hb; clear hb))
 repeat (go_quiet (first | (go_at_call 103; (with_reducible refine (spec_l1Abs.calls a1 qd _ A3.out).mono ?_); rintro e w4 ⟨rfl, hb⟩; replace HB := bS_ HB hb; clear hb)); try go_wp2_with (first | (go_at_call 103; (with_reducible refine (spec_l1Abs.calls a1 qd _ A3.out).mono ?_); rintro e w4 ⟨rfl, hb⟩; replace HB := bS_ HB hb; clear hb)))
 go_loopg [5, 6] k (fun kq v5 v6 w' => ∃ (qf : Int) (qa : Int), v5 = .int .i64 qf ∧ v6 = .int .i64 qa ∧ Aside0 (spec_l2Gcd.l0 kq l0 qf qa = some r) ∧ Aside0 (kq ≤ k) ∧ Aside0 (Below w.heap.size w w'))
 case atStart => exact ⟨(qd), (0), (by first | rfl | (simp; done) | (simp [*]; done)), (by first | rfl | (simp; done) | (simp [*]; done)), H', ⟨Nat.le_refl _⟩, ⟨bb_ HB⟩⟩
 case round =>
  clear H'
  try clear p2
  obtain ⟨qf, qa, rfl, rfl, HA, HK1, HB⟩ := hrel
  cases gk with
  | zero => exact absurd HA.out (by simp [spec_l2Gcd.l0])
  | succ k1 =>
   have H := HA.out
   clear HA
   simp only [spec_l2Gcd.l0] at H
   by_cases c5 : qa < (l0.length : Int)
   rotate_left
   ·
    rw [if_neg c5] at H
    have qh : decide (qa < (l0.length : Int)) = false := decide_eq_false c5
    clear c5
    obtain rfl := Option.some.inj H
    go_wp2
    repeat (go_quiet (fail); try go_wp2)
    go_ret
    exact ⟨by first | rfl | (simp [errW_none, errW_some] <;> rfl) | (simp [*, errW_none, errW_some] <;> rfl), bb_ HB⟩
   rw [if_pos c5] at H
   have qh : decide (qa < (l0.length : Int)) = true := decide_eq_true c5
   clear c5
   by_cases c6 : 0 ≤ qa
   rotate_left
   ·
    rw [if_neg c6] at H
    exact absurd H (by simp)
   rw [if_pos c6] at H
   have qi : decide (0 ≤ qa) = true := decide_eq_true c6
   clear c6
   replace H := Option.bind_eq_some_iff.mp H
   obtain ⟨qe, A70, H⟩ := H
   replace H : (spec_l2Gcd.l1 k1 l0 qf qa qe) = some r := H
   have A7 := Aside0.mk A70
   clear A70
   have H' := Aside0.mk H
   clear H
   have p113 : 0 ≤ (qa : Int) := of_decide_eq_true (by first | (with_reducible assumption) | assumption)
   have q113 : qa < (l0.length : Int) := of_decide_eq_true (by first | (with_reducible assumption) | assumption)
   obtain ⟨ql, e113, qb⟩ := Kd.at_int HR0.out qa p113 q113
   cases e113
   replace qb := (HB.out.cell (World.block_lt_of_cell? w _ qb)).trans qb
   replace p113 := eq_true p113
   replace q113 := eq_true q113
   go_wp2_with (first | (go_at_call 103; (with_reducible refine (spec_l1Abs.calls (rd l0 qa) qe _ A7.out).mono ?_); rintro e w8 ⟨rfl, hb⟩; replace HB := bS_ HB hb; clear hb))
   repeat (go_quiet (first | (go_at_call 103; (with_reducible refine (spec_l1Abs.calls (rd l0 qa) qe _ A7.out).mono ?_); rintro e w8 ⟨rfl, hb⟩; replace HB := bS_ HB hb; clear hb)); try go_wp2_with (first | (go_at_call 103; (with_reducible refine (spec_l1Abs.calls (rd l0 qa) qe _ A7.out).mono ?_); rintro e w8 ⟨rfl, hb⟩; replace HB := bS_ HB hb; clear hb)))
   go_loopg [5, 7] k1 (fun kq v5 v7 w' => ∃ (qg : Int) (qc : Int), v5 = .int .i64 qg ∧ v7 = .int .i64 qc ∧ Aside0 (spec_l2Gcd.l1 kq l0 qg qa qc = some r) ∧ Aside0 (kq ≤ k1) ∧ Aside0 (Below w.heap.size w w'))
   case atStart => exact ⟨(qf), (qe), (by first | rfl | (simp; done) | (simp [*]; done)), (by first | rfl | (simp; done) | (simp [*]; done)), H', ⟨Nat.le_refl _⟩, ⟨bb_ HB⟩⟩
   case round =>
    clear H'
    try clear p1
    try clear q1
    try clear hx1
    try clear p2
    try clear c5
    try clear qh
    try clear c6
    try clear qi
    try clear c8
    try clear qb
    try clear p113
    try clear p2
    try clear q113
    obtain ⟨qg, qc, rfl, rfl, HA, HK2, HB⟩ := hrel
    cases gk with
    | zero => exact absurd HA.out (by simp [spec_l2Gcd.l1])
    | succ k2 =>
     have H := HA.out
     clear HA
     simp only [spec_l2Gcd.l1] at H
     by_cases c9 : qc = 0
     rotate_left
     ·
      rw [if_neg c9] at H
      have qj : (qc == 0) = false := beq_eq_false_iff_ne.mpr c9
      have qk : (qc != 0) = true := bne_iff_ne.mpr c9
      have H' := Aside0.mk H
      clear H
      go_wp2
      repeat (go_quiet (fail); try go_wp2)
      go_roundg k2
      case measure => have := HK1.out; have := HK2.out; omega
      case rel => exact ⟨(qc), (Int.tmod qg qc), (by first | rfl | (simp; done) | (simp [*]; done)), (by first | rfl | (simp; done) | (simp [*]; done)), H', ⟨by have := HK1.out; have := HK2.out; omega⟩, ⟨bb_ HB⟩⟩
     rw [if_pos c9] at H
     have qj : (qc == 0) = true := beq_iff_eq.mpr c9
     have qk : (qc != 0) = false := bne_eq_false_iff_eq.mpr c9
     clear c9
     have H' := Aside0.mk H
     clear H
     go_wp2
     repeat (go_quiet (fail); try go_wp2)
     go_roundg k2
     case measure => have := HK1.out; have := HK2.out; omega
     case rel => exact ⟨(qg), (wrap64 (qa + 1)), (by first | rfl | (simp; done) | (simp [*]; done)), (by first | rfl | (simp; done) | (simp [*]; done)), H', ⟨by have := HK1.out; have := HK2.out; omega⟩, ⟨bb_ HB⟩⟩

/-! ### spec_IsAtom: function 46 -/
mutual
def spec_IsAtom.j0 : Nat → Bool → List Int → Int → Bool → Option (Bool)
 | 0, _, _, _, _ => none
 | k + 1, x13, x116000, x116001, x116002 => if x13 = true then (some false) else (spec_IsAtom.l0 k 0 x116000 x116001 x116002)
def spec_IsAtom.l0 : Nat → Int → List Int → Int → Bool → Option (Bool)
 | 0, _, _, _, _ => none
 | k + 1, x3, x116000, x116001, x116002 => if x3 < (x116000.length : Int) then (if 0 ≤ x3 then ((spec_IsNumber.f (rd x116000 x3)).bind fun qt => (if qt = true then (spec_IsAtom.l0 k (wrap64 (x3 + 1)) x116000 x116001 x116002) else (some false))) else (none)) else ((spec_l2Gcd.f k x116000 x116001).bind fun qu => (some (decide (qu ≤ 1))))
end
def spec_IsAtom.f (k : Nat) (l0_0 : List Int) (a0_1 : Int) (a0_2 : Bool) : Option (Bool) := if (l0_0.length : Int) > 4 then (spec_IsAtom.j0 k true l0_0 a0_1 a0_2) else ((spec_IsNumber.f a0_1).bind fun qd => (spec_IsAtom.j0 k (!qd) l0_0 a0_1 a0_2))
theorem spec_IsAtom.mono_l : ∀ k, (∀ y0 y1 y2 y3, LeO (spec_IsAtom.j0 k y0 y1 y2 y3) (spec_IsAtom.j0 (k + 1) y0 y1 y2 y3)) ∧ (∀ y0 y1 y2 y3, LeO (spec_IsAtom.l0 k y0 y1 y2 y3) (spec_IsAtom.l0 (k + 1) y0 y1 y2 y3))
 | 0 => ⟨fun _ _ _ _ r h => by simp [spec_IsAtom.j0] at h, fun _ _ _ _ r h => by simp [spec_IsAtom.l0] at h⟩
 | k + 1 => by
  obtain ⟨ih0, ih1⟩ := spec_IsAtom.mono_l k
  refine ⟨?_, ?_⟩ <;> (intros; first | unfold spec_IsAtom.j0 | unfold spec_IsAtom.l0)
  all_goals
   repeat' first
   | (with_reducible exact ih0 _ _ _ _)
   | (with_reducible exact ih1 _ _ _ _)
   | (with_reducible exact spec_l2Gcd.mono _ _ _)
   | (with_reducible exact LeO.refl _)
   | (with_reducible exact LeO.none _)
   | (with_reducible refine LeO.ite ?_ ?_)
   | (with_reducible refine LeO.bind ?_ (fun _ => ?_))
   | exact ih0 _ _ _ _
   | exact ih1 _ _ _ _
   | exact spec_l2Gcd.mono _ _ _
   | exact LeO.none _
   | refine LeO.ite ?_ ?_
   | refine LeO.bind ?_ (fun _ => ?_)
theorem spec_IsAtom.mono : ∀ a0 a1 a2 k, LeO (spec_IsAtom.f k a0 a1 a2) (spec_IsAtom.f (k + 1) a0 a1 a2) := by
 intro a0 a1 a2 k
 obtain ⟨ih0, ih1⟩ := spec_IsAtom.mono_l k
 unfold spec_IsAtom.f
 repeat' first
   | (with_reducible exact ih0 _ _ _ _)
   | (with_reducible exact ih1 _ _ _ _)
   | (with_reducible exact spec_l2Gcd.mono _ _ _)
   | (with_reducible exact LeO.refl _)
   | (with_reducible exact LeO.none _)
   | (with_reducible refine LeO.ite ?_ ?_)
   | (with_reducible refine LeO.bind ?_ (fun _ => ?_))
   | exact ih0 _ _ _ _
   | exact ih1 _ _ _ _
   | exact spec_l2Gcd.mono _ _ _
   | exact LeO.none _
   | refine LeO.ite ?_ ?_
   | refine LeO.bind ?_ (fun _ => ?_)
set_option maxHeartbeats 8000000 in
set_option maxRecDepth 100000 in
theorem spec_IsAtom.calls (k : Nat) (A0_0 : Option Addr) (c0_0 : Nat) (l0_0 : List Int) (a0_1 : Int) (a0_2 : Bool) (r : Bool) (w : World) (hr0_0 : Kd.C (Kd.int .i64) w A0_0 l0_0.length l0_0) (hc0_0 : l0_0.length ≤ c0_0) (h : spec_IsAtom.f k l0_0 a0_1 a0_2 = some r) :
  Calls Tryd.prog 46 #[.agg #[.slice A0_0 l0_0.length c0_0, .int .i64 a0_1, .bool a0_2]] w fun e w' => e = .returned (.bool r) ∧ Below w.heap.size w w' := by
 have hu27 := Tryd.underlying27
 have qg := Aside0.mk hr0_0
 have qx := Aside0.mk hc0_0
 clear hr0_0 hc0_0
 have HB := Aside0.mk (Below.refl w.heap.size w)
 have H : (if (l0_0.length : Int) > 4 then (spec_IsAtom.j0 k true l0_0 a0_1 a0_2) else ((spec_IsNumber.f a0_1).bind fun qd => (spec_IsAtom.j0 k (!qd) l0_0 a0_1 a0_2))) = some r := h
 clear h
 have HC2 := Aside0.mk H
 clear H
 go_enter Tryd.func46, Tryd.ntmps46
 go_upto_region 1 with (first | ((with_reducible refine gate_dst (N := 1) rfl ?_); refine bx_ (cs := #[.slice A0_0 l0_0.length c0_0, .int .i64 a0_1, .bool a0_2]) (t := 27) ?_; intro qv hg w3 hbox hb; have qb := Aside0.mk (hbox); have qS := hz_ HB hg; have qT := hz_ HB hg; replace HB := bS_ HB hb; clear hb hbox hg))
 (try simp only [Act.put, List.setIfInBounds_toArray, List.set_cons_zero, List.set_cons_succ])
 go_cut [13] (fun v13 wc => ∃ (kq : Nat) (qf : Bool), v13 = .bool qf ∧ Aside0 (spec_IsAtom.j0 kq qf l0_0 a0_1 a0_2 = some r) ∧ Aside0 (kq ≤ k) ∧ Aside0 (wc.heap[qv]? = some (.cells #[(.slice A0_0 l0_0.length c0_0), .int .i64 a0_1, .bool a0_2] 27 (0, 0))) ∧ Aside0 (Below w.heap.size w wc))
 case first =>
  have H := HC2.out
  clear HC2
  by_cases c4 : (l0_0.length : Int) > 4
  ·
   rw [if_pos c4] at H
   have qe : decide (4 < (l0_0.length : Int)) = true := decide_eq_true c4
   have qw : decide (4 < l0_0.length) = true := decide_eq_true (by omega)
   clear c4
   (first | rw [qe] | (simp only [i64_w, i32_w]; rw [qe]) | skip)
   have H' := Aside0.mk H
   clear H
   obtain ⟨qh, qi, qj, qk, ql, qm⟩ := b3_ qb
   go_wp2
   go_meet
   case rel => exact ⟨_, (true), (by first | rfl | (simp; done) | (simp [*]; done)), H', ⟨by first | omega | exact Nat.le_refl _⟩, ⟨kf_ qb⟩, ⟨bb_ HB⟩⟩
  rw [if_neg c4] at H
  have qe : decide (4 < (l0_0.length : Int)) = false := decide_eq_false c4
  have qw : decide (4 < l0_0.length) = false := decide_eq_false (by omega)
  clear c4
  (first | rw [qe] | (simp only [i64_w, i32_w]; rw [qe]) | skip)
  replace H := Option.bind_eq_some_iff.mp H
  obtain ⟨qd, A60, H⟩ := H
  replace H : (spec_IsAtom.j0 k (!qd) l0_0 a0_1 a0_2) = some r := H
  have A6 := Aside0.mk A60
  clear A60
  have H' := Aside0.mk H
  clear H
  obtain ⟨qn, qo, qp, qq, qr, qs⟩ := b3_ qb
  go_wp2_with (first | (go_at_call 59; (with_reducible refine (spec_IsNumber.calls a0_1 qd _ A6.out).mono ?_); rintro e w' ⟨rfl, ⟨nd, rfl⟩⟩))
  go_meet
  case rel => exact ⟨_, (!qd), (by first | rfl | (simp; done) | (simp [*]; done)), H', ⟨by first | omega | exact Nat.le_refl _⟩, ⟨kf_ qb⟩, ⟨bb_ HB⟩⟩
 case rest =>
  clear HC2
  try clear p2
  try clear c4
  try clear qe
  try clear qw
  try clear qh
  try clear qi
  try clear qj
  try clear qn
  try clear qo
  try clear qp
  try clear qk
  try clear ql
  try clear qm
  try clear qq
  try clear qr
  try clear qs
  obtain ⟨kq, qf, rfl, HA, HJ1, qb, HB⟩ := hcut
  cases kq with
  | zero => exact absurd HA.out (by simp [spec_IsAtom.j0])
  | succ kj1 =>
   have H := HA.out
   clear HA
   simp only [spec_IsAtom.j0] at H
   by_cases c8 : qf = true
   ·
    subst c8
    have H1 : (some false) = some r := by rw [if_pos rfl] at H; exact H
    clear H
    have H := H1
    clear H1
    obtain rfl := Option.some.inj H
    go_wp2
    go_ret
    exact ⟨by first | rfl | (simp [errW_none, errW_some] <;> rfl) | (simp [*, errW_none, errW_some] <;> rfl), bb_ HB⟩
   replace c8 := Bool.eq_false_iff.mpr c8
   subst c8
   have H1 : (spec_IsAtom.l0 kj1 0 l0_0 a0_1 a0_2) = some r := by rw [if_neg (show ¬ (false = true) by decide)] at H; exact H
   clear H
   have H := H1
   clear H1
   have H' := Aside0.mk H
   clear H
   go_wp2
   go_loopg [3] kj1 (fun kq v3 w' => ∃ (qa : Int), v3 = .int .i64 qa ∧ Aside0 (spec_IsAtom.l0 kq qa l0_0 a0_1 a0_2 = some r) ∧ Aside0 (kq ≤ kj1) ∧ Aside0 (w'.heap[qv]? = some (.cells #[(.slice A0_0 l0_0.length c0_0), .int .i64 a0_1, .bool a0_2] 27 (0, 0))) ∧ Aside0 (Below w.heap.size w w'))
   case atStart => exact ⟨(0), (by first | rfl | (simp; done) | (simp [*]; done)), H', ⟨Nat.le_refl _⟩, ⟨kf_ qb⟩, ⟨bb_ HB⟩⟩
   case round =>
    clear H'
    try clear p2
    try clear c4
    try clear qe
    try clear qw
    try clear c8
    try clear qh
    try clear qi
    try clear qj
    try clear qn
    try clear qo
    try clear qp
    try clear qk
    try clear ql
    try clear qm
    try clear qq
    try clear qr
    try clear qs
    try clear p2
    obtain ⟨qa, rfl, HA, HK2, qb, HB⟩ := hrel
    cases gk with
    | zero => exact absurd HA.out (by simp [spec_IsAtom.l0])
    | succ k2 =>
     have H := HA.out
     clear HA
     simp only [spec_IsAtom.l0] at H
     by_cases c9 : qa < (l0_0.length : Int)
     rotate_left
     ·
      rw [if_neg c9] at H
      have qR : decide (qa < (l0_0.length : Int)) = false := decide_eq_false c9
      clear c9
      replace H := Option.bind_eq_some_iff.mp H
      obtain ⟨qu, A150, H⟩ := H
      replace H : (some (decide (qu ≤ 1))) = some r := H
      have A15 := Aside0.mk A150
      clear A150
      obtain rfl := Option.some.inj H
      obtain ⟨qz, qA, qB, qC, qD, qE⟩ := b3_ qb
      go_wp2_with (first | ((with_reducible refine gate_callee (f := 87) rfl ?_); refine gL_ (some 32) Tryd.func87 #[.slice A0_0 l0_0.length c0_0, .int .i64 a0_1] ?_; (with_reducible refine (spec_l2Gcd.calls k2 _ _ l0_0 a0_1 qu _ ?side1 ?side2 A15.out).mono ?_); (case side1 => exact cb_ qg HB); (case side2 => exact qx.out); rintro e qV ⟨rfl, hb⟩; refine ⟨_, rfl, ?_⟩; replace qb := kB_ qb hb; replace HB := bS_ HB hb; clear hb))
      go_ret
      exact ⟨by first | rfl | (simp [errW_none, errW_some] <;> rfl) | (simp [*, errW_none, errW_some] <;> rfl), bb_ HB⟩
     rw [if_pos c9] at H
     have qR : decide (qa < (l0_0.length : Int)) = true := decide_eq_true c9
     clear c9
     by_cases c10 : 0 ≤ qa
     rotate_left
     ·
      rw [if_neg c10] at H
      exact absurd H (by simp)
     rw [if_pos c10] at H
     have qU : decide (0 ≤ qa) = true := decide_eq_true c10
     clear c10
     replace H := Option.bind_eq_some_iff.mp H
     obtain ⟨qt, A110, H⟩ := H
     replace H : (if qt = true then (spec_IsAtom.l0 k2 (wrap64 (qa + 1)) l0_0 a0_1 a0_2) else (some false)) = some r := H
     have A11 := Aside0.mk A110
     clear A110
     by_cases c12 : qt = true
     rotate_left
     ·
      replace c12 := Bool.eq_false_iff.mpr c12
      subst c12
      have H1 : (some false) = some r := by rw [if_neg (show ¬ (false = true) by decide)] at H; exact H
      clear H
      have H := H1
      clear H1
      obtain rfl := Option.some.inj H
      obtain ⟨qF, qG, qH, qI, qJ, qK⟩ := b3_ qb
      have p117 : 0 ≤ (qa : Int) := of_decide_eq_true (by first | (with_reducible assumption) | assumption)
      have q117 : qa < (l0_0.length : Int) := of_decide_eq_true (by first | (with_reducible assumption) | assumption)
      obtain ⟨qy, e117, qc⟩ := Kd.at_int qg.out qa p117 q117
      cases e117
      replace qc := (HB.out.cell (World.block_lt_of_cell? w _ qc)).trans qc
      replace p117 := eq_true p117
      replace q117 := eq_true q117
      go_wp2_with (first | ((with_reducible refine gate_callee (f := 59) rfl ?_); refine gL_ (some 26) Tryd.func59 #[.int .i64 (rd l0_0 qa)] ?_; (with_reducible refine (spec_IsNumber.calls (rd l0_0 qa) false _ A11.out).mono ?_); rintro e w' ⟨rfl, ⟨nd, rfl⟩⟩; refine ⟨_, rfl, ?_⟩))
      go_ret
      exact ⟨by first | rfl | (simp [errW_none, errW_some] <;> rfl) | (simp [*, errW_none, errW_some] <;> rfl), bb_ HB⟩
     subst c12
     have H1 : (spec_IsAtom.l0 k2 (wrap64 (qa + 1)) l0_0 a0_1 a0_2) = some r := by rw [if_pos rfl] at H; exact H
     clear H
     have H := H1
     clear H1
     have H' := Aside0.mk H
     clear H
     obtain ⟨qL, qM, qN, qO, qP, qQ⟩ := b3_ qb
     have p117 : 0 ≤ (qa : Int) := of_decide_eq_true (by first | (with_reducible assumption) | assumption)
     have q117 : qa < (l0_0.length : Int) := of_decide_eq_true (by first | (with_reducible assumption) | assumption)
     obtain ⟨qy, e117, qc⟩ := Kd.at_int qg.out qa p117 q117
     cases e117
     replace qc := (HB.out.cell (World.block_lt_of_cell? w _ qc)).trans qc
     replace p117 := eq_true p117
     replace q117 := eq_true q117
     go_wp2_with (first | ((with_reducible refine gate_callee (f := 59) rfl ?_); refine gL_ (some 26) Tryd.func59 #[.int .i64 (rd l0_0 qa)] ?_; (with_reducible refine (spec_IsNumber.calls (rd l0_0 qa) true _ A11.out).mono ?_); rintro e w' ⟨rfl, ⟨nd, rfl⟩⟩; refine ⟨_, rfl, ?_⟩))
     go_roundg k2
     case measure => have := HJ1.out; have := HK2.out; omega
     case rel => exact ⟨(wrap64 (qa + 1)), (by first | rfl | (simp; done) | (simp [*]; done)), H', ⟨by have := HJ1.out; have := HK2.out; omega⟩, ⟨kf_ qb⟩, ⟨bb_ HB⟩⟩

/-! ### spec_FormatAtom: function 12 -/
mutual
def spec_FormatAtom.l0 : Nat → ByteArray → Int → List Int → Int → Bool → Option (ByteArray)
 | 0, _, _, _, _, _ => none
 | k + 1, x3, x4, x121000, x121001, x121002 => if x4 < (x121000.length : Int) then (if 0 ≤ x4 then (if (rd x121000 x4) = 0 then (spec_FormatAtom.l0 k x3 (wrap64 (x4 + 1)) x121000 x121001 x121002) else (if (rd x121000 x4) > 0 then (spec_FormatAtom.j1 k x3 x4 (rd x121000 x4) (x3.toList != ([] : List UInt8)) x121000 x121001 x121002) else (spec_FormatAtom.j1 k x3 x4 (rd x121000 x4) false x121000 x121001 x121002))) else (none)) else (if x121001 > 0 then (spec_FormatAtom.j3 k x3 (x3.toList != ([] : List UInt8)) x121000 x121001 x121002) else (spec_FormatAtom.j3 k x3 false x121000 x121001 x121002))
def spec_FormatAtom.j1 : Nat → ByteArray → Int → Int → Bool → List Int → Int → Bool → Option (ByteArray)
 | 0, _, _, _, _, _, _, _ => none
 | k + 1, x3, x4, x5, x28, x121000, x121001, x121002 => if x28 = true then (if x3.size + 1 ≤ 9223372036854775807 then (spec_FormatAtom.j2 k (x3 ++ (⟨#[43]⟩ : ByteArray)) x4 x5 x121000 x121001 x121002) else (none)) else (spec_FormatAtom.j2 k x3 x4 x5 x121000 x121001 x121002)
def spec_FormatAtom.j2 : Nat → ByteArray → Int → Int → List Int → Int → Bool → Option (ByteArray)
 | 0, _, _, _, _, _, _ => none
 | k + 1, x3, x4, x5, x121000, x121001, x121002 => if x5 = (-1) then (if x3.size + 1 ≤ 9223372036854775807 then (if 0 ≤ x4 then (if x4 ≤ (wrap64 (x4 + 1)) then (if (wrap64 (x4 + 1)) ≤ 4 then (if (x3 ++ (⟨#[45]⟩ : ByteArray)).size + ((⟨#[120, 121, 122, 116]⟩ : ByteArray).extract (x4 : Int).toNat ((wrap64 (x4 + 1)) : Int).toNat).size ≤ 9223372036854775807 then (spec_FormatAtom.l0 k ((x3 ++ (⟨#[45]⟩ : ByteArray)) ++ ((⟨#[120, 121, 122, 116]⟩ : ByteArray).extract (x4 : Int).toNat ((wrap64 (x4 + 1)) : Int).toNat)) (wrap64 (x4 + 1)) x121000 x121001 x121002) else (none)) else (none)) else (none)) else (none)) else (none)) else (if x5 = 1 then (if 0 ≤ x4 then (if x4 ≤ (wrap64 (x4 + 1)) then (if (wrap64 (x4 + 1)) ≤ 4 then (if x3.size + ((⟨#[120, 121, 122, 116]⟩ : ByteArray).extract (x4 : Int).toNat ((wrap64 (x4 + 1)) : Int).toNat).size ≤ 9223372036854775807 then (spec_FormatAtom.l0 k (x3 ++ ((⟨#[120, 121, 122, 116]⟩ : ByteArray).extract (x4 : Int).toNat ((wrap64 (x4 + 1)) : Int).toNat)) (wrap64 (x4 + 1)) x121000 x121001 x121002) else (none)) else (none)) else (none)) else (none)) else ((spec_FormatInt.f k x5).bind fun qi => (if x3.size + qi.size ≤ 9223372036854775807 then (if 0 ≤ x4 then (if x4 ≤ (wrap64 (x4 + 1)) then (if (wrap64 (x4 + 1)) ≤ 4 then (if (x3 ++ qi).size + ((⟨#[120, 121, 122, 116]⟩ : ByteArray).extract (x4 : Int).toNat ((wrap64 (x4 + 1)) : Int).toNat).size ≤ 9223372036854775807 then (spec_FormatAtom.l0 k ((x3 ++ qi) ++ ((⟨#[120, 121, 122, 116]⟩ : ByteArray).extract (x4 : Int).toNat ((wrap64 (x4 + 1)) : Int).toNat)) (wrap64 (x4 + 1)) x121000 x121001 x121002) else (none)) else (none)) else (none)) else (none)) else (none))))
def spec_FormatAtom.j3 : Nat → ByteArray → Bool → List Int → Int → Bool → Option (ByteArray)
 | 0, _, _, _, _, _ => none
 | k + 1, x3, x53, x121000, x121001, x121002 => if x53 = true then (if x3.size + 1 ≤ 9223372036854775807 then (spec_FormatAtom.j4 k (x3 ++ (⟨#[43]⟩ : ByteArray)) x121000 x121001 x121002) else (none)) else (spec_FormatAtom.j4 k x3 x121000 x121001 x121002)
def spec_FormatAtom.j4 : Nat → ByteArray → List Int → Int → Bool → Option (ByteArray)
 | 0, _, _, _, _ => none
 | k + 1, x3, x121000, x121001, x121002 => if x121001 = 0 then (spec_FormatAtom.j5 k x3 (x3.toList == ([] : List UInt8)) x121000 x121001 x121002) else (spec_FormatAtom.j5 k x3 true x121000 x121001 x121002)
def spec_FormatAtom.j5 : Nat → ByteArray → Bool → List Int → Int → Bool → Option (ByteArray)
 | 0, _, _, _, _, _ => none
 | k + 1, x3, x62, x121000, x121001, x121002 => if x62 = true then ((spec_FormatInt.f k x121001).bind fun qe => (if x3.size + qe.size ≤ 9223372036854775807 then (if x121002 = true then (if (x3 ++ qe).size + 2 ≤ 9223372036854775807 then (some ((x3 ++ qe) ++ (⟨#[60, 48]⟩ : ByteArray))) else (none)) else (if (x3 ++ qe).size + 3 ≤ 9223372036854775807 then (some ((x3 ++ qe) ++ (⟨#[60, 61, 48]⟩ : ByteArray))) else (none))) else (none))) else (if x121002 = true then (if x3.size + 2 ≤ 9223372036854775807 then (some (x3 ++ (⟨#[60, 48]⟩ : ByteArray))) else (none)) else (if x3.size + 3 ≤ 9223372036854775807 then (some (x3 ++ (⟨#[60, 61, 48]⟩ : ByteArray))) else (none)))
end
def spec_FormatAtom.f (k : Nat) (l0_0 : List Int) (a0_1 : Int) (a0_2 : Bool) : Option (ByteArray) := (spec_IsAtom.f k l0_0 a0_1 a0_2).bind fun za => (if za = true then (spec_FormatAtom.l0 k (⟨#[]⟩ : ByteArray) 0 l0_0 a0_1 a0_2) else (some (⟨#[]⟩ : ByteArray)))
theorem spec_FormatAtom.mono_l : ∀ k, (∀ y0 y1 y2 y3 y4, LeO (spec_FormatAtom.l0 k y0 y1 y2 y3 y4) (spec_FormatAtom.l0 (k + 1) y0 y1 y2 y3 y4)) ∧ (∀ y0 y1 y2 y3 y4 y5 y6, LeO (spec_FormatAtom.j1 k y0 y1 y2 y3 y4 y5 y6) (spec_FormatAtom.j1 (k + 1) y0 y1 y2 y3 y4 y5 y6)) ∧ (∀ y0 y1 y2 y3 y4 y5, LeO (spec_FormatAtom.j2 k y0 y1 y2 y3 y4 y5) (spec_FormatAtom.j2 (k + 1) y0 y1 y2 y3 y4 y5)) ∧ (∀ y0 y1 y2 y3 y4, LeO (spec_FormatAtom.j3 k y0 y1 y2 y3 y4) (spec_FormatAtom.j3 (k + 1) y0 y1 y2 y3 y4)) ∧ (∀ y0 y1 y2 y3, LeO (spec_FormatAtom.j4 k y0 y1 y2 y3) (spec_FormatAtom.j4 (k + 1) y0 y1 y2 y3)) ∧ (∀ y0 y1 y2 y3 y4, LeO (spec_FormatAtom.j5 k y0 y1 y2 y3 y4) (spec_FormatAtom.j5 (k + 1) y0 y1 y2 y3 y4))
 | 0 => ⟨fun _ _ _ _ _ r h => by simp [spec_FormatAtom.l0] at h, fun _ _ _ _ _ _ _ r h => by simp [spec_FormatAtom.j1] at h, fun _ _ _ _ _ _ r h => by simp [spec_FormatAtom.j2] at h, fun _ _ _ _ _ r h => by simp [spec_FormatAtom.j3] at h, fun _ _ _ _ r h => by simp [spec_FormatAtom.j4] at h, fun _ _ _ _ _ r h => by simp [spec_FormatAtom.j5] at h⟩
 | k + 1 => by
  obtain ⟨ih0, ih1, ih2, ih3, ih4, ih5⟩ := spec_FormatAtom.mono_l k
  refine ⟨?_, ?_, ?_, ?_, ?_, ?_⟩ <;> (intros; first | unfold spec_FormatAtom.l0 | unfold spec_FormatAtom.j1 | unfold spec_FormatAtom.j2 | unfold spec_FormatAtom.j3 | unfold spec_FormatAtom.j4 | unfold spec_FormatAtom.j5)
  all_goals
   repeat' first
   | (with_reducible exact ih0 _ _ _ _ _)
   | (with_reducible exact ih1 _ _ _ _ _ _ _)
   | (with_reducible exact ih2 _ _ _ _ _ _)
   | (with_reducible exact ih3 _ _ _ _ _)
   | (with_reducible exact ih4 _ _ _ _)
   | (with_reducible exact ih5 _ _ _ _ _)
   | (with_reducible exact spec_FormatInt.mono _ _)
   | (with_reducible exact spec_IsAtom.mono _ _ _ _)
   | (with_reducible exact LeO.refl _)
   | (with_reducible exact LeO.none _)
   | (with_reducible refine LeO.ite ?_ ?_)
   | (with_reducible refine LeO.bind ?_ (fun _ => ?_))
   | exact ih0 _ _ _ _ _
   | exact ih1 _ _ _ _ _ _ _
   | exact ih2 _ _ _ _ _ _
   | exact ih3 _ _ _ _ _
   | exact ih4 _ _ _ _
   | exact ih5 _ _ _ _ _
   | exact spec_FormatInt.mono _ _
   | exact spec_IsAtom.mono _ _ _ _
   | exact LeO.none _
   | refine LeO.ite ?_ ?_
   | refine LeO.bind ?_ (fun _ => ?_)
theorem spec_FormatAtom.mono : ∀ a0 a1 a2 k, LeO (spec_FormatAtom.f k a0 a1 a2) (spec_FormatAtom.f (k + 1) a0 a1 a2) := by
 intro a0 a1 a2 k
 obtain ⟨ih0, ih1, ih2, ih3, ih4, ih5⟩ := spec_FormatAtom.mono_l k
 unfold spec_FormatAtom.f
 repeat' first
   | (with_reducible exact ih0 _ _ _ _ _)
   | (with_reducible exact ih1 _ _ _ _ _ _ _)
   | (with_reducible exact ih2 _ _ _ _ _ _)
   | (with_reducible exact ih3 _ _ _ _ _)
   | (with_reducible exact ih4 _ _ _ _)
   | (with_reducible exact ih5 _ _ _ _ _)
   | (with_reducible exact spec_FormatInt.mono _ _)
   | (with_reducible exact spec_IsAtom.mono _ _ _ _)
   | (with_reducible exact LeO.refl _)
   | (with_reducible exact LeO.none _)
   | (with_reducible refine LeO.ite ?_ ?_)
   | (with_reducible refine LeO.bind ?_ (fun _ => ?_))
   | exact ih0 _ _ _ _ _
   | exact ih1 _ _ _ _ _ _ _
   | exact ih2 _ _ _ _ _ _
   | exact ih3 _ _ _ _ _
   | exact ih4 _ _ _ _
   | exact ih5 _ _ _ _ _
   | exact spec_FormatInt.mono _ _
   | exact spec_IsAtom.mono _ _ _ _
   | exact LeO.none _
   | refine LeO.ite ?_ ?_
   | refine LeO.bind ?_ (fun _ => ?_)
set_option maxHeartbeats 8000000 in
set_option maxRecDepth 100000 in
theorem spec_FormatAtom.calls (k : Nat) (A0_0 : Option Addr) (c0_0 : Nat) (l0_0 : List Int) (a0_1 : Int) (a0_2 : Bool) (r : ByteArray) (w : World) (hr0_0 : Kd.C (Kd.int .i64) w A0_0 l0_0.length l0_0) (hc0_0 : l0_0.length ≤ c0_0) (h : spec_FormatAtom.f k l0_0 a0_1 a0_2 = some r) :
  Calls Tryd.prog 12 #[.agg #[.slice A0_0 l0_0.length c0_0, .int .i64 a0_1, .bool a0_2]] w fun e w' => e = .returned (.string r) ∧ Below w.heap.size w w' := by
 have hu27 := Tryd.underlying27
 have qZ := Aside0.mk hr0_0
 have zX := Aside0.mk hc0_0
 clear hr0_0 hc0_0
 have HB := Aside0.mk (Below.refl w.heap.size w)
 have H : ((spec_IsAtom.f k l0_0 a0_1 a0_2).bind fun za => (if za = true then (spec_FormatAtom.l0 k (⟨#[]⟩ : ByteArray) 0 l0_0 a0_1 a0_2) else (some (⟨#[]⟩ : ByteArray)))) = some r := h
 clear h
 replace H := Option.bind_eq_some_iff.mp H
 obtain ⟨za, A20, H⟩ := H
 replace H : (if za = true then (spec_FormatAtom.l0 k (⟨#[]⟩ : ByteArray) 0 l0_0 a0_1 a0_2) else (some (⟨#[]⟩ : ByteArray))) = some r := H
 have A2 := Aside0.mk A20
 clear A20
 by_cases c3 : za = true
 rotate_left
 ·
  replace c3 := Bool.eq_false_iff.mpr c3
  subst c3
  have H1 : (some (⟨#[]⟩ : ByteArray)) = some r := by rw [if_neg (show ¬ (false = true) by decide)] at H; exact H
  clear H
  have H := H1
  clear H1
  obtain rfl := Option.some.inj H
  go_enter Tryd.func12, Tryd.ntmps12
  go_wp2_with (first | ((with_reducible refine gate_dst (N := 1) rfl ?_); refine bx_ (cs := #[.slice A0_0 l0_0.length c0_0, .int .i64 a0_1, .bool a0_2]) (t := 27) ?_; intro qC hg jR hbox hb; have qc := Aside0.mk (hbox); have z2 := hz_ HB hg; have z3 := hz_ HB hg; replace HB := bS_ HB hb; clear hb hbox hg; obtain ⟨ja, jb, jc, jd, je, jf⟩ := b3_ qc) | ((with_reducible refine gate_callee (f := 46) rfl ?_); refine gL_ (some 7) Tryd.func46 #[.agg #[.slice A0_0 l0_0.length c0_0, .int .i64 a0_1, .bool a0_2]] ?_; (with_reducible refine (spec_IsAtom.calls k _ _ l0_0 a0_1 a0_2 false _ ?side1 ?side2 A2.out).mono ?_); (case side1 => exact cb_ qZ HB); (case side2 => exact zX.out); rintro e jS ⟨rfl, hb⟩; refine ⟨_, rfl, ?_⟩; replace qc := kB_ qc hb; replace HB := bS_ HB hb; clear hb))
  go_ret
  exact ⟨by first | rfl | (simp [errW_none, errW_some] <;> rfl) | (simp [*, errW_none, errW_some] <;> rfl), bb_ HB⟩
 subst c3
 have H1 : (spec_FormatAtom.l0 k (⟨#[]⟩ : ByteArray) 0 l0_0 a0_1 a0_2) = some r := by rw [if_pos rfl] at H; exact H
 clear H
 have H := H1
 clear H1
 have H' := Aside0.mk H
 clear H
 go_enter Tryd.func12, Tryd.ntmps12
 go_wp2_with (first | ((with_reducible refine gate_dst (N := 1) rfl ?_); refine bx_ (cs := #[.slice A0_0 l0_0.length c0_0, .int .i64 a0_1, .bool a0_2]) (t := 27) ?_; intro qC hg w4 hbox hb; have qc := Aside0.mk (hbox); have z2 := hz_ HB hg; have z3 := hz_ HB hg; replace HB := bS_ HB hb; clear hb hbox hg; obtain ⟨qv, qw, qx, qy, qz, qA⟩ := b3_ qc) | ((with_reducible refine gate_callee (f := 46) rfl ?_); refine gL_ (some 7) Tryd.func46 #[.agg #[.slice A0_0 l0_0.length c0_0, .int .i64 a0_1, .bool a0_2]] ?_; (with_reducible refine (spec_IsAtom.calls k _ _ l0_0 a0_1 a0_2 true _ ?side1 ?side2 A2.out).mono ?_); (case side1 => exact cb_ qZ HB); (case side2 => exact zX.out); rintro e w6 ⟨rfl, hb⟩; refine ⟨_, rfl, ?_⟩; replace qc := kB_ qc hb; replace HB := bS_ HB hb; clear hb))
 go_loopg [3, 4] k (fun kq v3 v4 w' => ∃ (qg : ByteArray) (qa : Int), v3 = .string qg ∧ v4 = .int .i64 qa ∧ Aside0 (spec_FormatAtom.l0 kq qg qa l0_0 a0_1 a0_2 = some r) ∧ Aside0 (kq ≤ k) ∧ Aside0 (w'.heap[qC]? = some (.cells #[(.slice A0_0 l0_0.length c0_0), .int .i64 a0_1, .bool a0_2] 27 (0, 0))) ∧ Aside0 (Below w.heap.size w w'))
 case atStart => exact ⟨((⟨#[]⟩ : ByteArray)), (0), (by first | rfl | (simp; done) | (simp [*]; done)), (by first | rfl | (simp; done) | (simp [*]; done)), H', ⟨Nat.le_refl _⟩, ⟨kf_ qc⟩, ⟨bb_ HB⟩⟩
 case round =>
  clear H'
  try clear c1
  try clear p2
  try clear c3
  try clear c4
  try clear qv
  try clear qw
  try clear qx
  try clear qy
  try clear qz
  try clear qA
  obtain ⟨qg, qa, rfl, rfl, HA, HK1, qc, HB⟩ := hrel
  cases gk with
  | zero => exact absurd HA.out (by simp [spec_FormatAtom.l0])
  | succ k1 =>
   have H := HA.out
   clear HA
   simp only [spec_FormatAtom.l0] at H
   by_cases c7 : qa < (l0_0.length : Int)
   ·
    rw [if_pos c7] at H
    have zb : decide (qa < (l0_0.length : Int)) = true := decide_eq_true c7
    clear c7
    by_cases c8 : 0 ≤ qa
    rotate_left
    ·
     rw [if_neg c8] at H
     exact absurd H (by simp)
    rw [if_pos c8] at H
    have ze : decide (0 ≤ qa) = true := decide_eq_true c8
    clear c8
    by_cases c9 : (rd l0_0 qa) = 0
    ·
     rw [if_pos c9] at H
     have zc : ((rd l0_0 qa) == 0) = true := beq_iff_eq.mpr c9
     have zd : ((rd l0_0 qa) != 0) = false := bne_eq_false_iff_eq.mpr c9
     clear c9
     have H' := Aside0.mk H
     clear H
     obtain ⟨qj, qk, ql, qm, qn, qo⟩ := b3_ qc
     have p122 : 0 ≤ (qa : Int) := of_decide_eq_true (by first | (with_reducible assumption) | assumption)
     have q122 : qa < (l0_0.length : Int) := of_decide_eq_true (by first | (with_reducible assumption) | assumption)
     obtain ⟨zf, e122, qf⟩ := Kd.at_int qZ.out qa p122 q122
     cases e122
     replace qf := (HB.out.cell (World.block_lt_of_cell? w _ qf)).trans qf
     replace p122 := eq_true p122
     replace q122 := eq_true q122
     go_wp2
     go_roundg k1
     case measure => have := HK1.out; omega
     case rel => exact ⟨(qg), (wrap64 (qa + 1)), (by first | rfl | (simp; done) | (simp [*]; done)), (by first | rfl | (simp; done) | (simp [*]; done)), H', ⟨by have := HK1.out; omega⟩, ⟨kf_ qc⟩, ⟨bb_ HB⟩⟩
    rw [if_neg c9] at H
    have zc : ((rd l0_0 qa) == 0) = false := beq_eq_false_iff_ne.mpr c9
    have zd : ((rd l0_0 qa) != 0) = true := bne_iff_ne.mpr c9
    have HC11 := Aside0.mk H
    clear H
    obtain ⟨qp, qq, qr, qs, qt, qu⟩ := b3_ qc
    have p122 : 0 ≤ (qa : Int) := of_decide_eq_true (by first | (with_reducible assumption) | assumption)
    have q122 : qa < (l0_0.length : Int) := of_decide_eq_true (by first | (with_reducible assumption) | assumption)
    obtain ⟨zf, e122, qf⟩ := Kd.at_int qZ.out qa p122 q122
    cases e122
    replace qf := (HB.out.cell (World.block_lt_of_cell? w _ qf)).trans qf
    replace p122 := eq_true p122
    replace q122 := eq_true q122
    go_upto_region 9 with (fail)
    go_cut [28] (fun v28 wc => ∃ (kq : Nat) (qE : Bool), v28 = .bool qE ∧ Aside0 (spec_FormatAtom.j1 kq qg qa (rd l0_0 qa) qE l0_0 a0_1 a0_2 = some r) ∧ Aside0 (kq ≤ k1) ∧ Aside0 (wc.heap[qC]? = some (.cells #[(.slice (some zf) l0_0.length c0_0), .int .i64 a0_1, .bool a0_2] 27 (0, 0))) ∧ Aside0 (Below w.heap.size w wc))
    case first =>
     have H := HC11.out
     clear HC11
     by_cases c13 : (rd l0_0 qa) > 0
     rotate_left
     ·
      rw [if_neg c13] at H
      have qh : decide (0 < (rd l0_0 qa)) = false := decide_eq_false c13
      clear c13
      (first | rw [qh] | (simp only [i64_w, i32_w]; rw [qh]) | skip)
      have H' := Aside0.mk H
      clear H
      go_wp2
      go_meet
      case rel => exact ⟨_, (false), (by first | rfl | (simp; done) | (simp [*]; done)), H', ⟨by have := HK1.out; first | omega | exact Nat.le_refl _⟩, ⟨kf_ qc⟩, ⟨bb_ HB⟩⟩
     rw [if_pos c13] at H
     have qh : decide (0 < (rd l0_0 qa)) = true := decide_eq_true c13
     clear c13
     (first | rw [qh] | (simp only [i64_w, i32_w]; rw [qh]) | skip)
     have H' := Aside0.mk H
     clear H
     go_wp2
     go_meet
     case rel => exact ⟨_, ((qg.toList != ([] : List UInt8))), (by first | rfl | (simp; done) | (simp [*]; done) | (simp; exact isE_ _)), H', ⟨by have := HK1.out; first | omega | exact Nat.le_refl _⟩, ⟨kf_ qc⟩, ⟨bb_ HB⟩⟩
    case rest =>
     clear HC11
     try clear c1
     try clear p1
     try clear q1
     try clear hx1
     try clear p2
     try clear c3
     try clear c4
     try clear p6
     try clear c7
     try clear zb
     try clear c8
     try clear ze
     try clear c9
     try clear zc
     try clear zd
     try clear c12
     try clear p12
     try clear q12
     try clear hx12
     try clear c13
     try clear qh
     try clear qj
     try clear qk
     try clear ql
     try clear qp
     try clear qq
     try clear qr
     try clear qv
     try clear qw
     try clear qx
     try clear qm
     try clear qn
     try clear qo
     try clear qs
     try clear qt
     try clear qu
     try clear qy
     try clear qz
     try clear qA
     try clear qf
     try clear p122
     try clear p2
     try clear q122
     obtain ⟨kq, qE, rfl, HA, HJ10, qc, HB⟩ := hcut
     cases kq with
     | zero => exact absurd HA.out (by simp [spec_FormatAtom.j1])
     | succ kj10 =>
      have H := HA.out
      clear HA
      simp only [spec_FormatAtom.j1] at H
      have HC14 := Aside0.mk H
      clear H
      go_upto_if 28 with (fail)
      go_cut [3] (fun v3 wc => ∃ (kq : Nat) (qd : ByteArray), v3 = .string qd ∧ Aside0 (spec_FormatAtom.j2 kq qd qa (rd l0_0 qa) l0_0 a0_1 a0_2 = some r) ∧ Aside0 (kq ≤ kj10) ∧ Aside0 (wc.heap[qC]? = some (.cells #[(.slice (some zf) l0_0.length c0_0), .int .i64 a0_1, .bool a0_2] 27 (0, 0))) ∧ Aside0 (Below w.heap.size w wc))
      case first =>
       have H := HC14.out
       clear HC14
       by_cases c15 : qE = true
       rotate_left
       ·
        replace c15 := Bool.eq_false_iff.mpr c15
        subst c15
        have H1 : (spec_FormatAtom.j2 kj10 qg qa (rd l0_0 qa) l0_0 a0_1 a0_2) = some r := by rw [if_neg (show ¬ (false = true) by decide)] at H; exact H
        clear H
        have H := H1
        clear H1
        have H' := Aside0.mk H
        clear H
        go_wp2
        go_meet
        case rel => exact ⟨_, (qg), (by first | rfl | (simp; done) | (simp [*]; done)), H', ⟨by have := HK1.out; have := HJ10.out; first | omega | exact Nat.le_refl _⟩, ⟨kf_ qc⟩, ⟨bb_ HB⟩⟩
       subst c15
       have H1 : (if qg.size + 1 ≤ 9223372036854775807 then (spec_FormatAtom.j2 kj10 (qg ++ (⟨#[43]⟩ : ByteArray)) qa (rd l0_0 qa) l0_0 a0_1 a0_2) else (none)) = some r := by rw [if_pos rfl] at H; exact H
       clear H
       have H := H1
       clear H1
       by_cases c16 : qg.size + 1 ≤ 9223372036854775807
       rotate_left
       ·
        rw [if_neg c16] at H
        exact absurd H (by simp)
       rw [if_pos c16] at H
       have q0 := eq_true c16
       have q2 : decide (qg.size + 1 ≤ 9223372036854775807) = true := decide_eq_true c16
       try have q3 : (9223372036854775807 < qg.size + 1) = False := eq_false (Nat.not_lt.2 c16)
       have H' := Aside0.mk H
       clear H
       go_wp2
       go_meet
       case rel => exact ⟨_, (qg ++ (⟨#[43]⟩ : ByteArray)), (by first | rfl | (simp; done) | (simp [*]; done)), H', ⟨by have := HK1.out; have := HJ10.out; first | omega | exact Nat.le_refl _⟩, ⟨kf_ qc⟩, ⟨bb_ HB⟩⟩
      case rest =>
       clear HC14
       try clear c1
       try clear p1
       try clear q1
       try clear hx1
       try clear p2
       try clear c3
       try clear c4
       try clear p6
       try clear c7
       try clear zb
       try clear c8
       try clear ze
       try clear c9
       try clear zc
       try clear zd
       try clear c12
       try clear p12
       try clear q12
       try clear hx12
       try clear c13
       try clear qh
       try clear c15
       try clear c16
       try clear q0
       try clear q2
       try clear q3
       try clear qj
       try clear qk
       try clear ql
       try clear qp
       try clear qq
       try clear qr
       try clear qv
       try clear qw
       try clear qx
       try clear qm
       try clear qn
       try clear qo
       try clear qs
       try clear qt
       try clear qu
       try clear qy
       try clear qz
       try clear qA
       try clear qf
       try clear p1
       try clear p12
       try clear p122
       try clear p2
       try clear p6
       try clear q1
       try clear q12
       try clear q122
       obtain ⟨kq, qd, rfl, HA, HJ13, qc, HB⟩ := hcut
       cases kq with
       | zero => exact absurd HA.out (by simp [spec_FormatAtom.j2])
       | succ kj13 =>
        have H := HA.out
        clear HA
        simp only [spec_FormatAtom.j2] at H
        by_cases c17 : (rd l0_0 qa) = (-1)
        ·
         rw [if_pos c17] at H
         have q4 : ((rd l0_0 qa) == (-1)) = true := beq_iff_eq.mpr c17
         have q5 : ((rd l0_0 qa) != (-1)) = false := bne_eq_false_iff_eq.mpr c17
         clear c17
         by_cases c18 : qd.size + 1 ≤ 9223372036854775807
         rotate_left
         ·
          rw [if_neg c18] at H
          exact absurd H (by simp)
         rw [if_pos c18] at H
         have zg := eq_true c18
         have zh : decide (qd.size + 1 ≤ 9223372036854775807) = true := decide_eq_true c18
         try have zi : (9223372036854775807 < qd.size + 1) = False := eq_false (Nat.not_lt.2 c18)
         by_cases c19 : 0 ≤ qa
         rotate_left
         ·
          rw [if_neg c19] at H
          exact absurd H (by simp)
         rw [if_pos c19] at H
         have zj := eq_true c19
         have zk : decide (0 ≤ qa) = true := decide_eq_true c19
         clear c19
         by_cases c20 : qa ≤ (wrap64 (qa + 1))
         rotate_left
         ·
          rw [if_neg c20] at H
          exact absurd H (by simp)
         rw [if_pos c20] at H
         have zl := eq_true c20
         have zm : decide (qa ≤ (wrap64 (qa + 1))) = true := decide_eq_true c20
         by_cases c21 : (wrap64 (qa + 1)) ≤ 4
         rotate_left
         ·
          rw [if_neg c21] at H
          exact absurd H (by simp)
         rw [if_pos c21] at H
         have zn := eq_true c21
         have zo : decide ((wrap64 (qa + 1)) ≤ 4) = true := decide_eq_true c21
         by_cases c22 : (qd ++ (⟨#[45]⟩ : ByteArray)).size + ((⟨#[120, 121, 122, 116]⟩ : ByteArray).extract (qa : Int).toNat ((wrap64 (qa + 1)) : Int).toNat).size ≤ 9223372036854775807
         rotate_left
         ·
          rw [if_neg c22] at H
          exact absurd H (by simp)
         rw [if_pos c22] at H
         have zp := eq_true c22
         have zq : decide ((qd ++ (⟨#[45]⟩ : ByteArray)).size + ((⟨#[120, 121, 122, 116]⟩ : ByteArray).extract (qa : Int).toNat ((wrap64 (qa + 1)) : Int).toNat).size ≤ 9223372036854775807) = true := decide_eq_true c22
         try have q6 : (9223372036854775807 < (qd ++ (⟨#[45]⟩ : ByteArray)).size + ((⟨#[120, 121, 122, 116]⟩ : ByteArray).extract (qa : Int).toNat ((wrap64 (qa + 1)) : Int).toNat).size) = False := eq_false (Nat.not_lt.2 c22)
         try (have z4 := q6; simp only [ByteArray.size_append, show ∀ c, (ByteArray.mk #[c]).size = 1 from fun _ => rfl, show ∀ c d, (ByteArray.mk #[c, d]).size = 2 from fun _ _ => rfl, show ∀ c d e, (ByteArray.mk #[c, d, e]).size = 3 from fun _ _ _ => rfl] at z4)
         have H' := Aside0.mk H
         clear H
         go_wp2
         go_roundg kj13
         case measure => have := HK1.out; have := HJ10.out; have := HJ13.out; omega
         case rel => exact ⟨((qd ++ (⟨#[45]⟩ : ByteArray)) ++ ((⟨#[120, 121, 122, 116]⟩ : ByteArray).extract (qa : Int).toNat ((wrap64 (qa + 1)) : Int).toNat)), (wrap64 (qa + 1)), (by first | rfl | (simp; done) | (simp [*]; done)), (by first | rfl | (simp; done) | (simp [*]; done)), H', ⟨by have := HK1.out; have := HJ10.out; have := HJ13.out; omega⟩, ⟨kf_ qc⟩, ⟨bb_ HB⟩⟩
        rw [if_neg c17] at H
        have q4 : ((rd l0_0 qa) == (-1)) = false := beq_eq_false_iff_ne.mpr c17
        have q5 : ((rd l0_0 qa) != (-1)) = true := bne_iff_ne.mpr c17
        by_cases c23 : (rd l0_0 qa) = 1
        ·
         rw [if_pos c23] at H
         have q7 : ((rd l0_0 qa) == 1) = true := beq_iff_eq.mpr c23
         have q8 : ((rd l0_0 qa) != 1) = false := bne_eq_false_iff_eq.mpr c23
         clear c23
         by_cases c24 : 0 ≤ qa
         rotate_left
         ·
          rw [if_neg c24] at H
          exact absurd H (by simp)
         rw [if_pos c24] at H
         have zr := eq_true c24
         have zs : decide (0 ≤ qa) = true := decide_eq_true c24
         clear c24
         by_cases c25 : qa ≤ (wrap64 (qa + 1))
         rotate_left
         ·
          rw [if_neg c25] at H
          exact absurd H (by simp)
         rw [if_pos c25] at H
         have zt := eq_true c25
         have zu : decide (qa ≤ (wrap64 (qa + 1))) = true := decide_eq_true c25
         by_cases c26 : (wrap64 (qa + 1)) ≤ 4
         rotate_left
         ·
          rw [if_neg c26] at H
          exact absurd H (by simp)
         rw [if_pos c26] at H
         have zv := eq_true c26
         have zw : decide ((wrap64 (qa + 1)) ≤ 4) = true := decide_eq_true c26
         by_cases c27 : qd.size + ((⟨#[120, 121, 122, 116]⟩ : ByteArray).extract (qa : Int).toNat ((wrap64 (qa + 1)) : Int).toNat).size ≤ 9223372036854775807
         rotate_left
         ·
          rw [if_neg c27] at H
          exact absurd H (by simp)
         rw [if_pos c27] at H
         have zx := eq_true c27
         have zy : decide (qd.size + ((⟨#[120, 121, 122, 116]⟩ : ByteArray).extract (qa : Int).toNat ((wrap64 (qa + 1)) : Int).toNat).size ≤ 9223372036854775807) = true := decide_eq_true c27
         try have zz : (9223372036854775807 < qd.size + ((⟨#[120, 121, 122, 116]⟩ : ByteArray).extract (qa : Int).toNat ((wrap64 (qa + 1)) : Int).toNat).size) = False := eq_false (Nat.not_lt.2 c27)
         have H' := Aside0.mk H
         clear H
         go_wp2
         go_roundg kj13
         case measure => have := HK1.out; have := HJ10.out; have := HJ13.out; omega
         case rel => exact ⟨(qd ++ ((⟨#[120, 121, 122, 116]⟩ : ByteArray).extract (qa : Int).toNat ((wrap64 (qa + 1)) : Int).toNat)), (wrap64 (qa + 1)), (by first | rfl | (simp; done) | (simp [*]; done)), (by first | rfl | (simp; done) | (simp [*]; done)), H', ⟨by have := HK1.out; have := HJ10.out; have := HJ13.out; omega⟩, ⟨kf_ qc⟩, ⟨bb_ HB⟩⟩
        rw [if_neg c23] at H
        have q7 : ((rd l0_0 qa) == 1) = false := beq_eq_false_iff_ne.mpr c23
        have q8 : ((rd l0_0 qa) != 1) = true := bne_iff_ne.mpr c23
        replace H := Option.bind_eq_some_iff.mp H
        obtain ⟨qi, A280, H⟩ := H
        replace H : (if qd.size + qi.size ≤ 9223372036854775807 then (if 0 ≤ qa then (if qa ≤ (wrap64 (qa + 1)) then (if (wrap64 (qa + 1)) ≤ 4 then (if (qd ++ qi).size + ((⟨#[120, 121, 122, 116]⟩ : ByteArray).extract (qa : Int).toNat ((wrap64 (qa + 1)) : Int).toNat).size ≤ 9223372036854775807 then (spec_FormatAtom.l0 kj13 ((qd ++ qi) ++ ((⟨#[120, 121, 122, 116]⟩ : ByteArray).extract (qa : Int).toNat ((wrap64 (qa + 1)) : Int).toNat)) (wrap64 (qa + 1)) l0_0 a0_1 a0_2) else (none)) else (none)) else (none)) else (none)) else (none)) = some r := H
        have A28 := Aside0.mk A280
        clear A280
        by_cases c29 : qd.size + qi.size ≤ 9223372036854775807
        rotate_left
        ·
         rw [if_neg c29] at H
         exact absurd H (by simp)
        rw [if_pos c29] at H
        have zA := eq_true c29
        have zB : decide (qd.size + qi.size ≤ 9223372036854775807) = true := decide_eq_true c29
        try have zC : (9223372036854775807 < qd.size + qi.size) = False := eq_false (Nat.not_lt.2 c29)
        by_cases c30 : 0 ≤ qa
        rotate_left
        ·
         rw [if_neg c30] at H
         exact absurd H (by simp)
        rw [if_pos c30] at H
        have zD := eq_true c30
        have zE : decide (0 ≤ qa) = true := decide_eq_true c30
        clear c30
        by_cases c31 : qa ≤ (wrap64 (qa + 1))
        rotate_left
        ·
         rw [if_neg c31] at H
         exact absurd H (by simp)
        rw [if_pos c31] at H
        have zF := eq_true c31
        have zG : decide (qa ≤ (wrap64 (qa + 1))) = true := decide_eq_true c31
        by_cases c32 : (wrap64 (qa + 1)) ≤ 4
        rotate_left
        ·
         rw [if_neg c32] at H
         exact absurd H (by simp)
        rw [if_pos c32] at H
        have zH := eq_true c32
        have zI : decide ((wrap64 (qa + 1)) ≤ 4) = true := decide_eq_true c32
        by_cases c33 : (qd ++ qi).size + ((⟨#[120, 121, 122, 116]⟩ : ByteArray).extract (qa : Int).toNat ((wrap64 (qa + 1)) : Int).toNat).size ≤ 9223372036854775807
        rotate_left
        ·
         rw [if_neg c33] at H
         exact absurd H (by simp)
        rw [if_pos c33] at H
        have zJ := eq_true c33
        have zK : decide ((qd ++ qi).size + ((⟨#[120, 121, 122, 116]⟩ : ByteArray).extract (qa : Int).toNat ((wrap64 (qa + 1)) : Int).toNat).size ≤ 9223372036854775807) = true := decide_eq_true c33
        try have q9 : (9223372036854775807 < (qd ++ qi).size + ((⟨#[120, 121, 122, 116]⟩ : ByteArray).extract (qa : Int).toNat ((wrap64 (qa + 1)) : Int).toNat).size) = False := eq_false (Nat.not_lt.2 c33)
        try (have z5 := q9; simp only [ByteArray.size_append, show ∀ c, (ByteArray.mk #[c]).size = 1 from fun _ => rfl, show ∀ c d, (ByteArray.mk #[c, d]).size = 2 from fun _ _ => rfl, show ∀ c d e, (ByteArray.mk #[c, d, e]).size = 3 from fun _ _ _ => rfl] at z5)
        have H' := Aside0.mk H
        clear H
        go_wp2_with (first | ((with_reducible refine gate_callee (f := 50) rfl ?_); refine gL_ (some 39) Tryd.func50 #[.int .i64 (rd l0_0 qa)] ?_; (with_reducible refine (spec_FormatInt.calls kj13 (rd l0_0 qa) qi _ A28.out).mono ?_); rintro e w' ⟨rfl, ⟨nd, rfl⟩⟩; refine ⟨_, rfl, ?_⟩))
        go_roundg kj13
        case measure => have := HK1.out; have := HJ10.out; have := HJ13.out; omega
        case rel => exact ⟨((qd ++ qi) ++ ((⟨#[120, 121, 122, 116]⟩ : ByteArray).extract (qa : Int).toNat ((wrap64 (qa + 1)) : Int).toNat)), (wrap64 (qa + 1)), (by first | rfl | (simp; done) | (simp [*]; done)), (by first | rfl | (simp; done) | (simp [*]; done)), H', ⟨by have := HK1.out; have := HJ10.out; have := HJ13.out; omega⟩, ⟨kf_ qc⟩, ⟨bb_ HB⟩⟩
   rw [if_neg c7] at H
   have zb : decide (qa < (l0_0.length : Int)) = false := decide_eq_false c7
   clear c7
   have HC34 := Aside0.mk H
   clear H
   obtain ⟨qF, qG, qH, qI, qJ, qK⟩ := b3_ qc
   go_upto_region 16 with (fail)
   go_cut [53] (fun v53 wc => ∃ (kq : Nat) (qL : Bool), v53 = .bool qL ∧ Aside0 (spec_FormatAtom.j3 kq qg qL l0_0 a0_1 a0_2 = some r) ∧ Aside0 (kq ≤ k1) ∧ Aside0 (wc.heap[qC]? = some (.cells #[(.slice A0_0 l0_0.length c0_0), .int .i64 a0_1, .bool a0_2] 27 (0, 0))) ∧ Aside0 (Below w.heap.size w wc))
   case first =>
    have H := HC34.out
    clear HC34
    by_cases c36 : a0_1 > 0
    rotate_left
    ·
     rw [if_neg c36] at H
     have qB : decide (0 < a0_1) = false := decide_eq_false c36
     clear c36
     (first | rw [qB] | (simp only [i64_w, i32_w]; rw [qB]) | skip)
     have H' := Aside0.mk H
     clear H
     obtain ⟨qM, qN, qO, qP, qQ, qR⟩ := b3_ qc
     go_wp2
     go_meet
     case rel => exact ⟨_, (false), (by first | rfl | (simp; done) | (simp [*]; done)), H', ⟨by have := HK1.out; first | omega | exact Nat.le_refl _⟩, ⟨kf_ qc⟩, ⟨bb_ HB⟩⟩
    rw [if_pos c36] at H
    have qB : decide (0 < a0_1) = true := decide_eq_true c36
    clear c36
    (first | rw [qB] | (simp only [i64_w, i32_w]; rw [qB]) | skip)
    have H' := Aside0.mk H
    clear H
    obtain ⟨qS, qT, qU, qV, qW, qX⟩ := b3_ qc
    go_wp2
    go_meet
    case rel => exact ⟨_, ((qg.toList != ([] : List UInt8))), (by first | rfl | (simp; done) | (simp [*]; done) | (simp; exact isE_ _)), H', ⟨by have := HK1.out; first | omega | exact Nat.le_refl _⟩, ⟨kf_ qc⟩, ⟨bb_ HB⟩⟩
   case rest =>
    clear HC34
    try clear c1
    try clear p1
    try clear q1
    try clear hx1
    try clear c2
    try clear p2
    try clear c3
    try clear c4
    try clear c5
    try clear p6
    try clear c7
    try clear zb
    try clear c8
    try clear ze
    try clear c9
    try clear zc
    try clear zd
    try clear c12
    try clear p12
    try clear q12
    try clear hx12
    try clear c13
    try clear qh
    try clear c15
    try clear c16
    try clear q0
    try clear q2
    try clear q3
    try clear c17
    try clear q4
    try clear q5
    try clear c18
    try clear zg
    try clear zh
    try clear zi
    try clear c19
    try clear zj
    try clear zk
    try clear c20
    try clear zl
    try clear zm
    try clear c21
    try clear zn
    try clear zo
    try clear c22
    try clear zp
    try clear zq
    try clear q6
    try clear c23
    try clear q7
    try clear q8
    try clear c24
    try clear zr
    try clear zs
    try clear c25
    try clear zt
    try clear zu
    try clear c26
    try clear zv
    try clear zw
    try clear c27
    try clear zx
    try clear zy
    try clear zz
    try clear c29
    try clear zA
    try clear zB
    try clear zC
    try clear c30
    try clear zD
    try clear zE
    try clear c31
    try clear zF
    try clear zG
    try clear c32
    try clear zH
    try clear zI
    try clear c33
    try clear zJ
    try clear zK
    try clear q9
    try clear c36
    try clear qB
    try clear qj
    try clear qk
    try clear ql
    try clear qp
    try clear qq
    try clear qr
    try clear qF
    try clear qG
    try clear qH
    try clear qS
    try clear qT
    try clear qU
    try clear qM
    try clear qN
    try clear qO
    try clear qv
    try clear qw
    try clear qx
    try clear qm
    try clear qn
    try clear qo
    try clear qs
    try clear qt
    try clear qu
    try clear qI
    try clear qJ
    try clear qK
    try clear qV
    try clear qW
    try clear qX
    try clear qP
    try clear qQ
    try clear qR
    try clear qy
    try clear qz
    try clear qA
    try clear qf
    try clear p1
    try clear p12
    try clear p122
    try clear p2
    try clear p6
    try clear q1
    try clear q12
    try clear q122
    obtain ⟨kq, qL, rfl, HA, HJ33, qc, HB⟩ := hcut
    cases kq with
    | zero => exact absurd HA.out (by simp [spec_FormatAtom.j3])
    | succ kj33 =>
     have H := HA.out
     clear HA
     simp only [spec_FormatAtom.j3] at H
     have HC39 := Aside0.mk H
     clear H
     go_upto_if 53 with (fail)
     go_cut [3] (fun v3 wc => ∃ (kq : Nat) (qb : ByteArray), v3 = .string qb ∧ Aside0 (spec_FormatAtom.j4 kq qb l0_0 a0_1 a0_2 = some r) ∧ Aside0 (kq ≤ kj33) ∧ Aside0 (wc.heap[qC]? = some (.cells #[(.slice A0_0 l0_0.length c0_0), .int .i64 a0_1, .bool a0_2] 27 (0, 0))) ∧ Aside0 (Below w.heap.size w wc))
     case first =>
      have H := HC39.out
      clear HC39
      by_cases c40 : qL = true
      rotate_left
      ·
       replace c40 := Bool.eq_false_iff.mpr c40
       subst c40
       have H1 : (spec_FormatAtom.j4 kj33 qg l0_0 a0_1 a0_2) = some r := by rw [if_neg (show ¬ (false = true) by decide)] at H; exact H
       clear H
       have H := H1
       clear H1
       have H' := Aside0.mk H
       clear H
       go_wp2
       go_meet
       case rel => exact ⟨_, (qg), (by first | rfl | (simp; done) | (simp [*]; done)), H', ⟨by have := HK1.out; have := HJ33.out; first | omega | exact Nat.le_refl _⟩, ⟨kf_ qc⟩, ⟨bb_ HB⟩⟩
      subst c40
      have H1 : (if qg.size + 1 ≤ 9223372036854775807 then (spec_FormatAtom.j4 kj33 (qg ++ (⟨#[43]⟩ : ByteArray)) l0_0 a0_1 a0_2) else (none)) = some r := by rw [if_pos rfl] at H; exact H
      clear H
      have H := H1
      clear H1
      by_cases c41 : qg.size + 1 ≤ 9223372036854775807
      rotate_left
      ·
       rw [if_neg c41] at H
       exact absurd H (by simp)
      rw [if_pos c41] at H
      have zY := eq_true c41
      have zZ : decide (qg.size + 1 ≤ 9223372036854775807) = true := decide_eq_true c41
      try have z0 : (9223372036854775807 < qg.size + 1) = False := eq_false (Nat.not_lt.2 c41)
      have H' := Aside0.mk H
      clear H
      go_wp2
      go_meet
      case rel => exact ⟨_, (qg ++ (⟨#[43]⟩ : ByteArray)), (by first | rfl | (simp; done) | (simp [*]; done)), H', ⟨by have := HK1.out; have := HJ33.out; first | omega | exact Nat.le_refl _⟩, ⟨kf_ qc⟩, ⟨bb_ HB⟩⟩
     case rest =>
      clear HC39
      try clear c1
      try clear p1
      try clear q1
      try clear hx1
      try clear c2
      try clear p2
      try clear c3
      try clear c4
      try clear c5
      try clear p6
      try clear c7
      try clear zb
      try clear c8
      try clear ze
      try clear c9
      try clear zc
      try clear zd
      try clear c12
      try clear p12
      try clear q12
      try clear hx12
      try clear c13
      try clear qh
      try clear c15
      try clear c16
      try clear q0
      try clear q2
      try clear q3
      try clear c17
      try clear q4
      try clear q5
      try clear c18
      try clear zg
      try clear zh
      try clear zi
      try clear c19
      try clear zj
      try clear zk
      try clear c20
      try clear zl
      try clear zm
      try clear c21
      try clear zn
      try clear zo
      try clear c22
      try clear zp
      try clear zq
      try clear q6
      try clear c23
      try clear q7
      try clear q8
      try clear c24
      try clear zr
      try clear zs
      try clear c25
      try clear zt
      try clear zu
      try clear c26
      try clear zv
      try clear zw
      try clear c27
      try clear zx
      try clear zy
      try clear zz
      try clear c29
      try clear zA
      try clear zB
      try clear zC
      try clear c30
      try clear zD
      try clear zE
      try clear c31
      try clear zF
      try clear zG
      try clear c32
      try clear zH
      try clear zI
      try clear c33
      try clear zJ
      try clear zK
      try clear q9
      try clear c36
      try clear qB
      try clear c40
      try clear c41
      try clear zY
      try clear zZ
      try clear z0
      try clear qj
      try clear qk
      try clear ql
      try clear qp
      try clear qq
      try clear qr
      try clear qF
      try clear qG
      try clear qH
      try clear qS
      try clear qT
      try clear qU
      try clear qM
      try clear qN
      try clear qO
      try clear qv
      try clear qw
      try clear qx
      try clear qm
      try clear qn
      try clear qo
      try clear qs
      try clear qt
      try clear qu
      try clear qI
      try clear qJ
      try clear qK
      try clear qV
      try clear qW
      try clear qX
      try clear qP
      try clear qQ
      try clear qR
      try clear qy
      try clear qz
      try clear qA
      try clear qf
      try clear p1
      try clear p12
      try clear p122
      try clear p2
      try clear p6
      try clear q1
      try clear q12
      try clear q122
      obtain ⟨kq, qb, rfl, HA, HJ38, qc, HB⟩ := hcut
      cases kq with
      | zero => exact absurd HA.out (by simp [spec_FormatAtom.j4])
      | succ kj38 =>
       have H := HA.out
       clear HA
       simp only [spec_FormatAtom.j4] at H
       have HC42 := Aside0.mk H
       clear H
       go_upto_region 18 with (fail)
       go_cut [62] (fun v62 wc => ∃ (kq : Nat) (qY : Bool), v62 = .bool qY ∧ Aside0 (spec_FormatAtom.j5 kq qb qY l0_0 a0_1 a0_2 = some r) ∧ Aside0 (kq ≤ kj38) ∧ Aside0 (wc.heap[qC]? = some (.cells #[(.slice A0_0 l0_0.length c0_0), .int .i64 a0_1, .bool a0_2] 27 (0, 0))) ∧ Aside0 (Below w.heap.size w wc))
       case first =>
        have H := HC42.out
        clear HC42
        by_cases c43 : a0_1 = 0
        rotate_left
        ·
         rw [if_neg c43] at H
         have qD : (a0_1 == 0) = false := beq_eq_false_iff_ne.mpr c43
         have z1 : (a0_1 != 0) = true := bne_iff_ne.mpr c43
         (first | rw [qD] | (simp only [i64_w, i32_w]; rw [qD]) | skip)
         have H' := Aside0.mk H
         clear H
         obtain ⟨zL, zM, zN, zO, zP, zQ⟩ := b3_ qc
         go_wp2
         go_meet
         case rel => exact ⟨_, (true), (by first | rfl | (simp; done) | (simp [*]; done)), H', ⟨by have := HK1.out; have := HJ33.out; have := HJ38.out; first | omega | exact Nat.le_refl _⟩, ⟨kf_ qc⟩, ⟨bb_ HB⟩⟩
        rw [if_pos c43] at H
        have qD : (a0_1 == 0) = true := beq_iff_eq.mpr c43
        have z1 : (a0_1 != 0) = false := bne_eq_false_iff_eq.mpr c43
        clear c43
        (first | rw [qD] | (simp only [i64_w, i32_w]; rw [qD]) | skip)
        have H' := Aside0.mk H
        clear H
        obtain ⟨zR, zS, zT, zU, zV, zW⟩ := b3_ qc
        go_wp2
        go_meet
        case rel => exact ⟨_, ((qb.toList == ([] : List UInt8))), (by first | rfl | (simp; done) | (simp [*]; done)), H', ⟨by have := HK1.out; have := HJ33.out; have := HJ38.out; first | omega | exact Nat.le_refl _⟩, ⟨kf_ qc⟩, ⟨bb_ HB⟩⟩
       case rest =>
        clear HC42
        try clear c1
        try clear p1
        try clear q1
        try clear hx1
        try clear c2
        try clear p2
        try clear c3
        try clear c4
        try clear c5
        try clear p6
        try clear c7
        try clear zb
        try clear c8
        try clear ze
        try clear c9
        try clear zc
        try clear zd
        try clear c12
        try clear p12
        try clear q12
        try clear hx12
        try clear c13
        try clear qh
        try clear c15
        try clear c16
        try clear q0
        try clear q2
        try clear q3
        try clear c17
        try clear q4
        try clear q5
        try clear c18
        try clear zg
        try clear zh
        try clear zi
        try clear c19
        try clear zj
        try clear zk
        try clear c20
        try clear zl
        try clear zm
        try clear c21
        try clear zn
        try clear zo
        try clear c22
        try clear zp
        try clear zq
        try clear q6
        try clear c23
        try clear q7
        try clear q8
        try clear c24
        try clear zr
        try clear zs
        try clear c25
        try clear zt
        try clear zu
        try clear c26
        try clear zv
        try clear zw
        try clear c27
        try clear zx
        try clear zy
        try clear zz
        try clear c29
        try clear zA
        try clear zB
        try clear zC
        try clear c30
        try clear zD
        try clear zE
        try clear c31
        try clear zF
        try clear zG
        try clear c32
        try clear zH
        try clear zI
        try clear c33
        try clear zJ
        try clear zK
        try clear q9
        try clear c36
        try clear qB
        try clear c40
        try clear c41
        try clear zY
        try clear zZ
        try clear z0
        try clear c43
        try clear qD
        try clear z1
        try clear qj
        try clear qk
        try clear ql
        try clear qp
        try clear qq
        try clear qr
        try clear qF
        try clear qG
        try clear qH
        try clear qS
        try clear qT
        try clear qU
        try clear qM
        try clear qN
        try clear qO
        try clear zR
        try clear zS
        try clear zT
        try clear zL
        try clear zM
        try clear zN
        try clear qv
        try clear qw
        try clear qx
        try clear qm
        try clear qn
        try clear qo
        try clear qs
        try clear qt
        try clear qu
        try clear qI
        try clear qJ
        try clear qK
        try clear qV
        try clear qW
        try clear qX
        try clear qP
        try clear qQ
        try clear qR
        try clear zU
        try clear zV
        try clear zW
        try clear zO
        try clear zP
        try clear zQ
        try clear qy
        try clear qz
        try clear qA
        try clear qf
        try clear p1
        try clear p12
        try clear p122
        try clear p2
        try clear p6
        try clear q1
        try clear q12
        try clear q122
        obtain ⟨kq, qY, rfl, HA, HJ41, qc, HB⟩ := hcut
        cases kq with
        | zero => exact absurd HA.out (by simp [spec_FormatAtom.j5])
        | succ kj41 =>
         have H := HA.out
         clear HA
         simp only [spec_FormatAtom.j5] at H
         by_cases c46 : qY = true
         rotate_left
         ·
          replace c46 := Bool.eq_false_iff.mpr c46
          subst c46
          have H1 : (if a0_2 = true then (if qb.size + 2 ≤ 9223372036854775807 then (some (qb ++ (⟨#[60, 48]⟩ : ByteArray))) else (none)) else (if qb.size + 3 ≤ 9223372036854775807 then (some (qb ++ (⟨#[60, 61, 48]⟩ : ByteArray))) else (none))) = some r := by rw [if_neg (show ¬ (false = true) by decide)] at H; exact H
          clear H
          have H := H1
          clear H1
          by_cases c54 : a0_2 = true
          ·
           subst c54
           have H1 : (if qb.size + 2 ≤ 9223372036854775807 then (some (qb ++ (⟨#[60, 48]⟩ : ByteArray))) else (none)) = some r := by rw [if_pos rfl] at H; exact H
           clear H
           have H := H1
           clear H1
           by_cases c55 : qb.size + 2 ≤ 9223372036854775807
           rotate_left
           ·
            rw [if_neg c55] at H
            exact absurd H (by simp)
           rw [if_pos c55] at H
           have jE := eq_true c55
           have jF : decide (qb.size + 2 ≤ 9223372036854775807) = true := decide_eq_true c55
           try have jG : (9223372036854775807 < qb.size + 2) = False := eq_false (Nat.not_lt.2 c55)
           obtain rfl := Option.some.inj H
           obtain ⟨jg, jh, ji, jj, jk, jl⟩ := b3_ qc
           go_wp2
           go_ret
           exact ⟨by first | rfl | (simp [errW_none, errW_some] <;> rfl) | (simp [*, errW_none, errW_some] <;> rfl), bb_ HB⟩
          replace c54 := Bool.eq_false_iff.mpr c54
          subst c54
          have H1 : (if qb.size + 3 ≤ 9223372036854775807 then (some (qb ++ (⟨#[60, 61, 48]⟩ : ByteArray))) else (none)) = some r := by rw [if_neg (show ¬ (false = true) by decide)] at H; exact H
          clear H
          have H := H1
          clear H1
          by_cases c57 : qb.size + 3 ≤ 9223372036854775807
          rotate_left
          ·
           rw [if_neg c57] at H
           exact absurd H (by simp)
          rw [if_pos c57] at H
          have jH := eq_true c57
          have jI : decide (qb.size + 3 ≤ 9223372036854775807) = true := decide_eq_true c57
          try have jJ : (9223372036854775807 < qb.size + 3) = False := eq_false (Nat.not_lt.2 c57)
          obtain rfl := Option.some.inj H
          obtain ⟨jm, jn, jo, jp, jq, jr⟩ := b3_ qc
          go_wp2
          go_ret
          exact ⟨by first | rfl | (simp [errW_none, errW_some] <;> rfl) | (simp [*, errW_none, errW_some] <;> rfl), bb_ HB⟩
         subst c46
         have H1 : ((spec_FormatInt.f kj41 a0_1).bind fun qe => (if qb.size + qe.size ≤ 9223372036854775807 then (if a0_2 = true then (if (qb ++ qe).size + 2 ≤ 9223372036854775807 then (some ((qb ++ qe) ++ (⟨#[60, 48]⟩ : ByteArray))) else (none)) else (if (qb ++ qe).size + 3 ≤ 9223372036854775807 then (some ((qb ++ qe) ++ (⟨#[60, 61, 48]⟩ : ByteArray))) else (none))) else (none))) = some r := by rw [if_pos rfl] at H; exact H
         clear H
         have H := H1
         clear H1
         replace H := Option.bind_eq_some_iff.mp H
         obtain ⟨qe, A470, H⟩ := H
         replace H : (if qb.size + qe.size ≤ 9223372036854775807 then (if a0_2 = true then (if (qb ++ qe).size + 2 ≤ 9223372036854775807 then (some ((qb ++ qe) ++ (⟨#[60, 48]⟩ : ByteArray))) else (none)) else (if (qb ++ qe).size + 3 ≤ 9223372036854775807 then (some ((qb ++ qe) ++ (⟨#[60, 61, 48]⟩ : ByteArray))) else (none))) else (none)) = some r := H
         have A47 := Aside0.mk A470
         clear A470
         by_cases c48 : qb.size + qe.size ≤ 9223372036854775807
         rotate_left
         ·
          rw [if_neg c48] at H
          exact absurd H (by simp)
         rw [if_pos c48] at H
         have jK := eq_true c48
         have jL : decide (qb.size + qe.size ≤ 9223372036854775807) = true := decide_eq_true c48
         try have jM : (9223372036854775807 < qb.size + qe.size) = False := eq_false (Nat.not_lt.2 c48)
         by_cases c49 : a0_2 = true
         ·
          subst c49
          have H1 : (if (qb ++ qe).size + 2 ≤ 9223372036854775807 then (some ((qb ++ qe) ++ (⟨#[60, 48]⟩ : ByteArray))) else (none)) = some r := by rw [if_pos rfl] at H; exact H
          clear H
          have H := H1
          clear H1
          by_cases c50 : (qb ++ qe).size + 2 ≤ 9223372036854775807
          rotate_left
          ·
           rw [if_neg c50] at H
           exact absurd H (by simp)
          rw [if_pos c50] at H
          have jN := eq_true c50
          have jO : decide ((qb ++ qe).size + 2 ≤ 9223372036854775807) = true := decide_eq_true c50
          try have z6 : (9223372036854775807 < (qb ++ qe).size + 2) = False := eq_false (Nat.not_lt.2 c50)
          try (have z7 := z6; simp only [ByteArray.size_append, show ∀ c, (ByteArray.mk #[c]).size = 1 from fun _ => rfl, show ∀ c d, (ByteArray.mk #[c, d]).size = 2 from fun _ _ => rfl, show ∀ c d e, (ByteArray.mk #[c, d, e]).size = 3 from fun _ _ _ => rfl] at z7)
          obtain rfl := Option.some.inj H
          obtain ⟨js, jt, ju, jv, jw, jx⟩ := b3_ qc
          go_wp2_with (first | ((with_reducible refine gate_callee (f := 50) rfl ?_); refine gL_ (some 66) Tryd.func50 #[.int .i64 a0_1] ?_; (with_reducible refine (spec_FormatInt.calls kj41 a0_1 qe _ A47.out).mono ?_); rintro e w' ⟨rfl, ⟨nd, rfl⟩⟩; refine ⟨_, rfl, ?_⟩))
          go_ret
          exact ⟨by first | rfl | (simp [errW_none, errW_some] <;> rfl) | (simp [*, errW_none, errW_some] <;> rfl), bb_ HB⟩
         replace c49 := Bool.eq_false_iff.mpr c49
         subst c49
         have H1 : (if (qb ++ qe).size + 3 ≤ 9223372036854775807 then (some ((qb ++ qe) ++ (⟨#[60, 61, 48]⟩ : ByteArray))) else (none)) = some r := by rw [if_neg (show ¬ (false = true) by decide)] at H; exact H
         clear H
         have H := H1
         clear H1
         by_cases c52 : (qb ++ qe).size + 3 ≤ 9223372036854775807
         rotate_left
         ·
          rw [if_neg c52] at H
          exact absurd H (by simp)
         rw [if_pos c52] at H
         have jP := eq_true c52
         have jQ : decide ((qb ++ qe).size + 3 ≤ 9223372036854775807) = true := decide_eq_true c52
         try have z8 : (9223372036854775807 < (qb ++ qe).size + 3) = False := eq_false (Nat.not_lt.2 c52)
         try (have z9 := z8; simp only [ByteArray.size_append, show ∀ c, (ByteArray.mk #[c]).size = 1 from fun _ => rfl, show ∀ c d, (ByteArray.mk #[c, d]).size = 2 from fun _ _ => rfl, show ∀ c d e, (ByteArray.mk #[c, d, e]).size = 3 from fun _ _ _ => rfl] at z9)
         obtain rfl := Option.some.inj H
         obtain ⟨jy, jz, jA, jB, jC, jD⟩ := b3_ qc
         go_wp2_with (first | ((with_reducible refine gate_callee (f := 50) rfl ?_); refine gL_ (some 66) Tryd.func50 #[.int .i64 a0_1] ?_; (with_reducible refine (spec_FormatInt.calls kj41 a0_1 qe _ A47.out).mono ?_); rintro e w' ⟨rfl, ⟨nd, rfl⟩⟩; refine ⟨_, rfl, ?_⟩))
         go_ret
         exact ⟨by first | rfl | (simp [errW_none, errW_some] <;> rfl) | (simp [*, errW_none, errW_some] <;> rfl), bb_ HB⟩

/-! ### spec_l3Text: function 64 -/
def spec_l3Text.l0 : Nat → ByteArray → Int → Int → List (S27) → Option (ByteArray)
 | 0, _, _, _, _ => none
 | k + 1, x3, x4, x126000, x126001 => if x4 < (x126001.length : Int) then (if x4 > 0 then (if x3.size + 1 ≤ 9223372036854775807 then (if 0 ≤ x4 then ((spec_FormatAtom.f k ((rd_T27 x126001 x4).f0) ((rd_T27 x126001 x4).f1) ((rd_T27 x126001 x4).f2)).bind fun qd => (if (x3 ++ (⟨#[44]⟩ : ByteArray)).size + qd.size ≤ 9223372036854775807 then (spec_l3Text.l0 k ((x3 ++ (⟨#[44]⟩ : ByteArray)) ++ qd) (wrap64 (x4 + 1)) x126000 x126001) else (none))) else (none)) else (none)) else (if 0 ≤ x4 then ((spec_FormatAtom.f k ((rd_T27 x126001 x4).f0) ((rd_T27 x126001 x4).f1) ((rd_T27 x126001 x4).f2)).bind fun qe => (if x3.size + qe.size ≤ 9223372036854775807 then (spec_l3Text.l0 k (x3 ++ qe) (wrap64 (x4 + 1)) x126000 x126001) else (none))) else (none))) else (if x3.size + 1 ≤ 9223372036854775807 then (some (x3 ++ (⟨#[125]⟩ : ByteArray))) else (none))
def spec_l3Text.f (k : Nat) (a0_0 : Int) (l0_1 : List (S27)) : Option (ByteArray) := spec_l3Text.l0 k (⟨#[123]⟩ : ByteArray) 0 a0_0 l0_1
theorem spec_l3Text.mono_l : ∀ k, (∀ y0 y1 y2 y3, LeO (spec_l3Text.l0 k y0 y1 y2 y3) (spec_l3Text.l0 (k + 1) y0 y1 y2 y3))
 | 0 => fun _ _ _ _ r h => by simp [spec_l3Text.l0] at h
 | k + 1 => by
  have ih0 := spec_l3Text.mono_l k
  ·
   intro y0 y1 y2 y3
   unfold spec_l3Text.l0
   repeat' first
   | (with_reducible exact ih0 _ _ _ _)
   | (with_reducible exact spec_FormatAtom.mono _ _ _ _)
   | (with_reducible exact LeO.refl _)
   | (with_reducible exact LeO.none _)
   | (with_reducible refine LeO.ite ?_ ?_)
   | (with_reducible refine LeO.bind ?_ (fun _ => ?_))
   | exact ih0 _ _ _ _
   | exact spec_FormatAtom.mono _ _ _ _
   | exact LeO.none _
   | refine LeO.ite ?_ ?_
   | refine LeO.bind ?_ (fun _ => ?_)
theorem spec_l3Text.mono : ∀ a0 a1 k, LeO (spec_l3Text.f k a0 a1) (spec_l3Text.f (k + 1) a0 a1) := by
 intro a0 a1 k
 have ih0 := spec_l3Text.mono_l k
 unfold spec_l3Text.f
 repeat' first
   | (with_reducible exact ih0 _ _ _ _)
   | (with_reducible exact spec_FormatAtom.mono _ _ _ _)
   | (with_reducible exact LeO.refl _)
   | (with_reducible exact LeO.none _)
   | (with_reducible refine LeO.ite ?_ ?_)
   | (with_reducible refine LeO.bind ?_ (fun _ => ?_))
   | exact ih0 _ _ _ _
   | exact spec_FormatAtom.mono _ _ _ _
   | exact LeO.none _
   | refine LeO.ite ?_ ?_
   | refine LeO.bind ?_ (fun _ => ?_)
set_option maxHeartbeats 8000000 in
set_option maxRecDepth 100000 in
theorem spec_l3Text.calls (k : Nat) (a0_0 : Int) (A0_1 : Option Addr) (c0_1 : Nat) (l0_1 : List (S27)) (r : ByteArray) (w : World) (hr0_1 : Kd.C k27 w A0_1 l0_1.length l0_1) (hc0_1 : l0_1.length ≤ c0_1) (h : spec_l3Text.f k a0_0 l0_1 = some r) :
  Calls Tryd.prog 64 #[.agg #[.int .i64 a0_0, .slice A0_1 l0_1.length c0_1]] w fun e w' => e = .returned (.string r) ∧ Below w.heap.size w w' := by
 have hu41 := Tryd.underlying41
 have hu27 := Tryd.underlying27
 have qp := Aside0.mk hr0_1
 have qJ := Aside0.mk hc0_1
 clear hr0_1 hc0_1
 have HB := Aside0.mk (Below.refl w.heap.size w)
 have H : (spec_l3Text.l0 k (⟨#[123]⟩ : ByteArray) 0 a0_0 l0_1) = some r := h
 clear h
 have H' := Aside0.mk H
 clear H
 go_enter Tryd.func64, Tryd.ntmps64
 go_wp2_with (first | ((with_reducible refine gate_dst (N := 1) rfl ?_); refine bx_ (cs := #[.int .i64 a0_0, .slice A0_1 l0_1.length c0_1]) (t := 41) ?_; intro qs hg w2 hbox hb; have qc := Aside0.mk (hbox); have qK := hz_ HB hg; have qL := hz_ HB hg; replace HB := bS_ HB hb; clear hb hbox hg))
 go_loopg [3, 4] k (fun kq v3 v4 w' => ∃ (qb : ByteArray) (qa : Int), v3 = .string qb ∧ v4 = .int .i64 qa ∧ Aside0 (spec_l3Text.l0 kq qb qa a0_0 l0_1 = some r) ∧ Aside0 (kq ≤ k) ∧ Aside0 (w'.heap[qs]? = some (.cells #[.int .i64 a0_0, (.slice A0_1 l0_1.length c0_1)] 41 (0, 0))) ∧ Aside0 (Below w.heap.size w w'))
 case atStart => exact ⟨((⟨#[123]⟩ : ByteArray)), (0), (by first | rfl | (simp; done) | (simp [*]; done)), (by first | rfl | (simp; done) | (simp [*]; done)), H', ⟨Nat.le_refl _⟩, ⟨kf_ qc⟩, ⟨bb_ HB⟩⟩
 case round =>
  clear H'
  try clear p2
  obtain ⟨qb, qa, rfl, rfl, HA, HK1, qc, HB⟩ := hrel
  cases gk with
  | zero => exact absurd HA.out (by simp [spec_l3Text.l0])
  | succ k1 =>
   have H := HA.out
   clear HA
   simp only [spec_l3Text.l0] at H
   by_cases c3 : qa < (l0_1.length : Int)
   rotate_left
   ·
    rw [if_neg c3] at H
    have qB : decide (qa < (l0_1.length : Int)) = false := decide_eq_false c3
    clear c3
    by_cases c16 : qb.size + 1 ≤ 9223372036854775807
    rotate_left
    ·
     rw [if_neg c16] at H
     exact absurd H (by simp)
    rw [if_pos c16] at H
    have qM := eq_true c16
    have qN : decide (qb.size + 1 ≤ 9223372036854775807) = true := decide_eq_true c16
    try have qO : (9223372036854775807 < qb.size + 1) = False := eq_false (Nat.not_lt.2 c16)
    obtain rfl := Option.some.inj H
    obtain ⟨qt, qu, qv, qw⟩ := b2_ qc
    go_wp2
    go_ret
    exact ⟨by first | rfl | (simp [errW_none, errW_some] <;> rfl) | (simp [*, errW_none, errW_some] <;> rfl), bb_ HB⟩
   rw [if_pos c3] at H
   have qB : decide (qa < (l0_1.length : Int)) = true := decide_eq_true c3
   clear c3
   by_cases c4 : qa > 0
   rotate_left
   ·
    rw [if_neg c4] at H
    have qC : decide (0 < qa) = false := decide_eq_false c4
    clear c4
    by_cases c11 : 0 ≤ qa
    rotate_left
    ·
     rw [if_neg c11] at H
     exact absurd H (by simp)
    rw [if_pos c11] at H
    have qP : decide (0 ≤ qa) = true := decide_eq_true c11
    clear c11
    replace H := Option.bind_eq_some_iff.mp H
    obtain ⟨qe, A120, H⟩ := H
    replace H : (if qb.size + qe.size ≤ 9223372036854775807 then (spec_l3Text.l0 k1 (qb ++ qe) (wrap64 (qa + 1)) a0_0 l0_1) else (none)) = some r := H
    have A12 := Aside0.mk A120
    clear A120
    by_cases c13 : qb.size + qe.size ≤ 9223372036854775807
    rotate_left
    ·
     rw [if_neg c13] at H
     exact absurd H (by simp)
    rw [if_pos c13] at H
    have qQ := eq_true c13
    have qR : decide (qb.size + qe.size ≤ 9223372036854775807) = true := decide_eq_true c13
    try have qS : (9223372036854775807 < qb.size + qe.size) = False := eq_false (Nat.not_lt.2 c13)
    have H' := Aside0.mk H
    clear H
    obtain ⟨qx, qy, qz, qA⟩ := b2_ qc
    have p128 : 0 ≤ (qa : Int) := of_decide_eq_true (by first | (with_reducible assumption) | assumption)
    have q128 : qa < (l0_1.length : Int) := of_decide_eq_true (by first | (with_reducible assumption) | assumption)
    obtain ⟨qT, qq, c128_0, e128, qf, qg, qh, hl128_0, hi128_0⟩ := at_T27 qp.out qa p128 q128
    cases e128
    replace qf := (HB.out.cell (World.block_lt_of_cell? w _ qf)).trans qf
    replace qg := (HB.out.cell (World.block_lt_of_cell? w _ qg)).trans qg
    replace qh := (HB.out.cell (World.block_lt_of_cell? w _ qh)).trans qh
    have ql := Aside0.mk hi128_0
    have qm := Aside0.mk hl128_0
    clear hi128_0 hl128_0
    replace p128 := eq_true p128
    replace q128 := eq_true q128
    go_wp2_with (first | ((with_reducible refine gate_callee (f := 12) rfl ?_); refine gL_ (some 22) Tryd.func12 #[.agg #[.slice qq ((rd_T27 l0_1 qa).f0).length c128_0, .int .i64 ((rd_T27 l0_1 qa).f1), .bool ((rd_T27 l0_1 qa).f2)]] ?_; (with_reducible refine (spec_FormatAtom.calls k1 _ _ ((rd_T27 l0_1 qa).f0) ((rd_T27 l0_1 qa).f1) ((rd_T27 l0_1 qa).f2) qe _ ?side1 ?side2 A12.out).mono ?_); (case side1 => exact cb_ ql HB); (case side2 => exact qm.out); rintro e q1 ⟨rfl, hb⟩; refine ⟨_, rfl, ?_⟩; replace qc := kB_ qc hb; replace HB := bS_ HB hb; clear hb))
    go_roundg k1
    case measure => have := HK1.out; omega
    case rel => exact ⟨(qb ++ qe), (wrap64 (qa + 1)), (by first | rfl | (simp; done) | (simp [*]; done)), (by first | rfl | (simp; done) | (simp [*]; done)), H', ⟨by have := HK1.out; omega⟩, ⟨kf_ qc⟩, ⟨bb_ HB⟩⟩
   rw [if_pos c4] at H
   have qC : decide (0 < qa) = true := decide_eq_true c4
   clear c4
   by_cases c5 : qb.size + 1 ≤ 9223372036854775807
   rotate_left
   ·
    rw [if_neg c5] at H
    exact absurd H (by simp)
   rw [if_pos c5] at H
   have qV := eq_true c5
   have qW : decide (qb.size + 1 ≤ 9223372036854775807) = true := decide_eq_true c5
   try have qX : (9223372036854775807 < qb.size + 1) = False := eq_false (Nat.not_lt.2 c5)
   by_cases c6 : 0 ≤ qa
   rotate_left
   ·
    rw [if_neg c6] at H
    exact absurd H (by simp)
   rw [if_pos c6] at H
   have qY : decide (0 ≤ qa) = true := decide_eq_true c6
   clear c6
   replace H := Option.bind_eq_some_iff.mp H
   obtain ⟨qd, A70, H⟩ := H
   replace H : (if (qb ++ (⟨#[44]⟩ : ByteArray)).size + qd.size ≤ 9223372036854775807 then (spec_l3Text.l0 k1 ((qb ++ (⟨#[44]⟩ : ByteArray)) ++ qd) (wrap64 (qa + 1)) a0_0 l0_1) else (none)) = some r := H
   have A7 := Aside0.mk A70
   clear A70
   by_cases c8 : (qb ++ (⟨#[44]⟩ : ByteArray)).size + qd.size ≤ 9223372036854775807
   rotate_left
   ·
    rw [if_neg c8] at H
    exact absurd H (by simp)
   rw [if_pos c8] at H
   have qZ := eq_true c8
   have q0 : decide ((qb ++ (⟨#[44]⟩ : ByteArray)).size + qd.size ≤ 9223372036854775807) = true := decide_eq_true c8
   try have qD : (9223372036854775807 < (qb ++ (⟨#[44]⟩ : ByteArray)).size + qd.size) = False := eq_false (Nat.not_lt.2 c8)
   try (have qE := qD; simp only [ByteArray.size_append, show ∀ c, (ByteArray.mk #[c]).size = 1 from fun _ => rfl, show ∀ c d, (ByteArray.mk #[c, d]).size = 2 from fun _ _ => rfl, show ∀ c d e, (ByteArray.mk #[c, d, e]).size = 3 from fun _ _ _ => rfl] at qE)
   have H' := Aside0.mk H
   clear H
   obtain ⟨qF, qG, qH, qI⟩ := b2_ qc
   have p126 : 0 ≤ (qa : Int) := of_decide_eq_true (by first | (with_reducible assumption) | assumption)
   have q126 : qa < (l0_1.length : Int) := of_decide_eq_true (by first | (with_reducible assumption) | assumption)
   obtain ⟨qU, qr, c126_0, e126, qi, qj, qk, hl126_0, hi126_0⟩ := at_T27 qp.out qa p126 q126
   cases e126
   replace qi := (HB.out.cell (World.block_lt_of_cell? w _ qi)).trans qi
   replace qj := (HB.out.cell (World.block_lt_of_cell? w _ qj)).trans qj
   replace qk := (HB.out.cell (World.block_lt_of_cell? w _ qk)).trans qk
   have qn := Aside0.mk hi126_0
   have qo := Aside0.mk hl126_0
   clear hi126_0 hl126_0
   replace p126 := eq_true p126
   replace q126 := eq_true q126
   go_wp2_with (first | ((with_reducible refine gate_callee (f := 12) rfl ?_); refine gL_ (some 22) Tryd.func12 #[.agg #[.slice qr ((rd_T27 l0_1 qa).f0).length c126_0, .int .i64 ((rd_T27 l0_1 qa).f1), .bool ((rd_T27 l0_1 qa).f2)]] ?_; (with_reducible refine (spec_FormatAtom.calls k1 _ _ ((rd_T27 l0_1 qa).f0) ((rd_T27 l0_1 qa).f1) ((rd_T27 l0_1 qa).f2) qd _ ?side1 ?side2 A7.out).mono ?_); (case side1 => exact cb_ qn HB); (case side2 => exact qo.out); rintro e q2 ⟨rfl, hb⟩; refine ⟨_, rfl, ?_⟩; replace qc := kB_ qc hb; replace HB := bS_ HB hb; clear hb))
   go_roundg k1
   case measure => have := HK1.out; omega
   case rel => exact ⟨((qb ++ (⟨#[44]⟩ : ByteArray)) ++ qd), (wrap64 (qa + 1)), (by first | rfl | (simp; done) | (simp [*]; done)), (by first | rfl | (simp; done) | (simp [*]; done)), H', ⟨by have := HK1.out; omega⟩, ⟨kf_ qc⟩, ⟨bb_ HB⟩⟩

/-! ### spec_IsCell: function 63 -/
def spec_IsCell.l0 : Nat → Int → Int → List (S27) → Option (Bool)
 | 0, _, _, _ => none
 | k + 1, x3, x131000, x131001 => if x3 < (x131001.length : Int) then (if 0 ≤ x3 then ((spec_IsAtom.f k ((rd_T27 x131001 x3).f0) ((rd_T27 x131001 x3).f1) ((rd_T27 x131001 x3).f2)).bind fun qr => (if qr = true then (if (((rd_T27 x131001 x3).f0).length : Int) = x131000 then (spec_IsCell.l0 k (wrap64 (x3 + 1)) x131000 x131001) else (some false)) else (some false))) else (none)) else ((spec_l1In.f x131000 0 4).bind fun qs => (if qs = true then (some (decide ((x131001.length : Int) ≤ 16))) else (some false)))
def spec_IsCell.f (k : Nat) (a0_0 : Int) (l0_1 : List (S27)) : Option (Bool) := spec_IsCell.l0 k 0 a0_0 l0_1
theorem spec_IsCell.mono_l : ∀ k, (∀ y0 y1 y2, LeO (spec_IsCell.l0 k y0 y1 y2) (spec_IsCell.l0 (k + 1) y0 y1 y2))
 | 0 => fun _ _ _ r h => by simp [spec_IsCell.l0] at h
 | k + 1 => by
  have ih0 := spec_IsCell.mono_l k
  ·
   intro y0 y1 y2
   unfold spec_IsCell.l0
   repeat' first
   | (with_reducible exact ih0 _ _ _)
   | (with_reducible exact spec_IsAtom.mono _ _ _ _)
   | (with_reducible exact LeO.refl _)
   | (with_reducible exact LeO.none _)
   | (with_reducible refine LeO.ite ?_ ?_)
   | (with_reducible refine LeO.bind ?_ (fun _ => ?_))
   | exact ih0 _ _ _
   | exact spec_IsAtom.mono _ _ _ _
   | exact LeO.none _
   | refine LeO.ite ?_ ?_
   | refine LeO.bind ?_ (fun _ => ?_)
theorem spec_IsCell.mono : ∀ a0 a1 k, LeO (spec_IsCell.f k a0 a1) (spec_IsCell.f (k + 1) a0 a1) := by
 intro a0 a1 k
 have ih0 := spec_IsCell.mono_l k
 unfold spec_IsCell.f
 repeat' first
   | (with_reducible exact ih0 _ _ _)
   | (with_reducible exact spec_IsAtom.mono _ _ _ _)
   | (with_reducible exact LeO.refl _)
   | (with_reducible exact LeO.none _)
   | (with_reducible refine LeO.ite ?_ ?_)
   | (with_reducible refine LeO.bind ?_ (fun _ => ?_))
   | exact ih0 _ _ _
   | exact spec_IsAtom.mono _ _ _ _
   | exact LeO.none _
   | refine LeO.ite ?_ ?_
   | refine LeO.bind ?_ (fun _ => ?_)
def spec_IsCell.T4 : Bool × List (List Nat × List Nat) := (true, [([], []), ([0], [0]), ([], []), ([1, 2], [1, 2]), ([3], [3]), ([4], [4]), ([5], [5]), ([6, 5], [6]), ([7], [7]), ([8, 7], [7, 8]), ([7], [7]), ([9, 10, 7], [7, 9, 10]), ([11, 7], [7, 11]), ([12, 7], [7, 12]), ([13, 7], [7, 13]), ([7], [7]), ([15, 7], [7, 15]), ([14, 16, 7], [7, 14, 16]), ([7, 17], [7, 17])])
def spec_IsCell.B4 : List Nat := [0, 1, 0, 7, 15, 31, 63, 127, 255, 511, 255, 2047, 4095, 8191, 16383, 255, 33023, 131071, 262143]
theorem spec_IsCell.tab4 : rtab .any (opsOf Tryd.f63 4) = spec_IsCell.T4 := by kernel_rfl
theorem spec_IsCell.bits4 : waitsOk spec_IsCell.T4.2 spec_IsCell.B4 = true := by kernel_rfl
set_option maxHeartbeats 8000000 in
set_option maxRecDepth 100000 in
theorem spec_IsCell.calls (k : Nat) (a0_0 : Int) (A0_1 : Option Addr) (c0_1 : Nat) (l0_1 : List (S27)) (r : Bool) (w : World) (hr0_1 : Kd.C k27 w A0_1 l0_1.length l0_1) (hc0_1 : l0_1.length ≤ c0_1) (h : spec_IsCell.f k a0_0 l0_1 = some r) :
  Calls Tryd.prog 63 #[.agg #[.int .i64 a0_0, .slice A0_1 l0_1.length c0_1]] w fun e w' => e = .returned (.bool r) ∧ Below w.heap.size w w' := by
 have hu41 := Tryd.underlying41
 have hu27 := Tryd.underlying27
 have qo := Aside0.mk hr0_1
 have qR := Aside0.mk hc0_1
 clear hr0_1 hc0_1
 have HB := Aside0.mk (Below.refl w.heap.size w)
 have H : (spec_IsCell.l0 k 0 a0_0 l0_1) = some r := h
 clear h
 have H' := Aside0.mk H
 clear H
 go_enter Tryd.func63, Tryd.ntmps63
 go_wp2_with (first | ((with_reducible refine gate_dst (N := 1) rfl ?_); (try (refine gate_guard (by rfl) ?_; dsimp only)); refine bx_ (cs := #[.int .i64 a0_0, .slice A0_1 l0_1.length c0_1]) (t := 41) ?_; intro qm hg w2 hbox hb; have qb := Aside0.mk (hbox); have qS := hz_ HB hg; have qT := hz_ HB hg; replace HB := bS_ HB hb; clear hb hbox hg))
 go_loopg [3] k (fun kq v3 w' => ∃ (qa : Int), v3 = .int .i64 qa ∧ Aside0 (spec_IsCell.l0 kq qa a0_0 l0_1 = some r) ∧ Aside0 (kq ≤ k) ∧ Aside0 (w'.heap[qm]? = some (.cells #[.int .i64 a0_0, (.slice A0_1 l0_1.length c0_1)] 41 (0, 0))) ∧ Aside0 (Below w.heap.size w w'))
 case atStart => exact ⟨(0), (by first | rfl | (simp; done) | (simp [*]; done)), H', ⟨Nat.le_refl _⟩, ⟨kf_ qb⟩, ⟨bb_ HB⟩⟩
 case round =>
  clear H'
  try clear p2
  obtain ⟨qa, rfl, HA, HK1, qb, HB⟩ := hrel
  cases gk with
  | zero => exact absurd HA.out (by simp [spec_IsCell.l0])
  | succ k1 =>
   have H := HA.out
   clear HA
   simp only [spec_IsCell.l0] at H
   by_cases c3 : qa < (l0_1.length : Int)
   rotate_left
   ·
    rw [if_neg c3] at H
    have qK : decide (qa < (l0_1.length : Int)) = false := decide_eq_false c3
    clear c3
    replace H := Option.bind_eq_some_iff.mp H
    obtain ⟨qs, A170, H⟩ := H
    replace H : (if qs = true then (some (decide ((l0_1.length : Int) ≤ 16))) else (some false)) = some r := H
    have A17 := Aside0.mk A170
    clear A170
    by_cases c18 : qs = true
    ·
     subst c18
     have H1 : (some (decide ((l0_1.length : Int) ≤ 16))) = some r := by rw [if_pos rfl] at H; exact H
     clear H
     have H := H1
     clear H1
     obtain rfl := Option.some.inj H
     obtain ⟨qu, qv, qw, qx⟩ := b2_ qb
     go_wp2_with (first | ((with_reducible refine gate_callee (f := 80) rfl ?_); refine gL_ (some 32) Tryd.func80 #[.int .i64 a0_0, .int .i64 0, .int .i64 4] ?_; (with_reducible refine (spec_l1In.calls a0_0 0 4 true _ A17.out).mono ?_); rintro e w' ⟨rfl, ⟨nd, rfl⟩⟩; refine ⟨_, rfl, ?_⟩))
     go_ret
     exact ⟨by first | rfl | (simp [errW_none, errW_some] <;> rfl) | (simp [*, errW_none, errW_some] <;> rfl), bb_ HB⟩
    replace c18 := Bool.eq_false_iff.mpr c18
    subst c18
    have H1 : (some false) = some r := by rw [if_neg (show ¬ (false = true) by decide)] at H; exact H
    clear H
    have H := H1
    clear H1
    obtain rfl := Option.some.inj H
    obtain ⟨qy, qz, qA, qB⟩ := b2_ qb
    go_wp2_with (first | ((with_reducible refine gate_callee (f := 80) rfl ?_); refine gL_ (some 32) Tryd.func80 #[.int .i64 a0_0, .int .i64 0, .int .i64 4] ?_; (with_reducible refine (spec_l1In.calls a0_0 0 4 false _ A17.out).mono ?_); rintro e w' ⟨rfl, ⟨nd, rfl⟩⟩; refine ⟨_, rfl, ?_⟩))
    go_ret
    exact ⟨by first | rfl | (simp [errW_none, errW_some] <;> rfl) | (simp [*, errW_none, errW_some] <;> rfl), bb_ HB⟩
   rw [if_pos c3] at H
   have qK : decide (qa < (l0_1.length : Int)) = true := decide_eq_true c3
   clear c3
   by_cases c4 : 0 ≤ qa
   rotate_left
   ·
    rw [if_neg c4] at H
    exact absurd H (by simp)
   rw [if_pos c4] at H
   have qU : decide (0 ≤ qa) = true := decide_eq_true c4
   clear c4
   replace H := Option.bind_eq_some_iff.mp H
   obtain ⟨qr, A50, H⟩ := H
   replace H : (if qr = true then (if (((rd_T27 l0_1 qa).f0).length : Int) = a0_0 then (spec_IsCell.l0 k1 (wrap64 (qa + 1)) a0_0 l0_1) else (some false)) else (some false)) = some r := H
   have A5 := Aside0.mk A50
   clear A50
   by_cases c6 : qr = true
   rotate_left
   ·
    replace c6 := Bool.eq_false_iff.mpr c6
    subst c6
    have H1 : (some false) = some r := by rw [if_neg (show ¬ (false = true) by decide)] at H; exact H
    clear H
    have H := H1
    clear H1
    obtain rfl := Option.some.inj H
    obtain ⟨qC, qD, qE, qF⟩ := b2_ qb
    try go_wp2
    replace qb := Aside0.mk (blk_drew qb.out); replace HB := Aside0.mk (below_drew1 HB.out)
    have p131 : 0 ≤ (qa : Int) := of_decide_eq_true (by first | (with_reducible assumption) | assumption)
    have q131 : qa < (l0_1.length : Int) := of_decide_eq_true (by first | (with_reducible assumption) | assumption)
    obtain ⟨qc, qk, c131_0, e131, qd, qe, qf, hl131_0, hi131_0⟩ := at_T27 qo.out qa p131 q131
    have hw131_2 := qf
    have hw131_1 := qe
    have hw131_0 := qd
    cases e131
    replace qd := (HB.out.cell (World.block_lt_of_cell? w _ qd)).trans qd
    replace qe := (HB.out.cell (World.block_lt_of_cell? w _ qe)).trans qe
    replace qf := (HB.out.cell (World.block_lt_of_cell? w _ qf)).trans qf
    have qj := Aside0.mk hi131_0
    have ql := Aside0.mk hl131_0
    clear hi131_0 hl131_0
    replace p131 := eq_true p131
    replace q131 := eq_true q131
    refine start_ (n := 19) (S := fun w' => w'.cell? ⟨qm, 0, none⟩ = some (.int .i64 a0_0) ∧ w'.cell? ⟨qm, 1, none⟩ = some (.slice (some qc) l0_1.length c0_1) ∧ w'.cell? (qc.add ((qa).toNat * 3)) = some (.slice qk ((rd_T27 l0_1 qa).f0).length c131_0) ∧ w'.cell? ⟨(qc.add ((qa).toNat * 3)).block, (qc.add ((qa).toNat * 3)).off + 1, none⟩ = some (.int .i64 ((rd_T27 l0_1 qa).f1)) ∧ w'.cell? ⟨(qc.add ((qa).toNat * 3)).block, (qc.add ((qa).toNat * 3)).off + 2, none⟩ = some (.bool ((rd_T27 l0_1 qa).f2))) (ds := []) #[false, false, false, false, false, false, false, false, false, false, false, false, false, false, false, false, false, false, false] (by kernel_rfl) rfl rfl ⟨bc_ qb 0, bc_ qb 1, ((HB.out.cell (World.block_lt_of_cell? w _ hw131_0)).trans hw131_0), ((HB.out.cell (World.block_lt_of_cell? w _ hw131_1)).trans hw131_1), ((HB.out.cell (World.block_lt_of_cell? w _ hw131_2)).trans hw131_2)⟩ (fun hHeld => ?_); refine with_tabW spec_IsCell.tab4 spec_IsCell.bits4 (fun HT_ HW_ => ?_)
    generalize wr.drew = qV at qb HB qj qd qe qf hHeld ⊢
    refine pX_ 0 (some 11) #[true, false, false, false, false, false, false, false, false, false, false, false, false, false, false, false, false, false, false] HT_ ?_
    refine pX_ 2 (some 13) #[true, false, true, false, false, false, false, false, false, false, false, false, false, false, false, false, false, false, false] HT_ ?_
    refine take_ (i := 1) (N := some 12) (v := ?_) (a' := ?_) #[true, true, true, false, false, false, false, false, false, false, false, false, false, false, false, false, false, false, false] rfl rfl (take_ofW HT_.out HW_.out (by kernel_rfl)) (fun _ _ _ h => h) (Or.inl ⟨by rfl, ?_⟩) hHeld ?_ ?_
    rotate_left
    ·
     rintro w' ⟨s0, s1, s2, s3, s4⟩
     go_simp
     with_reducible rfl
    rotate_left
    ·
     simp only [Act.put, List.setIfInBounds_toArray, List.set_cons_zero, List.set_cons_succ, i64_w, i32_w]
     rfl
    refine pX_ 3 (some 14) #[true, true, true, true, false, false, false, false, false, false, false, false, false, false, false, false, false, false, false] HT_ ?_
    refine take_ (i := 4) (N := some 15) (v := ?_) (a' := ?_) #[true, true, true, true, true, false, false, false, false, false, false, false, false, false, false, false, false, false, false] rfl rfl (take_ofW HT_.out HW_.out (by kernel_rfl)) (fun _ _ _ h => h) (Or.inl ⟨by rfl, ?_⟩) hHeld ?_ ?_
    rotate_left
    ·
     rintro w' ⟨s0, s1, s2, s3, s4⟩
     go_simp
     with_reducible rfl
    rotate_left
    ·
     simp only [Act.put, List.setIfInBounds_toArray, List.set_cons_zero, List.set_cons_succ, i64_w, i32_w]
     rfl
    refine one_ (i := 5) (N := some 16) #[true, true, true, true, true, true, false, false, false, false, false, false, false, false, false, false, false, false, false] rfl rfl (one_of HT_.out (by kernel_rfl)) (by decide) (fun K hK => ?_)
    refine goes_ Tryd.func46 (by kernel_rfl) rfl #[.agg #[.slice qk ((rd_T27 l0_1 qa).f0).length c131_0, .int .i64 ((rd_T27 l0_1 qa).f1), .bool ((rd_T27 l0_1 qa).f2)]] (by rfl) rfl rfl (by (try simp only [List.map_toArray, List.map_cons, List.map_nil]); first | done | rfl | (simp only [List.length_drop, List.length_take]; rfl)) ?_
    with_reducible refine (spec_IsAtom.calls k1 _ _ ((rd_T27 l0_1 qa).f0) ((rd_T27 l0_1 qa).f1) ((rd_T27 l0_1 qa).f2) false _ ?side1 ?side2 A5.out).mono ?_
    (case side1 => exact cb_ qj HB)
    (case side2 => exact ql.out)
    rintro e qW ⟨rfl, hb⟩
    refine ⟨_, rfl, ?_⟩
    replace qb := kB_ qb hb; replace HB := bS_ HB hb; (try clear hb); (try clear hb2); (try clear hk); (try clear hi)
    refine hK.out _ _ ⟨bc_ qb 0, bc_ qb 1, ((HB.out.cell (World.block_lt_of_cell? w _ hw131_0)).trans hw131_0), ((HB.out.cell (World.block_lt_of_cell? w _ hw131_1)).trans hw131_1), ((HB.out.cell (World.block_lt_of_cell? w _ hw131_2)).trans hw131_2)⟩ (fun hHeld => ?_)
    clear hK K
    refine norm_ (a' := ?_) ?_ ?_
    rotate_left
    ·
     show Act.put _ (some 16) _ = _
     simp only [Act.put, List.setIfInBounds_toArray, List.set_cons_zero, List.set_cons_succ, i64_w, i32_w]
     rfl
    refine pX_ 6 (some 17) #[true, true, true, true, true, true, true, false, false, false, false, false, false, false, false, false, false, false, false] HT_ ?_
    refine pX_ 7 (some 18) #[true, true, true, true, true, true, true, true, false, false, false, false, false, false, false, false, false, false, false] HT_ ?_
    refine pure_ (i := 8) (N := some 19) (v := undef) (a' := ?_) #[true, true, true, true, true, true, true, true, true, false, false, false, false, false, false, false, false, false, false] rfl rfl (any_of HT_.out (by kernel_rfl)) (fun _ _ _ h => h) (Or.inr ⟨by rfl, rfl⟩) ?_ ?_
    rotate_left
    ·
     simp only [Act.put, List.setIfInBounds_toArray, List.set_cons_zero, List.set_cons_succ, i64_w, i32_w]
     rfl
    refine pure_ (i := 9) (N := some 20) (v := undef) (a' := ?_) #[true, true, true, true, true, true, true, true, true, true, false, false, false, false, false, false, false, false, false] rfl rfl (any_of HT_.out (by kernel_rfl)) (fun _ _ _ h => h) (Or.inr ⟨by rfl, rfl⟩) ?_ ?_
    rotate_left
    ·
     simp only [Act.put, List.setIfInBounds_toArray, List.set_cons_zero, List.set_cons_succ, i64_w, i32_w]
     rfl
    refine pure_ (i := 10) (N := some 21) (v := undef) (a' := ?_) #[true, true, true, true, true, true, true, true, true, true, true, false, false, false, false, false, false, false, false] rfl rfl (any_of HT_.out (by kernel_rfl)) (fun _ _ _ h => h) (Or.inr ⟨by rfl, rfl⟩) ?_ ?_
    rotate_left
    ·
     simp only [Act.put, List.setIfInBounds_toArray, List.set_cons_zero, List.set_cons_succ, i64_w, i32_w]
     rfl
    refine pure_ (i := 11) (N := some 22) (v := undef) (a' := ?_) #[true, true, true, true, true, true, true, true, true, true, true, true, false, false, false, false, false, false, false] rfl rfl (any_of HT_.out (by kernel_rfl)) (fun _ _ _ h => h) (Or.inr ⟨by rfl, rfl⟩) ?_ ?_
    rotate_left
    ·
     simp only [Act.put, List.setIfInBounds_toArray, List.set_cons_zero, List.set_cons_succ, i64_w, i32_w]
     rfl
    refine pure_ (i := 12) (N := some 23) (v := undef) (a' := ?_) #[true, true, true, true, true, true, true, true, true, true, true, true, true, false, false, false, false, false, false] rfl rfl (any_of HT_.out (by kernel_rfl)) (fun _ _ _ h => h) (Or.inr ⟨by rfl, rfl⟩) ?_ ?_
    rotate_left
    ·
     simp only [Act.put, List.setIfInBounds_toArray, List.set_cons_zero, List.set_cons_succ, i64_w, i32_w]
     rfl
    refine pure_ (i := 13) (N := some 24) (v := undef) (a' := ?_) #[true, true, true, true, true, true, true, true, true, true, true, true, true, true, false, false, false, false, false] rfl rfl (any_of HT_.out (by kernel_rfl)) (fun _ _ _ h => h) (Or.inr ⟨by rfl, rfl⟩) ?_ ?_
    rotate_left
    ·
     simp only [Act.put, List.setIfInBounds_toArray, List.set_cons_zero, List.set_cons_succ, i64_w, i32_w]
     rfl
    refine pure_ (i := 14) (N := some 25) (v := undef) (a' := ?_) #[true, true, true, true, true, true, true, true, true, true, true, true, true, true, true, false, false, false, false] rfl rfl (any_of HT_.out (by kernel_rfl)) (fun _ _ _ h => h) (Or.inr ⟨by rfl, rfl⟩) ?_ ?_
    rotate_left
    ·
     simp only [Act.put, List.setIfInBounds_toArray, List.set_cons_zero, List.set_cons_succ, i64_w, i32_w]
     rfl
    refine pure_ (i := 15) (N := some 26) (v := undef) (a' := ?_) #[true, true, true, true, true, true, true, true, true, true, true, true, true, true, true, true, false, false, false] rfl rfl (any_of HT_.out (by kernel_rfl)) (fun _ _ _ h => h) (Or.inr ⟨by rfl, rfl⟩) ?_ ?_
    rotate_left
    ·
     simp only [Act.put, List.setIfInBounds_toArray, List.set_cons_zero, List.set_cons_succ, i64_w, i32_w]
     rfl
    refine pure_ (i := 16) (N := some 27) (v := undef) (a' := ?_) #[true, true, true, true, true, true, true, true, true, true, true, true, true, true, true, true, true, false, false] rfl rfl (any_of HT_.out (by kernel_rfl)) (fun _ _ _ h => h) (Or.inr ⟨by rfl, rfl⟩) ?_ ?_
    rotate_left
    ·
     simp only [Act.put, List.setIfInBounds_toArray, List.set_cons_zero, List.set_cons_succ, i64_w, i32_w]
     rfl
    refine pure_ (i := 17) (N := some 28) (v := undef) (a' := ?_) #[true, true, true, true, true, true, true, true, true, true, true, true, true, true, true, true, true, true, false] rfl rfl (any_of HT_.out (by kernel_rfl)) (fun _ _ _ h => h) (Or.inr ⟨by rfl, rfl⟩) ?_ ?_
    rotate_left
    ·
     simp only [Act.put, List.setIfInBounds_toArray, List.set_cons_zero, List.set_cons_succ, i64_w, i32_w]
     rfl
    refine pX_ 18 (some 29) #[true, true, true, true, true, true, true, true, true, true, true, true, true, true, true, true, true, true, true] HT_ ?_
    refine done_ (done_of HT_.out (by kernel_rfl)) ?_
    try go_wp2
    go_ret
    exact ⟨by first | rfl | (simp [errW_none, errW_some] <;> rfl) | (simp [*, errW_none, errW_some] <;> rfl), bb_ HB⟩
   subst c6
   have H1 : (if (((rd_T27 l0_1 qa).f0).length : Int) = a0_0 then (spec_IsCell.l0 k1 (wrap64 (qa + 1)) a0_0 l0_1) else (some false)) = some r := by rw [if_pos rfl] at H; exact H
   clear H
   have H := H1
   clear H1
   by_cases c7 : (((rd_T27 l0_1 qa).f0).length : Int) = a0_0
   rotate_left
   ·
    rw [if_neg c7] at H
    have qL : ((((rd_T27 l0_1 qa).f0).length : Int) == a0_0) = false := beq_eq_false_iff_ne.mpr c7
    have qM : ((((rd_T27 l0_1 qa).f0).length : Int) != a0_0) = true := bne_iff_ne.mpr c7
    obtain rfl := Option.some.inj H
    obtain ⟨qG, qH, qI, qJ⟩ := b2_ qb
    try go_wp2
    replace qb := Aside0.mk (blk_drew qb.out); replace HB := Aside0.mk (below_drew1 HB.out)
    have p131 : 0 ≤ (qa : Int) := of_decide_eq_true (by first | (with_reducible assumption) | assumption)
    have q131 : qa < (l0_1.length : Int) := of_decide_eq_true (by first | (with_reducible assumption) | assumption)
    obtain ⟨qc, qk, c131_0, e131, qd, qe, qf, hl131_0, hi131_0⟩ := at_T27 qo.out qa p131 q131
    have hw131_2 := qf
    have hw131_1 := qe
    have hw131_0 := qd
    cases e131
    replace qd := (HB.out.cell (World.block_lt_of_cell? w _ qd)).trans qd
    replace qe := (HB.out.cell (World.block_lt_of_cell? w _ qe)).trans qe
    replace qf := (HB.out.cell (World.block_lt_of_cell? w _ qf)).trans qf
    have qj := Aside0.mk hi131_0
    have ql := Aside0.mk hl131_0
    clear hi131_0 hl131_0
    replace p131 := eq_true p131
    replace q131 := eq_true q131
    have p133 : 0 ≤ (qa : Int) := of_decide_eq_true (by first | (with_reducible assumption) | assumption)
    have q133 : qa < (l0_1.length : Int) := of_decide_eq_true (by first | (with_reducible assumption) | assumption)
    obtain ⟨qq, qp, c133_0, e133, qg, qh, qi, hl133_0, hi133_0⟩ := at_T27 qo.out qa p133 q133
    have hw133_2 := qi
    have hw133_1 := qh
    have hw133_0 := qg
    obtain rfl : qc = qq := (by injection e133)
    replace qg := (HB.out.cell (World.block_lt_of_cell? w _ qg)).trans qg
    replace qh := (HB.out.cell (World.block_lt_of_cell? w _ qh)).trans qh
    replace qi := (HB.out.cell (World.block_lt_of_cell? w _ qi)).trans qi
    have qn := Aside0.mk hi133_0
    have qt := Aside0.mk hl133_0
    clear hi133_0 hl133_0
    replace p133 := eq_true p133
    replace q133 := eq_true q133
    refine start_ (n := 19) (S := fun w' => w'.cell? ⟨qm, 0, none⟩ = some (.int .i64 a0_0) ∧ w'.cell? ⟨qm, 1, none⟩ = some (.slice (some qc) l0_1.length c0_1) ∧ w'.cell? (qc.add ((qa).toNat * 3)) = some (.slice qk ((rd_T27 l0_1 qa).f0).length c131_0) ∧ w'.cell? ⟨(qc.add ((qa).toNat * 3)).block, (qc.add ((qa).toNat * 3)).off + 1, none⟩ = some (.int .i64 ((rd_T27 l0_1 qa).f1)) ∧ w'.cell? ⟨(qc.add ((qa).toNat * 3)).block, (qc.add ((qa).toNat * 3)).off + 2, none⟩ = some (.bool ((rd_T27 l0_1 qa).f2)) ∧ w'.cell? (qc.add ((qa).toNat * 3)) = some (.slice qp ((rd_T27 l0_1 qa).f0).length c133_0) ∧ w'.cell? ⟨(qc.add ((qa).toNat * 3)).block, (qc.add ((qa).toNat * 3)).off + 1, none⟩ = some (.int .i64 ((rd_T27 l0_1 qa).f1)) ∧ w'.cell? ⟨(qc.add ((qa).toNat * 3)).block, (qc.add ((qa).toNat * 3)).off + 2, none⟩ = some (.bool ((rd_T27 l0_1 qa).f2))) (ds := []) #[false, false, false, false, false, false, false, false, false, false, false, false, false, false, false, false, false, false, false] (by kernel_rfl) rfl rfl ⟨bc_ qb 0, bc_ qb 1, ((HB.out.cell (World.block_lt_of_cell? w _ hw131_0)).trans hw131_0), ((HB.out.cell (World.block_lt_of_cell? w _ hw131_1)).trans hw131_1), ((HB.out.cell (World.block_lt_of_cell? w _ hw131_2)).trans hw131_2), ((HB.out.cell (World.block_lt_of_cell? w _ hw133_0)).trans hw133_0), ((HB.out.cell (World.block_lt_of_cell? w _ hw133_1)).trans hw133_1), ((HB.out.cell (World.block_lt_of_cell? w _ hw133_2)).trans hw133_2)⟩ (fun hHeld => ?_); refine with_tabW spec_IsCell.tab4 spec_IsCell.bits4 (fun HT_ HW_ => ?_)
    generalize wr.drew = qX at qb HB qj qn qd qe qf qg qh qi hHeld ⊢
    refine pX_ 0 (some 11) #[true, false, false, false, false, false, false, false, false, false, false, false, false, false, false, false, false, false, false] HT_ ?_
    refine pX_ 2 (some 13) #[true, false, true, false, false, false, false, false, false, false, false, false, false, false, false, false, false, false, false] HT_ ?_
    refine take_ (i := 1) (N := some 12) (v := ?_) (a' := ?_) #[true, true, true, false, false, false, false, false, false, false, false, false, false, false, false, false, false, false, false] rfl rfl (take_ofW HT_.out HW_.out (by kernel_rfl)) (fun _ _ _ h => h) (Or.inl ⟨by rfl, ?_⟩) hHeld ?_ ?_
    rotate_left
    ·
     rintro w' ⟨s0, s1, s2, s3, s4, s5, s6, s7⟩
     go_simp
     with_reducible rfl
    rotate_left
    ·
     simp only [Act.put, List.setIfInBounds_toArray, List.set_cons_zero, List.set_cons_succ, i64_w, i32_w]
     rfl
    refine pX_ 3 (some 14) #[true, true, true, true, false, false, false, false, false, false, false, false, false, false, false, false, false, false, false] HT_ ?_
    refine take_ (i := 4) (N := some 15) (v := ?_) (a' := ?_) #[true, true, true, true, true, false, false, false, false, false, false, false, false, false, false, false, false, false, false] rfl rfl (take_ofW HT_.out HW_.out (by kernel_rfl)) (fun _ _ _ h => h) (Or.inl ⟨by rfl, ?_⟩) hHeld ?_ ?_
    rotate_left
    ·
     rintro w' ⟨s0, s1, s2, s3, s4, s5, s6, s7⟩
     go_simp
     with_reducible rfl
    rotate_left
    ·
     simp only [Act.put, List.setIfInBounds_toArray, List.set_cons_zero, List.set_cons_succ, i64_w, i32_w]
     rfl
    refine one_ (i := 5) (N := some 16) #[true, true, true, true, true, true, false, false, false, false, false, false, false, false, false, false, false, false, false] rfl rfl (one_of HT_.out (by kernel_rfl)) (by decide) (fun K hK => ?_)
    refine goes_ Tryd.func46 (by kernel_rfl) rfl #[.agg #[.slice qk ((rd_T27 l0_1 qa).f0).length c131_0, .int .i64 ((rd_T27 l0_1 qa).f1), .bool ((rd_T27 l0_1 qa).f2)]] (by rfl) rfl rfl (by (try simp only [List.map_toArray, List.map_cons, List.map_nil]); first | done | rfl | (simp only [List.length_drop, List.length_take]; rfl)) ?_
    with_reducible refine (spec_IsAtom.calls k1 _ _ ((rd_T27 l0_1 qa).f0) ((rd_T27 l0_1 qa).f1) ((rd_T27 l0_1 qa).f2) true _ ?side1 ?side2 A5.out).mono ?_
    (case side1 => exact cb_ qj HB)
    (case side2 => exact ql.out)
    rintro e qY ⟨rfl, hb⟩
    refine ⟨_, rfl, ?_⟩
    replace qb := kB_ qb hb; replace HB := bS_ HB hb; (try clear hb); (try clear hb2); (try clear hk); (try clear hi)
    refine hK.out _ _ ⟨bc_ qb 0, bc_ qb 1, ((HB.out.cell (World.block_lt_of_cell? w _ hw131_0)).trans hw131_0), ((HB.out.cell (World.block_lt_of_cell? w _ hw131_1)).trans hw131_1), ((HB.out.cell (World.block_lt_of_cell? w _ hw131_2)).trans hw131_2), ((HB.out.cell (World.block_lt_of_cell? w _ hw133_0)).trans hw133_0), ((HB.out.cell (World.block_lt_of_cell? w _ hw133_1)).trans hw133_1), ((HB.out.cell (World.block_lt_of_cell? w _ hw133_2)).trans hw133_2)⟩ (fun hHeld => ?_)
    clear hK K
    refine norm_ (a' := ?_) ?_ ?_
    rotate_left
    ·
     show Act.put _ (some 16) _ = _
     simp only [Act.put, List.setIfInBounds_toArray, List.set_cons_zero, List.set_cons_succ, i64_w, i32_w]
     rfl
    refine pX_ 6 (some 17) #[true, true, true, true, true, true, true, false, false, false, false, false, false, false, false, false, false, false, false] HT_ ?_
    refine pX_ 7 (some 18) #[true, true, true, true, true, true, true, true, false, false, false, false, false, false, false, false, false, false, false] HT_ ?_
    refine pX_ 8 (some 19) #[true, true, true, true, true, true, true, true, true, false, false, false, false, false, false, false, false, false, false] HT_ ?_
    refine pX_ 10 (some 21) #[true, true, true, true, true, true, true, true, true, false, true, false, false, false, false, false, false, false, false] HT_ ?_
    refine pX_ 15 (some 26) #[true, true, true, true, true, true, true, true, true, false, true, false, false, false, false, true, false, false, false] HT_ ?_
    refine take_ (i := 9) (N := some 20) (v := ?_) (a' := ?_) #[true, true, true, true, true, true, true, true, true, true, true, false, false, false, false, true, false, false, false] rfl rfl (take_ofW HT_.out HW_.out (by kernel_rfl)) (fun _ _ _ h => h) (Or.inl ⟨by rfl, ?_⟩) hHeld ?_ ?_
    rotate_left
    ·
     rintro w' ⟨s0, s1, s2, s3, s4, s5, s6, s7⟩
     go_simp
     with_reducible rfl
    rotate_left
    ·
     simp only [Act.put, List.setIfInBounds_toArray, List.set_cons_zero, List.set_cons_succ, i64_w, i32_w]
     rfl
    refine pX_ 11 (some 22) #[true, true, true, true, true, true, true, true, true, true, true, true, false, false, false, true, false, false, false] HT_ ?_
    refine pX_ 12 (some 23) #[true, true, true, true, true, true, true, true, true, true, true, true, true, false, false, true, false, false, false] HT_ ?_
    refine take_ (i := 13) (N := some 24) (v := ?_) (a' := ?_) #[true, true, true, true, true, true, true, true, true, true, true, true, true, true, false, true, false, false, false] rfl rfl (take_ofW HT_.out HW_.out (by kernel_rfl)) (fun _ _ _ h => h) (Or.inl ⟨by rfl, ?_⟩) hHeld ?_ ?_
    rotate_left
    ·
     rintro w' ⟨s0, s1, s2, s3, s4, s5, s6, s7⟩
     go_simp
     with_reducible rfl
    rotate_left
    ·
     simp only [Act.put, List.setIfInBounds_toArray, List.set_cons_zero, List.set_cons_succ, i64_w, i32_w]
     rfl
    refine pX_ 14 (some 25) #[true, true, true, true, true, true, true, true, true, true, true, true, true, true, true, true, false, false, false] HT_ ?_
    refine take_ (i := 16) (N := some 27) (v := ?_) (a' := ?_) #[true, true, true, true, true, true, true, true, true, true, true, true, true, true, true, true, true, false, false] rfl rfl (take_ofW HT_.out HW_.out (by kernel_rfl)) (fun _ _ _ h => h) (Or.inl ⟨by rfl, ?_⟩) hHeld ?_ ?_
    rotate_left
    ·
     rintro w' ⟨s0, s1, s2, s3, s4, s5, s6, s7⟩
     go_simp
     with_reducible rfl
    rotate_left
    ·
     simp only [Act.put, List.setIfInBounds_toArray, List.set_cons_zero, List.set_cons_succ, i64_w, i32_w]
     rfl
    refine pX_ 17 (some 28) #[true, true, true, true, true, true, true, true, true, true, true, true, true, true, true, true, true, true, false] HT_ ?_
    refine pX_ 18 (some 29) #[true, true, true, true, true, true, true, true, true, true, true, true, true, true, true, true, true, true, true] HT_ ?_
    refine done_ (done_of HT_.out (by kernel_rfl)) ?_
    try go_wp2
    go_ret
    exact ⟨by first | rfl | (simp [errW_none, errW_some] <;> rfl) | (simp [*, errW_none, errW_some] <;> rfl), bb_ HB⟩
   rw [if_pos c7] at H
   have qL : ((((rd_T27 l0_1 qa).f0).length : Int) == a0_0) = true := beq_iff_eq.mpr c7
   have qM : ((((rd_T27 l0_1 qa).f0).length : Int) != a0_0) = false := bne_eq_false_iff_eq.mpr c7
   clear c7
   have H' := Aside0.mk H
   clear H
   obtain ⟨qN, qO, qP, qQ⟩ := b2_ qb
   try go_wp2
   replace qb := Aside0.mk (blk_drew qb.out); replace HB := Aside0.mk (below_drew1 HB.out)
   have p131 : 0 ≤ (qa : Int) := of_decide_eq_true (by first | (with_reducible assumption) | assumption)
   have q131 : qa < (l0_1.length : Int) := of_decide_eq_true (by first | (with_reducible assumption) | assumption)
   obtain ⟨qc, qk, c131_0, e131, qd, qe, qf, hl131_0, hi131_0⟩ := at_T27 qo.out qa p131 q131
   have hw131_2 := qf
   have hw131_1 := qe
   have hw131_0 := qd
   cases e131
   replace qd := (HB.out.cell (World.block_lt_of_cell? w _ qd)).trans qd
   replace qe := (HB.out.cell (World.block_lt_of_cell? w _ qe)).trans qe
   replace qf := (HB.out.cell (World.block_lt_of_cell? w _ qf)).trans qf
   have qj := Aside0.mk hi131_0
   have ql := Aside0.mk hl131_0
   clear hi131_0 hl131_0
   replace p131 := eq_true p131
   replace q131 := eq_true q131
   have p133 : 0 ≤ (qa : Int) := of_decide_eq_true (by first | (with_reducible assumption) | assumption)
   have q133 : qa < (l0_1.length : Int) := of_decide_eq_true (by first | (with_reducible assumption) | assumption)
   obtain ⟨qq, qp, c133_0, e133, qg, qh, qi, hl133_0, hi133_0⟩ := at_T27 qo.out qa p133 q133
   have hw133_2 := qi
   have hw133_1 := qh
   have hw133_0 := qg
   obtain rfl : qc = qq := (by injection e133)
   replace qg := (HB.out.cell (World.block_lt_of_cell? w _ qg)).trans qg
   replace qh := (HB.out.cell (World.block_lt_of_cell? w _ qh)).trans qh
   replace qi := (HB.out.cell (World.block_lt_of_cell? w _ qi)).trans qi
   have qn := Aside0.mk hi133_0
   have qt := Aside0.mk hl133_0
   clear hi133_0 hl133_0
   replace p133 := eq_true p133
   replace q133 := eq_true q133
   refine start_ (n := 19) (S := fun w' => w'.cell? ⟨qm, 0, none⟩ = some (.int .i64 a0_0) ∧ w'.cell? ⟨qm, 1, none⟩ = some (.slice (some qc) l0_1.length c0_1) ∧ w'.cell? (qc.add ((qa).toNat * 3)) = some (.slice qk ((rd_T27 l0_1 qa).f0).length c131_0) ∧ w'.cell? ⟨(qc.add ((qa).toNat * 3)).block, (qc.add ((qa).toNat * 3)).off + 1, none⟩ = some (.int .i64 ((rd_T27 l0_1 qa).f1)) ∧ w'.cell? ⟨(qc.add ((qa).toNat * 3)).block, (qc.add ((qa).toNat * 3)).off + 2, none⟩ = some (.bool ((rd_T27 l0_1 qa).f2)) ∧ w'.cell? (qc.add ((qa).toNat * 3)) = some (.slice qp ((rd_T27 l0_1 qa).f0).length c133_0) ∧ w'.cell? ⟨(qc.add ((qa).toNat * 3)).block, (qc.add ((qa).toNat * 3)).off + 1, none⟩ = some (.int .i64 ((rd_T27 l0_1 qa).f1)) ∧ w'.cell? ⟨(qc.add ((qa).toNat * 3)).block, (qc.add ((qa).toNat * 3)).off + 2, none⟩ = some (.bool ((rd_T27 l0_1 qa).f2))) (ds := []) #[false, false, false, false, false, false, false, false, false, false, false, false, false, false, false, false, false, false, false] (by kernel_rfl) rfl rfl ⟨bc_ qb 0, bc_ qb 1, ((HB.out.cell (World.block_lt_of_cell? w _ hw131_0)).trans hw131_0), ((HB.out.cell (World.block_lt_of_cell? w _ hw131_1)).trans hw131_1), ((HB.out.cell (World.block_lt_of_cell? w _ hw131_2)).trans hw131_2), ((HB.out.cell (World.block_lt_of_cell? w _ hw133_0)).trans hw133_0), ((HB.out.cell (World.block_lt_of_cell? w _ hw133_1)).trans hw133_1), ((HB.out.cell (World.block_lt_of_cell? w _ hw133_2)).trans hw133_2)⟩ (fun hHeld => ?_); refine with_tabW spec_IsCell.tab4 spec_IsCell.bits4 (fun HT_ HW_ => ?_)
   generalize wr.drew = w9 at qb HB qj qn qd qe qf qg qh qi hHeld ⊢
   refine pX_ 0 (some 11) #[true, false, false, false, false, false, false, false, false, false, false, false, false, false, false, false, false, false, false] HT_ ?_
   refine pX_ 2 (some 13) #[true, false, true, false, false, false, false, false, false, false, false, false, false, false, false, false, false, false, false] HT_ ?_
   refine take_ (i := 1) (N := some 12) (v := ?_) (a' := ?_) #[true, true, true, false, false, false, false, false, false, false, false, false, false, false, false, false, false, false, false] rfl rfl (take_ofW HT_.out HW_.out (by kernel_rfl)) (fun _ _ _ h => h) (Or.inl ⟨by rfl, ?_⟩) hHeld ?_ ?_
   rotate_left
   ·
    rintro w' ⟨s0, s1, s2, s3, s4, s5, s6, s7⟩
    go_simp
    with_reducible rfl
   rotate_left
   ·
    simp only [Act.put, List.setIfInBounds_toArray, List.set_cons_zero, List.set_cons_succ, i64_w, i32_w]
    rfl
   refine pX_ 3 (some 14) #[true, true, true, true, false, false, false, false, false, false, false, false, false, false, false, false, false, false, false] HT_ ?_
   refine take_ (i := 4) (N := some 15) (v := ?_) (a' := ?_) #[true, true, true, true, true, false, false, false, false, false, false, false, false, false, false, false, false, false, false] rfl rfl (take_ofW HT_.out HW_.out (by kernel_rfl)) (fun _ _ _ h => h) (Or.inl ⟨by rfl, ?_⟩) hHeld ?_ ?_
   rotate_left
   ·
    rintro w' ⟨s0, s1, s2, s3, s4, s5, s6, s7⟩
    go_simp
    with_reducible rfl
   rotate_left
   ·
    simp only [Act.put, List.setIfInBounds_toArray, List.set_cons_zero, List.set_cons_succ, i64_w, i32_w]
    rfl
   refine one_ (i := 5) (N := some 16) #[true, true, true, true, true, true, false, false, false, false, false, false, false, false, false, false, false, false, false] rfl rfl (one_of HT_.out (by kernel_rfl)) (by decide) (fun K hK => ?_)
   refine goes_ Tryd.func46 (by kernel_rfl) rfl #[.agg #[.slice qk ((rd_T27 l0_1 qa).f0).length c131_0, .int .i64 ((rd_T27 l0_1 qa).f1), .bool ((rd_T27 l0_1 qa).f2)]] (by rfl) rfl rfl (by (try simp only [List.map_toArray, List.map_cons, List.map_nil]); first | done | rfl | (simp only [List.length_drop, List.length_take]; rfl)) ?_
   with_reducible refine (spec_IsAtom.calls k1 _ _ ((rd_T27 l0_1 qa).f0) ((rd_T27 l0_1 qa).f1) ((rd_T27 l0_1 qa).f2) true _ ?side1 ?side2 A5.out).mono ?_
   (case side1 => exact cb_ qj HB)
   (case side2 => exact ql.out)
   rintro e qZ ⟨rfl, hb⟩
   refine ⟨_, rfl, ?_⟩
   replace qb := kB_ qb hb; replace HB := bS_ HB hb; (try clear hb); (try clear hb2); (try clear hk); (try clear hi)
   refine hK.out _ _ ⟨bc_ qb 0, bc_ qb 1, ((HB.out.cell (World.block_lt_of_cell? w _ hw131_0)).trans hw131_0), ((HB.out.cell (World.block_lt_of_cell? w _ hw131_1)).trans hw131_1), ((HB.out.cell (World.block_lt_of_cell? w _ hw131_2)).trans hw131_2), ((HB.out.cell (World.block_lt_of_cell? w _ hw133_0)).trans hw133_0), ((HB.out.cell (World.block_lt_of_cell? w _ hw133_1)).trans hw133_1), ((HB.out.cell (World.block_lt_of_cell? w _ hw133_2)).trans hw133_2)⟩ (fun hHeld => ?_)
   clear hK K
   refine norm_ (a' := ?_) ?_ ?_
   rotate_left
   ·
    show Act.put _ (some 16) _ = _
    simp only [Act.put, List.setIfInBounds_toArray, List.set_cons_zero, List.set_cons_succ, i64_w, i32_w]
    rfl
   refine pX_ 6 (some 17) #[true, true, true, true, true, true, true, false, false, false, false, false, false, false, false, false, false, false, false] HT_ ?_
   refine pX_ 7 (some 18) #[true, true, true, true, true, true, true, true, false, false, false, false, false, false, false, false, false, false, false] HT_ ?_
   refine pX_ 8 (some 19) #[true, true, true, true, true, true, true, true, true, false, false, false, false, false, false, false, false, false, false] HT_ ?_
   refine pX_ 10 (some 21) #[true, true, true, true, true, true, true, true, true, false, true, false, false, false, false, false, false, false, false] HT_ ?_
   refine pX_ 15 (some 26) #[true, true, true, true, true, true, true, true, true, false, true, false, false, false, false, true, false, false, false] HT_ ?_
   refine take_ (i := 9) (N := some 20) (v := ?_) (a' := ?_) #[true, true, true, true, true, true, true, true, true, true, true, false, false, false, false, true, false, false, false] rfl rfl (take_ofW HT_.out HW_.out (by kernel_rfl)) (fun _ _ _ h => h) (Or.inl ⟨by rfl, ?_⟩) hHeld ?_ ?_
   rotate_left
   ·
    rintro w' ⟨s0, s1, s2, s3, s4, s5, s6, s7⟩
    go_simp
    with_reducible rfl
   rotate_left
   ·
    simp only [Act.put, List.setIfInBounds_toArray, List.set_cons_zero, List.set_cons_succ, i64_w, i32_w]
    rfl
   refine pX_ 11 (some 22) #[true, true, true, true, true, true, true, true, true, true, true, true, false, false, false, true, false, false, false] HT_ ?_
   refine pX_ 12 (some 23) #[true, true, true, true, true, true, true, true, true, true, true, true, true, false, false, true, false, false, false] HT_ ?_
   refine take_ (i := 13) (N := some 24) (v := ?_) (a' := ?_) #[true, true, true, true, true, true, true, true, true, true, true, true, true, true, false, true, false, false, false] rfl rfl (take_ofW HT_.out HW_.out (by kernel_rfl)) (fun _ _ _ h => h) (Or.inl ⟨by rfl, ?_⟩) hHeld ?_ ?_
   rotate_left
   ·
    rintro w' ⟨s0, s1, s2, s3, s4, s5, s6, s7⟩
    go_simp
    with_reducible rfl
   rotate_left
   ·
    simp only [Act.put, List.setIfInBounds_toArray, List.set_cons_zero, List.set_cons_succ, i64_w, i32_w]
    rfl
   refine pX_ 14 (some 25) #[true, true, true, true, true, true, true, true, true, true, true, true, true, true, true, true, false, false, false] HT_ ?_
   refine take_ (i := 16) (N := some 27) (v := ?_) (a' := ?_) #[true, true, true, true, true, true, true, true, true, true, true, true, true, true, true, true, true, false, false] rfl rfl (take_ofW HT_.out HW_.out (by kernel_rfl)) (fun _ _ _ h => h) (Or.inl ⟨by rfl, ?_⟩) hHeld ?_ ?_
   rotate_left
   ·
    rintro w' ⟨s0, s1, s2, s3, s4, s5, s6, s7⟩
    go_simp
    with_reducible rfl
   rotate_left
   ·
    simp only [Act.put, List.setIfInBounds_toArray, List.set_cons_zero, List.set_cons_succ, i64_w, i32_w]
    rfl
   refine pX_ 17 (some 28) #[true, true, true, true, true, true, true, true, true, true, true, true, true, true, true, true, true, true, false] HT_ ?_
   refine pX_ 18 (some 29) #[true, true, true, true, true, true, true, true, true, true, true, true, true, true, true, true, true, true, true] HT_ ?_
   refine done_ (done_of HT_.out (by kernel_rfl)) ?_
   try go_wp2
   go_roundg k1
   case measure => have := HK1.out; omega
   case rel => exact ⟨(wrap64 (qa + 1)), (by first | rfl | (simp; done) | (simp [*]; done)), H', ⟨by have := HK1.out; omega⟩, ⟨kf_ qb⟩, ⟨bb_ HB⟩⟩

/-! ### spec_IsRegion: function 74 -/
def spec_IsRegion.l0 : Nat → Int → Int → List (S41) → Option (Bool)
 | 0, _, _, _ => none
 | k + 1, x3, x136000, x136001 => if x3 < (x136001.length : Int) then (if 0 ≤ x3 then ((spec_IsCell.f k ((rd_T41 x136001 x3).f0) ((rd_T41 x136001 x3).f1)).bind fun qp => (if qp = true then (if ((rd_T41 x136001 x3).f0) = x136000 then (spec_IsRegion.l0 k (wrap64 (x3 + 1)) x136000 x136001) else (some false)) else (some false))) else (none)) else ((spec_l1In.f x136000 0 4).bind fun qq => (if qq = true then (some (decide ((x136001.length : Int) ≤ 12))) else (some false)))
def spec_IsRegion.f (k : Nat) (a0_0 : Int) (l0_1 : List (S41)) : Option (Bool) := spec_IsRegion.l0 k 0 a0_0 l0_1
theorem spec_IsRegion.mono_l : ∀ k, (∀ y0 y1 y2, LeO (spec_IsRegion.l0 k y0 y1 y2) (spec_IsRegion.l0 (k + 1) y0 y1 y2))
 | 0 => fun _ _ _ r h => by simp [spec_IsRegion.l0] at h
 | k + 1 => by
  have ih0 := spec_IsRegion.mono_l k
  ·
   intro y0 y1 y2
   unfold spec_IsRegion.l0
   repeat' first
   | (with_reducible exact ih0 _ _ _)
   | (with_reducible exact spec_IsCell.mono _ _ _)
   | (with_reducible exact LeO.refl _)
   | (with_reducible exact LeO.none _)
   | (with_reducible refine LeO.ite ?_ ?_)
   | (with_reducible refine LeO.bind ?_ (fun _ => ?_))
   | exact ih0 _ _ _
   | exact spec_IsCell.mono _ _ _
   | exact LeO.none _
   | refine LeO.ite ?_ ?_
   | refine LeO.bind ?_ (fun _ => ?_)
theorem spec_IsRegion.mono : ∀ a0 a1 k, LeO (spec_IsRegion.f k a0 a1) (spec_IsRegion.f (k + 1) a0 a1) := by
 intro a0 a1 k
 have ih0 := spec_IsRegion.mono_l k
 unfold spec_IsRegion.f
 repeat' first
   | (with_reducible exact ih0 _ _ _)
   | (with_reducible exact spec_IsCell.mono _ _ _)
   | (with_reducible exact LeO.refl _)
   | (with_reducible exact LeO.none _)
   | (with_reducible refine LeO.ite ?_ ?_)
   | (with_reducible refine LeO.bind ?_ (fun _ => ?_))
   | exact ih0 _ _ _
   | exact spec_IsCell.mono _ _ _
   | exact LeO.none _
   | refine LeO.ite ?_ ?_
   | refine LeO.bind ?_ (fun _ => ?_)
def spec_IsRegion.T4 : Bool × List (List Nat × List Nat) := (true, [([], []), ([0], [0]), ([], []), ([1, 2], [1, 2]), ([3], [3]), ([4], [4]), ([5], [5]), ([6, 5], [6]), ([7], [7]), ([8, 7], [7, 8]), ([7], [7]), ([9, 10, 7], [7, 9, 10]), ([11, 7], [7, 11]), ([12, 7], [7, 12]), ([7], [7]), ([14, 7], [7, 14]), ([13, 15, 7], [7, 13, 15]), ([7, 16], [7, 16])])
def spec_IsRegion.B4 : List Nat := [0, 1, 0, 7, 15, 31, 63, 127, 255, 511, 255, 2047, 4095, 8191, 255, 16639, 65535, 131071]
theorem spec_IsRegion.tab4 : rtab .any (opsOf Tryd.f74 4) = spec_IsRegion.T4 := by kernel_rfl
theorem spec_IsRegion.bits4 : waitsOk spec_IsRegion.T4.2 spec_IsRegion.B4 = true := by kernel_rfl
set_option maxHeartbeats 8000000 in
set_option maxRecDepth 100000 in
theorem spec_IsRegion.calls (k : Nat) (a0_0 : Int) (A0_1 : Option Addr) (c0_1 : Nat) (l0_1 : List (S41)) (r : Bool) (w : World) (hr0_1 : Kd.C k41 w A0_1 l0_1.length l0_1) (hc0_1 : l0_1.length ≤ c0_1) (h : spec_IsRegion.f k a0_0 l0_1 = some r) :
  Calls Tryd.prog 74 #[.agg #[.int .i64 a0_0, .slice A0_1 l0_1.length c0_1]] w fun e w' => e = .returned (.bool r) ∧ Below w.heap.size w w' := by
 have hu57 := Tryd.underlying57
 have hu41 := Tryd.underlying41
 have qm := Aside0.mk hr0_1
 have qP := Aside0.mk hc0_1
 clear hr0_1 hc0_1
 have HB := Aside0.mk (Below.refl w.heap.size w)
 have H : (spec_IsRegion.l0 k 0 a0_0 l0_1) = some r := h
 clear h
 have H' := Aside0.mk H
 clear H
 go_enter Tryd.func74, Tryd.ntmps74
 go_wp2_with (first | ((with_reducible refine gate_dst (N := 1) rfl ?_); (try (refine gate_guard (by rfl) ?_; dsimp only)); refine bx_ (cs := #[.int .i64 a0_0, .slice A0_1 l0_1.length c0_1]) (t := 57) ?_; intro qk hg w2 hbox hb; have qb := Aside0.mk (hbox); have qQ := hz_ HB hg; have qR := hz_ HB hg; replace HB := bS_ HB hb; clear hb hbox hg))
 go_loopg [3] k (fun kq v3 w' => ∃ (qa : Int), v3 = .int .i64 qa ∧ Aside0 (spec_IsRegion.l0 kq qa a0_0 l0_1 = some r) ∧ Aside0 (kq ≤ k) ∧ Aside0 (w'.heap[qk]? = some (.cells #[.int .i64 a0_0, (.slice A0_1 l0_1.length c0_1)] 57 (0, 0))) ∧ Aside0 (Below w.heap.size w w'))
 case atStart => exact ⟨(0), (by first | rfl | (simp; done) | (simp [*]; done)), H', ⟨Nat.le_refl _⟩, ⟨kf_ qb⟩, ⟨bb_ HB⟩⟩
 case round =>
  clear H'
  try clear p2
  obtain ⟨qa, rfl, HA, HK1, qb, HB⟩ := hrel
  cases gk with
  | zero => exact absurd HA.out (by simp [spec_IsRegion.l0])
  | succ k1 =>
   have H := HA.out
   clear HA
   simp only [spec_IsRegion.l0] at H
   by_cases c3 : qa < (l0_1.length : Int)
   rotate_left
   ·
    rw [if_neg c3] at H
    have qI : decide (qa < (l0_1.length : Int)) = false := decide_eq_false c3
    clear c3
    replace H := Option.bind_eq_some_iff.mp H
    obtain ⟨qq, A170, H⟩ := H
    replace H : (if qq = true then (some (decide ((l0_1.length : Int) ≤ 12))) else (some false)) = some r := H
    have A17 := Aside0.mk A170
    clear A170
    by_cases c18 : qq = true
    ·
     subst c18
     have H1 : (some (decide ((l0_1.length : Int) ≤ 12))) = some r := by rw [if_pos rfl] at H; exact H
     clear H
     have H := H1
     clear H1
     obtain rfl := Option.some.inj H
     obtain ⟨qs, qt, qu, qv⟩ := b2_ qb
     go_wp2_with (first | ((with_reducible refine gate_callee (f := 80) rfl ?_); refine gL_ (some 31) Tryd.func80 #[.int .i64 a0_0, .int .i64 0, .int .i64 4] ?_; (with_reducible refine (spec_l1In.calls a0_0 0 4 true _ A17.out).mono ?_); rintro e w' ⟨rfl, ⟨nd, rfl⟩⟩; refine ⟨_, rfl, ?_⟩))
     go_ret
     exact ⟨by first | rfl | (simp [errW_none, errW_some] <;> rfl) | (simp [*, errW_none, errW_some] <;> rfl), bb_ HB⟩
    replace c18 := Bool.eq_false_iff.mpr c18
    subst c18
    have H1 : (some false) = some r := by rw [if_neg (show ¬ (false = true) by decide)] at H; exact H
    clear H
    have H := H1
    clear H1
    obtain rfl := Option.some.inj H
    obtain ⟨qw, qx, qy, qz⟩ := b2_ qb
    go_wp2_with (first | ((with_reducible refine gate_callee (f := 80) rfl ?_); refine gL_ (some 31) Tryd.func80 #[.int .i64 a0_0, .int .i64 0, .int .i64 4] ?_; (with_reducible refine (spec_l1In.calls a0_0 0 4 false _ A17.out).mono ?_); rintro e w' ⟨rfl, ⟨nd, rfl⟩⟩; refine ⟨_, rfl, ?_⟩))
    go_ret
    exact ⟨by first | rfl | (simp [errW_none, errW_some] <;> rfl) | (simp [*, errW_none, errW_some] <;> rfl), bb_ HB⟩
   rw [if_pos c3] at H
   have qI : decide (qa < (l0_1.length : Int)) = true := decide_eq_true c3
   clear c3
   by_cases c4 : 0 ≤ qa
   rotate_left
   ·
    rw [if_neg c4] at H
    exact absurd H (by simp)
   rw [if_pos c4] at H
   have qS : decide (0 ≤ qa) = true := decide_eq_true c4
   clear c4
   replace H := Option.bind_eq_some_iff.mp H
   obtain ⟨qp, A50, H⟩ := H
   replace H : (if qp = true then (if ((rd_T41 l0_1 qa).f0) = a0_0 then (spec_IsRegion.l0 k1 (wrap64 (qa + 1)) a0_0 l0_1) else (some false)) else (some false)) = some r := H
   have A5 := Aside0.mk A50
   clear A50
   by_cases c6 : qp = true
   rotate_left
   ·
    replace c6 := Bool.eq_false_iff.mpr c6
    subst c6
    have H1 : (some false) = some r := by rw [if_neg (show ¬ (false = true) by decide)] at H; exact H
    clear H
    have H := H1
    clear H1
    obtain rfl := Option.some.inj H
    obtain ⟨qA, qB, qC, qD⟩ := b2_ qb
    try go_wp2
    replace qb := Aside0.mk (blk_drew qb.out); replace HB := Aside0.mk (below_drew1 HB.out)
    have p136 : 0 ≤ (qa : Int) := of_decide_eq_true (by first | (with_reducible assumption) | assumption)
    have q136 : qa < (l0_1.length : Int) := of_decide_eq_true (by first | (with_reducible assumption) | assumption)
    obtain ⟨qe, qi, c136_1, e136, qc, qd, hl136_1, hi136_1⟩ := at_T41 qm.out qa p136 q136
    have hw136_1 := qd
    have hw136_0 := qc
    cases e136
    replace qc := (HB.out.cell (World.block_lt_of_cell? w _ qc)).trans qc
    replace qd := (HB.out.cell (World.block_lt_of_cell? w _ qd)).trans qd
    have qh := Aside0.mk hi136_1
    have qj := Aside0.mk hl136_1
    clear hi136_1 hl136_1
    replace p136 := eq_true p136
    replace q136 := eq_true q136
    refine start_ (n := 18) (S := fun w' => w'.cell? ⟨qk, 0, none⟩ = some (.int .i64 a0_0) ∧ w'.cell? ⟨qk, 1, none⟩ = some (.slice (some qe) l0_1.length c0_1) ∧ w'.cell? (qe.add ((qa).toNat * 2)) = some (.int .i64 ((rd_T41 l0_1 qa).f0)) ∧ w'.cell? ⟨(qe.add ((qa).toNat * 2)).block, (qe.add ((qa).toNat * 2)).off + 1, none⟩ = some (.slice qi ((rd_T41 l0_1 qa).f1).length c136_1)) (ds := []) #[false, false, false, false, false, false, false, false, false, false, false, false, false, false, false, false, false, false] (by kernel_rfl) rfl rfl ⟨bc_ qb 0, bc_ qb 1, ((HB.out.cell (World.block_lt_of_cell? w _ hw136_0)).trans hw136_0), ((HB.out.cell (World.block_lt_of_cell? w _ hw136_1)).trans hw136_1)⟩ (fun hHeld => ?_); refine with_tabW spec_IsRegion.tab4 spec_IsRegion.bits4 (fun HT_ HW_ => ?_)
    generalize wr.drew = qT at qb HB qh qc qd hHeld ⊢
    refine pX_ 0 (some 11) #[true, false, false, false, false, false, false, false, false, false, false, false, false, false, false, false, false, false] HT_ ?_
    refine pX_ 2 (some 13) #[true, false, true, false, false, false, false, false, false, false, false, false, false, false, false, false, false, false] HT_ ?_
    refine take_ (i := 1) (N := some 12) (v := ?_) (a' := ?_) #[true, true, true, false, false, false, false, false, false, false, false, false, false, false, false, false, false, false] rfl rfl (take_ofW HT_.out HW_.out (by kernel_rfl)) (fun _ _ _ h => h) (Or.inl ⟨by rfl, ?_⟩) hHeld ?_ ?_
    rotate_left
    ·
     rintro w' ⟨s0, s1, s2, s3⟩
     go_simp
     with_reducible rfl
    rotate_left
    ·
     simp only [Act.put, List.setIfInBounds_toArray, List.set_cons_zero, List.set_cons_succ, i64_w, i32_w]
     rfl
    refine pX_ 3 (some 14) #[true, true, true, true, false, false, false, false, false, false, false, false, false, false, false, false, false, false] HT_ ?_
    refine take_ (i := 4) (N := some 15) (v := ?_) (a' := ?_) #[true, true, true, true, true, false, false, false, false, false, false, false, false, false, false, false, false, false] rfl rfl (take_ofW HT_.out HW_.out (by kernel_rfl)) (fun _ _ _ h => h) (Or.inl ⟨by rfl, ?_⟩) hHeld ?_ ?_
    rotate_left
    ·
     rintro w' ⟨s0, s1, s2, s3⟩
     go_simp
     with_reducible rfl
    rotate_left
    ·
     simp only [Act.put, List.setIfInBounds_toArray, List.set_cons_zero, List.set_cons_succ, i64_w, i32_w]
     rfl
    refine one_ (i := 5) (N := some 16) #[true, true, true, true, true, true, false, false, false, false, false, false, false, false, false, false, false, false] rfl rfl (one_of HT_.out (by kernel_rfl)) (by decide) (fun K hK => ?_)
    refine goes_ Tryd.func63 (by kernel_rfl) rfl #[.agg #[.int .i64 ((rd_T41 l0_1 qa).f0), .slice qi ((rd_T41 l0_1 qa).f1).length c136_1]] (by rfl) rfl rfl (by (try simp only [List.map_toArray, List.map_cons, List.map_nil]); first | done | rfl | (simp only [List.length_drop, List.length_take]; rfl)) ?_
    with_reducible refine (spec_IsCell.calls k1 ((rd_T41 l0_1 qa).f0) _ _ ((rd_T41 l0_1 qa).f1) false _ ?side1 ?side2 A5.out).mono ?_
    (case side1 => exact cb_ qh HB)
    (case side2 => exact qj.out)
    rintro e qU ⟨rfl, hb⟩
    refine ⟨_, rfl, ?_⟩
    replace qb := kB_ qb hb; replace HB := bS_ HB hb; (try clear hb); (try clear hb2); (try clear hk); (try clear hi)
    refine hK.out _ _ ⟨bc_ qb 0, bc_ qb 1, ((HB.out.cell (World.block_lt_of_cell? w _ hw136_0)).trans hw136_0), ((HB.out.cell (World.block_lt_of_cell? w _ hw136_1)).trans hw136_1)⟩ (fun hHeld => ?_)
    clear hK K
    refine norm_ (a' := ?_) ?_ ?_
    rotate_left
    ·
     show Act.put _ (some 16) _ = _
     simp only [Act.put, List.setIfInBounds_toArray, List.set_cons_zero, List.set_cons_succ, i64_w, i32_w]
     rfl
    refine pX_ 6 (some 17) #[true, true, true, true, true, true, true, false, false, false, false, false, false, false, false, false, false, false] HT_ ?_
    refine pX_ 7 (some 18) #[true, true, true, true, true, true, true, true, false, false, false, false, false, false, false, false, false, false] HT_ ?_
    refine pure_ (i := 8) (N := some 19) (v := undef) (a' := ?_) #[true, true, true, true, true, true, true, true, true, false, false, false, false, false, false, false, false, false] rfl rfl (any_of HT_.out (by kernel_rfl)) (fun _ _ _ h => h) (Or.inr ⟨by rfl, rfl⟩) ?_ ?_
    rotate_left
    ·
     simp only [Act.put, List.setIfInBounds_toArray, List.set_cons_zero, List.set_cons_succ, i64_w, i32_w]
     rfl
    refine pure_ (i := 9) (N := some 20) (v := undef) (a' := ?_) #[true, true, true, true, true, true, true, true, true, true, false, false, false, false, false, false, false, false] rfl rfl (any_of HT_.out (by kernel_rfl)) (fun _ _ _ h => h) (Or.inr ⟨by rfl, rfl⟩) ?_ ?_
    rotate_left
    ·
     simp only [Act.put, List.setIfInBounds_toArray, List.set_cons_zero, List.set_cons_succ, i64_w, i32_w]
     rfl
    refine pure_ (i := 10) (N := some 21) (v := undef) (a' := ?_) #[true, true, true, true, true, true, true, true, true, true, true, false, false, false, false, false, false, false] rfl rfl (any_of HT_.out (by kernel_rfl)) (fun _ _ _ h => h) (Or.inr ⟨by rfl, rfl⟩) ?_ ?_
    rotate_left
    ·
     simp only [Act.put, List.setIfInBounds_toArray, List.set_cons_zero, List.set_cons_succ, i64_w, i32_w]
     rfl
    refine pure_ (i := 11) (N := some 22) (v := undef) (a' := ?_) #[true, true, true, true, true, true, true, true, true, true, true, true, false, false, false, false, false, false] rfl rfl (any_of HT_.out (by kernel_rfl)) (fun _ _ _ h => h) (Or.inr ⟨by rfl, rfl⟩) ?_ ?_
    rotate_left
    ·
     simp only [Act.put, List.setIfInBounds_toArray, List.set_cons_zero, List.set_cons_succ, i64_w, i32_w]
     rfl
    refine pure_ (i := 12) (N := some 23) (v := undef) (a' := ?_) #[true, true, true, true, true, true, true, true, true, true, true, true, true, false, false, false, false, false] rfl rfl (any_of HT_.out (by kernel_rfl)) (fun _ _ _ h => h) (Or.inr ⟨by rfl, rfl⟩) ?_ ?_
    rotate_left
    ·
     simp only [Act.put, List.setIfInBounds_toArray, List.set_cons_zero, List.set_cons_succ, i64_w, i32_w]
     rfl
    refine pure_ (i := 13) (N := some 24) (v := undef) (a' := ?_) #[true, true, true, true, true, true, true, true, true, true, true, true, true, true, false, false, false, false] rfl rfl (any_of HT_.out (by kernel_rfl)) (fun _ _ _ h => h) (Or.inr ⟨by rfl, rfl⟩) ?_ ?_
    rotate_left
    ·
     simp only [Act.put, List.setIfInBounds_toArray, List.set_cons_zero, List.set_cons_succ, i64_w, i32_w]
     rfl
    refine pure_ (i := 14) (N := some 25) (v := undef) (a' := ?_) #[true, true, true, true, true, true, true, true, true, true, true, true, true, true, true, false, false, false] rfl rfl (any_of HT_.out (by kernel_rfl)) (fun _ _ _ h => h) (Or.inr ⟨by rfl, rfl⟩) ?_ ?_
    rotate_left
    ·
     simp only [Act.put, List.setIfInBounds_toArray, List.set_cons_zero, List.set_cons_succ, i64_w, i32_w]
     rfl
    refine pure_ (i := 15) (N := some 26) (v := undef) (a' := ?_) #[true, true, true, true, true, true, true, true, true, true, true, true, true, true, true, true, false, false] rfl rfl (any_of HT_.out (by kernel_rfl)) (fun _ _ _ h => h) (Or.inr ⟨by rfl, rfl⟩) ?_ ?_
    rotate_left
    ·
     simp only [Act.put, List.setIfInBounds_toArray, List.set_cons_zero, List.set_cons_succ, i64_w, i32_w]
     rfl
    refine pure_ (i := 16) (N := some 27) (v := undef) (a' := ?_) #[true, true, true, true, true, true, true, true, true, true, true, true, true, true, true, true, true, false] rfl rfl (any_of HT_.out (by kernel_rfl)) (fun _ _ _ h => h) (Or.inr ⟨by rfl, rfl⟩) ?_ ?_
    rotate_left
    ·
     simp only [Act.put, List.setIfInBounds_toArray, List.set_cons_zero, List.set_cons_succ, i64_w, i32_w]
     rfl
    refine pX_ 17 (some 28) #[true, true, true, true, true, true, true, true, true, true, true, true, true, true, true, true, true, true] HT_ ?_
    refine done_ (done_of HT_.out (by kernel_rfl)) ?_
    try go_wp2
    go_ret
    exact ⟨by first | rfl | (simp [errW_none, errW_some] <;> rfl) | (simp [*, errW_none, errW_some] <;> rfl), bb_ HB⟩
   subst c6
   have H1 : (if ((rd_T41 l0_1 qa).f0) = a0_0 then (spec_IsRegion.l0 k1 (wrap64 (qa + 1)) a0_0 l0_1) else (some false)) = some r := by rw [if_pos rfl] at H; exact H
   clear H
   have H := H1
   clear H1
   by_cases c7 : ((rd_T41 l0_1 qa).f0) = a0_0
   rotate_left
   ·
    rw [if_neg c7] at H
    have qJ : (((rd_T41 l0_1 qa).f0) == a0_0) = false := beq_eq_false_iff_ne.mpr c7
    have qK : (((rd_T41 l0_1 qa).f0) != a0_0) = true := bne_iff_ne.mpr c7
    obtain rfl := Option.some.inj H
    obtain ⟨qE, qF, qG, qH⟩ := b2_ qb
    try go_wp2
    replace qb := Aside0.mk (blk_drew qb.out); replace HB := Aside0.mk (below_drew1 HB.out)
    have p136 : 0 ≤ (qa : Int) := of_decide_eq_true (by first | (with_reducible assumption) | assumption)
    have q136 : qa < (l0_1.length : Int) := of_decide_eq_true (by first | (with_reducible assumption) | assumption)
    obtain ⟨qe, qi, c136_1, e136, qc, qd, hl136_1, hi136_1⟩ := at_T41 qm.out qa p136 q136
    have hw136_1 := qd
    have hw136_0 := qc
    cases e136
    replace qc := (HB.out.cell (World.block_lt_of_cell? w _ qc)).trans qc
    replace qd := (HB.out.cell (World.block_lt_of_cell? w _ qd)).trans qd
    have qh := Aside0.mk hi136_1
    have qj := Aside0.mk hl136_1
    clear hi136_1 hl136_1
    replace p136 := eq_true p136
    replace q136 := eq_true q136
    have p138 : 0 ≤ (qa : Int) := of_decide_eq_true (by first | (with_reducible assumption) | assumption)
    have q138 : qa < (l0_1.length : Int) := of_decide_eq_true (by first | (with_reducible assumption) | assumption)
    obtain ⟨qo, qn, c138_1, e138, qf, qg, hl138_1, hi138_1⟩ := at_T41 qm.out qa p138 q138
    have hw138_1 := qg
    have hw138_0 := qf
    obtain rfl : qe = qo := (by injection e138)
    replace qf := (HB.out.cell (World.block_lt_of_cell? w _ qf)).trans qf
    replace qg := (HB.out.cell (World.block_lt_of_cell? w _ qg)).trans qg
    have ql := Aside0.mk hi138_1
    have qr := Aside0.mk hl138_1
    clear hi138_1 hl138_1
    replace p138 := eq_true p138
    replace q138 := eq_true q138
    refine start_ (n := 18) (S := fun w' => w'.cell? ⟨qk, 0, none⟩ = some (.int .i64 a0_0) ∧ w'.cell? ⟨qk, 1, none⟩ = some (.slice (some qe) l0_1.length c0_1) ∧ w'.cell? (qe.add ((qa).toNat * 2)) = some (.int .i64 ((rd_T41 l0_1 qa).f0)) ∧ w'.cell? ⟨(qe.add ((qa).toNat * 2)).block, (qe.add ((qa).toNat * 2)).off + 1, none⟩ = some (.slice qi ((rd_T41 l0_1 qa).f1).length c136_1) ∧ w'.cell? (qe.add ((qa).toNat * 2)) = some (.int .i64 ((rd_T41 l0_1 qa).f0)) ∧ w'.cell? ⟨(qe.add ((qa).toNat * 2)).block, (qe.add ((qa).toNat * 2)).off + 1, none⟩ = some (.slice qn ((rd_T41 l0_1 qa).f1).length c138_1)) (ds := []) #[false, false, false, false, false, false, false, false, false, false, false, false, false, false, false, false, false, false] (by kernel_rfl) rfl rfl ⟨bc_ qb 0, bc_ qb 1, ((HB.out.cell (World.block_lt_of_cell? w _ hw136_0)).trans hw136_0), ((HB.out.cell (World.block_lt_of_cell? w _ hw136_1)).trans hw136_1), ((HB.out.cell (World.block_lt_of_cell? w _ hw138_0)).trans hw138_0), ((HB.out.cell (World.block_lt_of_cell? w _ hw138_1)).trans hw138_1)⟩ (fun hHeld => ?_); refine with_tabW spec_IsRegion.tab4 spec_IsRegion.bits4 (fun HT_ HW_ => ?_)
    generalize wr.drew = qV at qb HB qh ql qc qd qf qg hHeld ⊢
    refine pX_ 0 (some 11) #[true, false, false, false, false, false, false, false, false, false, false, false, false, false, false, false, false, false] HT_ ?_
    refine pX_ 2 (some 13) #[true, false, true, false, false, false, false, false, false, false, false, false, false, false, false, false, false, false] HT_ ?_
    refine take_ (i := 1) (N := some 12) (v := ?_) (a' := ?_) #[true, true, true, false, false, false, false, false, false, false, false, false, false, false, false, false, false, false] rfl rfl (take_ofW HT_.out HW_.out (by kernel_rfl)) (fun _ _ _ h => h) (Or.inl ⟨by rfl, ?_⟩) hHeld ?_ ?_
    rotate_left
    ·
     rintro w' ⟨s0, s1, s2, s3, s4, s5⟩
     go_simp
     with_reducible rfl
    rotate_left
    ·
     simp only [Act.put, List.setIfInBounds_toArray, List.set_cons_zero, List.set_cons_succ, i64_w, i32_w]
     rfl
    refine pX_ 3 (some 14) #[true, true, true, true, false, false, false, false, false, false, false, false, false, false, false, false, false, false] HT_ ?_
    refine take_ (i := 4) (N := some 15) (v := ?_) (a' := ?_) #[true, true, true, true, true, false, false, false, false, false, false, false, false, false, false, false, false, false] rfl rfl (take_ofW HT_.out HW_.out (by kernel_rfl)) (fun _ _ _ h => h) (Or.inl ⟨by rfl, ?_⟩) hHeld ?_ ?_
    rotate_left
    ·
     rintro w' ⟨s0, s1, s2, s3, s4, s5⟩
     go_simp
     with_reducible rfl
    rotate_left
    ·
     simp only [Act.put, List.setIfInBounds_toArray, List.set_cons_zero, List.set_cons_succ, i64_w, i32_w]
     rfl
    refine one_ (i := 5) (N := some 16) #[true, true, true, true, true, true, false, false, false, false, false, false, false, false, false, false, false, false] rfl rfl (one_of HT_.out (by kernel_rfl)) (by decide) (fun K hK => ?_)
    refine goes_ Tryd.func63 (by kernel_rfl) rfl #[.agg #[.int .i64 ((rd_T41 l0_1 qa).f0), .slice qi ((rd_T41 l0_1 qa).f1).length c136_1]] (by rfl) rfl rfl (by (try simp only [List.map_toArray, List.map_cons, List.map_nil]); first | done | rfl | (simp only [List.length_drop, List.length_take]; rfl)) ?_
    with_reducible refine (spec_IsCell.calls k1 ((rd_T41 l0_1 qa).f0) _ _ ((rd_T41 l0_1 qa).f1) true _ ?side1 ?side2 A5.out).mono ?_
    (case side1 => exact cb_ qh HB)
    (case side2 => exact qj.out)
    rintro e qW ⟨rfl, hb⟩
    refine ⟨_, rfl, ?_⟩
    replace qb := kB_ qb hb; replace HB := bS_ HB hb; (try clear hb); (try clear hb2); (try clear hk); (try clear hi)
    refine hK.out _ _ ⟨bc_ qb 0, bc_ qb 1, ((HB.out.cell (World.block_lt_of_cell? w _ hw136_0)).trans hw136_0), ((HB.out.cell (World.block_lt_of_cell? w _ hw136_1)).trans hw136_1), ((HB.out.cell (World.block_lt_of_cell? w _ hw138_0)).trans hw138_0), ((HB.out.cell (World.block_lt_of_cell? w _ hw138_1)).trans hw138_1)⟩ (fun hHeld => ?_)
    clear hK K
    refine norm_ (a' := ?_) ?_ ?_
    rotate_left
    ·
     show Act.put _ (some 16) _ = _
     simp only [Act.put, List.setIfInBounds_toArray, List.set_cons_zero, List.set_cons_succ, i64_w, i32_w]
     rfl
    refine pX_ 6 (some 17) #[true, true, true, true, true, true, true, false, false, false, false, false, false, false, false, false, false, false] HT_ ?_
    refine pX_ 7 (some 18) #[true, true, true, true, true, true, true, true, false, false, false, false, false, false, false, false, false, false] HT_ ?_
    refine pX_ 8 (some 19) #[true, true, true, true, true, true, true, true, true, false, false, false, false, false, false, false, false, false] HT_ ?_
    refine pX_ 10 (some 21) #[true, true, true, true, true, true, true, true, true, false, true, false, false, false, false, false, false, false] HT_ ?_
    refine pX_ 14 (some 25) #[true, true, true, true, true, true, true, true, true, false, true, false, false, false, true, false, false, false] HT_ ?_
    refine take_ (i := 9) (N := some 20) (v := ?_) (a' := ?_) #[true, true, true, true, true, true, true, true, true, true, true, false, false, false, true, false, false, false] rfl rfl (take_ofW HT_.out HW_.out (by kernel_rfl)) (fun _ _ _ h => h) (Or.inl ⟨by rfl, ?_⟩) hHeld ?_ ?_
    rotate_left
    ·
     rintro w' ⟨s0, s1, s2, s3, s4, s5⟩
     go_simp
     with_reducible rfl
    rotate_left
    ·
     simp only [Act.put, List.setIfInBounds_toArray, List.set_cons_zero, List.set_cons_succ, i64_w, i32_w]
     rfl
    refine pX_ 11 (some 22) #[true, true, true, true, true, true, true, true, true, true, true, true, false, false, true, false, false, false] HT_ ?_
    refine pX_ 12 (some 23) #[true, true, true, true, true, true, true, true, true, true, true, true, true, false, true, false, false, false] HT_ ?_
    refine take_ (i := 13) (N := some 24) (v := ?_) (a' := ?_) #[true, true, true, true, true, true, true, true, true, true, true, true, true, true, true, false, false, false] rfl rfl (take_ofW HT_.out HW_.out (by kernel_rfl)) (fun _ _ _ h => h) (Or.inl ⟨by rfl, ?_⟩) hHeld ?_ ?_
    rotate_left
    ·
     rintro w' ⟨s0, s1, s2, s3, s4, s5⟩
     go_simp
     with_reducible rfl
    rotate_left
    ·
     simp only [Act.put, List.setIfInBounds_toArray, List.set_cons_zero, List.set_cons_succ, i64_w, i32_w]
     rfl
    refine take_ (i := 15) (N := some 26) (v := ?_) (a' := ?_) #[true, true, true, true, true, true, true, true, true, true, true, true, true, true, true, true, false, false] rfl rfl (take_ofW HT_.out HW_.out (by kernel_rfl)) (fun _ _ _ h => h) (Or.inl ⟨by rfl, ?_⟩) hHeld ?_ ?_
    rotate_left
    ·
     rintro w' ⟨s0, s1, s2, s3, s4, s5⟩
     go_simp
     with_reducible rfl
    rotate_left
    ·
     simp only [Act.put, List.setIfInBounds_toArray, List.set_cons_zero, List.set_cons_succ, i64_w, i32_w]
     rfl
    refine pX_ 16 (some 27) #[true, true, true, true, true, true, true, true, true, true, true, true, true, true, true, true, true, false] HT_ ?_
    refine pX_ 17 (some 28) #[true, true, true, true, true, true, true, true, true, true, true, true, true, true, true, true, true, true] HT_ ?_
    refine done_ (done_of HT_.out (by kernel_rfl)) ?_
    try go_wp2
    go_ret
    exact ⟨by first | rfl | (simp [errW_none, errW_some] <;> rfl) | (simp [*, errW_none, errW_some] <;> rfl), bb_ HB⟩
   rw [if_pos c7] at H
   have qJ : (((rd_T41 l0_1 qa).f0) == a0_0) = true := beq_iff_eq.mpr c7
   have qK : (((rd_T41 l0_1 qa).f0) != a0_0) = false := bne_eq_false_iff_eq.mpr c7
   clear c7
   have H' := Aside0.mk H
   clear H
   obtain ⟨qL, qM, qN, qO⟩ := b2_ qb
   try go_wp2
   replace qb := Aside0.mk (blk_drew qb.out); replace HB := Aside0.mk (below_drew1 HB.out)
   have p136 : 0 ≤ (qa : Int) := of_decide_eq_true (by first | (with_reducible assumption) | assumption)
   have q136 : qa < (l0_1.length : Int) := of_decide_eq_true (by first | (with_reducible assumption) | assumption)
   obtain ⟨qe, qi, c136_1, e136, qc, qd, hl136_1, hi136_1⟩ := at_T41 qm.out qa p136 q136
   have hw136_1 := qd
   have hw136_0 := qc
   cases e136
   replace qc := (HB.out.cell (World.block_lt_of_cell? w _ qc)).trans qc
   replace qd := (HB.out.cell (World.block_lt_of_cell? w _ qd)).trans qd
   have qh := Aside0.mk hi136_1
   have qj := Aside0.mk hl136_1
   clear hi136_1 hl136_1
   replace p136 := eq_true p136
   replace q136 := eq_true q136
   have p138 : 0 ≤ (qa : Int) := of_decide_eq_true (by first | (with_reducible assumption) | assumption)
   have q138 : qa < (l0_1.length : Int) := of_decide_eq_true (by first | (with_reducible assumption) | assumption)
   obtain ⟨qo, qn, c138_1, e138, qf, qg, hl138_1, hi138_1⟩ := at_T41 qm.out qa p138 q138
   have hw138_1 := qg
   have hw138_0 := qf
   obtain rfl : qe = qo := (by injection e138)
   replace qf := (HB.out.cell (World.block_lt_of_cell? w _ qf)).trans qf
   replace qg := (HB.out.cell (World.block_lt_of_cell? w _ qg)).trans qg
   have ql := Aside0.mk hi138_1
   have qr := Aside0.mk hl138_1
   clear hi138_1 hl138_1
   replace p138 := eq_true p138
   replace q138 := eq_true q138
   refine start_ (n := 18) (S := fun w' => w'.cell? ⟨qk, 0, none⟩ = some (.int .i64 a0_0) ∧ w'.cell? ⟨qk, 1, none⟩ = some (.slice (some qe) l0_1.length c0_1) ∧ w'.cell? (qe.add ((qa).toNat * 2)) = some (.int .i64 ((rd_T41 l0_1 qa).f0)) ∧ w'.cell? ⟨(qe.add ((qa).toNat * 2)).block, (qe.add ((qa).toNat * 2)).off + 1, none⟩ = some (.slice qi ((rd_T41 l0_1 qa).f1).length c136_1) ∧ w'.cell? (qe.add ((qa).toNat * 2)) = some (.int .i64 ((rd_T41 l0_1 qa).f0)) ∧ w'.cell? ⟨(qe.add ((qa).toNat * 2)).block, (qe.add ((qa).toNat * 2)).off + 1, none⟩ = some (.slice qn ((rd_T41 l0_1 qa).f1).length c138_1)) (ds := []) #[false, false, false, false, false, false, false, false, false, false, false, false, false, false, false, false, false, false] (by kernel_rfl) rfl rfl ⟨bc_ qb 0, bc_ qb 1, ((HB.out.cell (World.block_lt_of_cell? w _ hw136_0)).trans hw136_0), ((HB.out.cell (World.block_lt_of_cell? w _ hw136_1)).trans hw136_1), ((HB.out.cell (World.block_lt_of_cell? w _ hw138_0)).trans hw138_0), ((HB.out.cell (World.block_lt_of_cell? w _ hw138_1)).trans hw138_1)⟩ (fun hHeld => ?_); refine with_tabW spec_IsRegion.tab4 spec_IsRegion.bits4 (fun HT_ HW_ => ?_)
   generalize wr.drew = w9 at qb HB qh ql qc qd qf qg hHeld ⊢
   refine pX_ 0 (some 11) #[true, false, false, false, false, false, false, false, false, false, false, false, false, false, false, false, false, false] HT_ ?_
   refine pX_ 2 (some 13) #[true, false, true, false, false, false, false, false, false, false, false, false, false, false, false, false, false, false] HT_ ?_
   refine take_ (i := 1) (N := some 12) (v := ?_) (a' := ?_) #[true, true, true, false, false, false, false, false, false, false, false, false, false, false, false, false, false, false] rfl rfl (take_ofW HT_.out HW_.out (by kernel_rfl)) (fun _ _ _ h => h) (Or.inl ⟨by rfl, ?_⟩) hHeld ?_ ?_
   rotate_left
   ·
    rintro w' ⟨s0, s1, s2, s3, s4, s5⟩
    go_simp
    with_reducible rfl
   rotate_left
   ·
    simp only [Act.put, List.setIfInBounds_toArray, List.set_cons_zero, List.set_cons_succ, i64_w, i32_w]
    rfl
   refine pX_ 3 (some 14) #[true, true, true, true, false, false, false, false, false, false, false, false, false, false, false, false, false, false] HT_ ?_
   refine take_ (i := 4) (N := some 15) (v := ?_) (a' := ?_) #[true, true, true, true, true, false, false, false, false, false, false, false, false, false, false, false, false, false] rfl rfl (take_ofW HT_.out HW_.out (by kernel_rfl)) (fun _ _ _ h => h) (Or.inl ⟨by rfl, ?_⟩) hHeld ?_ ?_
   rotate_left
   ·
    rintro w' ⟨s0, s1, s2, s3, s4, s5⟩
    go_simp
    with_reducible rfl
   rotate_left
   ·
    simp only [Act.put, List.setIfInBounds_toArray, List.set_cons_zero, List.set_cons_succ, i64_w, i32_w]
    rfl
   refine one_ (i := 5) (N := some 16) #[true, true, true, true, true, true, false, false, false, false, false, false, false, false, false, false, false, false] rfl rfl (one_of HT_.out (by kernel_rfl)) (by decide) (fun K hK => ?_)
   refine goes_ Tryd.func63 (by kernel_rfl) rfl #[.agg #[.int .i64 ((rd_T41 l0_1 qa).f0), .slice qi ((rd_T41 l0_1 qa).f1).length c136_1]] (by rfl) rfl rfl (by (try simp only [List.map_toArray, List.map_cons, List.map_nil]); first | done | rfl | (simp only [List.length_drop, List.length_take]; rfl)) ?_
   with_reducible refine (spec_IsCell.calls k1 ((rd_T41 l0_1 qa).f0) _ _ ((rd_T41 l0_1 qa).f1) true _ ?side1 ?side2 A5.out).mono ?_
   (case side1 => exact cb_ qh HB)
   (case side2 => exact qj.out)
   rintro e qX ⟨rfl, hb⟩
   refine ⟨_, rfl, ?_⟩
   replace qb := kB_ qb hb; replace HB := bS_ HB hb; (try clear hb); (try clear hb2); (try clear hk); (try clear hi)
   refine hK.out _ _ ⟨bc_ qb 0, bc_ qb 1, ((HB.out.cell (World.block_lt_of_cell? w _ hw136_0)).trans hw136_0), ((HB.out.cell (World.block_lt_of_cell? w _ hw136_1)).trans hw136_1), ((HB.out.cell (World.block_lt_of_cell? w _ hw138_0)).trans hw138_0), ((HB.out.cell (World.block_lt_of_cell? w _ hw138_1)).trans hw138_1)⟩ (fun hHeld => ?_)
   clear hK K
   refine norm_ (a' := ?_) ?_ ?_
   rotate_left
   ·
    show Act.put _ (some 16) _ = _
    simp only [Act.put, List.setIfInBounds_toArray, List.set_cons_zero, List.set_cons_succ, i64_w, i32_w]
    rfl
   refine pX_ 6 (some 17) #[true, true, true, true, true, true, true, false, false, false, false, false, false, false, false, false, false, false] HT_ ?_
   refine pX_ 7 (some 18) #[true, true, true, true, true, true, true, true, false, false, false, false, false, false, false, false, false, false] HT_ ?_
   refine pX_ 8 (some 19) #[true, true, true, true, true, true, true, true, true, false, false, false, false, false, false, false, false, false] HT_ ?_
   refine pX_ 10 (some 21) #[true, true, true, true, true, true, true, true, true, false, true, false, false, false, false, false, false, false] HT_ ?_
   refine pX_ 14 (some 25) #[true, true, true, true, true, true, true, true, true, false, true, false, false, false, true, false, false, false] HT_ ?_
   refine take_ (i := 9) (N := some 20) (v := ?_) (a' := ?_) #[true, true, true, true, true, true, true, true, true, true, true, false, false, false, true, false, false, false] rfl rfl (take_ofW HT_.out HW_.out (by kernel_rfl)) (fun _ _ _ h => h) (Or.inl ⟨by rfl, ?_⟩) hHeld ?_ ?_
   rotate_left
   ·
    rintro w' ⟨s0, s1, s2, s3, s4, s5⟩
    go_simp
    with_reducible rfl
   rotate_left
   ·
    simp only [Act.put, List.setIfInBounds_toArray, List.set_cons_zero, List.set_cons_succ, i64_w, i32_w]
    rfl
   refine pX_ 11 (some 22) #[true, true, true, true, true, true, true, true, true, true, true, true, false, false, true, false, false, false] HT_ ?_
   refine pX_ 12 (some 23) #[true, true, true, true, true, true, true, true, true, true, true, true, true, false, true, false, false, false] HT_ ?_
   refine take_ (i := 13) (N := some 24) (v := ?_) (a' := ?_) #[true, true, true, true, true, true, true, true, true, true, true, true, true, true, true, false, false, false] rfl rfl (take_ofW HT_.out HW_.out (by kernel_rfl)) (fun _ _ _ h => h) (Or.inl ⟨by rfl, ?_⟩) hHeld ?_ ?_
   rotate_left
   ·
    rintro w' ⟨s0, s1, s2, s3, s4, s5⟩
    go_simp
    with_reducible rfl
   rotate_left
   ·
    simp only [Act.put, List.setIfInBounds_toArray, List.set_cons_zero, List.set_cons_succ, i64_w, i32_w]
    rfl
   refine take_ (i := 15) (N := some 26) (v := ?_) (a' := ?_) #[true, true, true, true, true, true, true, true, true, true, true, true, true, true, true, true, false, false] rfl rfl (take_ofW HT_.out HW_.out (by kernel_rfl)) (fun _ _ _ h => h) (Or.inl ⟨by rfl, ?_⟩) hHeld ?_ ?_
   rotate_left
   ·
    rintro w' ⟨s0, s1, s2, s3, s4, s5⟩
    go_simp
    with_reducible rfl
   rotate_left
   ·
    simp only [Act.put, List.setIfInBounds_toArray, List.set_cons_zero, List.set_cons_succ, i64_w, i32_w]
    rfl
   refine pX_ 16 (some 27) #[true, true, true, true, true, true, true, true, true, true, true, true, true, true, true, true, true, false] HT_ ?_
   refine pX_ 17 (some 28) #[true, true, true, true, true, true, true, true, true, true, true, true, true, true, true, true, true, true] HT_ ?_
   refine done_ (done_of HT_.out (by kernel_rfl)) ?_
   try go_wp2
   go_roundg k1
   case measure => have := HK1.out; omega
   case rel => exact ⟨(wrap64 (qa + 1)), (by first | rfl | (simp; done) | (simp [*]; done)), H', ⟨by have := HK1.out; omega⟩, ⟨kf_ qb⟩, ⟨bb_ HB⟩⟩

/-! ### spec_FormatRegion: function 27 -/
def spec_FormatRegion.l0 : Nat → ByteArray → Int → Int → List (S41) → Option (ByteArray)
 | 0, _, _, _, _ => none
 | k + 1, x3, x4, x141000, x141001 => if x4 < (x141001.length : Int) then (if 0 ≤ x4 then ((spec_l3Text.f k ((rd_T41 x141001 x4).f0) ((rd_T41 x141001 x4).f1)).bind fun qe => (if x3.size + qe.size ≤ 9223372036854775807 then (spec_FormatRegion.l0 k (x3 ++ qe) (wrap64 (x4 + 1)) x141000 x141001) else (none))) else (none)) else (if x3.size + 1 ≤ 9223372036854775807 then (some (x3 ++ (⟨#[93]⟩ : ByteArray))) else (none))
def spec_FormatRegion.f (k : Nat) (a0_0 : Int) (l0_1 : List (S41)) : Option (ByteArray) := (spec_IsRegion.f k a0_0 l0_1).bind fun qh => (if qh = true then ((spec_FormatInt.f k a0_0).bind fun qb => (if qb.size + 1 ≤ 9223372036854775807 then (spec_FormatRegion.l0 k (qb ++ (⟨#[91]⟩ : ByteArray)) 0 a0_0 l0_1) else (none))) else (some (⟨#[]⟩ : ByteArray)))
theorem spec_FormatRegion.mono_l : ∀ k, (∀ y0 y1 y2 y3, LeO (spec_FormatRegion.l0 k y0 y1 y2 y3) (spec_FormatRegion.l0 (k + 1) y0 y1 y2 y3))
 | 0 => fun _ _ _ _ r h => by simp [spec_FormatRegion.l0] at h
 | k + 1 => by
  have ih0 := spec_FormatRegion.mono_l k
  ·
   intro y0 y1 y2 y3
   unfold spec_FormatRegion.l0
   repeat' first
   | (with_reducible exact ih0 _ _ _ _)
   | (with_reducible exact spec_FormatInt.mono _ _)
   | (with_reducible exact spec_IsRegion.mono _ _ _)
   | (with_reducible exact spec_l3Text.mono _ _ _)
   | (with_reducible exact LeO.refl _)
   | (with_reducible exact LeO.none _)
   | (with_reducible refine LeO.ite ?_ ?_)
   | (with_reducible refine LeO.bind ?_ (fun _ => ?_))
   | exact ih0 _ _ _ _
   | exact spec_FormatInt.mono _ _
   | exact spec_IsRegion.mono _ _ _
   | exact spec_l3Text.mono _ _ _
   | exact LeO.none _
   | refine LeO.ite ?_ ?_
   | refine LeO.bind ?_ (fun _ => ?_)
theorem spec_FormatRegion.mono : ∀ a0 a1 k, LeO (spec_FormatRegion.f k a0 a1) (spec_FormatRegion.f (k + 1) a0 a1) := by
 intro a0 a1 k
 have ih0 := spec_FormatRegion.mono_l k
 unfold spec_FormatRegion.f
 repeat' first
   | (with_reducible exact ih0 _ _ _ _)
   | (with_reducible exact spec_FormatInt.mono _ _)
   | (with_reducible exact spec_IsRegion.mono _ _ _)
   | (with_reducible exact spec_l3Text.mono _ _ _)
   | (with_reducible exact LeO.refl _)
   | (with_reducible exact LeO.none _)
   | (with_reducible refine LeO.ite ?_ ?_)
   | (with_reducible refine LeO.bind ?_ (fun _ => ?_))
   | exact ih0 _ _ _ _
   | exact spec_FormatInt.mono _ _
   | exact spec_IsRegion.mono _ _ _
   | exact spec_l3Text.mono _ _ _
   | exact LeO.none _
   | refine LeO.ite ?_ ?_
   | refine LeO.bind ?_ (fun _ => ?_)
set_option maxHeartbeats 8000000 in
set_option maxRecDepth 100000 in
theorem spec_FormatRegion.calls (k : Nat) (a0_0 : Int) (A0_1 : Option Addr) (c0_1 : Nat) (l0_1 : List (S41)) (r : ByteArray) (w : World) (hr0_1 : Kd.C k41 w A0_1 l0_1.length l0_1) (hc0_1 : l0_1.length ≤ c0_1) (h : spec_FormatRegion.f k a0_0 l0_1 = some r) :
  Calls Tryd.prog 27 #[.agg #[.int .i64 a0_0, .slice A0_1 l0_1.length c0_1]] w fun e w' => e = .returned (.string r) ∧ Below w.heap.size w w' := by
 have hu57 := Tryd.underlying57
 have hu41 := Tryd.underlying41
 have qi := Aside0.mk hr0_1
 have ql := Aside0.mk hc0_1
 clear hr0_1 hc0_1
 have HB := Aside0.mk (Below.refl w.heap.size w)
 have H : ((spec_IsRegion.f k a0_0 l0_1).bind fun qh => (if qh = true then ((spec_FormatInt.f k a0_0).bind fun qb => (if qb.size + 1 ≤ 9223372036854775807 then (spec_FormatRegion.l0 k (qb ++ (⟨#[91]⟩ : ByteArray)) 0 a0_0 l0_1) else (none))) else (some (⟨#[]⟩ : ByteArray)))) = some r := h
 clear h
 replace H := Option.bind_eq_some_iff.mp H
 obtain ⟨qh, A20, H⟩ := H
 replace H : (if qh = true then ((spec_FormatInt.f k a0_0).bind fun qb => (if qb.size + 1 ≤ 9223372036854775807 then (spec_FormatRegion.l0 k (qb ++ (⟨#[91]⟩ : ByteArray)) 0 a0_0 l0_1) else (none))) else (some (⟨#[]⟩ : ByteArray))) = some r := H
 have A2 := Aside0.mk A20
 clear A20
 by_cases c3 : qh = true
 rotate_left
 ·
  replace c3 := Bool.eq_false_iff.mpr c3
  subst c3
  have H1 : (some (⟨#[]⟩ : ByteArray)) = some r := by rw [if_neg (show ¬ (false = true) by decide)] at H; exact H
  clear H
  have H := H1
  clear H1
  obtain rfl := Option.some.inj H
  go_enter Tryd.func27, Tryd.ntmps27
  go_wp2_with (first | ((with_reducible refine gate_dst (N := 1) rfl ?_); refine bx_ (cs := #[.int .i64 a0_0, .slice A0_1 l0_1.length c0_1]) (t := 57) ?_; intro qm hg qW hbox hb; have qa := Aside0.mk (hbox); have qw := hz_ HB hg; have qx := hz_ HB hg; replace HB := bS_ HB hb; clear hb hbox hg; obtain ⟨qz, qA, qB, qC⟩ := b2_ qa) | ((with_reducible refine gate_callee (f := 74) rfl ?_); refine gL_ (some 6) Tryd.func74 #[.agg #[.int .i64 a0_0, .slice A0_1 l0_1.length c0_1]] ?_; (with_reducible refine (spec_IsRegion.calls k a0_0 _ _ l0_1 false _ ?side1 ?side2 A2.out).mono ?_); (case side1 => exact cb_ qi HB); (case side2 => exact ql.out); rintro e qX ⟨rfl, hb⟩; refine ⟨_, rfl, ?_⟩; replace qa := kB_ qa hb; replace HB := bS_ HB hb; clear hb))
  go_ret
  exact ⟨by first | rfl | (simp [errW_none, errW_some] <;> rfl) | (simp [*, errW_none, errW_some] <;> rfl), bb_ HB⟩
 subst c3
 have H1 : ((spec_FormatInt.f k a0_0).bind fun qb => (if qb.size + 1 ≤ 9223372036854775807 then (spec_FormatRegion.l0 k (qb ++ (⟨#[91]⟩ : ByteArray)) 0 a0_0 l0_1) else (none))) = some r := by rw [if_pos rfl] at H; exact H
 clear H
 have H := H1
 clear H1
 replace H := Option.bind_eq_some_iff.mp H
 obtain ⟨qb, A40, H⟩ := H
 replace H : (if qb.size + 1 ≤ 9223372036854775807 then (spec_FormatRegion.l0 k (qb ++ (⟨#[91]⟩ : ByteArray)) 0 a0_0 l0_1) else (none)) = some r := H
 have A4 := Aside0.mk A40
 clear A40
 by_cases c5 : qb.size + 1 ≤ 9223372036854775807
 rotate_left
 ·
  rw [if_neg c5] at H
  exact absurd H (by simp)
 rw [if_pos c5] at H
 have qL := eq_true c5
 have qM : decide (qb.size + 1 ≤ 9223372036854775807) = true := decide_eq_true c5
 try have qN : (9223372036854775807 < qb.size + 1) = False := eq_false (Nat.not_lt.2 c5)
 have H' := Aside0.mk H
 clear H
 go_enter Tryd.func27, Tryd.ntmps27
 go_wp2_with (first | ((with_reducible refine gate_dst (N := 1) rfl ?_); refine bx_ (cs := #[.int .i64 a0_0, .slice A0_1 l0_1.length c0_1]) (t := 57) ?_; intro qm hg w6 hbox hb; have qa := Aside0.mk (hbox); have qw := hz_ HB hg; have qx := hz_ HB hg; replace HB := bS_ HB hb; clear hb hbox hg; obtain ⟨qn, qo, qp, qq⟩ := b2_ qa) | ((with_reducible refine gate_callee (f := 74) rfl ?_); refine gL_ (some 6) Tryd.func74 #[.agg #[.int .i64 a0_0, .slice A0_1 l0_1.length c0_1]] ?_; (with_reducible refine (spec_IsRegion.calls k a0_0 _ _ l0_1 true _ ?side1 ?side2 A2.out).mono ?_); (case side1 => exact cb_ qi HB); (case side2 => exact ql.out); rintro e w8 ⟨rfl, hb⟩; refine ⟨_, rfl, ?_⟩; replace qa := kB_ qa hb; replace HB := bS_ HB hb; clear hb; obtain ⟨qr, qs, qt, qu⟩ := b2_ qa) | ((with_reducible refine gate_callee (f := 50) rfl ?_); refine gL_ (some 10) Tryd.func50 #[.int .i64 a0_0] ?_; (with_reducible refine (spec_FormatInt.calls k a0_0 qb _ A4.out).mono ?_); rintro e w' ⟨rfl, ⟨nd, rfl⟩⟩; refine ⟨_, rfl, ?_⟩))
 go_loopg [3, 4] k (fun kq v3 v4 w' => ∃ (qd : ByteArray) (qc : Int), v3 = .string qd ∧ v4 = .int .i64 qc ∧ Aside0 (spec_FormatRegion.l0 kq qd qc a0_0 l0_1 = some r) ∧ Aside0 (kq ≤ k) ∧ Aside0 (w'.heap[qm]? = some (.cells #[.int .i64 a0_0, (.slice A0_1 l0_1.length c0_1)] 57 (0, 0))) ∧ Aside0 (Below w.heap.size w w'))
 case atStart => exact ⟨(qb ++ (⟨#[91]⟩ : ByteArray)), (0), (by first | rfl | (simp; done) | (simp [*]; done)), (by first | rfl | (simp; done) | (simp [*]; done)), H', ⟨Nat.le_refl _⟩, ⟨kf_ qa⟩, ⟨bb_ HB⟩⟩
 case round =>
  clear H'
  try clear c2
  try clear p2
  try clear c3
  try clear c5
  try clear qL
  try clear qM
  try clear qN
  try clear c7
  try clear qn
  try clear qo
  try clear qr
  try clear qs
  try clear qp
  try clear qq
  try clear qt
  try clear qu
  obtain ⟨qd, qc, rfl, rfl, HA, HK1, qa, HB⟩ := hrel
  cases gk with
  | zero => exact absurd HA.out (by simp [spec_FormatRegion.l0])
  | succ k1 =>
   have H := HA.out
   clear HA
   simp only [spec_FormatRegion.l0] at H
   by_cases c10 : qc < (l0_1.length : Int)
   rotate_left
   ·
    rw [if_neg c10] at H
    have qy : decide (qc < (l0_1.length : Int)) = false := decide_eq_false c10
    clear c10
    by_cases c16 : qd.size + 1 ≤ 9223372036854775807
    rotate_left
    ·
     rw [if_neg c16] at H
     exact absurd H (by simp)
    rw [if_pos c16] at H
    have qO := eq_true c16
    have qP : decide (qd.size + 1 ≤ 9223372036854775807) = true := decide_eq_true c16
    try have qQ : (9223372036854775807 < qd.size + 1) = False := eq_false (Nat.not_lt.2 c16)
    obtain rfl := Option.some.inj H
    obtain ⟨qD, qE, qF, qG⟩ := b2_ qa
    go_wp2
    go_ret
    exact ⟨by first | rfl | (simp [errW_none, errW_some] <;> rfl) | (simp [*, errW_none, errW_some] <;> rfl), bb_ HB⟩
   rw [if_pos c10] at H
   have qy : decide (qc < (l0_1.length : Int)) = true := decide_eq_true c10
   clear c10
   by_cases c11 : 0 ≤ qc
   rotate_left
   ·
    rw [if_neg c11] at H
    exact absurd H (by simp)
   rw [if_pos c11] at H
   have qR : decide (0 ≤ qc) = true := decide_eq_true c11
   clear c11
   replace H := Option.bind_eq_some_iff.mp H
   obtain ⟨qe, A120, H⟩ := H
   replace H : (if qd.size + qe.size ≤ 9223372036854775807 then (spec_FormatRegion.l0 k1 (qd ++ qe) (wrap64 (qc + 1)) a0_0 l0_1) else (none)) = some r := H
   have A12 := Aside0.mk A120
   clear A120
   by_cases c13 : qd.size + qe.size ≤ 9223372036854775807
   rotate_left
   ·
    rw [if_neg c13] at H
    exact absurd H (by simp)
   rw [if_pos c13] at H
   have qS := eq_true c13
   have qT : decide (qd.size + qe.size ≤ 9223372036854775807) = true := decide_eq_true c13
   try have qU : (9223372036854775807 < qd.size + qe.size) = False := eq_false (Nat.not_lt.2 c13)
   have H' := Aside0.mk H
   clear H
   obtain ⟨qH, qI, qJ, qK⟩ := b2_ qa
   have p143 : 0 ≤ (qc : Int) := of_decide_eq_true (by first | (with_reducible assumption) | assumption)
   have q143 : qc < (l0_1.length : Int) := of_decide_eq_true (by first | (with_reducible assumption) | assumption)
   obtain ⟨qV, qv, c143_1, e143, qf, qg, hl143_1, hi143_1⟩ := at_T41 qi.out qc p143 q143
   cases e143
   replace qf := (HB.out.cell (World.block_lt_of_cell? w _ qf)).trans qf
   replace qg := (HB.out.cell (World.block_lt_of_cell? w _ qg)).trans qg
   have qj := Aside0.mk hi143_1
   have qk := Aside0.mk hl143_1
   clear hi143_1 hl143_1
   replace p143 := eq_true p143
   replace q143 := eq_true q143
   go_wp2_with (first | ((with_reducible refine gate_callee (f := 64) rfl ?_); refine gL_ (some 25) Tryd.func64 #[.agg #[.int .i64 ((rd_T41 l0_1 qc).f0), .slice qv ((rd_T41 l0_1 qc).f1).length c143_1]] ?_; (with_reducible refine (spec_l3Text.calls k1 ((rd_T41 l0_1 qc).f0) _ _ ((rd_T41 l0_1 qc).f1) qe _ ?side1 ?side2 A12.out).mono ?_); (case side1 => exact cb_ qj HB); (case side2 => exact qk.out); rintro e qY ⟨rfl, hb⟩; refine ⟨_, rfl, ?_⟩; replace qa := kB_ qa hb; replace HB := bS_ HB hb; clear hb))
   go_roundg k1
   case measure => have := HK1.out; omega
   case rel => exact ⟨(qd ++ qe), (wrap64 (qc + 1)), (by first | rfl | (simp; done) | (simp [*]; done)), (by first | rfl | (simp; done) | (simp [*]; done)), H', ⟨by have := HK1.out; omega⟩, ⟨kf_ qa⟩, ⟨bb_ HB⟩⟩

/-! ### laws_toIntS: function 51 -/
def laws_toIntS.l0 : Nat → List Int → List Int → Int → Option (List Int)
 | 0, _, _, _ => none
 | k + 1, x0, x3, x4 => if x4 < (x0.length : Int) then (if 0 ≤ x4 then (if x4 < (x3.length : Int) then (laws_toIntS.l0 k x0 (x3.set (x4 : Int).toNat (rd x0 x4)) (wrap64 (x4 + 1))) else (none)) else (none)) else (some x3)
def laws_toIntS.f (k : Nat) (l0 : List Int) : Option (List Int) := if 0 ≤ (l0.length : Int) then (if ((l0.length : Int) : Int).toNat ≤ 35184372088832 then (laws_toIntS.l0 k l0 (List.replicate ((l0.length : Int) : Int).toNat 0) 0) else (none)) else (none)
theorem laws_toIntS.mono_l : ∀ k, (∀ y0 y1 y2, LeO (laws_toIntS.l0 k y0 y1 y2) (laws_toIntS.l0 (k + 1) y0 y1 y2))
 | 0 => fun _ _ _ r h => by simp [laws_toIntS.l0] at h
 | k + 1 => by
  have ih0 := laws_toIntS.mono_l k
  ·
   intro y0 y1 y2
   unfold laws_toIntS.l0
   repeat' first
   | (with_reducible exact ih0 _ _ _)
   | (with_reducible exact LeO.refl _)
   | (with_reducible exact LeO.none _)
   | (with_reducible refine LeO.ite ?_ ?_)
   | (with_reducible refine LeO.bind ?_ (fun _ => ?_))
   | exact ih0 _ _ _
   | exact LeO.none _
   | refine LeO.ite ?_ ?_
   | refine LeO.bind ?_ (fun _ => ?_)
theorem laws_toIntS.mono : ∀ a0 k, LeO (laws_toIntS.f k a0) (laws_toIntS.f (k + 1) a0) := by
 intro a0 k
 have ih0 := laws_toIntS.mono_l k
 unfold laws_toIntS.f
 repeat' first
   | (with_reducible exact ih0 _ _ _)
   | (with_reducible exact LeO.refl _)
   | (with_reducible exact LeO.none _)
   | (with_reducible refine LeO.ite ?_ ?_)
   | (with_reducible refine LeO.bind ?_ (fun _ => ?_))
   | exact ih0 _ _ _
   | exact LeO.none _
   | refine LeO.ite ?_ ?_
   | refine LeO.bind ?_ (fun _ => ?_)
set_option maxHeartbeats 8000000 in
set_option maxRecDepth 100000 in
theorem laws_toIntS.calls (k : Nat) (A0 : Option Addr) (c0 : Nat) (l0 : List Int) (r : List Int) (w : World) (hr0 : Kd.C (Kd.int .i64) w A0 l0.length l0) (hc0 : l0.length ≤ c0) (h : laws_toIntS.f k l0 = some r) :
  Calls Tryd.prog 51 #[.slice A0 l0.length c0] w fun e w' => ∃ v0_ : Value, e = .returned (v0_) ∧ Kd.R (Kd.int .i64) 3 w' w.heap.size (fun _ => True) v0_ r ∧ Below w.heap.size w w' := by
 have HR0 := Aside0.mk hr0
 have HC0 := Aside0.mk hc0
 clear hr0 hc0
 have HB := Aside0.mk (Below.refl w.heap.size w)
 have H : (if 0 ≤ (l0.length : Int) then (if ((l0.length : Int) : Int).toNat ≤ 35184372088832 then (laws_toIntS.l0 k l0 (List.replicate ((l0.length : Int) : Int).toNat 0) 0) else (none)) else (none)) = some r := h
 clear h
 by_cases c2 : 0 ≤ (l0.length : Int)
 rotate_left
 ·
  rw [if_neg c2] at H
  exact absurd H (by simp)
 rw [if_pos c2] at H
 have qg := eq_true c2
 have qh : decide (0 ≤ (l0.length : Int)) = true := decide_eq_true c2
 clear c2
 by_cases c3 : ((l0.length : Int) : Int).toNat ≤ 35184372088832
 rotate_left
 ·
  rw [if_neg c3] at H
  exact absurd H (by simp)
 rw [if_pos c3] at H
 have qi := eq_true c3
 have qj : decide (((l0.length : Int) : Int).toNat ≤ 35184372088832) = true := decide_eq_true c3
 clear c3
 obtain ⟨y145, hy145⟩ : ∃ y_ : List Int, y_ = (List.replicate ((l0.length : Int) : Int).toNat 0) := ⟨_, rfl⟩
 replace H : (laws_toIntS.l0 k l0 y145 0) = some r := by first | (rw [hy145]; with_reducible exact H) | (have H2_ := (Option.bind_some _ _).symm.trans H; rw [hy145]; with_reducible exact H2_) | (have H2_ := (Option.bind_some _ _).symm.trans H; with_reducible exact H2_) | with_reducible exact H | (rw [hy145]; exact H) | exact H
 have Ny145 := Aside0.mk hy145
 clear hy145
 have H' := Aside0.mk H
 clear H
 go_enter Tryd.func51, Tryd.ntmps51
 go_wp2_with (first | ((with_reducible refine gate_dst (N := 7) rfl ?_); refine Kd.R_make (Kd.int .i64) _ 3 rfl (N := 7) rfl 22 _ _ rfl (l0.length : Int) rfl rfl Tryd.underlying22 (.int .i64 0) 8 info3 rfl (by decide) (by omega) 0 (ok := fun _ => True) (okp := fun _ => True) rfl (fun _ hk => hk) trivial (of_decide_eq_true (by first | (with_reducible assumption) | assumption)) (Nat.le_trans (Nat.mul_le_mul_right _ (of_decide_eq_true (by first | (with_reducible assumption) | assumption) : (l0.length : Int).toNat ≤ 35184372088832)) (by omega)) (Below.refl _ _) (Nat.le_refl _) ?_; intro qk w4 ho5 hb hg_ hnew_; clear hg_ hnew_; (first | rw [← Ny145.out] at ho5 | (simp only [Int.reduceToNat] at ho5; rw [← Ny145.out] at ho5)); have qf := Aside0.mk (Kd.R_lower ho5 (bz_ HB)); replace HB := bS_ HB hb; clear hb ho5))
 go_loopg [4] k (fun kq v4 w' => ∃ (qc : List Int) (qa : Int), v4 = .int .i64 qa ∧ Aside0 (laws_toIntS.l0 kq l0 qc qa = some r) ∧ Aside0 (kq ≤ k) ∧ Aside0 (Kd.R (Kd.int .i64) 3 w' w.heap.size (fun _ => True) qk qc) ∧ Aside0 (Below w.heap.size w w'))
 case atStart => exact ⟨(y145), (0), (by first | rfl | (simp; done) | (simp [*]; done)), H', ⟨Nat.le_refl _⟩, ⟨by (with_reducible repeat (first | apply Kd.R_alloc | apply Kd.R_drewN | apply Kd.R_drew)); exact qf.out⟩, ⟨bb_ HB⟩⟩
 case round =>
  clear H'
  try clear c2
  try clear qg
  try clear qh
  try clear p2
  try clear c3
  try clear qi
  try clear qj
  try clear c5
  obtain ⟨qc, qa, rfl, HA, HK1, qd, HB⟩ := hrel
  cases gk with
  | zero => exact absurd HA.out (by simp [laws_toIntS.l0])
  | succ k1 =>
   have H := HA.out
   clear HA
   simp only [laws_toIntS.l0] at H
   by_cases c6 : qa < (l0.length : Int)
   rotate_left
   ·
    rw [if_neg c6] at H
    have ql : decide (qa < (l0.length : Int)) = false := decide_eq_false c6
    clear c6
    obtain rfl := Option.some.inj H
    go_wp2
    go_ret
    exact ⟨_, by first | rfl | (simp [errW_none, errW_some] <;> rfl) | (simp [*, errW_none, errW_some] <;> rfl), by (with_reducible repeat (first | apply Kd.R_alloc | apply Kd.R_drewN | apply Kd.R_drew)); exact qd.out, bb_ HB⟩
   rw [if_pos c6] at H
   have ql : decide (qa < (l0.length : Int)) = true := decide_eq_true c6
   clear c6
   by_cases c7 : 0 ≤ qa
   rotate_left
   ·
    rw [if_neg c7] at H
    exact absurd H (by simp)
   rw [if_pos c7] at H
   have qq : decide (0 ≤ qa) = true := decide_eq_true c7
   clear c7
   by_cases c8 : qa < (qc.length : Int)
   rotate_left
   ·
    rw [if_neg c8] at H
    exact absurd H (by simp)
   rw [if_pos c8] at H
   have qr : decide (qa < (qc.length : Int)) = true := decide_eq_true c8
   clear c8
   obtain ⟨y149, hy149⟩ : ∃ y_ : List Int, y_ = (qc.set (qa : Int).toNat (rd l0 qa)) := ⟨_, rfl⟩
   replace H : (laws_toIntS.l0 k1 l0 y149 (wrap64 (qa + 1))) = some r := by first | (rw [hy149]; with_reducible exact H) | (have H2_ := (Option.bind_some _ _).symm.trans H; rw [hy149]; with_reducible exact H2_) | (have H2_ := (Option.bind_some _ _).symm.trans H; with_reducible exact H2_) | with_reducible exact H | (rw [hy149]; exact H) | exact H
   have Ny149 := Aside0.mk hy149
   clear hy149
   have H' := Aside0.mk H
   clear H
   have p148 : 0 ≤ (qa : Int) := of_decide_eq_true (by first | (with_reducible assumption) | assumption)
   have q148 : qa < (l0.length : Int) := of_decide_eq_true (by first | (with_reducible assumption) | assumption)
   obtain ⟨qn, e148, qb⟩ := Kd.at_int HR0.out qa p148 q148
   cases e148
   replace qb := (HB.out.cell (World.block_lt_of_cell? w _ qb)).trans qb
   replace p148 := eq_true p148
   replace q148 := eq_true q148
   have p9 : 0 ≤ (qa : Int) := of_decide_eq_true (by first | (with_reducible assumption) | assumption)
   have q9 : (qa : Int) < ((qc.length : Int) : Int) := of_decide_eq_true (by first | (with_reducible assumption) | assumption)
   obtain ⟨go9, qs, eo9, qo, gl9, cl9, HG9⟩ := Kd.R_form qd.out (by omega)
   (first | cases eo9 | (injection eo9 with ea_ en_ ec_; (first | subst ea_ | (injection ea_ with ea_; subst ea_)); subst ec_; clear en_))
   have qt := Aside0.mk qo
   have qu := Aside0.mk HG9
   clear qo gl9 HG9
   obtain ⟨qp, hf9_0⟩ := Kd.R_celln 0 qd.out (qa : Int) p9 q9
   replace p9 := eq_true p9
   replace q9 := eq_true q9
   have qe := Kd.R_putg qd.out (qa : Int) (rd l0 qa)
   go_wp2_with (first | ((with_reducible refine gate_store (t := 3) (p := 20) rfl ?_); refine store_event (t := 3) (p := 20) (v := ?vo_w11) (w1 := (wr.setCell ⟨go9, (qa : Int).toNat, none⟩ (.int .i64 (rd l0 qa)))) ?hg ?ho ?hn ?hr ?_; (case ho => rfl); (case hg => rfl); (case hn => rfl); (case hr => first | (go_simp; done) | (go_simp; rfl)); intro qm hw; have hg : wr.grownBy qm (some go9) := (by rw [hw]; exact qe.2); have hp_ : Kd.R (Kd.int .i64) 3 qm w.heap.size (fun _ => True) (.slice (some ⟨go9, 0, none⟩) qc.length qs) y149 := (by rw [hw, Ny149.out]; exact qe.1); clear qe; replace qd := Aside0.mk (hp_); replace HB := Aside0.mk ((by rw [hw]; exact below_set (HB.out) qt.out : Below w.heap.size w qm)); clear hg hw hp_))
   go_roundg k1
   case measure => have := HK1.out; omega
   case rel => exact ⟨(y149), (wrap64 (qa + 1)), (by first | rfl | (simp; done) | (simp [*]; done)), H', ⟨by have := HK1.out; omega⟩, ⟨by (with_reducible repeat (first | apply Kd.R_alloc | apply Kd.R_drewN | apply Kd.R_drew)); exact qd.out⟩, ⟨bb_ HB⟩⟩

/-! ### laws_toAtom: function 13 -/
def laws_toAtom.f (k : Nat) (l0_0 : List Int) (a0_1 : Int) (a0_2 : Bool) : Option (List Int × Int × Bool) := (laws_toIntS.f k l0_0).bind fun qd => (some (qd, a0_1, a0_2))
theorem laws_toAtom.mono : ∀ a0 a1 a2 k, LeO (laws_toAtom.f k a0 a1 a2) (laws_toAtom.f (k + 1) a0 a1 a2) := by
 intro a0 a1 a2 k
 unfold laws_toAtom.f
 repeat' first
   | (with_reducible exact laws_toIntS.mono _ _)
   | (with_reducible exact LeO.refl _)
   | (with_reducible exact LeO.none _)
   | (with_reducible refine LeO.ite ?_ ?_)
   | (with_reducible refine LeO.bind ?_ (fun _ => ?_))
   | exact laws_toIntS.mono _ _
   | exact LeO.none _
   | refine LeO.ite ?_ ?_
   | refine LeO.bind ?_ (fun _ => ?_)
set_option maxHeartbeats 8000000 in
set_option maxRecDepth 100000 in
theorem laws_toAtom.calls (k : Nat) (A0_0 : Option Addr) (c0_0 : Nat) (l0_0 : List Int) (a0_1 : Int) (a0_2 : Bool) (r1 : List Int) (r2 : Int) (r3 : Bool) (w : World) (hr0_0 : Kd.C (Kd.int .i64) w A0_0 l0_0.length l0_0) (hc0_0 : l0_0.length ≤ c0_0) (h : laws_toAtom.f k l0_0 a0_1 a0_2 = some (r1, r2, r3)) :
  Calls Tryd.prog 13 #[.agg #[.slice A0_0 l0_0.length c0_0, .int .i64 a0_1, .bool a0_2]] w fun e w' => ∃ v0_ : Value, e = .returned (.agg #[v0_, .int .i64 r2, .bool r3]) ∧ Kd.R (Kd.int .i64) 3 w' w.heap.size (fun _ => True) v0_ r1 ∧ Below w.heap.size w w' := by
 have hu24 := Tryd.underlying24
 have hu27 := Tryd.underlying27
 have qp := Aside0.mk hr0_0
 have qq := Aside0.mk hc0_0
 clear hr0_0 hc0_0
 have HB := Aside0.mk (Below.refl w.heap.size w)
 have H : ((laws_toIntS.f k l0_0).bind fun qd => (some (qd, a0_1, a0_2))) = some (r1, r2, r3) := h
 clear h
 replace H := Option.bind_eq_some_iff.mp H
 obtain ⟨qd, A20, H⟩ := H
 replace H : (some (qd, a0_1, a0_2)) = some (r1, r2, r3) := H
 have A2 := Aside0.mk A20
 clear A20
 simp only [Option.some.injEq, Prod.mk.injEq] at H
 obtain ⟨rfl, rfl, rfl⟩ := H
 go_enter Tryd.func13, Tryd.ntmps13
 go_wp2_with (first | ((with_reducible refine gate_dst (N := 1) rfl ?_); refine bx_ (cs := #[.slice A0_0 l0_0.length c0_0, .int .i64 a0_1, .bool a0_2]) (t := 24) ?_; intro qP hg w3 hbox hb; have qa := Aside0.mk (hbox); have qQ := hz_ HB hg; have qR := hz_ HB hg; replace HB := bS_ HB hb; clear hb hbox hg) | ((with_reducible refine gate_dst (N := 2) rfl ?_); refine bx_ (cs := #[.slice none 0 0, .int .i64 0, .bool false]) (t := 27) ?_; intro qe hg w4 hbox hb; have qc := Aside0.mk (hbox); have qS := hz_ HB hg; have qT := hz_ HB hg; replace HB := bS_ HB hb; have qg := nL_ qa hg; have qh := nG_ qa hg; replace qa := kB_ qa hb; clear hb hbox hg) | ((with_reducible refine gate_dst (N := 3) rfl ?_); refine bx_ (cs := #[.slice none 0 0, .int .i64 0, .bool false]) (t := 27) ?_; intro ql hg w5 hbox hb; have qf := Aside0.mk (hbox); have qU := hz_ HB hg; have qV := hz_ HB hg; replace HB := bS_ HB hb; have qi := nL_ qa hg; have qj := nG_ qa hg; replace qa := kB_ qa hb; have qb := nL_ qc hg; have qk := nG_ qc hg; replace qc := kB_ qc hb; clear hb hbox hg; have qY := qg.out; have qZ := qh.out; have q0 := qi.out; have q1 := qj.out; obtain ⟨qJ, qK, qL, qM, qN, qO⟩ := b3_ qa) | ((with_reducible refine gate_callee (f := 51) rfl ?_); refine gL_ (some 6) Tryd.func51 #[.slice A0_0 l0_0.length c0_0] ?_; (with_reducible refine (laws_toIntS.calls k _ _ l0_0 qd _ ?side1 ?side2 A2.out).mono ?_); (case side1 => exact cb_ qp HB); (case side2 => exact qq.out); rintro e w9 ⟨q2, rfl, ho0, hb⟩; refine ⟨_, rfl, ?_⟩; have qo := Aside0.mk (Kd.R_lower ho0 (bz_ HB)); replace qa := kB_ qa hb; replace qc := kB_ qc hb; replace qf := kB_ qf hb; replace HB := bS_ HB hb; clear hb ho0; obtain ⟨qm, qn, eo10⟩ := Kd.R_slice qo.out; subst eo10; have qW := qk.out; have qX := qb.out; obtain ⟨qr, qs, qt, qu, qv, qw⟩ := b3_ qf; obtain ⟨qx, qy, qz, qA, qB, qC⟩ := b3_ qa; obtain ⟨qD, qE, qF, qG, qH, qI⟩ := b3_ qc))
 refine bodyPost_ret (results_cell_row rfl _ _ qe 27 #[.slice qm qd.length qn, .int .i64 a0_1, .bool a0_2] (0, 0) _ rfl (by (with_reducible repeat (first | refine blk_drewN ?_ _ | refine blk_drew ?_ | refine blk_alloc ?_ _)); refine blk_put (cs := #[.slice qm qd.length qn, .int .i64 a0_1, .bool false]) ?_ 2 _ rfl; (with_reducible repeat (first | refine blk_drewN ?_ _ | refine blk_drew ?_ | refine blk_alloc ?_ _)); refine blk_put (cs := #[.slice qm qd.length qn, .int .i64 0, .bool false]) ?_ 1 _ rfl; (with_reducible repeat (first | refine blk_drewN ?_ _ | refine blk_drew ?_ | refine blk_alloc ?_ _)); refine blk_put (cs := #[.slice none 0 0, .int .i64 0, .bool false]) ?_ 0 _ rfl; (with_reducible repeat (first | refine blk_drewN ?_ _ | refine blk_drew ?_ | refine blk_alloc ?_ _)); refine blk_far ?_ qb.out _; (with_reducible repeat (first | refine blk_drewN ?_ _ | refine blk_drew ?_ | refine blk_alloc ?_ _)); refine blk_far ?_ qb.out _; (with_reducible repeat (first | refine blk_drewN ?_ _ | refine blk_drew ?_ | refine blk_alloc ?_ _)); refine blk_far ?_ qb.out _; (with_reducible repeat (first | refine blk_drewN ?_ _ | refine blk_drew ?_ | refine blk_alloc ?_ _)); exact qc.out) Tryd.underlying27 rfl (by kernel_rfl)) rfl ?_
 exact ⟨_, by first | rfl | (simp [errW_none, errW_some] <;> rfl) | (simp [*, errW_none, errW_some] <;> rfl), by (with_reducible repeat (first | apply Kd.R_alloc | apply Kd.R_drewN | apply Kd.R_drew)); exact Kd.R_mono (Kd.R_far (p := ⟨qe, 2, none⟩) (Kd.R_far (p := ⟨qe, 1, none⟩) (Kd.R_far (p := ⟨qe, 0, none⟩) (Kd.R_far (p := ⟨ql, 2, none⟩) (Kd.R_far (p := ⟨ql, 1, none⟩) (Kd.R_far (p := ⟨ql, 0, none⟩) (Kd.R_types (Kd.R_types qo.out qf.out (by decide)) qc.out (by decide)) (fun _ hk => hk.1.2) (.slice qm qd.length qn)) (fun _ hk => hk.1.2) (.int .i64 a0_1)) (fun _ hk => hk.1.2) (.bool a0_2)) (fun _ hk => hk.2) (.slice qm qd.length qn)) (fun _ hk => hk.2) (.int .i64 a0_1)) (fun _ hk => hk.2) (.bool a0_2)) (fun _ hk => trivial), bb_ HB⟩

/-! ### laws_toAtomS: function 65 -/
def laws_toAtomS.l0 : Nat → List (S24) → List (S27) → Int → Option ((List (S27)))
 | 0, _, _, _ => none
 | k + 1, x0, x3, x4 => if x4 < (x0.length : Int) then (if 0 ≤ x4 then ((laws_toAtom.f k ((rd_T24 x0 x4).f0) ((rd_T24 x0 x4).f1) ((rd_T24 x0 x4).f2)).bind fun qj => (if x4 < (x3.length : Int) then (laws_toAtomS.l0 k x0 (x3.set (x4 : Int).toNat (⟨qj.1, qj.2.1, qj.2.2⟩ : S27)) (wrap64 (x4 + 1))) else (none))) else (none)) else (some x3)
def laws_toAtomS.f (k : Nat) (l0 : List (S24)) : Option ((List (S27))) := if 0 ≤ (l0.length : Int) then (if ((l0.length : Int) : Int).toNat ≤ 7036874417766 then (laws_toAtomS.l0 k l0 (List.replicate ((l0.length : Int) : Int).toNat z27) 0) else (none)) else (none)
theorem laws_toAtomS.mono_l : ∀ k, (∀ y0 y1 y2, LeO (laws_toAtomS.l0 k y0 y1 y2) (laws_toAtomS.l0 (k + 1) y0 y1 y2))
 | 0 => fun _ _ _ r h => by simp [laws_toAtomS.l0] at h
 | k + 1 => by
  have ih0 := laws_toAtomS.mono_l k
  ·
   intro y0 y1 y2
   unfold laws_toAtomS.l0
   repeat' first
   | (with_reducible exact ih0 _ _ _)
   | (with_reducible exact laws_toAtom.mono _ _ _ _)
   | (with_reducible exact LeO.refl _)
   | (with_reducible exact LeO.none _)
   | (with_reducible refine LeO.ite ?_ ?_)
   | (with_reducible refine LeO.bind ?_ (fun _ => ?_))
   | exact ih0 _ _ _
   | exact laws_toAtom.mono _ _ _ _
   | exact LeO.none _
   | refine LeO.ite ?_ ?_
   | refine LeO.bind ?_ (fun _ => ?_)
theorem laws_toAtomS.mono : ∀ a0 k, LeO (laws_toAtomS.f k a0) (laws_toAtomS.f (k + 1) a0) := by
 intro a0 k
 have ih0 := laws_toAtomS.mono_l k
 unfold laws_toAtomS.f
 repeat' first
   | (with_reducible exact ih0 _ _ _)
   | (with_reducible exact laws_toAtom.mono _ _ _ _)
   | (with_reducible exact LeO.refl _)
   | (with_reducible exact LeO.none _)
   | (with_reducible refine LeO.ite ?_ ?_)
   | (with_reducible refine LeO.bind ?_ (fun _ => ?_))
   | exact ih0 _ _ _
   | exact laws_toAtom.mono _ _ _ _
   | exact LeO.none _
   | refine LeO.ite ?_ ?_
   | refine LeO.bind ?_ (fun _ => ?_)
set_option maxHeartbeats 8000000 in
set_option maxRecDepth 100000 in
theorem laws_toAtomS.calls (k : Nat) (A0 : Option Addr) (c0 : Nat) (l0 : List (S24)) (r : List (S27)) (w : World) (hr0 : Kd.C k24 w A0 l0.length l0) (hc0 : l0.length ≤ c0) (h : laws_toAtomS.f k l0 = some r) :
  Calls Tryd.prog 65 #[.slice A0 l0.length c0] w fun e w' => ∃ v0_ : Value, e = .returned (v0_) ∧ Kd.S k27 27 w' w.heap.size (fun _ => True) v0_ r ∧ Below w.heap.size w w' := by
 have hu24 := Tryd.underlying24
 have hu27 := Tryd.underlying27
 have HR0 := Aside0.mk hr0
 have HC0 := Aside0.mk hc0
 clear hr0 hc0
 have HB := Aside0.mk (Below.refl w.heap.size w)
 have H : (if 0 ≤ (l0.length : Int) then (if ((l0.length : Int) : Int).toNat ≤ 7036874417766 then (laws_toAtomS.l0 k l0 (List.replicate ((l0.length : Int) : Int).toNat z27) 0) else (none)) else (none)) = some r := h
 clear h
 by_cases c2 : 0 ≤ (l0.length : Int)
 rotate_left
 ·
  rw [if_neg c2] at H
  exact absurd H (by simp)
 rw [if_pos c2] at H
 have qy := eq_true c2
 have qz : decide (0 ≤ (l0.length : Int)) = true := decide_eq_true c2
 clear c2
 by_cases c3 : ((l0.length : Int) : Int).toNat ≤ 7036874417766
 rotate_left
 ·
  rw [if_neg c3] at H
  exact absurd H (by simp)
 rw [if_pos c3] at H
 have qA := eq_true c3
 have qB : decide (((l0.length : Int) : Int).toNat ≤ 7036874417766) = true := decide_eq_true c3
 clear c3
 obtain ⟨y156, hy156⟩ : ∃ y_ : List (S27), y_ = (List.replicate ((l0.length : Int) : Int).toNat z27) := ⟨_, rfl⟩
 replace H : (laws_toAtomS.l0 k l0 y156 0) = some r := by first | (rw [hy156]; with_reducible exact H) | (have H2_ := (Option.bind_some _ _).symm.trans H; rw [hy156]; with_reducible exact H2_) | (have H2_ := (Option.bind_some _ _).symm.trans H; with_reducible exact H2_) | with_reducible exact H | (rw [hy156]; exact H) | exact H
 have Ny156 := Aside0.mk hy156
 clear hy156
 have H' := Aside0.mk H
 clear H
 go_enter Tryd.func65, Tryd.ntmps65
 go_wp2_with (first | ((with_reducible refine gate_dst (N := 7) rfl ?_); refine Kd.S_make k27 _ 27 rfl (N := 7) rfl 39 _ _ rfl (l0.length : Int) rfl rfl Tryd.underlying39 (.agg #[(.slice none 0 0), (.int .i64 0), (.bool false)]) 40 info27 rfl (by decide) (by omega) z27 (ok := fun _ => True) (okp := fun _ => True) (k27_mkM _ _ _ z27 (Kd.R_nil _ _ _ _ _)) (fun _ hk => hk) trivial (of_decide_eq_true (by first | (with_reducible assumption) | assumption)) (Nat.le_trans (Nat.mul_le_mul_right _ (of_decide_eq_true (by first | (with_reducible assumption) | assumption) : (l0.length : Int).toNat ≤ 7036874417766)) (by omega)) (Below.refl _ _) (Nat.le_refl _) ?_; intro qC w4 ho5 hb hg_ hnew_; clear hg_ hnew_; (first | rw [← Ny156.out] at ho5 | (simp only [Int.reduceToNat] at ho5; rw [← Ny156.out] at ho5)); have qv := Aside0.mk (Kd.S_lower ho5 (bz_ HB)); replace HB := bS_ HB hb; clear hb ho5))
 go_loopg [4] k (fun kq v4 w' => ∃ (qb : List (S27)) (qa : Int), v4 = .int .i64 qa ∧ Aside0 (laws_toAtomS.l0 kq l0 qb qa = some r) ∧ Aside0 (kq ≤ k) ∧ Aside0 (Kd.S k27 27 w' w.heap.size (fun _ => True) qC qb) ∧ Aside0 (Below w.heap.size w w'))
 case atStart => exact ⟨(y156), (0), (by first | rfl | (simp; done) | (simp [*]; done)), H', ⟨Nat.le_refl _⟩, ⟨by (with_reducible repeat (first | apply Kd.S_alloc | apply Kd.S_drewN | apply Kd.S_drew)); exact qv.out⟩, ⟨bb_ HB⟩⟩
 case round =>
  clear H'
  try clear c2
  try clear qy
  try clear qz
  try clear p2
  try clear c3
  try clear qA
  try clear qB
  obtain ⟨qb, qa, rfl, HA, HK1, qc, HB⟩ := hrel
  cases gk with
  | zero => exact absurd HA.out (by simp [laws_toAtomS.l0])
  | succ k1 =>
   have H := HA.out
   clear HA
   simp only [laws_toAtomS.l0] at H
   by_cases c6 : qa < (l0.length : Int)
   rotate_left
   ·
    rw [if_neg c6] at H
    have qD : decide (qa < (l0.length : Int)) = false := decide_eq_false c6
    clear c6
    obtain rfl := Option.some.inj H
    go_wp2
    go_ret
    exact ⟨_, by first | rfl | (simp [errW_none, errW_some] <;> rfl) | (simp [*, errW_none, errW_some] <;> rfl), by (with_reducible repeat (first | apply Kd.S_alloc | apply Kd.S_drewN | apply Kd.S_drew)); exact qc.out, bb_ HB⟩
   rw [if_pos c6] at H
   have qD : decide (qa < (l0.length : Int)) = true := decide_eq_true c6
   clear c6
   by_cases c7 : 0 ≤ qa
   rotate_left
   ·
    rw [if_neg c7] at H
    exact absurd H (by simp)
   rw [if_pos c7] at H
   have qK : decide (0 ≤ qa) = true := decide_eq_true c7
   clear c7
   replace H := Option.bind_eq_some_iff.mp H
   obtain ⟨⟨qk, qg, qh⟩, A80, H⟩ := H
   replace H : (if qa < (qb.length : Int) then (laws_toAtomS.l0 k1 l0 (qb.set (qa : Int).toNat (⟨qk, qg, qh⟩ : S27)) (wrap64 (qa + 1))) else (none)) = some r := H
   have A8 := Aside0.mk A80
   clear A80
   by_cases c9 : qa < (qb.length : Int)
   rotate_left
   ·
    rw [if_neg c9] at H
    exact absurd H (by simp)
   rw [if_pos c9] at H
   have qL : decide (qa < (qb.length : Int)) = true := decide_eq_true c9
   clear c9
   obtain ⟨y165, hy165⟩ : ∃ y_ : List (S27), y_ = (qb.set (qa : Int).toNat (⟨qk, qg, qh⟩ : S27)) := ⟨_, rfl⟩
   replace H : (laws_toAtomS.l0 k1 l0 y165 (wrap64 (qa + 1))) = some r := by first | (rw [hy165]; with_reducible exact H) | (have H2_ := (Option.bind_some _ _).symm.trans H; rw [hy165]; with_reducible exact H2_) | (have H2_ := (Option.bind_some _ _).symm.trans H; with_reducible exact H2_) | with_reducible exact H | (rw [hy165]; exact H) | exact H
   have Ny165 := Aside0.mk hy165
   clear hy165
   have H' := Aside0.mk H
   clear H
   have p159 : 0 ≤ (qa : Int) := of_decide_eq_true (by first | (with_reducible assumption) | assumption)
   have q159 : qa < (l0.length : Int) := of_decide_eq_true (by first | (with_reducible assumption) | assumption)
   obtain ⟨qJ, qp, c159_0, e159, qd, qe, qf, hl159_0, hi159_0⟩ := at_T24 HR0.out qa p159 q159
   cases e159
   replace qd := (HB.out.cell (World.block_lt_of_cell? w _ qd)).trans qd
   replace qe := (HB.out.cell (World.block_lt_of_cell? w _ qe)).trans qe
   replace qf := (HB.out.cell (World.block_lt_of_cell? w _ qf)).trans qf
   have ql := Aside0.mk hi159_0
   have qm := Aside0.mk hl159_0
   clear hi159_0 hl159_0
   replace p159 := eq_true p159
   replace q159 := eq_true q159
   go_wp2_with (first | ((with_reducible refine gate_callee (f := 13) rfl ?_); refine gL_ (some 20) Tryd.func13 #[.agg #[.slice qp ((rd_T24 l0 qa).f0).length c159_0, .int .i64 ((rd_T24 l0 qa).f1), .bool ((rd_T24 l0 qa).f2)]] ?_; (with_reducible refine (laws_toAtom.calls k1 _ _ ((rd_T24 l0 qa).f0) ((rd_T24 l0 qa).f1) ((rd_T24 l0 qa).f2) qk qg qh _ ?side1 ?side2 A8.out).mono ?_); (case side1 => exact cb_ ql HB); (case side2 => exact qm.out); rintro e qn ⟨qo, rfl, ho0, hb⟩; refine ⟨_, rfl, ?_⟩; replace qc := Aside0.mk (Kd.S_elder' (sm_ qc) (Kd.R_base ho0) hb); have qi := Aside0.mk (Kd.R_lower ho0 (bz_ HB)); replace HB := bS_ HB hb; clear hb ho0; have p10 : 0 ≤ (qa : Int) := of_decide_eq_true (by first | (with_reducible assumption) | assumption); have q10 : (qa : Int) < ((qb.length : Int) : Int) := of_decide_eq_true (by first | (with_reducible assumption) | assumption); obtain ⟨go10, qw, eo10, qx, gl10, cl10, HG10⟩ := Kd.S_form qc.out (by omega); (first | cases eo10 | (injection eo10 with ea_ en_ ec_; (first | subst ea_ | (injection ea_ with ea_; subst ea_)); subst ec_; clear en_)); have qq := Aside0.mk qx; have qM := Aside0.mk HG10; clear qx gl10 HG10; obtain ⟨_, ce10, hcl10, hM10, hcc10, hfr10, _, _⟩ := Kd.S_elem qc.out z27 (qa : Int) p10 q10; obtain ⟨ve10_0, rfl, ge10_0⟩ := k27_openM hM10; have qE : qn.cell? ⟨go10, (qa : Int).toNat * 3, none⟩ = some (ve10_0) := hcc10 0 _ rfl; have qF : qn.cell? ⟨go10, (qa : Int).toNat * 3 + 1, none⟩ = some (.int .i64 ((rd_T27 qb qa).f1)) := hcc10 1 _ rfl; have qG : qn.cell? ⟨go10, (qa : Int).toNat * 3 + 2, none⟩ = some (.bool ((rd_T27 qb qa).f2)) := hcc10 2 _ rfl; have hf10_0 : qn.frozen? ⟨go10, (qa : Int).toNat * 3, none⟩ = false := hfr10 0; have hf10_1 : qn.frozen? ⟨go10, (qa : Int).toNat * 3 + 1, none⟩ = false := hfr10 1; have hf10_2 : qn.frozen? ⟨go10, (qa : Int).toNat * 3 + 2, none⟩ = false := hfr10 2; clear hcl10 hcc10 hfr10 hM10; replace p10 := eq_true p10; replace q10 := eq_true q10; have n_ := Aside0.mk (Kd.S_mono (ok' := (fun k_ => some k_ ≠ (qo : Value).ownBlock)) qc.out (fun k_ hk => hk.2)); clear qc; have qc := n_; clear n_; have qH := Aside0.mk (show Kd.S k27 27 qn w.heap.size (fun k_ => ((fun _ => True)) k_ ∧ ¬ ((fun k_ => some k_ = (qo : Value).ownBlock)) k_) (.slice (some ⟨go10, 0, none⟩) qb.length qw) qb from (by (with_reducible repeat (first | apply Kd.S_alloc | apply Kd.S_drewN | apply Kd.S_drew)); exact Kd.S_mono qc.out (fun k_ hk => ⟨trivial, fun e_ => hk e_⟩))); obtain ⟨oki12, ce12, hcl12, hM12, hcc12, hfr12, hoki12, hH12⟩ := Kd.S_elem qH.out z27 (qa : Int) (of_decide_eq_true (by first | (with_reducible assumption) | assumption)) (by have h_ : (qa : Int) < ((qb.length : Int) : Int) := of_decide_eq_true (by first | (with_reducible assumption) | assumption); first | exact h_ | (have e_ := (Kd.S_reads' qc.out).1; omega) | simpa using h_); obtain ⟨ve12_0, rfl, ge12_0⟩ := k27_openM hM12; have qr := Kd.S_seg hH12 (of_decide_eq_true (by first | (with_reducible assumption) | assumption)) (by have h_ : (qa : Int) < ((qb.length : Int) : Int) := of_decide_eq_true (by first | (with_reducible assumption) | assumption); first | exact h_ | (have e_ := (Kd.S_reads' qc.out).1; omega) | simpa using h_) (seg := [qo, .int .i64 qg, .bool qh]) (j := 0) (show 3 ≤ 3 from by decide) (x' := (⟨qk, qg, qh⟩ : S27)) (k27_mkM _ _ _ (⟨qk, qg, qh⟩ : S27) (Kd.R_mono (Kd.R_tight rfl (Kd.R_mono (ok' := fun k_ => ((fun _ => True)) k_ ∧ k_ ≠ go10) (Kd.R_apart' (qi.out) (Kd.S_typed qc.out) (by decide)) (fun k_ hk => ⟨trivial, fun e_ => (hk.2) (by rw [e_]; rfl)⟩))) (fun _ h_ => Or.inr (h_)))) (fun _ hk => hk) (fun k_ hk_ => ((Kd.R_mono (ok' := fun k_ => ((fun _ => True)) k_ ∧ k_ ≠ go10) (Kd.R_apart' (qi.out) (Kd.S_typed qc.out) (by decide)) (fun k_ hk => ⟨trivial, fun e_ => (hk.2) (by rw [e_]; rfl)⟩))).1 k_ hk_.symm); have qs := hcc12 0 _ rfl; (try simp only [show (k27).sz = 3 from rfl, Nat.mul_one, Nat.add_zero] at qs); have hf12_0 := hfr12 0; (try simp only [show (k27).sz = 3 from rfl, Nat.mul_one, Nat.add_zero] at hf12_0); have qt := hcc12 1 _ rfl; (try simp only [show (k27).sz = 3 from rfl, Nat.mul_one, Nat.add_zero] at qt); have hf12_1 := hfr12 1; (try simp only [show (k27).sz = 3 from rfl, Nat.mul_one, Nat.add_zero] at hf12_1); have qu := hcc12 2 _ rfl; (try simp only [show (k27).sz = 3 from rfl, Nat.mul_one, Nat.add_zero] at qu); have hf12_2 := hfr12 2; (try simp only [show (k27).sz = 3 from rfl, Nat.mul_one, Nat.add_zero] at hf12_2); clear hcl12 hcc12 hfr12 hM12 hoki12 hH12) | ((with_reducible refine gate_store (t := 27) (p := 21) rfl ?_); refine store_event (t := 27) (p := 21) (v := ?vo_w13) (w1 := (((qn.setCell ⟨go10, (qa : Int).toNat * 3, none⟩ (qo)).setCell ⟨go10, (qa : Int).toNat * 3 + 1, none⟩ (.int .i64 qg)).setCell ⟨go10, (qa : Int).toNat * 3 + 2, none⟩ (.bool qh))) ?hg ?ho ?hn ?hr ?_; (case ho => rfl); (case hg => rfl); (case hn => rfl); (case hr => (obtain ⟨Av_, cv_, ev_⟩ := Kd.R_slice qi.out; subst ev_; first | (go_simp; done) | (go_simp; rfl))); intro qI hw; have hg : qn.grownBy qI (some go10) := (by rw [hw]; exact qr.2); have hp_ : Kd.S k27 27 qI w.heap.size (fun _ => True) (.slice (some ⟨go10, 0, none⟩) qb.length qw) y165 := (by rw [hw, Ny165.out]; exact qr.1); clear qr; replace qc := Aside0.mk (hp_); replace HB := Aside0.mk ((by rw [hw]; exact below_set (below_set (below_set (HB.out) qq.out) qq.out) qq.out : Below w.heap.size w qI)); clear qi; clear hg hw hp_))
   go_roundg k1
   case measure => have := HK1.out; omega
   case rel => exact ⟨(y165), (wrap64 (qa + 1)), (by first | rfl | (simp; done) | (simp [*]; done)), H', ⟨by have := HK1.out; omega⟩, ⟨by (with_reducible repeat (first | apply Kd.S_alloc | apply Kd.S_drewN | apply Kd.S_drew)); exact qc.out⟩, ⟨bb_ HB⟩⟩

/-! ### laws_toCell: function 20 -/
def laws_toCell.f (k : Nat) (a0_0 : Int) (l0_1 : List (S24)) : Option (Int × (List (S27))) := (laws_toAtomS.f k l0_1).bind fun qd => (some (a0_0, qd))
theorem laws_toCell.mono : ∀ a0 a1 k, LeO (laws_toCell.f k a0 a1) (laws_toCell.f (k + 1) a0 a1) := by
 intro a0 a1 k
 unfold laws_toCell.f
 repeat' first
   | (with_reducible exact laws_toAtomS.mono _ _)
   | (with_reducible exact LeO.refl _)
   | (with_reducible exact LeO.none _)
   | (with_reducible refine LeO.ite ?_ ?_)
   | (with_reducible refine LeO.bind ?_ (fun _ => ?_))
   | exact laws_toAtomS.mono _ _
   | exact LeO.none _
   | refine LeO.ite ?_ ?_
   | refine LeO.bind ?_ (fun _ => ?_)
set_option maxHeartbeats 8000000 in
set_option maxRecDepth 100000 in
theorem laws_toCell.calls (k : Nat) (a0_0 : Int) (A0_1 : Option Addr) (c0_1 : Nat) (l0_1 : List (S24)) (r1 : Int) (r2 : List (S27)) (w : World) (hr0_1 : Kd.C k24 w A0_1 l0_1.length l0_1) (hc0_1 : l0_1.length ≤ c0_1) (h : laws_toCell.f k a0_0 l0_1 = some (r1, r2)) :
  Calls Tryd.prog 20 #[.agg #[.int .i64 a0_0, .slice A0_1 l0_1.length c0_1]] w fun e w' => ∃ v1_ : Value, e = .returned (.agg #[.int .i64 r1, v1_]) ∧ Kd.S k27 27 w' w.heap.size (fun _ => True) v1_ r2 ∧ Below w.heap.size w w' := by
 have hu36 := Tryd.underlying36
 have hu41 := Tryd.underlying41
 have qo := Aside0.mk hr0_1
 have qp := Aside0.mk hc0_1
 clear hr0_1 hc0_1
 have HB := Aside0.mk (Below.refl w.heap.size w)
 have H : ((laws_toAtomS.f k l0_1).bind fun qd => (some (a0_0, qd))) = some (r1, r2) := h
 clear h
 replace H := Option.bind_eq_some_iff.mp H
 obtain ⟨qd, A20, H⟩ := H
 replace H : (some (a0_0, qd)) = some (r1, r2) := H
 have A2 := Aside0.mk A20
 clear A20
 simp only [Option.some.injEq, Prod.mk.injEq] at H
 obtain ⟨rfl, rfl⟩ := H
 go_enter Tryd.func20, Tryd.ntmps20
 go_wp2_with (first | ((with_reducible refine gate_dst (N := 1) rfl ?_); refine bx_ (cs := #[.int .i64 a0_0, .slice A0_1 l0_1.length c0_1]) (t := 36) ?_; intro qH hg w3 hbox hb; have qa := Aside0.mk (hbox); have qI := hz_ HB hg; have qJ := hz_ HB hg; replace HB := bS_ HB hb; clear hb hbox hg) | ((with_reducible refine gate_dst (N := 2) rfl ?_); refine bx_ (cs := #[.int .i64 0, .slice none 0 0]) (t := 41) ?_; intro qk hg w4 hbox hb; have qb := Aside0.mk (hbox); have qK := hz_ HB hg; have qL := hz_ HB hg; replace HB := bS_ HB hb; have qf := nL_ qa hg; have qg := nG_ qa hg; replace qa := kB_ qa hb; clear hb hbox hg) | ((with_reducible refine gate_dst (N := 3) rfl ?_); refine bx_ (cs := #[.int .i64 0, .slice none 0 0]) (t := 41) ?_; intro qq hg w5 hbox hb; have qe := Aside0.mk (hbox); have qM := hz_ HB hg; have qN := hz_ HB hg; replace HB := bS_ HB hb; have qh := nL_ qa hg; have qi := nG_ qa hg; replace qa := kB_ qa hb; have qc := nL_ qb hg; have qj := nG_ qb hg; replace qb := kB_ qb hb; clear hb hbox hg; have qO := qf.out; have qP := qg.out; have qQ := qh.out; have qR := qi.out; obtain ⟨qD, qE, qF, qG⟩ := b2_ qa; have qS := qj.out; have qT := qc.out; obtain ⟨qr, qs, qt, qu⟩ := b2_ qe) | ((with_reducible refine gate_callee (f := 65) rfl ?_); refine gL_ (some 9) Tryd.func65 #[.slice A0_1 l0_1.length c0_1] ?_; (with_reducible refine (laws_toAtomS.calls k _ _ l0_1 qd _ ?side1 ?side2 A2.out).mono ?_); (case side1 => exact Kd.C_below qo.out (bb_ HB)); (case side2 => exact qp.out); rintro e qV ⟨qU, rfl, ho0, hb⟩; refine ⟨_, rfl, ?_⟩; have ql := Aside0.mk (Kd.S_lower ho0 (bz_ HB)); replace qa := kF_ qa hb; replace qb := kF_ qb hb; replace qe := kP_ (cs' := #[.int .i64 a0_0, .slice none 0 0]) qe hb; replace HB := bS_ HB hb; clear hb ho0; obtain ⟨qm, qn, eo12⟩ := Kd.S_slice ql.out; subst eo12; obtain ⟨qv, qw, qx, qy⟩ := b2_ qe; obtain ⟨qz, qA, qB, qC⟩ := b2_ qb))
 refine bodyPost_ret (results_cell_row rfl _ _ qk 41 #[.int .i64 a0_0, .slice qm qd.length qn] (0, 0) _ rfl (by (with_reducible repeat (first | refine blk_drewN ?_ _ | refine blk_drew ?_ | refine blk_alloc ?_ _)); refine blk_put (cs := #[.int .i64 a0_0, .slice none 0 0]) ?_ 1 _ rfl; (with_reducible repeat (first | refine blk_drewN ?_ _ | refine blk_drew ?_ | refine blk_alloc ?_ _)); refine blk_put (cs := #[.int .i64 0, .slice none 0 0]) ?_ 0 _ rfl; (with_reducible repeat (first | refine blk_drewN ?_ _ | refine blk_drew ?_ | refine blk_alloc ?_ _)); refine blk_far ?_ qc.out _; (with_reducible repeat (first | refine blk_drewN ?_ _ | refine blk_drew ?_ | refine blk_alloc ?_ _)); exact qb.out) Tryd.underlying41 rfl (by kernel_rfl)) rfl ?_
 exact ⟨_, by first | rfl | (simp [errW_none, errW_some] <;> rfl) | (simp [*, errW_none, errW_some] <;> rfl), by (with_reducible repeat (first | apply Kd.S_alloc | apply Kd.S_drewN | apply Kd.S_drew)); exact Kd.S_mono (Kd.S_far (p := ⟨qk, 1, none⟩) (Kd.S_far (p := ⟨qk, 0, none⟩) (Kd.S_far (p := ⟨qq, 1, none⟩) (Kd.S_types (Kd.S_types ql.out qe.out (by decide)) qb.out (by decide)) (fun _ hk => hk.1.2) (.slice qm qd.length qn)) (fun _ hk => hk.2) (.int .i64 a0_0)) (fun _ hk => hk.2) (.slice qm qd.length qn)) (fun _ hk => trivial), bb_ HB⟩

/-! ### laws_toCellS: function 75 -/
def laws_toCellS.l0 : Nat → List (S36) → List (S41) → Int → Option ((List (S41)))
 | 0, _, _, _ => none
 | k + 1, x0, x3, x4 => if x4 < (x0.length : Int) then (if 0 ≤ x4 then ((laws_toCell.f k ((rd_T36 x0 x4).f0) ((rd_T36 x0 x4).f1)).bind fun qk => (if x4 < (x3.length : Int) then (laws_toCellS.l0 k x0 (x3.set (x4 : Int).toNat (⟨qk.1, qk.2⟩ : S41)) (wrap64 (x4 + 1))) else (none))) else (none)) else (some x3)
def laws_toCellS.f (k : Nat) (l0 : List (S36)) : Option ((List (S41))) := if 0 ≤ (l0.length : Int) then (if ((l0.length : Int) : Int).toNat ≤ 8796093022208 then (laws_toCellS.l0 k l0 (List.replicate ((l0.length : Int) : Int).toNat z41) 0) else (none)) else (none)
theorem laws_toCellS.mono_l : ∀ k, (∀ y0 y1 y2, LeO (laws_toCellS.l0 k y0 y1 y2) (laws_toCellS.l0 (k + 1) y0 y1 y2))
 | 0 => fun _ _ _ r h => by simp [laws_toCellS.l0] at h
 | k + 1 => by
  have ih0 := laws_toCellS.mono_l k
  ·
   intro y0 y1 y2
   unfold laws_toCellS.l0
   repeat' first
   | (with_reducible exact ih0 _ _ _)
   | (with_reducible exact laws_toCell.mono _ _ _)
   | (with_reducible exact LeO.refl _)
   | (with_reducible exact LeO.none _)
   | (with_reducible refine LeO.ite ?_ ?_)
   | (with_reducible refine LeO.bind ?_ (fun _ => ?_))
   | exact ih0 _ _ _
   | exact laws_toCell.mono _ _ _
   | exact LeO.none _
   | refine LeO.ite ?_ ?_
   | refine LeO.bind ?_ (fun _ => ?_)
theorem laws_toCellS.mono : ∀ a0 k, LeO (laws_toCellS.f k a0) (laws_toCellS.f (k + 1) a0) := by
 intro a0 k
 have ih0 := laws_toCellS.mono_l k
 unfold laws_toCellS.f
 repeat' first
   | (with_reducible exact ih0 _ _ _)
   | (with_reducible exact laws_toCell.mono _ _ _)
   | (with_reducible exact LeO.refl _)
   | (with_reducible exact LeO.none _)
   | (with_reducible refine LeO.ite ?_ ?_)
   | (with_reducible refine LeO.bind ?_ (fun _ => ?_))
   | exact ih0 _ _ _
   | exact laws_toCell.mono _ _ _
   | exact LeO.none _
   | refine LeO.ite ?_ ?_
   | refine LeO.bind ?_ (fun _ => ?_)
set_option maxHeartbeats 8000000 in
set_option maxRecDepth 100000 in
theorem laws_toCellS.calls (k : Nat) (A0 : Option Addr) (c0 : Nat) (l0 : List (S36)) (r : List (S41)) (w : World) (hr0 : Kd.C k36 w A0 l0.length l0) (hc0 : l0.length ≤ c0) (h : laws_toCellS.f k l0 = some r) :
  Calls Tryd.prog 75 #[.slice A0 l0.length c0] w fun e w' => ∃ v0_ : Value, e = .returned (v0_) ∧ Kd.R k41 41 w' w.heap.size (fun _ => True) v0_ r ∧ Below w.heap.size w w' := by
 have hu36 := Tryd.underlying36
 have hu41 := Tryd.underlying41
 have HR0 := Aside0.mk hr0
 have HC0 := Aside0.mk hc0
 clear hr0 hc0
 have HB := Aside0.mk (Below.refl w.heap.size w)
 have H : (if 0 ≤ (l0.length : Int) then (if ((l0.length : Int) : Int).toNat ≤ 8796093022208 then (laws_toCellS.l0 k l0 (List.replicate ((l0.length : Int) : Int).toNat z41) 0) else (none)) else (none)) = some r := h
 clear h
 by_cases c2 : 0 ≤ (l0.length : Int)
 rotate_left
 ·
  rw [if_neg c2] at H
  exact absurd H (by simp)
 rw [if_pos c2] at H
 have qw := eq_true c2
 have qx : decide (0 ≤ (l0.length : Int)) = true := decide_eq_true c2
 clear c2
 by_cases c3 : ((l0.length : Int) : Int).toNat ≤ 8796093022208
 rotate_left
 ·
  rw [if_neg c3] at H
  exact absurd H (by simp)
 rw [if_pos c3] at H
 have qy := eq_true c3
 have qz : decide (((l0.length : Int) : Int).toNat ≤ 8796093022208) = true := decide_eq_true c3
 clear c3
 obtain ⟨y172, hy172⟩ : ∃ y_ : List (S41), y_ = (List.replicate ((l0.length : Int) : Int).toNat z41) := ⟨_, rfl⟩
 replace H : (laws_toCellS.l0 k l0 y172 0) = some r := by first | (rw [hy172]; with_reducible exact H) | (have H2_ := (Option.bind_some _ _).symm.trans H; rw [hy172]; with_reducible exact H2_) | (have H2_ := (Option.bind_some _ _).symm.trans H; with_reducible exact H2_) | with_reducible exact H | (rw [hy172]; exact H) | exact H
 have Ny172 := Aside0.mk hy172
 clear hy172
 have H' := Aside0.mk H
 clear H
 go_enter Tryd.func75, Tryd.ntmps75
 go_wp2_with (first | ((with_reducible refine gate_dst (N := 7) rfl ?_); refine Kd.R_make k41 _ 41 rfl (N := 7) rfl 55 _ _ rfl (l0.length : Int) rfl rfl Tryd.underlying55 (.agg #[(.int .i64 0), (.slice none 0 0)]) 32 info41 rfl (by decide) (by omega) z41 (ok := fun _ => True) (okp := fun _ => True) (k41_mkM _ _ _ z41 (Kd.R_nil _ _ _ _ _)) (fun _ hk => hk) trivial (of_decide_eq_true (by first | (with_reducible assumption) | assumption)) (Nat.le_trans (Nat.mul_le_mul_right _ (of_decide_eq_true (by first | (with_reducible assumption) | assumption) : (l0.length : Int).toNat ≤ 8796093022208)) (by omega)) (Below.refl _ _) (Nat.le_refl _) ?_; intro qA w4 ho5 hb hg_ hnew_; clear hg_ hnew_; (first | rw [← Ny172.out] at ho5 | (simp only [Int.reduceToNat] at ho5; rw [← Ny172.out] at ho5)); have qr := Aside0.mk (Kd.R_lower ho5 (bz_ HB)); replace HB := bS_ HB hb; clear hb ho5))
 go_loopg [4] k (fun kq v4 w' => ∃ (qb : List (S41)) (qa : Int), v4 = .int .i64 qa ∧ Aside0 (laws_toCellS.l0 kq l0 qb qa = some r) ∧ Aside0 (kq ≤ k) ∧ Aside0 (Kd.R k41 41 w' w.heap.size (fun _ => True) qA qb) ∧ Aside0 (Below w.heap.size w w'))
 case atStart => exact ⟨(y172), (0), (by first | rfl | (simp; done) | (simp [*]; done)), H', ⟨Nat.le_refl _⟩, ⟨by (with_reducible repeat (first | apply Kd.R_alloc | apply Kd.R_drewN | apply Kd.R_drew)); exact qr.out⟩, ⟨bb_ HB⟩⟩
 case round =>
  clear H'
  try clear c2
  try clear qw
  try clear qx
  try clear p2
  try clear c3
  try clear qy
  try clear qz
  obtain ⟨qb, qa, rfl, HA, HK1, qc, HB⟩ := hrel
  cases gk with
  | zero => exact absurd HA.out (by simp [laws_toCellS.l0])
  | succ k1 =>
   have H := HA.out
   clear HA
   simp only [laws_toCellS.l0] at H
   by_cases c6 : qa < (l0.length : Int)
   rotate_left
   ·
    rw [if_neg c6] at H
    have qB : decide (qa < (l0.length : Int)) = false := decide_eq_false c6
    clear c6
    obtain rfl := Option.some.inj H
    go_wp2
    go_ret
    exact ⟨_, by first | rfl | (simp [errW_none, errW_some] <;> rfl) | (simp [*, errW_none, errW_some] <;> rfl), by (with_reducible repeat (first | apply Kd.R_alloc | apply Kd.R_drewN | apply Kd.R_drew)); exact qc.out, bb_ HB⟩
   rw [if_pos c6] at H
   have qB : decide (qa < (l0.length : Int)) = true := decide_eq_true c6
   clear c6
   by_cases c7 : 0 ≤ qa
   rotate_left
   ·
    rw [if_neg c7] at H
    exact absurd H (by simp)
   rw [if_pos c7] at H
   have qG : decide (0 ≤ qa) = true := decide_eq_true c7
   clear c7
   replace H := Option.bind_eq_some_iff.mp H
   obtain ⟨⟨qf, qg⟩, A80, H⟩ := H
   replace H : (if qa < (qb.length : Int) then (laws_toCellS.l0 k1 l0 (qb.set (qa : Int).toNat (⟨qf, qg⟩ : S41)) (wrap64 (qa + 1))) else (none)) = some r := H
   have A8 := Aside0.mk A80
   clear A80
   by_cases c9 : qa < (qb.length : Int)
   rotate_left
   ·
    rw [if_neg c9] at H
    exact absurd H (by simp)
   rw [if_pos c9] at H
   have qH : decide (qa < (qb.length : Int)) = true := decide_eq_true c9
   clear c9
   obtain ⟨y180, hy180⟩ : ∃ y_ : List (S41), y_ = (qb.set (qa : Int).toNat (⟨qf, qg⟩ : S41)) := ⟨_, rfl⟩
   replace H : (laws_toCellS.l0 k1 l0 y180 (wrap64 (qa + 1))) = some r := by first | (rw [hy180]; with_reducible exact H) | (have H2_ := (Option.bind_some _ _).symm.trans H; rw [hy180]; with_reducible exact H2_) | (have H2_ := (Option.bind_some _ _).symm.trans H; with_reducible exact H2_) | with_reducible exact H | (rw [hy180]; exact H) | exact H
   have Ny180 := Aside0.mk hy180
   clear hy180
   have H' := Aside0.mk H
   clear H
   have p175 : 0 ≤ (qa : Int) := of_decide_eq_true (by first | (with_reducible assumption) | assumption)
   have q175 : qa < (l0.length : Int) := of_decide_eq_true (by first | (with_reducible assumption) | assumption)
   obtain ⟨qF, ql, c175_1, e175, qd, qe, hl175_1, hi175_1⟩ := at_T36 HR0.out qa p175 q175
   cases e175
   replace qd := (HB.out.cell (World.block_lt_of_cell? w _ qd)).trans qd
   replace qe := (HB.out.cell (World.block_lt_of_cell? w _ qe)).trans qe
   have qi := Aside0.mk hi175_1
   have qj := Aside0.mk hl175_1
   clear hi175_1 hl175_1
   replace p175 := eq_true p175
   replace q175 := eq_true q175
   go_wp2_with (first | ((with_reducible refine gate_callee (f := 20) rfl ?_); refine gL_ (some 20) Tryd.func20 #[.agg #[.int .i64 ((rd_T36 l0 qa).f0), .slice ql ((rd_T36 l0 qa).f1).length c175_1]] ?_; (with_reducible refine (laws_toCell.calls k1 ((rd_T36 l0 qa).f0) _ _ ((rd_T36 l0 qa).f1) qf qg _ ?side1 ?side2 A8.out).mono ?_); (case side1 => exact cb_ qi HB); (case side2 => exact qj.out); rintro e qm ⟨qn, rfl, ho0, hb⟩; refine ⟨_, rfl, ?_⟩; replace qc := Aside0.mk (Kd.R_elder' (rm_ qc) (Kd.S_base ho0) hb); have qh := Aside0.mk (Kd.S_lower ho0 (bz_ HB)); replace HB := bS_ HB hb; clear hb ho0; have p10 : 0 ≤ (qa : Int) := of_decide_eq_true (by first | (with_reducible assumption) | assumption); have q10 : (qa : Int) < ((qb.length : Int) : Int) := of_decide_eq_true (by first | (with_reducible assumption) | assumption); obtain ⟨go10, qs, eo10, qt, gl10, cl10, HG10⟩ := Kd.R_form qc.out (by omega); (first | cases eo10 | (injection eo10 with ea_ en_ ec_; (first | subst ea_ | (injection ea_ with ea_; subst ea_)); subst ec_; clear en_)); have qu := Aside0.mk qt; have qI := Aside0.mk HG10; clear qt gl10 HG10; obtain ⟨ce10, hcl10, hM10, hcc10, hfr10⟩ := Kd.R_elem qc.out z41 (qa : Int) p10 q10; obtain ⟨ve10_1, rfl, ge10_1⟩ := k41_openM hM10; have qC : qm.cell? ⟨go10, (qa : Int).toNat * 2, none⟩ = some (.int .i64 ((rd_T41 qb qa).f0)) := hcc10 0 _ rfl; have qD : qm.cell? ⟨go10, (qa : Int).toNat * 2 + 1, none⟩ = some (ve10_1) := hcc10 1 _ rfl; have hf10_0 : qm.frozen? ⟨go10, (qa : Int).toNat * 2, none⟩ = false := hfr10 0; have hf10_1 : qm.frozen? ⟨go10, (qa : Int).toNat * 2 + 1, none⟩ = false := hfr10 1; clear hcl10 hcc10 hfr10 hM10; replace p10 := eq_true p10; replace q10 := eq_true q10; have n_ := Aside0.mk (Kd.R_mono (ok' := (fun k_ => some k_ ≠ (qn : Value).ownBlock)) qc.out (fun k_ hk => hk.2)); clear qc; have qc := n_; clear n_; have qv := Aside0.mk (show Kd.R k41 41 qm w.heap.size (fun _ => True) (.slice (some ⟨go10, 0, none⟩) qb.length qs) qb from (by (with_reducible repeat (first | apply Kd.R_alloc | apply Kd.R_drewN | apply Kd.R_drew)); exact Kd.R_mono qc.out (fun _ hk => trivial))); obtain ⟨ce12, hcl12, hM12, hcc12, hfr12⟩ := Kd.R_elem qv.out z41 (qa : Int) (of_decide_eq_true (by first | (with_reducible assumption) | assumption)) (by have h_ : (qa : Int) < ((qb.length : Int) : Int) := of_decide_eq_true (by first | (with_reducible assumption) | assumption); first | exact h_ | (have e_ := (Kd.R_reads' qc.out).1; omega) | simpa using h_); obtain ⟨ve12_1, rfl, ge12_1⟩ := k41_openM hM12; have qo := Kd.R_seg qv.out (qa : Int) (of_decide_eq_true (by first | (with_reducible assumption) | assumption)) (by have h_ : (qa : Int) < ((qb.length : Int) : Int) := of_decide_eq_true (by first | (with_reducible assumption) | assumption); first | exact h_ | (have e_ := (Kd.R_reads' qc.out).1; omega) | simpa using h_) (seg := [.int .i64 qf, qn]) (j := 0) hcl12 hcc12 (show 2 ≤ 2 from by decide) (x' := (⟨qf, qg⟩ : S41)) (k41_mkM _ _ _ (⟨qf, qg⟩ : S41) (Kd.R_mono (Kd.R_apart' ((Kd.S_R qh.out)) (Kd.R_typed qc.out) (by decide)) (fun k_ hk => ⟨trivial, fun e_ => (hk.2) (by rw [e_]; rfl)⟩))) (fun _ hk => hk); have qp := hcc12 0 _ rfl; (try simp only [show (k41).sz = 2 from rfl, Nat.mul_one, Nat.add_zero] at qp); have hf12_0 := hfr12 0; (try simp only [show (k41).sz = 2 from rfl, Nat.mul_one, Nat.add_zero] at hf12_0); have qq := hcc12 1 _ rfl; (try simp only [show (k41).sz = 2 from rfl, Nat.mul_one, Nat.add_zero] at qq); have hf12_1 := hfr12 1; (try simp only [show (k41).sz = 2 from rfl, Nat.mul_one, Nat.add_zero] at hf12_1); clear hcl12 hcc12 hfr12 hM12) | ((with_reducible refine gate_store (t := 41) (p := 21) rfl ?_); refine store_event (t := 41) (p := 21) (v := ?vo_w13) (w1 := ((qm.setCell ⟨go10, (qa : Int).toNat * 2, none⟩ (.int .i64 qf)).setCell ⟨go10, (qa : Int).toNat * 2 + 1, none⟩ (qn))) ?hg ?ho ?hn ?hr ?_; (case ho => rfl); (case hg => rfl); (case hn => rfl); (case hr => (obtain ⟨Av_, cv_, ev_⟩ := Kd.S_slice qh.out; subst ev_; first | (go_simp; done) | (go_simp; rfl))); intro qE hw; have hg : qm.grownBy qE (some go10) := (by rw [hw]; exact qo.2); have hp_ : Kd.R k41 41 qE w.heap.size (fun _ => True) (.slice (some ⟨go10, 0, none⟩) qb.length qs) y180 := (by rw [hw, Ny180.out]; exact qo.1); clear qo; replace qc := Aside0.mk (hp_); replace HB := Aside0.mk ((by rw [hw]; exact below_set (below_set (HB.out) qu.out) qu.out : Below w.heap.size w qE)); clear qh; clear hg hw hp_))
   go_roundg k1
   case measure => have := HK1.out; omega
   case rel => exact ⟨(y180), (wrap64 (qa + 1)), (by first | rfl | (simp; done) | (simp [*]; done)), H', ⟨by have := HK1.out; omega⟩, ⟨by (with_reducible repeat (first | apply Kd.R_alloc | apply Kd.R_drewN | apply Kd.R_drew)); exact qc.out⟩, ⟨bb_ HB⟩⟩

/-! ### laws_toRegion: function 28 -/
def laws_toRegion.f (k : Nat) (a0_0 : Int) (l0_1 : List (S36)) : Option (Int × (List (S41))) := (laws_toCellS.f k l0_1).bind fun qd => (some (a0_0, qd))
theorem laws_toRegion.mono : ∀ a0 a1 k, LeO (laws_toRegion.f k a0 a1) (laws_toRegion.f (k + 1) a0 a1) := by
 intro a0 a1 k
 unfold laws_toRegion.f
 repeat' first
   | (with_reducible exact laws_toCellS.mono _ _)
   | (with_reducible exact LeO.refl _)
   | (with_reducible exact LeO.none _)
   | (with_reducible refine LeO.ite ?_ ?_)
   | (with_reducible refine LeO.bind ?_ (fun _ => ?_))
   | exact laws_toCellS.mono _ _
   | exact LeO.none _
   | refine LeO.ite ?_ ?_
   | refine LeO.bind ?_ (fun _ => ?_)
set_option maxHeartbeats 8000000 in
set_option maxRecDepth 100000 in
theorem laws_toRegion.calls (k : Nat) (a0_0 : Int) (A0_1 : Option Addr) (c0_1 : Nat) (l0_1 : List (S36)) (r1 : Int) (r2 : List (S41)) (w : World) (hr0_1 : Kd.C k36 w A0_1 l0_1.length l0_1) (hc0_1 : l0_1.length ≤ c0_1) (h : laws_toRegion.f k a0_0 l0_1 = some (r1, r2)) :
  Calls Tryd.prog 28 #[.agg #[.int .i64 a0_0, .slice A0_1 l0_1.length c0_1]] w fun e w' => ∃ v1_ : Value, e = .returned (.agg #[.int .i64 r1, v1_]) ∧ Kd.R k41 41 w' w.heap.size (fun _ => True) v1_ r2 ∧ Below w.heap.size w w' := by
 have hu52 := Tryd.underlying52
 have hu57 := Tryd.underlying57
 have qo := Aside0.mk hr0_1
 have qp := Aside0.mk hc0_1
 clear hr0_1 hc0_1
 have HB := Aside0.mk (Below.refl w.heap.size w)
 have H : ((laws_toCellS.f k l0_1).bind fun qd => (some (a0_0, qd))) = some (r1, r2) := h
 clear h
 replace H := Option.bind_eq_some_iff.mp H
 obtain ⟨qd, A20, H⟩ := H
 replace H : (some (a0_0, qd)) = some (r1, r2) := H
 have A2 := Aside0.mk A20
 clear A20
 simp only [Option.some.injEq, Prod.mk.injEq] at H
 obtain ⟨rfl, rfl⟩ := H
 go_enter Tryd.func28, Tryd.ntmps28
 go_wp2_with (first | ((with_reducible refine gate_dst (N := 1) rfl ?_); refine bx_ (cs := #[.int .i64 a0_0, .slice A0_1 l0_1.length c0_1]) (t := 52) ?_; intro qH hg w3 hbox hb; have qa := Aside0.mk (hbox); have qI := hz_ HB hg; have qJ := hz_ HB hg; replace HB := bS_ HB hb; clear hb hbox hg) | ((with_reducible refine gate_dst (N := 2) rfl ?_); refine bx_ (cs := #[.int .i64 0, .slice none 0 0]) (t := 57) ?_; intro qk hg w4 hbox hb; have qb := Aside0.mk (hbox); have qK := hz_ HB hg; have qL := hz_ HB hg; replace HB := bS_ HB hb; have qf := nL_ qa hg; have qg := nG_ qa hg; replace qa := kB_ qa hb; clear hb hbox hg) | ((with_reducible refine gate_dst (N := 3) rfl ?_); refine bx_ (cs := #[.int .i64 0, .slice none 0 0]) (t := 57) ?_; intro qq hg w5 hbox hb; have qe := Aside0.mk (hbox); have qM := hz_ HB hg; have qN := hz_ HB hg; replace HB := bS_ HB hb; have qh := nL_ qa hg; have qi := nG_ qa hg; replace qa := kB_ qa hb; have qc := nL_ qb hg; have qj := nG_ qb hg; replace qb := kB_ qb hb; clear hb hbox hg; have qO := qf.out; have qP := qg.out; have qQ := qh.out; have qR := qi.out; obtain ⟨qD, qE, qF, qG⟩ := b2_ qa; have qS := qj.out; have qT := qc.out; obtain ⟨qr, qs, qt, qu⟩ := b2_ qe) | ((with_reducible refine gate_callee (f := 75) rfl ?_); refine gL_ (some 9) Tryd.func75 #[.slice A0_1 l0_1.length c0_1] ?_; (with_reducible refine (laws_toCellS.calls k _ _ l0_1 qd _ ?side1 ?side2 A2.out).mono ?_); (case side1 => exact Kd.C_below qo.out (bb_ HB)); (case side2 => exact qp.out); rintro e qV ⟨qU, rfl, ho0, hb⟩; refine ⟨_, rfl, ?_⟩; have ql := Aside0.mk (Kd.R_lower ho0 (bz_ HB)); replace qa := kF_ qa hb; replace qb := kF_ qb hb; replace qe := kP_ (cs' := #[.int .i64 a0_0, .slice none 0 0]) qe hb; replace HB := bS_ HB hb; clear hb ho0; obtain ⟨qm, qn, eo12⟩ := Kd.R_slice ql.out; subst eo12; obtain ⟨qv, qw, qx, qy⟩ := b2_ qe; obtain ⟨qz, qA, qB, qC⟩ := b2_ qb))
 refine bodyPost_ret (results_cell_row rfl _ _ qk 57 #[.int .i64 a0_0, .slice qm qd.length qn] (0, 0) _ rfl (by (with_reducible repeat (first | refine blk_drewN ?_ _ | refine blk_drew ?_ | refine blk_alloc ?_ _)); refine blk_put (cs := #[.int .i64 a0_0, .slice none 0 0]) ?_ 1 _ rfl; (with_reducible repeat (first | refine blk_drewN ?_ _ | refine blk_drew ?_ | refine blk_alloc ?_ _)); refine blk_put (cs := #[.int .i64 0, .slice none 0 0]) ?_ 0 _ rfl; (with_reducible repeat (first | refine blk_drewN ?_ _ | refine blk_drew ?_ | refine blk_alloc ?_ _)); refine blk_far ?_ qc.out _; (with_reducible repeat (first | refine blk_drewN ?_ _ | refine blk_drew ?_ | refine blk_alloc ?_ _)); exact qb.out) Tryd.underlying57 rfl (by kernel_rfl)) rfl ?_
 exact ⟨_, by first | rfl | (simp [errW_none, errW_some] <;> rfl) | (simp [*, errW_none, errW_some] <;> rfl), by (with_reducible repeat (first | apply Kd.R_alloc | apply Kd.R_drewN | apply Kd.R_drew)); exact Kd.R_mono (Kd.R_far (p := ⟨qk, 1, none⟩) (Kd.R_far (p := ⟨qk, 0, none⟩) (Kd.R_far (p := ⟨qq, 1, none⟩) (Kd.R_types (Kd.R_types ql.out qe.out (by decide)) qb.out (by decide)) (fun _ hk => hk.1.2) (.slice qm qd.length qn)) (fun _ hk => hk.2) (.int .i64 a0_0)) (fun _ hk => hk.2) (.slice qm qd.length qn)) (fun _ hk => trivial), bb_ HB⟩

-- NOT PRINTED: function 111 (abi_NoEscape)

-- NOT PRINTED: function 94 (strings_Builder_copyCheck)

-- NOT PRINTED: function 54 (strings_Builder_WriteByte)

-- NOT PRINTED: function 55 (strings_Builder_WriteString)

/-! ### strconv_Itoa: function 95 -/
class LaidW (w : World) : Prop where
 out : Lib.TabIs Tryd.prog w "internal/strconv.uint64pow10" .u64 Lib.pow10Tab
def strconv_Itoa.f (a0 : Int) : Option (ByteArray) := if -9223372036854775808 ≤ a0 ∧ a0 ≤ 9223372036854775807 then some ⟨(Lib.itoa a0).toArray⟩ else none
theorem strconv_Itoa.calls (a0 : Int) (r : ByteArray) (w : World) (hL : LaidW w) (h : strconv_Itoa.f a0 = some r) :
  Calls Tryd.prog 95 #[.int .i64 a0] w fun e w' => e = .returned (.string r) ∧ Below w.heap.size w w' := by
 unfold strconv_Itoa.f at h
 split at h
 rotate_left
 ·
  exact absurd h (by simp)
 rename_i hb
 obtain rfl := Option.some.inj h
 refine (Tryd.strconv_Itoa a0 hb.1 hb.2 w hL.out).mono ?_
 rintro e w' ⟨rfl, k, os, rfl⟩
 exact ⟨rfl, Lib.below_grow _ _ (Nat.le_refl _) k os⟩

theorem laid_ {w W W2 : World} (hL : Aside0 (LaidW w)) (h : Aside0 (Below w.heap.size w W)) [k : Lts w W W2] : LaidW W2 := ⟨Lib.tabBelow_of_tabIs hL.out.out W2 (bb_ h)⟩

/-! ### impl_FormatInt: function 56 -/
def impl_FormatInt.f (a0 : Int) : Option (ByteArray) := (strconv_Itoa.f a0).bind fun qa => (some qa)
set_option maxHeartbeats 8000000 in
set_option maxRecDepth 100000 in
theorem impl_FormatInt.calls (a0 : Int) (r : ByteArray) (w : World) (hL : LaidW w) (h : impl_FormatInt.f a0 = some r) :
  Calls Tryd.prog 56 #[.int .i64 a0] w fun e w' => e = .returned (.string r) ∧ Below w.heap.size w w' := by
 have HL_ := Aside0.mk hL
 clear hL
 have HB := Aside0.mk (Below.refl w.heap.size w)
 have H : ((strconv_Itoa.f a0).bind fun qa => (some qa)) = some r := h
 clear h
 replace H := Option.bind_eq_some_iff.mp H
 obtain ⟨qa, A20, H⟩ := H
 replace H : (some qa) = some r := H
 have A2 := Aside0.mk A20
 clear A20
 obtain rfl := Option.some.inj H
 go_enter Tryd.func56, Tryd.ntmps56
 go_wp2_with (first | ((with_reducible refine gate_callee (f := 95) rfl ?_); refine gL_ (some 4) Tryd.func95 #[.int .i64 a0] ?_; (with_reducible refine (strconv_Itoa.calls (hL := laid_ HL_ HB) a0 qa _ A2.out).mono ?_); rintro e w3 ⟨rfl, hb⟩; refine ⟨_, rfl, ?_⟩; replace HB := bS_ HB hb; clear hb))
 go_ret
 exact ⟨by first | rfl | (simp [errW_none, errW_some] <;> rfl) | (simp [*, errW_none, errW_some] <;> rfl), bb_ HB⟩

-- NOT PRINTED: function 57 (strings_Builder_String)

/-! ### impl_IsNumber: function 61 -/
def impl_IsNumber.f (a0 : Int) : Option (Bool) := if a0 ≥ (-400000000) then (some (decide (a0 ≤ 400000000))) else (some false)
set_option maxHeartbeats 8000000 in
set_option maxRecDepth 100000 in
theorem impl_IsNumber.calls (a0 : Int) (r : Bool) (w : World) (h : impl_IsNumber.f a0 = some r) :
  Calls Tryd.prog 61 #[.int .i64 a0] w fun e w' => e = .returned (.bool r) ∧ Drawn0 w w' := by
 have H : (if a0 ≥ (-400000000) then (some (decide (a0 ≤ 400000000))) else (some false)) = some r := h
 clear h
 by_cases c2 : a0 ≥ (-400000000)
 ·
  rw [if_pos c2] at H
  have qa : decide ((-400000000) ≤ a0) = true := decide_eq_true c2
  clear c2
  obtain rfl := Option.some.inj H
  go_enter Tryd.func61, Tryd.ntmps61
  go_wp2
  go_ret
  exact ⟨by first | rfl | (simp; done) | (simp [*]; done), by repeat (first | exact Drawn0.refl _ | apply Drawn0.step)⟩
 rw [if_neg c2] at H
 have qa : decide ((-400000000) ≤ a0) = false := decide_eq_false c2
 clear c2
 obtain rfl := Option.some.inj H
 go_enter Tryd.func61, Tryd.ntmps61
 go_wp2
 go_ret
 exact ⟨by first | rfl | (simp; done) | (simp [*]; done), by repeat (first | exact Drawn0.refl _ | apply Drawn0.step)⟩

/-! ### impl_absolute: function 110 -/
def impl_absolute.f (a0 : Int) : Option (Int) := if a0 < 0 then (some (wrap64 (-a0))) else (some a0)
set_option maxHeartbeats 8000000 in
set_option maxRecDepth 100000 in
theorem impl_absolute.calls (a0 : Int) (r : Int) (w : World) (h : impl_absolute.f a0 = some r) :
  Calls Tryd.prog 110 #[.int .i64 a0] w fun e w' => e = .returned (.int .i64 r) ∧ Drawn0 w w' := by
 have H : (if a0 < 0 then (some (wrap64 (-a0))) else (some a0)) = some r := h
 clear h
 by_cases c2 : a0 < 0
 ·
  rw [if_pos c2] at H
  have qa : decide (a0 < 0) = true := decide_eq_true c2
  clear c2
  obtain rfl := Option.some.inj H
  go_enter Tryd.func110, Tryd.ntmps110
  go_wp2
  go_ret
  exact ⟨by first | rfl | (simp; done) | (simp [*]; done), by repeat (first | exact Drawn0.refl _ | apply Drawn0.step)⟩
 rw [if_neg c2] at H
 have qa : decide (a0 < 0) = false := decide_eq_false c2
 clear c2
 obtain rfl := Option.some.inj H
 go_enter Tryd.func110, Tryd.ntmps110
 go_wp2
 go_ret
 exact ⟨by first | rfl | (simp; done) | (simp [*]; done), by repeat (first | exact Drawn0.refl _ | apply Drawn0.step)⟩

/-! ### impl_commonDivisor: function 92 -/
def impl_commonDivisor.l0 : Nat → Int → Int → Option (Int)
 | 0, _, _ => none
 | k + 1, x0, x1 => if x1 = 0 then (some x0) else (impl_commonDivisor.l0 k x1 (Int.tmod x0 x1))
def impl_commonDivisor.f (k : Nat) (a0 : Int) (a1 : Int) : Option (Int) := (impl_absolute.f a0).bind fun qb => ((impl_absolute.f a1).bind fun qa => (impl_commonDivisor.l0 k qb qa))
theorem impl_commonDivisor.mono_l : ∀ k, (∀ y0 y1, LeO (impl_commonDivisor.l0 k y0 y1) (impl_commonDivisor.l0 (k + 1) y0 y1))
 | 0 => fun _ _ r h => by simp [impl_commonDivisor.l0] at h
 | k + 1 => by
  have ih0 := impl_commonDivisor.mono_l k
  ·
   intro y0 y1
   unfold impl_commonDivisor.l0
   repeat' first
   | (with_reducible exact ih0 _ _)
   | (with_reducible exact LeO.refl _)
   | (with_reducible exact LeO.none _)
   | (with_reducible refine LeO.ite ?_ ?_)
   | (with_reducible refine LeO.bind ?_ (fun _ => ?_))
   | exact ih0 _ _
   | exact LeO.none _
   | refine LeO.ite ?_ ?_
   | refine LeO.bind ?_ (fun _ => ?_)
theorem impl_commonDivisor.mono : ∀ a0 a1 k, LeO (impl_commonDivisor.f k a0 a1) (impl_commonDivisor.f (k + 1) a0 a1) := by
 intro a0 a1 k
 have ih0 := impl_commonDivisor.mono_l k
 unfold impl_commonDivisor.f
 repeat' first
   | (with_reducible exact ih0 _ _)
   | (with_reducible exact LeO.refl _)
   | (with_reducible exact LeO.none _)
   | (with_reducible refine LeO.ite ?_ ?_)
   | (with_reducible refine LeO.bind ?_ (fun _ => ?_))
   | exact ih0 _ _
   | exact LeO.none _
   | refine LeO.ite ?_ ?_
   | refine LeO.bind ?_ (fun _ => ?_)
set_option maxHeartbeats 8000000 in
set_option maxRecDepth 100000 in
theorem impl_commonDivisor.calls (k : Nat) (a0 : Int) (a1 : Int) (r : Int) (w : World) (h : impl_commonDivisor.f k a0 a1 = some r) :
  Calls Tryd.prog 92 #[.int .i64 a0, .int .i64 a1] w fun e w' => e = .returned (.int .i64 r) ∧ Drawn0 w w' := by
 have H : ((impl_absolute.f a0).bind fun qb => ((impl_absolute.f a1).bind fun qa => (impl_commonDivisor.l0 k qb qa))) = some r := h
 clear h
 replace H := Option.bind_eq_some_iff.mp H
 obtain ⟨qb, A30, H⟩ := H
 replace H : ((impl_absolute.f a1).bind fun qa => (impl_commonDivisor.l0 k qb qa)) = some r := H
 have A3 := Aside0.mk A30
 clear A30
 replace H := Option.bind_eq_some_iff.mp H
 obtain ⟨qa, A40, H⟩ := H
 replace H : (impl_commonDivisor.l0 k qb qa) = some r := H
 have A4 := Aside0.mk A40
 clear A40
 have H' := Aside0.mk H
 clear H
 go_enter Tryd.func92, Tryd.ntmps92
 go_wp2_with (first | (go_at_call 110; (with_reducible refine (impl_absolute.calls a0 qb _ A3.out).mono ?_); rintro e w' ⟨rfl, ⟨nd, rfl⟩⟩; (try first | exact ⟨rfl, _, World.drewN_drewN _ _ _⟩ | exact ⟨rfl, _, Eq.trans (World.drewN_drewN _ _ _) (congrArg (World.drewN _) (Nat.add_assoc _ _ _))⟩)) | (go_at_call 110; (with_reducible refine (impl_absolute.calls a1 qa _ A4.out).mono ?_); rintro e w' ⟨rfl, ⟨nd, rfl⟩⟩; (try first | exact ⟨rfl, _, World.drewN_drewN _ _ _⟩ | exact ⟨rfl, _, Eq.trans (World.drewN_drewN _ _ _) (congrArg (World.drewN _) (Nat.add_assoc _ _ _))⟩)))
 repeat (go_quiet (first | (go_at_call 110; (with_reducible refine (impl_absolute.calls a0 qb _ A3.out).mono ?_); rintro e w' ⟨rfl, ⟨nd, rfl⟩⟩; (try first | exact ⟨rfl, _, World.drewN_drewN _ _ _⟩ | exact ⟨rfl, _, Eq.trans (World.drewN_drewN _ _ _) (congrArg (World.drewN _) (Nat.add_assoc _ _ _))⟩)) | (go_at_call 110; (with_reducible refine (impl_absolute.calls a1 qa _ A4.out).mono ?_); rintro e w' ⟨rfl, ⟨nd, rfl⟩⟩; (try first | exact ⟨rfl, _, World.drewN_drewN _ _ _⟩ | exact ⟨rfl, _, Eq.trans (World.drewN_drewN _ _ _) (congrArg (World.drewN _) (Nat.add_assoc _ _ _))⟩))); try go_wp2_with (first | (go_at_call 110; (with_reducible refine (impl_absolute.calls a0 qb _ A3.out).mono ?_); rintro e w' ⟨rfl, ⟨nd, rfl⟩⟩; (try first | exact ⟨rfl, _, World.drewN_drewN _ _ _⟩ | exact ⟨rfl, _, Eq.trans (World.drewN_drewN _ _ _) (congrArg (World.drewN _) (Nat.add_assoc _ _ _))⟩)) | (go_at_call 110; (with_reducible refine (impl_absolute.calls a1 qa _ A4.out).mono ?_); rintro e w' ⟨rfl, ⟨nd, rfl⟩⟩; (try first | exact ⟨rfl, _, World.drewN_drewN _ _ _⟩ | exact ⟨rfl, _, Eq.trans (World.drewN_drewN _ _ _) (congrArg (World.drewN _) (Nat.add_assoc _ _ _))⟩))))
 go_loopg [0, 1] k (fun kq v0 v1 w' => ∃ (qd : Int) (qc : Int), v0 = .int .i64 qd ∧ v1 = .int .i64 qc ∧ Aside0 (impl_commonDivisor.l0 kq qd qc = some r) ∧ Aside0 (kq ≤ k) ∧ Drawn0 w w')
 case atStart => exact ⟨(qb), (qa), (by first | rfl | (simp; done) | (simp [*]; done)), (by first | rfl | (simp; done) | (simp [*]; done)), H', ⟨Nat.le_refl _⟩, by repeat (first | exact Drawn0.refl _ | apply Drawn0.step)⟩
 case round =>
  clear H'
  try clear p2
  obtain ⟨qd, qc, rfl, rfl, HA, HK1, ⟨m1, rfl⟩⟩ := hrel
  cases gk with
  | zero => exact absurd HA.out (by simp [impl_commonDivisor.l0])
  | succ k1 =>
   have H := HA.out
   clear HA
   simp only [impl_commonDivisor.l0] at H
   by_cases c5 : qc = 0
   ·
    rw [if_pos c5] at H
    have qe : (qc == 0) = true := beq_iff_eq.mpr c5
    have qf : (qc != 0) = false := bne_eq_false_iff_eq.mpr c5
    clear c5
    obtain rfl := Option.some.inj H
    go_wp2
    repeat (go_quiet (fail); try go_wp2)
    go_ret
    exact ⟨by first | rfl | (simp; done) | (simp [*]; done), by repeat (first | exact Drawn0.refl _ | apply Drawn0.step)⟩
   rw [if_neg c5] at H
   have qe : (qc == 0) = false := beq_eq_false_iff_ne.mpr c5
   have qf : (qc != 0) = true := bne_iff_ne.mpr c5
   have H' := Aside0.mk H
   clear H
   go_wp2
   repeat (go_quiet (fail); try go_wp2)
   go_roundg k1
   case measure => have := HK1.out; omega
   case rel => exact ⟨(qc), (Int.tmod qd qc), (by first | rfl | (simp; done) | (simp [*]; done)), (by first | rfl | (simp; done) | (simp [*]; done)), H', ⟨by have := HK1.out; omega⟩, by repeat (first | exact Drawn0.refl _ | apply Drawn0.step)⟩

/-! ### impl_divisorOf: function 93 -/
def impl_divisorOf.l0 : Nat → Int → List Int → Int → Int → Option (Int)
 | 0, _, _, _, _ => none
 | k + 1, x3, x6, x7, x8 => if x8 < x7 then (if 0 ≤ x8 then (if x8 < (x6.length : Int) then ((impl_commonDivisor.f k x3 (rd x6 x8)).bind fun qb => (impl_divisorOf.l0 k qb x6 x7 (wrap64 (x8 + 1)))) else (none)) else (none)) else (some x3)
def impl_divisorOf.f (k : Nat) (l0 : List Int) : Option (Int) := impl_divisorOf.l0 k 0 l0 (l0.length : Int) 0
theorem impl_divisorOf.mono_l : ∀ k, (∀ y0 y1 y2 y3, LeO (impl_divisorOf.l0 k y0 y1 y2 y3) (impl_divisorOf.l0 (k + 1) y0 y1 y2 y3))
 | 0 => fun _ _ _ _ r h => by simp [impl_divisorOf.l0] at h
 | k + 1 => by
  have ih0 := impl_divisorOf.mono_l k
  ·
   intro y0 y1 y2 y3
   unfold impl_divisorOf.l0
   repeat' first
   | (with_reducible exact ih0 _ _ _ _)
   | (with_reducible exact impl_commonDivisor.mono _ _ _)
   | (with_reducible exact LeO.refl _)
   | (with_reducible exact LeO.none _)
   | (with_reducible refine LeO.ite ?_ ?_)
   | (with_reducible refine LeO.bind ?_ (fun _ => ?_))
   | exact ih0 _ _ _ _
   | exact impl_commonDivisor.mono _ _ _
   | exact LeO.none _
   | refine LeO.ite ?_ ?_
   | refine LeO.bind ?_ (fun _ => ?_)
theorem impl_divisorOf.mono : ∀ a0 k, LeO (impl_divisorOf.f k a0) (impl_divisorOf.f (k + 1) a0) := by
 intro a0 k
 have ih0 := impl_divisorOf.mono_l k
 unfold impl_divisorOf.f
 repeat' first
   | (with_reducible exact ih0 _ _ _ _)
   | (with_reducible exact impl_commonDivisor.mono _ _ _)
   | (with_reducible exact LeO.refl _)
   | (with_reducible exact LeO.none _)
   | (with_reducible refine LeO.ite ?_ ?_)
   | (with_reducible refine LeO.bind ?_ (fun _ => ?_))
   | exact ih0 _ _ _ _
   | exact impl_commonDivisor.mono _ _ _
   | exact LeO.none _
   | refine LeO.ite ?_ ?_
   | refine LeO.bind ?_ (fun _ => ?_)
set_option maxHeartbeats 8000000 in
set_option maxRecDepth 100000 in
theorem impl_divisorOf.calls (k : Nat) (A0 : Option Addr) (c0 : Nat) (l0 : List Int) (r : Int) (w : World) (hr0 : Kd.C (Kd.int .i64) w A0 l0.length l0) (hc0 : l0.length ≤ c0) (h : impl_divisorOf.f k l0 = some r) :
  Calls Tryd.prog 93 #[.slice A0 l0.length c0] w fun e w' => e = .returned (.int .i64 r) ∧ Drawn0 w w' := by
 have HR0 := Aside0.mk hr0
 have HC0 := Aside0.mk hc0
 clear hr0 hc0
 have H : (impl_divisorOf.l0 k 0 l0 (l0.length : Int) 0) = some r := h
 clear h
 have H' := Aside0.mk H
 clear H
 go_enter Tryd.func93, Tryd.ntmps93
 go_wp2
 go_loopg [3, 8] k (fun kq v3 v8 w' => ∃ (qc : Int) (qa : Int), v3 = .int .i64 qc ∧ v8 = .int .i64 qa ∧ Aside0 (impl_divisorOf.l0 kq qc l0 (l0.length : Int) qa = some r) ∧ Aside0 (kq ≤ k) ∧ Drawn0 w w')
 case atStart => exact ⟨(0), (0), (by first | rfl | (simp; done) | (simp [*]; done)), (by first | rfl | (simp; done) | (simp [*]; done)), H', ⟨Nat.le_refl _⟩, by repeat (first | exact Drawn0.refl _ | apply Drawn0.step)⟩
 case round =>
  clear H'
  obtain ⟨qc, qa, rfl, rfl, HA, HK1, ⟨m1, rfl⟩⟩ := hrel
  cases gk with
  | zero => exact absurd HA.out (by simp [impl_divisorOf.l0])
  | succ k1 =>
   have H := HA.out
   clear HA
   simp only [impl_divisorOf.l0] at H
   by_cases c2 : qa < (l0.length : Int)
   rotate_left
   ·
    rw [if_neg c2] at H
    have qe : decide (qa < (l0.length : Int)) = false := decide_eq_false c2
    clear c2
    obtain rfl := Option.some.inj H
    go_wp2
    go_ret
    exact ⟨by first | rfl | (simp; done) | (simp [*]; done), by repeat (first | exact Drawn0.refl _ | apply Drawn0.step)⟩
   rw [if_pos c2] at H
   have qe : decide (qa < (l0.length : Int)) = true := decide_eq_true c2
   clear c2
   by_cases c3 : 0 ≤ qa
   rotate_left
   ·
    rw [if_neg c3] at H
    exact absurd H (by simp)
   rw [if_pos c3] at H
   have qg : decide (0 ≤ qa) = true := decide_eq_true c3
   clear c3
   by_cases c4 : qa < (l0.length : Int)
   rotate_left
   ·
    rw [if_neg c4] at H
    exact absurd H (by simp)
   rw [if_pos c4] at H
   have qh : decide (qa < (l0.length : Int)) = true := decide_eq_true c4
   clear c4
   replace H := Option.bind_eq_some_iff.mp H
   obtain ⟨qb, A50, H⟩ := H
   replace H : (impl_divisorOf.l0 k1 qb l0 (l0.length : Int) (wrap64 (qa + 1))) = some r := H
   have A5 := Aside0.mk A50
   clear A50
   have H' := Aside0.mk H
   clear H
   have p209 : 0 ≤ (qa : Int) := of_decide_eq_true (by first | (with_reducible assumption) | assumption)
   have q209 : qa < (l0.length : Int) := of_decide_eq_true (by first | (with_reducible assumption) | assumption)
   obtain ⟨qf, e209, qd⟩ := Kd.at_int HR0.out qa p209 q209
   cases e209
   replace p209 := eq_true p209
   replace q209 := eq_true q209
   go_wp2_with (first | ((with_reducible refine gate_callee (f := 92) rfl ?_); refine gL_ (some 14) Tryd.func92 #[.int .i64 qc, .int .i64 (rd l0 qa)] ?_; (with_reducible refine (impl_commonDivisor.calls k1 qc (rd l0 qa) qb _ A5.out).mono ?_); rintro e w' ⟨rfl, ⟨nd, rfl⟩⟩; refine ⟨_, rfl, ?_⟩))
   go_roundg k1
   case measure => have := HK1.out; omega
   case rel => exact ⟨(qb), (wrap64 (qa + 1)), (by first | rfl | (simp; done) | (simp [*]; done)), (by first | rfl | (simp; done) | (simp [*]; done)), H', ⟨by have := HK1.out; omega⟩, by repeat (first | exact Drawn0.refl _ | apply Drawn0.step)⟩

end Go.Proofs.YtohoibekddhneaaDoor.PFnExactFormatRegion
