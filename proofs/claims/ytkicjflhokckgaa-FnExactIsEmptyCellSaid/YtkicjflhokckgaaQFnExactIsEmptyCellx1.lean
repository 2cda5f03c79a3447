/- The functions that the law FnExactIsEmptyCell reaches, each as a Lean function with the same answers, and the proof that the call comes to exactly these: turned by program out of the printed texts. No condition but those that each theorem names. -/
import Derived.Test.YtkicjflhokckgaaQFnExactIsEmptyCellx0
namespace Go.Proofs.Ytkicjflhokckgaa.PFnExactIsEmptyCell
open Go.RowKit Go.Proofs.YtkicjflhokckgaaW.PrintWords Go.Proofs.YtkicjflhokckgaaW.PrintLast Go.Proofs.YtkicjflhokckgaaW.PrintMore
attribute [local go_sem] max2_int min2_int max_two min_two max_three min_three max_four min_four   -- for this text's walks alone
set_option linter.unusedVariables false
set_option linter.unusedSimpArgs false

/-! ### laws_szIntS: function 68 -/
def laws_szIntS.f (l0 : List Int) (a1 : Int) : Option (Int) := if (wrap64 (a1 - (l0.length : Int))) < 0 then (some (-1)) else (some (wrap64 (a1 - (l0.length : Int))))
set_option maxHeartbeats 8000000 in
set_option maxRecDepth 100000 in
theorem laws_szIntS.calls (A0 : Option Addr) (c0 : Nat) (l0 : List Int) (a1 : Int) (r : Int) (w : World) (hr0 : Kd.C (Kd.int .i64) w A0 l0.length l0) (hc0 : l0.length ≤ c0) (h : laws_szIntS.f l0 a1 = some r) :
  Calls Try.prog 68 #[.slice A0 l0.length c0, .int .i64 a1] w fun e w' => e = .returned (.int .i64 r) ∧ Drawn0 w w' := by
 have HR0 := Aside0.mk hr0
 have HC0 := Aside0.mk hc0
 clear hr0 hc0
 have H : (if (wrap64 (a1 - (l0.length : Int))) < 0 then (some (-1)) else (some (wrap64 (a1 - (l0.length : Int))))) = some r := h
 clear h
 by_cases c3 : (wrap64 (a1 - (l0.length : Int))) < 0
 ·
  rw [if_pos c3] at H
  have qa : decide ((wrap64 (a1 - (l0.length : Int))) < 0) = true := decide_eq_true c3
  clear c3
  obtain rfl := Option.some.inj H
  go_enter Try.func68, Try.ntmps68
  go_wp2
  go_ret
  exact ⟨by first | rfl | (simp; done) | (simp [*]; done), by repeat (first | exact Drawn0.refl _ | apply Drawn0.step)⟩
 rw [if_neg c3] at H
 have qa : decide ((wrap64 (a1 - (l0.length : Int))) < 0) = false := decide_eq_false c3
 clear c3
 obtain rfl := Option.some.inj H
 go_enter Try.func68, Try.ntmps68
 go_wp2
 go_ret
 exact ⟨by first | rfl | (simp; done) | (simp [*]; done), by repeat (first | exact Drawn0.refl _ | apply Drawn0.step)⟩

/-! ### laws_szAtom: function 30 -/
def laws_szAtom.f (l0_0 : List Int) (a0_1 : Int) (a0_2 : Bool) (a1 : Int) : Option (Int) := (laws_szIntS.f l0_0 a1).bind fun qa => (if qa < 0 then (some (-1)) else (some qa))
set_option maxHeartbeats 8000000 in
set_option maxRecDepth 100000 in
theorem laws_szAtom.calls (A0_0 : Option Addr) (c0_0 : Nat) (l0_0 : List Int) (a0_1 : Int) (a0_2 : Bool) (a1 : Int) (r : Int) (w : World) (hr0_0 : Kd.C (Kd.int .i64) w A0_0 l0_0.length l0_0) (hc0_0 : l0_0.length ≤ c0_0) (h : laws_szAtom.f l0_0 a0_1 a0_2 a1 = some r) :
  Calls Try.prog 30 #[.agg #[.slice A0_0 l0_0.length c0_0, .int .i64 a0_1, .bool a0_2], .int .i64 a1] w fun e w' => e = .returned (.int .i64 r) ∧ Below w.heap.size w w' := by
 have hu49 := Try.underlying49
 have qc := Aside0.mk hr0_0
 have qd := Aside0.mk hc0_0
 clear hr0_0 hc0_0
 have HB := Aside0.mk (Below.refl w.heap.size w)
 have H : ((laws_szIntS.f l0_0 a1).bind fun qa => (if qa < 0 then (some (-1)) else (some qa))) = some r := h
 clear h
 replace H := be_ H
 obtain ⟨qa, A30, H⟩ := H
 have A3 := Aside0.mk A30
 clear A30
 by_cases c4 : qa < 0
 ·
  rw [if_pos c4] at H
  have qh : decide (qa < 0) = true := decide_eq_true c4
  clear c4
  obtain rfl := Option.some.inj H
  go_enter Try.func30, Try.ntmps30
  go_wp2_with (first | ((with_reducible refine gate_dst (N := 2) rfl ?_); refine bx_ (cs := #[.slice A0_0 l0_0.length c0_0, .int .i64 a0_1, .bool a0_2]) (t := 49) ?_; intro qe hg w5 hbox hb; have qb := Aside0.mk (hbox); have qf := hz_ HB hg; have qg := hz_ HB hg; replace HB := bS_ HB hb; clear hb hbox hg; obtain ⟨qi, qj, qk, ql, qm, qn⟩ := b3_ qb) | ((with_reducible refine gate_callee (f := 68) rfl ?_); refine gL_ (some 8) Try.func68 #[.slice A0_0 l0_0.length c0_0, .int .i64 a1] ?_; (with_reducible refine (laws_szIntS.calls _ _ l0_0 a1 qa _ ?side1 ?side2 A3.out).mono ?_); (case side1 => exact cb_ qc HB); (case side2 => exact qd.out); rintro e w' ⟨rfl, ⟨nd, rfl⟩⟩; refine ⟨_, rfl, ?_⟩))
  go_ret
  exact rt_ (bb_ HB)
 rw [if_neg c4] at H
 have qh : decide (qa < 0) = false := decide_eq_false c4
 clear c4
 obtain rfl := Option.some.inj H
 go_enter Try.func30, Try.ntmps30
 go_wp2_with (first | ((with_reducible refine gate_dst (N := 2) rfl ?_); refine bx_ (cs := #[.slice A0_0 l0_0.length c0_0, .int .i64 a0_1, .bool a0_2]) (t := 49) ?_; intro qe hg w7 hbox hb; have qb := Aside0.mk (hbox); have qf := hz_ HB hg; have qg := hz_ HB hg; replace HB := bS_ HB hb; clear hb hbox hg; obtain ⟨qo, qp, qq, qr, qs, qt⟩ := b3_ qb) | ((with_reducible refine gate_callee (f := 68) rfl ?_); refine gL_ (some 8) Try.func68 #[.slice A0_0 l0_0.length c0_0, .int .i64 a1] ?_; (with_reducible refine (laws_szIntS.calls _ _ l0_0 a1 qa _ ?side1 ?side2 A3.out).mono ?_); (case side1 => exact cb_ qc HB); (case side2 => exact qd.out); rintro e w' ⟨rfl, ⟨nd, rfl⟩⟩; refine ⟨_, rfl, ?_⟩))
 go_ret
 exact rt_ (bb_ HB)

/-! ### laws_szAtomS: function 49 -/
def laws_szAtomS.l0 : Nat → List (S49) → Int → Int → Option (Int)
 | 0, _, _, _ => none
 | k + 1, x0, x1, x5 => if x5 < (x0.length : Int) then (if 0 ≤ x5 then ((laws_szAtom.f ((rd_T49 x0 x5).f0) ((rd_T49 x0 x5).f1) ((rd_T49 x0 x5).f2) x1).bind fun qe => (if qe < 0 then (some (-1)) else (laws_szAtomS.l0 k x0 qe (wrap64 (x5 + 1))))) else (none)) else (some x1)
def laws_szAtomS.f (k : Nat) (l0 : List (S49)) (a1 : Int) : Option (Int) := if (wrap64 (a1 - (l0.length : Int))) < 0 then (some (-1)) else (laws_szAtomS.l0 k l0 (wrap64 (a1 - (l0.length : Int))) 0)
theorem laws_szAtomS.mono_l : ∀ k, (∀ y0 y1 y2, LeO (laws_szAtomS.l0 k y0 y1 y2) (laws_szAtomS.l0 (k + 1) y0 y1 y2))
 | 0 => fun _ _ _ r h => by simp [laws_szAtomS.l0] at h
 | k + 1 => by
  have ih0 := laws_szAtomS.mono_l k
  ·
   intro y0 y1 y2
   unfold laws_szAtomS.l0
   repeat' first
   | (with_reducible exact ih0 _ _ _)
   | (with_reducible exact LeO.refl _)
   | (with_reducible exact LeO.none _)
   | (with_reducible refine LeO.ite ?_ ?_)
   | (with_reducible refine LeO.bind ?_ (fun _ => ?_))
theorem laws_szAtomS.mono : ∀ a0 a1 k, LeO (laws_szAtomS.f k a0 a1) (laws_szAtomS.f (k + 1) a0 a1) := by
 intro a0 a1 k
 have ih0 := laws_szAtomS.mono_l k
 unfold laws_szAtomS.f
 repeat' first
   | (with_reducible exact ih0 _ _ _)
   | (with_reducible exact LeO.refl _)
   | (with_reducible exact LeO.none _)
   | (with_reducible refine LeO.ite ?_ ?_)
   | (with_reducible refine LeO.bind ?_ (fun _ => ?_))
set_option maxHeartbeats 8000000 in
set_option maxRecDepth 100000 in
theorem laws_szAtomS.calls (k : Nat) (A0 : Option Addr) (c0 : Nat) (l0 : List (S49)) (a1 : Int) (r : Int) (w : World) (hr0 : Kd.C k49 w A0 l0.length l0) (hc0 : l0.length ≤ c0) (h : laws_szAtomS.f k l0 a1 = some r) :
  Calls Try.prog 49 #[.slice A0 l0.length c0, .int .i64 a1] w fun e w' => e = .returned (.int .i64 r) ∧ Below w.heap.size w w' := by
 have hu49 := Try.underlying49
 have HR0 := Aside0.mk hr0
 have HC0 := Aside0.mk hc0
 clear hr0 hc0
 have HB := Aside0.mk (Below.refl w.heap.size w)
 have H : (if (wrap64 (a1 - (l0.length : Int))) < 0 then (some (-1)) else (laws_szAtomS.l0 k l0 (wrap64 (a1 - (l0.length : Int))) 0)) = some r := h
 clear h
 by_cases c3 : (wrap64 (a1 - (l0.length : Int))) < 0
 ·
  rw [if_pos c3] at H
  have qk : decide ((wrap64 (a1 - (l0.length : Int))) < 0) = true := decide_eq_true c3
  clear c3
  obtain rfl := Option.some.inj H
  go_enter Try.func49, Try.ntmps49
  go_wp2
  go_ret
  exact rt_ (bb_ HB)
 rw [if_neg c3] at H
 have qk : decide ((wrap64 (a1 - (l0.length : Int))) < 0) = false := decide_eq_false c3
 clear c3
 have H' := Aside0.mk H
 clear H
 go_enter Try.func49, Try.ntmps49
 go_wp2
 go_loopg [1, 5] k (fun kq v1 v5 w' => ∃ (qh : Int) (qa : Int), v1 = .int .i64 qh ∧ v5 = .int .i64 qa ∧ Aside0 (laws_szAtomS.l0 kq l0 qh qa = some r) ∧ Aside0 (kq ≤ k) ∧ Aside0 (Below w.heap.size w w'))
 case atStart => exact ⟨(wrap64 (a1 - (l0.length : Int))), (0), (by first | rfl | (simp; done) | (simp [*]; done)), (by first | rfl | (simp; done) | (simp [*]; done)), H', ⟨Nat.le_refl _⟩, ⟨bb_ HB⟩⟩
 clear H'
 obtain ⟨qh, qa, rfl, rfl, HA, HK1, HB⟩ := hrel
 cases gk with
 | zero => exact absurd HA.out (by simp [laws_szAtomS.l0])
 | succ k1 =>
  have H := HA.out
  clear HA
  simp only [laws_szAtomS.l0] at H
  by_cases c4 : qa < (l0.length : Int)
  rotate_left
  ·
   rw [if_neg c4] at H
   have ql : decide (qa < (l0.length : Int)) = false := decide_eq_false c4
   clear c4
   obtain rfl := Option.some.inj H
   go_wp2
   go_ret
   exact rt_ (bb_ HB)
  rw [if_pos c4] at H
  have ql : decide (qa < (l0.length : Int)) = true := decide_eq_true c4
  clear c4
  replace H := ip_ H
  obtain ⟨c5, H⟩ := H
  have qn : decide (0 ≤ qa) = true := decide_eq_true c5
  clear c5
  replace H := be_ H
  obtain ⟨qe, A60, H⟩ := H
  have A6 := Aside0.mk A60
  clear A60
  by_cases c7 : qe < 0
  ·
   rw [if_pos c7] at H
   have qm : decide (qe < 0) = true := decide_eq_true c7
   clear c7
   obtain rfl := Option.some.inj H
   have p103 : 0 ≤ (qa : Int) := od_
   have q103 : qa < (l0.length : Int) := od_
   obtain ⟨qj, qi, c103_0, e103, qb, qc, qd, hl103_0, hi103_0⟩ := at_T49 HR0.out qa p103 q103
   cases e103
   replace qb := ct_ HB qb
   replace qc := ct_ HB qc
   replace qd := ct_ HB qd
   have qf := Aside0.mk hi103_0
   have qg := Aside0.mk hl103_0
   clear hi103_0 hl103_0
   replace p103 := eq_true p103
   replace q103 := eq_true q103
   go_wp2_with (first | ((with_reducible refine gate_callee (f := 30) rfl ?_); refine gL_ (some 23) Try.func30 #[.agg #[.slice qi ((rd_T49 l0 qa).f0).length c103_0, .int .i64 ((rd_T49 l0 qa).f1), .bool ((rd_T49 l0 qa).f2)], .int .i64 qh] ?_; (with_reducible refine (laws_szAtom.calls _ _ ((rd_T49 l0 qa).f0) ((rd_T49 l0 qa).f1) ((rd_T49 l0 qa).f2) qh qe _ ?side1 ?side2 A6.out).mono ?_); (case side1 => exact cb_ qf HB); (case side2 => exact qg.out); rintro e w8 ⟨rfl, hb⟩; refine ⟨_, rfl, ?_⟩; replace HB := bS_ HB hb; clear hb))
   go_ret
   exact rt_ (bb_ HB)
  rw [if_neg c7] at H
  have qm : decide (qe < 0) = false := decide_eq_false c7
  clear c7
  have H' := Aside0.mk H
  clear H
  have p103 : 0 ≤ (qa : Int) := od_
  have q103 : qa < (l0.length : Int) := od_
  obtain ⟨qj, qi, c103_0, e103, qb, qc, qd, hl103_0, hi103_0⟩ := at_T49 HR0.out qa p103 q103
  cases e103
  replace qb := ct_ HB qb
  replace qc := ct_ HB qc
  replace qd := ct_ HB qd
  have qf := Aside0.mk hi103_0
  have qg := Aside0.mk hl103_0
  clear hi103_0 hl103_0
  replace p103 := eq_true p103
  replace q103 := eq_true q103
  go_wp2_with (first | ((with_reducible refine gate_callee (f := 30) rfl ?_); refine gL_ (some 23) Try.func30 #[.agg #[.slice qi ((rd_T49 l0 qa).f0).length c103_0, .int .i64 ((rd_T49 l0 qa).f1), .bool ((rd_T49 l0 qa).f2)], .int .i64 qh] ?_; (with_reducible refine (laws_szAtom.calls _ _ ((rd_T49 l0 qa).f0) ((rd_T49 l0 qa).f1) ((rd_T49 l0 qa).f2) qh qe _ ?side1 ?side2 A6.out).mono ?_); (case side1 => exact cb_ qf HB); (case side2 => exact qg.out); rintro e w9 ⟨rfl, hb⟩; refine ⟨_, rfl, ?_⟩; replace HB := bS_ HB hb; clear hb))
  go_roundg k1
  case measure => have := HK1.out; omega
  case rel => exact ⟨(qe), (wrap64 (qa + 1)), (by first | rfl | (simp; done) | (simp [*]; done)), (by first | rfl | (simp; done) | (simp [*]; done)), H', ⟨by have := HK1.out; omega⟩, ⟨bb_ HB⟩⟩

/-! ### laws_szCell: function 14 -/
def laws_szCell.f (k : Nat) (a0_0 : Int) (l0_1 : List (S49)) (a1 : Int) : Option (Int) := (laws_szAtomS.f k l0_1 a1).bind fun qa => (if qa < 0 then (some (-1)) else (some qa))
theorem laws_szCell.mono : ∀ a0 a1 a2 k, LeO (laws_szCell.f k a0 a1 a2) (laws_szCell.f (k + 1) a0 a1 a2) := by
 intro a0 a1 a2 k
 unfold laws_szCell.f
 repeat' first
   | (with_reducible exact laws_szAtomS.mono _ _ _)
   | (with_reducible exact LeO.refl _)
   | (with_reducible exact LeO.none _)
   | (with_reducible refine LeO.ite ?_ ?_)
   | (with_reducible refine LeO.bind ?_ (fun _ => ?_))
set_option maxHeartbeats 8000000 in
set_option maxRecDepth 100000 in
theorem laws_szCell.calls (k : Nat) (a0_0 : Int) (A0_1 : Option Addr) (c0_1 : Nat) (l0_1 : List (S49)) (a1 : Int) (r : Int) (w : World) (hr0_1 : Kd.C k49 w A0_1 l0_1.length l0_1) (hc0_1 : l0_1.length ≤ c0_1) (h : laws_szCell.f k a0_0 l0_1 a1 = some r) :
  Calls Try.prog 14 #[.agg #[.int .i64 a0_0, .slice A0_1 l0_1.length c0_1], .int .i64 a1] w fun e w' => e = .returned (.int .i64 r) ∧ Below w.heap.size w w' := by
 have hu24 := Try.underlying24
 have qc := Aside0.mk hr0_1
 have qd := Aside0.mk hc0_1
 clear hr0_1 hc0_1
 have HB := Aside0.mk (Below.refl w.heap.size w)
 have H : ((laws_szAtomS.f k l0_1 a1).bind fun qa => (if qa < 0 then (some (-1)) else (some qa))) = some r := h
 clear h
 replace H := be_ H
 obtain ⟨qa, A30, H⟩ := H
 have A3 := Aside0.mk A30
 clear A30
 by_cases c4 : qa < 0
 ·
  rw [if_pos c4] at H
  have qh : decide (qa < 0) = true := decide_eq_true c4
  clear c4
  obtain rfl := Option.some.inj H
  go_enter Try.func14, Try.ntmps14
  go_wp2_with (first | ((with_reducible refine gate_dst (N := 2) rfl ?_); refine bx_ (cs := #[.int .i64 a0_0, .slice A0_1 l0_1.length c0_1]) (t := 24) ?_; intro qe hg w5 hbox hb; have qb := Aside0.mk (hbox); have qf := hz_ HB hg; have qg := hz_ HB hg; replace HB := bS_ HB hb; clear hb hbox hg; obtain ⟨qi, qj, qk, ql⟩ := b2_ qb) | ((with_reducible refine gate_callee (f := 49) rfl ?_); refine gL_ (some 8) Try.func49 #[.slice A0_1 l0_1.length c0_1, .int .i64 a1] ?_; (with_reducible refine (laws_szAtomS.calls k _ _ l0_1 a1 qa _ ?side1 ?side2 A3.out).mono ?_); (case side1 => exact cb_ qc HB); (case side2 => exact qd.out); rintro e w7 ⟨rfl, hb⟩; refine ⟨_, rfl, ?_⟩; replace qb := kB_ qb hb; replace HB := bS_ HB hb; clear hb))
  go_ret
  exact rt_ (bb_ HB)
 rw [if_neg c4] at H
 have qh : decide (qa < 0) = false := decide_eq_false c4
 clear c4
 obtain rfl := Option.some.inj H
 go_enter Try.func14, Try.ntmps14
 go_wp2_with (first | ((with_reducible refine gate_dst (N := 2) rfl ?_); refine bx_ (cs := #[.int .i64 a0_0, .slice A0_1 l0_1.length c0_1]) (t := 24) ?_; intro qe hg w8 hbox hb; have qb := Aside0.mk (hbox); have qf := hz_ HB hg; have qg := hz_ HB hg; replace HB := bS_ HB hb; clear hb hbox hg; obtain ⟨qm, qn, qo, qp⟩ := b2_ qb) | ((with_reducible refine gate_callee (f := 49) rfl ?_); refine gL_ (some 8) Try.func49 #[.slice A0_1 l0_1.length c0_1, .int .i64 a1] ?_; (with_reducible refine (laws_szAtomS.calls k _ _ l0_1 a1 qa _ ?side1 ?side2 A3.out).mono ?_); (case side1 => exact cb_ qc HB); (case side2 => exact qd.out); rintro e qq ⟨rfl, hb⟩; refine ⟨_, rfl, ?_⟩; replace qb := kB_ qb hb; replace HB := bS_ HB hb; clear hb))
 go_ret
 exact rt_ (bb_ HB)

/-! ### laws_toIntS: function 70 -/
def laws_toIntS.l0 : Nat → List Int → List Int → Int → Option (List Int)
 | 0, _, _, _ => none
 | k + 1, x0, x3, x4 => if x4 < (x0.length : Int) then (if 0 ≤ x4 then (if x4 < (x3.length : Int) then (laws_toIntS.l0 k x0 (x3.set (x4 : Int).toNat (rd x0 x4)) (wrap64 (x4 + 1))) else (none)) else (none)) else (some x3)
def laws_toIntS.f (k : Nat) (l0 : List Int) : Option (List Int) := if 0 ≤ (l0.length : Int) then (if ((l0.length : Int) : Int).toNat ≤ 35184372088832 then (laws_toIntS.l0 k l0 (List.replicate ((l0.length : Int) : Int).toNat 0) 0) else (none)) else (none)
theorem laws_toIntS.mono_l : ∀ k, (∀ y0 y1 y2, LeO (laws_toIntS.l0 k y0 y1 y2) (laws_toIntS.l0 (k + 1) y0 y1 y2))
 | 0 => fun _ _ _ r h => by simp [laws_toIntS.l0] at h
 | k + 1 => by
  have ih0 := laws_toIntS.mono_l k
  ·
   intro y0 y1 y2
   unfold laws_toIntS.l0
   repeat' first
   | (with_reducible exact ih0 _ _ _)
   | (with_reducible exact LeO.refl _)
   | (with_reducible exact LeO.none _)
   | (with_reducible refine LeO.ite ?_ ?_)
   | (with_reducible refine LeO.bind ?_ (fun _ => ?_))
theorem laws_toIntS.mono : ∀ a0 k, LeO (laws_toIntS.f k a0) (laws_toIntS.f (k + 1) a0) := by
 intro a0 k
 have ih0 := laws_toIntS.mono_l k
 unfold laws_toIntS.f
 repeat' first
   | (with_reducible exact ih0 _ _ _)
   | (with_reducible exact LeO.refl _)
   | (with_reducible exact LeO.none _)
   | (with_reducible refine LeO.ite ?_ ?_)
   | (with_reducible refine LeO.bind ?_ (fun _ => ?_))
set_option maxHeartbeats 8000000 in
set_option maxRecDepth 100000 in
theorem laws_toIntS.calls (k : Nat) (A0 : Option Addr) (c0 : Nat) (l0 : List Int) (r : List Int) (w : World) (hr0 : Kd.C (Kd.int .i64) w A0 l0.length l0) (hc0 : l0.length ≤ c0) (h : laws_toIntS.f k l0 = some r) :
  Calls Try.prog 70 #[.slice A0 l0.length c0] w fun e w' => ∃ v0_ : Value, e = .returned (v0_) ∧ Kd.R (Kd.int .i64) 3 w' w.heap.size (fun _ => True) v0_ r ∧ Below w.heap.size w w' := by
 have HR0 := Aside0.mk hr0
 have HC0 := Aside0.mk hc0
 clear hr0 hc0
 have HB := Aside0.mk (Below.refl w.heap.size w)
 have H : (if 0 ≤ (l0.length : Int) then (if ((l0.length : Int) : Int).toNat ≤ 35184372088832 then (laws_toIntS.l0 k l0 (List.replicate ((l0.length : Int) : Int).toNat 0) 0) else (none)) else (none)) = some r := h
 clear h
 replace H := ip_ H
 obtain ⟨c2, H⟩ := H
 have qm := eq_true c2
 have qn : decide (0 ≤ (l0.length : Int)) = true := decide_eq_true c2
 clear c2
 replace H := ip_ H
 obtain ⟨c3, H⟩ := H
 have qo := eq_true c3
 have qp : decide (((l0.length : Int) : Int).toNat ≤ 35184372088832) = true := decide_eq_true c3
 clear c3
 obtain ⟨y107, hy107⟩ : ∃ y_ : List Int, y_ = (List.replicate ((l0.length : Int) : Int).toNat 0) := ⟨_, rfl⟩
 replace H : (laws_toIntS.l0 k l0 y107 0) = some r := by first | (rw [hy107]; with_reducible exact H) | (have H2_ := (Option.bind_some _ _).symm.trans H; rw [hy107]; with_reducible exact H2_) | (have H2_ := (Option.bind_some _ _).symm.trans H; with_reducible exact H2_) | with_reducible exact H | (rw [hy107]; exact H) | exact H
 have Ny107 := Aside0.mk hy107
 clear hy107
 have H' := Aside0.mk H
 clear H
 go_enter Try.func70, Try.ntmps70
 go_wp2_with (first | ((with_reducible refine gate_dst (N := 7) rfl ?_); refine Kd.R_make (Kd.int .i64) _ 3 rfl (N := 7) rfl 47 _ _ rfl (l0.length : Int) rfl rfl Try.underlying47 (.int .i64 0) 8 info3 rfl (by decide) (by omega) 0 (ok := fun _ => True) (okp := fun _ => True) rfl (fun _ hk => hk) trivial (od_) (Nat.le_trans (Nat.mul_le_mul_right _ (od_ : (l0.length : Int).toNat ≤ 35184372088832)) (by omega)) (Below.refl _ _) (Nat.le_refl _) ?_; intro qg w4 ho5 hb hg_ hnew_; clear hg_ hnew_; (first | rw [← Ny107.out] at ho5 | (simp only [Int.reduceToNat] at ho5; rw [← Ny107.out] at ho5)); have qf := Aside0.mk (Kd.R_lower ho5 (bz_ HB)); replace HB := bS_ HB hb; clear hb ho5))
 go_loopg [4] k (fun kq v4 w' => ∃ (qb : List Int) (qa : Int), v4 = .int .i64 qa ∧ Aside0 (laws_toIntS.l0 kq l0 qb qa = some r) ∧ Aside0 (kq ≤ k) ∧ Aside0 (Kd.R (Kd.int .i64) 3 w' w.heap.size (fun _ => True) qg qb) ∧ Aside0 (Below w.heap.size w w'))
 case atStart => exact ⟨(y107), (0), (by first | rfl | (simp; done) | (simp [*]; done)), H', ⟨Nat.le_refl _⟩, ⟨by (with_reducible repeat (first | apply Kd.R_alloc | apply Kd.R_drewN | apply Kd.R_drew)); exact qf.out⟩, ⟨bb_ HB⟩⟩
 clear H'
 obtain ⟨qb, qa, rfl, HA, HK1, qd, HB⟩ := hrel
 cases gk with
 | zero => exact absurd HA.out (by simp [laws_toIntS.l0])
 | succ k1 =>
  have H := HA.out
  clear HA
  simp only [laws_toIntS.l0] at H
  by_cases c6 : qa < (l0.length : Int)
  rotate_left
  ·
   rw [if_neg c6] at H
   have qh : decide (qa < (l0.length : Int)) = false := decide_eq_false c6
   clear c6
   obtain rfl := Option.some.inj H
   go_wp2
   go_ret
   exact ⟨_, rt_ ⟨by (with_reducible repeat (first | apply Kd.R_alloc | apply Kd.R_drewN | apply Kd.R_drew)); exact qd.out, bb_ HB⟩⟩
  rw [if_pos c6] at H
  have qh : decide (qa < (l0.length : Int)) = true := decide_eq_true c6
  clear c6
  replace H := ip_ H
  obtain ⟨c7, H⟩ := H
  have qq : decide (0 ≤ qa) = true := decide_eq_true c7
  clear c7
  replace H := ip_ H
  obtain ⟨c8, H⟩ := H
  have qr : decide (qa < (qb.length : Int)) = true := decide_eq_true c8
  clear c8
  obtain ⟨y111, hy111⟩ : ∃ y_ : List Int, y_ = (qb.set (qa : Int).toNat (rd l0 qa)) := ⟨_, rfl⟩
  replace H : (laws_toIntS.l0 k1 l0 y111 (wrap64 (qa + 1))) = some r := by first | (rw [hy111]; with_reducible exact H) | (have H2_ := (Option.bind_some _ _).symm.trans H; rw [hy111]; with_reducible exact H2_) | (have H2_ := (Option.bind_some _ _).symm.trans H; with_reducible exact H2_) | with_reducible exact H | (rw [hy111]; exact H) | exact H
  have Ny111 := Aside0.mk hy111
  clear hy111
  have H' := Aside0.mk H
  clear H
  have p110 : 0 ≤ (qa : Int) := od_
  have q110 : qa < (l0.length : Int) := od_
  obtain ⟨qj, e110, qc⟩ := Kd.at_int HR0.out qa p110 q110
  cases e110
  replace qc := ct_ HB qc
  replace p110 := eq_true p110
  replace q110 := eq_true q110
  have p9 : 0 ≤ (qa : Int) := od_
  have q9 : (qa : Int) < ((qb.length : Int) : Int) := od_
  obtain ⟨go9, qs, eo9, qk, gl9, cl9, HG9⟩ := Kd.R_form qd.out (by omega)
  (first | cases eo9 | (injection eo9 with ea_ en_ ec_; (first | subst ea_ | (injection ea_ with ea_; subst ea_)); subst ec_; clear en_))
  have qt := Aside0.mk qk
  have qu := Aside0.mk HG9
  clear qk gl9 HG9
  obtain ⟨ql, hf9_0⟩ := Kd.R_celln 0 qd.out (qa : Int) p9 q9
  replace p9 := eq_true p9
  replace q9 := eq_true q9
  have qe := Kd.R_putg qd.out (qa : Int) (rd l0 qa)
  go_wp2_with (first | ((with_reducible refine gate_store (t := 3) (p := 20) rfl ?_); refine store_event (t := 3) (p := 20) (v := ?vo_w11) (w1 := (wr.setCell ⟨go9, (qa : Int).toNat, none⟩ (.int .i64 (rd l0 qa)))) ?hg ?ho ?hn ?hr ?_; (case ho => rfl); (case hg => rfl); (case hn => rfl); (case hr => first | (go_simp; done) | (go_simp; rfl)); intro qi hw; have hg : wr.grownBy qi (some go9) := (by rw [hw]; exact qe.2); have hp_ : Kd.R (Kd.int .i64) 3 qi w.heap.size (fun _ => True) (.slice (some ⟨go9, 0, none⟩) qb.length qs) y111 := (by rw [hw, Ny111.out]; exact qe.1); clear qe; replace qd := Aside0.mk (hp_); replace HB := Aside0.mk ((by rw [hw]; exact below_set (HB.out) qt.out : Below w.heap.size w qi)); clear hg hw hp_))
  go_roundg k1
  case measure => have := HK1.out; omega
  case rel => exact ⟨(y111), (wrap64 (qa + 1)), (by first | rfl | (simp; done) | (simp [*]; done)), H', ⟨by have := HK1.out; omega⟩, ⟨by (with_reducible repeat (first | apply Kd.R_alloc | apply Kd.R_drewN | apply Kd.R_drew)); exact qd.out⟩, ⟨bb_ HB⟩⟩

/-! ### laws_toAtom: function 32 -/
def laws_toAtom.f (k : Nat) (l0_0 : List Int) (a0_1 : Int) (a0_2 : Bool) : Option (List Int × Int × Bool) := (laws_toIntS.f k l0_0).bind fun qc => (some (qc, a0_1, a0_2))
theorem laws_toAtom.mono : ∀ a0 a1 a2 k, LeO (laws_toAtom.f k a0 a1 a2) (laws_toAtom.f (k + 1) a0 a1 a2) := by
 intro a0 a1 a2 k
 unfold laws_toAtom.f
 repeat' first
   | (with_reducible exact laws_toIntS.mono _ _)
   | (with_reducible exact LeO.refl _)
   | (with_reducible exact LeO.none _)
   | (with_reducible refine LeO.ite ?_ ?_)
   | (with_reducible refine LeO.bind ?_ (fun _ => ?_))
set_option maxHeartbeats 8000000 in
set_option maxRecDepth 100000 in
theorem laws_toAtom.calls (k : Nat) (A0_0 : Option Addr) (c0_0 : Nat) (l0_0 : List Int) (a0_1 : Int) (a0_2 : Bool) (r1 : List Int) (r2 : Int) (r3 : Bool) (w : World) (hr0_0 : Kd.C (Kd.int .i64) w A0_0 l0_0.length l0_0) (hc0_0 : l0_0.length ≤ c0_0) (h : laws_toAtom.f k l0_0 a0_1 a0_2 = some (r1, r2, r3)) :
  Calls Try.prog 32 #[.agg #[.slice A0_0 l0_0.length c0_0, .int .i64 a0_1, .bool a0_2]] w fun e w' => ∃ v0_ : Value, e = .returned (.agg #[v0_, .int .i64 r2, .bool r3]) ∧ Kd.R (Kd.int .i64) 3 w' w.heap.size (fun _ => True) v0_ r1 ∧ Below w.heap.size w w' := by
 have hu49 := Try.underlying49
 have hu52 := Try.underlying52
 have qp := Aside0.mk hr0_0
 have qq := Aside0.mk hc0_0
 clear hr0_0 hc0_0
 have HB := Aside0.mk (Below.refl w.heap.size w)
 have H : ((laws_toIntS.f k l0_0).bind fun qc => (some (qc, a0_1, a0_2))) = some (r1, r2, r3) := h
 clear h
 replace H := be_ H
 obtain ⟨qc, A20, H⟩ := H
 have A2 := Aside0.mk A20
 clear A20
 simp only [Option.some.injEq, Prod.mk.injEq] at H
 obtain ⟨rfl, rfl, rfl⟩ := H
 go_enter Try.func32, Try.ntmps32
 go_wp2_with (first | ((with_reducible refine gate_dst (N := 1) rfl ?_); refine bx_ (cs := #[.slice A0_0 l0_0.length c0_0, .int .i64 a0_1, .bool a0_2]) (t := 49) ?_; intro qP hg w3 hbox hb; have qa := Aside0.mk (hbox); have qQ := hz_ HB hg; have qR := hz_ HB hg; replace HB := bS_ HB hb; clear hb hbox hg) | ((with_reducible refine gate_dst (N := 2) rfl ?_); refine bx_ (cs := #[.slice none 0 0, .int .i64 0, .bool false]) (t := 52) ?_; intro qd hg w4 hbox hb; have qb := Aside0.mk (hbox); have qS := hz_ HB hg; have qT := hz_ HB hg; replace HB := bS_ HB hb; have qf := nL_ qa hg; have qg := nG_ qa hg; replace qa := kB_ qa hb; clear hb hbox hg) | ((with_reducible refine gate_dst (N := 3) rfl ?_); refine bx_ (cs := #[.slice none 0 0, .int .i64 0, .bool false]) (t := 52) ?_; intro ql hg w5 hbox hb; have qe := Aside0.mk (hbox); have qU := hz_ HB hg; have qV := hz_ HB hg; replace HB := bS_ HB hb; have qh := nL_ qa hg; have qi := nG_ qa hg; replace qa := kB_ qa hb; have qj := nL_ qb hg; have qk := nG_ qb hg; replace qb := kB_ qb hb; clear hb hbox hg; have qY := qf.out; have qZ := qg.out; have q0 := qh.out; have q1 := qi.out; obtain ⟨qJ, qK, qL, qM, qN, qO⟩ := b3_ qa) | ((with_reducible refine gate_callee (f := 70) rfl ?_); refine gL_ (some 6) Try.func70 #[.slice A0_0 l0_0.length c0_0] ?_; (with_reducible refine (laws_toIntS.calls k _ _ l0_0 qc _ ?side1 ?side2 A2.out).mono ?_); (case side1 => exact cb_ qp HB); (case side2 => exact qq.out); rintro e w9 ⟨q2, rfl, ho0, hb⟩; refine ⟨_, rfl, ?_⟩; have qm := Aside0.mk (Kd.R_lower ho0 (bz_ HB)); replace qa := kB_ qa hb; replace qb := kB_ qb hb; replace qe := kB_ qe hb; replace HB := bS_ HB hb; clear hb ho0; obtain ⟨qn, qo, eo10⟩ := Kd.R_slice qm.out; subst eo10; have qW := qk.out; have qX := qj.out; obtain ⟨qr, qs, qt, qu, qv, qw⟩ := b3_ qe; obtain ⟨qx, qy, qz, qA, qB, qC⟩ := b3_ qa; obtain ⟨qD, qE, qF, qG, qH, qI⟩ := b3_ qb))
 refine bodyPost_ret (results_cell_row rfl _ _ qd 52 #[.slice qn qc.length qo, .int .i64 a0_1, .bool a0_2] (0, 0) _ rfl (kp_ qb) Try.underlying52 rfl (by kernel_rfl)) rfl ?_
 exact ⟨_, rt_ ⟨by (with_reducible repeat (first | apply Kd.R_alloc | apply Kd.R_drewN | apply Kd.R_drew)); exact Kd.R_mono (Kd.R_far (p := ⟨qd, 2, none⟩) (Kd.R_far (p := ⟨qd, 1, none⟩) (Kd.R_far (p := ⟨qd, 0, none⟩) (Kd.R_far (p := ⟨ql, 2, none⟩) (Kd.R_far (p := ⟨ql, 1, none⟩) (Kd.R_far (p := ⟨ql, 0, none⟩) (Kd.R_types (Kd.R_types qm.out qe.out (by decide)) qb.out (by decide)) (fun _ hk => hk.1.2) (.slice qn qc.length qo)) (fun _ hk => hk.1.2) (.int .i64 a0_1)) (fun _ hk => hk.1.2) (.bool a0_2)) (fun _ hk => hk.2) (.slice qn qc.length qo)) (fun _ hk => hk.2) (.int .i64 a0_1)) (fun _ hk => hk.2) (.bool a0_2)) (fun _ hk => trivial), bb_ HB⟩⟩

/-! ### laws_toAtomS: function 52 -/
def laws_toAtomS.l0 : Nat → List (S49) → List (S52) → Int → Option ((List (S52)))
 | 0, _, _, _ => none
 | k + 1, x0, x3, x4 => if x4 < (x0.length : Int) then (if 0 ≤ x4 then ((laws_toAtom.f k ((rd_T49 x0 x4).f0) ((rd_T49 x0 x4).f1) ((rd_T49 x0 x4).f2)).bind fun qj => (if x4 < (x3.length : Int) then (laws_toAtomS.l0 k x0 (x3.set (x4 : Int).toNat (⟨qj.1, qj.2.1, qj.2.2⟩ : S52)) (wrap64 (x4 + 1))) else (none))) else (none)) else (some x3)
def laws_toAtomS.f (k : Nat) (l0 : List (S49)) : Option ((List (S52))) := if 0 ≤ (l0.length : Int) then (if ((l0.length : Int) : Int).toNat ≤ 7036874417766 then (laws_toAtomS.l0 k l0 (List.replicate ((l0.length : Int) : Int).toNat z52) 0) else (none)) else (none)
theorem laws_toAtomS.mono_l : ∀ k, (∀ y0 y1 y2, LeO (laws_toAtomS.l0 k y0 y1 y2) (laws_toAtomS.l0 (k + 1) y0 y1 y2))
 | 0 => fun _ _ _ r h => by simp [laws_toAtomS.l0] at h
 | k + 1 => by
  have ih0 := laws_toAtomS.mono_l k
  ·
   intro y0 y1 y2
   unfold laws_toAtomS.l0
   repeat' first
   | (with_reducible exact ih0 _ _ _)
   | (with_reducible exact laws_toAtom.mono _ _ _ _)
   | (with_reducible exact LeO.refl _)
   | (with_reducible exact LeO.none _)
   | (with_reducible refine LeO.ite ?_ ?_)
   | (with_reducible refine LeO.bind ?_ (fun _ => ?_))
theorem laws_toAtomS.mono : ∀ a0 k, LeO (laws_toAtomS.f k a0) (laws_toAtomS.f (k + 1) a0) := by
 intro a0 k
 have ih0 := laws_toAtomS.mono_l k
 unfold laws_toAtomS.f
 repeat' first
   | (with_reducible exact ih0 _ _ _)
   | (with_reducible exact laws_toAtom.mono _ _ _ _)
   | (with_reducible exact LeO.refl _)
   | (with_reducible exact LeO.none _)
   | (with_reducible refine LeO.ite ?_ ?_)
   | (with_reducible refine LeO.bind ?_ (fun _ => ?_))
set_option maxHeartbeats 8000000 in
set_option maxRecDepth 100000 in
theorem laws_toAtomS.calls (k : Nat) (A0 : Option Addr) (c0 : Nat) (l0 : List (S49)) (r : List (S52)) (w : World) (hr0 : Kd.C k49 w A0 l0.length l0) (hc0 : l0.length ≤ c0) (h : laws_toAtomS.f k l0 = some r) :
  Calls Try.prog 52 #[.slice A0 l0.length c0] w fun e w' => ∃ v0_ : Value, e = .returned (v0_) ∧ Kd.S k52 52 w' w.heap.size (fun _ => True) v0_ r ∧ Below w.heap.size w w' := by
 have hu49 := Try.underlying49
 have hu52 := Try.underlying52
 have HR0 := Aside0.mk hr0
 have HC0 := Aside0.mk hc0
 clear hr0 hc0
 have HB := Aside0.mk (Below.refl w.heap.size w)
 have H : (if 0 ≤ (l0.length : Int) then (if ((l0.length : Int) : Int).toNat ≤ 7036874417766 then (laws_toAtomS.l0 k l0 (List.replicate ((l0.length : Int) : Int).toNat z52) 0) else (none)) else (none)) = some r := h
 clear h
 replace H := ip_ H
 obtain ⟨c2, H⟩ := H
 have qG := eq_true c2
 have qH : decide (0 ≤ (l0.length : Int)) = true := decide_eq_true c2
 clear c2
 replace H := ip_ H
 obtain ⟨c3, H⟩ := H
 have qI := eq_true c3
 have qJ : decide (((l0.length : Int) : Int).toNat ≤ 7036874417766) = true := decide_eq_true c3
 clear c3
 obtain ⟨y118, hy118⟩ : ∃ y_ : List (S52), y_ = (List.replicate ((l0.length : Int) : Int).toNat z52) := ⟨_, rfl⟩
 replace H : (laws_toAtomS.l0 k l0 y118 0) = some r := by first | (rw [hy118]; with_reducible exact H) | (have H2_ := (Option.bind_some _ _).symm.trans H; rw [hy118]; with_reducible exact H2_) | (have H2_ := (Option.bind_some _ _).symm.trans H; with_reducible exact H2_) | with_reducible exact H | (rw [hy118]; exact H) | exact H
 have Ny118 := Aside0.mk hy118
 clear hy118
 have H' := Aside0.mk H
 clear H
 go_enter Try.func52, Try.ntmps52
 go_wp2_with (first | ((with_reducible refine gate_dst (N := 7) rfl ?_); refine Kd.S_make k52 _ 52 rfl (N := 7) rfl 26 _ _ rfl (l0.length : Int) rfl rfl Try.underlying26 (.agg #[(.slice none 0 0), (.int .i64 0), (.bool false)]) 40 info52 rfl (by decide) (by omega) z52 (ok := fun _ => True) (okp := fun _ => True) (k52_mkM _ _ _ z52 (Kd.R_nil _ _ _ _ _)) (fun _ hk => hk) trivial (od_) (Nat.le_trans (Nat.mul_le_mul_right _ (od_ : (l0.length : Int).toNat ≤ 7036874417766)) (by omega)) (Below.refl _ _) (Nat.le_refl _) ?_; intro qy w4 ho5 hb hg_ hnew_; clear hg_ hnew_; (first | rw [← Ny118.out] at ho5 | (simp only [Int.reduceToNat] at ho5; rw [← Ny118.out] at ho5)); have qv := Aside0.mk (Kd.S_lower ho5 (bz_ HB)); replace HB := bS_ HB hb; clear hb ho5))
 go_loopg [4] k (fun kq v4 w' => ∃ (qb : List (S52)) (qa : Int), v4 = .int .i64 qa ∧ Aside0 (laws_toAtomS.l0 kq l0 qb qa = some r) ∧ Aside0 (kq ≤ k) ∧ Aside0 (Kd.S k52 52 w' w.heap.size (fun _ => True) qy qb) ∧ Aside0 (Below w.heap.size w w'))
 case atStart => exact ⟨(y118), (0), (by first | rfl | (simp; done) | (simp [*]; done)), H', ⟨Nat.le_refl _⟩, ⟨by (with_reducible repeat (first | apply Kd.S_alloc | apply Kd.S_drewN | apply Kd.S_drew)); exact qv.out⟩, ⟨bb_ HB⟩⟩
 clear H'
 obtain ⟨qb, qa, rfl, HA, HK1, qc, HB⟩ := hrel
 cases gk with
 | zero => exact absurd HA.out (by simp [laws_toAtomS.l0])
 | succ k1 =>
  have H := HA.out
  clear HA
  simp only [laws_toAtomS.l0] at H
  by_cases c6 : qa < (l0.length : Int)
  rotate_left
  ·
   rw [if_neg c6] at H
   have qz : decide (qa < (l0.length : Int)) = false := decide_eq_false c6
   clear c6
   obtain rfl := Option.some.inj H
   go_wp2
   go_ret
   exact ⟨_, rt_ ⟨by (with_reducible repeat (first | apply Kd.S_alloc | apply Kd.S_drewN | apply Kd.S_drew)); exact qc.out, bb_ HB⟩⟩
  rw [if_pos c6] at H
  have qz : decide (qa < (l0.length : Int)) = true := decide_eq_true c6
  clear c6
  replace H := ip_ H
  obtain ⟨c7, H⟩ := H
  have qK : decide (0 ≤ qa) = true := decide_eq_true c7
  clear c7
  replace H := be_ H
  obtain ⟨⟨qk, qd, qe⟩, A80, H⟩ := H
  replace H : (if qa < (qb.length : Int) then (laws_toAtomS.l0 k1 l0 (qb.set (qa : Int).toNat (⟨qk, qd, qe⟩ : S52)) (wrap64 (qa + 1))) else (none)) = some r := H
  have A8 := Aside0.mk A80
  clear A80
  replace H := ip_ H
  obtain ⟨c9, H⟩ := H
  have qL : decide (qa < (qb.length : Int)) = true := decide_eq_true c9
  clear c9
  obtain ⟨y127, hy127⟩ : ∃ y_ : List (S52), y_ = (qb.set (qa : Int).toNat (⟨qk, qd, qe⟩ : S52)) := ⟨_, rfl⟩
  replace H : (laws_toAtomS.l0 k1 l0 y127 (wrap64 (qa + 1))) = some r := by first | (rw [hy127]; with_reducible exact H) | (have H2_ := (Option.bind_some _ _).symm.trans H; rw [hy127]; with_reducible exact H2_) | (have H2_ := (Option.bind_some _ _).symm.trans H; with_reducible exact H2_) | with_reducible exact H | (rw [hy127]; exact H) | exact H
  have Ny127 := Aside0.mk hy127
  clear hy127
  have H' := Aside0.mk H
  clear H
  have p121 : 0 ≤ (qa : Int) := od_
  have q121 : qa < (l0.length : Int) := od_
  obtain ⟨qF, qp, c121_0, e121, qf, qg, qh, hl121_0, hi121_0⟩ := at_T49 HR0.out qa p121 q121
  cases e121
  replace qf := ct_ HB qf
  replace qg := ct_ HB qg
  replace qh := ct_ HB qh
  have ql := Aside0.mk hi121_0
  have qm := Aside0.mk hl121_0
  clear hi121_0 hl121_0
  replace p121 := eq_true p121
  replace q121 := eq_true q121
  go_wp2_with (first | ((with_reducible refine gate_callee (f := 32) rfl ?_); refine gL_ (some 20) Try.func32 #[.agg #[.slice qp ((rd_T49 l0 qa).f0).length c121_0, .int .i64 ((rd_T49 l0 qa).f1), .bool ((rd_T49 l0 qa).f2)]] ?_; (with_reducible refine (laws_toAtom.calls k1 _ _ ((rd_T49 l0 qa).f0) ((rd_T49 l0 qa).f1) ((rd_T49 l0 qa).f2) qk qd qe _ ?side1 ?side2 A8.out).mono ?_); (case side1 => exact cb_ ql HB); (case side2 => exact qm.out); rintro e qn ⟨qo, rfl, ho0, hb⟩; refine ⟨_, rfl, ?_⟩; replace qc := Aside0.mk (Kd.S_elder' (sm_ qc) (Kd.R_base ho0) hb); have qi := Aside0.mk (Kd.R_lower ho0 (bz_ HB)); replace HB := bS_ HB hb; clear hb ho0; have p10 : 0 ≤ (qa : Int) := od_; have q10 : (qa : Int) < ((qb.length : Int) : Int) := od_; obtain ⟨go10, qw, eo10, qx, gl10, cl10, HG10⟩ := Kd.S_form qc.out (by omega); (first | cases eo10 | (injection eo10 with ea_ en_ ec_; (first | subst ea_ | (injection ea_ with ea_; subst ea_)); subst ec_; clear en_)); have qq := Aside0.mk qx; have qM := Aside0.mk HG10; clear qx gl10 HG10; obtain ⟨_, ce10, hcl10, hM10, hcc10, hfr10, _, _⟩ := Kd.S_elem qc.out z52 (qa : Int) p10 q10; obtain ⟨ve10_0, rfl, ge10_0⟩ := k52_openM hM10; have qA : qn.cell? ⟨go10, (qa : Int).toNat * 3, none⟩ = some (ve10_0) := hcc10 0 _ rfl; have qB : qn.cell? ⟨go10, (qa : Int).toNat * 3 + 1, none⟩ = some (.int .i64 ((rd_T52 qb qa).f1)) := hcc10 1 _ rfl; have qC : qn.cell? ⟨go10, (qa : Int).toNat * 3 + 2, none⟩ = some (.bool ((rd_T52 qb qa).f2)) := hcc10 2 _ rfl; have hf10_0 : qn.frozen? ⟨go10, (qa : Int).toNat * 3, none⟩ = false := hfr10 0; have hf10_1 : qn.frozen? ⟨go10, (qa : Int).toNat * 3 + 1, none⟩ = false := hfr10 1; have hf10_2 : qn.frozen? ⟨go10, (qa : Int).toNat * 3 + 2, none⟩ = false := hfr10 2; clear hcl10 hcc10 hfr10 hM10; replace p10 := eq_true p10; replace q10 := eq_true q10; have n_ := Aside0.mk (Kd.S_mono (ok' := (fun k_ => some k_ ≠ (qo : Value).ownBlock)) qc.out (fun k_ hk => hk.2)); clear qc; have qc := n_; clear n_; have qD := Aside0.mk (show Kd.S k52 52 qn w.heap.size (fun k_ => ((fun _ => True)) k_ ∧ ¬ ((fun k_ => some k_ = (qo : Value).ownBlock)) k_) (.slice (some ⟨go10, 0, none⟩) qb.length qw) qb from (by (with_reducible repeat (first | apply Kd.S_alloc | apply Kd.S_drewN | apply Kd.S_drew)); exact Kd.S_mono qc.out (fun k_ hk => ⟨trivial, fun e_ => hk e_⟩))); obtain ⟨oki12, ce12, hcl12, hM12, hcc12, hfr12, hoki12, hH12⟩ := Kd.S_elem qD.out z52 (qa : Int) (od_) (by have h_ : (qa : Int) < ((qb.length : Int) : Int) := od_; first | exact h_ | (have e_ := (Kd.S_reads' qc.out).1; omega) | simpa using h_); obtain ⟨ve12_0, rfl, ge12_0⟩ := k52_openM hM12; have qr := Kd.S_seg hH12 (od_) (by have h_ : (qa : Int) < ((qb.length : Int) : Int) := od_; first | exact h_ | (have e_ := (Kd.S_reads' qc.out).1; omega) | simpa using h_) (seg := [qo, .int .i64 qd, .bool qe]) (j := 0) (show 3 ≤ 3 from by decide) (x' := (⟨qk, qd, qe⟩ : S52)) (k52_mkM _ _ _ (⟨qk, qd, qe⟩ : S52) (Kd.R_mono (Kd.R_tight rfl (Kd.R_mono (ok' := fun k_ => ((fun _ => True)) k_ ∧ k_ ≠ go10) (Kd.R_apart' (qi.out) (Kd.S_typed qc.out) (by decide)) (fun k_ hk => ⟨trivial, fun e_ => (hk.2) (by rw [e_]; rfl)⟩))) (fun _ h_ => Or.inr (h_)))) (fun _ hk => hk) (fun k_ hk_ => ((Kd.R_mono (ok' := fun k_ => ((fun _ => True)) k_ ∧ k_ ≠ go10) (Kd.R_apart' (qi.out) (Kd.S_typed qc.out) (by decide)) (fun k_ hk => ⟨trivial, fun e_ => (hk.2) (by rw [e_]; rfl)⟩))).1 k_ hk_.symm); have qs := hcc12 0 _ rfl; (try simp only [show (k52).sz = 3 from rfl, Nat.mul_one, Nat.add_zero] at qs); have hf12_0 := hfr12 0; (try simp only [show (k52).sz = 3 from rfl, Nat.mul_one, Nat.add_zero] at hf12_0); have qt := hcc12 1 _ rfl; (try simp only [show (k52).sz = 3 from rfl, Nat.mul_one, Nat.add_zero] at qt); have hf12_1 := hfr12 1; (try simp only [show (k52).sz = 3 from rfl, Nat.mul_one, Nat.add_zero] at hf12_1); have qu := hcc12 2 _ rfl; (try simp only [show (k52).sz = 3 from rfl, Nat.mul_one, Nat.add_zero] at qu); have hf12_2 := hfr12 2; (try simp only [show (k52).sz = 3 from rfl, Nat.mul_one, Nat.add_zero] at hf12_2); clear hcl12 hcc12 hfr12 hM12 hoki12 hH12) | ((with_reducible refine gate_store (t := 52) (p := 21) rfl ?_); refine store_event (t := 52) (p := 21) (v := ?vo_w13) (w1 := (((qn.setCell ⟨go10, (qa : Int).toNat * 3, none⟩ (qo)).setCell ⟨go10, (qa : Int).toNat * 3 + 1, none⟩ (.int .i64 qd)).setCell ⟨go10, (qa : Int).toNat * 3 + 2, none⟩ (.bool qe))) ?hg ?ho ?hn ?hr ?_; (case ho => rfl); (case hg => rfl); (case hn => rfl); (case hr => (obtain ⟨Av_, cv_, ev_⟩ := Kd.R_slice qi.out; subst ev_; first | (go_simp; done) | (go_simp; rfl))); intro qE hw; have hg : qn.grownBy qE (some go10) := (by rw [hw]; exact qr.2); have hp_ : Kd.S k52 52 qE w.heap.size (fun _ => True) (.slice (some ⟨go10, 0, none⟩) qb.length qw) y127 := (by rw [hw, Ny127.out]; exact qr.1); clear qr; replace qc := Aside0.mk (hp_); replace HB := Aside0.mk ((by rw [hw]; exact below_set (below_set (below_set (HB.out) qq.out) qq.out) qq.out : Below w.heap.size w qE)); clear qi; clear hg hw hp_))
  go_roundg k1
  case measure => have := HK1.out; omega
  case rel => exact ⟨(y127), (wrap64 (qa + 1)), (by first | rfl | (simp; done) | (simp [*]; done)), H', ⟨by have := HK1.out; omega⟩, ⟨by (with_reducible repeat (first | apply Kd.S_alloc | apply Kd.S_drewN | apply Kd.S_drew)); exact qc.out⟩, ⟨bb_ HB⟩⟩

/-! ### laws_toCell: function 16 -/
def laws_toCell.f (k : Nat) (a0_0 : Int) (l0_1 : List (S49)) : Option (Int × (List (S52))) := (laws_toAtomS.f k l0_1).bind fun qc => (some (a0_0, qc))
theorem laws_toCell.mono : ∀ a0 a1 k, LeO (laws_toCell.f k a0 a1) (laws_toCell.f (k + 1) a0 a1) := by
 intro a0 a1 k
 unfold laws_toCell.f
 repeat' first
   | (with_reducible exact laws_toAtomS.mono _ _)
   | (with_reducible exact LeO.refl _)
   | (with_reducible exact LeO.none _)
   | (with_reducible refine LeO.ite ?_ ?_)
   | (with_reducible refine LeO.bind ?_ (fun _ => ?_))
set_option maxHeartbeats 8000000 in
set_option maxRecDepth 100000 in
theorem laws_toCell.calls (k : Nat) (a0_0 : Int) (A0_1 : Option Addr) (c0_1 : Nat) (l0_1 : List (S49)) (r1 : Int) (r2 : List (S52)) (w : World) (hr0_1 : Kd.C k49 w A0_1 l0_1.length l0_1) (hc0_1 : l0_1.length ≤ c0_1) (h : laws_toCell.f k a0_0 l0_1 = some (r1, r2)) :
  Calls Try.prog 16 #[.agg #[.int .i64 a0_0, .slice A0_1 l0_1.length c0_1]] w fun e w' => ∃ v1_ : Value, e = .returned (.agg #[.int .i64 r1, v1_]) ∧ Kd.S k52 52 w' w.heap.size (fun _ => True) v1_ r2 ∧ Below w.heap.size w w' := by
 have hu24 := Try.underlying24
 have hu28 := Try.underlying28
 have qo := Aside0.mk hr0_1
 have qp := Aside0.mk hc0_1
 clear hr0_1 hc0_1
 have HB := Aside0.mk (Below.refl w.heap.size w)
 have H : ((laws_toAtomS.f k l0_1).bind fun qc => (some (a0_0, qc))) = some (r1, r2) := h
 clear h
 replace H := be_ H
 obtain ⟨qc, A20, H⟩ := H
 have A2 := Aside0.mk A20
 clear A20
 simp only [Option.some.injEq, Prod.mk.injEq] at H
 obtain ⟨rfl, rfl⟩ := H
 go_enter Try.func16, Try.ntmps16
 go_wp2_with (first | ((with_reducible refine gate_dst (N := 1) rfl ?_); refine bx_ (cs := #[.int .i64 a0_0, .slice A0_1 l0_1.length c0_1]) (t := 24) ?_; intro qH hg w3 hbox hb; have qa := Aside0.mk (hbox); have qI := hz_ HB hg; have qJ := hz_ HB hg; replace HB := bS_ HB hb; clear hb hbox hg) | ((with_reducible refine gate_dst (N := 2) rfl ?_); refine bx_ (cs := #[.int .i64 0, .slice none 0 0]) (t := 28) ?_; intro qk hg w4 hbox hb; have qb := Aside0.mk (hbox); have qK := hz_ HB hg; have qL := hz_ HB hg; replace HB := bS_ HB hb; have qe := nL_ qa hg; have qf := nG_ qa hg; replace qa := kB_ qa hb; clear hb hbox hg) | ((with_reducible refine gate_dst (N := 3) rfl ?_); refine bx_ (cs := #[.int .i64 0, .slice none 0 0]) (t := 28) ?_; intro qq hg w5 hbox hb; have qd := Aside0.mk (hbox); have qM := hz_ HB hg; have qN := hz_ HB hg; replace HB := bS_ HB hb; have qg := nL_ qa hg; have qh := nG_ qa hg; replace qa := kB_ qa hb; have qi := nL_ qb hg; have qj := nG_ qb hg; replace qb := kB_ qb hb; clear hb hbox hg; have qO := qe.out; have qP := qf.out; have qQ := qg.out; have qR := qh.out; obtain ⟨qD, qE, qF, qG⟩ := b2_ qa; have qS := qj.out; have qT := qi.out; obtain ⟨qr, qs, qt, qu⟩ := b2_ qd) | ((with_reducible refine gate_callee (f := 52) rfl ?_); refine gL_ (some 9) Try.func52 #[.slice A0_1 l0_1.length c0_1] ?_; (with_reducible refine (laws_toAtomS.calls k _ _ l0_1 qc _ ?side1 ?side2 A2.out).mono ?_); (case side1 => exact Kd.C_below qo.out (bb_ HB)); (case side2 => exact qp.out); rintro e qV ⟨qU, rfl, ho0, hb⟩; refine ⟨_, rfl, ?_⟩; have ql := Aside0.mk (Kd.S_lower ho0 (bz_ HB)); replace qa := kF_ qa hb; replace qb := kF_ qb hb; replace qd := kP_ (cs' := #[.int .i64 a0_0, .slice none 0 0]) qd hb; replace HB := bS_ HB hb; clear hb ho0; obtain ⟨qm, qn, eo12⟩ := Kd.S_slice ql.out; subst eo12; obtain ⟨qv, qw, qx, qy⟩ := b2_ qd; obtain ⟨qz, qA, qB, qC⟩ := b2_ qb))
 refine bodyPost_ret (results_cell_row rfl _ _ qk 28 #[.int .i64 a0_0, .slice qm qc.length qn] (0, 0) _ rfl (kp_ qb) Try.underlying28 rfl (by kernel_rfl)) rfl ?_
 exact ⟨_, rt_ ⟨by (with_reducible repeat (first | apply Kd.S_alloc | apply Kd.S_drewN | apply Kd.S_drew)); exact Kd.S_mono (Kd.S_far (p := ⟨qk, 1, none⟩) (Kd.S_far (p := ⟨qk, 0, none⟩) (Kd.S_far (p := ⟨qq, 1, none⟩) (Kd.S_types (Kd.S_types ql.out qd.out (by decide)) qb.out (by decide)) (fun _ hk => hk.1.2) (.slice qm qc.length qn)) (fun _ hk => hk.2) (.int .i64 a0_0)) (fun _ hk => hk.2) (.slice qm qc.length qn)) (fun _ hk => trivial), bb_ HB⟩⟩

/-! ### laws_eqIntS: function 72 -/
def laws_eqIntS.l0 : Nat → List Int → List Int → Int → Option (Bool)
 | 0, _, _, _ => none
 | k + 1, x0, x1, x5 => if x5 < (x0.length : Int) then (if 0 ≤ x5 then (if x5 < (x1.length : Int) then (if (rd x0 x5) = (rd x1 x5) then (laws_eqIntS.l0 k x0 x1 (wrap64 (x5 + 1))) else (some false)) else (none)) else (none)) else (some true)
def laws_eqIntS.f (k : Nat) (l0 : List Int) (l1 : List Int) : Option (Bool) := if (l0.length : Int) = (l1.length : Int) then (laws_eqIntS.l0 k l0 l1 0) else (some false)
theorem laws_eqIntS.mono_l : ∀ k, (∀ y0 y1 y2, LeO (laws_eqIntS.l0 k y0 y1 y2) (laws_eqIntS.l0 (k + 1) y0 y1 y2))
 | 0 => fun _ _ _ r h => by simp [laws_eqIntS.l0] at h
 | k + 1 => by
  have ih0 := laws_eqIntS.mono_l k
  ·
   intro y0 y1 y2
   unfold laws_eqIntS.l0
   repeat' first
   | (with_reducible exact ih0 _ _ _)
   | (with_reducible exact LeO.refl _)
   | (with_reducible exact LeO.none _)
   | (with_reducible refine LeO.ite ?_ ?_)
   | (with_reducible refine LeO.bind ?_ (fun _ => ?_))
theorem laws_eqIntS.mono : ∀ a0 a1 k, LeO (laws_eqIntS.f k a0 a1) (laws_eqIntS.f (k + 1) a0 a1) := by
 intro a0 a1 k
 have ih0 := laws_eqIntS.mono_l k
 unfold laws_eqIntS.f
 repeat' first
   | (with_reducible exact ih0 _ _ _)
   | (with_reducible exact LeO.refl _)
   | (with_reducible exact LeO.none _)
   | (with_reducible refine LeO.ite ?_ ?_)
   | (with_reducible refine LeO.bind ?_ (fun _ => ?_))
set_option maxHeartbeats 8000000 in
set_option maxRecDepth 100000 in
theorem laws_eqIntS.calls (k : Nat) (A0 : Option Addr) (c0 : Nat) (l0 : List Int) (A1 : Option Addr) (c1 : Nat) (l1 : List Int) (r : Bool) (w : World) (hr0 : Kd.C (Kd.int .i64) w A0 l0.length l0) (hc0 : l0.length ≤ c0) (hr1 : Kd.C (Kd.int .i64) w A1 l1.length l1) (hc1 : l1.length ≤ c1) (h : laws_eqIntS.f k l0 l1 = some r) :
  Calls Try.prog 72 #[.slice A0 l0.length c0, .slice A1 l1.length c1] w fun e w' => e = .returned (.bool r) ∧ Drawn0 w w' := by
 have HR0 := Aside0.mk hr0
 have HC0 := Aside0.mk hc0
 clear hr0 hc0
 have HR1 := Aside0.mk hr1
 have HC1 := Aside0.mk hc1
 clear hr1 hc1
 have H : (if (l0.length : Int) = (l1.length : Int) then (laws_eqIntS.l0 k l0 l1 0) else (some false)) = some r := h
 clear h
 by_cases c3 : (l0.length : Int) = (l1.length : Int)
 rotate_left
 ·
  rw [if_neg c3] at H
  have qf : ((l0.length : Int) == (l1.length : Int)) = false := beq_eq_false_iff_ne.mpr c3
  have qg : ((l0.length : Int) != (l1.length : Int)) = true := bne_iff_ne.mpr c3
  have qh : (l0.length == l1.length) = false := by first | simpa using c3 | (simp at c3 ⊢; omega)
  obtain rfl := Option.some.inj H
  go_enter Try.func72, Try.ntmps72
  go_wp2
  repeat (go_quiet (fail); try go_wp2)
  go_ret
  exact ⟨by first | rfl | (simp; done) | (simp [*]; done), by repeat (first | exact Drawn0.refl _ | apply Drawn0.step)⟩
 rw [if_pos c3] at H
 have qf : ((l0.length : Int) == (l1.length : Int)) = true := beq_iff_eq.mpr c3
 have qg : ((l0.length : Int) != (l1.length : Int)) = false := bne_eq_false_iff_eq.mpr c3
 have qh : (l0.length == l1.length) = true := by first | simpa using c3 | (simp at c3 ⊢; omega)
 clear c3
 have H' := Aside0.mk H
 clear H
 go_enter Try.func72, Try.ntmps72
 go_wp2
 repeat (go_quiet (fail); try go_wp2)
 go_loopg [5] k (fun kq v5 w' => ∃ (qa : Int), v5 = .int .i64 qa ∧ Aside0 (laws_eqIntS.l0 kq l0 l1 qa = some r) ∧ Aside0 (kq ≤ k) ∧ Drawn0 w w')
 case atStart => exact ⟨(0), (by first | rfl | (simp; done) | (simp [*]; done)), H', ⟨Nat.le_refl _⟩, by repeat (first | exact Drawn0.refl _ | apply Drawn0.step)⟩
 clear H'
 obtain ⟨qa, rfl, HA, HK1, ⟨m1, rfl⟩⟩ := hrel
 cases gk with
 | zero => exact absurd HA.out (by simp [laws_eqIntS.l0])
 | succ k1 =>
  have H := HA.out
  clear HA
  simp only [laws_eqIntS.l0] at H
  by_cases c4 : qa < (l0.length : Int)
  rotate_left
  ·
   rw [if_neg c4] at H
   have qi : decide (qa < (l0.length : Int)) = false := decide_eq_false c4
   clear c4
   obtain rfl := Option.some.inj H
   go_wp2
   repeat (go_quiet (fail); try go_wp2)
   go_ret
   exact ⟨by first | rfl | (simp; done) | (simp [*]; done), by repeat (first | exact Drawn0.refl _ | apply Drawn0.step)⟩
  rw [if_pos c4] at H
  have qi : decide (qa < (l0.length : Int)) = true := decide_eq_true c4
  clear c4
  replace H := ip_ H
  obtain ⟨c5, H⟩ := H
  have ql : decide (0 ≤ qa) = true := decide_eq_true c5
  clear c5
  replace H := ip_ H
  obtain ⟨c6, H⟩ := H
  have qm : decide (qa < (l1.length : Int)) = true := decide_eq_true c6
  clear c6
  by_cases c7 : (rd l0 qa) = (rd l1 qa)
  rotate_left
  ·
   rw [if_neg c7] at H
   have qj : ((rd l0 qa) == (rd l1 qa)) = false := beq_eq_false_iff_ne.mpr c7
   have qk : ((rd l0 qa) != (rd l1 qa)) = true := bne_iff_ne.mpr c7
   obtain rfl := Option.some.inj H
   have p134 : 0 ≤ (qa : Int) := od_
   have q134 : qa < (l0.length : Int) := od_
   obtain ⟨qd, e134, qb⟩ := Kd.at_int HR0.out qa p134 q134
   cases e134
   replace p134 := eq_true p134
   replace q134 := eq_true q134
   have p135 : 0 ≤ (qa : Int) := od_
   have q135 : qa < (l1.length : Int) := od_
   obtain ⟨qe, e135, qc⟩ := Kd.at_int HR1.out qa p135 q135
   cases e135
   replace p135 := eq_true p135
   replace q135 := eq_true q135
   go_wp2
   repeat (go_quiet (fail); try go_wp2)
   go_ret
   exact ⟨by first | rfl | (simp; done) | (simp [*]; done), by repeat (first | exact Drawn0.refl _ | apply Drawn0.step)⟩
  rw [if_pos c7] at H
  have qj : ((rd l0 qa) == (rd l1 qa)) = true := beq_iff_eq.mpr c7
  have qk : ((rd l0 qa) != (rd l1 qa)) = false := bne_eq_false_iff_eq.mpr c7
  clear c7
  have H' := Aside0.mk H
  clear H
  have p134 : 0 ≤ (qa : Int) := od_
  have q134 : qa < (l0.length : Int) := od_
  obtain ⟨qd, e134, qb⟩ := Kd.at_int HR0.out qa p134 q134
  cases e134
  replace p134 := eq_true p134
  replace q134 := eq_true q134
  have p135 : 0 ≤ (qa : Int) := od_
  have q135 : qa < (l1.length : Int) := od_
  obtain ⟨qe, e135, qc⟩ := Kd.at_int HR1.out qa p135 q135
  cases e135
  replace p135 := eq_true p135
  replace q135 := eq_true q135
  go_wp2
  repeat (go_quiet (fail); try go_wp2)
  go_roundg k1
  case measure => have := HK1.out; omega
  case rel => exact ⟨(wrap64 (qa + 1)), (by first | rfl | (simp; done) | (simp [*]; done)), H', ⟨by have := HK1.out; omega⟩, by repeat (first | exact Drawn0.refl _ | apply Drawn0.step)⟩

/-! ### laws_eqAtom: function 34 -/
def laws_eqAtom.f (k : Nat) (l0_0 : List Int) (a0_1 : Int) (a0_2 : Bool) (l1_0 : List Int) (a1_1 : Int) (a1_2 : Bool) : Option (Bool) := (laws_eqIntS.f k l0_0 l1_0).bind fun qi => (if qi = true then (if a0_1 = a1_1 then (if (a0_2 != a1_2) = true then (some false) else (some true)) else (some false)) else (some false))
theorem laws_eqAtom.mono : ∀ a0 a1 a2 a3 a4 a5 k, LeO (laws_eqAtom.f k a0 a1 a2 a3 a4 a5) (laws_eqAtom.f (k + 1) a0 a1 a2 a3 a4 a5) := by
 intro a0 a1 a2 a3 a4 a5 k
 unfold laws_eqAtom.f
 repeat' first
   | (with_reducible exact laws_eqIntS.mono _ _ _)
   | (with_reducible exact LeO.refl _)
   | (with_reducible exact LeO.none _)
   | (with_reducible refine LeO.ite ?_ ?_)
   | (with_reducible refine LeO.bind ?_ (fun _ => ?_))
set_option maxHeartbeats 8000000 in
set_option maxRecDepth 100000 in
theorem laws_eqAtom.calls (k : Nat) (A0_0 : Option Addr) (c0_0 : Nat) (l0_0 : List Int) (a0_1 : Int) (a0_2 : Bool) (A1_0 : Option Addr) (c1_0 : Nat) (l1_0 : List Int) (a1_1 : Int) (a1_2 : Bool) (r : Bool) (w : World) (hr0_0 : Kd.C (Kd.int .i64) w A0_0 l0_0.length l0_0) (hc0_0 : l0_0.length ≤ c0_0) (hr1_0 : Kd.C (Kd.int .i64) w A1_0 l1_0.length l1_0) (hc1_0 : l1_0.length ≤ c1_0) (h : laws_eqAtom.f k l0_0 a0_1 a0_2 l1_0 a1_1 a1_2 = some r) :
  Calls Try.prog 34 #[.agg #[.slice A0_0 l0_0.length c0_0, .int .i64 a0_1, .bool a0_2], .agg #[.slice A1_0 l1_0.length c1_0, .int .i64 a1_1, .bool a1_2]] w fun e w' => e = .returned (.bool r) ∧ Below w.heap.size w w' := by
 have hu52 := Try.underlying52
 have qe := Aside0.mk hr0_0
 have qf := Aside0.mk hc0_0
 clear hr0_0 hc0_0
 have qg := Aside0.mk hr1_0
 have qh := Aside0.mk hc1_0
 clear hr1_0 hc1_0
 have HB := Aside0.mk (Below.refl w.heap.size w)
 have H : ((laws_eqIntS.f k l0_0 l1_0).bind fun qi => (if qi = true then (if a0_1 = a1_1 then (if (a0_2 != a1_2) = true then (some false) else (some true)) else (some false)) else (some false))) = some r := h
 clear h
 replace H := be_ H
 obtain ⟨qi, A30, H⟩ := H
 have A3 := Aside0.mk A30
 clear A30
 by_cases c4 : qi = true
 rotate_left
 ·
  replace c4 := Bool.eq_false_iff.mpr c4
  subst c4
  have H1 : (some false) = some r := by rw [if_neg (show ¬ (false = true) by decide)] at H; exact H
  clear H
  have H := H1
  clear H1
  obtain rfl := Option.some.inj H
  go_enter Try.func34, Try.ntmps34
  go_wp2_with (first | ((with_reducible refine gate_dst (N := 2) rfl ?_); refine bx_ (cs := #[.slice A0_0 l0_0.length c0_0, .int .i64 a0_1, .bool a0_2]) (t := 52) ?_; intro qj hg zp hbox hb; have qa := Aside0.mk (hbox); have qk := hz_ HB hg; have ql := hz_ HB hg; replace HB := bS_ HB hb; clear hb hbox hg) | ((with_reducible refine gate_dst (N := 3) rfl ?_); refine bx_ (cs := #[.slice A1_0 l1_0.length c1_0, .int .i64 a1_1, .bool a1_2]) (t := 52) ?_; intro qm hg zq hbox hb; have qd := Aside0.mk (hbox); have qn := hz_ HB hg; have qo := hz_ HB hg; replace HB := bS_ HB hb; have qb := nL_ qa hg; have qc := nG_ qa hg; replace qa := kB_ qa hb; clear hb hbox hg; have zg := qb.out; have zh := qc.out; obtain ⟨qp, qq, qr, qs, qt, qu⟩ := b3_ qa; obtain ⟨qv, qw, qx, qy, qz, qA⟩ := b3_ qd) | ((with_reducible refine gate_callee (f := 72) rfl ?_); refine gL_ (some 9) Try.func72 #[.slice A0_0 l0_0.length c0_0, .slice A1_0 l1_0.length c1_0] ?_; (with_reducible refine (laws_eqIntS.calls k _ _ l0_0 _ _ l1_0 false _ ?side1 ?side2 ?side3 ?side4 A3.out).mono ?_); (case side1 => exact cb_ qe HB); (case side2 => exact qf.out); (case side3 => exact cb_ qg HB); (case side4 => exact qh.out); rintro e w' ⟨rfl, ⟨nd, rfl⟩⟩; refine ⟨_, rfl, ?_⟩))
  go_ret
  exact rt_ (bb_ HB)
 subst c4
 have H1 : (if a0_1 = a1_1 then (if (a0_2 != a1_2) = true then (some false) else (some true)) else (some false)) = some r := by rw [if_pos rfl] at H; exact H
 clear H
 have H := H1
 clear H1
 by_cases c5 : a0_1 = a1_1
 rotate_left
 ·
  rw [if_neg c5] at H
  have zb : (a0_1 == a1_1) = false := beq_eq_false_iff_ne.mpr c5
  have zc : (a0_1 != a1_1) = true := bne_iff_ne.mpr c5
  obtain rfl := Option.some.inj H
  go_enter Try.func34, Try.ntmps34
  go_wp2_with (first | ((with_reducible refine gate_dst (N := 2) rfl ?_); refine bx_ (cs := #[.slice A0_0 l0_0.length c0_0, .int .i64 a0_1, .bool a0_2]) (t := 52) ?_; intro qj hg zr hbox hb; have qa := Aside0.mk (hbox); have qk := hz_ HB hg; have ql := hz_ HB hg; replace HB := bS_ HB hb; clear hb hbox hg) | ((with_reducible refine gate_dst (N := 3) rfl ?_); refine bx_ (cs := #[.slice A1_0 l1_0.length c1_0, .int .i64 a1_1, .bool a1_2]) (t := 52) ?_; intro qm hg zs hbox hb; have qd := Aside0.mk (hbox); have qn := hz_ HB hg; have qo := hz_ HB hg; replace HB := bS_ HB hb; have qb := nL_ qa hg; have qc := nG_ qa hg; replace qa := kB_ qa hb; clear hb hbox hg; have zi := qb.out; have zj := qc.out; obtain ⟨qB, qC, qD, qE, qF, qG⟩ := b3_ qa; obtain ⟨qH, qI, qJ, qK, qL, qM⟩ := b3_ qd) | ((with_reducible refine gate_callee (f := 72) rfl ?_); refine gL_ (some 9) Try.func72 #[.slice A0_0 l0_0.length c0_0, .slice A1_0 l1_0.length c1_0] ?_; (with_reducible refine (laws_eqIntS.calls k _ _ l0_0 _ _ l1_0 true _ ?side1 ?side2 ?side3 ?side4 A3.out).mono ?_); (case side1 => exact cb_ qe HB); (case side2 => exact qf.out); (case side3 => exact cb_ qg HB); (case side4 => exact qh.out); rintro e w' ⟨rfl, ⟨nd, rfl⟩⟩; refine ⟨_, rfl, ?_⟩))
  go_ret
  exact rt_ (bb_ HB)
 rw [if_pos c5] at H
 have zb : (a0_1 == a1_1) = true := beq_iff_eq.mpr c5
 have zc : (a0_1 != a1_1) = false := bne_eq_false_iff_eq.mpr c5
 clear c5
 by_cases c6 : (a0_2 != a1_2) = true
 rotate_left
 ·
  rw [if_neg c6] at H
  have zd : (a0_2 != a1_2) = false := by simpa using c6
  (try (have ze : decide (a0_2 = a1_2) = true := by simpa using c6))
  (try (have zf : (a0_2 == a1_2) = true := by simpa using c6))
  clear c6
  obtain rfl := Option.some.inj H
  go_enter Try.func34, Try.ntmps34
  go_wp2_with (first | ((with_reducible refine gate_dst (N := 2) rfl ?_); refine bx_ (cs := #[.slice A0_0 l0_0.length c0_0, .int .i64 a0_1, .bool a0_2]) (t := 52) ?_; intro qj hg zt hbox hb; have qa := Aside0.mk (hbox); have qk := hz_ HB hg; have ql := hz_ HB hg; replace HB := bS_ HB hb; clear hb hbox hg) | ((with_reducible refine gate_dst (N := 3) rfl ?_); refine bx_ (cs := #[.slice A1_0 l1_0.length c1_0, .int .i64 a1_1, .bool a1_2]) (t := 52) ?_; intro qm hg zu hbox hb; have qd := Aside0.mk (hbox); have qn := hz_ HB hg; have qo := hz_ HB hg; replace HB := bS_ HB hb; have qb := nL_ qa hg; have qc := nG_ qa hg; replace qa := kB_ qa hb; clear hb hbox hg; have zk := qb.out; have zl := qc.out; obtain ⟨qN, qO, qP, qQ, qR, qS⟩ := b3_ qa; obtain ⟨qT, qU, qV, qW, qX, qY⟩ := b3_ qd) | ((with_reducible refine gate_callee (f := 72) rfl ?_); refine gL_ (some 9) Try.func72 #[.slice A0_0 l0_0.length c0_0, .slice A1_0 l1_0.length c1_0] ?_; (with_reducible refine (laws_eqIntS.calls k _ _ l0_0 _ _ l1_0 true _ ?side1 ?side2 ?side3 ?side4 A3.out).mono ?_); (case side1 => exact cb_ qe HB); (case side2 => exact qf.out); (case side3 => exact cb_ qg HB); (case side4 => exact qh.out); rintro e w' ⟨rfl, ⟨nd, rfl⟩⟩; refine ⟨_, rfl, ?_⟩))
  go_ret
  exact rt_ (bb_ HB)
 rw [if_pos c6] at H
 have zd : (a0_2 != a1_2) = true := c6
 (try (have ze : decide (a0_2 = a1_2) = false := by simpa using c6))
 (try (have zf : (a0_2 == a1_2) = false := by simpa using c6))
 (try (have zm : ¬ (a0_2 = a1_2) := by simpa using c6))
 clear c6
 obtain rfl := Option.some.inj H
 go_enter Try.func34, Try.ntmps34
 go_wp2_with (first | ((with_reducible refine gate_dst (N := 2) rfl ?_); refine bx_ (cs := #[.slice A0_0 l0_0.length c0_0, .int .i64 a0_1, .bool a0_2]) (t := 52) ?_; intro qj hg w7 hbox hb; have qa := Aside0.mk (hbox); have qk := hz_ HB hg; have ql := hz_ HB hg; replace HB := bS_ HB hb; clear hb hbox hg) | ((with_reducible refine gate_dst (N := 3) rfl ?_); refine bx_ (cs := #[.slice A1_0 l1_0.length c1_0, .int .i64 a1_1, .bool a1_2]) (t := 52) ?_; intro qm hg w8 hbox hb; have qd := Aside0.mk (hbox); have qn := hz_ HB hg; have qo := hz_ HB hg; replace HB := bS_ HB hb; have qb := nL_ qa hg; have qc := nG_ qa hg; replace qa := kB_ qa hb; clear hb hbox hg; have zn := qb.out; have zo := qc.out; obtain ⟨qZ, q0, q1, q2, q3, q4⟩ := b3_ qa; obtain ⟨q5, q6, q7, q8, q9, za⟩ := b3_ qd) | ((with_reducible refine gate_callee (f := 72) rfl ?_); refine gL_ (some 9) Try.func72 #[.slice A0_0 l0_0.length c0_0, .slice A1_0 l1_0.length c1_0] ?_; (with_reducible refine (laws_eqIntS.calls k _ _ l0_0 _ _ l1_0 true _ ?side1 ?side2 ?side3 ?side4 A3.out).mono ?_); (case side1 => exact cb_ qe HB); (case side2 => exact qf.out); (case side3 => exact cb_ qg HB); (case side4 => exact qh.out); rintro e w' ⟨rfl, ⟨nd, rfl⟩⟩; refine ⟨_, rfl, ?_⟩))
 go_ret
 exact rt_ (bb_ HB)

/-! ### laws_eqAtomS: function 55 -/
def laws_eqAtomS.l0 : Nat → List (S52) → List (S52) → Int → Option (Bool)
 | 0, _, _, _ => none
 | k + 1, x0, x1, x5 => if x5 < (x0.length : Int) then (if 0 ≤ x5 then (if x5 < (x1.length : Int) then ((laws_eqAtom.f k ((rd_T52 x0 x5).f0) ((rd_T52 x0 x5).f1) ((rd_T52 x0 x5).f2) ((rd_T52 x1 x5).f0) ((rd_T52 x1 x5).f1) ((rd_T52 x1 x5).f2)).bind fun qp => (if qp = true then (laws_eqAtomS.l0 k x0 x1 (wrap64 (x5 + 1))) else (some false))) else (none)) else (none)) else (some true)
def laws_eqAtomS.f (k : Nat) (l0 : List (S52)) (l1 : List (S52)) : Option (Bool) := if (l0.length : Int) = (l1.length : Int) then (laws_eqAtomS.l0 k l0 l1 0) else (some false)
theorem laws_eqAtomS.mono_l : ∀ k, (∀ y0 y1 y2, LeO (laws_eqAtomS.l0 k y0 y1 y2) (laws_eqAtomS.l0 (k + 1) y0 y1 y2))
 | 0 => fun _ _ _ r h => by simp [laws_eqAtomS.l0] at h
 | k + 1 => by
  have ih0 := laws_eqAtomS.mono_l k
  ·
   intro y0 y1 y2
   unfold laws_eqAtomS.l0
   repeat' first
   | (with_reducible exact ih0 _ _ _)
   | (with_reducible exact laws_eqAtom.mono _ _ _ _ _ _ _)
   | (with_reducible exact LeO.refl _)
   | (with_reducible exact LeO.none _)
   | (with_reducible refine LeO.ite ?_ ?_)
   | (with_reducible refine LeO.bind ?_ (fun _ => ?_))
theorem laws_eqAtomS.mono : ∀ a0 a1 k, LeO (laws_eqAtomS.f k a0 a1) (laws_eqAtomS.f (k + 1) a0 a1) := by
 intro a0 a1 k
 have ih0 := laws_eqAtomS.mono_l k
 unfold laws_eqAtomS.f
 repeat' first
   | (with_reducible exact ih0 _ _ _)
   | (with_reducible exact laws_eqAtom.mono _ _ _ _ _ _ _)
   | (with_reducible exact LeO.refl _)
   | (with_reducible exact LeO.none _)
   | (with_reducible refine LeO.ite ?_ ?_)
   | (with_reducible refine LeO.bind ?_ (fun _ => ?_))
def laws_eqAtomS.T6 : Bool × List (List Nat × List Nat) := (true, [([], []), ([], []), ([0, 1], [0, 1]), ([2], [2]), ([], []), ([], []), ([4, 5], [4, 5]), ([6], [6]), ([3, 7], [3, 7]), ([8], [8])])
def laws_eqAtomS.B6 : List Nat := [0, 0, 3, 7, 0, 0, 48, 112, 255, 511]
theorem laws_eqAtomS.tab6 : rtab .any (opsOf Try.f55 6) = laws_eqAtomS.T6 := by kernel_rfl
theorem laws_eqAtomS.bits6 : waitsOk laws_eqAtomS.T6.2 laws_eqAtomS.B6 = true := by kernel_rfl
set_option maxHeartbeats 8000000 in
set_option maxRecDepth 100000 in
theorem laws_eqAtomS.calls (k : Nat) (A0 : Option Addr) (c0 : Nat) (l0 : List (S52)) (A1 : Option Addr) (c1 : Nat) (l1 : List (S52)) (r : Bool) (w : World) (hr0 : Kd.C k52 w A0 l0.length l0) (hc0 : l0.length ≤ c0) (hr1 : Kd.C k52 w A1 l1.length l1) (hc1 : l1.length ≤ c1) (h : laws_eqAtomS.f k l0 l1 = some r) :
  Calls Try.prog 55 #[.slice A0 l0.length c0, .slice A1 l1.length c1] w fun e w' => e = .returned (.bool r) ∧ Below w.heap.size w w' := by
 have hu52 := Try.underlying52
 have HR0 := Aside0.mk hr0
 have HC0 := Aside0.mk hc0
 clear hr0 hc0
 have HR1 := Aside0.mk hr1
 have HC1 := Aside0.mk hc1
 clear hr1 hc1
 have HB := Aside0.mk (Below.refl w.heap.size w)
 have H : (if (l0.length : Int) = (l1.length : Int) then (laws_eqAtomS.l0 k l0 l1 0) else (some false)) = some r := h
 clear h
 by_cases c3 : (l0.length : Int) = (l1.length : Int)
 rotate_left
 ·
  rw [if_neg c3] at H
  have qq : ((l0.length : Int) == (l1.length : Int)) = false := beq_eq_false_iff_ne.mpr c3
  have qr : ((l0.length : Int) != (l1.length : Int)) = true := bne_iff_ne.mpr c3
  have qs : (l0.length == l1.length) = false := by first | simpa using c3 | (simp at c3 ⊢; omega)
  obtain rfl := Option.some.inj H
  go_enter Try.func55, Try.ntmps55
  go_wp2
  go_ret
  exact rt_ (bb_ HB)
 rw [if_pos c3] at H
 have qq : ((l0.length : Int) == (l1.length : Int)) = true := beq_iff_eq.mpr c3
 have qr : ((l0.length : Int) != (l1.length : Int)) = false := bne_eq_false_iff_eq.mpr c3
 have qs : (l0.length == l1.length) = true := by first | simpa using c3 | (simp at c3 ⊢; omega)
 clear c3
 have H' := Aside0.mk H
 clear H
 go_enter Try.func55, Try.ntmps55
 go_wp2
 go_loopg [5] k (fun kq v5 w' => ∃ (qa : Int), v5 = .int .i64 qa ∧ Aside0 (laws_eqAtomS.l0 kq l0 l1 qa = some r) ∧ Aside0 (kq ≤ k) ∧ Aside0 (Below w.heap.size w w'))
 case atStart => exact ⟨(0), (by first | rfl | (simp; done) | (simp [*]; done)), H', ⟨Nat.le_refl _⟩, ⟨bb_ HB⟩⟩
 clear H'
 obtain ⟨qa, rfl, HA, HK1, HB⟩ := hrel
 cases gk with
 | zero => exact absurd HA.out (by simp [laws_eqAtomS.l0])
 | succ k1 =>
  have H := HA.out
  clear HA
  simp only [laws_eqAtomS.l0] at H
  by_cases c4 : qa < (l0.length : Int)
  rotate_left
  ·
   rw [if_neg c4] at H
   have qt : decide (qa < (l0.length : Int)) = false := decide_eq_false c4
   clear c4
   obtain rfl := Option.some.inj H
   go_wp2
   go_ret
   exact rt_ (bb_ HB)
  rw [if_pos c4] at H
  have qt : decide (qa < (l0.length : Int)) = true := decide_eq_true c4
  clear c4
  replace H := ip_ H
  obtain ⟨c5, H⟩ := H
  have qu : decide (0 ≤ qa) = true := decide_eq_true c5
  clear c5
  replace H := ip_ H
  obtain ⟨c6, H⟩ := H
  have qv : decide (qa < (l1.length : Int)) = true := decide_eq_true c6
  clear c6
  replace H := be_ H
  obtain ⟨qp, A70, H⟩ := H
  have A7 := Aside0.mk A70
  clear A70
  by_cases c8 : qp = true
  rotate_left
  ·
   replace c8 := Bool.eq_false_iff.mpr c8
   subst c8
   have H1 : (some false) = some r := by rw [if_neg (show ¬ (false = true) by decide)] at H; exact H
   clear H
   have H := H1
   clear H1
   obtain rfl := Option.some.inj H
   try go_wp2
   replace HB := Aside0.mk (below_drew1 HB.out)
   have p139 : 0 ≤ (qa : Int) := od_
   have q139 : qa < (l0.length : Int) := od_
   obtain ⟨qh, ql, c139_0, e139, qb, qc, qd, hl139_0, hi139_0⟩ := at_T52 HR0.out qa p139 q139
   have hw139_2 := qd
   have hw139_1 := qc
   have hw139_0 := qb
   cases e139
   replace qb := ct_ HB qb
   replace qc := ct_ HB qc
   replace qd := ct_ HB qd
   have qj := Aside0.mk hi139_0
   have qn := Aside0.mk hl139_0
   clear hi139_0 hl139_0
   replace p139 := eq_true p139
   replace q139 := eq_true q139
   have p140 : 0 ≤ (qa : Int) := od_
   have q140 : qa < (l1.length : Int) := od_
   obtain ⟨qi, qm, c140_0, e140, qe, qf, qg, hl140_0, hi140_0⟩ := at_T52 HR1.out qa p140 q140
   have hw140_2 := qg
   have hw140_1 := qf
   have hw140_0 := qe
   cases e140
   replace qe := ct_ HB qe
   replace qf := ct_ HB qf
   replace qg := ct_ HB qg
   have qk := Aside0.mk hi140_0
   have qo := Aside0.mk hl140_0
   clear hi140_0 hl140_0
   replace p140 := eq_true p140
   replace q140 := eq_true q140
   refine start_ (n := 10) (S := fun w' => w'.cell? (qh.add ((qa).toNat * 3)) = some (.slice ql ((rd_T52 l0 qa).f0).length c139_0) ∧ w'.cell? ⟨(qh.add ((qa).toNat * 3)).block, (qh.add ((qa).toNat * 3)).off + 1, none⟩ = some (.int .i64 ((rd_T52 l0 qa).f1)) ∧ w'.cell? ⟨(qh.add ((qa).toNat * 3)).block, (qh.add ((qa).toNat * 3)).off + 2, none⟩ = some (.bool ((rd_T52 l0 qa).f2)) ∧ w'.cell? (qi.add ((qa).toNat * 3)) = some (.slice qm ((rd_T52 l1 qa).f0).length c140_0) ∧ w'.cell? ⟨(qi.add ((qa).toNat * 3)).block, (qi.add ((qa).toNat * 3)).off + 1, none⟩ = some (.int .i64 ((rd_T52 l1 qa).f1)) ∧ w'.cell? ⟨(qi.add ((qa).toNat * 3)).block, (qi.add ((qa).toNat * 3)).off + 2, none⟩ = some (.bool ((rd_T52 l1 qa).f2))) (ds := []) (fl_ 10 0) (by kernel_rfl) rfl rfl ⟨(ct_ HB hw139_0 :), (ct_ HB hw139_1 :), (ct_ HB hw139_2 :), (ct_ HB hw140_0 :), (ct_ HB hw140_1 :), (ct_ HB hw140_2 :)⟩ (fun hHeld => ?_); refine with_tabW laws_eqAtomS.tab6 laws_eqAtomS.bits6 (fun HT_ HW_ => ?_)
   generalize wr.drew = qw at HB qj qk qb qc qd qe qf qg hHeld ⊢
   refine pX_ 0 (some 17) (fl_ 10 1) HT_ ?_
   refine pX_ 1 (some 18) (fl_ 10 3) HT_ ?_
   refine pX_ 2 (some 19) (fl_ 10 7) HT_ ?_
   refine pX_ 4 (some 21) (fl_ 10 23) HT_ ?_
   refine pX_ 5 (some 22) (fl_ 10 55) HT_ ?_
   refine pX_ 6 (some 23) (fl_ 10 119) HT_ ?_
   refine tX_ 3 (some 20) (fl_ 10 127) rfl rfl HT_ HW_ hHeld (by rintro w' ⟨s0, s1, s2, s3, s4, s5⟩; go_simp; with_reducible rfl) ?_
   refine tX_ 7 (some 24) (fl_ 10 255) rfl rfl HT_ HW_ hHeld (by rintro w' ⟨s0, s1, s2, s3, s4, s5⟩; go_simp; with_reducible rfl) ?_
   refine one_ (i := 8) (N := some 25) (fl_ 10 511) rfl rfl (one_of HT_.out (by kernel_rfl)) (by decide) (fun K hK => ?_)
   refine goes_ Try.func34 (by kernel_rfl) rfl #[.agg #[.slice ql ((rd_T52 l0 qa).f0).length c139_0, .int .i64 ((rd_T52 l0 qa).f1), .bool ((rd_T52 l0 qa).f2)], .agg #[.slice qm ((rd_T52 l1 qa).f0).length c140_0, .int .i64 ((rd_T52 l1 qa).f1), .bool ((rd_T52 l1 qa).f2)]] (by rfl) rfl rfl (by (try simp only [List.map_toArray, List.map_cons, List.map_nil]); first | done | rfl | (simp only [List.length_drop, List.length_take]; rfl)) ?_
   with_reducible refine (laws_eqAtom.calls k1 _ _ ((rd_T52 l0 qa).f0) ((rd_T52 l0 qa).f1) ((rd_T52 l0 qa).f2) _ _ ((rd_T52 l1 qa).f0) ((rd_T52 l1 qa).f1) ((rd_T52 l1 qa).f2) false _ ?side1 ?side2 ?side3 ?side4 A7.out).mono ?_
   (case side1 => exact cb_ qj HB)
   (case side2 => exact qn.out)
   (case side3 => exact cb_ qk HB)
   (case side4 => exact qo.out)
   rintro e qx ⟨rfl, hb⟩
   refine ⟨_, rfl, ?_⟩
   replace HB := bS_ HB hb; (try clear hb); (try clear hb2); (try clear hk); (try clear hi)
   refine hK.out _ _ ⟨(ct_ HB hw139_0 :), (ct_ HB hw139_1 :), (ct_ HB hw139_2 :), (ct_ HB hw140_0 :), (ct_ HB hw140_1 :), (ct_ HB hw140_2 :)⟩ (fun hHeld => ?_)
   clear hK K
   refine norm_ (a' := ?_) ?_ ?_
   rotate_left
   ·
    show Act.put _ (some 25) _ = _
    simp only [Act.put, sa_, s0_, s1_, i64_w, i32_w]
    rfl
   refine pX_ 9 (some 26) (fl_ 10 1023) HT_ ?_
   refine done_ (done_of HT_.out (by kernel_rfl)) ?_
   try go_wp2
   go_ret
   exact rt_ (bb_ HB)
  subst c8
  have H1 : (laws_eqAtomS.l0 k1 l0 l1 (wrap64 (qa + 1))) = some r := by rw [if_pos rfl] at H; exact H
  clear H
  have H := H1
  clear H1
  have H' := Aside0.mk H
  clear H
  try go_wp2
  replace HB := Aside0.mk (below_drew1 HB.out)
  have p139 : 0 ≤ (qa : Int) := od_
  have q139 : qa < (l0.length : Int) := od_
  obtain ⟨qh, ql, c139_0, e139, qb, qc, qd, hl139_0, hi139_0⟩ := at_T52 HR0.out qa p139 q139
  have hw139_2 := qd
  have hw139_1 := qc
  have hw139_0 := qb
  cases e139
  replace qb := ct_ HB qb
  replace qc := ct_ HB qc
  replace qd := ct_ HB qd
  have qj := Aside0.mk hi139_0
  have qn := Aside0.mk hl139_0
  clear hi139_0 hl139_0
  replace p139 := eq_true p139
  replace q139 := eq_true q139
  have p140 : 0 ≤ (qa : Int) := od_
  have q140 : qa < (l1.length : Int) := od_
  obtain ⟨qi, qm, c140_0, e140, qe, qf, qg, hl140_0, hi140_0⟩ := at_T52 HR1.out qa p140 q140
  have hw140_2 := qg
  have hw140_1 := qf
  have hw140_0 := qe
  cases e140
  replace qe := ct_ HB qe
  replace qf := ct_ HB qf
  replace qg := ct_ HB qg
  have qk := Aside0.mk hi140_0
  have qo := Aside0.mk hl140_0
  clear hi140_0 hl140_0
  replace p140 := eq_true p140
  replace q140 := eq_true q140
  refine start_ (n := 10) (S := fun w' => w'.cell? (qh.add ((qa).toNat * 3)) = some (.slice ql ((rd_T52 l0 qa).f0).length c139_0) ∧ w'.cell? ⟨(qh.add ((qa).toNat * 3)).block, (qh.add ((qa).toNat * 3)).off + 1, none⟩ = some (.int .i64 ((rd_T52 l0 qa).f1)) ∧ w'.cell? ⟨(qh.add ((qa).toNat * 3)).block, (qh.add ((qa).toNat * 3)).off + 2, none⟩ = some (.bool ((rd_T52 l0 qa).f2)) ∧ w'.cell? (qi.add ((qa).toNat * 3)) = some (.slice qm ((rd_T52 l1 qa).f0).length c140_0) ∧ w'.cell? ⟨(qi.add ((qa).toNat * 3)).block, (qi.add ((qa).toNat * 3)).off + 1, none⟩ = some (.int .i64 ((rd_T52 l1 qa).f1)) ∧ w'.cell? ⟨(qi.add ((qa).toNat * 3)).block, (qi.add ((qa).toNat * 3)).off + 2, none⟩ = some (.bool ((rd_T52 l1 qa).f2))) (ds := []) (fl_ 10 0) (by kernel_rfl) rfl rfl ⟨(ct_ HB hw139_0 :), (ct_ HB hw139_1 :), (ct_ HB hw139_2 :), (ct_ HB hw140_0 :), (ct_ HB hw140_1 :), (ct_ HB hw140_2 :)⟩ (fun hHeld => ?_); refine with_tabW laws_eqAtomS.tab6 laws_eqAtomS.bits6 (fun HT_ HW_ => ?_)
  generalize wr.drew = w9 at HB qj qk qb qc qd qe qf qg hHeld ⊢
  refine pX_ 0 (some 17) (fl_ 10 1) HT_ ?_
  refine pX_ 1 (some 18) (fl_ 10 3) HT_ ?_
  refine pX_ 2 (some 19) (fl_ 10 7) HT_ ?_
  refine pX_ 4 (some 21) (fl_ 10 23) HT_ ?_
  refine pX_ 5 (some 22) (fl_ 10 55) HT_ ?_
  refine pX_ 6 (some 23) (fl_ 10 119) HT_ ?_
  refine tX_ 3 (some 20) (fl_ 10 127) rfl rfl HT_ HW_ hHeld (by rintro w' ⟨s0, s1, s2, s3, s4, s5⟩; go_simp; with_reducible rfl) ?_
  refine tX_ 7 (some 24) (fl_ 10 255) rfl rfl HT_ HW_ hHeld (by rintro w' ⟨s0, s1, s2, s3, s4, s5⟩; go_simp; with_reducible rfl) ?_
  refine one_ (i := 8) (N := some 25) (fl_ 10 511) rfl rfl (one_of HT_.out (by kernel_rfl)) (by decide) (fun K hK => ?_)
  refine goes_ Try.func34 (by kernel_rfl) rfl #[.agg #[.slice ql ((rd_T52 l0 qa).f0).length c139_0, .int .i64 ((rd_T52 l0 qa).f1), .bool ((rd_T52 l0 qa).f2)], .agg #[.slice qm ((rd_T52 l1 qa).f0).length c140_0, .int .i64 ((rd_T52 l1 qa).f1), .bool ((rd_T52 l1 qa).f2)]] (by rfl) rfl rfl (by (try simp only [List.map_toArray, List.map_cons, List.map_nil]); first | done | rfl | (simp only [List.length_drop, List.length_take]; rfl)) ?_
  with_reducible refine (laws_eqAtom.calls k1 _ _ ((rd_T52 l0 qa).f0) ((rd_T52 l0 qa).f1) ((rd_T52 l0 qa).f2) _ _ ((rd_T52 l1 qa).f0) ((rd_T52 l1 qa).f1) ((rd_T52 l1 qa).f2) true _ ?side1 ?side2 ?side3 ?side4 A7.out).mono ?_
  (case side1 => exact cb_ qj HB)
  (case side2 => exact qn.out)
  (case side3 => exact cb_ qk HB)
  (case side4 => exact qo.out)
  rintro e qy ⟨rfl, hb⟩
  refine ⟨_, rfl, ?_⟩
  replace HB := bS_ HB hb; (try clear hb); (try clear hb2); (try clear hk); (try clear hi)
  refine hK.out _ _ ⟨(ct_ HB hw139_0 :), (ct_ HB hw139_1 :), (ct_ HB hw139_2 :), (ct_ HB hw140_0 :), (ct_ HB hw140_1 :), (ct_ HB hw140_2 :)⟩ (fun hHeld => ?_)
  clear hK K
  refine norm_ (a' := ?_) ?_ ?_
  rotate_left
  ·
   show Act.put _ (some 25) _ = _
   simp only [Act.put, sa_, s0_, s1_, i64_w, i32_w]
   rfl
  refine pX_ 9 (some 26) (fl_ 10 1023) HT_ ?_
  refine done_ (done_of HT_.out (by kernel_rfl)) ?_
  try go_wp2
  go_roundg k1
  case measure => have := HK1.out; omega
  case rel => exact ⟨(wrap64 (qa + 1)), (by first | rfl | (simp; done) | (simp [*]; done)), H', ⟨by have := HK1.out; omega⟩, ⟨bb_ HB⟩⟩

/-! ### laws_eqCell: function 18 -/
def laws_eqCell.f (k : Nat) (a0_0 : Int) (l0_1 : List (S52)) (a1_0 : Int) (l1_1 : List (S52)) : Option (Bool) := if a0_0 = a1_0 then ((laws_eqAtomS.f k l0_1 l1_1).bind fun qe => (if qe = true then (some true) else (some false))) else (some false)
theorem laws_eqCell.mono : ∀ a0 a1 a2 a3 k, LeO (laws_eqCell.f k a0 a1 a2 a3) (laws_eqCell.f (k + 1) a0 a1 a2 a3) := by
 intro a0 a1 a2 a3 k
 unfold laws_eqCell.f
 repeat' first
   | (with_reducible exact laws_eqAtomS.mono _ _ _)
   | (with_reducible exact LeO.refl _)
   | (with_reducible exact LeO.none _)
   | (with_reducible refine LeO.ite ?_ ?_)
   | (with_reducible refine LeO.bind ?_ (fun _ => ?_))
set_option maxHeartbeats 8000000 in
set_option maxRecDepth 100000 in
theorem laws_eqCell.calls (k : Nat) (a0_0 : Int) (A0_1 : Option Addr) (c0_1 : Nat) (l0_1 : List (S52)) (a1_0 : Int) (A1_1 : Option Addr) (c1_1 : Nat) (l1_1 : List (S52)) (r : Bool) (w : World) (hr0_1 : Kd.C k52 w A0_1 l0_1.length l0_1) (hc0_1 : l0_1.length ≤ c0_1) (hr1_1 : Kd.C k52 w A1_1 l1_1.length l1_1) (hc1_1 : l1_1.length ≤ c1_1) (h : laws_eqCell.f k a0_0 l0_1 a1_0 l1_1 = some r) :
  Calls Try.prog 18 #[.agg #[.int .i64 a0_0, .slice A0_1 l0_1.length c0_1], .agg #[.int .i64 a1_0, .slice A1_1 l1_1.length c1_1]] w fun e w' => e = .returned (.bool r) ∧ Below w.heap.size w w' := by
 have hu28 := Try.underlying28
 have qf := Aside0.mk hr0_1
 have qg := Aside0.mk hc0_1
 clear hr0_1 hc0_1
 have qh := Aside0.mk hr1_1
 have qi := Aside0.mk hc1_1
 clear hr1_1 hc1_1
 have HB := Aside0.mk (Below.refl w.heap.size w)
 have H : (if a0_0 = a1_0 then ((laws_eqAtomS.f k l0_1 l1_1).bind fun qe => (if qe = true then (some true) else (some false))) else (some false)) = some r := h
 clear h
 by_cases c3 : a0_0 = a1_0
 rotate_left
 ·
  rw [if_neg c3] at H
  have qJ : (a0_0 == a1_0) = false := beq_eq_false_iff_ne.mpr c3
  have qK : (a0_0 != a1_0) = true := bne_iff_ne.mpr c3
  obtain rfl := Option.some.inj H
  go_enter Try.func18, Try.ntmps18
  go_wp2_with (first | ((with_reducible refine gate_dst (N := 2) rfl ?_); refine bx_ (cs := #[.int .i64 a0_0, .slice A0_1 l0_1.length c0_1]) (t := 28) ?_; intro qj hg qV hbox hb; have qa := Aside0.mk (hbox); have qk := hz_ HB hg; have ql := hz_ HB hg; replace HB := bS_ HB hb; clear hb hbox hg) | ((with_reducible refine gate_dst (N := 3) rfl ?_); refine bx_ (cs := #[.int .i64 a1_0, .slice A1_1 l1_1.length c1_1]) (t := 28) ?_; intro qm hg qW hbox hb; have qd := Aside0.mk (hbox); have qn := hz_ HB hg; have qo := hz_ HB hg; replace HB := bS_ HB hb; have qb := nL_ qa hg; have qc := nG_ qa hg; replace qa := kB_ qa hb; clear hb hbox hg; have qP := qb.out; have qQ := qc.out; obtain ⟨qp, qq, qr, qs⟩ := b2_ qa; obtain ⟨qt, qu, qv, qw⟩ := b2_ qd))
  go_ret
  exact rt_ (bb_ HB)
 rw [if_pos c3] at H
 have qJ : (a0_0 == a1_0) = true := beq_iff_eq.mpr c3
 have qK : (a0_0 != a1_0) = false := bne_eq_false_iff_eq.mpr c3
 clear c3
 replace H := be_ H
 obtain ⟨qe, A40, H⟩ := H
 have A4 := Aside0.mk A40
 clear A40
 by_cases c5 : qe = true
 ·
  subst c5
  have H1 : (some true) = some r := by rw [if_pos rfl] at H; exact H
  clear H
  have H := H1
  clear H1
  obtain rfl := Option.some.inj H
  go_enter Try.func18, Try.ntmps18
  go_wp2_with (first | ((with_reducible refine gate_dst (N := 2) rfl ?_); refine bx_ (cs := #[.int .i64 a0_0, .slice A0_1 l0_1.length c0_1]) (t := 28) ?_; intro qj hg w6 hbox hb; have qa := Aside0.mk (hbox); have qk := hz_ HB hg; have ql := hz_ HB hg; replace HB := bS_ HB hb; clear hb hbox hg) | ((with_reducible refine gate_dst (N := 3) rfl ?_); refine bx_ (cs := #[.int .i64 a1_0, .slice A1_1 l1_1.length c1_1]) (t := 28) ?_; intro qm hg w7 hbox hb; have qd := Aside0.mk (hbox); have qn := hz_ HB hg; have qo := hz_ HB hg; replace HB := bS_ HB hb; have qb := nL_ qa hg; have qc := nG_ qa hg; replace qa := kB_ qa hb; clear hb hbox hg; have qT := qb.out; have qU := qc.out; obtain ⟨qL, qM, qN, qO⟩ := b2_ qa; obtain ⟨qx, qy, qz, qA⟩ := b2_ qd) | ((with_reducible refine gate_callee (f := 55) rfl ?_); refine gL_ (some 14) Try.func55 #[.slice A0_1 l0_1.length c0_1, .slice A1_1 l1_1.length c1_1] ?_; (with_reducible refine (laws_eqAtomS.calls k _ _ l0_1 _ _ l1_1 true _ ?side1 ?side2 ?side3 ?side4 A4.out).mono ?_); (case side1 => exact cb_ qf HB); (case side2 => exact qg.out); (case side3 => exact cb_ qh HB); (case side4 => exact qi.out); rintro e qX ⟨rfl, hb⟩; refine ⟨_, rfl, ?_⟩; replace qa := kB_ qa hb; replace qd := kB_ qd hb; replace HB := bS_ HB hb; clear hb))
  go_ret
  exact rt_ (bb_ HB)
 replace c5 := Bool.eq_false_iff.mpr c5
 subst c5
 have H1 : (some false) = some r := by rw [if_neg (show ¬ (false = true) by decide)] at H; exact H
 clear H
 have H := H1
 clear H1
 obtain rfl := Option.some.inj H
 go_enter Try.func18, Try.ntmps18
 go_wp2_with (first | ((with_reducible refine gate_dst (N := 2) rfl ?_); refine bx_ (cs := #[.int .i64 a0_0, .slice A0_1 l0_1.length c0_1]) (t := 28) ?_; intro qj hg qY hbox hb; have qa := Aside0.mk (hbox); have qk := hz_ HB hg; have ql := hz_ HB hg; replace HB := bS_ HB hb; clear hb hbox hg) | ((with_reducible refine gate_dst (N := 3) rfl ?_); refine bx_ (cs := #[.int .i64 a1_0, .slice A1_1 l1_1.length c1_1]) (t := 28) ?_; intro qm hg qZ hbox hb; have qd := Aside0.mk (hbox); have qn := hz_ HB hg; have qo := hz_ HB hg; replace HB := bS_ HB hb; have qb := nL_ qa hg; have qc := nG_ qa hg; replace qa := kB_ qa hb; clear hb hbox hg; have qR := qb.out; have qS := qc.out; obtain ⟨qB, qC, qD, qE⟩ := b2_ qa; obtain ⟨qF, qG, qH, qI⟩ := b2_ qd) | ((with_reducible refine gate_callee (f := 55) rfl ?_); refine gL_ (some 14) Try.func55 #[.slice A0_1 l0_1.length c0_1, .slice A1_1 l1_1.length c1_1] ?_; (with_reducible refine (laws_eqAtomS.calls k _ _ l0_1 _ _ l1_1 false _ ?side1 ?side2 ?side3 ?side4 A4.out).mono ?_); (case side1 => exact cb_ qf HB); (case side2 => exact qg.out); (case side3 => exact cb_ qh HB); (case side4 => exact qi.out); rintro e q0 ⟨rfl, hb⟩; refine ⟨_, rfl, ?_⟩; replace qa := kB_ qa hb; replace qd := kB_ qd hb; replace HB := bS_ HB hb; clear hb))
 go_ret
 exact rt_ (bb_ HB)

/-! ### spec_l1In: function 62 -/
def spec_l1In.f (a0 : Int) (a1 : Int) (a2 : Int) : Option (Bool) := if a0 ≥ a1 then (some (decide (a0 ≤ a2))) else (some false)
set_option maxHeartbeats 8000000 in
set_option maxRecDepth 100000 in
theorem spec_l1In.calls (a0 : Int) (a1 : Int) (a2 : Int) (r : Bool) (w : World) (h : spec_l1In.f a0 a1 a2 = some r) :
  Calls Try.prog 62 #[.int .i64 a0, .int .i64 a1, .int .i64 a2] w fun e w' => e = .returned (.bool r) ∧ Drawn0 w w' := by
 have H : (if a0 ≥ a1 then (some (decide (a0 ≤ a2))) else (some false)) = some r := h
 clear h
 by_cases c4 : a0 ≥ a1
 ·
  rw [if_pos c4] at H
  have qa : decide (a1 ≤ a0) = true := decide_eq_true c4
  clear c4
  obtain rfl := Option.some.inj H
  go_enter Try.func62, Try.ntmps62
  go_wp2
  go_ret
  exact ⟨by first | rfl | (simp; done) | (simp [*]; done), by repeat (first | exact Drawn0.refl _ | apply Drawn0.step)⟩
 rw [if_neg c4] at H
 have qa : decide (a1 ≤ a0) = false := decide_eq_false c4
 clear c4
 obtain rfl := Option.some.inj H
 go_enter Try.func62, Try.ntmps62
 go_wp2
 go_ret
 exact ⟨by first | rfl | (simp; done) | (simp [*]; done), by repeat (first | exact Drawn0.refl _ | apply Drawn0.step)⟩

/-! ### spec_IsNumber: function 103 -/
def spec_IsNumber.f (a0 : Int) : Option (Bool) := (spec_l1In.f a0 (-400000000) 400000000).bind fun qa => (some qa)
set_option maxHeartbeats 8000000 in
set_option maxRecDepth 100000 in
theorem spec_IsNumber.calls (a0 : Int) (r : Bool) (w : World) (h : spec_IsNumber.f a0 = some r) :
  Calls Try.prog 103 #[.int .i64 a0] w fun e w' => e = .returned (.bool r) ∧ Drawn0 w w' := by
 have H : ((spec_l1In.f a0 (-400000000) 400000000).bind fun qa => (some qa)) = some r := h
 clear h
 replace H := be_ H
 obtain ⟨qa, A20, H⟩ := H
 have A2 := Aside0.mk A20
 clear A20
 obtain rfl := Option.some.inj H
 go_enter Try.func103, Try.ntmps103
 go_wp2_with (first | ((with_reducible refine gate_callee (f := 62) rfl ?_); refine gL_ (some 4) Try.func62 #[.int .i64 a0, .int .i64 (-400000000), .int .i64 400000000] ?_; (with_reducible refine (spec_l1In.calls a0 (-400000000) 400000000 qa _ A2.out).mono ?_); rintro e w' ⟨rfl, ⟨nd, rfl⟩⟩; refine ⟨_, rfl, ?_⟩))
 go_ret
 exact ⟨by first | rfl | (simp; done) | (simp [*]; done), by repeat (first | exact Drawn0.refl _ | apply Drawn0.step)⟩

/-! ### spec_l1Abs: function 122 -/
def spec_l1Abs.f (a0 : Int) : Option (Int) := some (mx a0 (wrap64 (-a0)))
set_option maxHeartbeats 8000000 in
set_option maxRecDepth 100000 in
theorem spec_l1Abs.calls (a0 : Int) (r : Int) (w : World) (h : spec_l1Abs.f a0 = some r) :
  Calls Try.prog 122 #[.int .i64 a0] w fun e w' => e = .returned (.int .i64 r) ∧ Below w.heap.size w w' := by
 have HB := Aside0.mk (Below.refl w.heap.size w)
 have H : (some (mx a0 (wrap64 (-a0)))) = some r := h
 clear h
 obtain ⟨ji2, hji2⟩ : ∃ j_ : Int, (mx a0 (wrap64 (-a0))) = j_ := ⟨_, rfl⟩
 replace H : (some ji2) = some r := by first | (rw [hji2] at H; exact H) | (simp only [hji2] at H ⊢; exact H)
 have hji2_ : (if a0 < (wrap64 (-a0)) then (wrap64 (-a0)) else a0) = ji2 := hji2
 obtain rfl := Option.some.inj H
 go_enter Try.func122, Try.ntmps122
 go_wp2
 go_ret
 exact ⟨by first | rfl | (simp [errW_none, errW_some] <;> rfl) | (simp only [← hji2]; first | rfl | (simp [errW_none, errW_some] <;> rfl)) | (simp [*, errW_none, errW_some] <;> rfl), bb_ HB⟩

/-! ### spec_l2Gcd: function 112 -/
mutual
def spec_l2Gcd.l0 : Nat → List Int → Int → Int → Option (Int)
 | 0, _, _, _ => none
 | k + 1, x0, x5, x6 => if x6 < (x0.length : Int) then (if 0 ≤ x6 then ((spec_l1Abs.f (rd x0 x6)).bind fun qe => (spec_l2Gcd.l1 k x0 x5 x6 qe)) else (none)) else (some x5)
def spec_l2Gcd.l1 : Nat → List Int → Int → Int → Int → Option (Int)
 | 0, _, _, _, _ => none
 | k + 1, x0, x5, x6, x7 => if x7 = 0 then (spec_l2Gcd.l0 k x0 x5 (wrap64 (x6 + 1))) else (spec_l2Gcd.l1 k x0 x7 x6 (Int.tmod x5 x7))
end
def spec_l2Gcd.f (k : Nat) (l0 : List Int) (a1 : Int) : Option (Int) := (spec_l1Abs.f a1).bind fun qc => (spec_l2Gcd.l0 k l0 qc 0)
theorem spec_l2Gcd.mono_l : ∀ k, (∀ y0 y1 y2, LeO (spec_l2Gcd.l0 k y0 y1 y2) (spec_l2Gcd.l0 (k + 1) y0 y1 y2)) ∧ (∀ y0 y1 y2 y3, LeO (spec_l2Gcd.l1 k y0 y1 y2 y3) (spec_l2Gcd.l1 (k + 1) y0 y1 y2 y3))
 | 0 => ⟨fun _ _ _ r h => by simp [spec_l2Gcd.l0] at h, fun _ _ _ _ r h => by simp [spec_l2Gcd.l1] at h⟩
 | k + 1 => by
  obtain ⟨ih0, ih1⟩ := spec_l2Gcd.mono_l k
  refine ⟨?_, ?_⟩ <;> (intros; first | unfold spec_l2Gcd.l0 | unfold spec_l2Gcd.l1)
  all_goals
   repeat' first
   | (with_reducible exact ih0 _ _ _)
   | (with_reducible exact ih1 _ _ _ _)
   | (with_reducible exact LeO.refl _)
   | (with_reducible exact LeO.none _)
   | (with_reducible refine LeO.ite ?_ ?_)
   | (with_reducible refine LeO.bind ?_ (fun _ => ?_))
theorem spec_l2Gcd.mono : ∀ a0 a1 k, LeO (spec_l2Gcd.f k a0 a1) (spec_l2Gcd.f (k + 1) a0 a1) := by
 intro a0 a1 k
 obtain ⟨ih0, ih1⟩ := spec_l2Gcd.mono_l k
 unfold spec_l2Gcd.f
 repeat' first
   | (with_reducible exact ih0 _ _ _)
   | (with_reducible exact ih1 _ _ _ _)
   | (with_reducible exact LeO.refl _)
   | (with_reducible exact LeO.none _)
   | (with_reducible refine LeO.ite ?_ ?_)
   | (with_reducible refine LeO.bind ?_ (fun _ => ?_))
set_option maxHeartbeats 8000000 in
set_option maxRecDepth 100000 in
theorem spec_l2Gcd.calls (k : Nat) (A0 : Option Addr) (c0 : Nat) (l0 : List Int) (a1 : Int) (r : Int) (w : World) (hr0 : Kd.C (Kd.int .i64) w A0 l0.length l0) (hc0 : l0.length ≤ c0) (h : spec_l2Gcd.f k l0 a1 = some r) :
  Calls Try.prog 112 #[.slice A0 l0.length c0, .int .i64 a1] w fun e w' => e = .returned (.int .i64 r) ∧ Below w.heap.size w w' := by
 have HR0 := Aside0.mk hr0
 have HC0 := Aside0.mk hc0
 clear hr0 hc0
 have HB := Aside0.mk (Below.refl w.heap.size w)
 have H : ((spec_l1Abs.f a1).bind fun qc => (spec_l2Gcd.l0 k l0 qc 0)) = some r := h
 clear h
 replace H := be_ H
 obtain ⟨qc, A30, H⟩ := H
 have A3 := Aside0.mk A30
 clear A30
 have H' := Aside0.mk H
 clear H
 go_enter Try.func112, Try.ntmps112
 go_wp2_with (first | (go_at_call 122; (with_reducible refine (spec_l1Abs.calls a1 qc _ A3.out).mono ?_); rintro e w4 ⟨rfl, hb⟩; replace HB := bS_ HB hb; clear hb))
 repeat (go_quiet (first | (go_at_call 122; (with_reducible refine (spec_l1Abs.calls a1 qc _ A3.out).mono ?_); rintro e w4 ⟨rfl, hb⟩; replace HB := bS_ HB hb; clear hb)); try go_wp2_with (first | (go_at_call 122; (with_reducible refine (spec_l1Abs.calls a1 qc _ A3.out).mono ?_); rintro e w4 ⟨rfl, hb⟩; replace HB := bS_ HB hb; clear hb)))
 go_loopg [5, 6] k (fun kq v5 v6 w' => ∃ (qg : Int) (qa : Int), v5 = .int .i64 qg ∧ v6 = .int .i64 qa ∧ Aside0 (spec_l2Gcd.l0 kq l0 qg qa = some r) ∧ Aside0 (kq ≤ k) ∧ Aside0 (Below w.heap.size w w'))
 case atStart => exact ⟨(qc), (0), (by first | rfl | (simp; done) | (simp [*]; done)), (by first | rfl | (simp; done) | (simp [*]; done)), H', ⟨Nat.le_refl _⟩, ⟨bb_ HB⟩⟩
 clear H'
 obtain ⟨qg, qa, rfl, rfl, HA, HK1, HB⟩ := hrel
 cases gk with
 | zero => exact absurd HA.out (by simp [spec_l2Gcd.l0])
 | succ k1 =>
  have H := HA.out
  clear HA
  simp only [spec_l2Gcd.l0] at H
  by_cases c5 : qa < (l0.length : Int)
  rotate_left
  ·
   rw [if_neg c5] at H
   have qh : decide (qa < (l0.length : Int)) = false := decide_eq_false c5
   clear c5
   obtain rfl := Option.some.inj H
   go_wp2
   repeat (go_quiet (fail); try go_wp2)
   go_ret
   exact rt_ (bb_ HB)
  rw [if_pos c5] at H
  have qh : decide (qa < (l0.length : Int)) = true := decide_eq_true c5
  clear c5
  replace H := ip_ H
  obtain ⟨c6, H⟩ := H
  have ql : decide (0 ≤ qa) = true := decide_eq_true c6
  clear c6
  replace H := be_ H
  obtain ⟨qe, A70, H⟩ := H
  have A7 := Aside0.mk A70
  clear A70
  have H' := Aside0.mk H
  clear H
  have p147 : 0 ≤ (qa : Int) := od_
  have q147 : qa < (l0.length : Int) := od_
  obtain ⟨qk, e147, qd⟩ := Kd.at_int HR0.out qa p147 q147
  cases e147
  replace qd := ct_ HB qd
  replace p147 := eq_true p147
  replace q147 := eq_true q147
  go_wp2_with (first | (go_at_call 122; (with_reducible refine (spec_l1Abs.calls (rd l0 qa) qe _ A7.out).mono ?_); rintro e w8 ⟨rfl, hb⟩; replace HB := bS_ HB hb; clear hb))
  repeat (go_quiet (first | (go_at_call 122; (with_reducible refine (spec_l1Abs.calls (rd l0 qa) qe _ A7.out).mono ?_); rintro e w8 ⟨rfl, hb⟩; replace HB := bS_ HB hb; clear hb)); try go_wp2_with (first | (go_at_call 122; (with_reducible refine (spec_l1Abs.calls (rd l0 qa) qe _ A7.out).mono ?_); rintro e w8 ⟨rfl, hb⟩; replace HB := bS_ HB hb; clear hb)))
  go_loopg [5, 7] k1 (fun kq v5 v7 w' => ∃ (qf : Int) (qb : Int), v5 = .int .i64 qf ∧ v7 = .int .i64 qb ∧ Aside0 (spec_l2Gcd.l1 kq l0 qf qa qb = some r) ∧ Aside0 (kq ≤ k1) ∧ Aside0 (Below w.heap.size w w'))
  case atStart => exact ⟨(qg), (qe), (by first | rfl | (simp; done) | (simp [*]; done)), (by first | rfl | (simp; done) | (simp [*]; done)), H', ⟨Nat.le_refl _⟩, ⟨bb_ HB⟩⟩
  clear H'
  obtain ⟨qf, qb, rfl, rfl, HA, HK2, HB⟩ := hrel
  cases gk with
  | zero => exact absurd HA.out (by simp [spec_l2Gcd.l1])
  | succ k2 =>
   have H := HA.out
   clear HA
   simp only [spec_l2Gcd.l1] at H
   by_cases c9 : qb = 0
   rotate_left
   ·
    rw [if_neg c9] at H
    have qi : (qb == 0) = false := beq_eq_false_iff_ne.mpr c9
    have qj : (qb != 0) = true := bne_iff_ne.mpr c9
    have H' := Aside0.mk H
    clear H
    go_wp2
    repeat (go_quiet (fail); try go_wp2)
    go_roundg k2
    case measure => have := HK1.out; have := HK2.out; omega
    case rel => exact ⟨(qb), (Int.tmod qf qb), (by first | rfl | (simp; done) | (simp [*]; done)), (by first | rfl | (simp; done) | (simp [*]; done)), H', ⟨by have := HK1.out; have := HK2.out; omega⟩, ⟨bb_ HB⟩⟩
   rw [if_pos c9] at H
   have qi : (qb == 0) = true := beq_iff_eq.mpr c9
   have qj : (qb != 0) = false := bne_eq_false_iff_eq.mpr c9
   clear c9
   have H' := Aside0.mk H
   clear H
   go_wp2
   repeat (go_quiet (fail); try go_wp2)
   go_roundg k2
   case measure => have := HK1.out; have := HK2.out; omega
   case rel => exact ⟨(qf), (wrap64 (qa + 1)), (by first | rfl | (simp; done) | (simp [*]; done)), (by first | rfl | (simp; done) | (simp [*]; done)), H', ⟨by have := HK1.out; have := HK2.out; omega⟩, ⟨bb_ HB⟩⟩

/-! ### spec_IsAtom: function 88 -/
mutual
def spec_IsAtom.j0 : Nat → Bool → List Int → Int → Bool → Option (Bool)
 | 0, _, _, _, _ => none
 | k + 1, x13, x150000, x150001, x150002 => if x13 = true then (some false) else (spec_IsAtom.l0 k 0 x150000 x150001 x150002)
def spec_IsAtom.l0 : Nat → Int → List Int → Int → Bool → Option (Bool)
 | 0, _, _, _, _ => none
 | k + 1, x3, x150000, x150001, x150002 => if x3 < (x150000.length : Int) then (if 0 ≤ x3 then ((spec_IsNumber.f (rd x150000 x3)).bind fun qi => (if qi = true then (spec_IsAtom.l0 k (wrap64 (x3 + 1)) x150000 x150001 x150002) else (some false))) else (none)) else ((spec_l2Gcd.f k x150000 x150001).bind fun qj => (some (decide (qj ≤ 1))))
end
def spec_IsAtom.f (k : Nat) (l0_0 : List Int) (a0_1 : Int) (a0_2 : Bool) : Option (Bool) := if (l0_0.length : Int) > 4 then (spec_IsAtom.j0 k true l0_0 a0_1 a0_2) else ((spec_IsNumber.f a0_1).bind fun qe => (spec_IsAtom.j0 k (!qe) l0_0 a0_1 a0_2))
theorem spec_IsAtom.mono_l : ∀ k, (∀ y0 y1 y2 y3, LeO (spec_IsAtom.j0 k y0 y1 y2 y3) (spec_IsAtom.j0 (k + 1) y0 y1 y2 y3)) ∧ (∀ y0 y1 y2 y3, LeO (spec_IsAtom.l0 k y0 y1 y2 y3) (spec_IsAtom.l0 (k + 1) y0 y1 y2 y3))
 | 0 => ⟨fun _ _ _ _ r h => by simp [spec_IsAtom.j0] at h, fun _ _ _ _ r h => by simp [spec_IsAtom.l0] at h⟩
 | k + 1 => by
  obtain ⟨ih0, ih1⟩ := spec_IsAtom.mono_l k
  refine ⟨?_, ?_⟩ <;> (intros; first | unfold spec_IsAtom.j0 | unfold spec_IsAtom.l0)
  all_goals
   repeat' first
   | (with_reducible exact ih0 _ _ _ _)
   | (with_reducible exact ih1 _ _ _ _)
   | (with_reducible exact spec_l2Gcd.mono _ _ _)
   | (with_reducible exact LeO.refl _)
   | (with_reducible exact LeO.none _)
   | (with_reducible refine LeO.ite ?_ ?_)
   | (with_reducible refine LeO.bind ?_ (fun _ => ?_))
theorem spec_IsAtom.mono : ∀ a0 a1 a2 k, LeO (spec_IsAtom.f k a0 a1 a2) (spec_IsAtom.f (k + 1) a0 a1 a2) := by
 intro a0 a1 a2 k
 obtain ⟨ih0, ih1⟩ := spec_IsAtom.mono_l k
 unfold spec_IsAtom.f
 repeat' first
   | (with_reducible exact ih0 _ _ _ _)
   | (with_reducible exact ih1 _ _ _ _)
   | (with_reducible exact spec_l2Gcd.mono _ _ _)
   | (with_reducible exact LeO.refl _)
   | (with_reducible exact LeO.none _)
   | (with_reducible refine LeO.ite ?_ ?_)
   | (with_reducible refine LeO.bind ?_ (fun _ => ?_))
set_option maxHeartbeats 8000000 in
set_option maxRecDepth 100000 in
theorem spec_IsAtom.calls (k : Nat) (A0_0 : Option Addr) (c0_0 : Nat) (l0_0 : List Int) (a0_1 : Int) (a0_2 : Bool) (r : Bool) (w : World) (hr0_0 : Kd.C (Kd.int .i64) w A0_0 l0_0.length l0_0) (hc0_0 : l0_0.length ≤ c0_0) (h : spec_IsAtom.f k l0_0 a0_1 a0_2 = some r) :
  Calls Try.prog 88 #[.agg #[.slice A0_0 l0_0.length c0_0, .int .i64 a0_1, .bool a0_2]] w fun e w' => e = .returned (.bool r) ∧ Below w.heap.size w w' := by
 have hu52 := Try.underlying52
 have qf := Aside0.mk hr0_0
 have qk := Aside0.mk hc0_0
 clear hr0_0 hc0_0
 have HB := Aside0.mk (Below.refl w.heap.size w)
 have H : (if (l0_0.length : Int) > 4 then (spec_IsAtom.j0 k true l0_0 a0_1 a0_2) else ((spec_IsNumber.f a0_1).bind fun qe => (spec_IsAtom.j0 k (!qe) l0_0 a0_1 a0_2))) = some r := h
 clear h
 have HC2 := Aside0.mk H
 clear H
 go_enter Try.func88, Try.ntmps88
 go_upto_region 1 with (first | ((with_reducible refine gate_dst (N := 1) rfl ?_); refine bx_ (cs := #[.slice A0_0 l0_0.length c0_0, .int .i64 a0_1, .bool a0_2]) (t := 52) ?_; intro qh hg w3 hbox hb; have qa := Aside0.mk (hbox); have qS := hz_ HB hg; have qT := hz_ HB hg; replace HB := bS_ HB hb; clear hb hbox hg))
 (try simp only [Act.put, sa_, s0_, s1_])
 go_cut [13] (fun v13 wc => ∃ (kq : Nat) (qd : Bool), v13 = .bool qd ∧ Aside0 (spec_IsAtom.j0 kq qd l0_0 a0_1 a0_2 = some r) ∧ Aside0 (kq ≤ k) ∧ Aside0 (wc.heap[qh]? = some (.cells #[(.slice A0_0 l0_0.length c0_0), .int .i64 a0_1, .bool a0_2] 52 (0, 0))) ∧ Aside0 (Below w.heap.size w wc))
 case first =>
  have H := HC2.out
  clear HC2
  by_cases c4 : (l0_0.length : Int) > 4
  ·
   rw [if_pos c4] at H
   have qg : decide (4 < (l0_0.length : Int)) = true := decide_eq_true c4
   have qE : decide (4 < l0_0.length) = true := decide_eq_true (by omega)
   clear c4
   (first | rw [qg] | (simp only [i64_w, i32_w]; rw [qg]) | skip)
   have H' := Aside0.mk H
   clear H
   obtain ⟨qF, qG, qH, qI, qJ, qK⟩ := b3_ qa
   go_wp2
   go_meet
   case rel => exact ⟨_, (true), (by first | rfl | (simp; done) | (simp [*]; done)), H', ⟨by first | omega | exact Nat.le_refl _⟩, ⟨kf_ qa⟩, ⟨bb_ HB⟩⟩
  rw [if_neg c4] at H
  have qg : decide (4 < (l0_0.length : Int)) = false := decide_eq_false c4
  have qE : decide (4 < l0_0.length) = false := decide_eq_false (by omega)
  clear c4
  (first | rw [qg] | (simp only [i64_w, i32_w]; rw [qg]) | skip)
  replace H := be_ H
  obtain ⟨qe, A60, H⟩ := H
  have A6 := Aside0.mk A60
  clear A60
  have H' := Aside0.mk H
  clear H
  obtain ⟨qL, qM, qN, qO, qP, qQ⟩ := b3_ qa
  go_wp2_with (first | (go_at_call 103; (with_reducible refine (spec_IsNumber.calls a0_1 qe _ A6.out).mono ?_); rintro e w' ⟨rfl, ⟨nd, rfl⟩⟩))
  go_meet
  case rel => exact ⟨_, (!qe), (by first | rfl | (simp; done) | (simp [*]; done)), H', ⟨by first | omega | exact Nat.le_refl _⟩, ⟨kf_ qa⟩, ⟨bb_ HB⟩⟩
 clear HC2
 obtain ⟨kq, qd, rfl, HA, HJ1, qa, HB⟩ := hcut
 cases kq with
 | zero => exact absurd HA.out (by simp [spec_IsAtom.j0])
 | succ kj1 =>
  have H := HA.out
  clear HA
  simp only [spec_IsAtom.j0] at H
  by_cases c8 : qd = true
  ·
   subst c8
   have H1 : (some false) = some r := by rw [if_pos rfl] at H; exact H
   clear H
   have H := H1
   clear H1
   obtain rfl := Option.some.inj H
   go_wp2
   go_ret
   exact rt_ (bb_ HB)
  replace c8 := Bool.eq_false_iff.mpr c8
  subst c8
  have H1 : (spec_IsAtom.l0 kj1 0 l0_0 a0_1 a0_2) = some r := by rw [if_neg (show ¬ (false = true) by decide)] at H; exact H
  clear H
  have H := H1
  clear H1
  have H' := Aside0.mk H
  clear H
  go_wp2
  go_loopg [3] kj1 (fun kq v3 w' => ∃ (qb : Int), v3 = .int .i64 qb ∧ Aside0 (spec_IsAtom.l0 kq qb l0_0 a0_1 a0_2 = some r) ∧ Aside0 (kq ≤ kj1) ∧ Aside0 (w'.heap[qh]? = some (.cells #[(.slice A0_0 l0_0.length c0_0), .int .i64 a0_1, .bool a0_2] 52 (0, 0))) ∧ Aside0 (Below w.heap.size w w'))
  case atStart => exact ⟨(0), (by first | rfl | (simp; done) | (simp [*]; done)), H', ⟨Nat.le_refl _⟩, ⟨kf_ qa⟩, ⟨bb_ HB⟩⟩
  clear H'
  obtain ⟨qb, rfl, HA, HK2, qa, HB⟩ := hrel
  cases gk with
  | zero => exact absurd HA.out (by simp [spec_IsAtom.l0])
  | succ k2 =>
   have H := HA.out
   clear HA
   simp only [spec_IsAtom.l0] at H
   by_cases c9 : qb < (l0_0.length : Int)
   rotate_left
   ·
    rw [if_neg c9] at H
    have qR : decide (qb < (l0_0.length : Int)) = false := decide_eq_false c9
    clear c9
    replace H := be_ H
    obtain ⟨qj, A150, H⟩ := H
    have A15 := Aside0.mk A150
    clear A150
    obtain rfl := Option.some.inj H
    obtain ⟨qm, qn, qo, qp, qq, qr⟩ := b3_ qa
    go_wp2_with (first | ((with_reducible refine gate_callee (f := 112) rfl ?_); refine gL_ (some 32) Try.func112 #[.slice A0_0 l0_0.length c0_0, .int .i64 a0_1] ?_; (with_reducible refine (spec_l2Gcd.calls k2 _ _ l0_0 a0_1 qj _ ?side1 ?side2 A15.out).mono ?_); (case side1 => exact cb_ qf HB); (case side2 => exact qk.out); rintro e qV ⟨rfl, hb⟩; refine ⟨_, rfl, ?_⟩; replace qa := kB_ qa hb; replace HB := bS_ HB hb; clear hb))
    go_ret
    exact rt_ (bb_ HB)
   rw [if_pos c9] at H
   have qR : decide (qb < (l0_0.length : Int)) = true := decide_eq_true c9
   clear c9
   replace H := ip_ H
   obtain ⟨c10, H⟩ := H
   have qU : decide (0 ≤ qb) = true := decide_eq_true c10
   clear c10
   replace H := be_ H
   obtain ⟨qi, A110, H⟩ := H
   have A11 := Aside0.mk A110
   clear A110
   by_cases c12 : qi = true
   rotate_left
   ·
    replace c12 := Bool.eq_false_iff.mpr c12
    subst c12
    have H1 : (some false) = some r := by rw [if_neg (show ¬ (false = true) by decide)] at H; exact H
    clear H
    have H := H1
    clear H1
    obtain rfl := Option.some.inj H
    obtain ⟨qs, qt, qu, qv, qw, qx⟩ := b3_ qa
    have p151 : 0 ≤ (qb : Int) := od_
    have q151 : qb < (l0_0.length : Int) := od_
    obtain ⟨ql, e151, qc⟩ := Kd.at_int qf.out qb p151 q151
    cases e151
    replace qc := ct_ HB qc
    replace p151 := eq_true p151
    replace q151 := eq_true q151
    go_wp2_with (first | ((with_reducible refine gate_callee (f := 103) rfl ?_); refine gL_ (some 26) Try.func103 #[.int .i64 (rd l0_0 qb)] ?_; (with_reducible refine (spec_IsNumber.calls (rd l0_0 qb) false _ A11.out).mono ?_); rintro e w' ⟨rfl, ⟨nd, rfl⟩⟩; refine ⟨_, rfl, ?_⟩))
    go_ret
    exact rt_ (bb_ HB)
   subst c12
   have H1 : (spec_IsAtom.l0 k2 (wrap64 (qb + 1)) l0_0 a0_1 a0_2) = some r := by rw [if_pos rfl] at H; exact H
   clear H
   have H := H1
   clear H1
   have H' := Aside0.mk H
   clear H
   obtain ⟨qy, qz, qA, qB, qC, qD⟩ := b3_ qa
   have p151 : 0 ≤ (qb : Int) := od_
   have q151 : qb < (l0_0.length : Int) := od_
   obtain ⟨ql, e151, qc⟩ := Kd.at_int qf.out qb p151 q151
   cases e151
   replace qc := ct_ HB qc
   replace p151 := eq_true p151
   replace q151 := eq_true q151
   go_wp2_with (first | ((with_reducible refine gate_callee (f := 103) rfl ?_); refine gL_ (some 26) Try.func103 #[.int .i64 (rd l0_0 qb)] ?_; (with_reducible refine (spec_IsNumber.calls (rd l0_0 qb) true _ A11.out).mono ?_); rintro e w' ⟨rfl, ⟨nd, rfl⟩⟩; refine ⟨_, rfl, ?_⟩))
   go_roundg k2
   case measure => have := HJ1.out; have := HK2.out; omega
   case rel => exact ⟨(wrap64 (qb + 1)), (by first | rfl | (simp; done) | (simp [*]; done)), H', ⟨by have := HJ1.out; have := HK2.out; omega⟩, ⟨kf_ qa⟩, ⟨bb_ HB⟩⟩

/-! ### spec_IsCell: function 50 -/
def spec_IsCell.l0 : Nat → Int → Int → List (S52) → Option (Bool)
 | 0, _, _, _ => none
 | k + 1, x3, x155000, x155001 => if x3 < (x155001.length : Int) then (if 0 ≤ x3 then ((spec_IsAtom.f k ((rd_T52 x155001 x3).f0) ((rd_T52 x155001 x3).f1) ((rd_T52 x155001 x3).f2)).bind fun qs => (if qs = true then (if (((rd_T52 x155001 x3).f0).length : Int) = x155000 then (spec_IsCell.l0 k (wrap64 (x3 + 1)) x155000 x155001) else (some false)) else (some false))) else (none)) else ((spec_l1In.f x155000 0 4).bind fun qt => (if qt = true then (some (decide ((x155001.length : Int) ≤ 16))) else (some false)))
def spec_IsCell.f (k : Nat) (a0_0 : Int) (l0_1 : List (S52)) : Option (Bool) := spec_IsCell.l0 k 0 a0_0 l0_1
theorem spec_IsCell.mono_l : ∀ k, (∀ y0 y1 y2, LeO (spec_IsCell.l0 k y0 y1 y2) (spec_IsCell.l0 (k + 1) y0 y1 y2))
 | 0 => fun _ _ _ r h => by simp [spec_IsCell.l0] at h
 | k + 1 => by
  have ih0 := spec_IsCell.mono_l k
  ·
   intro y0 y1 y2
   unfold spec_IsCell.l0
   repeat' first
   | (with_reducible exact ih0 _ _ _)
   | (with_reducible exact spec_IsAtom.mono _ _ _ _)
   | (with_reducible exact LeO.refl _)
   | (with_reducible exact LeO.none _)
   | (with_reducible refine LeO.ite ?_ ?_)
   | (with_reducible refine LeO.bind ?_ (fun _ => ?_))
theorem spec_IsCell.mono : ∀ a0 a1 k, LeO (spec_IsCell.f k a0 a1) (spec_IsCell.f (k + 1) a0 a1) := by
 intro a0 a1 k
 have ih0 := spec_IsCell.mono_l k
 unfold spec_IsCell.f
 repeat' first
   | (with_reducible exact ih0 _ _ _)
   | (with_reducible exact spec_IsAtom.mono _ _ _ _)
   | (with_reducible exact LeO.refl _)
   | (with_reducible exact LeO.none _)
   | (with_reducible refine LeO.ite ?_ ?_)
   | (with_reducible refine LeO.bind ?_ (fun _ => ?_))
def spec_IsCell.T4 : Bool × List (List Nat × List Nat) := (true, [([], []), ([0], [0]), ([], []), ([1, 2], [1, 2]), ([3], [3]), ([4], [4]), ([5], [5]), ([6, 5], [6]), ([7], [7]), ([8, 7], [7, 8]), ([7], [7]), ([9, 10, 7], [7, 9, 10]), ([11, 7], [7, 11]), ([12, 7], [7, 12]), ([13, 7], [7, 13]), ([7], [7]), ([15, 7], [7, 15]), ([14, 16, 7], [7, 14, 16]), ([7, 17], [7, 17])])
def spec_IsCell.B4 : List Nat := [0, 1, 0, 7, 15, 31, 63, 127, 255, 511, 255, 2047, 4095, 8191, 16383, 255, 33023, 131071, 262143]
theorem spec_IsCell.tab4 : rtab .any (opsOf Try.f50 4) = spec_IsCell.T4 := by kernel_rfl
theorem spec_IsCell.bits4 : waitsOk spec_IsCell.T4.2 spec_IsCell.B4 = true := by kernel_rfl
set_option maxHeartbeats 8000000 in
set_option maxRecDepth 100000 in
theorem spec_IsCell.calls (k : Nat) (a0_0 : Int) (A0_1 : Option Addr) (c0_1 : Nat) (l0_1 : List (S52)) (r : Bool) (w : World) (hr0_1 : Kd.C k52 w A0_1 l0_1.length l0_1) (hc0_1 : l0_1.length ≤ c0_1) (h : spec_IsCell.f k a0_0 l0_1 = some r) :
  Calls Try.prog 50 #[.agg #[.int .i64 a0_0, .slice A0_1 l0_1.length c0_1]] w fun e w' => e = .returned (.bool r) ∧ Below w.heap.size w w' := by
 have hu28 := Try.underlying28
 have hu52 := Try.underlying52
 have qo := Aside0.mk hr0_1
 have qR := Aside0.mk hc0_1
 clear hr0_1 hc0_1
 have HB := Aside0.mk (Below.refl w.heap.size w)
 have H : (spec_IsCell.l0 k 0 a0_0 l0_1) = some r := h
 clear h
 have H' := Aside0.mk H
 clear H
 go_enter Try.func50, Try.ntmps50
 go_wp2_with (first | ((with_reducible refine gate_dst (N := 1) rfl ?_); (try (refine gate_guard (by rfl) ?_; dsimp only)); refine bx_ (cs := #[.int .i64 a0_0, .slice A0_1 l0_1.length c0_1]) (t := 28) ?_; intro qm hg w2 hbox hb; have qb := Aside0.mk (hbox); have qS := hz_ HB hg; have qT := hz_ HB hg; replace HB := bS_ HB hb; clear hb hbox hg))
 go_loopg [3] k (fun kq v3 w' => ∃ (qa : Int), v3 = .int .i64 qa ∧ Aside0 (spec_IsCell.l0 kq qa a0_0 l0_1 = some r) ∧ Aside0 (kq ≤ k) ∧ Aside0 (w'.heap[qm]? = some (.cells #[.int .i64 a0_0, (.slice A0_1 l0_1.length c0_1)] 28 (0, 0))) ∧ Aside0 (Below w.heap.size w w'))
 case atStart => exact ⟨(0), (by first | rfl | (simp; done) | (simp [*]; done)), H', ⟨Nat.le_refl _⟩, ⟨kf_ qb⟩, ⟨bb_ HB⟩⟩
 clear H'
 try clear p2
 obtain ⟨qa, rfl, HA, HK1, qb, HB⟩ := hrel
 cases gk with
 | zero => exact absurd HA.out (by simp [spec_IsCell.l0])
 | succ k1 =>
  have H := HA.out
  clear HA
  simp only [spec_IsCell.l0] at H
  by_cases c3 : qa < (l0_1.length : Int)
  rotate_left
  ·
   rw [if_neg c3] at H
   have qK : decide (qa < (l0_1.length : Int)) = false := decide_eq_false c3
   clear c3
   replace H := be_ H
   obtain ⟨qt, A170, H⟩ := H
   have A17 := Aside0.mk A170
   clear A170
   by_cases c18 : qt = true
   ·
    subst c18
    have H1 : (some (decide ((l0_1.length : Int) ≤ 16))) = some r := by rw [if_pos rfl] at H; exact H
    clear H
    have H := H1
    clear H1
    obtain rfl := Option.some.inj H
    obtain ⟨qu, qv, qw, qx⟩ := b2_ qb
    go_wp2_with (first | ((with_reducible refine gate_callee (f := 62) rfl ?_); refine gL_ (some 32) Try.func62 #[.int .i64 a0_0, .int .i64 0, .int .i64 4] ?_; (with_reducible refine (spec_l1In.calls a0_0 0 4 true _ A17.out).mono ?_); rintro e w' ⟨rfl, ⟨nd, rfl⟩⟩; refine ⟨_, rfl, ?_⟩))
    go_ret
    exact rt_ (bb_ HB)
   replace c18 := Bool.eq_false_iff.mpr c18
   subst c18
   have H1 : (some false) = some r := by rw [if_neg (show ¬ (false = true) by decide)] at H; exact H
   clear H
   have H := H1
   clear H1
   obtain rfl := Option.some.inj H
   obtain ⟨qy, qz, qA, qB⟩ := b2_ qb
   go_wp2_with (first | ((with_reducible refine gate_callee (f := 62) rfl ?_); refine gL_ (some 32) Try.func62 #[.int .i64 a0_0, .int .i64 0, .int .i64 4] ?_; (with_reducible refine (spec_l1In.calls a0_0 0 4 false _ A17.out).mono ?_); rintro e w' ⟨rfl, ⟨nd, rfl⟩⟩; refine ⟨_, rfl, ?_⟩))
   go_ret
   exact rt_ (bb_ HB)
  rw [if_pos c3] at H
  have qK : decide (qa < (l0_1.length : Int)) = true := decide_eq_true c3
  clear c3
  replace H := ip_ H
  obtain ⟨c4, H⟩ := H
  have qU : decide (0 ≤ qa) = true := decide_eq_true c4
  clear c4
  replace H := be_ H
  obtain ⟨qs, A50, H⟩ := H
  have A5 := Aside0.mk A50
  clear A50
  by_cases c6 : qs = true
  rotate_left
  ·
   replace c6 := Bool.eq_false_iff.mpr c6
   subst c6
   have H1 : (some false) = some r := by rw [if_neg (show ¬ (false = true) by decide)] at H; exact H
   clear H
   have H := H1
   clear H1
   obtain rfl := Option.some.inj H
   obtain ⟨qC, qD, qE, qF⟩ := b2_ qb
   try go_wp2
   replace qb := Aside0.mk (blk_drew qb.out); replace HB := Aside0.mk (below_drew1 HB.out)
   have p155 : 0 ≤ (qa : Int) := od_
   have q155 : qa < (l0_1.length : Int) := od_
   obtain ⟨qc, qk, c155_0, e155, qd, qe, qf, hl155_0, hi155_0⟩ := at_T52 qo.out qa p155 q155
   have hw155_2 := qf
   have hw155_1 := qe
   have hw155_0 := qd
   cases e155
   replace qd := ct_ HB qd
   replace qe := ct_ HB qe
   replace qf := ct_ HB qf
   have qj := Aside0.mk hi155_0
   have ql := Aside0.mk hl155_0
   clear hi155_0 hl155_0
   replace p155 := eq_true p155
   replace q155 := eq_true q155
   refine start_ (n := 19) (S := fun w' => w'.cell? ⟨qm, 0, none⟩ = some (.int .i64 a0_0) ∧ w'.cell? ⟨qm, 1, none⟩ = some (.slice (some qc) l0_1.length c0_1) ∧ w'.cell? (qc.add ((qa).toNat * 3)) = some (.slice qk ((rd_T52 l0_1 qa).f0).length c155_0) ∧ w'.cell? ⟨(qc.add ((qa).toNat * 3)).block, (qc.add ((qa).toNat * 3)).off + 1, none⟩ = some (.int .i64 ((rd_T52 l0_1 qa).f1)) ∧ w'.cell? ⟨(qc.add ((qa).toNat * 3)).block, (qc.add ((qa).toNat * 3)).off + 2, none⟩ = some (.bool ((rd_T52 l0_1 qa).f2))) (ds := []) (fl_ 19 0) (by kernel_rfl) rfl rfl ⟨bc_ qb 0, bc_ qb 1, (ct_ HB hw155_0 :), (ct_ HB hw155_1 :), (ct_ HB hw155_2 :)⟩ (fun hHeld => ?_); refine with_tabW spec_IsCell.tab4 spec_IsCell.bits4 (fun HT_ HW_ => ?_)
   generalize wr.drew = qV at qb HB qj qd qe qf hHeld ⊢
   refine pX_ 0 (some 11) (fl_ 19 1) HT_ ?_
   refine pX_ 2 (some 13) (fl_ 19 5) HT_ ?_
   refine tX_ 1 (some 12) (fl_ 19 7) rfl rfl HT_ HW_ hHeld (by rintro w' ⟨s0, s1, s2, s3, s4⟩; go_simp; with_reducible rfl) ?_
   refine pX_ 3 (some 14) (fl_ 19 15) HT_ ?_
   refine tX_ 4 (some 15) (fl_ 19 31) rfl rfl HT_ HW_ hHeld (by rintro w' ⟨s0, s1, s2, s3, s4⟩; go_simp; with_reducible rfl) ?_
   refine one_ (i := 5) (N := some 16) (fl_ 19 63) rfl rfl (one_of HT_.out (by kernel_rfl)) (by decide) (fun K hK => ?_)
   refine goes_ Try.func88 (by kernel_rfl) rfl #[.agg #[.slice qk ((rd_T52 l0_1 qa).f0).length c155_0, .int .i64 ((rd_T52 l0_1 qa).f1), .bool ((rd_T52 l0_1 qa).f2)]] (by rfl) rfl rfl (by (try simp only [List.map_toArray, List.map_cons, List.map_nil]); first | done | rfl | (simp only [List.length_drop, List.length_take]; rfl)) ?_
   with_reducible refine (spec_IsAtom.calls k1 _ _ ((rd_T52 l0_1 qa).f0) ((rd_T52 l0_1 qa).f1) ((rd_T52 l0_1 qa).f2) false _ ?side1 ?side2 A5.out).mono ?_
   (case side1 => exact cb_ qj HB)
   (case side2 => exact ql.out)
   rintro e qW ⟨rfl, hb⟩
   refine ⟨_, rfl, ?_⟩
   replace qb := kB_ qb hb; replace HB := bS_ HB hb; (try clear hb); (try clear hb2); (try clear hk); (try clear hi)
   refine hK.out _ _ ⟨bc_ qb 0, bc_ qb 1, (ct_ HB hw155_0 :), (ct_ HB hw155_1 :), (ct_ HB hw155_2 :)⟩ (fun hHeld => ?_)
   clear hK K
   refine norm_ (a' := ?_) ?_ ?_
   rotate_left
   ·
    show Act.put _ (some 16) _ = _
    simp only [Act.put, sa_, s0_, s1_, i64_w, i32_w]
    rfl
   refine pX_ 6 (some 17) (fl_ 19 127) HT_ ?_
   refine pX_ 7 (some 18) (fl_ 19 255) HT_ ?_
   refine pU_ 8 (some 19) (fl_ 19 511) HT_ ?_
   refine pU_ 9 (some 20) (fl_ 19 1023) HT_ ?_
   refine pU_ 10 (some 21) (fl_ 19 2047) HT_ ?_
   refine pU_ 11 (some 22) (fl_ 19 4095) HT_ ?_
   refine pU_ 12 (some 23) (fl_ 19 8191) HT_ ?_
   refine pU_ 13 (some 24) (fl_ 19 16383) HT_ ?_
   refine pU_ 14 (some 25) (fl_ 19 32767) HT_ ?_
   refine pU_ 15 (some 26) (fl_ 19 65535) HT_ ?_
   refine pU_ 16 (some 27) (fl_ 19 131071) HT_ ?_
   refine pU_ 17 (some 28) (fl_ 19 262143) HT_ ?_
   refine pX_ 18 (some 29) (fl_ 19 524287) HT_ ?_
   refine done_ (done_of HT_.out (by kernel_rfl)) ?_
   try go_wp2
   go_ret
   exact rt_ (bb_ HB)
  subst c6
  have H1 : (if (((rd_T52 l0_1 qa).f0).length : Int) = a0_0 then (spec_IsCell.l0 k1 (wrap64 (qa + 1)) a0_0 l0_1) else (some false)) = some r := by rw [if_pos rfl] at H; exact H
  clear H
  have H := H1
  clear H1
  by_cases c7 : (((rd_T52 l0_1 qa).f0).length : Int) = a0_0
  rotate_left
  ·
   rw [if_neg c7] at H
   have qL : ((((rd_T52 l0_1 qa).f0).length : Int) == a0_0) = false := beq_eq_false_iff_ne.mpr c7
   have qM : ((((rd_T52 l0_1 qa).f0).length : Int) != a0_0) = true := bne_iff_ne.mpr c7
   obtain rfl := Option.some.inj H
   obtain ⟨qG, qH, qI, qJ⟩ := b2_ qb
   try go_wp2
   replace qb := Aside0.mk (blk_drew qb.out); replace HB := Aside0.mk (below_drew1 HB.out)
   have p155 : 0 ≤ (qa : Int) := od_
   have q155 : qa < (l0_1.length : Int) := od_
   obtain ⟨qc, qk, c155_0, e155, qd, qe, qf, hl155_0, hi155_0⟩ := at_T52 qo.out qa p155 q155
   have hw155_2 := qf
   have hw155_1 := qe
   have hw155_0 := qd
   cases e155
   replace qd := ct_ HB qd
   replace qe := ct_ HB qe
   replace qf := ct_ HB qf
   have qj := Aside0.mk hi155_0
   have ql := Aside0.mk hl155_0
   clear hi155_0 hl155_0
   replace p155 := eq_true p155
   replace q155 := eq_true q155
   have p157 : 0 ≤ (qa : Int) := od_
   have q157 : qa < (l0_1.length : Int) := od_
   obtain ⟨qq, qp, c157_0, e157, qg, qh, qi, hl157_0, hi157_0⟩ := at_T52 qo.out qa p157 q157
   have hw157_2 := qi
   have hw157_1 := qh
   have hw157_0 := qg
   obtain rfl : qc = qq := (by injection e157)
   replace qg := ct_ HB qg
   replace qh := ct_ HB qh
   replace qi := ct_ HB qi
   have qn := Aside0.mk hi157_0
   have qr := Aside0.mk hl157_0
   clear hi157_0 hl157_0
   replace p157 := eq_true p157
   replace q157 := eq_true q157
   refine start_ (n := 19) (S := fun w' => w'.cell? ⟨qm, 0, none⟩ = some (.int .i64 a0_0) ∧ w'.cell? ⟨qm, 1, none⟩ = some (.slice (some qc) l0_1.length c0_1) ∧ w'.cell? (qc.add ((qa).toNat * 3)) = some (.slice qk ((rd_T52 l0_1 qa).f0).length c155_0) ∧ w'.cell? ⟨(qc.add ((qa).toNat * 3)).block, (qc.add ((qa).toNat * 3)).off + 1, none⟩ = some (.int .i64 ((rd_T52 l0_1 qa).f1)) ∧ w'.cell? ⟨(qc.add ((qa).toNat * 3)).block, (qc.add ((qa).toNat * 3)).off + 2, none⟩ = some (.bool ((rd_T52 l0_1 qa).f2)) ∧ w'.cell? (qc.add ((qa).toNat * 3)) = some (.slice qp ((rd_T52 l0_1 qa).f0).length c157_0) ∧ w'.cell? ⟨(qc.add ((qa).toNat * 3)).block, (qc.add ((qa).toNat * 3)).off + 1, none⟩ = some (.int .i64 ((rd_T52 l0_1 qa).f1)) ∧ w'.cell? ⟨(qc.add ((qa).toNat * 3)).block, (qc.add ((qa).toNat * 3)).off + 2, none⟩ = some (.bool ((rd_T52 l0_1 qa).f2))) (ds := []) (fl_ 19 0) (by kernel_rfl) rfl rfl ⟨bc_ qb 0, bc_ qb 1, (ct_ HB hw155_0 :), (ct_ HB hw155_1 :), (ct_ HB hw155_2 :), (ct_ HB hw157_0 :), (ct_ HB hw157_1 :), (ct_ HB hw157_2 :)⟩ (fun hHeld => ?_); refine with_tabW spec_IsCell.tab4 spec_IsCell.bits4 (fun HT_ HW_ => ?_)
   generalize wr.drew = qX at qb HB qj qn qd qe qf qg qh qi hHeld ⊢
   refine pX_ 0 (some 11) (fl_ 19 1) HT_ ?_
   refine pX_ 2 (some 13) (fl_ 19 5) HT_ ?_
   refine tX_ 1 (some 12) (fl_ 19 7) rfl rfl HT_ HW_ hHeld (by rintro w' ⟨s0, s1, s2, s3, s4, s5, s6, s7⟩; go_simp; with_reducible rfl) ?_
   refine pX_ 3 (some 14) (fl_ 19 15) HT_ ?_
   refine tX_ 4 (some 15) (fl_ 19 31) rfl rfl HT_ HW_ hHeld (by rintro w' ⟨s0, s1, s2, s3, s4, s5, s6, s7⟩; go_simp; with_reducible rfl) ?_
   refine one_ (i := 5) (N := some 16) (fl_ 19 63) rfl rfl (one_of HT_.out (by kernel_rfl)) (by decide) (fun K hK => ?_)
   refine goes_ Try.func88 (by kernel_rfl) rfl #[.agg #[.slice qk ((rd_T52 l0_1 qa).f0).length c155_0, .int .i64 ((rd_T52 l0_1 qa).f1), .bool ((rd_T52 l0_1 qa).f2)]] (by rfl) rfl rfl (by (try simp only [List.map_toArray, List.map_cons, List.map_nil]); first | done | rfl | (simp only [List.length_drop, List.length_take]; rfl)) ?_
   with_reducible refine (spec_IsAtom.calls k1 _ _ ((rd_T52 l0_1 qa).f0) ((rd_T52 l0_1 qa).f1) ((rd_T52 l0_1 qa).f2) true _ ?side1 ?side2 A5.out).mono ?_
   (case side1 => exact cb_ qj HB)
   (case side2 => exact ql.out)
   rintro e qY ⟨rfl, hb⟩
   refine ⟨_, rfl, ?_⟩
   replace qb := kB_ qb hb; replace HB := bS_ HB hb; (try clear hb); (try clear hb2); (try clear hk); (try clear hi)
   refine hK.out _ _ ⟨bc_ qb 0, bc_ qb 1, (ct_ HB hw155_0 :), (ct_ HB hw155_1 :), (ct_ HB hw155_2 :), (ct_ HB hw157_0 :), (ct_ HB hw157_1 :), (ct_ HB hw157_2 :)⟩ (fun hHeld => ?_)
   clear hK K
   refine norm_ (a' := ?_) ?_ ?_
   rotate_left
   ·
    show Act.put _ (some 16) _ = _
    simp only [Act.put, sa_, s0_, s1_, i64_w, i32_w]
    rfl
   refine pX_ 6 (some 17) (fl_ 19 127) HT_ ?_
   refine pX_ 7 (some 18) (fl_ 19 255) HT_ ?_
   refine pX_ 8 (some 19) (fl_ 19 511) HT_ ?_
   refine pX_ 10 (some 21) (fl_ 19 1535) HT_ ?_
   refine pX_ 15 (some 26) (fl_ 19 34303) HT_ ?_
   refine tX_ 9 (some 20) (fl_ 19 34815) rfl rfl HT_ HW_ hHeld (by rintro w' ⟨s0, s1, s2, s3, s4, s5, s6, s7⟩; go_simp; with_reducible rfl) ?_
   refine pX_ 11 (some 22) (fl_ 19 36863) HT_ ?_
   refine pX_ 12 (some 23) (fl_ 19 40959) HT_ ?_
   refine tX_ 13 (some 24) (fl_ 19 49151) rfl rfl HT_ HW_ hHeld (by rintro w' ⟨s0, s1, s2, s3, s4, s5, s6, s7⟩; go_simp; with_reducible rfl) ?_
   refine pX_ 14 (some 25) (fl_ 19 65535) HT_ ?_
   refine tX_ 16 (some 27) (fl_ 19 131071) rfl rfl HT_ HW_ hHeld (by rintro w' ⟨s0, s1, s2, s3, s4, s5, s6, s7⟩; go_simp; with_reducible rfl) ?_
   refine pX_ 17 (some 28) (fl_ 19 262143) HT_ ?_
   refine pX_ 18 (some 29) (fl_ 19 524287) HT_ ?_
   refine done_ (done_of HT_.out (by kernel_rfl)) ?_
   try go_wp2
   go_ret
   exact rt_ (bb_ HB)
  rw [if_pos c7] at H
  have qL : ((((rd_T52 l0_1 qa).f0).length : Int) == a0_0) = true := beq_iff_eq.mpr c7
  have qM : ((((rd_T52 l0_1 qa).f0).length : Int) != a0_0) = false := bne_eq_false_iff_eq.mpr c7
  clear c7
  have H' := Aside0.mk H
  clear H
  obtain ⟨qN, qO, qP, qQ⟩ := b2_ qb
  try go_wp2
  replace qb := Aside0.mk (blk_drew qb.out); replace HB := Aside0.mk (below_drew1 HB.out)
  have p155 : 0 ≤ (qa : Int) := od_
  have q155 : qa < (l0_1.length : Int) := od_
  obtain ⟨qc, qk, c155_0, e155, qd, qe, qf, hl155_0, hi155_0⟩ := at_T52 qo.out qa p155 q155
  have hw155_2 := qf
  have hw155_1 := qe
  have hw155_0 := qd
  cases e155
  replace qd := ct_ HB qd
  replace qe := ct_ HB qe
  replace qf := ct_ HB qf
  have qj := Aside0.mk hi155_0
  have ql := Aside0.mk hl155_0
  clear hi155_0 hl155_0
  replace p155 := eq_true p155
  replace q155 := eq_true q155
  have p157 : 0 ≤ (qa : Int) := od_
  have q157 : qa < (l0_1.length : Int) := od_
  obtain ⟨qq, qp, c157_0, e157, qg, qh, qi, hl157_0, hi157_0⟩ := at_T52 qo.out qa p157 q157
  have hw157_2 := qi
  have hw157_1 := qh
  have hw157_0 := qg
  obtain rfl : qc = qq := (by injection e157)
  replace qg := ct_ HB qg
  replace qh := ct_ HB qh
  replace qi := ct_ HB qi
  have qn := Aside0.mk hi157_0
  have qr := Aside0.mk hl157_0
  clear hi157_0 hl157_0
  replace p157 := eq_true p157
  replace q157 := eq_true q157
  refine start_ (n := 19) (S := fun w' => w'.cell? ⟨qm, 0, none⟩ = some (.int .i64 a0_0) ∧ w'.cell? ⟨qm, 1, none⟩ = some (.slice (some qc) l0_1.length c0_1) ∧ w'.cell? (qc.add ((qa).toNat * 3)) = some (.slice qk ((rd_T52 l0_1 qa).f0).length c155_0) ∧ w'.cell? ⟨(qc.add ((qa).toNat * 3)).block, (qc.add ((qa).toNat * 3)).off + 1, none⟩ = some (.int .i64 ((rd_T52 l0_1 qa).f1)) ∧ w'.cell? ⟨(qc.add ((qa).toNat * 3)).block, (qc.add ((qa).toNat * 3)).off + 2, none⟩ = some (.bool ((rd_T52 l0_1 qa).f2)) ∧ w'.cell? (qc.add ((qa).toNat * 3)) = some (.slice qp ((rd_T52 l0_1 qa).f0).length c157_0) ∧ w'.cell? ⟨(qc.add ((qa).toNat * 3)).block, (qc.add ((qa).toNat * 3)).off + 1, none⟩ = some (.int .i64 ((rd_T52 l0_1 qa).f1)) ∧ w'.cell? ⟨(qc.add ((qa).toNat * 3)).block, (qc.add ((qa).toNat * 3)).off + 2, none⟩ = some (.bool ((rd_T52 l0_1 qa).f2))) (ds := []) (fl_ 19 0) (by kernel_rfl) rfl rfl ⟨bc_ qb 0, bc_ qb 1, (ct_ HB hw155_0 :), (ct_ HB hw155_1 :), (ct_ HB hw155_2 :), (ct_ HB hw157_0 :), (ct_ HB hw157_1 :), (ct_ HB hw157_2 :)⟩ (fun hHeld => ?_); refine with_tabW spec_IsCell.tab4 spec_IsCell.bits4 (fun HT_ HW_ => ?_)
  generalize wr.drew = w9 at qb HB qj qn qd qe qf qg qh qi hHeld ⊢
  refine pX_ 0 (some 11) (fl_ 19 1) HT_ ?_
  refine pX_ 2 (some 13) (fl_ 19 5) HT_ ?_
  refine tX_ 1 (some 12) (fl_ 19 7) rfl rfl HT_ HW_ hHeld (by rintro w' ⟨s0, s1, s2, s3, s4, s5, s6, s7⟩; go_simp; with_reducible rfl) ?_
  refine pX_ 3 (some 14) (fl_ 19 15) HT_ ?_
  refine tX_ 4 (some 15) (fl_ 19 31) rfl rfl HT_ HW_ hHeld (by rintro w' ⟨s0, s1, s2, s3, s4, s5, s6, s7⟩; go_simp; with_reducible rfl) ?_
  refine one_ (i := 5) (N := some 16) (fl_ 19 63) rfl rfl (one_of HT_.out (by kernel_rfl)) (by decide) (fun K hK => ?_)
  refine goes_ Try.func88 (by kernel_rfl) rfl #[.agg #[.slice qk ((rd_T52 l0_1 qa).f0).length c155_0, .int .i64 ((rd_T52 l0_1 qa).f1), .bool ((rd_T52 l0_1 qa).f2)]] (by rfl) rfl rfl (by (try simp only [List.map_toArray, List.map_cons, List.map_nil]); first | done | rfl | (simp only [List.length_drop, List.length_take]; rfl)) ?_
  with_reducible refine (spec_IsAtom.calls k1 _ _ ((rd_T52 l0_1 qa).f0) ((rd_T52 l0_1 qa).f1) ((rd_T52 l0_1 qa).f2) true _ ?side1 ?side2 A5.out).mono ?_
  (case side1 => exact cb_ qj HB)
  (case side2 => exact ql.out)
  rintro e qZ ⟨rfl, hb⟩
  refine ⟨_, rfl, ?_⟩
  replace qb := kB_ qb hb; replace HB := bS_ HB hb; (try clear hb); (try clear hb2); (try clear hk); (try clear hi)
  refine hK.out _ _ ⟨bc_ qb 0, bc_ qb 1, (ct_ HB hw155_0 :), (ct_ HB hw155_1 :), (ct_ HB hw155_2 :), (ct_ HB hw157_0 :), (ct_ HB hw157_1 :), (ct_ HB hw157_2 :)⟩ (fun hHeld => ?_)
  clear hK K
  refine norm_ (a' := ?_) ?_ ?_
  rotate_left
  ·
   show Act.put _ (some 16) _ = _
   simp only [Act.put, sa_, s0_, s1_, i64_w, i32_w]
   rfl
  refine pX_ 6 (some 17) (fl_ 19 127) HT_ ?_
  refine pX_ 7 (some 18) (fl_ 19 255) HT_ ?_
  refine pX_ 8 (some 19) (fl_ 19 511) HT_ ?_
  refine pX_ 10 (some 21) (fl_ 19 1535) HT_ ?_
  refine pX_ 15 (some 26) (fl_ 19 34303) HT_ ?_
  refine tX_ 9 (some 20) (fl_ 19 34815) rfl rfl HT_ HW_ hHeld (by rintro w' ⟨s0, s1, s2, s3, s4, s5, s6, s7⟩; go_simp; with_reducible rfl) ?_
  refine pX_ 11 (some 22) (fl_ 19 36863) HT_ ?_
  refine pX_ 12 (some 23) (fl_ 19 40959) HT_ ?_
  refine tX_ 13 (some 24) (fl_ 19 49151) rfl rfl HT_ HW_ hHeld (by rintro w' ⟨s0, s1, s2, s3, s4, s5, s6, s7⟩; go_simp; with_reducible rfl) ?_
  refine pX_ 14 (some 25) (fl_ 19 65535) HT_ ?_
  refine tX_ 16 (some 27) (fl_ 19 131071) rfl rfl HT_ HW_ hHeld (by rintro w' ⟨s0, s1, s2, s3, s4, s5, s6, s7⟩; go_simp; with_reducible rfl) ?_
  refine pX_ 17 (some 28) (fl_ 19 262143) HT_ ?_
  refine pX_ 18 (some 29) (fl_ 19 524287) HT_ ?_
  refine done_ (done_of HT_.out (by kernel_rfl)) ?_
  try go_wp2
  go_roundg k1
  case measure => have := HK1.out; omega
  case rel => exact ⟨(wrap64 (qa + 1)), (by first | rfl | (simp; done) | (simp [*]; done)), H', ⟨by have := HK1.out; omega⟩, ⟨kf_ qb⟩, ⟨bb_ HB⟩⟩

/-! ### spec_l3None: function 78 -/
def spec_l3None.f (a0 : Int) : Option (Int × (List (S52))) := if 0 ≤ a0 then (if (a0 : Int).toNat ≤ 35184372088832 then (some (a0, (([(⟨(List.replicate (a0 : Int).toNat 0), 1, false⟩ : S52)] : List (S52))))) else (none)) else (none)
set_option maxHeartbeats 8000000 in
set_option maxRecDepth 100000 in
theorem spec_l3None.calls (a0 : Int) (r1 : Int) (r2 : List (S52)) (w : World) (h : spec_l3None.f a0 = some (r1, r2)) :
  Calls Try.prog 78 #[.int .i64 a0] w fun e w' => ∃ v1_ : Value, e = .returned (.agg #[.int .i64 r1, v1_]) ∧ Kd.N k52 52 w' w.heap.size (fun k_ => (w.heap.size ≤ k_)) v1_ r2 ∧ Below w.heap.size w w' := by
 have hu28 := Try.underlying28
 have hu52 := Try.underlying52
 have HB := Aside0.mk (Below.refl w.heap.size w)
 have H : (if 0 ≤ a0 then (if (a0 : Int).toNat ≤ 35184372088832 then (some (a0, (([(⟨(List.replicate (a0 : Int).toNat 0), 1, false⟩ : S52)] : List (S52))))) else (none)) else (none)) = some (r1, r2) := h
 clear h
 replace H := ip_ H
 obtain ⟨c2, H⟩ := H
 have qo := eq_true c2
 have qp : decide (0 ≤ a0) = true := decide_eq_true c2
 clear c2
 replace H := ip_ H
 obtain ⟨c3, H⟩ := H
 have qq := eq_true c3
 have qr : decide ((a0 : Int).toNat ≤ 35184372088832) = true := decide_eq_true c3
 clear c3
 obtain ⟨y160, hy160⟩ : ∃ y_ : List Int, y_ = (List.replicate (a0 : Int).toNat 0) := ⟨_, rfl⟩
 replace H : (some (a0, (([(⟨y160, 1, false⟩ : S52)] : List (S52))))) = some (r1, r2) := by first | (rw [hy160]; with_reducible exact H) | (have H2_ := (Option.bind_some _ _).symm.trans H; rw [hy160]; with_reducible exact H2_) | (have H2_ := (Option.bind_some _ _).symm.trans H; with_reducible exact H2_) | with_reducible exact H | (rw [hy160]; exact H) | exact H
 have Ny160 := Aside0.mk hy160
 clear hy160
 obtain ⟨y163, hy163⟩ : ∃ y_ : List (S52), y_ = (([(⟨y160, 1, false⟩ : S52)] : List (S52))) := ⟨_, rfl⟩
 replace H : (some (a0, y163)) = some (r1, r2) := by first | (rw [hy163]; with_reducible exact H) | (have H2_ := (Option.bind_some _ _).symm.trans H; rw [hy163]; with_reducible exact H2_) | (have H2_ := (Option.bind_some _ _).symm.trans H; with_reducible exact H2_) | with_reducible exact H | (rw [hy163]; exact H) | exact H
 have Ny163 := Aside0.mk hy163
 clear hy163
 simp only [Option.some.injEq, Prod.mk.injEq] at H
 obtain ⟨rfl, rfl⟩ := H
 go_enter Try.func78, Try.ntmps78
 go_wp2_with (first | ((with_reducible refine gate_dst (N := 2) rfl ?_); refine bx_ (cs := #[.int .i64 0, .slice none 0 0]) (t := 28) ?_; intro qb hg w4 hbox hb; have qa := Aside0.mk (hbox); have qk := hz_ HB hg; have ql := hz_ HB hg; replace HB := bS_ HB hb; clear hb hbox hg) | ((with_reducible refine gate_dst (N := 5) rfl ?_); refine Kd.R_make (Kd.int .i64) _ 3 rfl (N := 5) rfl 47 _ _ rfl a0 rfl rfl Try.underlying47 (.int .i64 0) 8 info3 rfl (by decide) (by omega) 0 (ok := fun _ => True) (okp := fun _ => True) rfl (fun _ hk => hk) trivial (od_) (Nat.le_trans (Nat.mul_le_mul_right _ (od_ : a0.toNat ≤ 35184372088832)) (by omega)) (Below.refl _ _) (Nat.le_refl _) ?_; intro qs w5 ho6 hb hg_ hnew_; clear hg_ hnew_; (first | rw [← Ny160.out] at ho6 | (simp only [Int.reduceToNat] at ho6; rw [← Ny160.out] at ho6)); have qc := Aside0.mk (Kd.R_lower (Kd.R_newM (M := fun k_ => (w.heap.size ≤ k_)) ho6 (bz_ HB) (fun k_ h_ => h_)) (bz_ HB)); replace qa := kB_ qa hb; replace HB := bS_ HB hb; clear hb ho6; obtain ⟨qm, qn, eo7⟩ := Kd.R_slice qc.out; subst eo7) | ((with_reducible refine gate_dst (N := 7) rfl ?_); refine Kd.N_lit k52 _ 52 ?hg (N' := 7) ?hd (xs := ([(⟨y160, 1, false⟩ : S52)] : List (S52))) (inner := [.slice qm y160.length qn, .int .i64 1, .bool false]) (ok := (fun k_ => (w.heap.size ≤ k_) ∧ k_ ≠ qb)) (okp := (fun k_ => (w.heap.size ≤ k_) ∧ k_ ≠ qb)) ?hr ?hp (fun _ hk => hk) ((show ∀ k_, w5.heap.size ≤ k_ → (fun k_ => (w.heap.size ≤ k_) ∧ k_ ≠ qb) k_ from fun k_ hk => ⟨(Nat.le_trans (bz_ HB) hk), Kd.freshB (g := qb) (o := .cells #[.int .i64 0, .slice none 0 0] 28 (0, 0)) (kf_ qa) k_ hk⟩) _ (Nat.le_refl _)) (Below.refl _ _) (Nat.le_refl _) (by simp) ?_; (case hd => rfl); (case hg => rfl); (case hr => first | (go_simp; done) | (go_simp; rfl)); (case hp => exact (Reps.c3 (show Kd.FK k52 _ _ (⟨y160, 1, false⟩ : S52) [.slice qm y160.length qn, .int .i64 1, .bool false] from (k52_mkF _ _ (⟨y160, 1, false⟩ : S52) (Kd.R_reads' (Kd.R_mono (ok' := (fun k_ => (w.heap.size ≤ k_) ∧ k_ ≠ qb)) (Kd.R_types (qc.out) qa.out (by decide)) (fun k_ hk => ⟨hk.1.1, hk.2⟩))).2.1 (Kd.R_F (Kd.R_mono (ok' := (fun k_ => (w.heap.size ≤ k_) ∧ k_ ≠ qb)) (Kd.R_types (qc.out) qa.out (by decide)) (fun k_ hk => ⟨hk.1.1, hk.2⟩))))) (Reps.none _ _))); intro qt w8 ho9 hb hg_ hnew_; clear hg_ hnew_; (first | rw [← Ny163.out] at ho9 | (simp only [Int.reduceToNat] at ho9; rw [← Ny163.out] at ho9)); have qd := Aside0.mk (Kd.N_lower ho9 (bz_ HB)); replace qa := kB_ qa hb; replace HB := bS_ HB hb; clear qc; clear hb ho9; obtain ⟨qi, qj, eo10⟩ := Kd.N_slice qd.out; subst eo10; obtain ⟨qe, qf, qg, qh⟩ := b2_ qa))
 refine bodyPost_ret (results_cell_row rfl _ _ qb 28 #[.int .i64 a0, .slice qi y163.length qj] (0, 0) _ rfl (kp_ qa) Try.underlying28 rfl (by kernel_rfl)) rfl ?_
 exact ⟨_, rt_ ⟨ny_ qd qb (fun _ hk => hk.2) (fun _ hk => hk.1), bb_ HB⟩⟩

/-! ### spec_l2Constant: function 89 -/
def spec_l2Constant.l0 : Nat → Int → List Int → Int → Bool → Option (Bool)
 | 0, _, _, _, _ => none
 | k + 1, x3, x167000, x167001, x167002 => if x3 < (x167000.length : Int) then (if 0 ≤ x3 then (if (rd x167000 x3) = 0 then (spec_l2Constant.l0 k (wrap64 (x3 + 1)) x167000 x167001 x167002) else (some false)) else (none)) else (some true)
def spec_l2Constant.f (k : Nat) (l0_0 : List Int) (a0_1 : Int) (a0_2 : Bool) : Option (Bool) := spec_l2Constant.l0 k 0 l0_0 a0_1 a0_2
theorem spec_l2Constant.mono_l : ∀ k, (∀ y0 y1 y2 y3, LeO (spec_l2Constant.l0 k y0 y1 y2 y3) (spec_l2Constant.l0 (k + 1) y0 y1 y2 y3))
 | 0 => fun _ _ _ _ r h => by simp [spec_l2Constant.l0] at h
 | k + 1 => by
  have ih0 := spec_l2Constant.mono_l k
  ·
   intro y0 y1 y2 y3
   unfold spec_l2Constant.l0
   repeat' first
   | (with_reducible exact ih0 _ _ _ _)
   | (with_reducible exact LeO.refl _)
   | (with_reducible exact LeO.none _)
   | (with_reducible refine LeO.ite ?_ ?_)
   | (with_reducible refine LeO.bind ?_ (fun _ => ?_))
theorem spec_l2Constant.mono : ∀ a0 a1 a2 k, LeO (spec_l2Constant.f k a0 a1 a2) (spec_l2Constant.f (k + 1) a0 a1 a2) := by
 intro a0 a1 a2 k
 have ih0 := spec_l2Constant.mono_l k
 unfold spec_l2Constant.f
 repeat' first
   | (with_reducible exact ih0 _ _ _ _)
   | (with_reducible exact LeO.refl _)
   | (with_reducible exact LeO.none _)
   | (with_reducible refine LeO.ite ?_ ?_)
   | (with_reducible refine LeO.bind ?_ (fun _ => ?_))
set_option maxHeartbeats 8000000 in
set_option maxRecDepth 100000 in
theorem spec_l2Constant.calls (k : Nat) (A0_0 : Option Addr) (c0_0 : Nat) (l0_0 : List Int) (a0_1 : Int) (a0_2 : Bool) (r : Bool) (w : World) (hr0_0 : Kd.C (Kd.int .i64) w A0_0 l0_0.length l0_0) (hc0_0 : l0_0.length ≤ c0_0) (h : spec_l2Constant.f k l0_0 a0_1 a0_2 = some r) :
  Calls Try.prog 89 #[.agg #[.slice A0_0 l0_0.length c0_0, .int .i64 a0_1, .bool a0_2]] w fun e w' => e = .returned (.bool r) ∧ Below w.heap.size w w' := by
 have hu52 := Try.underlying52
 have qd := Aside0.mk hr0_0
 have qB := Aside0.mk hc0_0
 clear hr0_0 hc0_0
 have HB := Aside0.mk (Below.refl w.heap.size w)
 have H : (spec_l2Constant.l0 k 0 l0_0 a0_1 a0_2) = some r := h
 clear h
 have H' := Aside0.mk H
 clear H
 go_enter Try.func89, Try.ntmps89
 go_wp2_with (first | ((with_reducible refine gate_dst (N := 1) rfl ?_); refine bx_ (cs := #[.slice A0_0 l0_0.length c0_0, .int .i64 a0_1, .bool a0_2]) (t := 52) ?_; intro qe hg w2 hbox hb; have qc := Aside0.mk (hbox); have qC := hz_ HB hg; have qD := hz_ HB hg; replace HB := bS_ HB hb; clear hb hbox hg))
 go_loopg [3] k (fun kq v3 w' => ∃ (qa : Int), v3 = .int .i64 qa ∧ Aside0 (spec_l2Constant.l0 kq qa l0_0 a0_1 a0_2 = some r) ∧ Aside0 (kq ≤ k) ∧ Aside0 (w'.heap[qe]? = some (.cells #[(.slice A0_0 l0_0.length c0_0), .int .i64 a0_1, .bool a0_2] 52 (0, 0))) ∧ Aside0 (Below w.heap.size w w'))
 case atStart => exact ⟨(0), (by first | rfl | (simp; done) | (simp [*]; done)), H', ⟨Nat.le_refl _⟩, ⟨kf_ qc⟩, ⟨bb_ HB⟩⟩
 clear H'
 try clear p2
 obtain ⟨qa, rfl, HA, HK1, qc, HB⟩ := hrel
 cases gk with
 | zero => exact absurd HA.out (by simp [spec_l2Constant.l0])
 | succ k1 =>
  have H := HA.out
  clear HA
  simp only [spec_l2Constant.l0] at H
  by_cases c3 : qa < (l0_0.length : Int)
  rotate_left
  ·
   rw [if_neg c3] at H
   have qg : decide (qa < (l0_0.length : Int)) = false := decide_eq_false c3
   clear c3
   obtain rfl := Option.some.inj H
   obtain ⟨qh, qi, qj, qk, ql, qm⟩ := b3_ qc
   go_wp2
   go_ret
   exact rt_ (bb_ HB)
  rw [if_pos c3] at H
  have qg : decide (qa < (l0_0.length : Int)) = true := decide_eq_true c3
  clear c3
  replace H := ip_ H
  obtain ⟨c4, H⟩ := H
  have qE : decide (0 ≤ qa) = true := decide_eq_true c4
  clear c4
  by_cases c5 : (rd l0_0 qa) = 0
  rotate_left
  ·
   rw [if_neg c5] at H
   have qn : ((rd l0_0 qa) == 0) = false := beq_eq_false_iff_ne.mpr c5
   have qo : ((rd l0_0 qa) != 0) = true := bne_iff_ne.mpr c5
   obtain rfl := Option.some.inj H
   obtain ⟨qp, qq, qr, qs, qt, qu⟩ := b3_ qc
   have p167 : 0 ≤ (qa : Int) := od_
   have q167 : qa < (l0_0.length : Int) := od_
   obtain ⟨qf, e167, qb⟩ := Kd.at_int qd.out qa p167 q167
   cases e167
   replace qb := ct_ HB qb
   replace p167 := eq_true p167
   replace q167 := eq_true q167
   go_wp2
   go_ret
   exact rt_ (bb_ HB)
  rw [if_pos c5] at H
  have qn : ((rd l0_0 qa) == 0) = true := beq_iff_eq.mpr c5
  have qo : ((rd l0_0 qa) != 0) = false := bne_eq_false_iff_eq.mpr c5
  clear c5
  have H' := Aside0.mk H
  clear H
  obtain ⟨qv, qw, qx, qy, qz, qA⟩ := b3_ qc
  have p167 : 0 ≤ (qa : Int) := od_
  have q167 : qa < (l0_0.length : Int) := od_
  obtain ⟨qf, e167, qb⟩ := Kd.at_int qd.out qa p167 q167
  cases e167
  replace qb := ct_ HB qb
  replace p167 := eq_true p167
  replace q167 := eq_true q167
  go_wp2
  go_roundg k1
  case measure => have := HK1.out; omega
  case rel => exact ⟨(wrap64 (qa + 1)), (by first | rfl | (simp; done) | (simp [*]; done)), H', ⟨by have := HK1.out; omega⟩, ⟨kf_ qc⟩, ⟨bb_ HB⟩⟩

/-! ### spec_l2Truth: function 90 -/
def spec_l2Truth.f (l0_0 : List Int) (a0_1 : Int) (a0_2 : Bool) : Option (Bool) := if a0_1 < 0 then (some true) else (if a0_1 = 0 then (some (!a0_2)) else (some false))
set_option maxHeartbeats 8000000 in
set_option maxRecDepth 100000 in
theorem spec_l2Truth.calls (A0_0 : Option Addr) (c0_0 : Nat) (l0_0 : List Int) (a0_1 : Int) (a0_2 : Bool) (r : Bool) (w : World) (hr0_0 : Kd.C (Kd.int .i64) w A0_0 l0_0.length l0_0) (hc0_0 : l0_0.length ≤ c0_0) (h : spec_l2Truth.f l0_0 a0_1 a0_2 = some r) :
  Calls Try.prog 90 #[.agg #[.slice A0_0 l0_0.length c0_0, .int .i64 a0_1, .bool a0_2]] w fun e w' => e = .returned (.bool r) ∧ Below w.heap.size w w' := by
 have hu52 := Try.underlying52
 have qz := Aside0.mk hr0_0
 have qA := Aside0.mk hc0_0
 clear hr0_0 hc0_0
 have HB := Aside0.mk (Below.refl w.heap.size w)
 have H : (if a0_1 < 0 then (some true) else (if a0_1 = 0 then (some (!a0_2)) else (some false))) = some r := h
 clear h
 by_cases c2 : a0_1 < 0
 ·
  rw [if_pos c2] at H
  have qe : decide (a0_1 < 0) = true := decide_eq_true c2
  clear c2
  obtain rfl := Option.some.inj H
  go_enter Try.func90, Try.ntmps90
  go_wp2_with (first | ((with_reducible refine gate_dst (N := 1) rfl ?_); refine bx_ (cs := #[.slice A0_0 l0_0.length c0_0, .int .i64 a0_1, .bool a0_2]) (t := 52) ?_; intro qb hg w3 hbox hb; have qa := Aside0.mk (hbox); have qc := hz_ HB hg; have qd := hz_ HB hg; replace HB := bS_ HB hb; clear hb hbox hg; obtain ⟨qf, qg, qh, qi, qj, qk⟩ := b3_ qa))
  go_ret
  exact rt_ (bb_ HB)
 rw [if_neg c2] at H
 have qe : decide (a0_1 < 0) = false := decide_eq_false c2
 clear c2
 by_cases c5 : a0_1 = 0
 rotate_left
 ·
  rw [if_neg c5] at H
  have ql : (a0_1 == 0) = false := beq_eq_false_iff_ne.mpr c5
  have qm : (a0_1 != 0) = true := bne_iff_ne.mpr c5
  obtain rfl := Option.some.inj H
  go_enter Try.func90, Try.ntmps90
  go_wp2_with (first | ((with_reducible refine gate_dst (N := 1) rfl ?_); refine bx_ (cs := #[.slice A0_0 l0_0.length c0_0, .int .i64 a0_1, .bool a0_2]) (t := 52) ?_; intro qb hg w8 hbox hb; have qa := Aside0.mk (hbox); have qc := hz_ HB hg; have qd := hz_ HB hg; replace HB := bS_ HB hb; clear hb hbox hg; obtain ⟨qn, qo, qp, qq, qr, qs⟩ := b3_ qa))
  go_ret
  exact rt_ (bb_ HB)
 rw [if_pos c5] at H
 have ql : (a0_1 == 0) = true := beq_iff_eq.mpr c5
 have qm : (a0_1 != 0) = false := bne_eq_false_iff_eq.mpr c5
 clear c5
 obtain rfl := Option.some.inj H
 go_enter Try.func90, Try.ntmps90
 go_wp2_with (first | ((with_reducible refine gate_dst (N := 1) rfl ?_); refine bx_ (cs := #[.slice A0_0 l0_0.length c0_0, .int .i64 a0_1, .bool a0_2]) (t := 52) ?_; intro qb hg w6 hbox hb; have qa := Aside0.mk (hbox); have qc := hz_ HB hg; have qd := hz_ HB hg; replace HB := bS_ HB hb; clear hb hbox hg; obtain ⟨qt, qu, qv, qw, qx, qy⟩ := b3_ qa))
 go_ret
 exact rt_ (bb_ HB)

/-! ### spec_l2Steep: function 124 -/
def spec_l2Steep.f (k : Nat) (l0_0 : List Int) (a0_1 : Int) (a0_2 : Bool) : Option (Int) := (spec_l2Gcd.f k l0_0 0).bind fun qa => (some qa)
theorem spec_l2Steep.mono : ∀ a0 a1 a2 k, LeO (spec_l2Steep.f k a0 a1 a2) (spec_l2Steep.f (k + 1) a0 a1 a2) := by
 intro a0 a1 a2 k
 unfold spec_l2Steep.f
 repeat' first
   | (with_reducible exact spec_l2Gcd.mono _ _ _)
   | (with_reducible exact LeO.refl _)
   | (with_reducible exact LeO.none _)
   | (with_reducible refine LeO.ite ?_ ?_)
   | (with_reducible refine LeO.bind ?_ (fun _ => ?_))
set_option maxHeartbeats 8000000 in
set_option maxRecDepth 100000 in
theorem spec_l2Steep.calls (k : Nat) (A0_0 : Option Addr) (c0_0 : Nat) (l0_0 : List Int) (a0_1 : Int) (a0_2 : Bool) (r : Int) (w : World) (hr0_0 : Kd.C (Kd.int .i64) w A0_0 l0_0.length l0_0) (hc0_0 : l0_0.length ≤ c0_0) (h : spec_l2Steep.f k l0_0 a0_1 a0_2 = some r) :
  Calls Try.prog 124 #[.agg #[.slice A0_0 l0_0.length c0_0, .int .i64 a0_1, .bool a0_2]] w fun e w' => e = .returned (.int .i64 r) ∧ Below w.heap.size w w' := by
 have hu52 := Try.underlying52
 have qc := Aside0.mk hr0_0
 have qd := Aside0.mk hc0_0
 clear hr0_0 hc0_0
 have HB := Aside0.mk (Below.refl w.heap.size w)
 have H : ((spec_l2Gcd.f k l0_0 0).bind fun qa => (some qa)) = some r := h
 clear h
 replace H := be_ H
 obtain ⟨qa, A20, H⟩ := H
 have A2 := Aside0.mk A20
 clear A20
 obtain rfl := Option.some.inj H
 go_enter Try.func124, Try.ntmps124
 go_wp2_with (first | ((with_reducible refine gate_dst (N := 1) rfl ?_); refine bx_ (cs := #[.slice A0_0 l0_0.length c0_0, .int .i64 a0_1, .bool a0_2]) (t := 52) ?_; intro qk hg w3 hbox hb; have qb := Aside0.mk (hbox); have ql := hz_ HB hg; have qm := hz_ HB hg; replace HB := bS_ HB hb; clear hb hbox hg; obtain ⟨qe, qf, qg, qh, qi, qj⟩ := b3_ qb) | ((with_reducible refine gate_callee (f := 112) rfl ?_); refine gL_ (some 5) Try.func112 #[.slice A0_0 l0_0.length c0_0, .int .i64 0] ?_; (with_reducible refine (spec_l2Gcd.calls k _ _ l0_0 0 qa _ ?side1 ?side2 A2.out).mono ?_); (case side1 => exact cb_ qc HB); (case side2 => exact qd.out); rintro e w5 ⟨rfl, hb⟩; refine ⟨_, rfl, ?_⟩; replace qb := kB_ qb hb; replace HB := bS_ HB hb; clear hb))
 go_ret
 exact rt_ (bb_ HB)

/-! ### spec_l2Way: function 113 -/
mutual
def spec_l2Way.l0 : Nat → Int → Int → Int → List Int → Int → Bool → List Int → Int → Bool → Option (Int)
 | 0, _, _, _, _, _, _, _, _, _ => none
 | k + 1, x5, x6, x7, x172000, x172001, x172002, x173000, x173001, x173002 => if x7 < (x172000.length : Int) then (spec_l2Way.j1 k x5 x6 x7 (decide (x7 < (x173000.length : Int))) x172000 x172001 x172002 x173000 x173001 x173002) else (spec_l2Way.j1 k x5 x6 x7 false x172000 x172001 x172002 x173000 x173001 x173002)
def spec_l2Way.j1 : Nat → Int → Int → Int → Bool → List Int → Int → Bool → List Int → Int → Bool → Option (Int)
 | 0, _, _, _, _, _, _, _, _, _, _ => none
 | k + 1, x5, x6, x7, x27, x172000, x172001, x172002, x173000, x173001, x173002 => if x27 = true then (if 0 ≤ x7 then (if x7 < (x172000.length : Int) then (if x5 = 0 then (none) else (if x7 < (x173000.length : Int) then (if x6 = 0 then (none) else (if (wrap64 (Int.tdiv (rd x172000 x7) x5)) = (wrap64 (Int.tdiv (rd x173000 x7) x6)) then (spec_l2Way.l0 k x5 x6 (wrap64 (x7 + 1)) x172000 x172001 x172002 x173000 x173001 x173002) else (if (wrap64 (Int.tdiv (rd x172000 x7) x5)) < (wrap64 (Int.tdiv (rd x173000 x7) x6)) then (some (-1)) else (some 1)))) else (none))) else (none)) else (none)) else (some 0)
end
def spec_l2Way.f (k : Nat) (l0_0 : List Int) (a0_1 : Int) (a0_2 : Bool) (l1_0 : List Int) (a1_1 : Int) (a1_2 : Bool) : Option (Int) := (spec_l2Steep.f k l0_0 a0_1 a0_2).bind fun qj => ((spec_l2Steep.f k l1_0 a1_1 a1_2).bind fun qh => (spec_l2Way.l0 k (mx 1 qj) (mx 1 qh) 0 l0_0 a0_1 a0_2 l1_0 a1_1 a1_2))
theorem spec_l2Way.mono_l : ∀ k, (∀ y0 y1 y2 y3 y4 y5 y6 y7 y8, LeO (spec_l2Way.l0 k y0 y1 y2 y3 y4 y5 y6 y7 y8) (spec_l2Way.l0 (k + 1) y0 y1 y2 y3 y4 y5 y6 y7 y8)) ∧ (∀ y0 y1 y2 y3 y4 y5 y6 y7 y8 y9, LeO (spec_l2Way.j1 k y0 y1 y2 y3 y4 y5 y6 y7 y8 y9) (spec_l2Way.j1 (k + 1) y0 y1 y2 y3 y4 y5 y6 y7 y8 y9))
 | 0 => ⟨fun _ _ _ _ _ _ _ _ _ r h => by simp [spec_l2Way.l0] at h, fun _ _ _ _ _ _ _ _ _ _ r h => by simp [spec_l2Way.j1] at h⟩
 | k + 1 => by
  obtain ⟨ih0, ih1⟩ := spec_l2Way.mono_l k
  refine ⟨?_, ?_⟩ <;> (intros; first | unfold spec_l2Way.l0 | unfold spec_l2Way.j1)
  all_goals
   repeat' first
   | (with_reducible exact ih0 _ _ _ _ _ _ _ _ _)
   | (with_reducible exact ih1 _ _ _ _ _ _ _ _ _ _)
   | (with_reducible exact spec_l2Steep.mono _ _ _ _)
   | (with_reducible exact LeO.refl _)
   | (with_reducible exact LeO.none _)
   | (with_reducible refine LeO.ite ?_ ?_)
   | (with_reducible refine LeO.bind ?_ (fun _ => ?_))
theorem spec_l2Way.mono : ∀ a0 a1 a2 a3 a4 a5 k, LeO (spec_l2Way.f k a0 a1 a2 a3 a4 a5) (spec_l2Way.f (k + 1) a0 a1 a2 a3 a4 a5) := by
 intro a0 a1 a2 a3 a4 a5 k
 obtain ⟨ih0, ih1⟩ := spec_l2Way.mono_l k
 unfold spec_l2Way.f
 repeat' first
   | (with_reducible exact ih0 _ _ _ _ _ _ _ _ _)
   | (with_reducible exact ih1 _ _ _ _ _ _ _ _ _ _)
   | (with_reducible exact spec_l2Steep.mono _ _ _ _)
   | (with_reducible exact LeO.refl _)
   | (with_reducible exact LeO.none _)
   | (with_reducible refine LeO.ite ?_ ?_)
   | (with_reducible refine LeO.bind ?_ (fun _ => ?_))
set_option maxHeartbeats 8000000 in
set_option maxRecDepth 100000 in
theorem spec_l2Way.calls (k : Nat) (A0_0 : Option Addr) (c0_0 : Nat) (l0_0 : List Int) (a0_1 : Int) (a0_2 : Bool) (A1_0 : Option Addr) (c1_0 : Nat) (l1_0 : List Int) (a1_1 : Int) (a1_2 : Bool) (r : Int) (w : World) (hr0_0 : Kd.C (Kd.int .i64) w A0_0 l0_0.length l0_0) (hc0_0 : l0_0.length ≤ c0_0) (hr1_0 : Kd.C (Kd.int .i64) w A1_0 l1_0.length l1_0) (hc1_0 : l1_0.length ≤ c1_0) (h : spec_l2Way.f k l0_0 a0_1 a0_2 l1_0 a1_1 a1_2 = some r) :
  Calls Try.prog 113 #[.agg #[.slice A0_0 l0_0.length c0_0, .int .i64 a0_1, .bool a0_2], .agg #[.slice A1_0 l1_0.length c1_0, .int .i64 a1_1, .bool a1_2]] w fun e w' => e = .returned (.int .i64 r) ∧ Below w.heap.size w w' := by
 have hu52 := Try.underlying52
 have ql := Aside0.mk hr0_0
 have qr := Aside0.mk hc0_0
 clear hr0_0 hc0_0
 have qm := Aside0.mk hr1_0
 have qs := Aside0.mk hc1_0
 clear hr1_0 hc1_0
 have HB := Aside0.mk (Below.refl w.heap.size w)
 have H : ((spec_l2Steep.f k l0_0 a0_1 a0_2).bind fun qj => ((spec_l2Steep.f k l1_0 a1_1 a1_2).bind fun qh => (spec_l2Way.l0 k (mx 1 qj) (mx 1 qh) 0 l0_0 a0_1 a0_2 l1_0 a1_1 a1_2))) = some r := h
 clear h
 replace H := be_ H
 obtain ⟨qj, A30, H⟩ := H
 have A3 := Aside0.mk A30
 clear A30
 obtain ⟨ji4, hji4⟩ : ∃ j_ : Int, (mx 1 qj) = j_ := ⟨_, rfl⟩
 replace H : ((spec_l2Steep.f k l1_0 a1_1 a1_2).bind fun qh => (spec_l2Way.l0 k ji4 (mx 1 qh) 0 l0_0 a0_1 a0_2 l1_0 a1_1 a1_2)) = some r := by first | (rw [hji4] at H; exact H) | (simp only [hji4] at H ⊢; exact H)
 (try rw [hji4] at A3)
 (try (have hji4l : 1 ≤ ji4 := by (rw [← hji4]; unfold mx; (repeat' split) <;> omega)))
 (try (have hji4m : 0 ≤ ji4 := by omega))
 have hji4_ : (if 1 < qj then qj else 1) = ji4 := hji4
 replace H := be_ H
 obtain ⟨qh, A50, H⟩ := H
 have A5 := Aside0.mk A50
 clear A50
 obtain ⟨ji6, hji6⟩ : ∃ j_ : Int, (mx 1 qh) = j_ := ⟨_, rfl⟩
 replace H : (spec_l2Way.l0 k ji4 ji6 0 l0_0 a0_1 a0_2 l1_0 a1_1 a1_2) = some r := by first | (rw [hji6] at H; exact H) | (simp only [hji6] at H ⊢; exact H)
 (try rw [hji6] at A3)
 (try rw [hji6] at A5)
 (try (have hji6l : 1 ≤ ji6 := by (rw [← hji6]; unfold mx; (repeat' split) <;> omega)))
 (try (have hji6m : 0 ≤ ji6 := by omega))
 have hji6_ : (if 1 < qh then qh else 1) = ji6 := hji6
 have H' := Aside0.mk H
 clear H
 go_enter Try.func113, Try.ntmps113
 go_wp2_with (first | ((with_reducible refine gate_dst (N := 2) rfl ?_); (try (refine gate_guard (by rfl) ?_; dsimp only)); refine bx_ (cs := #[.slice A0_0 l0_0.length c0_0, .int .i64 a0_1, .bool a0_2]) (t := 52) ?_; intro qn hg w7 hbox hb; have qb := Aside0.mk (hbox); have zA := hz_ HB hg; have zB := hz_ HB hg; replace HB := bS_ HB hb; clear hb hbox hg) | ((with_reducible refine gate_dst (N := 3) rfl ?_); (try (refine gate_guard (by rfl) ?_; dsimp only)); refine bx_ (cs := #[.slice A1_0 l1_0.length c1_0, .int .i64 a1_1, .bool a1_2]) (t := 52) ?_; intro qo hg w8 hbox hb; have qe := Aside0.mk (hbox); have zC := hz_ HB hg; have zD := hz_ HB hg; replace HB := bS_ HB hb; have qc := nL_ qb hg; have qd := nG_ qb hg; replace qb := kB_ qb hb; clear hb hbox hg; have zV := qc.out; have zW := qd.out; obtain ⟨qw, qx, qy, qz, qA, qB⟩ := b3_ qb) | ((with_reducible refine gate_callee (f := 124) rfl ?_); refine gL_ (some 11) Try.func124 #[.agg #[.slice A0_0 l0_0.length c0_0, .int .i64 a0_1, .bool a0_2]] ?_; (with_reducible refine (spec_l2Steep.calls k _ _ l0_0 a0_1 a0_2 qj _ ?side1 ?side2 A3.out).mono ?_); (case side1 => exact cb_ ql HB); (case side2 => exact qr.out); rintro e zX ⟨rfl, hb⟩; refine ⟨_, rfl, ?_⟩; replace qb := kB_ qb hb; replace qe := kB_ qe hb; replace HB := bS_ HB hb; clear hb; obtain ⟨qC, qD, qE, qF, qG, qH⟩ := b3_ qe) | ((with_reducible refine gate_callee (f := 124) rfl ?_); refine gL_ (some 14) Try.func124 #[.agg #[.slice A1_0 l1_0.length c1_0, .int .i64 a1_1, .bool a1_2]] ?_; (with_reducible refine (spec_l2Steep.calls k _ _ l1_0 a1_1 a1_2 qh _ ?side1 ?side2 A5.out).mono ?_); (case side1 => exact cb_ qm HB); (case side2 => exact qs.out); rintro e zY ⟨rfl, hb⟩; refine ⟨_, rfl, ?_⟩; replace qb := kB_ qb hb; replace qe := kB_ qe hb; replace HB := bS_ HB hb; clear hb))
 go_loopg [7] k (fun kq v7 w' => ∃ (qa : Int), v7 = .int .i64 qa ∧ Aside0 (spec_l2Way.l0 kq ji4 ji6 qa l0_0 a0_1 a0_2 l1_0 a1_1 a1_2 = some r) ∧ Aside0 (kq ≤ k) ∧ Aside0 (w'.heap[qn]? = some (.cells #[(.slice A0_0 l0_0.length c0_0), .int .i64 a0_1, .bool a0_2] 52 (0, 0))) ∧ Aside0 (w'.heap[qo]? = some (.cells #[(.slice A1_0 l1_0.length c1_0), .int .i64 a1_1, .bool a1_2] 52 (0, 0))) ∧ Aside0 (Below w.heap.size w w'))
 case atStart => exact ⟨(0), (by first | rfl | (simp; done) | (simp [*]; done)), H', ⟨Nat.le_refl _⟩, ⟨kf_ qb⟩, ⟨kf_ qe⟩, ⟨bb_ HB⟩⟩
 clear H'
 obtain ⟨qa, rfl, HA, HK1, qb, qe, HB⟩ := hrel
 cases gk with
 | zero => exact absurd HA.out (by simp [spec_l2Way.l0])
 | succ k1 =>
  have H := HA.out
  clear HA
  simp only [spec_l2Way.l0] at H
  have HC14 := Aside0.mk H
  clear H
  go_upto_region 4 with (fail)
  go_cut [27] (fun v27 wc => ∃ (kq : Nat) (qi : Bool), v27 = .bool qi ∧ Aside0 (spec_l2Way.j1 kq ji4 ji6 qa qi l0_0 a0_1 a0_2 l1_0 a1_1 a1_2 = some r) ∧ Aside0 (kq ≤ k1) ∧ Aside0 (wc.heap[qn]? = some (.cells #[(.slice A0_0 l0_0.length c0_0), .int .i64 a0_1, .bool a0_2] 52 (0, 0))) ∧ Aside0 (wc.heap[qo]? = some (.cells #[(.slice A1_0 l1_0.length c1_0), .int .i64 a1_1, .bool a1_2] 52 (0, 0))) ∧ Aside0 (Below w.heap.size w wc))
  case first =>
   have H := HC14.out
   clear HC14
   by_cases c15 : qa < (l0_0.length : Int)
   rotate_left
   ·
    rw [if_neg c15] at H
    have qk : decide (qa < (l0_0.length : Int)) = false := decide_eq_false c15
    clear c15
    (first | rw [qk] | (simp only [i64_w, i32_w]; rw [qk]) | skip)
    have H' := Aside0.mk H
    clear H
    have zE := qc.out
    have zF := qd.out
    obtain ⟨qI, qJ, qK, qL, qM, qN⟩ := b3_ qb
    go_wp2
    go_meet
    case rel => exact ⟨_, (false), (by first | rfl | (simp; done) | (simp [*]; done)), H', ⟨by have := HK1.out; first | omega | exact Nat.le_refl _⟩, ⟨kf_ qb⟩, ⟨kf_ qe⟩, ⟨bb_ HB⟩⟩
   rw [if_pos c15] at H
   have qk : decide (qa < (l0_0.length : Int)) = true := decide_eq_true c15
   clear c15
   (first | rw [qk] | (simp only [i64_w, i32_w]; rw [qk]) | skip)
   have H' := Aside0.mk H
   clear H
   have zG := qc.out
   have zH := qd.out
   obtain ⟨qO, qP, qQ, qR, qS, qT⟩ := b3_ qb
   obtain ⟨qU, qV, qW, qX, qY, qZ⟩ := b3_ qe
   go_wp2
   go_meet
   case rel => exact ⟨_, (decide (qa < (l1_0.length : Int))), (by first | rfl | (simp; done) | (simp [*]; done)), H', ⟨by have := HK1.out; first | omega | exact Nat.le_refl _⟩, ⟨kf_ qb⟩, ⟨kf_ qe⟩, ⟨bb_ HB⟩⟩
  clear HC14
  obtain ⟨kq, qi, rfl, HA, HJ13, qb, qe, HB⟩ := hcut
  cases kq with
  | zero => exact absurd HA.out (by simp [spec_l2Way.j1])
  | succ kj13 =>
   have H := HA.out
   clear HA
   simp only [spec_l2Way.j1] at H
   by_cases c21 : qi = true
   rotate_left
   ·
    replace c21 := Bool.eq_false_iff.mpr c21
    subst c21
    have H1 : (some 0) = some r := by rw [if_neg (show ¬ (false = true) by decide)] at H; exact H
    clear H
    have H := H1
    clear H1
    obtain rfl := Option.some.inj H
    go_wp2
    go_ret
    exact ⟨by first | rfl | (simp [errW_none, errW_some] <;> rfl) | (simp only [← hji4, ← hji6]; first | rfl | (simp [errW_none, errW_some] <;> rfl)) | (simp [*, errW_none, errW_some] <;> rfl), bb_ HB⟩
   subst c21
   have H1 : (if 0 ≤ qa then (if qa < (l0_0.length : Int) then (if ji4 = 0 then (none) else (if qa < (l1_0.length : Int) then (if ji6 = 0 then (none) else (if (wrap64 (Int.tdiv (rd l0_0 qa) ji4)) = (wrap64 (Int.tdiv (rd l1_0 qa) ji6)) then (spec_l2Way.l0 kj13 ji4 ji6 (wrap64 (qa + 1)) l0_0 a0_1 a0_2 l1_0 a1_1 a1_2) else (if (wrap64 (Int.tdiv (rd l0_0 qa) ji4)) < (wrap64 (Int.tdiv (rd l1_0 qa) ji6)) then (some (-1)) else (some 1)))) else (none))) else (none)) else (none)) = some r := by rw [if_pos rfl] at H; exact H
   clear H
   have H := H1
   clear H1
   replace H := ip_ H
   obtain ⟨c22, H⟩ := H
   have zI : decide (0 ≤ qa) = true := decide_eq_true c22
   clear c22
   replace H := ip_ H
   obtain ⟨c23, H⟩ := H
   have zJ : decide (qa < (l0_0.length : Int)) = true := decide_eq_true c23
   clear c23
   by_cases c24 : ji4 = 0
   ·
    rw [if_pos c24] at H
    exact absurd H (by simp)
   rw [if_neg c24] at H
   have zK : (ji4 == 0) = false := beq_eq_false_iff_ne.mpr c24
   have zL : (ji4 != 0) = true := bne_iff_ne.mpr c24
   replace H := ip_ H
   obtain ⟨c25, H⟩ := H
   have zM : decide (qa < (l1_0.length : Int)) = true := decide_eq_true c25
   clear c25
   by_cases c26 : ji6 = 0
   ·
    rw [if_pos c26] at H
    exact absurd H (by simp)
   rw [if_neg c26] at H
   have zN : (ji6 == 0) = false := beq_eq_false_iff_ne.mpr c26
   have zO : (ji6 != 0) = true := bne_iff_ne.mpr c26
   by_cases c27 : (wrap64 (Int.tdiv (rd l0_0 qa) ji4)) = (wrap64 (Int.tdiv (rd l1_0 qa) ji6))
   ·
    rw [if_pos c27] at H
    have qt : ((wrap64 (Int.tdiv (rd l0_0 qa) ji4)) == (wrap64 (Int.tdiv (rd l1_0 qa) ji6))) = true := beq_iff_eq.mpr c27
    have qu : ((wrap64 (Int.tdiv (rd l0_0 qa) ji4)) != (wrap64 (Int.tdiv (rd l1_0 qa) ji6))) = false := bne_eq_false_iff_eq.mpr c27
    clear c27
    have H' := Aside0.mk H
    clear H
    have zP := qc.out
    have zQ := qd.out
    obtain ⟨q0, q1, q2, q3, q4, q5⟩ := b3_ qb
    have p175 : 0 ≤ (qa : Int) := od_
    have q175 : qa < (l0_0.length : Int) := od_
    obtain ⟨qp, e175, qf⟩ := Kd.at_int ql.out qa p175 q175
    cases e175
    replace qf := ct_ HB qf
    replace p175 := eq_true p175
    replace q175 := eq_true q175
    obtain ⟨q6, q7, q8, q9, za, zb⟩ := b3_ qe
    have p176 : 0 ≤ (qa : Int) := od_
    have q176 : qa < (l1_0.length : Int) := od_
    obtain ⟨qq, e176, qg⟩ := Kd.at_int qm.out qa p176 q176
    cases e176
    replace qg := ct_ HB qg
    replace p176 := eq_true p176
    replace q176 := eq_true q176
    go_wp2
    go_roundg kj13
    case measure => have := HK1.out; have := HJ13.out; omega
    case rel => exact ⟨(wrap64 (qa + 1)), (by first | rfl | (simp; done) | (simp [*]; done)), H', ⟨by have := HK1.out; have := HJ13.out; omega⟩, ⟨kf_ qb⟩, ⟨kf_ qe⟩, ⟨bb_ HB⟩⟩
   rw [if_neg c27] at H
   have qt : ((wrap64 (Int.tdiv (rd l0_0 qa) ji4)) == (wrap64 (Int.tdiv (rd l1_0 qa) ji6))) = false := beq_eq_false_iff_ne.mpr c27
   have qu : ((wrap64 (Int.tdiv (rd l0_0 qa) ji4)) != (wrap64 (Int.tdiv (rd l1_0 qa) ji6))) = true := bne_iff_ne.mpr c27
   by_cases c31 : (wrap64 (Int.tdiv (rd l0_0 qa) ji4)) < (wrap64 (Int.tdiv (rd l1_0 qa) ji6))
   ·
    rw [if_pos c31] at H
    have qv : decide ((wrap64 (Int.tdiv (rd l0_0 qa) ji4)) < (wrap64 (Int.tdiv (rd l1_0 qa) ji6))) = true := decide_eq_true c31
    clear c31
    obtain rfl := Option.some.inj H
    have zR := qc.out
    have zS := qd.out
    obtain ⟨zc, zd, ze, zf, zg, zh⟩ := b3_ qb
    have p175 : 0 ≤ (qa : Int) := od_
    have q175 : qa < (l0_0.length : Int) := od_
    obtain ⟨qp, e175, qf⟩ := Kd.at_int ql.out qa p175 q175
    cases e175
    replace qf := ct_ HB qf
    replace p175 := eq_true p175
    replace q175 := eq_true q175
    obtain ⟨zi, zj, zk, zl, zm, zn⟩ := b3_ qe
    have p176 : 0 ≤ (qa : Int) := od_
    have q176 : qa < (l1_0.length : Int) := od_
    obtain ⟨qq, e176, qg⟩ := Kd.at_int qm.out qa p176 q176
    cases e176
    replace qg := ct_ HB qg
    replace p176 := eq_true p176
    replace q176 := eq_true q176
    go_wp2
    go_ret
    exact ⟨by first | rfl | (simp [errW_none, errW_some] <;> rfl) | (simp only [← hji4, ← hji6]; first | rfl | (simp [errW_none, errW_some] <;> rfl)) | (simp [*, errW_none, errW_some] <;> rfl), bb_ HB⟩
   rw [if_neg c31] at H
   have qv : decide ((wrap64 (Int.tdiv (rd l0_0 qa) ji4)) < (wrap64 (Int.tdiv (rd l1_0 qa) ji6))) = false := decide_eq_false c31
   clear c31
   obtain rfl := Option.some.inj H
   have zT := qc.out
   have zU := qd.out
   obtain ⟨zo, zp, zq, zr, zs, zt⟩ := b3_ qb
   have p175 : 0 ≤ (qa : Int) := od_
   have q175 : qa < (l0_0.length : Int) := od_
   obtain ⟨qp, e175, qf⟩ := Kd.at_int ql.out qa p175 q175
   cases e175
   replace qf := ct_ HB qf
   replace p175 := eq_true p175
   replace q175 := eq_true q175
   obtain ⟨zu, zv, zw, zx, zy, zz⟩ := b3_ qe
   have p176 : 0 ≤ (qa : Int) := od_
   have q176 : qa < (l1_0.length : Int) := od_
   obtain ⟨qq, e176, qg⟩ := Kd.at_int qm.out qa p176 q176
   cases e176
   replace qg := ct_ HB qg
   replace p176 := eq_true p176
   replace q176 := eq_true q176
   go_wp2
   go_ret
   exact ⟨by first | rfl | (simp [errW_none, errW_some] <;> rfl) | (simp only [← hji4, ← hji6]; first | rfl | (simp [errW_none, errW_some] <;> rfl)) | (simp [*, errW_none, errW_some] <;> rfl), bb_ HB⟩

/-! ### spec_l2Stronger: function 114 -/
def spec_l2Stronger.f (k : Nat) (l0_0 : List Int) (a0_1 : Int) (a0_2 : Bool) (l1_0 : List Int) (a1_1 : Int) (a1_2 : Bool) : Option (Bool) := (spec_l2Steep.f k l1_0 a1_1 a1_2).bind fun qh => ((spec_l2Steep.f k l0_0 a0_1 a0_2).bind fun qg => (if (wrap64 (a0_1 * (mx 1 qh))) > (wrap64 (a1_1 * (mx 1 qg))) then (some true) else (if (wrap64 (a0_1 * (mx 1 qh))) = (wrap64 (a1_1 * (mx 1 qg))) then (if a0_2 = true then (some true) else (some (!a1_2))) else (some false))))
theorem spec_l2Stronger.mono : ∀ a0 a1 a2 a3 a4 a5 k, LeO (spec_l2Stronger.f k a0 a1 a2 a3 a4 a5) (spec_l2Stronger.f (k + 1) a0 a1 a2 a3 a4 a5) := by
 intro a0 a1 a2 a3 a4 a5 k
 unfold spec_l2Stronger.f
 repeat' first
   | (with_reducible exact spec_l2Steep.mono _ _ _ _)
   | (with_reducible exact LeO.refl _)
   | (with_reducible exact LeO.none _)
   | (with_reducible refine LeO.ite ?_ ?_)
   | (with_reducible refine LeO.bind ?_ (fun _ => ?_))
set_option maxHeartbeats 8000000 in
set_option maxRecDepth 100000 in
theorem spec_l2Stronger.calls (k : Nat) (A0_0 : Option Addr) (c0_0 : Nat) (l0_0 : List Int) (a0_1 : Int) (a0_2 : Bool) (A1_0 : Option Addr) (c1_0 : Nat) (l1_0 : List Int) (a1_1 : Int) (a1_2 : Bool) (r : Bool) (w : World) (hr0_0 : Kd.C (Kd.int .i64) w A0_0 l0_0.length l0_0) (hc0_0 : l0_0.length ≤ c0_0) (hr1_0 : Kd.C (Kd.int .i64) w A1_0 l1_0.length l1_0) (hc1_0 : l1_0.length ≤ c1_0) (h : spec_l2Stronger.f k l0_0 a0_1 a0_2 l1_0 a1_1 a1_2 = some r) :
  Calls Try.prog 114 #[.agg #[.slice A0_0 l0_0.length c0_0, .int .i64 a0_1, .bool a0_2], .agg #[.slice A1_0 l1_0.length c1_0, .int .i64 a1_1, .bool a1_2]] w fun e w' => e = .returned (.bool r) ∧ Below w.heap.size w w' := by
 have hu52 := Try.underlying52
 have qi := Aside0.mk hr0_0
 have qj := Aside0.mk hc0_0
 clear hr0_0 hc0_0
 have qk := Aside0.mk hr1_0
 have ql := Aside0.mk hc1_0
 clear hr1_0 hc1_0
 have HB := Aside0.mk (Below.refl w.heap.size w)
 have H : ((spec_l2Steep.f k l1_0 a1_1 a1_2).bind fun qh => ((spec_l2Steep.f k l0_0 a0_1 a0_2).bind fun qg => (if (wrap64 (a0_1 * (mx 1 qh))) > (wrap64 (a1_1 * (mx 1 qg))) then (some true) else (if (wrap64 (a0_1 * (mx 1 qh))) = (wrap64 (a1_1 * (mx 1 qg))) then (if a0_2 = true then (some true) else (some (!a1_2))) else (some false))))) = some r := h
 clear h
 replace H := be_ H
 obtain ⟨qh, A30, H⟩ := H
 have A3 := Aside0.mk A30
 clear A30
 obtain ⟨ji4, hji4⟩ : ∃ j_ : Int, (mx 1 qh) = j_ := ⟨_, rfl⟩
 replace H : ((spec_l2Steep.f k l0_0 a0_1 a0_2).bind fun qg => (if (wrap64 (a0_1 * (ji4))) > (wrap64 (a1_1 * (mx 1 qg))) then (some true) else (if (wrap64 (a0_1 * (ji4))) = (wrap64 (a1_1 * (mx 1 qg))) then (if a0_2 = true then (some true) else (some (!a1_2))) else (some false)))) = some r := by first | (rw [hji4] at H; exact H) | (simp only [hji4] at H ⊢; exact H)
 (try rw [hji4] at A3)
 (try (have hji4l : 1 ≤ ji4 := by (rw [← hji4]; unfold mx; (repeat' split) <;> omega)))
 (try (have hji4m : 0 ≤ ji4 := by omega))
 have hji4_ : (if 1 < qh then qh else 1) = ji4 := hji4
 replace H := be_ H
 obtain ⟨qg, A50, H⟩ := H
 have A5 := Aside0.mk A50
 clear A50
 obtain ⟨ji6, hji6⟩ : ∃ j_ : Int, (mx 1 qg) = j_ := ⟨_, rfl⟩
 replace H : (if (wrap64 (a0_1 * (ji4))) > (wrap64 (a1_1 * (ji6))) then (some true) else (if (wrap64 (a0_1 * (ji4))) = (wrap64 (a1_1 * (ji6))) then (if a0_2 = true then (some true) else (some (!a1_2))) else (some false))) = some r := by first | (rw [hji6] at H; exact H) | (simp only [hji6] at H ⊢; exact H)
 (try rw [hji6] at A3)
 (try rw [hji6] at A5)
 (try (have hji6l : 1 ≤ ji6 := by (rw [← hji6]; unfold mx; (repeat' split) <;> omega)))
 (try (have hji6m : 0 ≤ ji6 := by omega))
 have hji6_ : (if 1 < qg then qg else 1) = ji6 := hji6
 by_cases c7 : (wrap64 (a0_1 * (ji4))) > (wrap64 (a1_1 * (ji6)))
 ·
  rw [if_pos c7] at H
  have qK : decide ((wrap64 (a1_1 * (ji6))) < (wrap64 (a0_1 * (ji4)))) = true := decide_eq_true c7
  clear c7
  obtain rfl := Option.some.inj H
  go_enter Try.func114, Try.ntmps114
  try go_wp2_with (first | ((with_reducible refine gate_dst (N := 2) rfl ?_); refine bx_ (cs := #[.slice A0_0 l0_0.length c0_0, .int .i64 a0_1, .bool a0_2]) (t := 52) ?_; intro qc hg w8 hbox hb; have qa := Aside0.mk (hbox); have qm := hz_ HB hg; have qn := hz_ HB hg; replace HB := bS_ HB hb; clear hb hbox hg) | ((with_reducible refine gate_dst (N := 3) rfl ?_); refine bx_ (cs := #[.slice A1_0 l1_0.length c1_0, .int .i64 a1_1, .bool a1_2]) (t := 52) ?_; intro qd hg w9 hbox hb; have qb := Aside0.mk (hbox); have qo := hz_ HB hg; have qp := hz_ HB hg; replace HB := bS_ HB hb; have qe := nL_ qa hg; have qf := nG_ qa hg; replace qa := kB_ qa hb; clear hb hbox hg))
  replace qa := Aside0.mk (blk_drew qa.out); replace qb := Aside0.mk (blk_drew qb.out); replace HB := Aside0.mk (below_drew1 HB.out)
  refine start_ (n := 7) (S := fun w' => w'.cell? ⟨qc, 0, none⟩ = some (.slice A0_0 l0_0.length c0_0) ∧ w'.cell? ⟨qc, 1, none⟩ = some (.int .i64 a0_1) ∧ w'.cell? ⟨qc, 2, none⟩ = some (.bool a0_2) ∧ w'.cell? ⟨qd, 0, none⟩ = some (.slice A1_0 l1_0.length c1_0) ∧ w'.cell? ⟨qd, 1, none⟩ = some (.int .i64 a1_1) ∧ w'.cell? ⟨qd, 2, none⟩ = some (.bool a1_2)) (ds := []) (fl_ 7 0) (by kernel_rfl) rfl rfl ⟨bc_ qa 0, bc_ qa 1, bc_ qa 2, bc_ qb 0, bc_ qb 1, bc_ qb 2⟩ (fun hHeld => ?_)
  generalize w9.drew = qW at qa qb HB hHeld ⊢
  refine pure_ (i := 0) (N := some 7) (v := ?_) (a' := ?_) (fl_ 7 1) rfl rfl (by kernel_rfl) (fun _ _ _ h => h) (Or.inl ⟨by rfl, ?_⟩) ?_ ?_
  rotate_left
  ·
   intro w'
   go_simp
   with_reducible rfl
  rotate_left
  ·
   simp only [Act.put, sa_, s0_, s1_, i64_w, i32_w]
   rfl
  refine take_ (i := 1) (N := some 8) (v := ?_) (a' := ?_) (fl_ 7 3) rfl rfl (by kernel_rfl) (fun _ _ _ h => h) (Or.inl ⟨by rfl, ?_⟩) hHeld ?_ ?_
  rotate_left
  ·
   rintro w' ⟨s0, s1, s2, s3, s4, s5⟩
   go_simp
   with_reducible rfl
  rotate_left
  ·
   simp only [Act.put, sa_, s0_, s1_, i64_w, i32_w]
   rfl
  refine take_ (i := 2) (N := some 9) (v := ?_) (a' := ?_) (fl_ 7 7) rfl rfl (by kernel_rfl) (fun _ _ _ h => h) (Or.inl ⟨by rfl, ?_⟩) hHeld ?_ ?_
  rotate_left
  ·
   rintro w' ⟨s0, s1, s2, s3, s4, s5⟩
   go_simp
   with_reducible rfl
  rotate_left
  ·
   simp only [Act.put, sa_, s0_, s1_, i64_w, i32_w]
   rfl
  refine one_ (i := 3) (N := some 10) (fl_ 7 15) rfl rfl (by kernel_rfl) (by decide) (fun K hK => ?_)
  refine goes_ Try.func124 (by kernel_rfl) rfl #[.agg #[.slice A1_0 l1_0.length c1_0, .int .i64 a1_1, .bool a1_2]] (by rfl) rfl rfl (by (try simp only [List.map_toArray, List.map_cons, List.map_nil]); first | done | rfl | (simp only [List.length_drop, List.length_take]; rfl)) ?_
  with_reducible refine (spec_l2Steep.calls k _ _ l1_0 a1_1 a1_2 qh _ ?side1 ?side2 A3.out).mono ?_
  (case side1 => exact cb_ qk HB)
  (case side2 => exact ql.out)
  rintro e qP ⟨rfl, hb⟩
  refine ⟨_, rfl, ?_⟩
  replace qa := kB_ qa hb; replace qb := kB_ qb hb; replace HB := bS_ HB hb; (try clear hb); (try clear hb2); (try clear hk); (try clear hi)
  refine hK.out _ _ ⟨bc_ qa 0, bc_ qa 1, bc_ qa 2, bc_ qb 0, bc_ qb 1, bc_ qb 2⟩ (fun hHeld => ?_)
  clear hK K
  refine norm_ (a' := ?_) ?_ ?_
  rotate_left
  ·
   show Act.put _ (some 10) _ = _
   simp only [Act.put, sa_, s0_, s1_, i64_w, i32_w]
   rfl
  refine pure_ (i := 4) (N := some 11) (v := ?_) (a' := ?_) (fl_ 7 31) rfl rfl (by kernel_rfl) (fun _ _ _ h => h) (Or.inl ⟨by rfl, ?_⟩) ?_ ?_
  rotate_left
  ·
   intro w'
   go_simp
   with_reducible rfl
  rotate_left
  ·
   simp only [Act.put, sa_, s0_, s1_, i64_w, i32_w]
   rfl
  refine pure_ (i := 5) (N := some 12) (v := ?_) (a' := ?_) (fl_ 7 63) rfl rfl (by kernel_rfl) (fun _ _ _ h => h) (Or.inl ⟨by rfl, ?_⟩) ?_ ?_
  rotate_left
  ·
   intro w'
   go_simp
   with_reducible rfl
  rotate_left
  ·
   simp only [Act.put, sa_, s0_, s1_, i64_w, i32_w]
   rfl
  refine pure_ (i := 6) (N := some 5) (v := ?_) (a' := ?_) (fl_ 7 127) rfl rfl (by kernel_rfl) (fun _ _ _ h => h) (Or.inl ⟨by rfl, ?_⟩) ?_ ?_
  rotate_left
  ·
   intro w'
   go_simp
   with_reducible rfl
  rotate_left
  ·
   simp only [Act.put, sa_, s0_, s1_, i64_w, i32_w]
   rfl
  refine done_ (by kernel_rfl) ?_
  try go_wp2
  replace qa := Aside0.mk (blk_drew qa.out); replace qb := Aside0.mk (blk_drew qb.out); replace HB := Aside0.mk (below_drew1 HB.out)
  refine start_ (n := 7) (S := fun w' => w'.cell? ⟨qd, 0, none⟩ = some (.slice A1_0 l1_0.length c1_0) ∧ w'.cell? ⟨qd, 1, none⟩ = some (.int .i64 a1_1) ∧ w'.cell? ⟨qd, 2, none⟩ = some (.bool a1_2) ∧ w'.cell? ⟨qc, 0, none⟩ = some (.slice A0_0 l0_0.length c0_0) ∧ w'.cell? ⟨qc, 1, none⟩ = some (.int .i64 a0_1) ∧ w'.cell? ⟨qc, 2, none⟩ = some (.bool a0_2)) (ds := []) (fl_ 7 0) (by kernel_rfl) rfl rfl ⟨bc_ qb 0, bc_ qb 1, bc_ qb 2, bc_ qa 0, bc_ qa 1, bc_ qa 2⟩ (fun hHeld => ?_)
  generalize qP.drew = qX at qa qb HB hHeld ⊢
  refine pure_ (i := 0) (N := some 13) (v := ?_) (a' := ?_) (fl_ 7 1) rfl rfl (by kernel_rfl) (fun _ _ _ h => h) (Or.inl ⟨by rfl, ?_⟩) ?_ ?_
  rotate_left
  ·
   intro w'
   go_simp
   with_reducible rfl
  rotate_left
  ·
   simp only [Act.put, sa_, s0_, s1_, i64_w, i32_w]
   rfl
  refine take_ (i := 1) (N := some 14) (v := ?_) (a' := ?_) (fl_ 7 3) rfl rfl (by kernel_rfl) (fun _ _ _ h => h) (Or.inl ⟨by rfl, ?_⟩) hHeld ?_ ?_
  rotate_left
  ·
   rintro w' ⟨s0, s1, s2, s3, s4, s5⟩
   go_simp
   with_reducible rfl
  rotate_left
  ·
   simp only [Act.put, sa_, s0_, s1_, i64_w, i32_w]
   rfl
  refine take_ (i := 2) (N := some 15) (v := ?_) (a' := ?_) (fl_ 7 7) rfl rfl (by kernel_rfl) (fun _ _ _ h => h) (Or.inl ⟨by rfl, ?_⟩) hHeld ?_ ?_
  rotate_left
  ·
   rintro w' ⟨s0, s1, s2, s3, s4, s5⟩
   go_simp
   with_reducible rfl
  rotate_left
  ·
   simp only [Act.put, sa_, s0_, s1_, i64_w, i32_w]
   rfl
  refine one_ (i := 3) (N := some 16) (fl_ 7 15) rfl rfl (by kernel_rfl) (by decide) (fun K hK => ?_)
  refine goes_ Try.func124 (by kernel_rfl) rfl #[.agg #[.slice A0_0 l0_0.length c0_0, .int .i64 a0_1, .bool a0_2]] (by rfl) rfl rfl (by (try simp only [List.map_toArray, List.map_cons, List.map_nil]); first | done | rfl | (simp only [List.length_drop, List.length_take]; rfl)) ?_
  with_reducible refine (spec_l2Steep.calls k _ _ l0_0 a0_1 a0_2 qg _ ?side1 ?side2 A5.out).mono ?_
  (case side1 => exact cb_ qi HB)
  (case side2 => exact qj.out)
  rintro e qY ⟨rfl, hb⟩
  refine ⟨_, rfl, ?_⟩
  replace qa := kB_ qa hb; replace qb := kB_ qb hb; replace HB := bS_ HB hb; (try clear hb); (try clear hb2); (try clear hk); (try clear hi)
  refine hK.out _ _ ⟨bc_ qb 0, bc_ qb 1, bc_ qb 2, bc_ qa 0, bc_ qa 1, bc_ qa 2⟩ (fun hHeld => ?_)
  clear hK K
  refine norm_ (a' := ?_) ?_ ?_
  rotate_left
  ·
   show Act.put _ (some 16) _ = _
   simp only [Act.put, sa_, s0_, s1_, i64_w, i32_w]
   rfl
  refine pure_ (i := 4) (N := some 17) (v := ?_) (a' := ?_) (fl_ 7 31) rfl rfl (by kernel_rfl) (fun _ _ _ h => h) (Or.inl ⟨by rfl, ?_⟩) ?_ ?_
  rotate_left
  ·
   intro w'
   go_simp
   with_reducible rfl
  rotate_left
  ·
   simp only [Act.put, sa_, s0_, s1_, i64_w, i32_w]
   rfl
  refine pure_ (i := 5) (N := some 18) (v := ?_) (a' := ?_) (fl_ 7 63) rfl rfl (by kernel_rfl) (fun _ _ _ h => h) (Or.inl ⟨by rfl, ?_⟩) ?_ ?_
  rotate_left
  ·
   intro w'
   go_simp
   with_reducible rfl
  rotate_left
  ·
   simp only [Act.put, sa_, s0_, s1_, i64_w, i32_w]
   rfl
  refine pure_ (i := 6) (N := some 6) (v := ?_) (a' := ?_) (fl_ 7 127) rfl rfl (by kernel_rfl) (fun _ _ _ h => h) (Or.inl ⟨by rfl, ?_⟩) ?_ ?_
  rotate_left
  ·
   intro w'
   go_simp
   with_reducible rfl
  rotate_left
  ·
   simp only [Act.put, sa_, s0_, s1_, i64_w, i32_w]
   rfl
  refine done_ (by kernel_rfl) ?_
  try go_wp2
  go_ret
  exact ⟨by first | rfl | (simp [errW_none, errW_some] <;> rfl) | (simp only [← hji4, ← hji6]; first | rfl | (simp [errW_none, errW_some] <;> rfl)) | (simp [*, errW_none, errW_some] <;> rfl), bb_ HB⟩
 rw [if_neg c7] at H
 have qK : decide ((wrap64 (a1_1 * (ji6))) < (wrap64 (a0_1 * (ji4)))) = false := decide_eq_false c7
 clear c7
 by_cases c14 : (wrap64 (a0_1 * (ji4))) = (wrap64 (a1_1 * (ji6)))
 rotate_left
 ·
  rw [if_neg c14] at H
  have qq : ((wrap64 (a0_1 * (ji4))) == (wrap64 (a1_1 * (ji6)))) = false := beq_eq_false_iff_ne.mpr c14
  have qr : ((wrap64 (a0_1 * (ji4))) != (wrap64 (a1_1 * (ji6)))) = true := bne_iff_ne.mpr c14
  obtain rfl := Option.some.inj H
  go_enter Try.func114, Try.ntmps114
  try go_wp2_with (first | ((with_reducible refine gate_dst (N := 2) rfl ?_); refine bx_ (cs := #[.slice A0_0 l0_0.length c0_0, .int .i64 a0_1, .bool a0_2]) (t := 52) ?_; intro qc hg qZ hbox hb; have qa := Aside0.mk (hbox); have qm := hz_ HB hg; have qn := hz_ HB hg; replace HB := bS_ HB hb; clear hb hbox hg) | ((with_reducible refine gate_dst (N := 3) rfl ?_); refine bx_ (cs := #[.slice A1_0 l1_0.length c1_0, .int .i64 a1_1, .bool a1_2]) (t := 52) ?_; intro qd hg qQ hbox hb; have qb := Aside0.mk (hbox); have qo := hz_ HB hg; have qp := hz_ HB hg; replace HB := bS_ HB hb; have qe := nL_ qa hg; have qf := nG_ qa hg; replace qa := kB_ qa hb; clear hb hbox hg))
  replace qa := Aside0.mk (blk_drew qa.out); replace qb := Aside0.mk (blk_drew qb.out); replace HB := Aside0.mk (below_drew1 HB.out)
  refine start_ (n := 7) (S := fun w' => w'.cell? ⟨qc, 0, none⟩ = some (.slice A0_0 l0_0.length c0_0) ∧ w'.cell? ⟨qc, 1, none⟩ = some (.int .i64 a0_1) ∧ w'.cell? ⟨qc, 2, none⟩ = some (.bool a0_2) ∧ w'.cell? ⟨qd, 0, none⟩ = some (.slice A1_0 l1_0.length c1_0) ∧ w'.cell? ⟨qd, 1, none⟩ = some (.int .i64 a1_1) ∧ w'.cell? ⟨qd, 2, none⟩ = some (.bool a1_2)) (ds := []) (fl_ 7 0) (by kernel_rfl) rfl rfl ⟨bc_ qa 0, bc_ qa 1, bc_ qa 2, bc_ qb 0, bc_ qb 1, bc_ qb 2⟩ (fun hHeld => ?_)
  generalize qQ.drew = q0 at qa qb HB hHeld ⊢
  refine pure_ (i := 0) (N := some 7) (v := ?_) (a' := ?_) (fl_ 7 1) rfl rfl (by kernel_rfl) (fun _ _ _ h => h) (Or.inl ⟨by rfl, ?_⟩) ?_ ?_
  rotate_left
  ·
   intro w'
   go_simp
   with_reducible rfl
  rotate_left
  ·
   simp only [Act.put, sa_, s0_, s1_, i64_w, i32_w]
   rfl
  refine take_ (i := 1) (N := some 8) (v := ?_) (a' := ?_) (fl_ 7 3) rfl rfl (by kernel_rfl) (fun _ _ _ h => h) (Or.inl ⟨by rfl, ?_⟩) hHeld ?_ ?_
  rotate_left
  ·
   rintro w' ⟨s0, s1, s2, s3, s4, s5⟩
   go_simp
   with_reducible rfl
  rotate_left
  ·
   simp only [Act.put, sa_, s0_, s1_, i64_w, i32_w]
   rfl
  refine take_ (i := 2) (N := some 9) (v := ?_) (a' := ?_) (fl_ 7 7) rfl rfl (by kernel_rfl) (fun _ _ _ h => h) (Or.inl ⟨by rfl, ?_⟩) hHeld ?_ ?_
  rotate_left
  ·
   rintro w' ⟨s0, s1, s2, s3, s4, s5⟩
   go_simp
   with_reducible rfl
  rotate_left
  ·
   simp only [Act.put, sa_, s0_, s1_, i64_w, i32_w]
   rfl
  refine one_ (i := 3) (N := some 10) (fl_ 7 15) rfl rfl (by kernel_rfl) (by decide) (fun K hK => ?_)
  refine goes_ Try.func124 (by kernel_rfl) rfl #[.agg #[.slice A1_0 l1_0.length c1_0, .int .i64 a1_1, .bool a1_2]] (by rfl) rfl rfl (by (try simp only [List.map_toArray, List.map_cons, List.map_nil]); first | done | rfl | (simp only [List.length_drop, List.length_take]; rfl)) ?_
  with_reducible refine (spec_l2Steep.calls k _ _ l1_0 a1_1 a1_2 qh _ ?side1 ?side2 A3.out).mono ?_
  (case side1 => exact cb_ qk HB)
  (case side2 => exact ql.out)
  rintro e qR ⟨rfl, hb⟩
  refine ⟨_, rfl, ?_⟩
  replace qa := kB_ qa hb; replace qb := kB_ qb hb; replace HB := bS_ HB hb; (try clear hb); (try clear hb2); (try clear hk); (try clear hi)
  refine hK.out _ _ ⟨bc_ qa 0, bc_ qa 1, bc_ qa 2, bc_ qb 0, bc_ qb 1, bc_ qb 2⟩ (fun hHeld => ?_)
  clear hK K
  refine norm_ (a' := ?_) ?_ ?_
  rotate_left
  ·
   show Act.put _ (some 10) _ = _
   simp only [Act.put, sa_, s0_, s1_, i64_w, i32_w]
   rfl
  refine pure_ (i := 4) (N := some 11) (v := ?_) (a' := ?_) (fl_ 7 31) rfl rfl (by kernel_rfl) (fun _ _ _ h => h) (Or.inl ⟨by rfl, ?_⟩) ?_ ?_
  rotate_left
  ·
   intro w'
   go_simp
   with_reducible rfl
  rotate_left
  ·
   simp only [Act.put, sa_, s0_, s1_, i64_w, i32_w]
   rfl
  refine pure_ (i := 5) (N := some 12) (v := ?_) (a' := ?_) (fl_ 7 63) rfl rfl (by kernel_rfl) (fun _ _ _ h => h) (Or.inl ⟨by rfl, ?_⟩) ?_ ?_
  rotate_left
  ·
   intro w'
   go_simp
   with_reducible rfl
  rotate_left
  ·
   simp only [Act.put, sa_, s0_, s1_, i64_w, i32_w]
   rfl
  refine pure_ (i := 6) (N := some 5) (v := ?_) (a' := ?_) (fl_ 7 127) rfl rfl (by kernel_rfl) (fun _ _ _ h => h) (Or.inl ⟨by rfl, ?_⟩) ?_ ?_
  rotate_left
  ·
   intro w'
   go_simp
   with_reducible rfl
  rotate_left
  ·
   simp only [Act.put, sa_, s0_, s1_, i64_w, i32_w]
   rfl
  refine done_ (by kernel_rfl) ?_
  try go_wp2
  replace qa := Aside0.mk (blk_drew qa.out); replace qb := Aside0.mk (blk_drew qb.out); replace HB := Aside0.mk (below_drew1 HB.out)
  refine start_ (n := 7) (S := fun w' => w'.cell? ⟨qd, 0, none⟩ = some (.slice A1_0 l1_0.length c1_0) ∧ w'.cell? ⟨qd, 1, none⟩ = some (.int .i64 a1_1) ∧ w'.cell? ⟨qd, 2, none⟩ = some (.bool a1_2) ∧ w'.cell? ⟨qc, 0, none⟩ = some (.slice A0_0 l0_0.length c0_0) ∧ w'.cell? ⟨qc, 1, none⟩ = some (.int .i64 a0_1) ∧ w'.cell? ⟨qc, 2, none⟩ = some (.bool a0_2)) (ds := []) (fl_ 7 0) (by kernel_rfl) rfl rfl ⟨bc_ qb 0, bc_ qb 1, bc_ qb 2, bc_ qa 0, bc_ qa 1, bc_ qa 2⟩ (fun hHeld => ?_)
  generalize qR.drew = q1 at qa qb HB hHeld ⊢
  refine pure_ (i := 0) (N := some 13) (v := ?_) (a' := ?_) (fl_ 7 1) rfl rfl (by kernel_rfl) (fun _ _ _ h => h) (Or.inl ⟨by rfl, ?_⟩) ?_ ?_
  rotate_left
  ·
   intro w'
   go_simp
   with_reducible rfl
  rotate_left
  ·
   simp only [Act.put, sa_, s0_, s1_, i64_w, i32_w]
   rfl
  refine take_ (i := 1) (N := some 14) (v := ?_) (a' := ?_) (fl_ 7 3) rfl rfl (by kernel_rfl) (fun _ _ _ h => h) (Or.inl ⟨by rfl, ?_⟩) hHeld ?_ ?_
  rotate_left
  ·
   rintro w' ⟨s0, s1, s2, s3, s4, s5⟩
   go_simp
   with_reducible rfl
  rotate_left
  ·
   simp only [Act.put, sa_, s0_, s1_, i64_w, i32_w]
   rfl
  refine take_ (i := 2) (N := some 15) (v := ?_) (a' := ?_) (fl_ 7 7) rfl rfl (by kernel_rfl) (fun _ _ _ h => h) (Or.inl ⟨by rfl, ?_⟩) hHeld ?_ ?_
  rotate_left
  ·
   rintro w' ⟨s0, s1, s2, s3, s4, s5⟩
   go_simp
   with_reducible rfl
  rotate_left
  ·
   simp only [Act.put, sa_, s0_, s1_, i64_w, i32_w]
   rfl
  refine one_ (i := 3) (N := some 16) (fl_ 7 15) rfl rfl (by kernel_rfl) (by decide) (fun K hK => ?_)
  refine goes_ Try.func124 (by kernel_rfl) rfl #[.agg #[.slice A0_0 l0_0.length c0_0, .int .i64 a0_1, .bool a0_2]] (by rfl) rfl rfl (by (try simp only [List.map_toArray, List.map_cons, List.map_nil]); first | done | rfl | (simp only [List.length_drop, List.length_take]; rfl)) ?_
  with_reducible refine (spec_l2Steep.calls k _ _ l0_0 a0_1 a0_2 qg _ ?side1 ?side2 A5.out).mono ?_
  (case side1 => exact cb_ qi HB)
  (case side2 => exact qj.out)
  rintro e q2 ⟨rfl, hb⟩
  refine ⟨_, rfl, ?_⟩
  replace qa := kB_ qa hb; replace qb := kB_ qb hb; replace HB := bS_ HB hb; (try clear hb); (try clear hb2); (try clear hk); (try clear hi)
  refine hK.out _ _ ⟨bc_ qb 0, bc_ qb 1, bc_ qb 2, bc_ qa 0, bc_ qa 1, bc_ qa 2⟩ (fun hHeld => ?_)
  clear hK K
  refine norm_ (a' := ?_) ?_ ?_
  rotate_left
  ·
   show Act.put _ (some 16) _ = _
   simp only [Act.put, sa_, s0_, s1_, i64_w, i32_w]
   rfl
  refine pure_ (i := 4) (N := some 17) (v := ?_) (a' := ?_) (fl_ 7 31) rfl rfl (by kernel_rfl) (fun _ _ _ h => h) (Or.inl ⟨by rfl, ?_⟩) ?_ ?_
  rotate_left
  ·
   intro w'
   go_simp
   with_reducible rfl
  rotate_left
  ·
   simp only [Act.put, sa_, s0_, s1_, i64_w, i32_w]
   rfl
  refine pure_ (i := 5) (N := some 18) (v := ?_) (a' := ?_) (fl_ 7 63) rfl rfl (by kernel_rfl) (fun _ _ _ h => h) (Or.inl ⟨by rfl, ?_⟩) ?_ ?_
  rotate_left
  ·
   intro w'
   go_simp
   with_reducible rfl
  rotate_left
  ·
   simp only [Act.put, sa_, s0_, s1_, i64_w, i32_w]
   rfl
  refine pure_ (i := 6) (N := some 6) (v := ?_) (a' := ?_) (fl_ 7 127) rfl rfl (by kernel_rfl) (fun _ _ _ h => h) (Or.inl ⟨by rfl, ?_⟩) ?_ ?_
  rotate_left
  ·
   intro w'
   go_simp
   with_reducible rfl
  rotate_left
  ·
   simp only [Act.put, sa_, s0_, s1_, i64_w, i32_w]
   rfl
  refine done_ (by kernel_rfl) ?_
  try go_wp2
  go_ret
  exact ⟨by first | rfl | (simp [errW_none, errW_some] <;> rfl) | (simp only [← hji4, ← hji6]; first | rfl | (simp [errW_none, errW_some] <;> rfl)) | (simp [*, errW_none, errW_some] <;> rfl), bb_ HB⟩
 rw [if_pos c14] at H
 have qq : ((wrap64 (a0_1 * (ji4))) == (wrap64 (a1_1 * (ji6)))) = true := beq_iff_eq.mpr c14
 have qr : ((wrap64 (a0_1 * (ji4))) != (wrap64 (a1_1 * (ji6)))) = false := bne_eq_false_iff_eq.mpr c14
 clear c14
 by_cases c15 : a0_2 = true
 ·
  subst c15
  have H1 : (some true) = some r := by rw [if_pos rfl] at H; exact H
  clear H
  have H := H1
  clear H1
  obtain rfl := Option.some.inj H
  go_enter Try.func114, Try.ntmps114
  try go_wp2_with (first | ((with_reducible refine gate_dst (N := 2) rfl ?_); refine bx_ (cs := #[.slice A0_0 l0_0.length c0_0, .int .i64 a0_1, .bool true]) (t := 52) ?_; intro qc hg q3 hbox hb; have qa := Aside0.mk (hbox); have qm := hz_ HB hg; have qn := hz_ HB hg; replace HB := bS_ HB hb; clear hb hbox hg) | ((with_reducible refine gate_dst (N := 3) rfl ?_); refine bx_ (cs := #[.slice A1_0 l1_0.length c1_0, .int .i64 a1_1, .bool a1_2]) (t := 52) ?_; intro qd hg qS hbox hb; have qb := Aside0.mk (hbox); have qo := hz_ HB hg; have qp := hz_ HB hg; replace HB := bS_ HB hb; have qe := nL_ qa hg; have qf := nG_ qa hg; replace qa := kB_ qa hb; clear hb hbox hg))
  replace qa := Aside0.mk (blk_drew qa.out); replace qb := Aside0.mk (blk_drew qb.out); replace HB := Aside0.mk (below_drew1 HB.out)
  refine start_ (n := 7) (S := fun w' => w'.cell? ⟨qc, 0, none⟩ = some (.slice A0_0 l0_0.length c0_0) ∧ w'.cell? ⟨qc, 1, none⟩ = some (.int .i64 a0_1) ∧ w'.cell? ⟨qc, 2, none⟩ = some (.bool true) ∧ w'.cell? ⟨qd, 0, none⟩ = some (.slice A1_0 l1_0.length c1_0) ∧ w'.cell? ⟨qd, 1, none⟩ = some (.int .i64 a1_1) ∧ w'.cell? ⟨qd, 2, none⟩ = some (.bool a1_2)) (ds := []) (fl_ 7 0) (by kernel_rfl) rfl rfl ⟨bc_ qa 0, bc_ qa 1, bc_ qa 2, bc_ qb 0, bc_ qb 1, bc_ qb 2⟩ (fun hHeld => ?_)
  generalize qS.drew = q4 at qa qb HB hHeld ⊢
  refine pure_ (i := 0) (N := some 7) (v := ?_) (a' := ?_) (fl_ 7 1) rfl rfl (by kernel_rfl) (fun _ _ _ h => h) (Or.inl ⟨by rfl, ?_⟩) ?_ ?_
  rotate_left
  ·
   intro w'
   go_simp
   with_reducible rfl
  rotate_left
  ·
   simp only [Act.put, sa_, s0_, s1_, i64_w, i32_w]
   rfl
  refine take_ (i := 1) (N := some 8) (v := ?_) (a' := ?_) (fl_ 7 3) rfl rfl (by kernel_rfl) (fun _ _ _ h => h) (Or.inl ⟨by rfl, ?_⟩) hHeld ?_ ?_
  rotate_left
  ·
   rintro w' ⟨s0, s1, s2, s3, s4, s5⟩
   go_simp
   with_reducible rfl
  rotate_left
  ·
   simp only [Act.put, sa_, s0_, s1_, i64_w, i32_w]
   rfl
  refine take_ (i := 2) (N := some 9) (v := ?_) (a' := ?_) (fl_ 7 7) rfl rfl (by kernel_rfl) (fun _ _ _ h => h) (Or.inl ⟨by rfl, ?_⟩) hHeld ?_ ?_
  rotate_left
  ·
   rintro w' ⟨s0, s1, s2, s3, s4, s5⟩
   go_simp
   with_reducible rfl
  rotate_left
  ·
   simp only [Act.put, sa_, s0_, s1_, i64_w, i32_w]
   rfl
  refine one_ (i := 3) (N := some 10) (fl_ 7 15) rfl rfl (by kernel_rfl) (by decide) (fun K hK => ?_)
  refine goes_ Try.func124 (by kernel_rfl) rfl #[.agg #[.slice A1_0 l1_0.length c1_0, .int .i64 a1_1, .bool a1_2]] (by rfl) rfl rfl (by (try simp only [List.map_toArray, List.map_cons, List.map_nil]); first | done | rfl | (simp only [List.length_drop, List.length_take]; rfl)) ?_
  with_reducible refine (spec_l2Steep.calls k _ _ l1_0 a1_1 a1_2 qh _ ?side1 ?side2 A3.out).mono ?_
  (case side1 => exact cb_ qk HB)
  (case side2 => exact ql.out)
  rintro e qT ⟨rfl, hb⟩
  refine ⟨_, rfl, ?_⟩
  replace qa := kB_ qa hb; replace qb := kB_ qb hb; replace HB := bS_ HB hb; (try clear hb); (try clear hb2); (try clear hk); (try clear hi)
  refine hK.out _ _ ⟨bc_ qa 0, bc_ qa 1, bc_ qa 2, bc_ qb 0, bc_ qb 1, bc_ qb 2⟩ (fun hHeld => ?_)
  clear hK K
  refine norm_ (a' := ?_) ?_ ?_
  rotate_left
  ·
   show Act.put _ (some 10) _ = _
   simp only [Act.put, sa_, s0_, s1_, i64_w, i32_w]
   rfl
  refine pure_ (i := 4) (N := some 11) (v := ?_) (a' := ?_) (fl_ 7 31) rfl rfl (by kernel_rfl) (fun _ _ _ h => h) (Or.inl ⟨by rfl, ?_⟩) ?_ ?_
  rotate_left
  ·
   intro w'
   go_simp
   with_reducible rfl
  rotate_left
  ·
   simp only [Act.put, sa_, s0_, s1_, i64_w, i32_w]
   rfl
  refine pure_ (i := 5) (N := some 12) (v := ?_) (a' := ?_) (fl_ 7 63) rfl rfl (by kernel_rfl) (fun _ _ _ h => h) (Or.inl ⟨by rfl, ?_⟩) ?_ ?_
  rotate_left
  ·
   intro w'
   go_simp
   with_reducible rfl
  rotate_left
  ·
   simp only [Act.put, sa_, s0_, s1_, i64_w, i32_w]
   rfl
  refine pure_ (i := 6) (N := some 5) (v := ?_) (a' := ?_) (fl_ 7 127) rfl rfl (by kernel_rfl) (fun _ _ _ h => h) (Or.inl ⟨by rfl, ?_⟩) ?_ ?_
  rotate_left
  ·
   intro w'
   go_simp
   with_reducible rfl
  rotate_left
  ·
   simp only [Act.put, sa_, s0_, s1_, i64_w, i32_w]
   rfl
  refine done_ (by kernel_rfl) ?_
  try go_wp2
  replace qa := Aside0.mk (blk_drew qa.out); replace qb := Aside0.mk (blk_drew qb.out); replace HB := Aside0.mk (below_drew1 HB.out)
  refine start_ (n := 7) (S := fun w' => w'.cell? ⟨qd, 0, none⟩ = some (.slice A1_0 l1_0.length c1_0) ∧ w'.cell? ⟨qd, 1, none⟩ = some (.int .i64 a1_1) ∧ w'.cell? ⟨qd, 2, none⟩ = some (.bool a1_2) ∧ w'.cell? ⟨qc, 0, none⟩ = some (.slice A0_0 l0_0.length c0_0) ∧ w'.cell? ⟨qc, 1, none⟩ = some (.int .i64 a0_1) ∧ w'.cell? ⟨qc, 2, none⟩ = some (.bool true)) (ds := []) (fl_ 7 0) (by kernel_rfl) rfl rfl ⟨bc_ qb 0, bc_ qb 1, bc_ qb 2, bc_ qa 0, bc_ qa 1, bc_ qa 2⟩ (fun hHeld => ?_)
  generalize qT.drew = q5 at qa qb HB hHeld ⊢
  refine pure_ (i := 0) (N := some 13) (v := ?_) (a' := ?_) (fl_ 7 1) rfl rfl (by kernel_rfl) (fun _ _ _ h => h) (Or.inl ⟨by rfl, ?_⟩) ?_ ?_
  rotate_left
  ·
   intro w'
   go_simp
   with_reducible rfl
  rotate_left
  ·
   simp only [Act.put, sa_, s0_, s1_, i64_w, i32_w]
   rfl
  refine take_ (i := 1) (N := some 14) (v := ?_) (a' := ?_) (fl_ 7 3) rfl rfl (by kernel_rfl) (fun _ _ _ h => h) (Or.inl ⟨by rfl, ?_⟩) hHeld ?_ ?_
  rotate_left
  ·
   rintro w' ⟨s0, s1, s2, s3, s4, s5⟩
   go_simp
   with_reducible rfl
  rotate_left
  ·
   simp only [Act.put, sa_, s0_, s1_, i64_w, i32_w]
   rfl
  refine take_ (i := 2) (N := some 15) (v := ?_) (a' := ?_) (fl_ 7 7) rfl rfl (by kernel_rfl) (fun _ _ _ h => h) (Or.inl ⟨by rfl, ?_⟩) hHeld ?_ ?_
  rotate_left
  ·
   rintro w' ⟨s0, s1, s2, s3, s4, s5⟩
   go_simp
   with_reducible rfl
  rotate_left
  ·
   simp only [Act.put, sa_, s0_, s1_, i64_w, i32_w]
   rfl
  refine one_ (i := 3) (N := some 16) (fl_ 7 15) rfl rfl (by kernel_rfl) (by decide) (fun K hK => ?_)
  refine goes_ Try.func124 (by kernel_rfl) rfl #[.agg #[.slice A0_0 l0_0.length c0_0, .int .i64 a0_1, .bool true]] (by rfl) rfl rfl (by (try simp only [List.map_toArray, List.map_cons, List.map_nil]); first | done | rfl | (simp only [List.length_drop, List.length_take]; rfl)) ?_
  with_reducible refine (spec_l2Steep.calls k _ _ l0_0 a0_1 true qg _ ?side1 ?side2 A5.out).mono ?_
  (case side1 => exact cb_ qi HB)
  (case side2 => exact qj.out)
  rintro e q6 ⟨rfl, hb⟩
  refine ⟨_, rfl, ?_⟩
  replace qa := kB_ qa hb; replace qb := kB_ qb hb; replace HB := bS_ HB hb; (try clear hb); (try clear hb2); (try clear hk); (try clear hi)
  refine hK.out _ _ ⟨bc_ qb 0, bc_ qb 1, bc_ qb 2, bc_ qa 0, bc_ qa 1, bc_ qa 2⟩ (fun hHeld => ?_)
  clear hK K
  refine norm_ (a' := ?_) ?_ ?_
  rotate_left
  ·
   show Act.put _ (some 16) _ = _
   simp only [Act.put, sa_, s0_, s1_, i64_w, i32_w]
   rfl
  refine pure_ (i := 4) (N := some 17) (v := ?_) (a' := ?_) (fl_ 7 31) rfl rfl (by kernel_rfl) (fun _ _ _ h => h) (Or.inl ⟨by rfl, ?_⟩) ?_ ?_
  rotate_left
  ·
   intro w'
   go_simp
   with_reducible rfl
  rotate_left
  ·
   simp only [Act.put, sa_, s0_, s1_, i64_w, i32_w]
   rfl
  refine pure_ (i := 5) (N := some 18) (v := ?_) (a' := ?_) (fl_ 7 63) rfl rfl (by kernel_rfl) (fun _ _ _ h => h) (Or.inl ⟨by rfl, ?_⟩) ?_ ?_
  rotate_left
  ·
   intro w'
   go_simp
   with_reducible rfl
  rotate_left
  ·
   simp only [Act.put, sa_, s0_, s1_, i64_w, i32_w]
   rfl
  refine pure_ (i := 6) (N := some 6) (v := ?_) (a' := ?_) (fl_ 7 127) rfl rfl (by kernel_rfl) (fun _ _ _ h => h) (Or.inl ⟨by rfl, ?_⟩) ?_ ?_
  rotate_left
  ·
   intro w'
   go_simp
   with_reducible rfl
  rotate_left
  ·
   simp only [Act.put, sa_, s0_, s1_, i64_w, i32_w]
   rfl
  refine done_ (by kernel_rfl) ?_
  have qL := qe.out
  have qM := qf.out
  obtain ⟨qs, qt, qu, qv, qw, qx⟩ := b3_ qa
  try go_wp2
  go_ret
  exact ⟨by first | rfl | (simp [errW_none, errW_some] <;> rfl) | (simp only [← hji4, ← hji6]; first | rfl | (simp [errW_none, errW_some] <;> rfl)) | (simp [*, errW_none, errW_some] <;> rfl), bb_ HB⟩
 replace c15 := Bool.eq_false_iff.mpr c15
 subst c15
 have H1 : (some (!a1_2)) = some r := by rw [if_neg (show ¬ (false = true) by decide)] at H; exact H
 clear H
 have H := H1
 clear H1
 obtain rfl := Option.some.inj H
 go_enter Try.func114, Try.ntmps114
 try go_wp2_with (first | ((with_reducible refine gate_dst (N := 2) rfl ?_); refine bx_ (cs := #[.slice A0_0 l0_0.length c0_0, .int .i64 a0_1, .bool false]) (t := 52) ?_; intro qc hg q7 hbox hb; have qa := Aside0.mk (hbox); have qm := hz_ HB hg; have qn := hz_ HB hg; replace HB := bS_ HB hb; clear hb hbox hg) | ((with_reducible refine gate_dst (N := 3) rfl ?_); refine bx_ (cs := #[.slice A1_0 l1_0.length c1_0, .int .i64 a1_1, .bool a1_2]) (t := 52) ?_; intro qd hg qU hbox hb; have qb := Aside0.mk (hbox); have qo := hz_ HB hg; have qp := hz_ HB hg; replace HB := bS_ HB hb; have qe := nL_ qa hg; have qf := nG_ qa hg; replace qa := kB_ qa hb; clear hb hbox hg))
 replace qa := Aside0.mk (blk_drew qa.out); replace qb := Aside0.mk (blk_drew qb.out); replace HB := Aside0.mk (below_drew1 HB.out)
 refine start_ (n := 7) (S := fun w' => w'.cell? ⟨qc, 0, none⟩ = some (.slice A0_0 l0_0.length c0_0) ∧ w'.cell? ⟨qc, 1, none⟩ = some (.int .i64 a0_1) ∧ w'.cell? ⟨qc, 2, none⟩ = some (.bool false) ∧ w'.cell? ⟨qd, 0, none⟩ = some (.slice A1_0 l1_0.length c1_0) ∧ w'.cell? ⟨qd, 1, none⟩ = some (.int .i64 a1_1) ∧ w'.cell? ⟨qd, 2, none⟩ = some (.bool a1_2)) (ds := []) (fl_ 7 0) (by kernel_rfl) rfl rfl ⟨bc_ qa 0, bc_ qa 1, bc_ qa 2, bc_ qb 0, bc_ qb 1, bc_ qb 2⟩ (fun hHeld => ?_)
 generalize qU.drew = q8 at qa qb HB hHeld ⊢
 refine pure_ (i := 0) (N := some 7) (v := ?_) (a' := ?_) (fl_ 7 1) rfl rfl (by kernel_rfl) (fun _ _ _ h => h) (Or.inl ⟨by rfl, ?_⟩) ?_ ?_
 rotate_left
 ·
  intro w'
  go_simp
  with_reducible rfl
 rotate_left
 ·
  simp only [Act.put, sa_, s0_, s1_, i64_w, i32_w]
  rfl
 refine take_ (i := 1) (N := some 8) (v := ?_) (a' := ?_) (fl_ 7 3) rfl rfl (by kernel_rfl) (fun _ _ _ h => h) (Or.inl ⟨by rfl, ?_⟩) hHeld ?_ ?_
 rotate_left
 ·
  rintro w' ⟨s0, s1, s2, s3, s4, s5⟩
  go_simp
  with_reducible rfl
 rotate_left
 ·
  simp only [Act.put, sa_, s0_, s1_, i64_w, i32_w]
  rfl
 refine take_ (i := 2) (N := some 9) (v := ?_) (a' := ?_) (fl_ 7 7) rfl rfl (by kernel_rfl) (fun _ _ _ h => h) (Or.inl ⟨by rfl, ?_⟩) hHeld ?_ ?_
 rotate_left
 ·
  rintro w' ⟨s0, s1, s2, s3, s4, s5⟩
  go_simp
  with_reducible rfl
 rotate_left
 ·
  simp only [Act.put, sa_, s0_, s1_, i64_w, i32_w]
  rfl
 refine one_ (i := 3) (N := some 10) (fl_ 7 15) rfl rfl (by kernel_rfl) (by decide) (fun K hK => ?_)
 refine goes_ Try.func124 (by kernel_rfl) rfl #[.agg #[.slice A1_0 l1_0.length c1_0, .int .i64 a1_1, .bool a1_2]] (by rfl) rfl rfl (by (try simp only [List.map_toArray, List.map_cons, List.map_nil]); first | done | rfl | (simp only [List.length_drop, List.length_take]; rfl)) ?_
 with_reducible refine (spec_l2Steep.calls k _ _ l1_0 a1_1 a1_2 qh _ ?side1 ?side2 A3.out).mono ?_
 (case side1 => exact cb_ qk HB)
 (case side2 => exact ql.out)
 rintro e qV ⟨rfl, hb⟩
 refine ⟨_, rfl, ?_⟩
 replace qa := kB_ qa hb; replace qb := kB_ qb hb; replace HB := bS_ HB hb; (try clear hb); (try clear hb2); (try clear hk); (try clear hi)
 refine hK.out _ _ ⟨bc_ qa 0, bc_ qa 1, bc_ qa 2, bc_ qb 0, bc_ qb 1, bc_ qb 2⟩ (fun hHeld => ?_)
 clear hK K
 refine norm_ (a' := ?_) ?_ ?_
 rotate_left
 ·
  show Act.put _ (some 10) _ = _
  simp only [Act.put, sa_, s0_, s1_, i64_w, i32_w]
  rfl
 refine pure_ (i := 4) (N := some 11) (v := ?_) (a' := ?_) (fl_ 7 31) rfl rfl (by kernel_rfl) (fun _ _ _ h => h) (Or.inl ⟨by rfl, ?_⟩) ?_ ?_
 rotate_left
 ·
  intro w'
  go_simp
  with_reducible rfl
 rotate_left
 ·
  simp only [Act.put, sa_, s0_, s1_, i64_w, i32_w]
  rfl
 refine pure_ (i := 5) (N := some 12) (v := ?_) (a' := ?_) (fl_ 7 63) rfl rfl (by kernel_rfl) (fun _ _ _ h => h) (Or.inl ⟨by rfl, ?_⟩) ?_ ?_
 rotate_left
 ·
  intro w'
  go_simp
  with_reducible rfl
 rotate_left
 ·
  simp only [Act.put, sa_, s0_, s1_, i64_w, i32_w]
  rfl
 refine pure_ (i := 6) (N := some 5) (v := ?_) (a' := ?_) (fl_ 7 127) rfl rfl (by kernel_rfl) (fun _ _ _ h => h) (Or.inl ⟨by rfl, ?_⟩) ?_ ?_
 rotate_left
 ·
  intro w'
  go_simp
  with_reducible rfl
 rotate_left
 ·
  simp only [Act.put, sa_, s0_, s1_, i64_w, i32_w]
  rfl
 refine done_ (by kernel_rfl) ?_
 try go_wp2
 replace qa := Aside0.mk (blk_drew qa.out); replace qb := Aside0.mk (blk_drew qb.out); replace HB := Aside0.mk (below_drew1 HB.out)
 refine start_ (n := 7) (S := fun w' => w'.cell? ⟨qd, 0, none⟩ = some (.slice A1_0 l1_0.length c1_0) ∧ w'.cell? ⟨qd, 1, none⟩ = some (.int .i64 a1_1) ∧ w'.cell? ⟨qd, 2, none⟩ = some (.bool a1_2) ∧ w'.cell? ⟨qc, 0, none⟩ = some (.slice A0_0 l0_0.length c0_0) ∧ w'.cell? ⟨qc, 1, none⟩ = some (.int .i64 a0_1) ∧ w'.cell? ⟨qc, 2, none⟩ = some (.bool false)) (ds := []) (fl_ 7 0) (by kernel_rfl) rfl rfl ⟨bc_ qb 0, bc_ qb 1, bc_ qb 2, bc_ qa 0, bc_ qa 1, bc_ qa 2⟩ (fun hHeld => ?_)
 generalize qV.drew = q9 at qa qb HB hHeld ⊢
 refine pure_ (i := 0) (N := some 13) (v := ?_) (a' := ?_) (fl_ 7 1) rfl rfl (by kernel_rfl) (fun _ _ _ h => h) (Or.inl ⟨by rfl, ?_⟩) ?_ ?_
 rotate_left
 ·
  intro w'
  go_simp
  with_reducible rfl
 rotate_left
 ·
  simp only [Act.put, sa_, s0_, s1_, i64_w, i32_w]
  rfl
 refine take_ (i := 1) (N := some 14) (v := ?_) (a' := ?_) (fl_ 7 3) rfl rfl (by kernel_rfl) (fun _ _ _ h => h) (Or.inl ⟨by rfl, ?_⟩) hHeld ?_ ?_
 rotate_left
 ·
  rintro w' ⟨s0, s1, s2, s3, s4, s5⟩
  go_simp
  with_reducible rfl
 rotate_left
 ·
  simp only [Act.put, sa_, s0_, s1_, i64_w, i32_w]
  rfl
 refine take_ (i := 2) (N := some 15) (v := ?_) (a' := ?_) (fl_ 7 7) rfl rfl (by kernel_rfl) (fun _ _ _ h => h) (Or.inl ⟨by rfl, ?_⟩) hHeld ?_ ?_
 rotate_left
 ·
  rintro w' ⟨s0, s1, s2, s3, s4, s5⟩
  go_simp
  with_reducible rfl
 rotate_left
 ·
  simp only [Act.put, sa_, s0_, s1_, i64_w, i32_w]
  rfl
 refine one_ (i := 3) (N := some 16) (fl_ 7 15) rfl rfl (by kernel_rfl) (by decide) (fun K hK => ?_)
 refine goes_ Try.func124 (by kernel_rfl) rfl #[.agg #[.slice A0_0 l0_0.length c0_0, .int .i64 a0_1, .bool false]] (by rfl) rfl rfl (by (try simp only [List.map_toArray, List.map_cons, List.map_nil]); first | done | rfl | (simp only [List.length_drop, List.length_take]; rfl)) ?_
 with_reducible refine (spec_l2Steep.calls k _ _ l0_0 a0_1 false qg _ ?side1 ?side2 A5.out).mono ?_
 (case side1 => exact cb_ qi HB)
 (case side2 => exact qj.out)
 rintro e za ⟨rfl, hb⟩
 refine ⟨_, rfl, ?_⟩
 replace qa := kB_ qa hb; replace qb := kB_ qb hb; replace HB := bS_ HB hb; (try clear hb); (try clear hb2); (try clear hk); (try clear hi)
 refine hK.out _ _ ⟨bc_ qb 0, bc_ qb 1, bc_ qb 2, bc_ qa 0, bc_ qa 1, bc_ qa 2⟩ (fun hHeld => ?_)
 clear hK K
 refine norm_ (a' := ?_) ?_ ?_
 rotate_left
 ·
  show Act.put _ (some 16) _ = _
  simp only [Act.put, sa_, s0_, s1_, i64_w, i32_w]
  rfl
 refine pure_ (i := 4) (N := some 17) (v := ?_) (a' := ?_) (fl_ 7 31) rfl rfl (by kernel_rfl) (fun _ _ _ h => h) (Or.inl ⟨by rfl, ?_⟩) ?_ ?_
 rotate_left
 ·
  intro w'
  go_simp
  with_reducible rfl
 rotate_left
 ·
  simp only [Act.put, sa_, s0_, s1_, i64_w, i32_w]
  rfl
 refine pure_ (i := 5) (N := some 18) (v := ?_) (a' := ?_) (fl_ 7 63) rfl rfl (by kernel_rfl) (fun _ _ _ h => h) (Or.inl ⟨by rfl, ?_⟩) ?_ ?_
 rotate_left
 ·
  intro w'
  go_simp
  with_reducible rfl
 rotate_left
 ·
  simp only [Act.put, sa_, s0_, s1_, i64_w, i32_w]
  rfl
 refine pure_ (i := 6) (N := some 6) (v := ?_) (a' := ?_) (fl_ 7 127) rfl rfl (by kernel_rfl) (fun _ _ _ h => h) (Or.inl ⟨by rfl, ?_⟩) ?_ ?_
 rotate_left
 ·
  intro w'
  go_simp
  with_reducible rfl
 rotate_left
 ·
  simp only [Act.put, sa_, s0_, s1_, i64_w, i32_w]
  rfl
 refine done_ (by kernel_rfl) ?_
 have qN := qe.out
 have qO := qf.out
 obtain ⟨qy, qz, qA, qB, qC, qD⟩ := b3_ qa
 obtain ⟨qE, qF, qG, qH, qI, qJ⟩ := b3_ qb
 try go_wp2
 go_ret
 exact ⟨by first | rfl | (simp [errW_none, errW_some] <;> rfl) | (simp only [← hji4, ← hji6]; first | rfl | (simp [errW_none, errW_some] <;> rfl)) | (simp [*, errW_none, errW_some] <;> rfl), bb_ HB⟩

end Go.Proofs.Ytkicjflhokckgaa.PFnExactIsEmptyCell
