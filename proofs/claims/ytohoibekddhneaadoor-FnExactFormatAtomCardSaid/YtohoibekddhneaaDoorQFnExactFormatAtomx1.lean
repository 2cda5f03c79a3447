/- The functions that the law FnExactFormatAtom reaches, each as a Lean function with the same answers, and the proof that the call comes to exactly these: turned by program out of the printed texts. No condition but those that each theorem names. -/
import Derived.Test.YtohoibekddhneaaDoorQFnExactFormatAtomx0
namespace Go.Proofs.YtohoibekddhneaaDoor.PFnExactFormatAtom
open Go.RowKit Go.Proofs.YtohoibekddhneaaDoorW.PrintWords Go.Proofs.YtohoibekddhneaaDoorW.PrintLast Go.Proofs.YtohoibekddhneaaDoorW.PrintMore
attribute [local go_sem] max2_int min2_int max_two min_two max_three min_three max_four min_four   -- for this text's walks alone
set_option linter.unusedVariables false
set_option linter.unusedSimpArgs false

/-! ### laws_szIntS: function 49 -/
def laws_szIntS.f (l0 : List Int) (a1 : Int) : Option (Int) := if (wrap64 (a1 - (l0.length : Int))) < 0 then (some (-1)) else (some (wrap64 (a1 - (l0.length : Int))))
set_option maxHeartbeats 8000000 in
set_option maxRecDepth 100000 in
theorem laws_szIntS.calls (A0 : Option Addr) (c0 : Nat) (l0 : List Int) (a1 : Int) (r : Int) (w : World) (hr0 : Kd.C (Kd.int .i64) w A0 l0.length l0) (hc0 : l0.length ≤ c0) (h : laws_szIntS.f l0 a1 = some r) :
  Calls Tryd.prog 49 #[.slice A0 l0.length c0, .int .i64 a1] w fun e w' => e = .returned (.int .i64 r) ∧ Drawn0 w w' := by
 have HR0 := Aside0.mk hr0
 have HC0 := Aside0.mk hc0
 clear hr0 hc0
 have H : (if (wrap64 (a1 - (l0.length : Int))) < 0 then (some (-1)) else (some (wrap64 (a1 - (l0.length : Int))))) = some r := h
 clear h
 by_cases c3 : (wrap64 (a1 - (l0.length : Int))) < 0
 ·
  rw [if_pos c3] at H
  have qa : decide ((wrap64 (a1 - (l0.length : Int))) < 0) = true := decide_eq_true c3
  clear c3
  obtain rfl := Option.some.inj H
  go_enter Tryd.func49, Tryd.ntmps49
  go_wp2
  go_ret
  exact ⟨by first | rfl | (simp; done) | (simp [*]; done), by repeat (first | exact Drawn0.refl _ | apply Drawn0.step)⟩
 ·
  rw [if_neg c3] at H
  have qa : decide ((wrap64 (a1 - (l0.length : Int))) < 0) = false := decide_eq_false c3
  clear c3
  obtain rfl := Option.some.inj H
  go_enter Tryd.func49, Tryd.ntmps49
  go_wp2
  go_ret
  exact ⟨by first | rfl | (simp; done) | (simp [*]; done), by repeat (first | exact Drawn0.refl _ | apply Drawn0.step)⟩

/-! ### laws_szAtom: function 11 -/
def laws_szAtom.f (l0_0 : List Int) (a0_1 : Int) (a0_2 : Bool) (a1 : Int) : Option (Int) := (laws_szIntS.f l0_0 a1).bind fun qc => (if qc < 0 then (some (-1)) else (some qc))
set_option maxHeartbeats 8000000 in
set_option maxRecDepth 100000 in
theorem laws_szAtom.calls (A0_0 : Option Addr) (c0_0 : Nat) (l0_0 : List Int) (a0_1 : Int) (a0_2 : Bool) (a1 : Int) (r : Int) (w : World) (hr0_0 : Kd.C (Kd.int .i64) w A0_0 l0_0.length l0_0) (hc0_0 : l0_0.length ≤ c0_0) (h : laws_szAtom.f l0_0 a0_1 a0_2 a1 = some r) :
  Calls Tryd.prog 11 #[.agg #[.slice A0_0 l0_0.length c0_0, .int .i64 a0_1, .bool a0_2], .int .i64 a1] w fun e w' => e = .returned (.int .i64 r) ∧ Below w.heap.size w w' := by
 have hu24 := Tryd.underlying24
 have qd := Aside0.mk hr0_0
 have qe := Aside0.mk hc0_0
 clear hr0_0 hc0_0
 have HB := Aside0.mk (Below.refl w.heap.size w)
 have H : ((laws_szIntS.f l0_0 a1).bind fun qc => (if qc < 0 then (some (-1)) else (some qc))) = some r := h
 clear h
 replace H := Option.bind_eq_some_iff.mp H
 obtain ⟨qc, A30, H⟩ := H
 replace H : (if qc < 0 then (some (-1)) else (some qc)) = some r := H
 have A3 := Aside0.mk A30
 clear A30
 by_cases c4 : qc < 0
 ·
  rw [if_pos c4] at H
  have qh : decide (qc < 0) = true := decide_eq_true c4
  clear c4
  obtain rfl := Option.some.inj H
  go_enter Tryd.func11, Tryd.ntmps11
  go_wp2_with (first | ((with_reducible refine gate_dst (N := 2) rfl ?_); refine box_event ?hg (N := 2) ?hd (cs := #[.slice A0_0 l0_0.length c0_0, .int .i64 a0_1, .bool a0_2]) (t := 24) ?hr ?_; (case hd => rfl); (case hg => rfl); (case hr => first | (go_simp; done) | (go_simp; rfl)); intro qb hg w5 hbox hb; have qa := Aside0.mk (hbox); have qf := Aside0.mk ((by rw [hg]; exact (bz_ HB) : w.heap.size ≤ qb)); have qg := Aside0.mk ((by rw [hg]; exact (bz_ HB) : w.heap.size ≤ qb)); replace HB := bS_ HB hb; clear hb hbox hg; have qi : w5.cell? ⟨qb, 0, none⟩ = some (.slice A0_0 l0_0.length c0_0) := bc_ qa 0; have qj : w5.cell? ⟨qb, 1, none⟩ = some (.int .i64 a0_1) := bc_ qa 1; have qk : w5.cell? ⟨qb, 2, none⟩ = some (.bool a0_2) := bc_ qa 2; have ql := blk_frozen qa.out 0; have qm := blk_frozen qa.out 1; have qn := blk_frozen qa.out 2) | ((with_reducible refine gate_callee (f := 49) rfl ?_); refine goesL_ (some 8) rfl rfl Tryd.func49 (by kernel_rfl) rfl #[.slice A0_0 l0_0.length c0_0, .int .i64 a1] rfl (by (try simp only [List.map_toArray, List.map_cons, List.map_nil]); first | done | rfl | (simp only [List.length_drop, List.length_take]; rfl)) ?_; (with_reducible refine (laws_szIntS.calls _ _ l0_0 a1 qc _ ?side1 ?side2 A3.out).mono ?_); (case side1 => exact cb_ qd HB); (case side2 => exact qe.out); rintro e w' ⟨rfl, ⟨nd, rfl⟩⟩; refine ⟨_, rfl, ?_⟩))
  go_ret
  exact ⟨by first | rfl | (simp [errW_none, errW_some] <;> rfl) | (simp [*, errW_none, errW_some] <;> rfl), bb_ HB⟩
 ·
  rw [if_neg c4] at H
  have qh : decide (qc < 0) = false := decide_eq_false c4
  clear c4
  obtain rfl := Option.some.inj H
  go_enter Tryd.func11, Tryd.ntmps11
  go_wp2_with (first | ((with_reducible refine gate_dst (N := 2) rfl ?_); refine box_event ?hg (N := 2) ?hd (cs := #[.slice A0_0 l0_0.length c0_0, .int .i64 a0_1, .bool a0_2]) (t := 24) ?hr ?_; (case hd => rfl); (case hg => rfl); (case hr => first | (go_simp; done) | (go_simp; rfl)); intro qb hg w7 hbox hb; have qa := Aside0.mk (hbox); have qf := Aside0.mk ((by rw [hg]; exact (bz_ HB) : w.heap.size ≤ qb)); have qg := Aside0.mk ((by rw [hg]; exact (bz_ HB) : w.heap.size ≤ qb)); replace HB := bS_ HB hb; clear hb hbox hg; have qo : w7.cell? ⟨qb, 0, none⟩ = some (.slice A0_0 l0_0.length c0_0) := bc_ qa 0; have qp : w7.cell? ⟨qb, 1, none⟩ = some (.int .i64 a0_1) := bc_ qa 1; have qq : w7.cell? ⟨qb, 2, none⟩ = some (.bool a0_2) := bc_ qa 2; have qr := blk_frozen qa.out 0; have qs := blk_frozen qa.out 1; have qt := blk_frozen qa.out 2) | ((with_reducible refine gate_callee (f := 49) rfl ?_); refine goesL_ (some 8) rfl rfl Tryd.func49 (by kernel_rfl) rfl #[.slice A0_0 l0_0.length c0_0, .int .i64 a1] rfl (by (try simp only [List.map_toArray, List.map_cons, List.map_nil]); first | done | rfl | (simp only [List.length_drop, List.length_take]; rfl)) ?_; (with_reducible refine (laws_szIntS.calls _ _ l0_0 a1 qc _ ?side1 ?side2 A3.out).mono ?_); (case side1 => exact cb_ qd HB); (case side2 => exact qe.out); rintro e w' ⟨rfl, ⟨nd, rfl⟩⟩; refine ⟨_, rfl, ?_⟩))
  go_ret
  exact ⟨by first | rfl | (simp [errW_none, errW_some] <;> rfl) | (simp [*, errW_none, errW_some] <;> rfl), bb_ HB⟩

/-! ### spec_l1In: function 80 -/
def spec_l1In.f (a0 : Int) (a1 : Int) (a2 : Int) : Option (Bool) := if a0 ≥ a1 then (some (decide (a0 ≤ a2))) else (some false)
set_option maxHeartbeats 8000000 in
set_option maxRecDepth 100000 in
theorem spec_l1In.calls (a0 : Int) (a1 : Int) (a2 : Int) (r : Bool) (w : World) (h : spec_l1In.f a0 a1 a2 = some r) :
  Calls Tryd.prog 80 #[.int .i64 a0, .int .i64 a1, .int .i64 a2] w fun e w' => e = .returned (.bool r) ∧ Drawn0 w w' := by
 have H : (if a0 ≥ a1 then (some (decide (a0 ≤ a2))) else (some false)) = some r := h
 clear h
 by_cases c4 : a0 ≥ a1
 ·
  rw [if_pos c4] at H
  have qa : decide (a1 ≤ a0) = true := decide_eq_true c4
  clear c4
  obtain rfl := Option.some.inj H
  go_enter Tryd.func80, Tryd.ntmps80
  go_wp2
  go_ret
  exact ⟨by first | rfl | (simp; done) | (simp [*]; done), by repeat (first | exact Drawn0.refl _ | apply Drawn0.step)⟩
 ·
  rw [if_neg c4] at H
  have qa : decide (a1 ≤ a0) = false := decide_eq_false c4
  clear c4
  obtain rfl := Option.some.inj H
  go_enter Tryd.func80, Tryd.ntmps80
  go_wp2
  go_ret
  exact ⟨by first | rfl | (simp; done) | (simp [*]; done), by repeat (first | exact Drawn0.refl _ | apply Drawn0.step)⟩

/-! ### spec_IsNumber: function 59 -/
def spec_IsNumber.f (a0 : Int) : Option (Bool) := (spec_l1In.f a0 (-400000000) 400000000).bind fun qa => (some qa)
set_option maxHeartbeats 8000000 in
set_option maxRecDepth 100000 in
theorem spec_IsNumber.calls (a0 : Int) (r : Bool) (w : World) (h : spec_IsNumber.f a0 = some r) :
  Calls Tryd.prog 59 #[.int .i64 a0] w fun e w' => e = .returned (.bool r) ∧ Drawn0 w w' := by
 have H : ((spec_l1In.f a0 (-400000000) 400000000).bind fun qa => (some qa)) = some r := h
 clear h
 replace H := Option.bind_eq_some_iff.mp H
 obtain ⟨qa, A20, H⟩ := H
 replace H : (some qa) = some r := H
 have A2 := Aside0.mk A20
 clear A20
 obtain rfl := Option.some.inj H
 go_enter Tryd.func59, Tryd.ntmps59
 go_wp2_with (first | ((with_reducible refine gate_callee (f := 80) rfl ?_); refine goesL_ (some 4) rfl rfl Tryd.func80 (by kernel_rfl) rfl #[.int .i64 a0, .int .i64 (-400000000), .int .i64 400000000] rfl (by (try simp only [List.map_toArray, List.map_cons, List.map_nil]); first | done | rfl | (simp only [List.length_drop, List.length_take]; rfl)) ?_; (with_reducible refine (spec_l1In.calls a0 (-400000000) 400000000 qa _ A2.out).mono ?_); rintro e w' ⟨rfl, ⟨nd, rfl⟩⟩; refine ⟨_, rfl, ?_⟩))
 go_ret
 exact ⟨by first | rfl | (simp; done) | (simp [*]; done), by repeat (first | exact Drawn0.refl _ | apply Drawn0.step)⟩

/-! ### spec_l1Abs: function 103 -/
def spec_l1Abs.f (a0 : Int) : Option (Int) := some (mx a0 (wrap64 (-a0)))
set_option maxHeartbeats 8000000 in
set_option maxRecDepth 100000 in
theorem spec_l1Abs.calls (a0 : Int) (r : Int) (w : World) (h : spec_l1Abs.f a0 = some r) :
  Calls Tryd.prog 103 #[.int .i64 a0] w fun e w' => e = .returned (.int .i64 r) ∧ Below w.heap.size w w' := by
 have HB := Aside0.mk (Below.refl w.heap.size w)
 have H : (some (mx a0 (wrap64 (-a0)))) = some r := h
 clear h
 obtain ⟨ji2, hji2⟩ : ∃ j_ : Int, (mx a0 (wrap64 (-a0))) = j_ := ⟨_, rfl⟩
 replace H : (some ji2) = some r := by first | (rw [hji2] at H; exact H) | (simp only [hji2] at H ⊢; exact H)
 have hji2_ : (if a0 < (wrap64 (-a0)) then (wrap64 (-a0)) else a0) = ji2 := hji2
 obtain rfl := Option.some.inj H
 go_enter Tryd.func103, Tryd.ntmps103
 go_wp2
 go_ret
 exact ⟨by first | rfl | (simp [errW_none, errW_some] <;> rfl) | (simp only [← hji2]; first | rfl | (simp [errW_none, errW_some] <;> rfl)) | (simp [*, errW_none, errW_some] <;> rfl), bb_ HB⟩

/-! ### spec_l2Gcd: function 87 -/
mutual
def spec_l2Gcd.l0 : Nat → List Int → Int → Int → Option (Int)
 | 0, _, _, _ => none
 | k + 1, x0, x5, x6 => if x6 < (x0.length : Int) then (if 0 ≤ x6 then ((spec_l1Abs.f (rd x0 x6)).bind fun qe => (spec_l2Gcd.l1 k x0 x5 x6 qe)) else (none)) else (some x5)
def spec_l2Gcd.l1 : Nat → List Int → Int → Int → Int → Option (Int)
 | 0, _, _, _, _ => none
 | k + 1, x0, x5, x6, x7 => if x7 = 0 then (spec_l2Gcd.l0 k x0 x5 (wrap64 (x6 + 1))) else (spec_l2Gcd.l1 k x0 x7 x6 (Int.tmod x5 x7))
end
def spec_l2Gcd.f (k : Nat) (l0 : List Int) (a1 : Int) : Option (Int) := (spec_l1Abs.f a1).bind fun qd => (spec_l2Gcd.l0 k l0 qd 0)
theorem spec_l2Gcd.mono_l : ∀ k, (∀ y0 y1 y2, LeO (spec_l2Gcd.l0 k y0 y1 y2) (spec_l2Gcd.l0 (k + 1) y0 y1 y2)) ∧ (∀ y0 y1 y2 y3, LeO (spec_l2Gcd.l1 k y0 y1 y2 y3) (spec_l2Gcd.l1 (k + 1) y0 y1 y2 y3))
 | 0 => ⟨fun _ _ _ r h => by simp [spec_l2Gcd.l0] at h, fun _ _ _ _ r h => by simp [spec_l2Gcd.l1] at h⟩
 | k + 1 => by
  obtain ⟨ih0, ih1⟩ := spec_l2Gcd.mono_l k
  refine ⟨?_, ?_⟩
  ·
   intro y0 y1 y2
   unfold spec_l2Gcd.l0
   repeat' first
   | (with_reducible exact ih0 _ _ _)
   | (with_reducible exact ih1 _ _ _ _)
   | (with_reducible exact LeO.refl _)
   | (with_reducible exact LeO.none _)
   | (with_reducible refine LeO.ite ?_ ?_)
   | (with_reducible refine LeO.bind ?_ (fun _ => ?_))
   | exact ih0 _ _ _
   | exact ih1 _ _ _ _
   | exact LeO.none _
   | refine LeO.ite ?_ ?_
   | refine LeO.bind ?_ (fun _ => ?_)
  ·
   intro y0 y1 y2 y3
   unfold spec_l2Gcd.l1
   repeat' first
   | (with_reducible exact ih0 _ _ _)
   | (with_reducible exact ih1 _ _ _ _)
   | (with_reducible exact LeO.refl _)
   | (with_reducible exact LeO.none _)
   | (with_reducible refine LeO.ite ?_ ?_)
   | (with_reducible refine LeO.bind ?_ (fun _ => ?_))
   | exact ih0 _ _ _
   | exact ih1 _ _ _ _
   | exact LeO.none _
   | refine LeO.ite ?_ ?_
   | refine LeO.bind ?_ (fun _ => ?_)
theorem spec_l2Gcd.mono : ∀ a0 a1 k, LeO (spec_l2Gcd.f k a0 a1) (spec_l2Gcd.f (k + 1) a0 a1) := by
 intro a0 a1 k
 obtain ⟨ih0, ih1⟩ := spec_l2Gcd.mono_l k
 unfold spec_l2Gcd.f
 repeat' first
   | (with_reducible exact ih0 _ _ _)
   | (with_reducible exact ih1 _ _ _ _)
   | (with_reducible exact LeO.refl _)
   | (with_reducible exact LeO.none _)
   | (with_reducible refine LeO.ite ?_ ?_)
   | (with_reducible refine LeO.bind ?_ (fun _ => ?_))
   | exact ih0 _ _ _
   | exact ih1 _ _ _ _
   | exact LeO.none _
   | refine LeO.ite ?_ ?_
   | refine LeO.bind ?_ (fun _ => ?_)
set_option maxHeartbeats 8000000 in
set_option maxRecDepth 100000 in
theorem spec_l2Gcd.calls (k : Nat) (A0 : Option Addr) (c0 : Nat) (l0 : List Int) (a1 : Int) (r : Int) (w : World) (hr0 : Kd.C (Kd.int .i64) w A0 l0.length l0) (hc0 : l0.length ≤ c0) (h : spec_l2Gcd.f k l0 a1 = some r) :
  Calls Tryd.prog 87 #[.slice A0 l0.length c0, .int .i64 a1] w fun e w' => e = .returned (.int .i64 r) ∧ Below w.heap.size w w' := by
 have HR0 := Aside0.mk hr0
 have HC0 := Aside0.mk hc0
 clear hr0 hc0
 have HB := Aside0.mk (Below.refl w.heap.size w)
 have H : ((spec_l1Abs.f a1).bind fun qd => (spec_l2Gcd.l0 k l0 qd 0)) = some r := h
 clear h
 replace H := Option.bind_eq_some_iff.mp H
 obtain ⟨qd, A30, H⟩ := H
 replace H : (spec_l2Gcd.l0 k l0 qd 0) = some r := H
 have A3 := Aside0.mk A30
 clear A30
 have H' := Aside0.mk H
 clear H
 go_enter Tryd.func87, Tryd.ntmps87
 go_wp2_with (first | (go_at_call 103; (with_reducible refine (spec_l1Abs.calls a1 qd _ A3.out).mono ?_); rintro e w4 ⟨rfl, hb⟩; replace HB := bS_ HB hb; (try clear hb); (try clear hb2); (try clear hk); (try clear hi)))
 repeat (go_quiet (first | (go_at_call 103; (with_reducible refine (spec_l1Abs.calls a1 qd _ A3.out).mono ?_); rintro e w4 ⟨rfl, hb⟩; replace HB := bS_ HB hb; (try clear hb); (try clear hb2); (try clear hk); (try clear hi))); try go_wp2_with (first | (go_at_call 103; (with_reducible refine (spec_l1Abs.calls a1 qd _ A3.out).mono ?_); rintro e w4 ⟨rfl, hb⟩; replace HB := bS_ HB hb; (try clear hb); (try clear hb2); (try clear hk); (try clear hi))))
 go_loopg [5, 6] k (fun kq v5 v6 w' => ∃ (qf : Int) (qa : Int), v5 = .int .i64 qf ∧ v6 = .int .i64 qa ∧ Aside0 (spec_l2Gcd.l0 kq l0 qf qa = some r) ∧ Aside0 (kq ≤ k) ∧ Aside0 (Below w.heap.size w w'))
 case atStart => exact ⟨(qd), (0), (by first | rfl | (simp; done) | (simp [*]; done)), (by first | rfl | (simp; done) | (simp [*]; done)), H', ⟨Nat.le_refl _⟩, ⟨bb_ HB⟩⟩
 case round =>
  clear H'
  try clear p2
  obtain ⟨qf, qa, rfl, rfl, HA, HK1, HB⟩ := hrel
  cases gk with
  | zero => exact absurd HA.out (by simp [spec_l2Gcd.l0])
  | succ k1 =>
   have H := HA.out
   clear HA
   simp only [spec_l2Gcd.l0] at H
   by_cases c5 : qa < (l0.length : Int)
   ·
    rw [if_pos c5] at H
    have qh : decide (qa < (l0.length : Int)) = true := decide_eq_true c5
    clear c5
    by_cases c6 : 0 ≤ qa
    ·
     rw [if_pos c6] at H
     have qi : decide (0 ≤ qa) = true := decide_eq_true c6
     clear c6
     replace H := Option.bind_eq_some_iff.mp H
     obtain ⟨qe, A70, H⟩ := H
     replace H : (spec_l2Gcd.l1 k1 l0 qf qa qe) = some r := H
     have A7 := Aside0.mk A70
     clear A70
     have H' := Aside0.mk H
     clear H
     have p105 : 0 ≤ (qa : Int) := of_decide_eq_true (by first | (with_reducible assumption) | assumption)
     have q105 : qa < (l0.length : Int) := of_decide_eq_true (by first | (with_reducible assumption) | assumption)
     obtain ⟨ql, e105, qb⟩ := Kd.at_int HR0.out qa p105 q105
     cases e105
     replace qb := (HB.out.cell (World.block_lt_of_cell? w _ qb)).trans qb
     replace p105 := eq_true p105
     replace q105 := eq_true q105
     go_wp2_with (first | (go_at_call 103; (with_reducible refine (spec_l1Abs.calls (rd l0 qa) qe _ A7.out).mono ?_); rintro e w8 ⟨rfl, hb⟩; replace HB := bS_ HB hb; (try clear hb); (try clear hb2); (try clear hk); (try clear hi)))
     repeat (go_quiet (first | (go_at_call 103; (with_reducible refine (spec_l1Abs.calls (rd l0 qa) qe _ A7.out).mono ?_); rintro e w8 ⟨rfl, hb⟩; replace HB := bS_ HB hb; (try clear hb); (try clear hb2); (try clear hk); (try clear hi))); try go_wp2_with (first | (go_at_call 103; (with_reducible refine (spec_l1Abs.calls (rd l0 qa) qe _ A7.out).mono ?_); rintro e w8 ⟨rfl, hb⟩; replace HB := bS_ HB hb; (try clear hb); (try clear hb2); (try clear hk); (try clear hi))))
     go_loopg [5, 7] k1 (fun kq v5 v7 w' => ∃ (qg : Int) (qc : Int), v5 = .int .i64 qg ∧ v7 = .int .i64 qc ∧ Aside0 (spec_l2Gcd.l1 kq l0 qg qa qc = some r) ∧ Aside0 (kq ≤ k1) ∧ Aside0 (Below w.heap.size w w'))
     case atStart => exact ⟨(qf), (qe), (by first | rfl | (simp; done) | (simp [*]; done)), (by first | rfl | (simp; done) | (simp [*]; done)), H', ⟨Nat.le_refl _⟩, ⟨bb_ HB⟩⟩
     case round =>
      clear H'
      try clear p1
      try clear q1
      try clear hx1
      try clear p2
      try clear c5
      try clear qh
      try clear c6
      try clear qi
      try clear c8
      try clear qb
      try clear p105
      try clear p2
      try clear q105
      obtain ⟨qg, qc, rfl, rfl, HA, HK2, HB⟩ := hrel
      cases gk with
      | zero => exact absurd HA.out (by simp [spec_l2Gcd.l1])
      | succ k2 =>
       have H := HA.out
       clear HA
       simp only [spec_l2Gcd.l1] at H
       by_cases c9 : qc = 0
       ·
        rw [if_pos c9] at H
        have qj : (qc == 0) = true := beq_iff_eq.mpr c9
        have qk : (qc != 0) = false := bne_eq_false_iff_eq.mpr c9
        clear c9
        have H' := Aside0.mk H
        clear H
        go_wp2
        repeat (go_quiet (fail); try go_wp2)
        go_roundg k2
        case measure => have := HK1.out; have := HK2.out; omega
        case rel => exact ⟨(qg), (wrap64 (qa + 1)), (by first | rfl | (simp; done) | (simp [*]; done)), (by first | rfl | (simp; done) | (simp [*]; done)), H', ⟨by have := HK1.out; have := HK2.out; omega⟩, ⟨bb_ HB⟩⟩
       ·
        rw [if_neg c9] at H
        have qj : (qc == 0) = false := beq_eq_false_iff_ne.mpr c9
        have qk : (qc != 0) = true := bne_iff_ne.mpr c9
        have H' := Aside0.mk H
        clear H
        go_wp2
        repeat (go_quiet (fail); try go_wp2)
        go_roundg k2
        case measure => have := HK1.out; have := HK2.out; omega
        case rel => exact ⟨(qc), (Int.tmod qg qc), (by first | rfl | (simp; done) | (simp [*]; done)), (by first | rfl | (simp; done) | (simp [*]; done)), H', ⟨by have := HK1.out; have := HK2.out; omega⟩, ⟨bb_ HB⟩⟩
    ·
     rw [if_neg c6] at H
     exact absurd H (by simp)
   ·
    rw [if_neg c5] at H
    have qh : decide (qa < (l0.length : Int)) = false := decide_eq_false c5
    clear c5
    obtain rfl := Option.some.inj H
    go_wp2
    repeat (go_quiet (fail); try go_wp2)
    go_ret
    exact ⟨by first | rfl | (simp [errW_none, errW_some] <;> rfl) | (simp [*, errW_none, errW_some] <;> rfl), bb_ HB⟩

/-! ### spec_IsAtom: function 46 -/
mutual
def spec_IsAtom.j0 : Nat → Bool → List Int → Int → Bool → Option (Bool)
 | 0, _, _, _, _ => none
 | k + 1, x13, x108000, x108001, x108002 => if x13 = true then (some false) else (spec_IsAtom.l0 k 0 x108000 x108001 x108002)
def spec_IsAtom.l0 : Nat → Int → List Int → Int → Bool → Option (Bool)
 | 0, _, _, _, _ => none
 | k + 1, x3, x108000, x108001, x108002 => if x3 < (x108000.length : Int) then (if 0 ≤ x3 then ((spec_IsNumber.f (rd x108000 x3)).bind fun qu => (if qu = true then (spec_IsAtom.l0 k (wrap64 (x3 + 1)) x108000 x108001 x108002) else (some false))) else (none)) else ((spec_l2Gcd.f k x108000 x108001).bind fun qv => (some (decide (qv ≤ 1))))
end
def spec_IsAtom.f (k : Nat) (l0_0 : List Int) (a0_1 : Int) (a0_2 : Bool) : Option (Bool) := if (l0_0.length : Int) > 4 then (spec_IsAtom.j0 k true l0_0 a0_1 a0_2) else ((spec_IsNumber.f a0_1).bind fun qe => (spec_IsAtom.j0 k (!qe) l0_0 a0_1 a0_2))
theorem spec_IsAtom.mono_l : ∀ k, (∀ y0 y1 y2 y3, LeO (spec_IsAtom.j0 k y0 y1 y2 y3) (spec_IsAtom.j0 (k + 1) y0 y1 y2 y3)) ∧ (∀ y0 y1 y2 y3, LeO (spec_IsAtom.l0 k y0 y1 y2 y3) (spec_IsAtom.l0 (k + 1) y0 y1 y2 y3))
 | 0 => ⟨fun _ _ _ _ r h => by simp [spec_IsAtom.j0] at h, fun _ _ _ _ r h => by simp [spec_IsAtom.l0] at h⟩
 | k + 1 => by
  obtain ⟨ih0, ih1⟩ := spec_IsAtom.mono_l k
  refine ⟨?_, ?_⟩
  ·
   intro y0 y1 y2 y3
   unfold spec_IsAtom.j0
   repeat' first
   | (with_reducible exact ih0 _ _ _ _)
   | (with_reducible exact ih1 _ _ _ _)
   | (with_reducible exact spec_l2Gcd.mono _ _ _)
   | (with_reducible exact LeO.refl _)
   | (with_reducible exact LeO.none _)
   | (with_reducible refine LeO.ite ?_ ?_)
   | (with_reducible refine LeO.bind ?_ (fun _ => ?_))
   | exact ih0 _ _ _ _
   | exact ih1 _ _ _ _
   | exact spec_l2Gcd.mono _ _ _
   | exact LeO.none _
   | refine LeO.ite ?_ ?_
   | refine LeO.bind ?_ (fun _ => ?_)
  ·
   intro y0 y1 y2 y3
   unfold spec_IsAtom.l0
   repeat' first
   | (with_reducible exact ih0 _ _ _ _)
   | (with_reducible exact ih1 _ _ _ _)
   | (with_reducible exact spec_l2Gcd.mono _ _ _)
   | (with_reducible exact LeO.refl _)
   | (with_reducible exact LeO.none _)
   | (with_reducible refine LeO.ite ?_ ?_)
   | (with_reducible refine LeO.bind ?_ (fun _ => ?_))
   | exact ih0 _ _ _ _
   | exact ih1 _ _ _ _
   | exact spec_l2Gcd.mono _ _ _
   | exact LeO.none _
   | refine LeO.ite ?_ ?_
   | refine LeO.bind ?_ (fun _ => ?_)
theorem spec_IsAtom.mono : ∀ a0 a1 a2 k, LeO (spec_IsAtom.f k a0 a1 a2) (spec_IsAtom.f (k + 1) a0 a1 a2) := by
 intro a0 a1 a2 k
 obtain ⟨ih0, ih1⟩ := spec_IsAtom.mono_l k
 unfold spec_IsAtom.f
 repeat' first
   | (with_reducible exact ih0 _ _ _ _)
   | (with_reducible exact ih1 _ _ _ _)
   | (with_reducible exact spec_l2Gcd.mono _ _ _)
   | (with_reducible exact LeO.refl _)
   | (with_reducible exact LeO.none _)
   | (with_reducible refine LeO.ite ?_ ?_)
   | (with_reducible refine LeO.bind ?_ (fun _ => ?_))
   | exact ih0 _ _ _ _
   | exact ih1 _ _ _ _
   | exact spec_l2Gcd.mono _ _ _
   | exact LeO.none _
   | refine LeO.ite ?_ ?_
   | refine LeO.bind ?_ (fun _ => ?_)
set_option maxHeartbeats 8000000 in
set_option maxRecDepth 100000 in
theorem spec_IsAtom.calls (k : Nat) (A0_0 : Option Addr) (c0_0 : Nat) (l0_0 : List Int) (a0_1 : Int) (a0_2 : Bool) (r : Bool) (w : World) (hr0_0 : Kd.C (Kd.int .i64) w A0_0 l0_0.length l0_0) (hc0_0 : l0_0.length ≤ c0_0) (h : spec_IsAtom.f k l0_0 a0_1 a0_2 = some r) :
  Calls Tryd.prog 46 #[.agg #[.slice A0_0 l0_0.length c0_0, .int .i64 a0_1, .bool a0_2]] w fun e w' => e = .returned (.bool r) ∧ Below w.heap.size w w' := by
 have hu27 := Tryd.underlying27
 have qh := Aside0.mk hr0_0
 have qx := Aside0.mk hc0_0
 clear hr0_0 hc0_0
 have HB := Aside0.mk (Below.refl w.heap.size w)
 have H : (if (l0_0.length : Int) > 4 then (spec_IsAtom.j0 k true l0_0 a0_1 a0_2) else ((spec_IsNumber.f a0_1).bind fun qe => (spec_IsAtom.j0 k (!qe) l0_0 a0_1 a0_2))) = some r := h
 clear h
 have HC2 := Aside0.mk H
 clear H
 go_enter Tryd.func46, Tryd.ntmps46
 go_upto_region 1 with (first | ((with_reducible refine gate_dst (N := 1) rfl ?_); refine box_event ?hg (N := 1) ?hd (cs := #[.slice A0_0 l0_0.length c0_0, .int .i64 a0_1, .bool a0_2]) (t := 27) ?hr ?_; (case hd => rfl); (case hg => rfl); (case hr => first | (go_simp; done) | (go_simp; rfl)); intro qb hg w3 hbox hb; have qa := Aside0.mk (hbox); have qS := Aside0.mk ((by rw [hg]; exact (bz_ HB) : w.heap.size ≤ qb)); have qT := Aside0.mk ((by rw [hg]; exact (bz_ HB) : w.heap.size ≤ qb)); replace HB := bS_ HB hb; clear hb hbox hg))
 (try simp only [Act.put, List.setIfInBounds_toArray, List.set_cons_zero, List.set_cons_succ])
 go_cut [13] (fun v13 wc => ∃ (kq : Nat) (qg : Bool), v13 = .bool qg ∧ Aside0 (spec_IsAtom.j0 kq qg l0_0 a0_1 a0_2 = some r) ∧ Aside0 (kq ≤ k) ∧ Aside0 (wc.heap[qb]? = some (.cells #[(.slice A0_0 l0_0.length c0_0), .int .i64 a0_1, .bool a0_2] 27 (0, 0))) ∧ Aside0 (Below w.heap.size w wc))
 case first =>
  have H := HC2.out
  clear HC2
  by_cases c4 : (l0_0.length : Int) > 4
  ·
   rw [if_pos c4] at H
   have qf : decide (4 < (l0_0.length : Int)) = true := decide_eq_true c4
   have qw : decide (4 < l0_0.length) = true := decide_eq_true (by omega)
   clear c4
   (first | rw [qf] | (simp only [i64_w, i32_w]; rw [qf]) | skip)
   have H' := Aside0.mk H
   clear H
   have qi : w3.cell? ⟨qb, 0, none⟩ = some (.slice A0_0 l0_0.length c0_0) := bc_ qa 0
   have qj : w3.cell? ⟨qb, 1, none⟩ = some (.int .i64 a0_1) := bc_ qa 1
   have qk : w3.cell? ⟨qb, 2, none⟩ = some (.bool a0_2) := bc_ qa 2
   have ql := blk_frozen qa.out 0
   have qm := blk_frozen qa.out 1
   have qn := blk_frozen qa.out 2
   go_wp2
   go_meet
   case rel => exact ⟨_, (true), (by first | rfl | (simp; done) | (simp [*]; done)), H', ⟨by first | omega | exact Nat.le_refl _⟩, ⟨kf_ qa⟩, ⟨bb_ HB⟩⟩
  ·
   rw [if_neg c4] at H
   have qf : decide (4 < (l0_0.length : Int)) = false := decide_eq_false c4
   have qw : decide (4 < l0_0.length) = false := decide_eq_false (by omega)
   clear c4
   (first | rw [qf] | (simp only [i64_w, i32_w]; rw [qf]) | skip)
   replace H := Option.bind_eq_some_iff.mp H
   obtain ⟨qe, A60, H⟩ := H
   replace H : (spec_IsAtom.j0 k (!qe) l0_0 a0_1 a0_2) = some r := H
   have A6 := Aside0.mk A60
   clear A60
   have H' := Aside0.mk H
   clear H
   have qo : w3.cell? ⟨qb, 0, none⟩ = some (.slice A0_0 l0_0.length c0_0) := bc_ qa 0
   have qp : w3.cell? ⟨qb, 1, none⟩ = some (.int .i64 a0_1) := bc_ qa 1
   have qq : w3.cell? ⟨qb, 2, none⟩ = some (.bool a0_2) := bc_ qa 2
   have qr := blk_frozen qa.out 0
   have qs := blk_frozen qa.out 1
   have qt := blk_frozen qa.out 2
   go_wp2_with (first | (go_at_call 59; (with_reducible refine (spec_IsNumber.calls a0_1 qe _ A6.out).mono ?_); rintro e w' ⟨rfl, ⟨nd, rfl⟩⟩))
   go_meet
   case rel => exact ⟨_, (!qe), (by first | rfl | (simp; done) | (simp [*]; done)), H', ⟨by first | omega | exact Nat.le_refl _⟩, ⟨kf_ qa⟩, ⟨bb_ HB⟩⟩
 case rest =>
  clear HC2
  try clear p2
  try clear c4
  try clear qf
  try clear qw
  try clear qi
  try clear qj
  try clear qk
  try clear qo
  try clear qp
  try clear qq
  try clear ql
  try clear qm
  try clear qn
  try clear qr
  try clear qs
  try clear qt
  obtain ⟨kq, qg, rfl, HA, HJ1, qa, HB⟩ := hcut
  cases kq with
  | zero => exact absurd HA.out (by simp [spec_IsAtom.j0])
  | succ kj1 =>
   have H := HA.out
   clear HA
   simp only [spec_IsAtom.j0] at H
   by_cases c8 : qg = true
   ·
    subst c8
    have H1 : (some false) = some r := by rw [if_pos rfl] at H; exact H
    clear H
    have H := H1
    clear H1
    obtain rfl := Option.some.inj H
    go_wp2
    go_ret
    exact ⟨by first | rfl | (simp [errW_none, errW_some] <;> rfl) | (simp [*, errW_none, errW_some] <;> rfl), bb_ HB⟩
   ·
    replace c8 := Bool.eq_false_iff.mpr c8
    subst c8
    have H1 : (spec_IsAtom.l0 kj1 0 l0_0 a0_1 a0_2) = some r := by rw [if_neg (show ¬ (false = true) by decide)] at H; exact H
    clear H
    have H := H1
    clear H1
    have H' := Aside0.mk H
    clear H
    go_wp2
    go_loopg [3] kj1 (fun kq v3 w' => ∃ (qc : Int), v3 = .int .i64 qc ∧ Aside0 (spec_IsAtom.l0 kq qc l0_0 a0_1 a0_2 = some r) ∧ Aside0 (kq ≤ kj1) ∧ Aside0 (w'.heap[qb]? = some (.cells #[(.slice A0_0 l0_0.length c0_0), .int .i64 a0_1, .bool a0_2] 27 (0, 0))) ∧ Aside0 (Below w.heap.size w w'))
    case atStart => exact ⟨(0), (by first | rfl | (simp; done) | (simp [*]; done)), H', ⟨Nat.le_refl _⟩, ⟨kf_ qa⟩, ⟨bb_ HB⟩⟩
    case round =>
     clear H'
     try clear p2
     try clear c4
     try clear qf
     try clear qw
     try clear c8
     try clear qi
     try clear qj
     try clear qk
     try clear qo
     try clear qp
     try clear qq
     try clear ql
     try clear qm
     try clear qn
     try clear qr
     try clear qs
     try clear qt
     try clear p2
     obtain ⟨qc, rfl, HA, HK2, qa, HB⟩ := hrel
     cases gk with
     | zero => exact absurd HA.out (by simp [spec_IsAtom.l0])
     | succ k2 =>
      have H := HA.out
      clear HA
      simp only [spec_IsAtom.l0] at H
      by_cases c9 : qc < (l0_0.length : Int)
      ·
       rw [if_pos c9] at H
       have qR : decide (qc < (l0_0.length : Int)) = true := decide_eq_true c9
       clear c9
       by_cases c10 : 0 ≤ qc
       ·
        rw [if_pos c10] at H
        have qU : decide (0 ≤ qc) = true := decide_eq_true c10
        clear c10
        replace H := Option.bind_eq_some_iff.mp H
        obtain ⟨qu, A110, H⟩ := H
        replace H : (if qu = true then (spec_IsAtom.l0 k2 (wrap64 (qc + 1)) l0_0 a0_1 a0_2) else (some false)) = some r := H
        have A11 := Aside0.mk A110
        clear A110
        by_cases c12 : qu = true
        ·
         subst c12
         have H1 : (spec_IsAtom.l0 k2 (wrap64 (qc + 1)) l0_0 a0_1 a0_2) = some r := by rw [if_pos rfl] at H; exact H
         clear H
         have H := H1
         clear H1
         have H' := Aside0.mk H
         clear H
         have qz : wr.cell? ⟨qb, 0, none⟩ = some (.slice A0_0 l0_0.length c0_0) := bc_ qa 0
         have qA : wr.cell? ⟨qb, 1, none⟩ = some (.int .i64 a0_1) := bc_ qa 1
         have qB : wr.cell? ⟨qb, 2, none⟩ = some (.bool a0_2) := bc_ qa 2
         have qC := blk_frozen qa.out 0
         have qD := blk_frozen qa.out 1
         have qE := blk_frozen qa.out 2
         have p109 : 0 ≤ (qc : Int) := of_decide_eq_true (by first | (with_reducible assumption) | assumption)
         have q109 : qc < (l0_0.length : Int) := of_decide_eq_true (by first | (with_reducible assumption) | assumption)
         obtain ⟨qy, e109, qd⟩ := Kd.at_int qh.out qc p109 q109
         cases e109
         replace qd := (HB.out.cell (World.block_lt_of_cell? w _ qd)).trans qd
         replace p109 := eq_true p109
         replace q109 := eq_true q109
         go_wp2_with (first | ((with_reducible refine gate_callee (f := 59) rfl ?_); refine goesL_ (some 26) rfl rfl Tryd.func59 (by kernel_rfl) rfl #[.int .i64 (rd l0_0 qc)] rfl (by (try simp only [List.map_toArray, List.map_cons, List.map_nil]); first | done | rfl | (simp only [List.length_drop, List.length_take]; rfl)) ?_; (with_reducible refine (spec_IsNumber.calls (rd l0_0 qc) true _ A11.out).mono ?_); rintro e w' ⟨rfl, ⟨nd, rfl⟩⟩; refine ⟨_, rfl, ?_⟩))
         go_roundg k2
         case measure => have := HJ1.out; have := HK2.out; omega
         case rel => exact ⟨(wrap64 (qc + 1)), (by first | rfl | (simp; done) | (simp [*]; done)), H', ⟨by have := HJ1.out; have := HK2.out; omega⟩, ⟨kf_ qa⟩, ⟨bb_ HB⟩⟩
        ·
         replace c12 := Bool.eq_false_iff.mpr c12
         subst c12
         have H1 : (some false) = some r := by rw [if_neg (show ¬ (false = true) by decide)] at H; exact H
         clear H
         have H := H1
         clear H1
         obtain rfl := Option.some.inj H
         have qF : wr.cell? ⟨qb, 0, none⟩ = some (.slice A0_0 l0_0.length c0_0) := bc_ qa 0
         have qG : wr.cell? ⟨qb, 1, none⟩ = some (.int .i64 a0_1) := bc_ qa 1
         have qH : wr.cell? ⟨qb, 2, none⟩ = some (.bool a0_2) := bc_ qa 2
         have qI := blk_frozen qa.out 0
         have qJ := blk_frozen qa.out 1
         have qK := blk_frozen qa.out 2
         have p109 : 0 ≤ (qc : Int) := of_decide_eq_true (by first | (with_reducible assumption) | assumption)
         have q109 : qc < (l0_0.length : Int) := of_decide_eq_true (by first | (with_reducible assumption) | assumption)
         obtain ⟨qy, e109, qd⟩ := Kd.at_int qh.out qc p109 q109
         cases e109
         replace qd := (HB.out.cell (World.block_lt_of_cell? w _ qd)).trans qd
         replace p109 := eq_true p109
         replace q109 := eq_true q109
         go_wp2_with (first | ((with_reducible refine gate_callee (f := 59) rfl ?_); refine goesL_ (some 26) rfl rfl Tryd.func59 (by kernel_rfl) rfl #[.int .i64 (rd l0_0 qc)] rfl (by (try simp only [List.map_toArray, List.map_cons, List.map_nil]); first | done | rfl | (simp only [List.length_drop, List.length_take]; rfl)) ?_; (with_reducible refine (spec_IsNumber.calls (rd l0_0 qc) false _ A11.out).mono ?_); rintro e w' ⟨rfl, ⟨nd, rfl⟩⟩; refine ⟨_, rfl, ?_⟩))
         go_ret
         exact ⟨by first | rfl | (simp [errW_none, errW_some] <;> rfl) | (simp [*, errW_none, errW_some] <;> rfl), bb_ HB⟩
       ·
        rw [if_neg c10] at H
        exact absurd H (by simp)
      ·
       rw [if_neg c9] at H
       have qR : decide (qc < (l0_0.length : Int)) = false := decide_eq_false c9
       clear c9
       replace H := Option.bind_eq_some_iff.mp H
       obtain ⟨qv, A150, H⟩ := H
       replace H : (some (decide (qv ≤ 1))) = some r := H
       have A15 := Aside0.mk A150
       clear A150
       obtain rfl := Option.some.inj H
       have qL : wr.cell? ⟨qb, 0, none⟩ = some (.slice A0_0 l0_0.length c0_0) := bc_ qa 0
       have qM : wr.cell? ⟨qb, 1, none⟩ = some (.int .i64 a0_1) := bc_ qa 1
       have qN : wr.cell? ⟨qb, 2, none⟩ = some (.bool a0_2) := bc_ qa 2
       have qO := blk_frozen qa.out 0
       have qP := blk_frozen qa.out 1
       have qQ := blk_frozen qa.out 2
       go_wp2_with (first | ((with_reducible refine gate_callee (f := 87) rfl ?_); refine goesL_ (some 32) rfl rfl Tryd.func87 (by kernel_rfl) rfl #[.slice A0_0 l0_0.length c0_0, .int .i64 a0_1] rfl (by (try simp only [List.map_toArray, List.map_cons, List.map_nil]); first | done | rfl | (simp only [List.length_drop, List.length_take]; rfl)) ?_; (with_reducible refine (spec_l2Gcd.calls k2 _ _ l0_0 a0_1 qv _ ?side1 ?side2 A15.out).mono ?_); (case side1 => exact cb_ qh HB); (case side2 => exact qx.out); rintro e qV ⟨rfl, hb⟩; refine ⟨_, rfl, ?_⟩; replace qa := kB_ qa hb; replace HB := bS_ HB hb; (try clear hb); (try clear hb2); (try clear hk); (try clear hi)))
       go_ret
       exact ⟨by first | rfl | (simp [errW_none, errW_some] <;> rfl) | (simp [*, errW_none, errW_some] <;> rfl), bb_ HB⟩

/-! ### spec_FormatInt: function 50 -/
def spec_FormatInt.l0 : Nat → Int → ByteArray → Int → Option (ByteArray)
 | 0, _, _, _ => none
 | k + 1, x0, x3, x4 => if x4 = 0 then (if x0 = 0 then (some (⟨#[48]⟩ : ByteArray)) else (if x0 < 0 then (if 1 + x3.size ≤ 9223372036854775807 then (some ((⟨#[45]⟩ : ByteArray) ++ x3)) else (none)) else (some x3))) else (if (Int.tmod x4 10) < 0 then (if 0 ≤ (wrap64 (-(Int.tmod x4 10))) then (if (wrap64 (-(Int.tmod x4 10))) ≤ (wrap64 ((wrap64 (-(Int.tmod x4 10))) + 1)) then (if (wrap64 ((wrap64 (-(Int.tmod x4 10))) + 1)) ≤ 10 then (if ((⟨#[48, 49, 50, 51, 52, 53, 54, 55, 56, 57]⟩ : ByteArray).extract ((wrap64 (-(Int.tmod x4 10))) : Int).toNat ((wrap64 ((wrap64 (-(Int.tmod x4 10))) + 1)) : Int).toNat).size + x3.size ≤ 9223372036854775807 then (spec_FormatInt.l0 k x0 (((⟨#[48, 49, 50, 51, 52, 53, 54, 55, 56, 57]⟩ : ByteArray).extract ((wrap64 (-(Int.tmod x4 10))) : Int).toNat ((wrap64 ((wrap64 (-(Int.tmod x4 10))) + 1)) : Int).toNat) ++ x3) (wrap64 (Int.tdiv x4 10))) else (none)) else (none)) else (none)) else (none)) else (if 0 ≤ (Int.tmod x4 10) then (if (Int.tmod x4 10) ≤ (wrap64 ((Int.tmod x4 10) + 1)) then (if (wrap64 ((Int.tmod x4 10) + 1)) ≤ 10 then (if ((⟨#[48, 49, 50, 51, 52, 53, 54, 55, 56, 57]⟩ : ByteArray).extract ((Int.tmod x4 10) : Int).toNat ((wrap64 ((Int.tmod x4 10) + 1)) : Int).toNat).size + x3.size ≤ 9223372036854775807 then (spec_FormatInt.l0 k x0 (((⟨#[48, 49, 50, 51, 52, 53, 54, 55, 56, 57]⟩ : ByteArray).extract ((Int.tmod x4 10) : Int).toNat ((wrap64 ((Int.tmod x4 10) + 1)) : Int).toNat) ++ x3) (wrap64 (Int.tdiv x4 10))) else (none)) else (none)) else (none)) else (none)))
def spec_FormatInt.f (k : Nat) (a0 : Int) : Option (ByteArray) := spec_FormatInt.l0 k a0 (⟨#[]⟩ : ByteArray) a0
theorem spec_FormatInt.mono_l : ∀ k, (∀ y0 y1 y2, LeO (spec_FormatInt.l0 k y0 y1 y2) (spec_FormatInt.l0 (k + 1) y0 y1 y2))
 | 0 => fun _ _ _ r h => by simp [spec_FormatInt.l0] at h
 | k + 1 => by
  have ih0 := spec_FormatInt.mono_l k
  ·
   intro y0 y1 y2
   unfold spec_FormatInt.l0
   repeat' first
   | (with_reducible exact ih0 _ _ _)
   | (with_reducible exact LeO.refl _)
   | (with_reducible exact LeO.none _)
   | (with_reducible refine LeO.ite ?_ ?_)
   | (with_reducible refine LeO.bind ?_ (fun _ => ?_))
   | exact ih0 _ _ _
   | exact LeO.none _
   | refine LeO.ite ?_ ?_
   | refine LeO.bind ?_ (fun _ => ?_)
theorem spec_FormatInt.mono : ∀ a0 k, LeO (spec_FormatInt.f k a0) (spec_FormatInt.f (k + 1) a0) := by
 intro a0 k
 have ih0 := spec_FormatInt.mono_l k
 unfold spec_FormatInt.f
 repeat' first
   | (with_reducible exact ih0 _ _ _)
   | (with_reducible exact LeO.refl _)
   | (with_reducible exact LeO.none _)
   | (with_reducible refine LeO.ite ?_ ?_)
   | (with_reducible refine LeO.bind ?_ (fun _ => ?_))
   | exact ih0 _ _ _
   | exact LeO.none _
   | refine LeO.ite ?_ ?_
   | refine LeO.bind ?_ (fun _ => ?_)
set_option maxHeartbeats 8000000 in
set_option maxRecDepth 100000 in
theorem spec_FormatInt.calls (k : Nat) (a0 : Int) (r : ByteArray) (w : World) (h : spec_FormatInt.f k a0 = some r) :
  Calls Tryd.prog 50 #[.int .i64 a0] w fun e w' => e = .returned (.string r) ∧ Drawn0 w w' := by
 have H : (spec_FormatInt.l0 k a0 (⟨#[]⟩ : ByteArray) a0) = some r := h
 clear h
 have H' := Aside0.mk H
 clear H
 go_enter Tryd.func50, Tryd.ntmps50
 go_wp2
 go_loopg [3, 4] k (fun kq v3 v4 w' => ∃ (qa : ByteArray) (qb : Int), v3 = .string qa ∧ v4 = .int .i64 qb ∧ Aside0 (spec_FormatInt.l0 kq a0 qa qb = some r) ∧ Aside0 (kq ≤ k) ∧ Drawn0 w w')
 case atStart => exact ⟨((⟨#[]⟩ : ByteArray)), (a0), (by first | rfl | (simp; done) | (simp [*]; done)), (by first | rfl | (simp; done) | (simp [*]; done)), H', ⟨Nat.le_refl _⟩, by repeat (first | exact Drawn0.refl _ | apply Drawn0.step)⟩
 case round =>
  clear H'
  obtain ⟨qa, qb, rfl, rfl, HA, HK1, ⟨m1, rfl⟩⟩ := hrel
  cases gk with
  | zero => exact absurd HA.out (by simp [spec_FormatInt.l0])
  | succ k1 =>
   have H := HA.out
   clear HA
   simp only [spec_FormatInt.l0] at H
   by_cases c2 : qb = 0
   ·
    rw [if_pos c2] at H
    have qd : (qb == 0) = true := beq_iff_eq.mpr c2
    have qe : (qb != 0) = false := bne_eq_false_iff_eq.mpr c2
    clear c2
    by_cases c3 : a0 = 0
    ·
     rw [if_pos c3] at H
     have qf : (a0 == 0) = true := beq_iff_eq.mpr c3
     have qg : (a0 != 0) = false := bne_eq_false_iff_eq.mpr c3
     clear c3
     obtain rfl := Option.some.inj H
     go_wp2
     go_ret
     exact ⟨by first | rfl | (simp; done) | (simp [*]; done), by repeat (first | exact Drawn0.refl _ | apply Drawn0.step)⟩
    ·
     rw [if_neg c3] at H
     have qf : (a0 == 0) = false := beq_eq_false_iff_ne.mpr c3
     have qg : (a0 != 0) = true := bne_iff_ne.mpr c3
     by_cases c4 : a0 < 0
     ·
      rw [if_pos c4] at H
      have qh : decide (a0 < 0) = true := decide_eq_true c4
      clear c4
      by_cases c5 : 1 + qa.size ≤ 9223372036854775807
      ·
       rw [if_pos c5] at H
       have qw := eq_true c5
       have qx : decide (1 + qa.size ≤ 9223372036854775807) = true := decide_eq_true c5
       try have qy : (9223372036854775807 < 1 + qa.size) = False := eq_false (Nat.not_lt.2 c5)
       obtain rfl := Option.some.inj H
       go_wp2
       go_ret
       exact ⟨by first | rfl | (simp; done) | (simp [*]; done), by repeat (first | exact Drawn0.refl _ | apply Drawn0.step)⟩
      ·
       rw [if_neg c5] at H
       exact absurd H (by simp)
     ·
      rw [if_neg c4] at H
      have qh : decide (a0 < 0) = false := decide_eq_false c4
      clear c4
      obtain rfl := Option.some.inj H
      go_wp2
      go_ret
      exact ⟨by first | rfl | (simp; done) | (simp [*]; done), by repeat (first | exact Drawn0.refl _ | apply Drawn0.step)⟩
   ·
    rw [if_neg c2] at H
    have qd : (qb == 0) = false := beq_eq_false_iff_ne.mpr c2
    have qe : (qb != 0) = true := bne_iff_ne.mpr c2
    by_cases c6 : (Int.tmod qb 10) < 0
    ·
     rw [if_pos c6] at H
     have qc : decide ((Int.tmod qb 10) < 0) = true := decide_eq_true c6
     clear c6
     obtain ⟨ji7, hji7⟩ : ∃ j_ : Int, (wrap64 (-(Int.tmod qb 10))) = j_ := ⟨_, rfl⟩
     replace H : (if 0 ≤ (ji7) then (if (ji7) ≤ (wrap64 ((ji7) + 1)) then (if (wrap64 ((ji7) + 1)) ≤ 10 then (if ((⟨#[48, 49, 50, 51, 52, 53, 54, 55, 56, 57]⟩ : ByteArray).extract ((ji7) : Int).toNat ((wrap64 ((ji7) + 1)) : Int).toNat).size + qa.size ≤ 9223372036854775807 then (spec_FormatInt.l0 k1 a0 (((⟨#[48, 49, 50, 51, 52, 53, 54, 55, 56, 57]⟩ : ByteArray).extract ((ji7) : Int).toNat ((wrap64 ((ji7) + 1)) : Int).toNat) ++ qa) (wrap64 (Int.tdiv qb 10))) else (none)) else (none)) else (none)) else (none)) = some r := by first | (rw [hji7] at H; exact H) | (simp only [hji7] at H ⊢; exact H)
     have hji7w : (IntKind.i64.wrap (-(Int.tmod qb 10))) = ji7 := (i64_w _).trans hji7
     by_cases c8 : 0 ≤ (ji7)
     ·
      rw [if_pos c8] at H
      have qz := eq_true c8
      have qA : decide (0 ≤ (ji7)) = true := decide_eq_true c8
      clear c8
      by_cases c9 : (ji7) ≤ (wrap64 ((ji7) + 1))
      ·
       rw [if_pos c9] at H
       have qB := eq_true c9
       have qC : decide ((ji7) ≤ (wrap64 ((ji7) + 1))) = true := decide_eq_true c9
       by_cases c10 : (wrap64 ((ji7) + 1)) ≤ 10
       ·
        rw [if_pos c10] at H
        have qi := eq_true c10
        have qj : decide ((wrap64 ((ji7) + 1)) ≤ 10) = true := decide_eq_true c10
        by_cases c11 : ((⟨#[48, 49, 50, 51, 52, 53, 54, 55, 56, 57]⟩ : ByteArray).extract ((ji7) : Int).toNat ((wrap64 ((ji7) + 1)) : Int).toNat).size + qa.size ≤ 9223372036854775807
        ·
         rw [if_pos c11] at H
         have qk := eq_true c11
         have ql : decide (((⟨#[48, 49, 50, 51, 52, 53, 54, 55, 56, 57]⟩ : ByteArray).extract ((ji7) : Int).toNat ((wrap64 ((ji7) + 1)) : Int).toNat).size + qa.size ≤ 9223372036854775807) = true := decide_eq_true c11
         try have qm : (9223372036854775807 < ((⟨#[48, 49, 50, 51, 52, 53, 54, 55, 56, 57]⟩ : ByteArray).extract ((ji7) : Int).toNat ((wrap64 ((ji7) + 1)) : Int).toNat).size + qa.size) = False := eq_false (Nat.not_lt.2 c11)
         have H' := Aside0.mk H
         clear H
         go_wp2
         go_roundg k1
         case measure => have := HK1.out; omega
         case rel => exact ⟨(((⟨#[48, 49, 50, 51, 52, 53, 54, 55, 56, 57]⟩ : ByteArray).extract ((ji7) : Int).toNat ((wrap64 ((ji7) + 1)) : Int).toNat) ++ qa), (wrap64 (Int.tdiv qb 10)), (by first | rfl | (simp; done) | (simp only [← hji7] <;> (first | rfl | simp)) | (simp [*]; done)), (by first | rfl | (simp; done) | (simp [*]; done)), H', ⟨by have := HK1.out; omega⟩, by repeat (first | exact Drawn0.refl _ | apply Drawn0.step)⟩
        ·
         rw [if_neg c11] at H
         exact absurd H (by simp)
       ·
        rw [if_neg c10] at H
        exact absurd H (by simp)
      ·
       rw [if_neg c9] at H
       exact absurd H (by simp)
     ·
      rw [if_neg c8] at H
      exact absurd H (by simp)
    ·
     rw [if_neg c6] at H
     have qc : decide ((Int.tmod qb 10) < 0) = false := decide_eq_false c6
     clear c6
     obtain ⟨ji12, hji12⟩ : ∃ j_ : Int, (Int.tmod qb 10) = j_ := ⟨_, rfl⟩
     replace H : (if 0 ≤ (ji12) then (if (ji12) ≤ (wrap64 ((ji12) + 1)) then (if (wrap64 ((ji12) + 1)) ≤ 10 then (if ((⟨#[48, 49, 50, 51, 52, 53, 54, 55, 56, 57]⟩ : ByteArray).extract ((ji12) : Int).toNat ((wrap64 ((ji12) + 1)) : Int).toNat).size + qa.size ≤ 9223372036854775807 then (spec_FormatInt.l0 k1 a0 (((⟨#[48, 49, 50, 51, 52, 53, 54, 55, 56, 57]⟩ : ByteArray).extract ((ji12) : Int).toNat ((wrap64 ((ji12) + 1)) : Int).toNat) ++ qa) (wrap64 (Int.tdiv qb 10))) else (none)) else (none)) else (none)) else (none)) = some r := by first | (rw [hji12] at H; exact H) | (simp only [hji12] at H ⊢; exact H)
     (try rw [hji12] at qc)
     by_cases c13 : 0 ≤ (ji12)
     ·
      rw [if_pos c13] at H
      have qn := eq_true c13
      have qo : decide (0 ≤ (ji12)) = true := decide_eq_true c13
      clear c13
      by_cases c14 : (ji12) ≤ (wrap64 ((ji12) + 1))
      ·
       rw [if_pos c14] at H
       have qp := eq_true c14
       have qq : decide ((ji12) ≤ (wrap64 ((ji12) + 1))) = true := decide_eq_true c14
       by_cases c15 : (wrap64 ((ji12) + 1)) ≤ 10
       ·
        rw [if_pos c15] at H
        have qr := eq_true c15
        have qs : decide ((wrap64 ((ji12) + 1)) ≤ 10) = true := decide_eq_true c15
        by_cases c16 : ((⟨#[48, 49, 50, 51, 52, 53, 54, 55, 56, 57]⟩ : ByteArray).extract ((ji12) : Int).toNat ((wrap64 ((ji12) + 1)) : Int).toNat).size + qa.size ≤ 9223372036854775807
        ·
         rw [if_pos c16] at H
         have qt := eq_true c16
         have qu : decide (((⟨#[48, 49, 50, 51, 52, 53, 54, 55, 56, 57]⟩ : ByteArray).extract ((ji12) : Int).toNat ((wrap64 ((ji12) + 1)) : Int).toNat).size + qa.size ≤ 9223372036854775807) = true := decide_eq_true c16
         try have qv : (9223372036854775807 < ((⟨#[48, 49, 50, 51, 52, 53, 54, 55, 56, 57]⟩ : ByteArray).extract ((ji12) : Int).toNat ((wrap64 ((ji12) + 1)) : Int).toNat).size + qa.size) = False := eq_false (Nat.not_lt.2 c16)
         have H' := Aside0.mk H
         clear H
         go_wp2
         go_roundg k1
         case measure => have := HK1.out; omega
         case rel => exact ⟨(((⟨#[48, 49, 50, 51, 52, 53, 54, 55, 56, 57]⟩ : ByteArray).extract ((ji12) : Int).toNat ((wrap64 ((ji12) + 1)) : Int).toNat) ++ qa), (wrap64 (Int.tdiv qb 10)), (by first | rfl | (simp; done) | (simp only [← hji12] <;> (first | rfl | simp)) | (simp [*]; done)), (by first | rfl | (simp; done) | (simp [*]; done)), H', ⟨by have := HK1.out; omega⟩, by repeat (first | exact Drawn0.refl _ | apply Drawn0.step)⟩
        ·
         rw [if_neg c16] at H
         exact absurd H (by simp)
       ·
        rw [if_neg c15] at H
        exact absurd H (by simp)
      ·
       rw [if_neg c14] at H
       exact absurd H (by simp)
     ·
      rw [if_neg c13] at H
      exact absurd H (by simp)

/-! ### spec_FormatAtom: function 12 -/
mutual
def spec_FormatAtom.l0 : Nat → ByteArray → Int → List Int → Int → Bool → Option (ByteArray)
 | 0, _, _, _, _, _ => none
 | k + 1, x3, x4, x113000, x113001, x113002 => if x4 < (x113000.length : Int) then (if 0 ≤ x4 then (if (rd x113000 x4) = 0 then (spec_FormatAtom.l0 k x3 (wrap64 (x4 + 1)) x113000 x113001 x113002) else (if (rd x113000 x4) > 0 then (spec_FormatAtom.j1 k x3 x4 (rd x113000 x4) (x3.toList != ([] : List UInt8)) x113000 x113001 x113002) else (spec_FormatAtom.j1 k x3 x4 (rd x113000 x4) false x113000 x113001 x113002))) else (none)) else (if x113001 > 0 then (spec_FormatAtom.j3 k x3 (x3.toList != ([] : List UInt8)) x113000 x113001 x113002) else (spec_FormatAtom.j3 k x3 false x113000 x113001 x113002))
def spec_FormatAtom.j1 : Nat → ByteArray → Int → Int → Bool → List Int → Int → Bool → Option (ByteArray)
 | 0, _, _, _, _, _, _, _ => none
 | k + 1, x3, x4, x5, x28, x113000, x113001, x113002 => if x28 = true then (if x3.size + 1 ≤ 9223372036854775807 then (spec_FormatAtom.j2 k (x3 ++ (⟨#[43]⟩ : ByteArray)) x4 x5 x113000 x113001 x113002) else (none)) else (spec_FormatAtom.j2 k x3 x4 x5 x113000 x113001 x113002)
def spec_FormatAtom.j2 : Nat → ByteArray → Int → Int → List Int → Int → Bool → Option (ByteArray)
 | 0, _, _, _, _, _, _ => none
 | k + 1, x3, x4, x5, x113000, x113001, x113002 => if x5 = (-1) then (if x3.size + 1 ≤ 9223372036854775807 then (if 0 ≤ x4 then (if x4 ≤ (wrap64 (x4 + 1)) then (if (wrap64 (x4 + 1)) ≤ 4 then (if (x3 ++ (⟨#[45]⟩ : ByteArray)).size + ((⟨#[120, 121, 122, 116]⟩ : ByteArray).extract (x4 : Int).toNat ((wrap64 (x4 + 1)) : Int).toNat).size ≤ 9223372036854775807 then (spec_FormatAtom.l0 k ((x3 ++ (⟨#[45]⟩ : ByteArray)) ++ ((⟨#[120, 121, 122, 116]⟩ : ByteArray).extract (x4 : Int).toNat ((wrap64 (x4 + 1)) : Int).toNat)) (wrap64 (x4 + 1)) x113000 x113001 x113002) else (none)) else (none)) else (none)) else (none)) else (none)) else (if x5 = 1 then (if 0 ≤ x4 then (if x4 ≤ (wrap64 (x4 + 1)) then (if (wrap64 (x4 + 1)) ≤ 4 then (if x3.size + ((⟨#[120, 121, 122, 116]⟩ : ByteArray).extract (x4 : Int).toNat ((wrap64 (x4 + 1)) : Int).toNat).size ≤ 9223372036854775807 then (spec_FormatAtom.l0 k (x3 ++ ((⟨#[120, 121, 122, 116]⟩ : ByteArray).extract (x4 : Int).toNat ((wrap64 (x4 + 1)) : Int).toNat)) (wrap64 (x4 + 1)) x113000 x113001 x113002) else (none)) else (none)) else (none)) else (none)) else ((spec_FormatInt.f k x5).bind fun qj => (if x3.size + qj.size ≤ 9223372036854775807 then (if 0 ≤ x4 then (if x4 ≤ (wrap64 (x4 + 1)) then (if (wrap64 (x4 + 1)) ≤ 4 then (if (x3 ++ qj).size + ((⟨#[120, 121, 122, 116]⟩ : ByteArray).extract (x4 : Int).toNat ((wrap64 (x4 + 1)) : Int).toNat).size ≤ 9223372036854775807 then (spec_FormatAtom.l0 k ((x3 ++ qj) ++ ((⟨#[120, 121, 122, 116]⟩ : ByteArray).extract (x4 : Int).toNat ((wrap64 (x4 + 1)) : Int).toNat)) (wrap64 (x4 + 1)) x113000 x113001 x113002) else (none)) else (none)) else (none)) else (none)) else (none))))
def spec_FormatAtom.j3 : Nat → ByteArray → Bool → List Int → Int → Bool → Option (ByteArray)
 | 0, _, _, _, _, _ => none
 | k + 1, x3, x53, x113000, x113001, x113002 => if x53 = true then (if x3.size + 1 ≤ 9223372036854775807 then (spec_FormatAtom.j4 k (x3 ++ (⟨#[43]⟩ : ByteArray)) x113000 x113001 x113002) else (none)) else (spec_FormatAtom.j4 k x3 x113000 x113001 x113002)
def spec_FormatAtom.j4 : Nat → ByteArray → List Int → Int → Bool → Option (ByteArray)
 | 0, _, _, _, _ => none
 | k + 1, x3, x113000, x113001, x113002 => if x113001 = 0 then (spec_FormatAtom.j5 k x3 (x3.toList == ([] : List UInt8)) x113000 x113001 x113002) else (spec_FormatAtom.j5 k x3 true x113000 x113001 x113002)
def spec_FormatAtom.j5 : Nat → ByteArray → Bool → List Int → Int → Bool → Option (ByteArray)
 | 0, _, _, _, _, _ => none
 | k + 1, x3, x62, x113000, x113001, x113002 => if x62 = true then ((spec_FormatInt.f k x113001).bind fun qf => (if x3.size + qf.size ≤ 9223372036854775807 then (if x113002 = true then (if (x3 ++ qf).size + 2 ≤ 9223372036854775807 then (some ((x3 ++ qf) ++ (⟨#[60, 48]⟩ : ByteArray))) else (none)) else (if (x3 ++ qf).size + 3 ≤ 9223372036854775807 then (some ((x3 ++ qf) ++ (⟨#[60, 61, 48]⟩ : ByteArray))) else (none))) else (none))) else (if x113002 = true then (if x3.size + 2 ≤ 9223372036854775807 then (some (x3 ++ (⟨#[60, 48]⟩ : ByteArray))) else (none)) else (if x3.size + 3 ≤ 9223372036854775807 then (some (x3 ++ (⟨#[60, 61, 48]⟩ : ByteArray))) else (none)))
end
def spec_FormatAtom.f (k : Nat) (l0_0 : List Int) (a0_1 : Int) (a0_2 : Bool) : Option (ByteArray) := (spec_IsAtom.f k l0_0 a0_1 a0_2).bind fun za => (if za = true then (spec_FormatAtom.l0 k (⟨#[]⟩ : ByteArray) 0 l0_0 a0_1 a0_2) else (some (⟨#[]⟩ : ByteArray)))
theorem spec_FormatAtom.mono_l : ∀ k, (∀ y0 y1 y2 y3 y4, LeO (spec_FormatAtom.l0 k y0 y1 y2 y3 y4) (spec_FormatAtom.l0 (k + 1) y0 y1 y2 y3 y4)) ∧ (∀ y0 y1 y2 y3 y4 y5 y6, LeO (spec_FormatAtom.j1 k y0 y1 y2 y3 y4 y5 y6) (spec_FormatAtom.j1 (k + 1) y0 y1 y2 y3 y4 y5 y6)) ∧ (∀ y0 y1 y2 y3 y4 y5, LeO (spec_FormatAtom.j2 k y0 y1 y2 y3 y4 y5) (spec_FormatAtom.j2 (k + 1) y0 y1 y2 y3 y4 y5)) ∧ (∀ y0 y1 y2 y3 y4, LeO (spec_FormatAtom.j3 k y0 y1 y2 y3 y4) (spec_FormatAtom.j3 (k + 1) y0 y1 y2 y3 y4)) ∧ (∀ y0 y1 y2 y3, LeO (spec_FormatAtom.j4 k y0 y1 y2 y3) (spec_FormatAtom.j4 (k + 1) y0 y1 y2 y3)) ∧ (∀ y0 y1 y2 y3 y4, LeO (spec_FormatAtom.j5 k y0 y1 y2 y3 y4) (spec_FormatAtom.j5 (k + 1) y0 y1 y2 y3 y4))
 | 0 => ⟨fun _ _ _ _ _ r h => by simp [spec_FormatAtom.l0] at h, fun _ _ _ _ _ _ _ r h => by simp [spec_FormatAtom.j1] at h, fun _ _ _ _ _ _ r h => by simp [spec_FormatAtom.j2] at h, fun _ _ _ _ _ r h => by simp [spec_FormatAtom.j3] at h, fun _ _ _ _ r h => by simp [spec_FormatAtom.j4] at h, fun _ _ _ _ _ r h => by simp [spec_FormatAtom.j5] at h⟩
 | k + 1 => by
  obtain ⟨ih0, ih1, ih2, ih3, ih4, ih5⟩ := spec_FormatAtom.mono_l k
  refine ⟨?_, ?_, ?_, ?_, ?_, ?_⟩
  ·
   intro y0 y1 y2 y3 y4
   unfold spec_FormatAtom.l0
   repeat' first
   | (with_reducible exact ih0 _ _ _ _ _)
   | (with_reducible exact ih1 _ _ _ _ _ _ _)
   | (with_reducible exact ih2 _ _ _ _ _ _)
   | (with_reducible exact ih3 _ _ _ _ _)
   | (with_reducible exact ih4 _ _ _ _)
   | (with_reducible exact ih5 _ _ _ _ _)
   | (with_reducible exact spec_FormatInt.mono _ _)
   | (with_reducible exact spec_IsAtom.mono _ _ _ _)
   | (with_reducible exact LeO.refl _)
   | (with_reducible exact LeO.none _)
   | (with_reducible refine LeO.ite ?_ ?_)
   | (with_reducible refine LeO.bind ?_ (fun _ => ?_))
   | exact ih0 _ _ _ _ _
   | exact ih1 _ _ _ _ _ _ _
   | exact ih2 _ _ _ _ _ _
   | exact ih3 _ _ _ _ _
   | exact ih4 _ _ _ _
   | exact ih5 _ _ _ _ _
   | exact spec_FormatInt.mono _ _
   | exact spec_IsAtom.mono _ _ _ _
   | exact LeO.none _
   | refine LeO.ite ?_ ?_
   | refine LeO.bind ?_ (fun _ => ?_)
  ·
   intro y0 y1 y2 y3 y4 y5 y6
   unfold spec_FormatAtom.j1
   repeat' first
   | (with_reducible exact ih0 _ _ _ _ _)
   | (with_reducible exact ih1 _ _ _ _ _ _ _)
   | (with_reducible exact ih2 _ _ _ _ _ _)
   | (with_reducible exact ih3 _ _ _ _ _)
   | (with_reducible exact ih4 _ _ _ _)
   | (with_reducible exact ih5 _ _ _ _ _)
   | (with_reducible exact spec_FormatInt.mono _ _)
   | (with_reducible exact spec_IsAtom.mono _ _ _ _)
   | (with_reducible exact LeO.refl _)
   | (with_reducible exact LeO.none _)
   | (with_reducible refine LeO.ite ?_ ?_)
   | (with_reducible refine LeO.bind ?_ (fun _ => ?_))
   | exact ih0 _ _ _ _ _
   | exact ih1 _ _ _ _ _ _ _
   | exact ih2 _ _ _ _ _ _
   | exact ih3 _ _ _ _ _
   | exact ih4 _ _ _ _
   | exact ih5 _ _ _ _ _
   | exact spec_FormatInt.mono _ _
   | exact spec_IsAtom.mono _ _ _ _
   | exact LeO.none _
   | refine LeO.ite ?_ ?_
   | refine LeO.bind ?_ (fun _ => ?_)
  ·
   intro y0 y1 y2 y3 y4 y5
   unfold spec_FormatAtom.j2
   repeat' first
   | (with_reducible exact ih0 _ _ _ _ _)
   | (with_reducible exact ih1 _ _ _ _ _ _ _)
   | (with_reducible exact ih2 _ _ _ _ _ _)
   | (with_reducible exact ih3 _ _ _ _ _)
   | (with_reducible exact ih4 _ _ _ _)
   | (with_reducible exact ih5 _ _ _ _ _)
   | (with_reducible exact spec_FormatInt.mono _ _)
   | (with_reducible exact spec_IsAtom.mono _ _ _ _)
   | (with_reducible exact LeO.refl _)
   | (with_reducible exact LeO.none _)
   | (with_reducible refine LeO.ite ?_ ?_)
   | (with_reducible refine LeO.bind ?_ (fun _ => ?_))
   | exact ih0 _ _ _ _ _
   | exact ih1 _ _ _ _ _ _ _
   | exact ih2 _ _ _ _ _ _
   | exact ih3 _ _ _ _ _
   | exact ih4 _ _ _ _
   | exact ih5 _ _ _ _ _
   | exact spec_FormatInt.mono _ _
   | exact spec_IsAtom.mono _ _ _ _
   | exact LeO.none _
   | refine LeO.ite ?_ ?_
   | refine LeO.bind ?_ (fun _ => ?_)
  ·
   intro y0 y1 y2 y3 y4
   unfold spec_FormatAtom.j3
   repeat' first
   | (with_reducible exact ih0 _ _ _ _ _)
   | (with_reducible exact ih1 _ _ _ _ _ _ _)
   | (with_reducible exact ih2 _ _ _ _ _ _)
   | (with_reducible exact ih3 _ _ _ _ _)
   | (with_reducible exact ih4 _ _ _ _)
   | (with_reducible exact ih5 _ _ _ _ _)
   | (with_reducible exact spec_FormatInt.mono _ _)
   | (with_reducible exact spec_IsAtom.mono _ _ _ _)
   | (with_reducible exact LeO.refl _)
   | (with_reducible exact LeO.none _)
   | (with_reducible refine LeO.ite ?_ ?_)
   | (with_reducible refine LeO.bind ?_ (fun _ => ?_))
   | exact ih0 _ _ _ _ _
   | exact ih1 _ _ _ _ _ _ _
   | exact ih2 _ _ _ _ _ _
   | exact ih3 _ _ _ _ _
   | exact ih4 _ _ _ _
   | exact ih5 _ _ _ _ _
   | exact spec_FormatInt.mono _ _
   | exact spec_IsAtom.mono _ _ _ _
   | exact LeO.none _
   | refine LeO.ite ?_ ?_
   | refine LeO.bind ?_ (fun _ => ?_)
  ·
   intro y0 y1 y2 y3
   unfold spec_FormatAtom.j4
   repeat' first
   | (with_reducible exact ih0 _ _ _ _ _)
   | (with_reducible exact ih1 _ _ _ _ _ _ _)
   | (with_reducible exact ih2 _ _ _ _ _ _)
   | (with_reducible exact ih3 _ _ _ _ _)
   | (with_reducible exact ih4 _ _ _ _)
   | (with_reducible exact ih5 _ _ _ _ _)
   | (with_reducible exact spec_FormatInt.mono _ _)
   | (with_reducible exact spec_IsAtom.mono _ _ _ _)
   | (with_reducible exact LeO.refl _)
   | (with_reducible exact LeO.none _)
   | (with_reducible refine LeO.ite ?_ ?_)
   | (with_reducible refine LeO.bind ?_ (fun _ => ?_))
   | exact ih0 _ _ _ _ _
   | exact ih1 _ _ _ _ _ _ _
   | exact ih2 _ _ _ _ _ _
   | exact ih3 _ _ _ _ _
   | exact ih4 _ _ _ _
   | exact ih5 _ _ _ _ _
   | exact spec_FormatInt.mono _ _
   | exact spec_IsAtom.mono _ _ _ _
   | exact LeO.none _
   | refine LeO.ite ?_ ?_
   | refine LeO.bind ?_ (fun _ => ?_)
  ·
   intro y0 y1 y2 y3 y4
   unfold spec_FormatAtom.j5
   repeat' first
   | (with_reducible exact ih0 _ _ _ _ _)
   | (with_reducible exact ih1 _ _ _ _ _ _ _)
   | (with_reducible exact ih2 _ _ _ _ _ _)
   | (with_reducible exact ih3 _ _ _ _ _)
   | (with_reducible exact ih4 _ _ _ _)
   | (with_reducible exact ih5 _ _ _ _ _)
   | (with_reducible exact spec_FormatInt.mono _ _)
   | (with_reducible exact spec_IsAtom.mono _ _ _ _)
   | (with_reducible exact LeO.refl _)
   | (with_reducible exact LeO.none _)
   | (with_reducible refine LeO.ite ?_ ?_)
   | (with_reducible refine LeO.bind ?_ (fun _ => ?_))
   | exact ih0 _ _ _ _ _
   | exact ih1 _ _ _ _ _ _ _
   | exact ih2 _ _ _ _ _ _
   | exact ih3 _ _ _ _ _
   | exact ih4 _ _ _ _
   | exact ih5 _ _ _ _ _
   | exact spec_FormatInt.mono _ _
   | exact spec_IsAtom.mono _ _ _ _
   | exact LeO.none _
   | refine LeO.ite ?_ ?_
   | refine LeO.bind ?_ (fun _ => ?_)
theorem spec_FormatAtom.mono : ∀ a0 a1 a2 k, LeO (spec_FormatAtom.f k a0 a1 a2) (spec_FormatAtom.f (k + 1) a0 a1 a2) := by
 intro a0 a1 a2 k
 obtain ⟨ih0, ih1, ih2, ih3, ih4, ih5⟩ := spec_FormatAtom.mono_l k
 unfold spec_FormatAtom.f
 repeat' first
   | (with_reducible exact ih0 _ _ _ _ _)
   | (with_reducible exact ih1 _ _ _ _ _ _ _)
   | (with_reducible exact ih2 _ _ _ _ _ _)
   | (with_reducible exact ih3 _ _ _ _ _)
   | (with_reducible exact ih4 _ _ _ _)
   | (with_reducible exact ih5 _ _ _ _ _)
   | (with_reducible exact spec_FormatInt.mono _ _)
   | (with_reducible exact spec_IsAtom.mono _ _ _ _)
   | (with_reducible exact LeO.refl _)
   | (with_reducible exact LeO.none _)
   | (with_reducible refine LeO.ite ?_ ?_)
   | (with_reducible refine LeO.bind ?_ (fun _ => ?_))
   | exact ih0 _ _ _ _ _
   | exact ih1 _ _ _ _ _ _ _
   | exact ih2 _ _ _ _ _ _
   | exact ih3 _ _ _ _ _
   | exact ih4 _ _ _ _
   | exact ih5 _ _ _ _ _
   | exact spec_FormatInt.mono _ _
   | exact spec_IsAtom.mono _ _ _ _
   | exact LeO.none _
   | refine LeO.ite ?_ ?_
   | refine LeO.bind ?_ (fun _ => ?_)
set_option maxHeartbeats 8000000 in
set_option maxRecDepth 100000 in
theorem spec_FormatAtom.calls (k : Nat) (A0_0 : Option Addr) (c0_0 : Nat) (l0_0 : List Int) (a0_1 : Int) (a0_2 : Bool) (r : ByteArray) (w : World) (hr0_0 : Kd.C (Kd.int .i64) w A0_0 l0_0.length l0_0) (hc0_0 : l0_0.length ≤ c0_0) (h : spec_FormatAtom.f k l0_0 a0_1 a0_2 = some r) :
  Calls Tryd.prog 12 #[.agg #[.slice A0_0 l0_0.length c0_0, .int .i64 a0_1, .bool a0_2]] w fun e w' => e = .returned (.string r) ∧ Below w.heap.size w w' := by
 have hu27 := Tryd.underlying27
 have qZ := Aside0.mk hr0_0
 have zX := Aside0.mk hc0_0
 clear hr0_0 hc0_0
 have HB := Aside0.mk (Below.refl w.heap.size w)
 have H : ((spec_IsAtom.f k l0_0 a0_1 a0_2).bind fun za => (if za = true then (spec_FormatAtom.l0 k (⟨#[]⟩ : ByteArray) 0 l0_0 a0_1 a0_2) else (some (⟨#[]⟩ : ByteArray)))) = some r := h
 clear h
 replace H := Option.bind_eq_some_iff.mp H
 obtain ⟨za, A20, H⟩ := H
 replace H : (if za = true then (spec_FormatAtom.l0 k (⟨#[]⟩ : ByteArray) 0 l0_0 a0_1 a0_2) else (some (⟨#[]⟩ : ByteArray))) = some r := H
 have A2 := Aside0.mk A20
 clear A20
 by_cases c3 : za = true
 ·
  subst c3
  have H1 : (spec_FormatAtom.l0 k (⟨#[]⟩ : ByteArray) 0 l0_0 a0_1 a0_2) = some r := by rw [if_pos rfl] at H; exact H
  clear H
  have H := H1
  clear H1
  have H' := Aside0.mk H
  clear H
  go_enter Tryd.func12, Tryd.ntmps12
  go_wp2_with (first | ((with_reducible refine gate_dst (N := 1) rfl ?_); refine box_event ?hg (N := 1) ?hd (cs := #[.slice A0_0 l0_0.length c0_0, .int .i64 a0_1, .bool a0_2]) (t := 27) ?hr ?_; (case hd => rfl); (case hg => rfl); (case hr => first | (go_simp; done) | (go_simp; rfl)); intro qc hg w4 hbox hb; have qa := Aside0.mk (hbox); have z2 := Aside0.mk ((by rw [hg]; exact (bz_ HB) : w.heap.size ≤ qc)); have z3 := Aside0.mk ((by rw [hg]; exact (bz_ HB) : w.heap.size ≤ qc)); replace HB := bS_ HB hb; clear hb hbox hg; have qw : w4.cell? ⟨qc, 0, none⟩ = some (.slice A0_0 l0_0.length c0_0) := bc_ qa 0; have qx : w4.cell? ⟨qc, 1, none⟩ = some (.int .i64 a0_1) := bc_ qa 1; have qy : w4.cell? ⟨qc, 2, none⟩ = some (.bool a0_2) := bc_ qa 2; have qz := blk_frozen qa.out 0; have qA := blk_frozen qa.out 1; have qB := blk_frozen qa.out 2) | ((with_reducible refine gate_callee (f := 46) rfl ?_); refine goesL_ (some 7) rfl rfl Tryd.func46 (by kernel_rfl) rfl #[.agg #[.slice A0_0 l0_0.length c0_0, .int .i64 a0_1, .bool a0_2]] rfl (by (try simp only [List.map_toArray, List.map_cons, List.map_nil]); first | done | rfl | (simp only [List.length_drop, List.length_take]; rfl)) ?_; (with_reducible refine (spec_IsAtom.calls k _ _ l0_0 a0_1 a0_2 true _ ?side1 ?side2 A2.out).mono ?_); (case side1 => exact cb_ qZ HB); (case side2 => exact zX.out); rintro e w6 ⟨rfl, hb⟩; refine ⟨_, rfl, ?_⟩; replace qa := kB_ qa hb; replace HB := bS_ HB hb; (try clear hb); (try clear hb2); (try clear hk); (try clear hi)))
  go_loopg [3, 4] k (fun kq v3 v4 w' => ∃ (qh : ByteArray) (qb : Int), v3 = .string qh ∧ v4 = .int .i64 qb ∧ Aside0 (spec_FormatAtom.l0 kq qh qb l0_0 a0_1 a0_2 = some r) ∧ Aside0 (kq ≤ k) ∧ Aside0 (w'.heap[qc]? = some (.cells #[(.slice A0_0 l0_0.length c0_0), .int .i64 a0_1, .bool a0_2] 27 (0, 0))) ∧ Aside0 (Below w.heap.size w w'))
  case atStart => exact ⟨((⟨#[]⟩ : ByteArray)), (0), (by first | rfl | (simp; done) | (simp [*]; done)), (by first | rfl | (simp; done) | (simp [*]; done)), H', ⟨Nat.le_refl _⟩, ⟨kf_ qa⟩, ⟨bb_ HB⟩⟩
  case round =>
   clear H'
   try clear c1
   try clear p2
   try clear c3
   try clear c4
   try clear qw
   try clear qx
   try clear qy
   try clear qz
   try clear qA
   try clear qB
   obtain ⟨qh, qb, rfl, rfl, HA, HK1, qa, HB⟩ := hrel
   cases gk with
   | zero => exact absurd HA.out (by simp [spec_FormatAtom.l0])
   | succ k1 =>
    have H := HA.out
    clear HA
    simp only [spec_FormatAtom.l0] at H
    by_cases c7 : qb < (l0_0.length : Int)
    ·
     rw [if_pos c7] at H
     have zb : decide (qb < (l0_0.length : Int)) = true := decide_eq_true c7
     clear c7
     by_cases c8 : 0 ≤ qb
     ·
      rw [if_pos c8] at H
      have ze : decide (0 ≤ qb) = true := decide_eq_true c8
      clear c8
      by_cases c9 : (rd l0_0 qb) = 0
      ·
       rw [if_pos c9] at H
       have zc : ((rd l0_0 qb) == 0) = true := beq_iff_eq.mpr c9
       have zd : ((rd l0_0 qb) != 0) = false := bne_eq_false_iff_eq.mpr c9
       clear c9
       have H' := Aside0.mk H
       clear H
       have qk : wr.cell? ⟨qc, 0, none⟩ = some (.slice A0_0 l0_0.length c0_0) := bc_ qa 0
       have ql : wr.cell? ⟨qc, 1, none⟩ = some (.int .i64 a0_1) := bc_ qa 1
       have qm : wr.cell? ⟨qc, 2, none⟩ = some (.bool a0_2) := bc_ qa 2
       have qn := blk_frozen qa.out 0
       have qo := blk_frozen qa.out 1
       have qp := blk_frozen qa.out 2
       have p114 : 0 ≤ (qb : Int) := of_decide_eq_true (by first | (with_reducible assumption) | assumption)
       have q114 : qb < (l0_0.length : Int) := of_decide_eq_true (by first | (with_reducible assumption) | assumption)
       obtain ⟨zf, e114, qg⟩ := Kd.at_int qZ.out qb p114 q114
       cases e114
       replace qg := (HB.out.cell (World.block_lt_of_cell? w _ qg)).trans qg
       replace p114 := eq_true p114
       replace q114 := eq_true q114
       go_wp2
       go_roundg k1
       case measure => have := HK1.out; omega
       case rel => exact ⟨(qh), (wrap64 (qb + 1)), (by first | rfl | (simp; done) | (simp [*]; done)), (by first | rfl | (simp; done) | (simp [*]; done)), H', ⟨by have := HK1.out; omega⟩, ⟨kf_ qa⟩, ⟨bb_ HB⟩⟩
      ·
       rw [if_neg c9] at H
       have zc : ((rd l0_0 qb) == 0) = false := beq_eq_false_iff_ne.mpr c9
       have zd : ((rd l0_0 qb) != 0) = true := bne_iff_ne.mpr c9
       have HC11 := Aside0.mk H
       clear H
       have qq : wr.cell? ⟨qc, 0, none⟩ = some (.slice A0_0 l0_0.length c0_0) := bc_ qa 0
       have qr : wr.cell? ⟨qc, 1, none⟩ = some (.int .i64 a0_1) := bc_ qa 1
       have qs : wr.cell? ⟨qc, 2, none⟩ = some (.bool a0_2) := bc_ qa 2
       have qt := blk_frozen qa.out 0
       have qu := blk_frozen qa.out 1
       have qv := blk_frozen qa.out 2
       have p114 : 0 ≤ (qb : Int) := of_decide_eq_true (by first | (with_reducible assumption) | assumption)
       have q114 : qb < (l0_0.length : Int) := of_decide_eq_true (by first | (with_reducible assumption) | assumption)
       obtain ⟨zf, e114, qg⟩ := Kd.at_int qZ.out qb p114 q114
       cases e114
       replace qg := (HB.out.cell (World.block_lt_of_cell? w _ qg)).trans qg
       replace p114 := eq_true p114
       replace q114 := eq_true q114
       go_upto_region 9 with (fail)
       go_cut [28] (fun v28 wc => ∃ (kq : Nat) (qE : Bool), v28 = .bool qE ∧ Aside0 (spec_FormatAtom.j1 kq qh qb (rd l0_0 qb) qE l0_0 a0_1 a0_2 = some r) ∧ Aside0 (kq ≤ k1) ∧ Aside0 (wc.heap[qc]? = some (.cells #[(.slice (some zf) l0_0.length c0_0), .int .i64 a0_1, .bool a0_2] 27 (0, 0))) ∧ Aside0 (Below w.heap.size w wc))
       case first =>
        have H := HC11.out
        clear HC11
        by_cases c13 : (rd l0_0 qb) > 0
        ·
         rw [if_pos c13] at H
         have qi : decide (0 < (rd l0_0 qb)) = true := decide_eq_true c13
         clear c13
         (first | rw [qi] | (simp only [i64_w, i32_w]; rw [qi]) | skip)
         have H' := Aside0.mk H
         clear H
         go_wp2
         go_meet
         case rel => exact ⟨_, ((qh.toList != ([] : List UInt8))), (by first | rfl | (simp; done) | (simp [*]; done) | (simp; exact isE_ _)), H', ⟨by have := HK1.out; first | omega | exact Nat.le_refl _⟩, ⟨kf_ qa⟩, ⟨bb_ HB⟩⟩
        ·
         rw [if_neg c13] at H
         have qi : decide (0 < (rd l0_0 qb)) = false := decide_eq_false c13
         clear c13
         (first | rw [qi] | (simp only [i64_w, i32_w]; rw [qi]) | skip)
         have H' := Aside0.mk H
         clear H
         go_wp2
         go_meet
         case rel => exact ⟨_, (false), (by first | rfl | (simp; done) | (simp [*]; done)), H', ⟨by have := HK1.out; first | omega | exact Nat.le_refl _⟩, ⟨kf_ qa⟩, ⟨bb_ HB⟩⟩
       case rest =>
        clear HC11
        try clear c1
        try clear p1
        try clear q1
        try clear hx1
        try clear p2
        try clear c3
        try clear c4
        try clear p6
        try clear c7
        try clear zb
        try clear c8
        try clear ze
        try clear c9
        try clear zc
        try clear zd
        try clear p11
        try clear q11
        try clear hx11
        try clear c12
        try clear c13
        try clear qi
        try clear qk
        try clear ql
        try clear qm
        try clear qq
        try clear qr
        try clear qs
        try clear qw
        try clear qx
        try clear qy
        try clear qn
        try clear qo
        try clear qp
        try clear qt
        try clear qu
        try clear qv
        try clear qz
        try clear qA
        try clear qB
        try clear qg
        try clear p114
        try clear p2
        try clear q114
        obtain ⟨kq, qE, rfl, HA, HJ10, qa, HB⟩ := hcut
        cases kq with
        | zero => exact absurd HA.out (by simp [spec_FormatAtom.j1])
        | succ kj10 =>
         have H := HA.out
         clear HA
         simp only [spec_FormatAtom.j1] at H
         have HC14 := Aside0.mk H
         clear H
         go_upto_if 28 with (fail)
         go_cut [3] (fun v3 wc => ∃ (kq : Nat) (qe : ByteArray), v3 = .string qe ∧ Aside0 (spec_FormatAtom.j2 kq qe qb (rd l0_0 qb) l0_0 a0_1 a0_2 = some r) ∧ Aside0 (kq ≤ kj10) ∧ Aside0 (wc.heap[qc]? = some (.cells #[(.slice (some zf) l0_0.length c0_0), .int .i64 a0_1, .bool a0_2] 27 (0, 0))) ∧ Aside0 (Below w.heap.size w wc))
         case first =>
          have H := HC14.out
          clear HC14
          by_cases c15 : qE = true
          ·
           subst c15
           have H1 : (if qh.size + 1 ≤ 9223372036854775807 then (spec_FormatAtom.j2 kj10 (qh ++ (⟨#[43]⟩ : ByteArray)) qb (rd l0_0 qb) l0_0 a0_1 a0_2) else (none)) = some r := by rw [if_pos rfl] at H; exact H
           clear H
           have H := H1
           clear H1
           by_cases c16 : qh.size + 1 ≤ 9223372036854775807
           ·
            rw [if_pos c16] at H
            have q0 := eq_true c16
            have q2 : decide (qh.size + 1 ≤ 9223372036854775807) = true := decide_eq_true c16
            try have q3 : (9223372036854775807 < qh.size + 1) = False := eq_false (Nat.not_lt.2 c16)
            have H' := Aside0.mk H
            clear H
            go_wp2
            go_meet
            case rel => exact ⟨_, (qh ++ (⟨#[43]⟩ : ByteArray)), (by first | rfl | (simp; done) | (simp [*]; done)), H', ⟨by have := HK1.out; have := HJ10.out; first | omega | exact Nat.le_refl _⟩, ⟨kf_ qa⟩, ⟨bb_ HB⟩⟩
           ·
            rw [if_neg c16] at H
            exact absurd H (by simp)
          ·
           replace c15 := Bool.eq_false_iff.mpr c15
           subst c15
           have H1 : (spec_FormatAtom.j2 kj10 qh qb (rd l0_0 qb) l0_0 a0_1 a0_2) = some r := by rw [if_neg (show ¬ (false = true) by decide)] at H; exact H
           clear H
           have H := H1
           clear H1
           have H' := Aside0.mk H
           clear H
           go_wp2
           go_meet
           case rel => exact ⟨_, (qh), (by first | rfl | (simp; done) | (simp [*]; done)), H', ⟨by have := HK1.out; have := HJ10.out; first | omega | exact Nat.le_refl _⟩, ⟨kf_ qa⟩, ⟨bb_ HB⟩⟩
         case rest =>
          clear HC14
          try clear c1
          try clear p1
          try clear q1
          try clear hx1
          try clear p2
          try clear c3
          try clear c4
          try clear p6
          try clear c7
          try clear zb
          try clear c8
          try clear ze
          try clear c9
          try clear zc
          try clear zd
          try clear p11
          try clear q11
          try clear hx11
          try clear c12
          try clear c13
          try clear qi
          try clear c15
          try clear c16
          try clear q0
          try clear q2
          try clear q3
          try clear qk
          try clear ql
          try clear qm
          try clear qq
          try clear qr
          try clear qs
          try clear qw
          try clear qx
          try clear qy
          try clear qn
          try clear qo
          try clear qp
          try clear qt
          try clear qu
          try clear qv
          try clear qz
          try clear qA
          try clear qB
          try clear qg
          try clear p1
          try clear p11
          try clear p114
          try clear p2
          try clear p6
          try clear q1
          try clear q11
          try clear q114
          obtain ⟨kq, qe, rfl, HA, HJ13, qa, HB⟩ := hcut
          cases kq with
          | zero => exact absurd HA.out (by simp [spec_FormatAtom.j2])
          | succ kj13 =>
           have H := HA.out
           clear HA
           simp only [spec_FormatAtom.j2] at H
           by_cases c17 : (rd l0_0 qb) = (-1)
           ·
            rw [if_pos c17] at H
            have q4 : ((rd l0_0 qb) == (-1)) = true := beq_iff_eq.mpr c17
            have q5 : ((rd l0_0 qb) != (-1)) = false := bne_eq_false_iff_eq.mpr c17
            clear c17
            by_cases c18 : qe.size + 1 ≤ 9223372036854775807
            ·
             rw [if_pos c18] at H
             have zg := eq_true c18
             have zh : decide (qe.size + 1 ≤ 9223372036854775807) = true := decide_eq_true c18
             try have zi : (9223372036854775807 < qe.size + 1) = False := eq_false (Nat.not_lt.2 c18)
             by_cases c19 : 0 ≤ qb
             ·
              rw [if_pos c19] at H
              have zj := eq_true c19
              have zk : decide (0 ≤ qb) = true := decide_eq_true c19
              clear c19
              by_cases c20 : qb ≤ (wrap64 (qb + 1))
              ·
               rw [if_pos c20] at H
               have zl := eq_true c20
               have zm : decide (qb ≤ (wrap64 (qb + 1))) = true := decide_eq_true c20
               by_cases c21 : (wrap64 (qb + 1)) ≤ 4
               ·
                rw [if_pos c21] at H
                have zn := eq_true c21
                have zo : decide ((wrap64 (qb + 1)) ≤ 4) = true := decide_eq_true c21
                by_cases c22 : (qe ++ (⟨#[45]⟩ : ByteArray)).size + ((⟨#[120, 121, 122, 116]⟩ : ByteArray).extract (qb : Int).toNat ((wrap64 (qb + 1)) : Int).toNat).size ≤ 9223372036854775807
                ·
                 rw [if_pos c22] at H
                 have zp := eq_true c22
                 have zq : decide ((qe ++ (⟨#[45]⟩ : ByteArray)).size + ((⟨#[120, 121, 122, 116]⟩ : ByteArray).extract (qb : Int).toNat ((wrap64 (qb + 1)) : Int).toNat).size ≤ 9223372036854775807) = true := decide_eq_true c22
                 try have q6 : (9223372036854775807 < (qe ++ (⟨#[45]⟩ : ByteArray)).size + ((⟨#[120, 121, 122, 116]⟩ : ByteArray).extract (qb : Int).toNat ((wrap64 (qb + 1)) : Int).toNat).size) = False := eq_false (Nat.not_lt.2 c22)
                 try (have z4 := q6; simp only [ByteArray.size_append, show ∀ c, (ByteArray.mk #[c]).size = 1 from fun _ => rfl, show ∀ c d, (ByteArray.mk #[c, d]).size = 2 from fun _ _ => rfl, show ∀ c d e, (ByteArray.mk #[c, d, e]).size = 3 from fun _ _ _ => rfl] at z4)
                 have H' := Aside0.mk H
                 clear H
                 go_wp2
                 go_roundg kj13
                 case measure => have := HK1.out; have := HJ10.out; have := HJ13.out; omega
                 case rel => exact ⟨((qe ++ (⟨#[45]⟩ : ByteArray)) ++ ((⟨#[120, 121, 122, 116]⟩ : ByteArray).extract (qb : Int).toNat ((wrap64 (qb + 1)) : Int).toNat)), (wrap64 (qb + 1)), (by first | rfl | (simp; done) | (simp [*]; done)), (by first | rfl | (simp; done) | (simp [*]; done)), H', ⟨by have := HK1.out; have := HJ10.out; have := HJ13.out; omega⟩, ⟨kf_ qa⟩, ⟨bb_ HB⟩⟩
                ·
                 rw [if_neg c22] at H
                 exact absurd H (by simp)
               ·
                rw [if_neg c21] at H
                exact absurd H (by simp)
              ·
               rw [if_neg c20] at H
               exact absurd H (by simp)
             ·
              rw [if_neg c19] at H
              exact absurd H (by simp)
            ·
             rw [if_neg c18] at H
             exact absurd H (by simp)
           ·
            rw [if_neg c17] at H
            have q4 : ((rd l0_0 qb) == (-1)) = false := beq_eq_false_iff_ne.mpr c17
            have q5 : ((rd l0_0 qb) != (-1)) = true := bne_iff_ne.mpr c17
            by_cases c23 : (rd l0_0 qb) = 1
            ·
             rw [if_pos c23] at H
             have q7 : ((rd l0_0 qb) == 1) = true := beq_iff_eq.mpr c23
             have q8 : ((rd l0_0 qb) != 1) = false := bne_eq_false_iff_eq.mpr c23
             clear c23
             by_cases c24 : 0 ≤ qb
             ·
              rw [if_pos c24] at H
              have zr := eq_true c24
              have zs : decide (0 ≤ qb) = true := decide_eq_true c24
              clear c24
              by_cases c25 : qb ≤ (wrap64 (qb + 1))
              ·
               rw [if_pos c25] at H
               have zt := eq_true c25
               have zu : decide (qb ≤ (wrap64 (qb + 1))) = true := decide_eq_true c25
               by_cases c26 : (wrap64 (qb + 1)) ≤ 4
               ·
                rw [if_pos c26] at H
                have zv := eq_true c26
                have zw : decide ((wrap64 (qb + 1)) ≤ 4) = true := decide_eq_true c26
                by_cases c27 : qe.size + ((⟨#[120, 121, 122, 116]⟩ : ByteArray).extract (qb : Int).toNat ((wrap64 (qb + 1)) : Int).toNat).size ≤ 9223372036854775807
                ·
                 rw [if_pos c27] at H
                 have zx := eq_true c27
                 have zy : decide (qe.size + ((⟨#[120, 121, 122, 116]⟩ : ByteArray).extract (qb : Int).toNat ((wrap64 (qb + 1)) : Int).toNat).size ≤ 9223372036854775807) = true := decide_eq_true c27
                 try have zz : (9223372036854775807 < qe.size + ((⟨#[120, 121, 122, 116]⟩ : ByteArray).extract (qb : Int).toNat ((wrap64 (qb + 1)) : Int).toNat).size) = False := eq_false (Nat.not_lt.2 c27)
                 have H' := Aside0.mk H
                 clear H
                 go_wp2
                 go_roundg kj13
                 case measure => have := HK1.out; have := HJ10.out; have := HJ13.out; omega
                 case rel => exact ⟨(qe ++ ((⟨#[120, 121, 122, 116]⟩ : ByteArray).extract (qb : Int).toNat ((wrap64 (qb + 1)) : Int).toNat)), (wrap64 (qb + 1)), (by first | rfl | (simp; done) | (simp [*]; done)), (by first | rfl | (simp; done) | (simp [*]; done)), H', ⟨by have := HK1.out; have := HJ10.out; have := HJ13.out; omega⟩, ⟨kf_ qa⟩, ⟨bb_ HB⟩⟩
                ·
                 rw [if_neg c27] at H
                 exact absurd H (by simp)
               ·
                rw [if_neg c26] at H
                exact absurd H (by simp)
              ·
               rw [if_neg c25] at H
               exact absurd H (by simp)
             ·
              rw [if_neg c24] at H
              exact absurd H (by simp)
            ·
             rw [if_neg c23] at H
             have q7 : ((rd l0_0 qb) == 1) = false := beq_eq_false_iff_ne.mpr c23
             have q8 : ((rd l0_0 qb) != 1) = true := bne_iff_ne.mpr c23
             replace H := Option.bind_eq_some_iff.mp H
             obtain ⟨qj, A280, H⟩ := H
             replace H : (if qe.size + qj.size ≤ 9223372036854775807 then (if 0 ≤ qb then (if qb ≤ (wrap64 (qb + 1)) then (if (wrap64 (qb + 1)) ≤ 4 then (if (qe ++ qj).size + ((⟨#[120, 121, 122, 116]⟩ : ByteArray).extract (qb : Int).toNat ((wrap64 (qb + 1)) : Int).toNat).size ≤ 9223372036854775807 then (spec_FormatAtom.l0 kj13 ((qe ++ qj) ++ ((⟨#[120, 121, 122, 116]⟩ : ByteArray).extract (qb : Int).toNat ((wrap64 (qb + 1)) : Int).toNat)) (wrap64 (qb + 1)) l0_0 a0_1 a0_2) else (none)) else (none)) else (none)) else (none)) else (none)) = some r := H
             have A28 := Aside0.mk A280
             clear A280
             by_cases c29 : qe.size + qj.size ≤ 9223372036854775807
             ·
              rw [if_pos c29] at H
              have zA := eq_true c29
              have zB : decide (qe.size + qj.size ≤ 9223372036854775807) = true := decide_eq_true c29
              try have zC : (9223372036854775807 < qe.size + qj.size) = False := eq_false (Nat.not_lt.2 c29)
              by_cases c30 : 0 ≤ qb
              ·
               rw [if_pos c30] at H
               have zD := eq_true c30
               have zE : decide (0 ≤ qb) = true := decide_eq_true c30
               clear c30
               by_cases c31 : qb ≤ (wrap64 (qb + 1))
               ·
                rw [if_pos c31] at H
                have zF := eq_true c31
                have zG : decide (qb ≤ (wrap64 (qb + 1))) = true := decide_eq_true c31
                by_cases c32 : (wrap64 (qb + 1)) ≤ 4
                ·
                 rw [if_pos c32] at H
                 have zH := eq_true c32
                 have zI : decide ((wrap64 (qb + 1)) ≤ 4) = true := decide_eq_true c32
                 by_cases c33 : (qe ++ qj).size + ((⟨#[120, 121, 122, 116]⟩ : ByteArray).extract (qb : Int).toNat ((wrap64 (qb + 1)) : Int).toNat).size ≤ 9223372036854775807
                 ·
                  rw [if_pos c33] at H
                  have zJ := eq_true c33
                  have zK : decide ((qe ++ qj).size + ((⟨#[120, 121, 122, 116]⟩ : ByteArray).extract (qb : Int).toNat ((wrap64 (qb + 1)) : Int).toNat).size ≤ 9223372036854775807) = true := decide_eq_true c33
                  try have q9 : (9223372036854775807 < (qe ++ qj).size + ((⟨#[120, 121, 122, 116]⟩ : ByteArray).extract (qb : Int).toNat ((wrap64 (qb + 1)) : Int).toNat).size) = False := eq_false (Nat.not_lt.2 c33)
                  try (have z5 := q9; simp only [ByteArray.size_append, show ∀ c, (ByteArray.mk #[c]).size = 1 from fun _ => rfl, show ∀ c d, (ByteArray.mk #[c, d]).size = 2 from fun _ _ => rfl, show ∀ c d e, (ByteArray.mk #[c, d, e]).size = 3 from fun _ _ _ => rfl] at z5)
                  have H' := Aside0.mk H
                  clear H
                  go_wp2_with (first | ((with_reducible refine gate_callee (f := 50) rfl ?_); refine goesL_ (some 39) rfl rfl Tryd.func50 (by kernel_rfl) rfl #[.int .i64 (rd l0_0 qb)] rfl (by (try simp only [List.map_toArray, List.map_cons, List.map_nil]); first | done | rfl | (simp only [List.length_drop, List.length_take]; rfl)) ?_; (with_reducible refine (spec_FormatInt.calls kj13 (rd l0_0 qb) qj _ A28.out).mono ?_); rintro e w' ⟨rfl, ⟨nd, rfl⟩⟩; refine ⟨_, rfl, ?_⟩))
                  go_roundg kj13
                  case measure => have := HK1.out; have := HJ10.out; have := HJ13.out; omega
                  case rel => exact ⟨((qe ++ qj) ++ ((⟨#[120, 121, 122, 116]⟩ : ByteArray).extract (qb : Int).toNat ((wrap64 (qb + 1)) : Int).toNat)), (wrap64 (qb + 1)), (by first | rfl | (simp; done) | (simp [*]; done)), (by first | rfl | (simp; done) | (simp [*]; done)), H', ⟨by have := HK1.out; have := HJ10.out; have := HJ13.out; omega⟩, ⟨kf_ qa⟩, ⟨bb_ HB⟩⟩
                 ·
                  rw [if_neg c33] at H
                  exact absurd H (by simp)
                ·
                 rw [if_neg c32] at H
                 exact absurd H (by simp)
               ·
                rw [if_neg c31] at H
                exact absurd H (by simp)
              ·
               rw [if_neg c30] at H
               exact absurd H (by simp)
             ·
              rw [if_neg c29] at H
              exact absurd H (by simp)
     ·
      rw [if_neg c8] at H
      exact absurd H (by simp)
    ·
     rw [if_neg c7] at H
     have zb : decide (qb < (l0_0.length : Int)) = false := decide_eq_false c7
     clear c7
     have HC34 := Aside0.mk H
     clear H
     have qF : wr.cell? ⟨qc, 0, none⟩ = some (.slice A0_0 l0_0.length c0_0) := bc_ qa 0
     have qG : wr.cell? ⟨qc, 1, none⟩ = some (.int .i64 a0_1) := bc_ qa 1
     have qH : wr.cell? ⟨qc, 2, none⟩ = some (.bool a0_2) := bc_ qa 2
     have qI := blk_frozen qa.out 0
     have qJ := blk_frozen qa.out 1
     have qK := blk_frozen qa.out 2
     go_upto_region 16 with (fail)
     go_cut [53] (fun v53 wc => ∃ (kq : Nat) (qL : Bool), v53 = .bool qL ∧ Aside0 (spec_FormatAtom.j3 kq qh qL l0_0 a0_1 a0_2 = some r) ∧ Aside0 (kq ≤ k1) ∧ Aside0 (wc.heap[qc]? = some (.cells #[(.slice A0_0 l0_0.length c0_0), .int .i64 a0_1, .bool a0_2] 27 (0, 0))) ∧ Aside0 (Below w.heap.size w wc))
     case first =>
      have H := HC34.out
      clear HC34
      by_cases c36 : a0_1 > 0
      ·
       rw [if_pos c36] at H
       have qC : decide (0 < a0_1) = true := decide_eq_true c36
       clear c36
       (first | rw [qC] | (simp only [i64_w, i32_w]; rw [qC]) | skip)
       have H' := Aside0.mk H
       clear H
       have qM : wr.cell? ⟨qc, 0, none⟩ = some (.slice A0_0 l0_0.length c0_0) := bc_ qa 0
       have qN : wr.cell? ⟨qc, 1, none⟩ = some (.int .i64 a0_1) := bc_ qa 1
       have qO : wr.cell? ⟨qc, 2, none⟩ = some (.bool a0_2) := bc_ qa 2
       have qP := blk_frozen qa.out 0
       have qQ := blk_frozen qa.out 1
       have qR := blk_frozen qa.out 2
       go_wp2
       go_meet
       case rel => exact ⟨_, ((qh.toList != ([] : List UInt8))), (by first | rfl | (simp; done) | (simp [*]; done) | (simp; exact isE_ _)), H', ⟨by have := HK1.out; first | omega | exact Nat.le_refl _⟩, ⟨kf_ qa⟩, ⟨bb_ HB⟩⟩
      ·
       rw [if_neg c36] at H
       have qC : decide (0 < a0_1) = false := decide_eq_false c36
       clear c36
       (first | rw [qC] | (simp only [i64_w, i32_w]; rw [qC]) | skip)
       have H' := Aside0.mk H
       clear H
       have qS : wr.cell? ⟨qc, 0, none⟩ = some (.slice A0_0 l0_0.length c0_0) := bc_ qa 0
       have qT : wr.cell? ⟨qc, 1, none⟩ = some (.int .i64 a0_1) := bc_ qa 1
       have qU : wr.cell? ⟨qc, 2, none⟩ = some (.bool a0_2) := bc_ qa 2
       have qV := blk_frozen qa.out 0
       have qW := blk_frozen qa.out 1
       have qX := blk_frozen qa.out 2
       go_wp2
       go_meet
       case rel => exact ⟨_, (false), (by first | rfl | (simp; done) | (simp [*]; done)), H', ⟨by have := HK1.out; first | omega | exact Nat.le_refl _⟩, ⟨kf_ qa⟩, ⟨bb_ HB⟩⟩
     case rest =>
      clear HC34
      try clear c1
      try clear p1
      try clear q1
      try clear hx1
      try clear c2
      try clear p2
      try clear c3
      try clear c4
      try clear c5
      try clear p6
      try clear c7
      try clear zb
      try clear c8
      try clear ze
      try clear c9
      try clear zc
      try clear zd
      try clear p11
      try clear q11
      try clear hx11
      try clear c12
      try clear c13
      try clear qi
      try clear c15
      try clear c16
      try clear q0
      try clear q2
      try clear q3
      try clear c17
      try clear q4
      try clear q5
      try clear c18
      try clear zg
      try clear zh
      try clear zi
      try clear c19
      try clear zj
      try clear zk
      try clear c20
      try clear zl
      try clear zm
      try clear c21
      try clear zn
      try clear zo
      try clear c22
      try clear zp
      try clear zq
      try clear q6
      try clear c23
      try clear q7
      try clear q8
      try clear c24
      try clear zr
      try clear zs
      try clear c25
      try clear zt
      try clear zu
      try clear c26
      try clear zv
      try clear zw
      try clear c27
      try clear zx
      try clear zy
      try clear zz
      try clear c29
      try clear zA
      try clear zB
      try clear zC
      try clear c30
      try clear zD
      try clear zE
      try clear c31
      try clear zF
      try clear zG
      try clear c32
      try clear zH
      try clear zI
      try clear c33
      try clear zJ
      try clear zK
      try clear q9
      try clear c36
      try clear qC
      try clear qk
      try clear ql
      try clear qm
      try clear qq
      try clear qr
      try clear qs
      try clear qF
      try clear qG
      try clear qH
      try clear qM
      try clear qN
      try clear qO
      try clear qS
      try clear qT
      try clear qU
      try clear qw
      try clear qx
      try clear qy
      try clear qn
      try clear qo
      try clear qp
      try clear qt
      try clear qu
      try clear qv
      try clear qI
      try clear qJ
      try clear qK
      try clear qP
      try clear qQ
      try clear qR
      try clear qV
      try clear qW
      try clear qX
      try clear qz
      try clear qA
      try clear qB
      try clear qg
      try clear p1
      try clear p11
      try clear p114
      try clear p2
      try clear p6
      try clear q1
      try clear q11
      try clear q114
      obtain ⟨kq, qL, rfl, HA, HJ33, qa, HB⟩ := hcut
      cases kq with
      | zero => exact absurd HA.out (by simp [spec_FormatAtom.j3])
      | succ kj33 =>
       have H := HA.out
       clear HA
       simp only [spec_FormatAtom.j3] at H
       have HC39 := Aside0.mk H
       clear H
       go_upto_if 53 with (fail)
       go_cut [3] (fun v3 wc => ∃ (kq : Nat) (qd : ByteArray), v3 = .string qd ∧ Aside0 (spec_FormatAtom.j4 kq qd l0_0 a0_1 a0_2 = some r) ∧ Aside0 (kq ≤ kj33) ∧ Aside0 (wc.heap[qc]? = some (.cells #[(.slice A0_0 l0_0.length c0_0), .int .i64 a0_1, .bool a0_2] 27 (0, 0))) ∧ Aside0 (Below w.heap.size w wc))
       case first =>
        have H := HC39.out
        clear HC39
        by_cases c40 : qL = true
        ·
         subst c40
         have H1 : (if qh.size + 1 ≤ 9223372036854775807 then (spec_FormatAtom.j4 kj33 (qh ++ (⟨#[43]⟩ : ByteArray)) l0_0 a0_1 a0_2) else (none)) = some r := by rw [if_pos rfl] at H; exact H
         clear H
         have H := H1
         clear H1
         by_cases c41 : qh.size + 1 ≤ 9223372036854775807
         ·
          rw [if_pos c41] at H
          have zY := eq_true c41
          have zZ : decide (qh.size + 1 ≤ 9223372036854775807) = true := decide_eq_true c41
          try have z0 : (9223372036854775807 < qh.size + 1) = False := eq_false (Nat.not_lt.2 c41)
          have H' := Aside0.mk H
          clear H
          go_wp2
          go_meet
          case rel => exact ⟨_, (qh ++ (⟨#[43]⟩ : ByteArray)), (by first | rfl | (simp; done) | (simp [*]; done)), H', ⟨by have := HK1.out; have := HJ33.out; first | omega | exact Nat.le_refl _⟩, ⟨kf_ qa⟩, ⟨bb_ HB⟩⟩
         ·
          rw [if_neg c41] at H
          exact absurd H (by simp)
        ·
         replace c40 := Bool.eq_false_iff.mpr c40
         subst c40
         have H1 : (spec_FormatAtom.j4 kj33 qh l0_0 a0_1 a0_2) = some r := by rw [if_neg (show ¬ (false = true) by decide)] at H; exact H
         clear H
         have H := H1
         clear H1
         have H' := Aside0.mk H
         clear H
         go_wp2
         go_meet
         case rel => exact ⟨_, (qh), (by first | rfl | (simp; done) | (simp [*]; done)), H', ⟨by have := HK1.out; have := HJ33.out; first | omega | exact Nat.le_refl _⟩, ⟨kf_ qa⟩, ⟨bb_ HB⟩⟩
       case rest =>
        clear HC39
        try clear c1
        try clear p1
        try clear q1
        try clear hx1
        try clear c2
        try clear p2
        try clear c3
        try clear c4
        try clear c5
        try clear p6
        try clear c7
        try clear zb
        try clear c8
        try clear ze
        try clear c9
        try clear zc
        try clear zd
        try clear p11
        try clear q11
        try clear hx11
        try clear c12
        try clear c13
        try clear qi
        try clear c15
        try clear c16
        try clear q0
        try clear q2
        try clear q3
        try clear c17
        try clear q4
        try clear q5
        try clear c18
        try clear zg
        try clear zh
        try clear zi
        try clear c19
        try clear zj
        try clear zk
        try clear c20
        try clear zl
        try clear zm
        try clear c21
        try clear zn
        try clear zo
        try clear c22
        try clear zp
        try clear zq
        try clear q6
        try clear c23
        try clear q7
        try clear q8
        try clear c24
        try clear zr
        try clear zs
        try clear c25
        try clear zt
        try clear zu
        try clear c26
        try clear zv
        try clear zw
        try clear c27
        try clear zx
        try clear zy
        try clear zz
        try clear c29
        try clear zA
        try clear zB
        try clear zC
        try clear c30
        try clear zD
        try clear zE
        try clear c31
        try clear zF
        try clear zG
        try clear c32
        try clear zH
        try clear zI
        try clear c33
        try clear zJ
        try clear zK
        try clear q9
        try clear c36
        try clear qC
        try clear c40
        try clear c41
        try clear zY
        try clear zZ
        try clear z0
        try clear qk
        try clear ql
        try clear qm
        try clear qq
        try clear qr
        try clear qs
        try clear qF
        try clear qG
        try clear qH
        try clear qM
        try clear qN
        try clear qO
        try clear qS
        try clear qT
        try clear qU
        try clear qw
        try clear qx
        try clear qy
        try clear qn
        try clear qo
        try clear qp
        try clear qt
        try clear qu
        try clear qv
        try clear qI
        try clear qJ
        try clear qK
        try clear qP
        try clear qQ
        try clear qR
        try clear qV
        try clear qW
        try clear qX
        try clear qz
        try clear qA
        try clear qB
        try clear qg
        try clear p1
        try clear p11
        try clear p114
        try clear p2
        try clear p6
        try clear q1
        try clear q11
        try clear q114
        obtain ⟨kq, qd, rfl, HA, HJ38, qa, HB⟩ := hcut
        cases kq with
        | zero => exact absurd HA.out (by simp [spec_FormatAtom.j4])
        | succ kj38 =>
         have H := HA.out
         clear HA
         simp only [spec_FormatAtom.j4] at H
         have HC42 := Aside0.mk H
         clear H
         go_upto_region 18 with (fail)
         go_cut [62] (fun v62 wc => ∃ (kq : Nat) (qY : Bool), v62 = .bool qY ∧ Aside0 (spec_FormatAtom.j5 kq qd qY l0_0 a0_1 a0_2 = some r) ∧ Aside0 (kq ≤ kj38) ∧ Aside0 (wc.heap[qc]? = some (.cells #[(.slice A0_0 l0_0.length c0_0), .int .i64 a0_1, .bool a0_2] 27 (0, 0))) ∧ Aside0 (Below w.heap.size w wc))
         case first =>
          have H := HC42.out
          clear HC42
          by_cases c43 : a0_1 = 0
          ·
           rw [if_pos c43] at H
           have qD : (a0_1 == 0) = true := beq_iff_eq.mpr c43
           have z1 : (a0_1 != 0) = false := bne_eq_false_iff_eq.mpr c43
           clear c43
           (first | rw [qD] | (simp only [i64_w, i32_w]; rw [qD]) | skip)
           have H' := Aside0.mk H
           clear H
           have zL : wc.cell? ⟨qc, 0, none⟩ = some (.slice A0_0 l0_0.length c0_0) := bc_ qa 0
           have zM : wc.cell? ⟨qc, 1, none⟩ = some (.int .i64 a0_1) := bc_ qa 1
           have zN : wc.cell? ⟨qc, 2, none⟩ = some (.bool a0_2) := bc_ qa 2
           have zO := blk_frozen qa.out 0
           have zP := blk_frozen qa.out 1
           have zQ := blk_frozen qa.out 2
           go_wp2
           go_meet
           case rel => exact ⟨_, ((qd.toList == ([] : List UInt8))), (by first | rfl | (simp; done) | (simp [*]; done)), H', ⟨by have := HK1.out; have := HJ33.out; have := HJ38.out; first | omega | exact Nat.le_refl _⟩, ⟨kf_ qa⟩, ⟨bb_ HB⟩⟩
          ·
           rw [if_neg c43] at H
           have qD : (a0_1 == 0) = false := beq_eq_false_iff_ne.mpr c43
           have z1 : (a0_1 != 0) = true := bne_iff_ne.mpr c43
           (first | rw [qD] | (simp only [i64_w, i32_w]; rw [qD]) | skip)
           have H' := Aside0.mk H
           clear H
           have zR : wc.cell? ⟨qc, 0, none⟩ = some (.slice A0_0 l0_0.length c0_0) := bc_ qa 0
           have zS : wc.cell? ⟨qc, 1, none⟩ = some (.int .i64 a0_1) := bc_ qa 1
           have zT : wc.cell? ⟨qc, 2, none⟩ = some (.bool a0_2) := bc_ qa 2
           have zU := blk_frozen qa.out 0
           have zV := blk_frozen qa.out 1
           have zW := blk_frozen qa.out 2
           go_wp2
           go_meet
           case rel => exact ⟨_, (true), (by first | rfl | (simp; done) | (simp [*]; done)), H', ⟨by have := HK1.out; have := HJ33.out; have := HJ38.out; first | omega | exact Nat.le_refl _⟩, ⟨kf_ qa⟩, ⟨bb_ HB⟩⟩
         case rest =>
          clear HC42
          try clear c1
          try clear p1
          try clear q1
          try clear hx1
          try clear c2
          try clear p2
          try clear c3
          try clear c4
          try clear c5
          try clear p6
          try clear c7
          try clear zb
          try clear c8
          try clear ze
          try clear c9
          try clear zc
          try clear zd
          try clear p11
          try clear q11
          try clear hx11
          try clear c12
          try clear c13
          try clear qi
          try clear c15
          try clear c16
          try clear q0
          try clear q2
          try clear q3
          try clear c17
          try clear q4
          try clear q5
          try clear c18
          try clear zg
          try clear zh
          try clear zi
          try clear c19
          try clear zj
          try clear zk
          try clear c20
          try clear zl
          try clear zm
          try clear c21
          try clear zn
          try clear zo
          try clear c22
          try clear zp
          try clear zq
          try clear q6
          try clear c23
          try clear q7
          try clear q8
          try clear c24
          try clear zr
          try clear zs
          try clear c25
          try clear zt
          try clear zu
          try clear c26
          try clear zv
          try clear zw
          try clear c27
          try clear zx
          try clear zy
          try clear zz
          try clear c29
          try clear zA
          try clear zB
          try clear zC
          try clear c30
          try clear zD
          try clear zE
          try clear c31
          try clear zF
          try clear zG
          try clear c32
          try clear zH
          try clear zI
          try clear c33
          try clear zJ
          try clear zK
          try clear q9
          try clear c36
          try clear qC
          try clear c40
          try clear c41
          try clear zY
          try clear zZ
          try clear z0
          try clear c43
          try clear qD
          try clear z1
          try clear qk
          try clear ql
          try clear qm
          try clear qq
          try clear qr
          try clear qs
          try clear qF
          try clear qG
          try clear qH
          try clear qM
          try clear qN
          try clear qO
          try clear qS
          try clear qT
          try clear qU
          try clear zL
          try clear zM
          try clear zN
          try clear zR
          try clear zS
          try clear zT
          try clear qw
          try clear qx
          try clear qy
          try clear qn
          try clear qo
          try clear qp
          try clear qt
          try clear qu
          try clear qv
          try clear qI
          try clear qJ
          try clear qK
          try clear qP
          try clear qQ
          try clear qR
          try clear qV
          try clear qW
          try clear qX
          try clear zO
          try clear zP
          try clear zQ
          try clear zU
          try clear zV
          try clear zW
          try clear qz
          try clear qA
          try clear qB
          try clear qg
          try clear p1
          try clear p11
          try clear p114
          try clear p2
          try clear p6
          try clear q1
          try clear q11
          try clear q114
          obtain ⟨kq, qY, rfl, HA, HJ41, qa, HB⟩ := hcut
          cases kq with
          | zero => exact absurd HA.out (by simp [spec_FormatAtom.j5])
          | succ kj41 =>
           have H := HA.out
           clear HA
           simp only [spec_FormatAtom.j5] at H
           by_cases c46 : qY = true
           ·
            subst c46
            have H1 : ((spec_FormatInt.f kj41 a0_1).bind fun qf => (if qd.size + qf.size ≤ 9223372036854775807 then (if a0_2 = true then (if (qd ++ qf).size + 2 ≤ 9223372036854775807 then (some ((qd ++ qf) ++ (⟨#[60, 48]⟩ : ByteArray))) else (none)) else (if (qd ++ qf).size + 3 ≤ 9223372036854775807 then (some ((qd ++ qf) ++ (⟨#[60, 61, 48]⟩ : ByteArray))) else (none))) else (none))) = some r := by rw [if_pos rfl] at H; exact H
            clear H
            have H := H1
            clear H1
            replace H := Option.bind_eq_some_iff.mp H
            obtain ⟨qf, A470, H⟩ := H
            replace H : (if qd.size + qf.size ≤ 9223372036854775807 then (if a0_2 = true then (if (qd ++ qf).size + 2 ≤ 9223372036854775807 then (some ((qd ++ qf) ++ (⟨#[60, 48]⟩ : ByteArray))) else (none)) else (if (qd ++ qf).size + 3 ≤ 9223372036854775807 then (some ((qd ++ qf) ++ (⟨#[60, 61, 48]⟩ : ByteArray))) else (none))) else (none)) = some r := H
            have A47 := Aside0.mk A470
            clear A470
            by_cases c48 : qd.size + qf.size ≤ 9223372036854775807
            ·
             rw [if_pos c48] at H
             have jF := eq_true c48
             have jG : decide (qd.size + qf.size ≤ 9223372036854775807) = true := decide_eq_true c48
             try have jH : (9223372036854775807 < qd.size + qf.size) = False := eq_false (Nat.not_lt.2 c48)
             by_cases c49 : a0_2 = true
             ·
              subst c49
              have H1 : (if (qd ++ qf).size + 2 ≤ 9223372036854775807 then (some ((qd ++ qf) ++ (⟨#[60, 48]⟩ : ByteArray))) else (none)) = some r := by rw [if_pos rfl] at H; exact H
              clear H
              have H := H1
              clear H1
              by_cases c50 : (qd ++ qf).size + 2 ≤ 9223372036854775807
              ·
               rw [if_pos c50] at H
               have jI := eq_true c50
               have jJ : decide ((qd ++ qf).size + 2 ≤ 9223372036854775807) = true := decide_eq_true c50
               try have z6 : (9223372036854775807 < (qd ++ qf).size + 2) = False := eq_false (Nat.not_lt.2 c50)
               try (have z7 := z6; simp only [ByteArray.size_append, show ∀ c, (ByteArray.mk #[c]).size = 1 from fun _ => rfl, show ∀ c d, (ByteArray.mk #[c, d]).size = 2 from fun _ _ => rfl, show ∀ c d e, (ByteArray.mk #[c, d, e]).size = 3 from fun _ _ _ => rfl] at z7)
               obtain rfl := Option.some.inj H
               have ja : wc.cell? ⟨qc, 0, none⟩ = some (.slice A0_0 l0_0.length c0_0) := bc_ qa 0
               have jb : wc.cell? ⟨qc, 1, none⟩ = some (.int .i64 a0_1) := bc_ qa 1
               have jc : wc.cell? ⟨qc, 2, none⟩ = some (.bool true) := bc_ qa 2
               have jd := blk_frozen qa.out 0
               have je := blk_frozen qa.out 1
               have jf := blk_frozen qa.out 2
               go_wp2_with (first | ((with_reducible refine gate_callee (f := 50) rfl ?_); refine goesL_ (some 66) rfl rfl Tryd.func50 (by kernel_rfl) rfl #[.int .i64 a0_1] rfl (by (try simp only [List.map_toArray, List.map_cons, List.map_nil]); first | done | rfl | (simp only [List.length_drop, List.length_take]; rfl)) ?_; (with_reducible refine (spec_FormatInt.calls kj41 a0_1 qf _ A47.out).mono ?_); rintro e w' ⟨rfl, ⟨nd, rfl⟩⟩; refine ⟨_, rfl, ?_⟩))
               go_ret
               exact ⟨by first | rfl | (simp [errW_none, errW_some] <;> rfl) | (simp [*, errW_none, errW_some] <;> rfl), bb_ HB⟩
              ·
               rw [if_neg c50] at H
               exact absurd H (by simp)
             ·
              replace c49 := Bool.eq_false_iff.mpr c49
              subst c49
              have H1 : (if (qd ++ qf).size + 3 ≤ 9223372036854775807 then (some ((qd ++ qf) ++ (⟨#[60, 61, 48]⟩ : ByteArray))) else (none)) = some r := by rw [if_neg (show ¬ (false = true) by decide)] at H; exact H
              clear H
              have H := H1
              clear H1
              by_cases c52 : (qd ++ qf).size + 3 ≤ 9223372036854775807
              ·
               rw [if_pos c52] at H
               have jK := eq_true c52
               have jL : decide ((qd ++ qf).size + 3 ≤ 9223372036854775807) = true := decide_eq_true c52
               try have z8 : (9223372036854775807 < (qd ++ qf).size + 3) = False := eq_false (Nat.not_lt.2 c52)
               try (have z9 := z8; simp only [ByteArray.size_append, show ∀ c, (ByteArray.mk #[c]).size = 1 from fun _ => rfl, show ∀ c d, (ByteArray.mk #[c, d]).size = 2 from fun _ _ => rfl, show ∀ c d e, (ByteArray.mk #[c, d, e]).size = 3 from fun _ _ _ => rfl] at z9)
               obtain rfl := Option.some.inj H
               have jg : wc.cell? ⟨qc, 0, none⟩ = some (.slice A0_0 l0_0.length c0_0) := bc_ qa 0
               have jh : wc.cell? ⟨qc, 1, none⟩ = some (.int .i64 a0_1) := bc_ qa 1
               have ji : wc.cell? ⟨qc, 2, none⟩ = some (.bool false) := bc_ qa 2
               have jj := blk_frozen qa.out 0
               have jk := blk_frozen qa.out 1
               have jl := blk_frozen qa.out 2
               go_wp2_with (first | ((with_reducible refine gate_callee (f := 50) rfl ?_); refine goesL_ (some 66) rfl rfl Tryd.func50 (by kernel_rfl) rfl #[.int .i64 a0_1] rfl (by (try simp only [List.map_toArray, List.map_cons, List.map_nil]); first | done | rfl | (simp only [List.length_drop, List.length_take]; rfl)) ?_; (with_reducible refine (spec_FormatInt.calls kj41 a0_1 qf _ A47.out).mono ?_); rintro e w' ⟨rfl, ⟨nd, rfl⟩⟩; refine ⟨_, rfl, ?_⟩))
               go_ret
               exact ⟨by first | rfl | (simp [errW_none, errW_some] <;> rfl) | (simp [*, errW_none, errW_some] <;> rfl), bb_ HB⟩
              ·
               rw [if_neg c52] at H
               exact absurd H (by simp)
            ·
             rw [if_neg c48] at H
             exact absurd H (by simp)
           ·
            replace c46 := Bool.eq_false_iff.mpr c46
            subst c46
            have H1 : (if a0_2 = true then (if qd.size + 2 ≤ 9223372036854775807 then (some (qd ++ (⟨#[60, 48]⟩ : ByteArray))) else (none)) else (if qd.size + 3 ≤ 9223372036854775807 then (some (qd ++ (⟨#[60, 61, 48]⟩ : ByteArray))) else (none))) = some r := by rw [if_neg (show ¬ (false = true) by decide)] at H; exact H
            clear H
            have H := H1
            clear H1
            by_cases c54 : a0_2 = true
            ·
             subst c54
             have H1 : (if qd.size + 2 ≤ 9223372036854775807 then (some (qd ++ (⟨#[60, 48]⟩ : ByteArray))) else (none)) = some r := by rw [if_pos rfl] at H; exact H
             clear H
             have H := H1
             clear H1
             by_cases c55 : qd.size + 2 ≤ 9223372036854775807
             ·
              rw [if_pos c55] at H
              have jM := eq_true c55
              have jN : decide (qd.size + 2 ≤ 9223372036854775807) = true := decide_eq_true c55
              try have jO : (9223372036854775807 < qd.size + 2) = False := eq_false (Nat.not_lt.2 c55)
              obtain rfl := Option.some.inj H
              have jm : wc.cell? ⟨qc, 0, none⟩ = some (.slice A0_0 l0_0.length c0_0) := bc_ qa 0
              have jn : wc.cell? ⟨qc, 1, none⟩ = some (.int .i64 a0_1) := bc_ qa 1
              have jo : wc.cell? ⟨qc, 2, none⟩ = some (.bool true) := bc_ qa 2
              have jp := blk_frozen qa.out 0
              have jq := blk_frozen qa.out 1
              have jr := blk_frozen qa.out 2
              go_wp2
              go_ret
              exact ⟨by first | rfl | (simp [errW_none, errW_some] <;> rfl) | (simp [*, errW_none, errW_some] <;> rfl), bb_ HB⟩
             ·
              rw [if_neg c55] at H
              exact absurd H (by simp)
            ·
             replace c54 := Bool.eq_false_iff.mpr c54
             subst c54
             have H1 : (if qd.size + 3 ≤ 9223372036854775807 then (some (qd ++ (⟨#[60, 61, 48]⟩ : ByteArray))) else (none)) = some r := by rw [if_neg (show ¬ (false = true) by decide)] at H; exact H
             clear H
             have H := H1
             clear H1
             by_cases c57 : qd.size + 3 ≤ 9223372036854775807
             ·
              rw [if_pos c57] at H
              have jP := eq_true c57
              have jQ : decide (qd.size + 3 ≤ 9223372036854775807) = true := decide_eq_true c57
              try have jR : (9223372036854775807 < qd.size + 3) = False := eq_false (Nat.not_lt.2 c57)
              obtain rfl := Option.some.inj H
              have js : wc.cell? ⟨qc, 0, none⟩ = some (.slice A0_0 l0_0.length c0_0) := bc_ qa 0
              have jt : wc.cell? ⟨qc, 1, none⟩ = some (.int .i64 a0_1) := bc_ qa 1
              have ju : wc.cell? ⟨qc, 2, none⟩ = some (.bool false) := bc_ qa 2
              have jv := blk_frozen qa.out 0
              have jw := blk_frozen qa.out 1
              have jx := blk_frozen qa.out 2
              go_wp2
              go_ret
              exact ⟨by first | rfl | (simp [errW_none, errW_some] <;> rfl) | (simp [*, errW_none, errW_some] <;> rfl), bb_ HB⟩
             ·
              rw [if_neg c57] at H
              exact absurd H (by simp)
 ·
  replace c3 := Bool.eq_false_iff.mpr c3
  subst c3
  have H1 : (some (⟨#[]⟩ : ByteArray)) = some r := by rw [if_neg (show ¬ (false = true) by decide)] at H; exact H
  clear H
  have H := H1
  clear H1
  obtain rfl := Option.some.inj H
  go_enter Tryd.func12, Tryd.ntmps12
  go_wp2_with (first | ((with_reducible refine gate_dst (N := 1) rfl ?_); refine box_event ?hg (N := 1) ?hd (cs := #[.slice A0_0 l0_0.length c0_0, .int .i64 a0_1, .bool a0_2]) (t := 27) ?hr ?_; (case hd => rfl); (case hg => rfl); (case hr => first | (go_simp; done) | (go_simp; rfl)); intro qc hg jE hbox hb; have qa := Aside0.mk (hbox); have z2 := Aside0.mk ((by rw [hg]; exact (bz_ HB) : w.heap.size ≤ qc)); have z3 := Aside0.mk ((by rw [hg]; exact (bz_ HB) : w.heap.size ≤ qc)); replace HB := bS_ HB hb; clear hb hbox hg; have jy : jE.cell? ⟨qc, 0, none⟩ = some (.slice A0_0 l0_0.length c0_0) := bc_ qa 0; have jz : jE.cell? ⟨qc, 1, none⟩ = some (.int .i64 a0_1) := bc_ qa 1; have jA : jE.cell? ⟨qc, 2, none⟩ = some (.bool a0_2) := bc_ qa 2; have jB := blk_frozen qa.out 0; have jC := blk_frozen qa.out 1; have jD := blk_frozen qa.out 2) | ((with_reducible refine gate_callee (f := 46) rfl ?_); refine goesL_ (some 7) rfl rfl Tryd.func46 (by kernel_rfl) rfl #[.agg #[.slice A0_0 l0_0.length c0_0, .int .i64 a0_1, .bool a0_2]] rfl (by (try simp only [List.map_toArray, List.map_cons, List.map_nil]); first | done | rfl | (simp only [List.length_drop, List.length_take]; rfl)) ?_; (with_reducible refine (spec_IsAtom.calls k _ _ l0_0 a0_1 a0_2 false _ ?side1 ?side2 A2.out).mono ?_); (case side1 => exact cb_ qZ HB); (case side2 => exact zX.out); rintro e jS ⟨rfl, hb⟩; refine ⟨_, rfl, ?_⟩; replace qa := kB_ qa hb; replace HB := bS_ HB hb; (try clear hb); (try clear hb2); (try clear hk); (try clear hi)))
  go_ret
  exact ⟨by first | rfl | (simp [errW_none, errW_some] <;> rfl) | (simp [*, errW_none, errW_some] <;> rfl), bb_ HB⟩

/-! ### laws_toIntS: function 51 -/
def laws_toIntS.l0 : Nat → List Int → List Int → Int → Option (List Int)
 | 0, _, _, _ => none
 | k + 1, x0, x3, x4 => if x4 < (x0.length : Int) then (if 0 ≤ x4 then (if x4 < (x3.length : Int) then (laws_toIntS.l0 k x0 (x3.set (x4 : Int).toNat (rd x0 x4)) (wrap64 (x4 + 1))) else (none)) else (none)) else (some x3)
def laws_toIntS.f (k : Nat) (l0 : List Int) : Option (List Int) := if 0 ≤ (l0.length : Int) then (if ((l0.length : Int) : Int).toNat ≤ 35184372088832 then (laws_toIntS.l0 k l0 (List.replicate ((l0.length : Int) : Int).toNat 0) 0) else (none)) else (none)
theorem laws_toIntS.mono_l : ∀ k, (∀ y0 y1 y2, LeO (laws_toIntS.l0 k y0 y1 y2) (laws_toIntS.l0 (k + 1) y0 y1 y2))
 | 0 => fun _ _ _ r h => by simp [laws_toIntS.l0] at h
 | k + 1 => by
  have ih0 := laws_toIntS.mono_l k
  ·
   intro y0 y1 y2
   unfold laws_toIntS.l0
   repeat' first
   | (with_reducible exact ih0 _ _ _)
   | (with_reducible exact LeO.refl _)
   | (with_reducible exact LeO.none _)
   | (with_reducible refine LeO.ite ?_ ?_)
   | (with_reducible refine LeO.bind ?_ (fun _ => ?_))
   | exact ih0 _ _ _
   | exact LeO.none _
   | refine LeO.ite ?_ ?_
   | refine LeO.bind ?_ (fun _ => ?_)
theorem laws_toIntS.mono : ∀ a0 k, LeO (laws_toIntS.f k a0) (laws_toIntS.f (k + 1) a0) := by
 intro a0 k
 have ih0 := laws_toIntS.mono_l k
 unfold laws_toIntS.f
 repeat' first
   | (with_reducible exact ih0 _ _ _)
   | (with_reducible exact LeO.refl _)
   | (with_reducible exact LeO.none _)
   | (with_reducible refine LeO.ite ?_ ?_)
   | (with_reducible refine LeO.bind ?_ (fun _ => ?_))
   | exact ih0 _ _ _
   | exact LeO.none _
   | refine LeO.ite ?_ ?_
   | refine LeO.bind ?_ (fun _ => ?_)
set_option maxHeartbeats 8000000 in
set_option maxRecDepth 100000 in
theorem laws_toIntS.calls (k : Nat) (A0 : Option Addr) (c0 : Nat) (l0 : List Int) (r : List Int) (w : World) (hr0 : Kd.C (Kd.int .i64) w A0 l0.length l0) (hc0 : l0.length ≤ c0) (h : laws_toIntS.f k l0 = some r) :
  Calls Tryd.prog 51 #[.slice A0 l0.length c0] w fun e w' => ∃ v0_ : Value, e = .returned (v0_) ∧ Kd.R (Kd.int .i64) 3 w' w.heap.size (fun _ => True) v0_ r ∧ Below w.heap.size w w' := by
 have HR0 := Aside0.mk hr0
 have HC0 := Aside0.mk hc0
 clear hr0 hc0
 have HB := Aside0.mk (Below.refl w.heap.size w)
 have H : (if 0 ≤ (l0.length : Int) then (if ((l0.length : Int) : Int).toNat ≤ 35184372088832 then (laws_toIntS.l0 k l0 (List.replicate ((l0.length : Int) : Int).toNat 0) 0) else (none)) else (none)) = some r := h
 clear h
 by_cases c2 : 0 ≤ (l0.length : Int)
 ·
  rw [if_pos c2] at H
  have qg := eq_true c2
  have qh : decide (0 ≤ (l0.length : Int)) = true := decide_eq_true c2
  clear c2
  by_cases c3 : ((l0.length : Int) : Int).toNat ≤ 35184372088832
  ·
   rw [if_pos c3] at H
   have qi := eq_true c3
   have qj : decide (((l0.length : Int) : Int).toNat ≤ 35184372088832) = true := decide_eq_true c3
   clear c3
   obtain ⟨y117, hy117⟩ : ∃ y_ : List Int, y_ = (List.replicate ((l0.length : Int) : Int).toNat 0) := ⟨_, rfl⟩
   replace H : (laws_toIntS.l0 k l0 y117 0) = some r := by first | (rw [hy117]; with_reducible exact H) | (have H2_ := (Option.bind_some _ _).symm.trans H; rw [hy117]; with_reducible exact H2_) | (have H2_ := (Option.bind_some _ _).symm.trans H; with_reducible exact H2_) | with_reducible exact H | (rw [hy117]; exact H) | exact H
   have Ny117 := Aside0.mk hy117
   clear hy117
   have H' := Aside0.mk H
   clear H
   go_enter Tryd.func51, Tryd.ntmps51
   go_wp2_with (first | ((with_reducible refine gate_dst (N := 7) rfl ?_); refine Kd.R_make (Kd.int .i64) _ 3 rfl (N := 7) rfl 22 _ _ rfl (l0.length : Int) rfl rfl Tryd.underlying22 (.int .i64 0) 8 info3 rfl (by decide) (by omega) 0 (ok := fun _ => True) (okp := fun _ => True) rfl (fun _ hk => hk) trivial (of_decide_eq_true (by first | (with_reducible assumption) | assumption)) (Nat.le_trans (Nat.mul_le_mul_right _ (of_decide_eq_true (by first | (with_reducible assumption) | assumption) : (l0.length : Int).toNat ≤ 35184372088832)) (by omega)) (Below.refl _ _) (Nat.le_refl _) ?_; intro qk w4 ho5 hb hg_ hnew_; clear hg_ hnew_; (first | rw [← Ny117.out] at ho5 | (simp only [Int.reduceToNat] at ho5; rw [← Ny117.out] at ho5)); have qf := Aside0.mk (Kd.R_lower ho5 (bz_ HB)); replace HB := bS_ HB hb; clear hb ho5))
   go_loopg [4] k (fun kq v4 w' => ∃ (qc : List Int) (qa : Int), v4 = .int .i64 qa ∧ Aside0 (laws_toIntS.l0 kq l0 qc qa = some r) ∧ Aside0 (kq ≤ k) ∧ Aside0 (Kd.R (Kd.int .i64) 3 w' w.heap.size (fun _ => True) qk qc) ∧ Aside0 (Below w.heap.size w w'))
   case atStart => exact ⟨(y117), (0), (by first | rfl | (simp; done) | (simp [*]; done)), H', ⟨Nat.le_refl _⟩, ⟨by (with_reducible repeat (first | apply Kd.R_alloc | apply Kd.R_drewN | apply Kd.R_drew)); exact qf.out⟩, ⟨bb_ HB⟩⟩
   case round =>
    clear H'
    try clear c2
    try clear qg
    try clear qh
    try clear p2
    try clear c3
    try clear qi
    try clear qj
    try clear c5
    obtain ⟨qc, qa, rfl, HA, HK1, qd, HB⟩ := hrel
    cases gk with
    | zero => exact absurd HA.out (by simp [laws_toIntS.l0])
    | succ k1 =>
     have H := HA.out
     clear HA
     simp only [laws_toIntS.l0] at H
     by_cases c6 : qa < (l0.length : Int)
     ·
      rw [if_pos c6] at H
      have ql : decide (qa < (l0.length : Int)) = true := decide_eq_true c6
      clear c6
      by_cases c7 : 0 ≤ qa
      ·
       rw [if_pos c7] at H
       have qq : decide (0 ≤ qa) = true := decide_eq_true c7
       clear c7
       by_cases c8 : qa < (qc.length : Int)
       ·
        rw [if_pos c8] at H
        have qr : decide (qa < (qc.length : Int)) = true := decide_eq_true c8
        clear c8
        obtain ⟨y121, hy121⟩ : ∃ y_ : List Int, y_ = (qc.set (qa : Int).toNat (rd l0 qa)) := ⟨_, rfl⟩
        replace H : (laws_toIntS.l0 k1 l0 y121 (wrap64 (qa + 1))) = some r := by first | (rw [hy121]; with_reducible exact H) | (have H2_ := (Option.bind_some _ _).symm.trans H; rw [hy121]; with_reducible exact H2_) | (have H2_ := (Option.bind_some _ _).symm.trans H; with_reducible exact H2_) | with_reducible exact H | (rw [hy121]; exact H) | exact H
        have Ny121 := Aside0.mk hy121
        clear hy121
        have H' := Aside0.mk H
        clear H
        have p120 : 0 ≤ (qa : Int) := of_decide_eq_true (by first | (with_reducible assumption) | assumption)
        have q120 : qa < (l0.length : Int) := of_decide_eq_true (by first | (with_reducible assumption) | assumption)
        obtain ⟨qn, e120, qb⟩ := Kd.at_int HR0.out qa p120 q120
        cases e120
        replace qb := (HB.out.cell (World.block_lt_of_cell? w _ qb)).trans qb
        replace p120 := eq_true p120
        replace q120 := eq_true q120
        have p9 : 0 ≤ (qa : Int) := of_decide_eq_true (by first | (with_reducible assumption) | assumption)
        have q9 : (qa : Int) < ((qc.length : Int) : Int) := of_decide_eq_true (by first | (with_reducible assumption) | assumption)
        obtain ⟨go9, qs, eo9, qo, gl9, cl9, HG9⟩ := Kd.R_form qd.out (by omega)
        (first | cases eo9 | (injection eo9 with ea_ en_ ec_; (first | subst ea_ | (injection ea_ with ea_; subst ea_)); subst ec_; clear en_))
        have qt := Aside0.mk qo
        have qu := Aside0.mk HG9
        clear qo gl9 HG9
        obtain ⟨qp, hf9_0⟩ := Kd.R_celln 0 qd.out (qa : Int) p9 q9
        replace p9 := eq_true p9
        replace q9 := eq_true q9
        have qe := Kd.R_putg qd.out (qa : Int) (rd l0 qa)
        go_wp2_with (first | ((with_reducible refine gate_store (t := 3) (p := 20) rfl ?_); refine store_event (t := 3) (p := 20) (v := ?vo_w11) (w1 := (wr.setCell ⟨go9, (qa : Int).toNat, none⟩ (.int .i64 (rd l0 qa)))) ?hg ?ho ?hn ?hr ?_; (case ho => rfl); (case hg => rfl); (case hn => rfl); (case hr => first | (go_simp; done) | (go_simp; rfl)); intro qm hw; have hg : wr.grownBy qm (some go9) := (by rw [hw]; exact qe.2); have hp_ : Kd.R (Kd.int .i64) 3 qm w.heap.size (fun _ => True) (.slice (some ⟨go9, 0, none⟩) qc.length qs) y121 := (by rw [hw, Ny121.out]; exact qe.1); clear qe; replace qd := Aside0.mk (hp_); replace HB := Aside0.mk ((by rw [hw]; exact below_set (HB.out) qt.out : Below w.heap.size w qm)); clear hg hw hp_))
        go_roundg k1
        case measure => have := HK1.out; omega
        case rel => exact ⟨(y121), (wrap64 (qa + 1)), (by first | rfl | (simp; done) | (simp [*]; done)), H', ⟨by have := HK1.out; omega⟩, ⟨by (with_reducible repeat (first | apply Kd.R_alloc | apply Kd.R_drewN | apply Kd.R_drew)); exact qd.out⟩, ⟨bb_ HB⟩⟩
       ·
        rw [if_neg c8] at H
        exact absurd H (by simp)
      ·
       rw [if_neg c7] at H
       exact absurd H (by simp)
     ·
      rw [if_neg c6] at H
      have ql : decide (qa < (l0.length : Int)) = false := decide_eq_false c6
      clear c6
      obtain rfl := Option.some.inj H
      go_wp2
      go_ret
      exact ⟨_, by first | rfl | (simp [errW_none, errW_some] <;> rfl) | (simp [*, errW_none, errW_some] <;> rfl), by (with_reducible repeat (first | apply Kd.R_alloc | apply Kd.R_drewN | apply Kd.R_drew)); exact qd.out, bb_ HB⟩
  ·
   rw [if_neg c3] at H
   exact absurd H (by simp)
 ·
  rw [if_neg c2] at H
  exact absurd H (by simp)

/-! ### laws_toAtom: function 13 -/
def laws_toAtom.f (k : Nat) (l0_0 : List Int) (a0_1 : Int) (a0_2 : Bool) : Option (List Int × Int × Bool) := (laws_toIntS.f k l0_0).bind fun qh => (some (qh, a0_1, a0_2))
theorem laws_toAtom.mono : ∀ a0 a1 a2 k, LeO (laws_toAtom.f k a0 a1 a2) (laws_toAtom.f (k + 1) a0 a1 a2) := by
 intro a0 a1 a2 k
 unfold laws_toAtom.f
 repeat' first
   | (with_reducible exact laws_toIntS.mono _ _)
   | (with_reducible exact LeO.refl _)
   | (with_reducible exact LeO.none _)
   | (with_reducible refine LeO.ite ?_ ?_)
   | (with_reducible refine LeO.bind ?_ (fun _ => ?_))
   | exact laws_toIntS.mono _ _
   | exact LeO.none _
   | refine LeO.ite ?_ ?_
   | refine LeO.bind ?_ (fun _ => ?_)
set_option maxHeartbeats 8000000 in
set_option maxRecDepth 100000 in
theorem laws_toAtom.calls (k : Nat) (A0_0 : Option Addr) (c0_0 : Nat) (l0_0 : List Int) (a0_1 : Int) (a0_2 : Bool) (r1 : List Int) (r2 : Int) (r3 : Bool) (w : World) (hr0_0 : Kd.C (Kd.int .i64) w A0_0 l0_0.length l0_0) (hc0_0 : l0_0.length ≤ c0_0) (h : laws_toAtom.f k l0_0 a0_1 a0_2 = some (r1, r2, r3)) :
  Calls Tryd.prog 13 #[.agg #[.slice A0_0 l0_0.length c0_0, .int .i64 a0_1, .bool a0_2]] w fun e w' => ∃ v0_ : Value, e = .returned (.agg #[v0_, .int .i64 r2, .bool r3]) ∧ Kd.R (Kd.int .i64) 3 w' w.heap.size (fun _ => True) v0_ r1 ∧ Below w.heap.size w w' := by
 have hu24 := Tryd.underlying24
 have hu27 := Tryd.underlying27
 have qq := Aside0.mk hr0_0
 have qr := Aside0.mk hc0_0
 clear hr0_0 hc0_0
 have HB := Aside0.mk (Below.refl w.heap.size w)
 have H : ((laws_toIntS.f k l0_0).bind fun qh => (some (qh, a0_1, a0_2))) = some (r1, r2, r3) := h
 clear h
 replace H := Option.bind_eq_some_iff.mp H
 obtain ⟨qh, A20, H⟩ := H
 replace H : (some (qh, a0_1, a0_2)) = some (r1, r2, r3) := H
 have A2 := Aside0.mk A20
 clear A20
 simp only [Option.some.injEq, Prod.mk.injEq] at H
 obtain ⟨rfl, rfl, rfl⟩ := H
 go_enter Tryd.func13, Tryd.ntmps13
 go_wp2_with (first | ((with_reducible refine gate_dst (N := 1) rfl ?_); refine box_event ?hg (N := 1) ?hd (cs := #[.slice A0_0 l0_0.length c0_0, .int .i64 a0_1, .bool a0_2]) (t := 24) ?hr ?_; (case hd => rfl); (case hg => rfl); (case hr => first | (go_simp; done) | (go_simp; rfl)); intro qd hg w3 hbox hb; have qa := Aside0.mk (hbox); have qQ := Aside0.mk ((by rw [hg]; exact (bz_ HB) : w.heap.size ≤ qd)); have qR := Aside0.mk ((by rw [hg]; exact (bz_ HB) : w.heap.size ≤ qd)); replace HB := bS_ HB hb; clear hb hbox hg) | ((with_reducible refine gate_dst (N := 2) rfl ?_); refine box_event ?hg (N := 2) ?hd (cs := #[.slice none 0 0, .int .i64 0, .bool false]) (t := 27) ?hr ?_; (case hd => rfl); (case hg => rfl); (case hr => first | (go_simp; done) | (go_simp; rfl)); intro qc hg w4 hbox hb; have qb := Aside0.mk (hbox); have qS := Aside0.mk ((by rw [hg]; exact (bz_ HB) : w.heap.size ≤ qc)); have qT := Aside0.mk ((by rw [hg]; exact (bz_ HB) : w.heap.size ≤ qc)); replace HB := bS_ HB hb; have qi := Aside0.mk ((nl_ qa hg : qd ≠ qc)); have qj := Aside0.mk ((ng_ qa hg : qc ≠ qd)); replace qa := kB_ qa hb; clear hb hbox hg) | ((with_reducible refine gate_dst (N := 3) rfl ?_); refine box_event ?hg (N := 3) ?hd (cs := #[.slice none 0 0, .int .i64 0, .bool false]) (t := 27) ?hr ?_; (case hd => rfl); (case hg => rfl); (case hr => first | (go_simp; done) | (go_simp; rfl)); intro qe hg w5 hbox hb; have qg := Aside0.mk (hbox); have qU := Aside0.mk ((by rw [hg]; exact (bz_ HB) : w.heap.size ≤ qe)); have qV := Aside0.mk ((by rw [hg]; exact (bz_ HB) : w.heap.size ≤ qe)); replace HB := bS_ HB hb; have qk := Aside0.mk ((nl_ qa hg : qd ≠ qe)); have ql := Aside0.mk ((ng_ qa hg : qe ≠ qd)); replace qa := kB_ qa hb; have qf := Aside0.mk ((nl_ qb hg : qc ≠ qe)); have qm := Aside0.mk ((ng_ qb hg : qe ≠ qc)); replace qb := kB_ qb hb; clear hb hbox hg; have qY := qi.out; have qZ := qj.out; have q0 := qk.out; have q1 := ql.out; have qK : w5.cell? ⟨qd, 0, none⟩ = some (.slice A0_0 l0_0.length c0_0) := bc_ qa 0; have qL : w5.cell? ⟨qd, 1, none⟩ = some (.int .i64 a0_1) := bc_ qa 1; have qM : w5.cell? ⟨qd, 2, none⟩ = some (.bool a0_2) := bc_ qa 2; have qN := blk_frozen qa.out 0; have qO := blk_frozen qa.out 1; have qP := blk_frozen qa.out 2) | ((with_reducible refine gate_callee (f := 51) rfl ?_); refine goesL_ (some 6) rfl rfl Tryd.func51 (by kernel_rfl) rfl #[.slice A0_0 l0_0.length c0_0] rfl (by (try simp only [List.map_toArray, List.map_cons, List.map_nil]); first | done | rfl | (simp only [List.length_drop, List.length_take]; rfl)) ?_; (with_reducible refine (laws_toIntS.calls k _ _ l0_0 qh _ ?side1 ?side2 A2.out).mono ?_); (case side1 => exact cb_ qq HB); (case side2 => exact qr.out); rintro e w9 ⟨q2, rfl, ho0, hb⟩; refine ⟨_, rfl, ?_⟩; have qp := Aside0.mk (Kd.R_lower ho0 (bz_ HB)); replace qa := kB_ qa hb; replace qb := kB_ qb hb; replace qg := kB_ qg hb; replace HB := bS_ HB hb; (try clear hb); (try clear hb2); (try clear hk); (try clear hi); (try clear ho0); obtain ⟨qn, qo, eo10⟩ := Kd.R_slice qp.out; subst eo10; have qW := qm.out; have qX := qf.out; have qs : w9.cell? ⟨qe, 0, none⟩ = some (.slice none 0 0) := bc_ qg 0; have qt : w9.cell? ⟨qe, 1, none⟩ = some (.int .i64 0) := bc_ qg 1; have qu : w9.cell? ⟨qe, 2, none⟩ = some (.bool false) := bc_ qg 2; have qv := blk_frozen qg.out 0; have qw := blk_frozen qg.out 1; have qx := blk_frozen qg.out 2; have qy : w9.cell? ⟨qd, 0, none⟩ = some (.slice A0_0 l0_0.length c0_0) := bc_ qa 0; have qz : w9.cell? ⟨qd, 1, none⟩ = some (.int .i64 a0_1) := bc_ qa 1; have qA : w9.cell? ⟨qd, 2, none⟩ = some (.bool a0_2) := bc_ qa 2; have qB := blk_frozen qa.out 0; have qC := blk_frozen qa.out 1; have qD := blk_frozen qa.out 2; have qE : w9.cell? ⟨qc, 0, none⟩ = some (.slice none 0 0) := bc_ qb 0; have qF : w9.cell? ⟨qc, 1, none⟩ = some (.int .i64 0) := bc_ qb 1; have qG : w9.cell? ⟨qc, 2, none⟩ = some (.bool false) := bc_ qb 2; have qH := blk_frozen qb.out 0; have qI := blk_frozen qb.out 1; have qJ := blk_frozen qb.out 2))
 refine bodyPost_ret (results_cell_row rfl _ _ qc 27 #[.slice qn qh.length qo, .int .i64 a0_1, .bool a0_2] (0, 0) _ rfl (by (with_reducible repeat (first | refine blk_drewN ?_ _ | refine blk_drew ?_ | refine blk_alloc ?_ _)); refine blk_put (cs := #[.slice qn qh.length qo, .int .i64 a0_1, .bool false]) ?_ 2 _ rfl; (with_reducible repeat (first | refine blk_drewN ?_ _ | refine blk_drew ?_ | refine blk_alloc ?_ _)); refine blk_put (cs := #[.slice qn qh.length qo, .int .i64 0, .bool false]) ?_ 1 _ rfl; (with_reducible repeat (first | refine blk_drewN ?_ _ | refine blk_drew ?_ | refine blk_alloc ?_ _)); refine blk_put (cs := #[.slice none 0 0, .int .i64 0, .bool false]) ?_ 0 _ rfl; (with_reducible repeat (first | refine blk_drewN ?_ _ | refine blk_drew ?_ | refine blk_alloc ?_ _)); refine blk_far ?_ qf.out _; (with_reducible repeat (first | refine blk_drewN ?_ _ | refine blk_drew ?_ | refine blk_alloc ?_ _)); refine blk_far ?_ qf.out _; (with_reducible repeat (first | refine blk_drewN ?_ _ | refine blk_drew ?_ | refine blk_alloc ?_ _)); refine blk_far ?_ qf.out _; (with_reducible repeat (first | refine blk_drewN ?_ _ | refine blk_drew ?_ | refine blk_alloc ?_ _)); exact qb.out) Tryd.underlying27 rfl (by kernel_rfl)) rfl ?_
 exact ⟨_, by first | rfl | (simp [errW_none, errW_some] <;> rfl) | (simp [*, errW_none, errW_some] <;> rfl), by (with_reducible repeat (first | apply Kd.R_alloc | apply Kd.R_drewN | apply Kd.R_drew)); exact Kd.R_mono (Kd.R_far (p := ⟨qc, 2, none⟩) (Kd.R_far (p := ⟨qc, 1, none⟩) (Kd.R_far (p := ⟨qc, 0, none⟩) (Kd.R_far (p := ⟨qe, 2, none⟩) (Kd.R_far (p := ⟨qe, 1, none⟩) (Kd.R_far (p := ⟨qe, 0, none⟩) (Kd.R_types (Kd.R_types qp.out qg.out (by decide)) qb.out (by decide)) (fun _ hk => hk.1.2) (.slice qn qh.length qo)) (fun _ hk => hk.1.2) (.int .i64 a0_1)) (fun _ hk => hk.1.2) (.bool a0_2)) (fun _ hk => hk.2) (.slice qn qh.length qo)) (fun _ hk => hk.2) (.int .i64 a0_1)) (fun _ hk => hk.2) (.bool a0_2)) (fun _ hk => trivial), bb_ HB⟩

/-! ### impl_IsNumber: function 61 -/
def impl_IsNumber.f (a0 : Int) : Option (Bool) := if a0 ≥ (-400000000) then (some (decide (a0 ≤ 400000000))) else (some false)
set_option maxHeartbeats 8000000 in
set_option maxRecDepth 100000 in
theorem impl_IsNumber.calls (a0 : Int) (r : Bool) (w : World) (h : impl_IsNumber.f a0 = some r) :
  Calls Tryd.prog 61 #[.int .i64 a0] w fun e w' => e = .returned (.bool r) ∧ Drawn0 w w' := by
 have H : (if a0 ≥ (-400000000) then (some (decide (a0 ≤ 400000000))) else (some false)) = some r := h
 clear h
 by_cases c2 : a0 ≥ (-400000000)
 ·
  rw [if_pos c2] at H
  have qa : decide ((-400000000) ≤ a0) = true := decide_eq_true c2
  clear c2
  obtain rfl := Option.some.inj H
  go_enter Tryd.func61, Tryd.ntmps61
  go_wp2
  go_ret
  exact ⟨by first | rfl | (simp; done) | (simp [*]; done), by repeat (first | exact Drawn0.refl _ | apply Drawn0.step)⟩
 ·
  rw [if_neg c2] at H
  have qa : decide ((-400000000) ≤ a0) = false := decide_eq_false c2
  clear c2
  obtain rfl := Option.some.inj H
  go_enter Tryd.func61, Tryd.ntmps61
  go_wp2
  go_ret
  exact ⟨by first | rfl | (simp; done) | (simp [*]; done), by repeat (first | exact Drawn0.refl _ | apply Drawn0.step)⟩

/-! ### impl_absolute: function 110 -/
def impl_absolute.f (a0 : Int) : Option (Int) := if a0 < 0 then (some (wrap64 (-a0))) else (some a0)
set_option maxHeartbeats 8000000 in
set_option maxRecDepth 100000 in
theorem impl_absolute.calls (a0 : Int) (r : Int) (w : World) (h : impl_absolute.f a0 = some r) :
  Calls Tryd.prog 110 #[.int .i64 a0] w fun e w' => e = .returned (.int .i64 r) ∧ Drawn0 w w' := by
 have H : (if a0 < 0 then (some (wrap64 (-a0))) else (some a0)) = some r := h
 clear h
 by_cases c2 : a0 < 0
 ·
  rw [if_pos c2] at H
  have qa : decide (a0 < 0) = true := decide_eq_true c2
  clear c2
  obtain rfl := Option.some.inj H
  go_enter Tryd.func110, Tryd.ntmps110
  go_wp2
  go_ret
  exact ⟨by first | rfl | (simp; done) | (simp [*]; done), by repeat (first | exact Drawn0.refl _ | apply Drawn0.step)⟩
 ·
  rw [if_neg c2] at H
  have qa : decide (a0 < 0) = false := decide_eq_false c2
  clear c2
  obtain rfl := Option.some.inj H
  go_enter Tryd.func110, Tryd.ntmps110
  go_wp2
  go_ret
  exact ⟨by first | rfl | (simp; done) | (simp [*]; done), by repeat (first | exact Drawn0.refl _ | apply Drawn0.step)⟩

/-! ### impl_commonDivisor: function 92 -/
def impl_commonDivisor.l0 : Nat → Int → Int → Option (Int)
 | 0, _, _ => none
 | k + 1, x0, x1 => if x1 = 0 then (some x0) else (impl_commonDivisor.l0 k x1 (Int.tmod x0 x1))
def impl_commonDivisor.f (k : Nat) (a0 : Int) (a1 : Int) : Option (Int) := (impl_absolute.f a0).bind fun qb => ((impl_absolute.f a1).bind fun qa => (impl_commonDivisor.l0 k qb qa))
theorem impl_commonDivisor.mono_l : ∀ k, (∀ y0 y1, LeO (impl_commonDivisor.l0 k y0 y1) (impl_commonDivisor.l0 (k + 1) y0 y1))
 | 0 => fun _ _ r h => by simp [impl_commonDivisor.l0] at h
 | k + 1 => by
  have ih0 := impl_commonDivisor.mono_l k
  ·
   intro y0 y1
   unfold impl_commonDivisor.l0
   repeat' first
   | (with_reducible exact ih0 _ _)
   | (with_reducible exact LeO.refl _)
   | (with_reducible exact LeO.none _)
   | (with_reducible refine LeO.ite ?_ ?_)
   | (with_reducible refine LeO.bind ?_ (fun _ => ?_))
   | exact ih0 _ _
   | exact LeO.none _
   | refine LeO.ite ?_ ?_
   | refine LeO.bind ?_ (fun _ => ?_)
theorem impl_commonDivisor.mono : ∀ a0 a1 k, LeO (impl_commonDivisor.f k a0 a1) (impl_commonDivisor.f (k + 1) a0 a1) := by
 intro a0 a1 k
 have ih0 := impl_commonDivisor.mono_l k
 unfold impl_commonDivisor.f
 repeat' first
   | (with_reducible exact ih0 _ _)
   | (with_reducible exact LeO.refl _)
   | (with_reducible exact LeO.none _)
   | (with_reducible refine LeO.ite ?_ ?_)
   | (with_reducible refine LeO.bind ?_ (fun _ => ?_))
   | exact ih0 _ _
   | exact LeO.none _
   | refine LeO.ite ?_ ?_
   | refine LeO.bind ?_ (fun _ => ?_)
set_option maxHeartbeats 8000000 in
set_option maxRecDepth 100000 in
theorem impl_commonDivisor.calls (k : Nat) (a0 : Int) (a1 : Int) (r : Int) (w : World) (h : impl_commonDivisor.f k a0 a1 = some r) :
  Calls Tryd.prog 92 #[.int .i64 a0, .int .i64 a1] w fun e w' => e = .returned (.int .i64 r) ∧ Drawn0 w w' := by
 have H : ((impl_absolute.f a0).bind fun qb => ((impl_absolute.f a1).bind fun qa => (impl_commonDivisor.l0 k qb qa))) = some r := h
 clear h
 replace H := Option.bind_eq_some_iff.mp H
 obtain ⟨qb, A30, H⟩ := H
 replace H : ((impl_absolute.f a1).bind fun qa => (impl_commonDivisor.l0 k qb qa)) = some r := H
 have A3 := Aside0.mk A30
 clear A30
 replace H := Option.bind_eq_some_iff.mp H
 obtain ⟨qa, A40, H⟩ := H
 replace H : (impl_commonDivisor.l0 k qb qa) = some r := H
 have A4 := Aside0.mk A40
 clear A40
 have H' := Aside0.mk H
 clear H
 go_enter Tryd.func92, Tryd.ntmps92
 go_wp2_with (first | (go_at_call 110; (with_reducible refine (impl_absolute.calls a0 qb _ A3.out).mono ?_); rintro e w' ⟨rfl, ⟨nd, rfl⟩⟩; (try first | exact ⟨rfl, _, World.drewN_drewN _ _ _⟩ | exact ⟨rfl, _, Eq.trans (World.drewN_drewN _ _ _) (congrArg (World.drewN _) (Nat.add_assoc _ _ _))⟩)) | (go_at_call 110; (with_reducible refine (impl_absolute.calls a1 qa _ A4.out).mono ?_); rintro e w' ⟨rfl, ⟨nd, rfl⟩⟩; (try first | exact ⟨rfl, _, World.drewN_drewN _ _ _⟩ | exact ⟨rfl, _, Eq.trans (World.drewN_drewN _ _ _) (congrArg (World.drewN _) (Nat.add_assoc _ _ _))⟩)))
 repeat (go_quiet (first | (go_at_call 110; (with_reducible refine (impl_absolute.calls a0 qb _ A3.out).mono ?_); rintro e w' ⟨rfl, ⟨nd, rfl⟩⟩; (try first | exact ⟨rfl, _, World.drewN_drewN _ _ _⟩ | exact ⟨rfl, _, Eq.trans (World.drewN_drewN _ _ _) (congrArg (World.drewN _) (Nat.add_assoc _ _ _))⟩)) | (go_at_call 110; (with_reducible refine (impl_absolute.calls a1 qa _ A4.out).mono ?_); rintro e w' ⟨rfl, ⟨nd, rfl⟩⟩; (try first | exact ⟨rfl, _, World.drewN_drewN _ _ _⟩ | exact ⟨rfl, _, Eq.trans (World.drewN_drewN _ _ _) (congrArg (World.drewN _) (Nat.add_assoc _ _ _))⟩))); try go_wp2_with (first | (go_at_call 110; (with_reducible refine (impl_absolute.calls a0 qb _ A3.out).mono ?_); rintro e w' ⟨rfl, ⟨nd, rfl⟩⟩; (try first | exact ⟨rfl, _, World.drewN_drewN _ _ _⟩ | exact ⟨rfl, _, Eq.trans (World.drewN_drewN _ _ _) (congrArg (World.drewN _) (Nat.add_assoc _ _ _))⟩)) | (go_at_call 110; (with_reducible refine (impl_absolute.calls a1 qa _ A4.out).mono ?_); rintro e w' ⟨rfl, ⟨nd, rfl⟩⟩; (try first | exact ⟨rfl, _, World.drewN_drewN _ _ _⟩ | exact ⟨rfl, _, Eq.trans (World.drewN_drewN _ _ _) (congrArg (World.drewN _) (Nat.add_assoc _ _ _))⟩))))
 go_loopg [0, 1] k (fun kq v0 v1 w' => ∃ (qd : Int) (qc : Int), v0 = .int .i64 qd ∧ v1 = .int .i64 qc ∧ Aside0 (impl_commonDivisor.l0 kq qd qc = some r) ∧ Aside0 (kq ≤ k) ∧ Drawn0 w w')
 case atStart => exact ⟨(qb), (qa), (by first | rfl | (simp; done) | (simp [*]; done)), (by first | rfl | (simp; done) | (simp [*]; done)), H', ⟨Nat.le_refl _⟩, by repeat (first | exact Drawn0.refl _ | apply Drawn0.step)⟩
 case round =>
  clear H'
  try clear p2
  obtain ⟨qd, qc, rfl, rfl, HA, HK1, ⟨m1, rfl⟩⟩ := hrel
  cases gk with
  | zero => exact absurd HA.out (by simp [impl_commonDivisor.l0])
  | succ k1 =>
   have H := HA.out
   clear HA
   simp only [impl_commonDivisor.l0] at H
   by_cases c5 : qc = 0
   ·
    rw [if_pos c5] at H
    have qe : (qc == 0) = true := beq_iff_eq.mpr c5
    have qf : (qc != 0) = false := bne_eq_false_iff_eq.mpr c5
    clear c5
    obtain rfl := Option.some.inj H
    go_wp2
    repeat (go_quiet (fail); try go_wp2)
    go_ret
    exact ⟨by first | rfl | (simp; done) | (simp [*]; done), by repeat (first | exact Drawn0.refl _ | apply Drawn0.step)⟩
   ·
    rw [if_neg c5] at H
    have qe : (qc == 0) = false := beq_eq_false_iff_ne.mpr c5
    have qf : (qc != 0) = true := bne_iff_ne.mpr c5
    have H' := Aside0.mk H
    clear H
    go_wp2
    repeat (go_quiet (fail); try go_wp2)
    go_roundg k1
    case measure => have := HK1.out; omega
    case rel => exact ⟨(qc), (Int.tmod qd qc), (by first | rfl | (simp; done) | (simp [*]; done)), (by first | rfl | (simp; done) | (simp [*]; done)), H', ⟨by have := HK1.out; omega⟩, by repeat (first | exact Drawn0.refl _ | apply Drawn0.step)⟩

/-! ### impl_divisorOf: function 93 -/
def impl_divisorOf.l0 : Nat → Int → List Int → Int → Int → Option (Int)
 | 0, _, _, _, _ => none
 | k + 1, x3, x6, x7, x8 => if x8 < x7 then (if 0 ≤ x8 then (if x8 < (x6.length : Int) then ((impl_commonDivisor.f k x3 (rd x6 x8)).bind fun qb => (impl_divisorOf.l0 k qb x6 x7 (wrap64 (x8 + 1)))) else (none)) else (none)) else (some x3)
def impl_divisorOf.f (k : Nat) (l0 : List Int) : Option (Int) := impl_divisorOf.l0 k 0 l0 (l0.length : Int) 0
theorem impl_divisorOf.mono_l : ∀ k, (∀ y0 y1 y2 y3, LeO (impl_divisorOf.l0 k y0 y1 y2 y3) (impl_divisorOf.l0 (k + 1) y0 y1 y2 y3))
 | 0 => fun _ _ _ _ r h => by simp [impl_divisorOf.l0] at h
 | k + 1 => by
  have ih0 := impl_divisorOf.mono_l k
  ·
   intro y0 y1 y2 y3
   unfold impl_divisorOf.l0
   repeat' first
   | (with_reducible exact ih0 _ _ _ _)
   | (with_reducible exact impl_commonDivisor.mono _ _ _)
   | (with_reducible exact LeO.refl _)
   | (with_reducible exact LeO.none _)
   | (with_reducible refine LeO.ite ?_ ?_)
   | (with_reducible refine LeO.bind ?_ (fun _ => ?_))
   | exact ih0 _ _ _ _
   | exact impl_commonDivisor.mono _ _ _
   | exact LeO.none _
   | refine LeO.ite ?_ ?_
   | refine LeO.bind ?_ (fun _ => ?_)
theorem impl_divisorOf.mono : ∀ a0 k, LeO (impl_divisorOf.f k a0) (impl_divisorOf.f (k + 1) a0) := by
 intro a0 k
 have ih0 := impl_divisorOf.mono_l k
 unfold impl_divisorOf.f
 repeat' first
   | (with_reducible exact ih0 _ _ _ _)
   | (with_reducible exact impl_commonDivisor.mono _ _ _)
   | (with_reducible exact LeO.refl _)
   | (with_reducible exact LeO.none _)
   | (with_reducible refine LeO.ite ?_ ?_)
   | (with_reducible refine LeO.bind ?_ (fun _ => ?_))
   | exact ih0 _ _ _ _
   | exact impl_commonDivisor.mono _ _ _
   | exact LeO.none _
   | refine LeO.ite ?_ ?_
   | refine LeO.bind ?_ (fun _ => ?_)
set_option maxHeartbeats 8000000 in
set_option maxRecDepth 100000 in
theorem impl_divisorOf.calls (k : Nat) (A0 : Option Addr) (c0 : Nat) (l0 : List Int) (r : Int) (w : World) (hr0 : Kd.C (Kd.int .i64) w A0 l0.length l0) (hc0 : l0.length ≤ c0) (h : impl_divisorOf.f k l0 = some r) :
  Calls Tryd.prog 93 #[.slice A0 l0.length c0] w fun e w' => e = .returned (.int .i64 r) ∧ Drawn0 w w' := by
 have HR0 := Aside0.mk hr0
 have HC0 := Aside0.mk hc0
 clear hr0 hc0
 have H : (impl_divisorOf.l0 k 0 l0 (l0.length : Int) 0) = some r := h
 clear h
 have H' := Aside0.mk H
 clear H
 go_enter Tryd.func93, Tryd.ntmps93
 go_wp2
 go_loopg [3, 8] k (fun kq v3 v8 w' => ∃ (qc : Int) (qa : Int), v3 = .int .i64 qc ∧ v8 = .int .i64 qa ∧ Aside0 (impl_divisorOf.l0 kq qc l0 (l0.length : Int) qa = some r) ∧ Aside0 (kq ≤ k) ∧ Drawn0 w w')
 case atStart => exact ⟨(0), (0), (by first | rfl | (simp; done) | (simp [*]; done)), (by first | rfl | (simp; done) | (simp [*]; done)), H', ⟨Nat.le_refl _⟩, by repeat (first | exact Drawn0.refl _ | apply Drawn0.step)⟩
 case round =>
  clear H'
  obtain ⟨qc, qa, rfl, rfl, HA, HK1, ⟨m1, rfl⟩⟩ := hrel
  cases gk with
  | zero => exact absurd HA.out (by simp [impl_divisorOf.l0])
  | succ k1 =>
   have H := HA.out
   clear HA
   simp only [impl_divisorOf.l0] at H
   by_cases c2 : qa < (l0.length : Int)
   ·
    rw [if_pos c2] at H
    have qe : decide (qa < (l0.length : Int)) = true := decide_eq_true c2
    clear c2
    by_cases c3 : 0 ≤ qa
    ·
     rw [if_pos c3] at H
     have qg : decide (0 ≤ qa) = true := decide_eq_true c3
     clear c3
     by_cases c4 : qa < (l0.length : Int)
     ·
      rw [if_pos c4] at H
      have qh : decide (qa < (l0.length : Int)) = true := decide_eq_true c4
      clear c4
      replace H := Option.bind_eq_some_iff.mp H
      obtain ⟨qb, A50, H⟩ := H
      replace H : (impl_divisorOf.l0 k1 qb l0 (l0.length : Int) (wrap64 (qa + 1))) = some r := H
      have A5 := Aside0.mk A50
      clear A50
      have H' := Aside0.mk H
      clear H
      have p130 : 0 ≤ (qa : Int) := of_decide_eq_true (by first | (with_reducible assumption) | assumption)
      have q130 : qa < (l0.length : Int) := of_decide_eq_true (by first | (with_reducible assumption) | assumption)
      obtain ⟨qf, e130, qd⟩ := Kd.at_int HR0.out qa p130 q130
      cases e130
      replace p130 := eq_true p130
      replace q130 := eq_true q130
      go_wp2_with (first | ((with_reducible refine gate_callee (f := 92) rfl ?_); refine goesL_ (some 14) rfl rfl Tryd.func92 (by kernel_rfl) rfl #[.int .i64 qc, .int .i64 (rd l0 qa)] rfl (by (try simp only [List.map_toArray, List.map_cons, List.map_nil]); first | done | rfl | (simp only [List.length_drop, List.length_take]; rfl)) ?_; (with_reducible refine (impl_commonDivisor.calls k1 qc (rd l0 qa) qb _ A5.out).mono ?_); rintro e w' ⟨rfl, ⟨nd, rfl⟩⟩; refine ⟨_, rfl, ?_⟩))
      go_roundg k1
      case measure => have := HK1.out; omega
      case rel => exact ⟨(qb), (wrap64 (qa + 1)), (by first | rfl | (simp; done) | (simp [*]; done)), (by first | rfl | (simp; done) | (simp [*]; done)), H', ⟨by have := HK1.out; omega⟩, by repeat (first | exact Drawn0.refl _ | apply Drawn0.step)⟩
     ·
      rw [if_neg c4] at H
      exact absurd H (by simp)
    ·
     rw [if_neg c3] at H
     exact absurd H (by simp)
   ·
    rw [if_neg c2] at H
    have qe : decide (qa < (l0.length : Int)) = false := decide_eq_false c2
    clear c2
    obtain rfl := Option.some.inj H
    go_wp2
    go_ret
    exact ⟨by first | rfl | (simp; done) | (simp [*]; done), by repeat (first | exact Drawn0.refl _ | apply Drawn0.step)⟩

/-! ### impl_IsAtom: function 52 -/
mutual
def impl_IsAtom.j0 : Nat → Bool → List Int → Int → Bool → Option (Bool)
 | 0, _, _, _, _ => none
 | k + 1, x14, x133000, x133001, x133002 => if x14 = true then (some false) else (impl_IsAtom.l0 k x133000 (x133000.length : Int) 0 x133000 x133001 x133002)
def impl_IsAtom.l0 : Nat → List Int → Int → Int → List Int → Int → Bool → Option (Bool)
 | 0, _, _, _, _, _, _ => none
 | k + 1, x16, x17, x18, x133000, x133001, x133002 => if x18 < x17 then (if 0 ≤ x18 then (if x18 < (x16.length : Int) then ((impl_IsNumber.f (rd x16 x18)).bind fun qx => (if qx = true then (impl_IsAtom.l0 k x16 x17 (wrap64 (x18 + 1)) x133000 x133001 x133002) else (some false))) else (none)) else (none)) else ((impl_divisorOf.f k x133000).bind fun qe => ((impl_commonDivisor.f k qe x133001).bind fun qg => (some (decide (qg ≤ 1)))))
end
def impl_IsAtom.f (k : Nat) (l0_0 : List Int) (a0_1 : Int) (a0_2 : Bool) : Option (Bool) := if (l0_0.length : Int) > 4 then (impl_IsAtom.j0 k true l0_0 a0_1 a0_2) else ((impl_IsNumber.f a0_1).bind fun qf => (impl_IsAtom.j0 k (!qf) l0_0 a0_1 a0_2))
theorem impl_IsAtom.mono_l : ∀ k, (∀ y0 y1 y2 y3, LeO (impl_IsAtom.j0 k y0 y1 y2 y3) (impl_IsAtom.j0 (k + 1) y0 y1 y2 y3)) ∧ (∀ y0 y1 y2 y3 y4 y5, LeO (impl_IsAtom.l0 k y0 y1 y2 y3 y4 y5) (impl_IsAtom.l0 (k + 1) y0 y1 y2 y3 y4 y5))
 | 0 => ⟨fun _ _ _ _ r h => by simp [impl_IsAtom.j0] at h, fun _ _ _ _ _ _ r h => by simp [impl_IsAtom.l0] at h⟩
 | k + 1 => by
  obtain ⟨ih0, ih1⟩ := impl_IsAtom.mono_l k
  refine ⟨?_, ?_⟩
  ·
   intro y0 y1 y2 y3
   unfold impl_IsAtom.j0
   repeat' first
   | (with_reducible exact ih0 _ _ _ _)
   | (with_reducible exact ih1 _ _ _ _ _ _)
   | (with_reducible exact impl_commonDivisor.mono _ _ _)
   | (with_reducible exact impl_divisorOf.mono _ _)
   | (with_reducible exact LeO.refl _)
   | (with_reducible exact LeO.none _)
   | (with_reducible refine LeO.ite ?_ ?_)
   | (with_reducible refine LeO.bind ?_ (fun _ => ?_))
   | exact ih0 _ _ _ _
   | exact ih1 _ _ _ _ _ _
   | exact impl_commonDivisor.mono _ _ _
   | exact impl_divisorOf.mono _ _
   | exact LeO.none _
   | refine LeO.ite ?_ ?_
   | refine LeO.bind ?_ (fun _ => ?_)
  ·
   intro y0 y1 y2 y3 y4 y5
   unfold impl_IsAtom.l0
   repeat' first
   | (with_reducible exact ih0 _ _ _ _)
   | (with_reducible exact ih1 _ _ _ _ _ _)
   | (with_reducible exact impl_commonDivisor.mono _ _ _)
   | (with_reducible exact impl_divisorOf.mono _ _)
   | (with_reducible exact LeO.refl _)
   | (with_reducible exact LeO.none _)
   | (with_reducible refine LeO.ite ?_ ?_)
   | (with_reducible refine LeO.bind ?_ (fun _ => ?_))
   | exact ih0 _ _ _ _
   | exact ih1 _ _ _ _ _ _
   | exact impl_commonDivisor.mono _ _ _
   | exact impl_divisorOf.mono _ _
   | exact LeO.none _
   | refine LeO.ite ?_ ?_
   | refine LeO.bind ?_ (fun _ => ?_)
theorem impl_IsAtom.mono : ∀ a0 a1 a2 k, LeO (impl_IsAtom.f k a0 a1 a2) (impl_IsAtom.f (k + 1) a0 a1 a2) := by
 intro a0 a1 a2 k
 obtain ⟨ih0, ih1⟩ := impl_IsAtom.mono_l k
 unfold impl_IsAtom.f
 repeat' first
   | (with_reducible exact ih0 _ _ _ _)
   | (with_reducible exact ih1 _ _ _ _ _ _)
   | (with_reducible exact impl_commonDivisor.mono _ _ _)
   | (with_reducible exact impl_divisorOf.mono _ _)
   | (with_reducible exact LeO.refl _)
   | (with_reducible exact LeO.none _)
   | (with_reducible refine LeO.ite ?_ ?_)
   | (with_reducible refine LeO.bind ?_ (fun _ => ?_))
   | exact ih0 _ _ _ _
   | exact ih1 _ _ _ _ _ _
   | exact impl_commonDivisor.mono _ _ _
   | exact impl_divisorOf.mono _ _
   | exact LeO.none _
   | refine LeO.ite ?_ ?_
   | refine LeO.bind ?_ (fun _ => ?_)
set_option maxHeartbeats 8000000 in
set_option maxRecDepth 100000 in
theorem impl_IsAtom.calls (k : Nat) (A0_0 : Option Addr) (c0_0 : Nat) (l0_0 : List Int) (a0_1 : Int) (a0_2 : Bool) (r : Bool) (w : World) (hr0_0 : Kd.C (Kd.int .i64) w A0_0 l0_0.length l0_0) (hc0_0 : l0_0.length ≤ c0_0) (h : impl_IsAtom.f k l0_0 a0_1 a0_2 = some r) :
  Calls Tryd.prog 52 #[.agg #[.slice A0_0 l0_0.length c0_0, .int .i64 a0_1, .bool a0_2]] w fun e w' => e = .returned (.bool r) ∧ Below w.heap.size w w' := by
 have hu27 := Tryd.underlying27
 have qh := Aside0.mk hr0_0
 have qk := Aside0.mk hc0_0
 clear hr0_0 hc0_0
 have HB := Aside0.mk (Below.refl w.heap.size w)
 have H : (if (l0_0.length : Int) > 4 then (impl_IsAtom.j0 k true l0_0 a0_1 a0_2) else ((impl_IsNumber.f a0_1).bind fun qf => (impl_IsAtom.j0 k (!qf) l0_0 a0_1 a0_2))) = some r := h
 clear h
 have HC2 := Aside0.mk H
 clear H
 go_enter Tryd.func52, Tryd.ntmps52
 go_upto_region 1 with (first | ((with_reducible refine gate_dst (N := 1) rfl ?_); refine box_event ?hg (N := 1) ?hd (cs := #[.slice A0_0 l0_0.length c0_0, .int .i64 a0_1, .bool a0_2]) (t := 27) ?hr ?_; (case hd => rfl); (case hg => rfl); (case hr => first | (go_simp; done) | (go_simp; rfl)); intro qc hg w3 hbox hb; have qa := Aside0.mk (hbox); have qy := Aside0.mk ((by rw [hg]; exact (bz_ HB) : w.heap.size ≤ qc)); have qz := Aside0.mk ((by rw [hg]; exact (bz_ HB) : w.heap.size ≤ qc)); replace HB := bS_ HB hb; clear hb hbox hg))
 repeat (go_quiet (first | ((with_reducible refine gate_dst (N := 1) rfl ?_); refine box_event ?hg (N := 1) ?hd (cs := #[.slice A0_0 l0_0.length c0_0, .int .i64 a0_1, .bool a0_2]) (t := 27) ?hr ?_; (case hd => rfl); (case hg => rfl); (case hr => first | (go_simp; done) | (go_simp; rfl)); intro qc hg w3 hbox hb; have qa := Aside0.mk (hbox); have qy := Aside0.mk ((by rw [hg]; exact (bz_ HB) : w.heap.size ≤ qc)); have qz := Aside0.mk ((by rw [hg]; exact (bz_ HB) : w.heap.size ≤ qc)); replace HB := bS_ HB hb; clear hb hbox hg)); go_upto_region 1 with (first | ((with_reducible refine gate_dst (N := 1) rfl ?_); refine box_event ?hg (N := 1) ?hd (cs := #[.slice A0_0 l0_0.length c0_0, .int .i64 a0_1, .bool a0_2]) (t := 27) ?hr ?_; (case hd => rfl); (case hg => rfl); (case hr => first | (go_simp; done) | (go_simp; rfl)); intro qc hg w3 hbox hb; have qa := Aside0.mk (hbox); have qy := Aside0.mk ((by rw [hg]; exact (bz_ HB) : w.heap.size ≤ qc)); have qz := Aside0.mk ((by rw [hg]; exact (bz_ HB) : w.heap.size ≤ qc)); replace HB := bS_ HB hb; clear hb hbox hg)))
 (try simp only [Act.put, List.setIfInBounds_toArray, List.set_cons_zero, List.set_cons_succ])
 go_cut [14] (fun v14 wc => ∃ (kq : Nat) (qj : Bool), v14 = .bool qj ∧ Aside0 (impl_IsAtom.j0 kq qj l0_0 a0_1 a0_2 = some r) ∧ Aside0 (kq ≤ k) ∧ Aside0 (wc.heap[qc]? = some (.cells #[(.slice A0_0 l0_0.length c0_0), .int .i64 a0_1, .bool a0_2] 27 (0, 0))) ∧ Aside0 (Below w.heap.size w wc))
 case first =>
  have H := HC2.out
  clear HC2
  by_cases c4 : (l0_0.length : Int) > 4
  ·
   rw [if_pos c4] at H
   have qi : decide (4 < (l0_0.length : Int)) = true := decide_eq_true c4
   have qA : decide (4 < l0_0.length) = true := decide_eq_true (by omega)
   clear c4
   (first | rw [qi] | (simp only [i64_w, i32_w]; rw [qi]) | skip)
   have H' := Aside0.mk H
   clear H
   have ql : w3.cell? ⟨qc, 0, none⟩ = some (.slice A0_0 l0_0.length c0_0) := bc_ qa 0
   have qm : w3.cell? ⟨qc, 1, none⟩ = some (.int .i64 a0_1) := bc_ qa 1
   have qn : w3.cell? ⟨qc, 2, none⟩ = some (.bool a0_2) := bc_ qa 2
   have qo := blk_frozen qa.out 0
   have qp := blk_frozen qa.out 1
   have qq := blk_frozen qa.out 2
   go_wp2
   repeat (go_quiet (fail); try go_wp2)
   go_meet
   case rel => exact ⟨_, (true), (by first | rfl | (simp; done) | (simp [*]; done)), H', ⟨by first | omega | exact Nat.le_refl _⟩, ⟨kf_ qa⟩, ⟨bb_ HB⟩⟩
  ·
   rw [if_neg c4] at H
   have qi : decide (4 < (l0_0.length : Int)) = false := decide_eq_false c4
   have qA : decide (4 < l0_0.length) = false := decide_eq_false (by omega)
   clear c4
   (first | rw [qi] | (simp only [i64_w, i32_w]; rw [qi]) | skip)
   replace H := Option.bind_eq_some_iff.mp H
   obtain ⟨qf, A60, H⟩ := H
   replace H : (impl_IsAtom.j0 k (!qf) l0_0 a0_1 a0_2) = some r := H
   have A6 := Aside0.mk A60
   clear A60
   have H' := Aside0.mk H
   clear H
   have qr : w3.cell? ⟨qc, 0, none⟩ = some (.slice A0_0 l0_0.length c0_0) := bc_ qa 0
   have qs : w3.cell? ⟨qc, 1, none⟩ = some (.int .i64 a0_1) := bc_ qa 1
   have qt : w3.cell? ⟨qc, 2, none⟩ = some (.bool a0_2) := bc_ qa 2
   have qu := blk_frozen qa.out 0
   have qv := blk_frozen qa.out 1
   have qw := blk_frozen qa.out 2
   go_wp2_with (first | (go_at_call 61; (with_reducible refine (impl_IsNumber.calls a0_1 qf _ A6.out).mono ?_); rintro e w' ⟨rfl, ⟨nd, rfl⟩⟩; (try first | exact ⟨rfl, _, World.drewN_drewN _ _ _⟩ | exact ⟨rfl, _, Eq.trans (World.drewN_drewN _ _ _) (congrArg (World.drewN _) (Nat.add_assoc _ _ _))⟩)))
   repeat (go_quiet (first | (go_at_call 61; (with_reducible refine (impl_IsNumber.calls a0_1 qf _ A6.out).mono ?_); rintro e w' ⟨rfl, ⟨nd, rfl⟩⟩; (try first | exact ⟨rfl, _, World.drewN_drewN _ _ _⟩ | exact ⟨rfl, _, Eq.trans (World.drewN_drewN _ _ _) (congrArg (World.drewN _) (Nat.add_assoc _ _ _))⟩))); try go_wp2_with (first | (go_at_call 61; (with_reducible refine (impl_IsNumber.calls a0_1 qf _ A6.out).mono ?_); rintro e w' ⟨rfl, ⟨nd, rfl⟩⟩; (try first | exact ⟨rfl, _, World.drewN_drewN _ _ _⟩ | exact ⟨rfl, _, Eq.trans (World.drewN_drewN _ _ _) (congrArg (World.drewN _) (Nat.add_assoc _ _ _))⟩))))
   go_meet
   case rel => exact ⟨_, (!qf), (by first | rfl | (simp; done) | (simp [*]; done)), H', ⟨by first | omega | exact Nat.le_refl _⟩, ⟨kf_ qa⟩, ⟨bb_ HB⟩⟩
 case rest =>
  clear HC2
  try clear p2
  try clear c4
  try clear qi
  try clear qA
  try clear c5
  try clear ql
  try clear qm
  try clear qn
  try clear qr
  try clear qs
  try clear qt
  try clear qo
  try clear qp
  try clear qq
  try clear qu
  try clear qv
  try clear qw
  obtain ⟨kq, qj, rfl, HA, HJ1, qa, HB⟩ := hcut
  cases kq with
  | zero => exact absurd HA.out (by simp [impl_IsAtom.j0])
  | succ kj1 =>
   have H := HA.out
   clear HA
   simp only [impl_IsAtom.j0] at H
   by_cases c8 : qj = true
   ·
    subst c8
    have H1 : (some false) = some r := by rw [if_pos rfl] at H; exact H
    clear H
    have H := H1
    clear H1
    obtain rfl := Option.some.inj H
    go_wp2
    repeat (go_quiet (fail); try go_wp2)
    go_ret
    exact ⟨by first | rfl | (simp [errW_none, errW_some] <;> rfl) | (simp [*, errW_none, errW_some] <;> rfl), bb_ HB⟩
   ·
    replace c8 := Bool.eq_false_iff.mpr c8
    subst c8
    have H1 : (impl_IsAtom.l0 kj1 l0_0 (l0_0.length : Int) 0 l0_0 a0_1 a0_2) = some r := by rw [if_neg (show ¬ (false = true) by decide)] at H; exact H
    clear H
    have H := H1
    clear H1
    have H' := Aside0.mk H
    clear H
    have qB : wc.cell? ⟨qc, 0, none⟩ = some (.slice A0_0 l0_0.length c0_0) := bc_ qa 0
    have qC : wc.cell? ⟨qc, 1, none⟩ = some (.int .i64 a0_1) := bc_ qa 1
    have qD : wc.cell? ⟨qc, 2, none⟩ = some (.bool a0_2) := bc_ qa 2
    have qE := blk_frozen qa.out 0
    have qF := blk_frozen qa.out 1
    have qG := blk_frozen qa.out 2
    go_wp2
    repeat (go_quiet (fail); try go_wp2)
    go_loopg [18] kj1 (fun kq v18 w' => ∃ (qb : Int), v18 = .int .i64 qb ∧ Aside0 (impl_IsAtom.l0 kq l0_0 (l0_0.length : Int) qb l0_0 a0_1 a0_2 = some r) ∧ Aside0 (kq ≤ kj1) ∧ Aside0 (w'.heap[qc]? = some (.cells #[(.slice A0_0 l0_0.length c0_0), .int .i64 a0_1, .bool a0_2] 27 (0, 0))) ∧ Aside0 (Below w.heap.size w w'))
    case atStart => exact ⟨(0), (by first | rfl | (simp; done) | (simp [*]; done)), H', ⟨Nat.le_refl _⟩, ⟨kf_ qa⟩, ⟨bb_ HB⟩⟩
    case round =>
     clear H'
     try clear p2
     try clear c4
     try clear qi
     try clear qA
     try clear c5
     try clear c8
     try clear ql
     try clear qm
     try clear qn
     try clear qr
     try clear qs
     try clear qt
     try clear qB
     try clear qC
     try clear qD
     try clear qo
     try clear qp
     try clear qq
     try clear qu
     try clear qv
     try clear qw
     try clear qE
     try clear qF
     try clear qG
     try clear p2
     obtain ⟨qb, rfl, HA, HK2, qa, HB⟩ := hrel
     cases gk with
     | zero => exact absurd HA.out (by simp [impl_IsAtom.l0])
     | succ k2 =>
      have H := HA.out
      clear HA
      simp only [impl_IsAtom.l0] at H
      by_cases c10 : qb < (l0_0.length : Int)
      ·
       rw [if_pos c10] at H
       have qH : decide (qb < (l0_0.length : Int)) = true := decide_eq_true c10
       clear c10
       by_cases c11 : 0 ≤ qb
       ·
        rw [if_pos c11] at H
        have qP : decide (0 ≤ qb) = true := decide_eq_true c11
        clear c11
        by_cases c12 : qb < (l0_0.length : Int)
        ·
         rw [if_pos c12] at H
         have qQ : decide (qb < (l0_0.length : Int)) = true := decide_eq_true c12
         clear c12
         replace H := Option.bind_eq_some_iff.mp H
         obtain ⟨qx, A130, H⟩ := H
         replace H : (if qx = true then (impl_IsAtom.l0 k2 l0_0 (l0_0.length : Int) (wrap64 (qb + 1)) l0_0 a0_1 a0_2) else (some false)) = some r := H
         have A13 := Aside0.mk A130
         clear A130
         by_cases c14 : qx = true
         ·
          subst c14
          have H1 : (impl_IsAtom.l0 k2 l0_0 (l0_0.length : Int) (wrap64 (qb + 1)) l0_0 a0_1 a0_2) = some r := by rw [if_pos rfl] at H; exact H
          clear H
          have H := H1
          clear H1
          have H' := Aside0.mk H
          clear H
          have p134 : 0 ≤ (qb : Int) := of_decide_eq_true (by first | (with_reducible assumption) | assumption)
          have q134 : qb < (l0_0.length : Int) := of_decide_eq_true (by first | (with_reducible assumption) | assumption)
          obtain ⟨qI, e134, qd⟩ := Kd.at_int qh.out qb p134 q134
          cases e134
          replace qd := (HB.out.cell (World.block_lt_of_cell? w _ qd)).trans qd
          replace p134 := eq_true p134
          replace q134 := eq_true q134
          go_wp2_with (first | (go_at_call 61; (with_reducible refine (impl_IsNumber.calls (rd l0_0 qb) true _ A13.out).mono ?_); rintro e w' ⟨rfl, ⟨nd, rfl⟩⟩; (try first | exact ⟨rfl, _, World.drewN_drewN _ _ _⟩ | exact ⟨rfl, _, Eq.trans (World.drewN_drewN _ _ _) (congrArg (World.drewN _) (Nat.add_assoc _ _ _))⟩)))
          repeat (go_quiet (first | (go_at_call 61; (with_reducible refine (impl_IsNumber.calls (rd l0_0 qb) true _ A13.out).mono ?_); rintro e w' ⟨rfl, ⟨nd, rfl⟩⟩; (try first | exact ⟨rfl, _, World.drewN_drewN _ _ _⟩ | exact ⟨rfl, _, Eq.trans (World.drewN_drewN _ _ _) (congrArg (World.drewN _) (Nat.add_assoc _ _ _))⟩))); try go_wp2_with (first | (go_at_call 61; (with_reducible refine (impl_IsNumber.calls (rd l0_0 qb) true _ A13.out).mono ?_); rintro e w' ⟨rfl, ⟨nd, rfl⟩⟩; (try first | exact ⟨rfl, _, World.drewN_drewN _ _ _⟩ | exact ⟨rfl, _, Eq.trans (World.drewN_drewN _ _ _) (congrArg (World.drewN _) (Nat.add_assoc _ _ _))⟩))))
          go_roundg k2
          case measure => have := HJ1.out; have := HK2.out; omega
          case rel => exact ⟨(wrap64 (qb + 1)), (by first | rfl | (simp; done) | (simp [*]; done)), H', ⟨by have := HJ1.out; have := HK2.out; omega⟩, ⟨kf_ qa⟩, ⟨bb_ HB⟩⟩
         ·
          replace c14 := Bool.eq_false_iff.mpr c14
          subst c14
          have H1 : (some false) = some r := by rw [if_neg (show ¬ (false = true) by decide)] at H; exact H
          clear H
          have H := H1
          clear H1
          obtain rfl := Option.some.inj H
          have p134 : 0 ≤ (qb : Int) := of_decide_eq_true (by first | (with_reducible assumption) | assumption)
          have q134 : qb < (l0_0.length : Int) := of_decide_eq_true (by first | (with_reducible assumption) | assumption)
          obtain ⟨qI, e134, qd⟩ := Kd.at_int qh.out qb p134 q134
          cases e134
          replace qd := (HB.out.cell (World.block_lt_of_cell? w _ qd)).trans qd
          replace p134 := eq_true p134
          replace q134 := eq_true q134
          go_wp2_with (first | (go_at_call 61; (with_reducible refine (impl_IsNumber.calls (rd l0_0 qb) false _ A13.out).mono ?_); rintro e w' ⟨rfl, ⟨nd, rfl⟩⟩; (try first | exact ⟨rfl, _, World.drewN_drewN _ _ _⟩ | exact ⟨rfl, _, Eq.trans (World.drewN_drewN _ _ _) (congrArg (World.drewN _) (Nat.add_assoc _ _ _))⟩)))
          repeat (go_quiet (first | (go_at_call 61; (with_reducible refine (impl_IsNumber.calls (rd l0_0 qb) false _ A13.out).mono ?_); rintro e w' ⟨rfl, ⟨nd, rfl⟩⟩; (try first | exact ⟨rfl, _, World.drewN_drewN _ _ _⟩ | exact ⟨rfl, _, Eq.trans (World.drewN_drewN _ _ _) (congrArg (World.drewN _) (Nat.add_assoc _ _ _))⟩))); try go_wp2_with (first | (go_at_call 61; (with_reducible refine (impl_IsNumber.calls (rd l0_0 qb) false _ A13.out).mono ?_); rintro e w' ⟨rfl, ⟨nd, rfl⟩⟩; (try first | exact ⟨rfl, _, World.drewN_drewN _ _ _⟩ | exact ⟨rfl, _, Eq.trans (World.drewN_drewN _ _ _) (congrArg (World.drewN _) (Nat.add_assoc _ _ _))⟩))))
          go_ret
          exact ⟨by first | rfl | (simp [errW_none, errW_some] <;> rfl) | (simp [*, errW_none, errW_some] <;> rfl), bb_ HB⟩
        ·
         rw [if_neg c12] at H
         exact absurd H (by simp)
       ·
        rw [if_neg c11] at H
        exact absurd H (by simp)
      ·
       rw [if_neg c10] at H
       have qH : decide (qb < (l0_0.length : Int)) = false := decide_eq_false c10
       clear c10
       replace H := Option.bind_eq_some_iff.mp H
       obtain ⟨qe, A150, H⟩ := H
       replace H : ((impl_commonDivisor.f k2 qe a0_1).bind fun qg => (some (decide (qg ≤ 1)))) = some r := H
       have A15 := Aside0.mk A150
       clear A150
       replace H := Option.bind_eq_some_iff.mp H
       obtain ⟨qg, A160, H⟩ := H
       replace H : (some (decide (qg ≤ 1))) = some r := H
       have A16 := Aside0.mk A160
       clear A160
       obtain rfl := Option.some.inj H
       have qJ : wr.cell? ⟨qc, 0, none⟩ = some (.slice A0_0 l0_0.length c0_0) := bc_ qa 0
       have qK : wr.cell? ⟨qc, 1, none⟩ = some (.int .i64 a0_1) := bc_ qa 1
       have qL : wr.cell? ⟨qc, 2, none⟩ = some (.bool a0_2) := bc_ qa 2
       have qM := blk_frozen qa.out 0
       have qN := blk_frozen qa.out 1
       have qO := blk_frozen qa.out 2
       go_wp2_with (first | (go_at_call 93; (with_reducible refine (impl_divisorOf.calls k2 _ _ l0_0 qe _ ?side1 ?side2 A15.out).mono ?_); (case side1 => exact cb_ qh HB); (case side2 => exact qk.out); rintro e w' ⟨rfl, ⟨nd, rfl⟩⟩; (try first | exact ⟨rfl, _, World.drewN_drewN _ _ _⟩ | exact ⟨rfl, _, Eq.trans (World.drewN_drewN _ _ _) (congrArg (World.drewN _) (Nat.add_assoc _ _ _))⟩)) | (go_at_call 92; (with_reducible refine (impl_commonDivisor.calls k2 qe a0_1 qg _ A16.out).mono ?_); rintro e w' ⟨rfl, ⟨nd, rfl⟩⟩; (try first | exact ⟨rfl, _, World.drewN_drewN _ _ _⟩ | exact ⟨rfl, _, Eq.trans (World.drewN_drewN _ _ _) (congrArg (World.drewN _) (Nat.add_assoc _ _ _))⟩)))
       repeat (go_quiet (first | (go_at_call 93; (with_reducible refine (impl_divisorOf.calls k2 _ _ l0_0 qe _ ?side1 ?side2 A15.out).mono ?_); (case side1 => exact cb_ qh HB); (case side2 => exact qk.out); rintro e w' ⟨rfl, ⟨nd, rfl⟩⟩; (try first | exact ⟨rfl, _, World.drewN_drewN _ _ _⟩ | exact ⟨rfl, _, Eq.trans (World.drewN_drewN _ _ _) (congrArg (World.drewN _) (Nat.add_assoc _ _ _))⟩)) | (go_at_call 92; (with_reducible refine (impl_commonDivisor.calls k2 qe a0_1 qg _ A16.out).mono ?_); rintro e w' ⟨rfl, ⟨nd, rfl⟩⟩; (try first | exact ⟨rfl, _, World.drewN_drewN _ _ _⟩ | exact ⟨rfl, _, Eq.trans (World.drewN_drewN _ _ _) (congrArg (World.drewN _) (Nat.add_assoc _ _ _))⟩))); try go_wp2_with (first | (go_at_call 93; (with_reducible refine (impl_divisorOf.calls k2 _ _ l0_0 qe _ ?side1 ?side2 A15.out).mono ?_); (case side1 => exact cb_ qh HB); (case side2 => exact qk.out); rintro e w' ⟨rfl, ⟨nd, rfl⟩⟩; (try first | exact ⟨rfl, _, World.drewN_drewN _ _ _⟩ | exact ⟨rfl, _, Eq.trans (World.drewN_drewN _ _ _) (congrArg (World.drewN _) (Nat.add_assoc _ _ _))⟩)) | (go_at_call 92; (with_reducible refine (impl_commonDivisor.calls k2 qe a0_1 qg _ A16.out).mono ?_); rintro e w' ⟨rfl, ⟨nd, rfl⟩⟩; (try first | exact ⟨rfl, _, World.drewN_drewN _ _ _⟩ | exact ⟨rfl, _, Eq.trans (World.drewN_drewN _ _ _) (congrArg (World.drewN _) (Nat.add_assoc _ _ _))⟩))))
       go_ret
       exact ⟨by first | rfl | (simp [errW_none, errW_some] <;> rfl) | (simp [*, errW_none, errW_some] <;> rfl), bb_ HB⟩

-- NOT PRINTED: function 53 (strings_Builder_Len)

-- NOT PRINTED: function 111 (abi_NoEscape)

-- NOT PRINTED: function 94 (strings_Builder_copyCheck)

-- NOT PRINTED: function 54 (strings_Builder_WriteByte)

-- NOT PRINTED: function 55 (strings_Builder_WriteString)

/-! ### strconv_Itoa: function 95 -/
class LaidW (w : World) : Prop where
 out : Lib.TabIs Tryd.prog w "internal/strconv.uint64pow10" .u64 Lib.pow10Tab
def strconv_Itoa.f (a0 : Int) : Option (ByteArray) := if -9223372036854775808 ≤ a0 ∧ a0 ≤ 9223372036854775807 then some ⟨(Lib.itoa a0).toArray⟩ else none
theorem strconv_Itoa.calls (a0 : Int) (r : ByteArray) (w : World) (hL : LaidW w) (h : strconv_Itoa.f a0 = some r) :
  Calls Tryd.prog 95 #[.int .i64 a0] w fun e w' => e = .returned (.string r) ∧ Below w.heap.size w w' := by
 unfold strconv_Itoa.f at h
 split at h
 ·
  rename_i hb
  obtain rfl := Option.some.inj h
  refine (Tryd.strconv_Itoa a0 hb.1 hb.2 w hL.out).mono ?_
  rintro e w' ⟨rfl, k, os, rfl⟩
  exact ⟨rfl, Lib.below_grow _ _ (Nat.le_refl _) k os⟩
 ·
  exact absurd h (by simp)

theorem laid_ {w W W2 : World} (hL : Aside0 (LaidW w)) (h : Aside0 (Below w.heap.size w W)) [k : Lts w W W2] : LaidW W2 := ⟨Lib.tabBelow_of_tabIs hL.out.out W2 (bb_ h)⟩

/-! ### impl_FormatInt: function 56 -/
def impl_FormatInt.f (a0 : Int) : Option (ByteArray) := (strconv_Itoa.f a0).bind fun qa => (some qa)
set_option maxHeartbeats 8000000 in
set_option maxRecDepth 100000 in
theorem impl_FormatInt.calls (a0 : Int) (r : ByteArray) (w : World) (hL : LaidW w) (h : impl_FormatInt.f a0 = some r) :
  Calls Tryd.prog 56 #[.int .i64 a0] w fun e w' => e = .returned (.string r) ∧ Below w.heap.size w w' := by
 have HL_ := Aside0.mk hL
 clear hL
 have HB := Aside0.mk (Below.refl w.heap.size w)
 have H : ((strconv_Itoa.f a0).bind fun qa => (some qa)) = some r := h
 clear h
 replace H := Option.bind_eq_some_iff.mp H
 obtain ⟨qa, A20, H⟩ := H
 replace H : (some qa) = some r := H
 have A2 := Aside0.mk A20
 clear A20
 obtain rfl := Option.some.inj H
 go_enter Tryd.func56, Tryd.ntmps56
 go_wp2_with (first | ((with_reducible refine gate_callee (f := 95) rfl ?_); refine goesL_ (some 4) rfl rfl Tryd.func95 (by kernel_rfl) rfl #[.int .i64 a0] rfl (by (try simp only [List.map_toArray, List.map_cons, List.map_nil]); first | done | rfl | (simp only [List.length_drop, List.length_take]; rfl)) ?_; (with_reducible refine (strconv_Itoa.calls (hL := laid_ HL_ HB) a0 qa _ A2.out).mono ?_); rintro e w3 ⟨rfl, hb⟩; refine ⟨_, rfl, ?_⟩; replace HB := bS_ HB hb; (try clear hb); (try clear hb2); (try clear hk); (try clear hi)))
 go_ret
 exact ⟨by first | rfl | (simp [errW_none, errW_some] <;> rfl) | (simp [*, errW_none, errW_some] <;> rfl), bb_ HB⟩

-- NOT PRINTED: function 57 (strings_Builder_String)

/-! ### impl_FormatAtom: function 14 -/
set_option maxHeartbeats 4000000 in
set_option maxRecDepth 100000 in
theorem Bld.used (b : Nat) (w : World) (h0 : w.cell? ⟨b, 0, none⟩ = some (.pointer (some ⟨b, 0, none⟩))) :
  Calls Tryd.prog 94 #[.pointer (some ⟨b, 0, none⟩)] w fun e w' => e = .returned (.tuple #[]) ∧ w' = w := by
 obtain ⟨j, hj, _⟩ := Option.map_eq_some_iff.1 (show (Tryd.prog.info? 87).map (·.size) = some 2 by kernel_rfl)
 have u1 := run_underlying Tryd.underlying85
 have u2 := run_underlying Tryd.underlying87
 go_enter Tryd.func94, Tryd.ntmps94
 go_wp2
 rw [Lib.run_neq_ptr_same w _ Tryd.underlying85 hj]
 go_wp2
 go_end0
 exact ⟨rfl, rfl⟩
set_option maxHeartbeats 4000000 in
set_option maxRecDepth 100000 in
theorem Bld.fresh (b : Nat) (w : World) (h0 : w.cell? ⟨b, 0, none⟩ = some (.pointer none)) (hsh : w.shape? b = some (87, 2)) (hfz : w.frozen? ⟨b, 0, none⟩ = false) :
  Calls Tryd.prog 94 #[.pointer (some ⟨b, 0, none⟩)] w fun e w' => e = .returned (.tuple #[]) ∧ w' = w.setCell ⟨b, 0, none⟩ (.pointer (some ⟨b, 0, none⟩)) := by
 obtain ⟨j, hj, hjs⟩ := Option.map_eq_some_iff.1 (show (Tryd.prog.info? 87).map (·.size) = some 2 by kernel_rfl)
 have u1 := run_underlying Tryd.underlying85
 have u2 := run_underlying Tryd.underlying87
 have u3 := run_underlying Tryd.underlying129
 go_enter Tryd.func94, Tryd.ntmps94
 go_wp2
 rw [Lib.run_to_unsafe w ⟨b, 0, none⟩ Tryd.underlying85 Tryd.underlying129 hj (by rw [hjs]; decide) hsh (Nat.zero_lt_succ 1)]
 simp only [Result.andThen]
 rw [Oper.upon_value]
 go_wp2
 rw [run_callFunc_extern Tryd.func111 (by kernel_rfl) (by kernel_rfl) (by kernel_rfl) (e := Extern.AbiNoEscape.same) (by kernel_rfl)]
 rw [Lib.run_noEscape]
 simp only [Result.andThen]
 rw [Oper.upon_value]
 go_wp2
 rw [Lib.run_from_unsafe w ⟨b, 0, none⟩ Tryd.underlying129 Tryd.underlying85 hj hsh (by kernel_rfl)]
 simp only [Result.andThen]
 rw [Oper.upon_value]
 go_wp2
 go_end0
 exact ⟨rfl, rfl⟩
set_option maxHeartbeats 4000000 in
set_option maxRecDepth 100000 in
theorem Bld.check (B b : Nat) (bs : List Value) (w : World) (h : Lib.IsBuilder 87 5 B b bs w) :
  Calls Tryd.prog 94 #[.pointer (some ⟨b, 0, none⟩)] w fun e w' => e = .returned (.tuple #[]) ∧ (Lib.BuilderAt 87 5 B b (.pointer (some ⟨b, 0, none⟩)) bs w' ∧ Below B w w') := by
 cases h with
 | inl h =>
  refine (Bld.fresh b w h.cell0 h.shape h.frozen0).mono ?_
  rintro e w' ⟨rfl, rfl⟩
  exact ⟨rfl, h.used _, (Below.refl B w).setCell (p := ⟨b, 0, none⟩) h.1 _⟩
 | inr h =>
  refine (Bld.used b w h.cell0).mono ?_
  rintro e w' ⟨rfl, rfl⟩
  exact ⟨rfl, h, Below.refl B _⟩
set_option maxHeartbeats 4000000 in
set_option maxRecDepth 100000 in
theorem Bld.here {B b : Nat} {p v : Value} {w : World} (h : w.heap[b]? = some (.cells #[p, v] 87 (0, 0))) : b < w.heap.size := (Array.getElem?_eq_some_iff.1 h).1
set_option maxHeartbeats 4000000 in
set_option maxRecDepth 100000 in
theorem Bld.writeByte (B b : Nat) (bs : List Value) (c : Int) (w : World) (h : Lib.IsBuilder 87 5 B b bs w) (hlen : bs.length + 1 ≤ 140737488355328) (hBw : B ≤ w.heap.size) :
  Calls Tryd.prog 54 #[.pointer (some ⟨b, 0, none⟩), .int .u8 c] w fun e w' => e = .returned .nilIface ∧ (Lib.IsBuilder 87 5 B b (bs ++ [.int .u8 c]) w' ∧ Below B w w') := by
 obtain ⟨i0, hi, hz0, hz1, hz2⟩ := info_parts (show (Tryd.prog.info? 5).map (fun i => (i.zero, i.size, i.bytes)) = some (some (.int .u8 0), 1, 1) by kernel_rfl)
 have u1 := run_underlying Tryd.underlying85
 have u2 := run_underlying Tryd.underlying87
 have u3 := run_underlying Tryd.underlying61
 go_enter Tryd.func54, Tryd.ntmps54
 go_wp2_with (go_at_call 94; refine (Bld.check B b bs _ h).mono ?_)
 rintro e w1 ⟨rfl, ⟨hB, v, hbk, hown, hne⟩, hb1⟩
 have hs1 := hb1.size
 have c0 : w1.cell? ⟨b, 0, none⟩ = some (.pointer (some ⟨b, 0, none⟩)) := by rw [Lib.cell_of_heap hbk]; rfl
 have c1 : w1.cell? ⟨b, 1, none⟩ = some v := by rw [Lib.cell_of_heap hbk]; rfl
 go_wp2_with (at_builtin; refine wpList_append_own _ rfl _ _ 61 rfl B 5 i0 (.int .u8 0) 1 1 Tryd.underlying61 hi hz0 hz1 hz2 rfl (by decide) _ _ _ rfl (hown.alloc _) ⟨w1.heap.size, 0, none⟩ 1 1 [.int .u8 c] rfl rfl ?c1 ?c2 ?c3 ?c4 ?c5 ?_)
 case c1 =>
  intro j u hj
  match j, hj with
  | 0, hj => simp at hj; subst hj; simp [Addr.add]
 case c2 => intro u hu; simp at hu; subst hu; rfl
 case c3 => unfold maxLen; omega
 case c4 => omega
 case c5 => simp; omega
 intro v' w2 hown' hgrow _
 have hlt : b < w1.heap.size := Bld.here (B := B) hbk
 have hb2 : w2.heap[b]? = some (.cells #[.pointer (some ⟨b, 0, none⟩), v] 87 (0, 0)) := by
  rw [hgrow.block b (by simp; omega) (fun e => hne e.symm), Lib.alloc_old w1 _ b hlt]
  exact hbk
 have d0 : w2.cell? ⟨b, 0, none⟩ = some (.pointer (some ⟨b, 0, none⟩)) := by rw [Lib.cell_of_heap hb2]; rfl
 have d1 : w2.cell? ⟨b, 1, none⟩ = some v := by rw [Lib.cell_of_heap hb2]; rfl
 have f1 : w2.frozen? ⟨b, 1, none⟩ = false := Lib.frozen_of_heap hb2 1
 obtain ⟨g, cap, rfl⟩ : ∃ g cap, v' = .slice (some ⟨g, 0, none⟩) (bs.length + 1) cap := by
  rcases hown'.2 with ⟨_, h0⟩ | ⟨g, cap, cur, hv, _⟩
  ·
   omega
  ·
   exact ⟨g, cap, hv⟩
 go_wp2
 go_ret
 refine ⟨rfl, .inr ?_, ?_⟩
 ·
  exact Lib.BuilderAt.put (T := 87) (e := 5) hB hb2 (bs' := bs ++ [.int .u8 c]) (by simpa using hown') (by decide)
 ·
  exact ((hb1.alloc (by omega) _).grown hgrow (by simp; omega) (fun k hk => (hown.lt k hk).1)).setCell (p := ⟨b, 1, none⟩) hB _
set_option maxHeartbeats 4000000 in
set_option maxRecDepth 100000 in
theorem Bld.writeString (B b : Nat) (bs : List Value) (s : ByteArray) (w : World) (h : Lib.IsBuilder 87 5 B b bs w) (hlen : bs.length + s.size ≤ 140737488355328) (hBw : B ≤ w.heap.size) :
  Calls Tryd.prog 55 #[.pointer (some ⟨b, 0, none⟩), .string s] w fun e w' => e = .returned (.tuple #[.int .i64 s.size, .nilIface]) ∧ (Lib.IsBuilder 87 5 B b (bs ++ Lib.strCells s) w' ∧ Below B w w') := by
 obtain ⟨i0, hi, hz0, hz1, hz2⟩ := info_parts (show (Tryd.prog.info? 5).map (fun i => (i.zero, i.size, i.bytes)) = some (some (.int .u8 0), 1, 1) by kernel_rfl)
 have u1 := run_underlying Tryd.underlying85
 have u2 := run_underlying Tryd.underlying87
 have u3 := run_underlying Tryd.underlying61
 go_enter Tryd.func55, Tryd.ntmps55
 go_wp2_with (go_at_call 94; refine (Bld.check B b bs _ h).mono ?_)
 rintro e w1 ⟨rfl, ⟨hB, v, hbk, hown, hne⟩, hb1⟩
 have hs1 := hb1.size
 have c0 : w1.cell? ⟨b, 0, none⟩ = some (.pointer (some ⟨b, 0, none⟩)) := by rw [Lib.cell_of_heap hbk]; rfl
 have c1 : w1.cell? ⟨b, 1, none⟩ = some v := by rw [Lib.cell_of_heap hbk]; rfl
 go_wp2_with (at_builtin; refine Lib.wpList_append_own_string _ rfl _ _ 61 9 rfl B 5 i0 Tryd.underlying61 Tryd.underlying9 hi hz0 hz1 hz2 _ _ _ rfl hown s rfl ?c3 ?c4 ?c5 ?_)
 case c3 => unfold maxLen; omega
 case c4 => omega
 case c5 => omega
 intro v' w2 hown' hgrow _
 have hlt : b < w1.heap.size := Bld.here (B := B) hbk
 have hb2 : w2.heap[b]? = some (.cells #[.pointer (some ⟨b, 0, none⟩), v] 87 (0, 0)) := by
  rw [hgrow.block b hlt (fun e => hne e.symm)]
  exact hbk
 have d0 : w2.cell? ⟨b, 0, none⟩ = some (.pointer (some ⟨b, 0, none⟩)) := by rw [Lib.cell_of_heap hb2]; rfl
 have d1 : w2.cell? ⟨b, 1, none⟩ = some v := by rw [Lib.cell_of_heap hb2]; rfl
 have f1 : w2.frozen? ⟨b, 1, none⟩ = false := Lib.frozen_of_heap hb2 1
 obtain ⟨ao, n', cap, rfl⟩ : ∃ ao n' cap, v' = .slice ao n' cap := by
  rcases hown'.2 with ⟨hv, _⟩ | ⟨g, cap, cur, hv, _⟩
  ·
   exact ⟨_, _, _, hv⟩
  ·
   exact ⟨_, _, _, hv⟩
 go_wp2
 go_ret2
 refine ⟨rfl, .inr ?_, ?_⟩
 ·
  exact Lib.BuilderAt.put (T := 87) (e := 5) hB hb2 (bs' := bs ++ Lib.strCells s) (by simpa [Lib.strCells_length] using hown') (by decide)
 ·
  exact (hb1.grown hgrow (by omega) (fun k hk => (hown.lt k hk).1)).setCell (p := ⟨b, 1, none⟩) hB _
/-- The builder in block b (one of the blocks from B on) holds these bytes. -/
def Bl (B b : Nat) (acc : List UInt8) (w : World) : Prop := Lib.IsBuilder 87 5 B b (Lib.byteCells acc) w
theorem Bl.below {B b : Nat} {acc : List UInt8} {W W' : World} (h : Bl B b acc W) (hb : Below W.heap.size W W') : Bl B b acc W' := by
 have k : ∀ p, Lib.BuilderAt 87 5 B b p (Lib.byteCells acc) W → Lib.BuilderAt 87 5 B b p (Lib.byteCells acc) W' := by
  intro p h
  have hlt := h.lt
  obtain ⟨hB, v, hv, hown, hne⟩ := h
  exact ⟨hB, v, (hb.block b hlt).trans hv, hown.kept (row := none) ⟨hb.os, hb.tape, hb.output, hb.size, fun k hk _ => hb.block k hk⟩ (Classical.em _), hne⟩
 exact Or.imp (k _) (k _) h
theorem Bl.new (w : World) : Bl w.heap.size w.heap.size [] (w.alloc (.cells #[.pointer none, .slice none 0 0] 87)) := Lib.fresh_isBuilder _ _ w
theorem Bl.len {B b : Nat} {acc : List UInt8} {w : World} (h : Bl B b acc w) :
  Calls Tryd.prog 53 #[.pointer (some ⟨b, 0, none⟩)] w fun e w' => e = .returned (.int .i64 (acc.length : Int)) ∧ w' = w := by
 have := Tryd.Builder_Len B b _ w h
 rwa [Lib.byteCells_length] at this
theorem Bl.byte {B b : Nat} {acc : List UInt8} {w : World} (c : UInt8) (h : Bl B b acc w) (hl : acc.length ≤ 1000000) (hB : B ≤ w.heap.size) :
  Calls Tryd.prog 54 #[.pointer (some ⟨b, 0, none⟩), .int .u8 (c.toNat : Int)] w fun e w' => e = .returned .nilIface ∧ Bl B b (acc ++ [c]) w' ∧ Below B w w' := by
 refine (Bld.writeByte B b _ (c.toNat : Int) w h (by rw [Lib.byteCells_length]; omega) hB).mono ?_
 rintro e w' ⟨rfl, h1, h2⟩
 refine ⟨rfl, ?_, h2⟩
 unfold Bl
 rw [Lib.byteCells_append]
 exact h1
theorem Bl.byteI {B b : Nat} {acc : List UInt8} {w : World} (x : Int) (c : UInt8) (hx : (c.toNat : Int) = x) (h : Bl B b acc w) (hl : acc.length ≤ 1000000) (hB : B ≤ w.heap.size) :
  Calls Tryd.prog 54 #[.pointer (some ⟨b, 0, none⟩), .int .u8 x] w fun e w' => e = .returned .nilIface ∧ Bl B b (acc ++ [c]) w' ∧ Below B w w' := by
 subst hx
 exact Bl.byte c h hl hB
theorem Bl.str {B b : Nat} {acc : List UInt8} {w : World} (s : ByteArray) (h : Bl B b acc w) (hl : acc.length ≤ 1000000) (hs : s.size ≤ 1000000) (hB : B ≤ w.heap.size) :
  Calls Tryd.prog 55 #[.pointer (some ⟨b, 0, none⟩), .string s] w fun e w' => e = .returned (.tuple #[.int .i64 s.size, .nilIface]) ∧ Bl B b (acc ++ s.data.toList) w' ∧ Below B w w' := by
 refine (Bld.writeString B b _ s w h (by rw [Lib.byteCells_length]; omega) hB).mono ?_
 rintro e w' ⟨rfl, h1, h2⟩
 refine ⟨rfl, ?_, h2⟩
 unfold Bl
 rw [Lib.byteCells_append]
 exact h1
theorem Bl.out {B b : Nat} {acc : List UInt8} {w : World} (h : Bl B b acc w) (hB : B ≤ w.heap.size) :
  Calls Tryd.prog 57 #[.pointer (some ⟨b, 0, none⟩)] w fun e w' => e = .returned (.string ⟨acc.toArray⟩) ∧ Below B w w' := by
 refine (Tryd.Builder_String_any B b acc w h hB).mono ?_
 rintro e w' h
 exact h

def FA.nm (i : Nat) : UInt8 := if i = 0 then 120 else if i = 1 then 121 else if i = 2 then 122 else 116
def FA.plus (acc : List UInt8) (n : Int) : List UInt8 := if 0 < n ∧ 0 < acc.length then acc ++ [43] else acc
def FA.tail (acc : List UInt8) (s : Bool) : Option ByteArray := if acc.length ≤ 900000 then some ⟨(acc ++ (if s then [60, 48] else [60, 61, 48])).toArray⟩ else none
def FA.fin (acc : List UInt8) (c : Int) (s : Bool) : Option ByteArray := if c = 0 ∧ 0 < acc.length then FA.tail acc s else (impl_FormatInt.f c).bind fun t => if acc.length ≤ 800000 ∧ t.size ≤ 100 then FA.tail (FA.plus acc c ++ t.data.toList) s else none
def FA.step (acc : List UInt8) (i : Nat) (n : Int) : Option (List UInt8) := if n = 0 then some acc else if acc.length ≤ 700000 then (if n = 1 then some (FA.plus acc n ++ [FA.nm i]) else if n = -1 then some (FA.plus acc n ++ [45] ++ [FA.nm i]) else (impl_FormatInt.f n).bind fun t => if t.size ≤ 100 then some (FA.plus acc n ++ t.data.toList ++ [FA.nm i]) else none) else none
def FA.go : List Int → Nat → List UInt8 → Option (List UInt8)
 | [], _, acc => some acc
 | n :: ns, i, acc => (FA.step acc i n).bind fun a => FA.go ns (i + 1) a
def impl_FormatAtom.f (k : Nat) (l0_0 : List Int) (a0_1 : Int) (a0_2 : Bool) : Option (ByteArray) := (impl_IsAtom.f k l0_0 a0_1 a0_2).bind fun t => if t = true then (if l0_0.length ≤ 4 then (FA.go l0_0 0 []).bind fun acc => FA.fin acc a0_1 a0_2 else none) else some ⟨#[]⟩
theorem impl_FormatAtom.mono : ∀ l0_0 a0_1 a0_2 k, LeO (impl_FormatAtom.f k l0_0 a0_1 a0_2) (impl_FormatAtom.f (k + 1) l0_0 a0_1 a0_2) := fun l c s k => LeO.bind (impl_IsAtom.mono l c s k) (fun _ => LeO.refl _)
theorem FA.nm_get : ∀ (i : Nat) (h : i < 4), (⟨#[120, 121, 122, 116]⟩ : ByteArray)[i]'h = FA.nm i
 | 0, _ => rfl | 1, _ => rfl | 2, _ => rfl | 3, _ => rfl
 | n + 4, h => by omega
theorem FA.plus_len (acc : List UInt8) (n : Int) : (FA.plus acc n).length ≤ acc.length + 1 := by unfold FA.plus; split <;> simp
theorem FA.cell {W : World} {g : Nat} {A : Option Addr} {n c : Nat} {x : Int} {s : Bool} (h : W.heap[g]? = some (.cells #[.slice A n c, .int .i64 x, .bool s] 27 (0, 0))) :
  W.cell? ⟨g, 0, none⟩ = some (.slice A n c) ∧ W.cell? ⟨g, 1, none⟩ = some (.int .i64 x) ∧ W.cell? ⟨g, 2, none⟩ = some (.bool s) := by
 refine ⟨?_, ?_, ?_⟩ <;> (rw [Lib.cell_of_heap h]; rfl)
/-- What is carried: the box of the parameter, the builder, the frame. -/
structure FA.St (w : World) (g B : Nat) (A : Option Addr) (n c0 : Nat) (x : Int) (s : Bool) (acc : List UInt8) (W : World) : Prop where
 gB : g < B
 wg : w.heap.size ≤ g
 box : W.heap[g]? = some (.cells #[.slice A n c0, .int .i64 x, .bool s] 27 (0, 0))
 bl : Bl B B acc W
 lt : B < W.heap.size
 bw : Below w.heap.size w W
theorem FA.St.on {w : World} {g B : Nat} {A : Option Addr} {n c0 : Nat} {x : Int} {s : Bool} {acc acc' : List UInt8} {W W' : World} (h : FA.St w g B A n c0 x s acc W) (hb : Bl B B acc' W') (hw : Below B W W') : FA.St w g B A n c0 x s acc' W' :=
 ⟨h.gB, h.wg, (hw.block _ h.gB).trans h.box, hb, Nat.lt_of_lt_of_le h.lt hw.size, h.bw.trans (hw.mono (Nat.le_trans h.wg (Nat.le_of_lt h.gB)))⟩
theorem FA.St.grown {w : World} {g B : Nat} {A : Option Addr} {n c0 : Nat} {x : Int} {s : Bool} {acc : List UInt8} {W W' : World} (h : FA.St w g B A n c0 x s acc W) (hw : Below W.heap.size W W') : FA.St w g B A n c0 x s acc W' :=
 h.on (h.bl.below hw) (hw.mono (Nat.le_of_lt h.lt))
set_option maxHeartbeats 8000000 in
set_option maxRecDepth 100000 in
theorem impl_FormatAtom.calls (k : Nat) (A0_0 : Option Addr) (c0_0 : Nat) (l0_0 : List Int) (a0_1 : Int) (a0_2 : Bool) (r : ByteArray) (w : World) (hL : LaidW w) (hr0_0 : Kd.C (Kd.int .i64) w A0_0 l0_0.length l0_0) (hc0_0 : l0_0.length ≤ c0_0) (h : impl_FormatAtom.f k l0_0 a0_1 a0_2 = some r) :
  Calls Tryd.prog 14 #[.agg #[.slice A0_0 l0_0.length c0_0, .int .i64 a0_1, .bool a0_2]] w fun e w' => e = .returned (.string r) ∧ Below w.heap.size w w' := by
 have HL_ := Aside0.mk hL
 have HR0 := Aside0.mk hr0_0
 have HC0 := Aside0.mk hc0_0
 clear hL hr0_0 hc0_0
 have hu27 := Tryd.underlying27
 unfold impl_FormatAtom.f at h
 obtain ⟨t, hA, h⟩ := Option.bind_eq_some_iff.mp h
 have HA := Aside0.mk hA
 have H := Aside0.mk h
 clear hA h
 cases t with
 | false =>
  obtain rfl := Option.some.inj H.out
  go_enter Tryd.func14, Tryd.ntmps14
  go_wp2_with (first | ((with_reducible refine gate_dst (N := 1) rfl ?_); refine box_event ?hg (N := 1) ?hd (cs := #[.slice A0_0 l0_0.length c0_0, .int .i64 a0_1, .bool a0_2]) (t := 27) ?hr ?_; (case hd => rfl); (case hg => rfl); (case hr => first | (go_simp; done) | (go_simp; rfl)); intro g hg w1 hbox hb; have HX := Aside0.mk hbox; have HG := Aside0.mk hg; have HB := Aside0.mk hb; obtain ⟨e0, e1, e2⟩ := FA.cell hbox; clear hbox hg hb) | (go_at_call 52; refine (impl_IsAtom.calls k A0_0 c0_0 l0_0 a0_1 a0_2 _ _ (Kd.C_below HR0.out HB.out) HC0.out HA.out).mono ?_; rintro e w2 ⟨rfl, hb2⟩; replace HX := Aside0.mk (blk_below HX.out hb2); replace HB := Aside0.mk (below_step HB.out hb2); clear hb2 e0 e1 e2; have hgw := (Array.getElem?_eq_some_iff.1 HX.out).1; have e0 := fun o => (FA.cell ((Lib.alloc_old w2 o g hgw).trans HX.out)).1))
  go_ret
  exact ⟨rfl, HB.out⟩
 | true =>
  have H1 := H.out
  clear H
  rw [if_pos rfl] at H1
  by_cases h4 : l0_0.length ≤ 4
  ·
   rw [if_pos h4] at H1
   obtain ⟨fa, hgo, hfin⟩ := Option.bind_eq_some_iff.mp H1
   have HGO := Aside0.mk hgo
   have HFIN := Aside0.mk hfin
   have H4 := Aside0.mk h4
   clear H1 hgo hfin h4
   go_enter Tryd.func14, Tryd.ntmps14
   go_wp2_with (first | ((with_reducible refine gate_dst (N := 1) rfl ?_); refine box_event ?hg (N := 1) ?hd (cs := #[.slice A0_0 l0_0.length c0_0, .int .i64 a0_1, .bool a0_2]) (t := 27) ?hr ?_; (case hd => rfl); (case hg => rfl); (case hr => first | (go_simp; done) | (go_simp; rfl)); intro g hg w1 hbox hb; have HX := Aside0.mk hbox; have HG := Aside0.mk hg; have HB := Aside0.mk hb; obtain ⟨e0, e1, e2⟩ := FA.cell hbox; clear hbox hg hb) | (go_at_call 52; refine (impl_IsAtom.calls k A0_0 c0_0 l0_0 a0_1 a0_2 _ _ (Kd.C_below HR0.out HB.out) HC0.out HA.out).mono ?_; rintro e w2 ⟨rfl, hb2⟩; replace HX := Aside0.mk (blk_below HX.out hb2); replace HB := Aside0.mk (below_step HB.out hb2); clear hb2 e0 e1 e2; have hgw := (Array.getElem?_eq_some_iff.1 HX.out).1; have e0 := fun o => (FA.cell ((Lib.alloc_old w2 o g hgw).trans HX.out)).1))
   have HS : FA.St w g w2.heap.size A0_0 l0_0.length c0_0 a0_1 a0_2 [] (w2.alloc (.cells #[.pointer none, .slice none 0 0] 87)) := ⟨hgw, by rw [HG.out]; exact Nat.le_refl _, (Lib.alloc_old w2 _ g hgw).trans HX.out, Bl.new w2, by simp, below_alloc HB.out _⟩
   clear e0 hgw HX HG HB
   generalize w2.heap.size = B at HS ⊢
   generalize w2.alloc (.cells #[.pointer none, .slice none 0 0] 87) = W at HS ⊢
   obtain ⟨K, hK⟩ : ∃ K, K = l0_0.length + 1 := ⟨_, rfl⟩
   have HK0 := Aside0.mk hK
   clear hK
   go_loopg [12] K (fun kq v12 wc => ∃ (acc : List UInt8) (i : Nat), v12 = .int .i64 (i : Int) ∧ Aside0 (FA.go (l0_0.drop i) i acc = some fa) ∧ Aside0 (i + kq = l0_0.length + 1) ∧ Aside0 (i ≤ l0_0.length) ∧ FA.St w g B A0_0 l0_0.length c0_0 a0_1 a0_2 acc wc)
   case atStart => exact ⟨[], 0, rfl, by rw [List.drop_zero]; exact HGO, ⟨by have := HK0.out; omega⟩, ⟨Nat.zero_le _⟩, HS⟩
   case round =>
    clear HS HGO
    obtain ⟨acc, i, rfl, HGO, HK1, HI, HS⟩ := hrel
    cases gk with
    | zero => have := HK1.out; have := HI.out; omega
    | succ k1 =>
    obtain ⟨e0, e1, e2⟩ := FA.cell HS.box
    by_cases hi : i < l0_0.length
    ·
     have hlt : decide ((i : Int) < (l0_0.length : Int)) = true := by simpa using hi
     obtain ⟨qf, e242, qd⟩ := Kd.at_int (Kd.C_below HR0.out HS.bw) (i : Int) (by omega) (by omega)
     cases e242
     rw [Int.toNat_natCast] at qd
     have hq := List.drop_eq_getElem_cons hi
     have hrd : rd l0_0 (i : Int) = l0_0[i] := by simp [rd, List.getD_eq_getElem?_getD, hi]
     have HG1 := HGO.out
     rw [hq, FA.go, ← hrd] at HG1
     clear hq HGO
     generalize rd l0_0 (i : Int) = n at qd HG1 hrd
     clear hrd
     obtain ⟨a1, hst, hgo⟩ := Option.bind_eq_some_iff.mp HG1
     have HGO := Aside0.mk hgo
     clear HG1 hgo
     have h4 := H4.out
     have hwr : wrap64 ((i : Int) + 1) = ((i + 1 : Nat) : Int) := by unfold wrap64; omega
     have i0 : (0 ≤ (i : Int)) = True := eq_true (by omega)
     have i4 : ((i : Int) < 4) = True := eq_true (by omega)
     unfold FA.step at hst
     by_cases c0 : n = 0
     ·
      rw [if_pos c0] at hst
      obtain rfl := Option.some.inj hst
      have c0b : (n == 0) = true := beq_iff_eq.mpr c0
      clear c0 hst
      go_wp2
      go_roundg k1
      case measure => have := HK1.out; omega
      case rel => exact ⟨acc, i + 1, by first | rfl | (simp [hwr]; done), HGO, ⟨by have := HK1.out; omega⟩, ⟨by omega⟩, HS⟩
     ·
      rw [if_neg c0] at hst
      have c0b : (n == 0) = false := beq_eq_false_iff_ne.mpr c0
      by_cases cl : acc.length ≤ 700000
      ·
       rw [if_pos cl] at hst
       by_cases c1 : n = 1
       ·
        rw [if_pos c1] at hst
        have c1b : (n == 1) = true := beq_iff_eq.mpr c1
        have cg : decide (0 < n) = true := decide_eq_true (by omega)
        by_cases ca : 0 < acc.length
        ·
         have cab : decide ((0 : Int) < (acc.length : Int)) = true := decide_eq_true (by omega)
         have cac : decide (0 < acc.length) = true := decide_eq_true ca
         have ep : FA.plus acc n = acc ++ [43] := by unfold FA.plus; rw [if_pos ⟨by omega, ca⟩]
         go_wp2_with (first | (go_at_call 53; refine (Bl.len HS.bl).mono ?_; rintro e W1 ⟨rfl, rfl⟩) | (go_at_call 54; refine (Bl.byteI _ 43 (by rfl) HS.bl (by first | omega | (simp; omega)) (Nat.le_of_lt HS.lt)).mono ?_; rintro e W1 ⟨rfl, hb_, hw_⟩; replace HS := HS.on hb_ hw_; clear hb_ hw_ e0 e1 e2; obtain ⟨e0, e1, e2⟩ := FA.cell HS.box) | (go_at_call 54; refine (Bl.byteI _ _ rfl HS.bl (by first | omega | (simp; omega)) (Nat.le_of_lt HS.lt)).mono ?_; rintro e W1 ⟨rfl, hb_, hw_⟩; replace HS := HS.on hb_ hw_; clear hb_ hw_ e0 e1 e2; obtain ⟨e0, e1, e2⟩ := FA.cell HS.box))
         go_roundg k1
         case measure => have := HK1.out; omega
         case rel =>
          obtain rfl := Option.some.inj hst
          refine ⟨_, i + 1, by first | rfl | simp, HGO, ⟨by have := HK1.out; omega⟩, ⟨by omega⟩, ?_⟩
          rw [ep, ← FA.nm_get i (by omega)]
          exact HS
        ·
         have cab : decide ((0 : Int) < (acc.length : Int)) = false := decide_eq_false (by omega)
         have cac : decide (0 < acc.length) = false := decide_eq_false ca
         have ep : FA.plus acc n = acc := by unfold FA.plus; rw [if_neg (by omega)]
         go_wp2_with (first | (go_at_call 53; refine (Bl.len HS.bl).mono ?_; rintro e W1 ⟨rfl, rfl⟩) | (go_at_call 54; refine (Bl.byteI _ _ rfl HS.bl (by first | omega | (simp; omega)) (Nat.le_of_lt HS.lt)).mono ?_; rintro e W1 ⟨rfl, hb_, hw_⟩; replace HS := HS.on hb_ hw_; clear hb_ hw_ e0 e1 e2; obtain ⟨e0, e1, e2⟩ := FA.cell HS.box))
         go_roundg k1
         case measure => have := HK1.out; omega
         case rel =>
          obtain rfl := Option.some.inj hst
          refine ⟨_, i + 1, by first | rfl | simp, HGO, ⟨by have := HK1.out; omega⟩, ⟨by omega⟩, ?_⟩
          rw [ep, ← FA.nm_get i (by omega)]
          exact HS
       ·
        rw [if_neg c1] at hst
        have c1b : (n == 1) = false := beq_eq_false_iff_ne.mpr c1
        by_cases c2 : n = -1
        ·
         rw [if_pos c2] at hst
         have c2b : (n == -1) = true := beq_iff_eq.mpr c2
         have cg : decide (0 < n) = false := decide_eq_false (by omega)
         have ep : FA.plus acc n = acc := by unfold FA.plus; rw [if_neg (by omega)]
         go_wp2_with (first | (go_at_call 54; refine (Bl.byteI _ 45 (by rfl) HS.bl (by first | omega | (simp; omega)) (Nat.le_of_lt HS.lt)).mono ?_; rintro e W1 ⟨rfl, hb_, hw_⟩; replace HS := HS.on hb_ hw_; clear hb_ hw_ e0 e1 e2; obtain ⟨e0, e1, e2⟩ := FA.cell HS.box) | (go_at_call 54; refine (Bl.byteI _ _ rfl HS.bl (by first | omega | (simp; omega)) (Nat.le_of_lt HS.lt)).mono ?_; rintro e W1 ⟨rfl, hb_, hw_⟩; replace HS := HS.on hb_ hw_; clear hb_ hw_ e0 e1 e2; obtain ⟨e0, e1, e2⟩ := FA.cell HS.box))
         go_roundg k1
         case measure => have := HK1.out; omega
         case rel =>
          obtain rfl := Option.some.inj hst
          refine ⟨_, i + 1, by first | rfl | simp, HGO, ⟨by have := HK1.out; omega⟩, ⟨by omega⟩, ?_⟩
          rw [ep, ← FA.nm_get i (by omega)]
          exact HS
        ·
         rw [if_neg c2] at hst
         have c2b : (n == -1) = false := beq_eq_false_iff_ne.mpr c2
         obtain ⟨tt, hfi, hst⟩ := Option.bind_eq_some_iff.mp hst
         have HFI := Aside0.mk hfi
         clear hfi
         by_cases ct : tt.size ≤ 100
         ·
          rw [if_pos ct] at hst
          by_cases cp : 0 < n
          ·
           have cg : decide (0 < n) = true := decide_eq_true (by omega)
           by_cases ca : 0 < acc.length
           ·
            have cab : decide ((0 : Int) < (acc.length : Int)) = true := decide_eq_true (by omega)
            have cac : decide (0 < acc.length) = true := decide_eq_true ca
            have ep : FA.plus acc n = acc ++ [43] := by unfold FA.plus; rw [if_pos ⟨by omega, ca⟩]
            go_wp2_with (first | (go_at_call 53; refine (Bl.len HS.bl).mono ?_; rintro e W1 ⟨rfl, rfl⟩) | (go_at_call 54; refine (Bl.byteI _ 43 (by rfl) HS.bl (by first | omega | (simp; omega)) (Nat.le_of_lt HS.lt)).mono ?_; rintro e W1 ⟨rfl, hb_, hw_⟩; replace HS := HS.on hb_ hw_; clear hb_ hw_ e0 e1 e2; obtain ⟨e0, e1, e2⟩ := FA.cell HS.box) | (go_at_call 56; refine (impl_FormatInt.calls n tt _ (laid_ HL_ (Aside0.mk HS.bw)) HFI.out).mono ?_; rintro e W1 ⟨rfl, hw_⟩; replace HS := HS.grown hw_; clear hw_ e0 e1 e2; obtain ⟨e0, e1, e2⟩ := FA.cell HS.box) | (go_at_call 55; refine (Bl.str tt HS.bl (by first | omega | (simp; omega)) (by first | omega | decide) (Nat.le_of_lt HS.lt)).mono ?_; rintro e W1 ⟨rfl, hb_, hw_⟩; replace HS := HS.on hb_ hw_; clear hb_ hw_ e0 e1 e2; obtain ⟨e0, e1, e2⟩ := FA.cell HS.box) | (go_at_call 54; refine (Bl.byteI _ _ rfl HS.bl (by first | omega | (simp; omega)) (Nat.le_of_lt HS.lt)).mono ?_; rintro e W1 ⟨rfl, hb_, hw_⟩; replace HS := HS.on hb_ hw_; clear hb_ hw_ e0 e1 e2; obtain ⟨e0, e1, e2⟩ := FA.cell HS.box))
            go_roundg k1
            case measure => have := HK1.out; omega
            case rel =>
             obtain rfl := Option.some.inj hst
             refine ⟨_, i + 1, by first | rfl | simp, HGO, ⟨by have := HK1.out; omega⟩, ⟨by omega⟩, ?_⟩
             rw [ep, ← FA.nm_get i (by omega)]
             exact HS
           ·
            have cab : decide ((0 : Int) < (acc.length : Int)) = false := decide_eq_false (by omega)
            have cac : decide (0 < acc.length) = false := decide_eq_false ca
            have ep : FA.plus acc n = acc := by unfold FA.plus; rw [if_neg (by omega)]
            go_wp2_with (first | (go_at_call 53; refine (Bl.len HS.bl).mono ?_; rintro e W1 ⟨rfl, rfl⟩) | (go_at_call 56; refine (impl_FormatInt.calls n tt _ (laid_ HL_ (Aside0.mk HS.bw)) HFI.out).mono ?_; rintro e W1 ⟨rfl, hw_⟩; replace HS := HS.grown hw_; clear hw_ e0 e1 e2; obtain ⟨e0, e1, e2⟩ := FA.cell HS.box) | (go_at_call 55; refine (Bl.str tt HS.bl (by first | omega | (simp; omega)) (by first | omega | decide) (Nat.le_of_lt HS.lt)).mono ?_; rintro e W1 ⟨rfl, hb_, hw_⟩; replace HS := HS.on hb_ hw_; clear hb_ hw_ e0 e1 e2; obtain ⟨e0, e1, e2⟩ := FA.cell HS.box) | (go_at_call 54; refine (Bl.byteI _ _ rfl HS.bl (by first | omega | (simp; omega)) (Nat.le_of_lt HS.lt)).mono ?_; rintro e W1 ⟨rfl, hb_, hw_⟩; replace HS := HS.on hb_ hw_; clear hb_ hw_ e0 e1 e2; obtain ⟨e0, e1, e2⟩ := FA.cell HS.box))
            go_roundg k1
            case measure => have := HK1.out; omega
            case rel =>
             obtain rfl := Option.some.inj hst
             refine ⟨_, i + 1, by first | rfl | simp, HGO, ⟨by have := HK1.out; omega⟩, ⟨by omega⟩, ?_⟩
             rw [ep, ← FA.nm_get i (by omega)]
             exact HS
          ·
           have cg : decide (0 < n) = false := decide_eq_false (by omega)
           have ep : FA.plus acc n = acc := by unfold FA.plus; rw [if_neg (by omega)]
           go_wp2_with (first | (go_at_call 56; refine (impl_FormatInt.calls n tt _ (laid_ HL_ (Aside0.mk HS.bw)) HFI.out).mono ?_; rintro e W1 ⟨rfl, hw_⟩; replace HS := HS.grown hw_; clear hw_ e0 e1 e2; obtain ⟨e0, e1, e2⟩ := FA.cell HS.box) | (go_at_call 55; refine (Bl.str tt HS.bl (by first | omega | (simp; omega)) (by first | omega | decide) (Nat.le_of_lt HS.lt)).mono ?_; rintro e W1 ⟨rfl, hb_, hw_⟩; replace HS := HS.on hb_ hw_; clear hb_ hw_ e0 e1 e2; obtain ⟨e0, e1, e2⟩ := FA.cell HS.box) | (go_at_call 54; refine (Bl.byteI _ _ rfl HS.bl (by first | omega | (simp; omega)) (Nat.le_of_lt HS.lt)).mono ?_; rintro e W1 ⟨rfl, hb_, hw_⟩; replace HS := HS.on hb_ hw_; clear hb_ hw_ e0 e1 e2; obtain ⟨e0, e1, e2⟩ := FA.cell HS.box))
           go_roundg k1
           case measure => have := HK1.out; omega
           case rel =>
            obtain rfl := Option.some.inj hst
            refine ⟨_, i + 1, by first | rfl | simp, HGO, ⟨by have := HK1.out; omega⟩, ⟨by omega⟩, ?_⟩
            rw [ep, ← FA.nm_get i (by omega)]
            exact HS
         ·
          rw [if_neg ct] at hst; exact absurd hst (by simp)
      ·
       rw [if_neg cl] at hst; exact absurd hst (by simp)
    ·
     have hie : i = l0_0.length := by have := HI.out; omega
     have hlt : decide ((i : Int) < (l0_0.length : Int)) = false := by simpa using hi
     have HG1 := HGO.out
     rw [List.drop_eq_nil_of_le (by omega), FA.go] at HG1
     obtain rfl : acc = fa := Option.some.inj HG1
     have hf := HFIN.out
     clear HG1 HGO HFIN hi
     unfold FA.fin at hf
     by_cases c0 : a0_1 = 0 ∧ 0 < acc.length
     ·
      rw [if_pos c0] at hf
      obtain ⟨rfl, ca⟩ := c0
      have cab : ((acc.length : Int) == 0) = false := beq_eq_false_iff_ne.mpr (by omega)
      unfold FA.tail at hf
      split at hf
      case isFalse => exact absurd hf (by simp)
      case isTrue hlen =>
      obtain rfl := Option.some.inj hf
      cases a0_2
      ·
       go_wp2_with (first | (go_at_call 53; refine (Bl.len HS.bl).mono ?_; rintro e W1 ⟨rfl, rfl⟩) | (go_at_call 55; refine (Bl.str _ HS.bl (by first | omega | (simp; omega)) (by first | omega | decide) (Nat.le_of_lt HS.lt)).mono ?_; rintro e W1 ⟨rfl, hb_, hw_⟩; replace HS := HS.on hb_ hw_; clear hb_ hw_ e0 e1 e2; obtain ⟨e0, e1, e2⟩ := FA.cell HS.box) | (go_at_call 57; refine (Bl.out HS.bl (Nat.le_of_lt HS.lt)).mono ?_; rintro e W1 ⟨rfl, HO⟩))
       go_ret
       exact ⟨by first | rfl | (simp; done) | (simp; rfl), HS.bw.trans (HO.mono (Nat.le_trans HS.wg (Nat.le_of_lt HS.gB)))⟩
      ·
       go_wp2_with (first | (go_at_call 53; refine (Bl.len HS.bl).mono ?_; rintro e W1 ⟨rfl, rfl⟩) | (go_at_call 55; refine (Bl.str _ HS.bl (by first | omega | (simp; omega)) (by first | omega | decide) (Nat.le_of_lt HS.lt)).mono ?_; rintro e W1 ⟨rfl, hb_, hw_⟩; replace HS := HS.on hb_ hw_; clear hb_ hw_ e0 e1 e2; obtain ⟨e0, e1, e2⟩ := FA.cell HS.box) | (go_at_call 57; refine (Bl.out HS.bl (Nat.le_of_lt HS.lt)).mono ?_; rintro e W1 ⟨rfl, HO⟩))
       go_ret
       exact ⟨by first | rfl | (simp; done) | (simp; rfl), HS.bw.trans (HO.mono (Nat.le_trans HS.wg (Nat.le_of_lt HS.gB)))⟩
     ·
      rw [if_neg c0] at hf
      obtain ⟨tt, hfi, hg⟩ := Option.bind_eq_some_iff.mp hf
      clear hf
      have hf := hg
      clear hg
      have HFI := Aside0.mk hfi
      clear hfi
      split at hf
      case isFalse => exact absurd hf (by simp)
      case isTrue hct =>
      obtain ⟨hl8, ct⟩ := hct
      by_cases cz : a0_1 = 0
      ·
       have ca : acc.length = 0 := by omega
       have cab : ((acc.length : Int) == 0) = true := beq_iff_eq.mpr (by omega)
       have ep : FA.plus acc a0_1 = acc := by unfold FA.plus; rw [if_neg (by omega)]
       rw [ep] at hf
       subst cz
       unfold FA.tail at hf
       split at hf
       case isFalse => exact absurd hf (by simp)
       case isTrue hlen =>
       obtain rfl := Option.some.inj hf
       cases a0_2
       ·
        go_wp2_with (first | (go_at_call 53; refine (Bl.len HS.bl).mono ?_; rintro e W1 ⟨rfl, rfl⟩) | (go_at_call 56; refine (impl_FormatInt.calls _ tt _ (laid_ HL_ (Aside0.mk HS.bw)) HFI.out).mono ?_; rintro e W1 ⟨rfl, hw_⟩; replace HS := HS.grown hw_; clear hw_ e0 e1 e2; obtain ⟨e0, e1, e2⟩ := FA.cell HS.box) | (go_at_call 55; refine (Bl.str _ HS.bl (by first | omega | (simp; omega)) (by first | omega | decide) (Nat.le_of_lt HS.lt)).mono ?_; rintro e W1 ⟨rfl, hb_, hw_⟩; replace HS := HS.on hb_ hw_; clear hb_ hw_ e0 e1 e2; obtain ⟨e0, e1, e2⟩ := FA.cell HS.box) | (go_at_call 57; refine (Bl.out HS.bl (Nat.le_of_lt HS.lt)).mono ?_; rintro e W1 ⟨rfl, HO⟩))
        go_ret
        exact ⟨by first | rfl | (simp; done) | (simp; rfl), HS.bw.trans (HO.mono (Nat.le_trans HS.wg (Nat.le_of_lt HS.gB)))⟩
       ·
        go_wp2_with (first | (go_at_call 53; refine (Bl.len HS.bl).mono ?_; rintro e W1 ⟨rfl, rfl⟩) | (go_at_call 56; refine (impl_FormatInt.calls _ tt _ (laid_ HL_ (Aside0.mk HS.bw)) HFI.out).mono ?_; rintro e W1 ⟨rfl, hw_⟩; replace HS := HS.grown hw_; clear hw_ e0 e1 e2; obtain ⟨e0, e1, e2⟩ := FA.cell HS.box) | (go_at_call 55; refine (Bl.str _ HS.bl (by first | omega | (simp; omega)) (by first | omega | decide) (Nat.le_of_lt HS.lt)).mono ?_; rintro e W1 ⟨rfl, hb_, hw_⟩; replace HS := HS.on hb_ hw_; clear hb_ hw_ e0 e1 e2; obtain ⟨e0, e1, e2⟩ := FA.cell HS.box) | (go_at_call 57; refine (Bl.out HS.bl (Nat.le_of_lt HS.lt)).mono ?_; rintro e W1 ⟨rfl, HO⟩))
        go_ret
        exact ⟨by first | rfl | (simp; done) | (simp; rfl), HS.bw.trans (HO.mono (Nat.le_trans HS.wg (Nat.le_of_lt HS.gB)))⟩
      ·
       have czb : (a0_1 == 0) = false := beq_eq_false_iff_ne.mpr cz
       by_cases cg : 0 < a0_1
       ·
        have cgb : decide (0 < a0_1) = true := decide_eq_true cg
        by_cases ca : 0 < acc.length
        ·
         have cab : decide ((0 : Int) < (acc.length : Int)) = true := decide_eq_true (by omega)
         have ep : FA.plus acc a0_1 = acc ++ [43] := by unfold FA.plus; rw [if_pos ⟨cg, ca⟩]
         rw [ep] at hf
         unfold FA.tail at hf
         split at hf
         case isFalse => exact absurd hf (by simp)
         case isTrue hlen =>
         obtain rfl := Option.some.inj hf
         cases a0_2
         ·
          go_wp2_with (first | (go_at_call 53; refine (Bl.len HS.bl).mono ?_; rintro e W1 ⟨rfl, rfl⟩) | (go_at_call 54; refine (Bl.byteI _ 43 (by rfl) HS.bl (by first | omega | (simp; omega)) (Nat.le_of_lt HS.lt)).mono ?_; rintro e W1 ⟨rfl, hb_, hw_⟩; replace HS := HS.on hb_ hw_; clear hb_ hw_ e0 e1 e2; obtain ⟨e0, e1, e2⟩ := FA.cell HS.box) | (go_at_call 56; refine (impl_FormatInt.calls _ tt _ (laid_ HL_ (Aside0.mk HS.bw)) HFI.out).mono ?_; rintro e W1 ⟨rfl, hw_⟩; replace HS := HS.grown hw_; clear hw_ e0 e1 e2; obtain ⟨e0, e1, e2⟩ := FA.cell HS.box) | (go_at_call 55; refine (Bl.str _ HS.bl (by first | omega | (simp; omega)) (by first | omega | decide) (Nat.le_of_lt HS.lt)).mono ?_; rintro e W1 ⟨rfl, hb_, hw_⟩; replace HS := HS.on hb_ hw_; clear hb_ hw_ e0 e1 e2; obtain ⟨e0, e1, e2⟩ := FA.cell HS.box) | (go_at_call 57; refine (Bl.out HS.bl (Nat.le_of_lt HS.lt)).mono ?_; rintro e W1 ⟨rfl, HO⟩))
          go_ret
          exact ⟨by first | rfl | (simp; done) | (simp; rfl), HS.bw.trans (HO.mono (Nat.le_trans HS.wg (Nat.le_of_lt HS.gB)))⟩
         ·
          go_wp2_with (first | (go_at_call 53; refine (Bl.len HS.bl).mono ?_; rintro e W1 ⟨rfl, rfl⟩) | (go_at_call 54; refine (Bl.byteI _ 43 (by rfl) HS.bl (by first | omega | (simp; omega)) (Nat.le_of_lt HS.lt)).mono ?_; rintro e W1 ⟨rfl, hb_, hw_⟩; replace HS := HS.on hb_ hw_; clear hb_ hw_ e0 e1 e2; obtain ⟨e0, e1, e2⟩ := FA.cell HS.box) | (go_at_call 56; refine (impl_FormatInt.calls _ tt _ (laid_ HL_ (Aside0.mk HS.bw)) HFI.out).mono ?_; rintro e W1 ⟨rfl, hw_⟩; replace HS := HS.grown hw_; clear hw_ e0 e1 e2; obtain ⟨e0, e1, e2⟩ := FA.cell HS.box) | (go_at_call 55; refine (Bl.str _ HS.bl (by first | omega | (simp; omega)) (by first | omega | decide) (Nat.le_of_lt HS.lt)).mono ?_; rintro e W1 ⟨rfl, hb_, hw_⟩; replace HS := HS.on hb_ hw_; clear hb_ hw_ e0 e1 e2; obtain ⟨e0, e1, e2⟩ := FA.cell HS.box) | (go_at_call 57; refine (Bl.out HS.bl (Nat.le_of_lt HS.lt)).mono ?_; rintro e W1 ⟨rfl, HO⟩))
          go_ret
          exact ⟨by first | rfl | (simp; done) | (simp; rfl), HS.bw.trans (HO.mono (Nat.le_trans HS.wg (Nat.le_of_lt HS.gB)))⟩
        ·
         have cab : decide ((0 : Int) < (acc.length : Int)) = false := decide_eq_false (by omega)
         have ep : FA.plus acc a0_1 = acc := by unfold FA.plus; rw [if_neg (by omega)]
         rw [ep] at hf
         unfold FA.tail at hf
         split at hf
         case isFalse => exact absurd hf (by simp)
         case isTrue hlen =>
         obtain rfl := Option.some.inj hf
         cases a0_2
         ·
          go_wp2_with (first | (go_at_call 53; refine (Bl.len HS.bl).mono ?_; rintro e W1 ⟨rfl, rfl⟩) | (go_at_call 56; refine (impl_FormatInt.calls _ tt _ (laid_ HL_ (Aside0.mk HS.bw)) HFI.out).mono ?_; rintro e W1 ⟨rfl, hw_⟩; replace HS := HS.grown hw_; clear hw_ e0 e1 e2; obtain ⟨e0, e1, e2⟩ := FA.cell HS.box) | (go_at_call 55; refine (Bl.str _ HS.bl (by first | omega | (simp; omega)) (by first | omega | decide) (Nat.le_of_lt HS.lt)).mono ?_; rintro e W1 ⟨rfl, hb_, hw_⟩; replace HS := HS.on hb_ hw_; clear hb_ hw_ e0 e1 e2; obtain ⟨e0, e1, e2⟩ := FA.cell HS.box) | (go_at_call 57; refine (Bl.out HS.bl (Nat.le_of_lt HS.lt)).mono ?_; rintro e W1 ⟨rfl, HO⟩))
          go_ret
          exact ⟨by first | rfl | (simp; done) | (simp; rfl), HS.bw.trans (HO.mono (Nat.le_trans HS.wg (Nat.le_of_lt HS.gB)))⟩
         ·
          go_wp2_with (first | (go_at_call 53; refine (Bl.len HS.bl).mono ?_; rintro e W1 ⟨rfl, rfl⟩) | (go_at_call 56; refine (impl_FormatInt.calls _ tt _ (laid_ HL_ (Aside0.mk HS.bw)) HFI.out).mono ?_; rintro e W1 ⟨rfl, hw_⟩; replace HS := HS.grown hw_; clear hw_ e0 e1 e2; obtain ⟨e0, e1, e2⟩ := FA.cell HS.box) | (go_at_call 55; refine (Bl.str _ HS.bl (by first | omega | (simp; omega)) (by first | omega | decide) (Nat.le_of_lt HS.lt)).mono ?_; rintro e W1 ⟨rfl, hb_, hw_⟩; replace HS := HS.on hb_ hw_; clear hb_ hw_ e0 e1 e2; obtain ⟨e0, e1, e2⟩ := FA.cell HS.box) | (go_at_call 57; refine (Bl.out HS.bl (Nat.le_of_lt HS.lt)).mono ?_; rintro e W1 ⟨rfl, HO⟩))
          go_ret
          exact ⟨by first | rfl | (simp; done) | (simp; rfl), HS.bw.trans (HO.mono (Nat.le_trans HS.wg (Nat.le_of_lt HS.gB)))⟩
       ·
        have cgb : decide (0 < a0_1) = false := decide_eq_false cg
        have ep : FA.plus acc a0_1 = acc := by unfold FA.plus; rw [if_neg (by omega)]
        rw [ep] at hf
        unfold FA.tail at hf
        split at hf
        case isFalse => exact absurd hf (by simp)
        case isTrue hlen =>
        obtain rfl := Option.some.inj hf
        cases a0_2
        ·
         go_wp2_with (first | (go_at_call 56; refine (impl_FormatInt.calls _ tt _ (laid_ HL_ (Aside0.mk HS.bw)) HFI.out).mono ?_; rintro e W1 ⟨rfl, hw_⟩; replace HS := HS.grown hw_; clear hw_ e0 e1 e2; obtain ⟨e0, e1, e2⟩ := FA.cell HS.box) | (go_at_call 55; refine (Bl.str _ HS.bl (by first | omega | (simp; omega)) (by first | omega | decide) (Nat.le_of_lt HS.lt)).mono ?_; rintro e W1 ⟨rfl, hb_, hw_⟩; replace HS := HS.on hb_ hw_; clear hb_ hw_ e0 e1 e2; obtain ⟨e0, e1, e2⟩ := FA.cell HS.box) | (go_at_call 57; refine (Bl.out HS.bl (Nat.le_of_lt HS.lt)).mono ?_; rintro e W1 ⟨rfl, HO⟩))
         go_ret
         exact ⟨by first | rfl | (simp; done) | (simp; rfl), HS.bw.trans (HO.mono (Nat.le_trans HS.wg (Nat.le_of_lt HS.gB)))⟩
        ·
         go_wp2_with (first | (go_at_call 56; refine (impl_FormatInt.calls _ tt _ (laid_ HL_ (Aside0.mk HS.bw)) HFI.out).mono ?_; rintro e W1 ⟨rfl, hw_⟩; replace HS := HS.grown hw_; clear hw_ e0 e1 e2; obtain ⟨e0, e1, e2⟩ := FA.cell HS.box) | (go_at_call 55; refine (Bl.str _ HS.bl (by first | omega | (simp; omega)) (by first | omega | decide) (Nat.le_of_lt HS.lt)).mono ?_; rintro e W1 ⟨rfl, hb_, hw_⟩; replace HS := HS.on hb_ hw_; clear hb_ hw_ e0 e1 e2; obtain ⟨e0, e1, e2⟩ := FA.cell HS.box) | (go_at_call 57; refine (Bl.out HS.bl (Nat.le_of_lt HS.lt)).mono ?_; rintro e W1 ⟨rfl, HO⟩))
         go_ret
         exact ⟨by first | rfl | (simp; done) | (simp; rfl), HS.bw.trans (HO.mono (Nat.le_trans HS.wg (Nat.le_of_lt HS.gB)))⟩
  ·
   rw [if_neg h4] at H1; exact absurd H1 (by simp)

/-! ### laws_eqIntS: function 58 -/
def laws_eqIntS.l0 : Nat → List Int → List Int → Int → Option (Bool)
 | 0, _, _, _ => none
 | k + 1, x0, x1, x5 => if x5 < (x0.length : Int) then (if 0 ≤ x5 then (if x5 < (x1.length : Int) then (if (rd x0 x5) = (rd x1 x5) then (laws_eqIntS.l0 k x0 x1 (wrap64 (x5 + 1))) else (some false)) else (none)) else (none)) else (some true)
def laws_eqIntS.f (k : Nat) (l0 : List Int) (l1 : List Int) : Option (Bool) := if (l0.length : Int) = (l1.length : Int) then (laws_eqIntS.l0 k l0 l1 0) else (some false)
theorem laws_eqIntS.mono_l : ∀ k, (∀ y0 y1 y2, LeO (laws_eqIntS.l0 k y0 y1 y2) (laws_eqIntS.l0 (k + 1) y0 y1 y2))
 | 0 => fun _ _ _ r h => by simp [laws_eqIntS.l0] at h
 | k + 1 => by
  have ih0 := laws_eqIntS.mono_l k
  ·
   intro y0 y1 y2
   unfold laws_eqIntS.l0
   repeat' first
   | (with_reducible exact ih0 _ _ _)
   | (with_reducible exact LeO.refl _)
   | (with_reducible exact LeO.none _)
   | (with_reducible refine LeO.ite ?_ ?_)
   | (with_reducible refine LeO.bind ?_ (fun _ => ?_))
   | exact ih0 _ _ _
   | exact LeO.none _
   | refine LeO.ite ?_ ?_
   | refine LeO.bind ?_ (fun _ => ?_)
theorem laws_eqIntS.mono : ∀ a0 a1 k, LeO (laws_eqIntS.f k a0 a1) (laws_eqIntS.f (k + 1) a0 a1) := by
 intro a0 a1 k
 have ih0 := laws_eqIntS.mono_l k
 unfold laws_eqIntS.f
 repeat' first
   | (with_reducible exact ih0 _ _ _)
   | (with_reducible exact LeO.refl _)
   | (with_reducible exact LeO.none _)
   | (with_reducible refine LeO.ite ?_ ?_)
   | (with_reducible refine LeO.bind ?_ (fun _ => ?_))
   | exact ih0 _ _ _
   | exact LeO.none _
   | refine LeO.ite ?_ ?_
   | refine LeO.bind ?_ (fun _ => ?_)
set_option maxHeartbeats 8000000 in
set_option maxRecDepth 100000 in
theorem laws_eqIntS.calls (k : Nat) (A0 : Option Addr) (c0 : Nat) (l0 : List Int) (A1 : Option Addr) (c1 : Nat) (l1 : List Int) (r : Bool) (w : World) (hr0 : Kd.C (Kd.int .i64) w A0 l0.length l0) (hc0 : l0.length ≤ c0) (hr1 : Kd.C (Kd.int .i64) w A1 l1.length l1) (hc1 : l1.length ≤ c1) (h : laws_eqIntS.f k l0 l1 = some r) :
  Calls Tryd.prog 58 #[.slice A0 l0.length c0, .slice A1 l1.length c1] w fun e w' => e = .returned (.bool r) ∧ Drawn0 w w' := by
 have HR0 := Aside0.mk hr0
 have HC0 := Aside0.mk hc0
 clear hr0 hc0
 have HR1 := Aside0.mk hr1
 have HC1 := Aside0.mk hc1
 clear hr1 hc1
 have H : (if (l0.length : Int) = (l1.length : Int) then (laws_eqIntS.l0 k l0 l1 0) else (some false)) = some r := h
 clear h
 by_cases c3 : (l0.length : Int) = (l1.length : Int)
 ·
  rw [if_pos c3] at H
  have qd : ((l0.length : Int) == (l1.length : Int)) = true := beq_iff_eq.mpr c3
  have qe : ((l0.length : Int) != (l1.length : Int)) = false := bne_eq_false_iff_eq.mpr c3
  have qf : (l0.length == l1.length) = true := by first | simpa using c3 | (simp at c3 ⊢; omega)
  clear c3
  have H' := Aside0.mk H
  clear H
  go_enter Tryd.func58, Tryd.ntmps58
  go_wp2
  repeat (go_quiet (fail); try go_wp2)
  go_loopg [5] k (fun kq v5 w' => ∃ (qa : Int), v5 = .int .i64 qa ∧ Aside0 (laws_eqIntS.l0 kq l0 l1 qa = some r) ∧ Aside0 (kq ≤ k) ∧ Drawn0 w w')
  case atStart => exact ⟨(0), (by first | rfl | (simp; done) | (simp [*]; done)), H', ⟨Nat.le_refl _⟩, by repeat (first | exact Drawn0.refl _ | apply Drawn0.step)⟩
  case round =>
   clear H'
   try clear c1
   try clear p2
   try clear c3
   try clear qd
   try clear qe
   try clear qf
   obtain ⟨qa, rfl, HA, HK1, ⟨m1, rfl⟩⟩ := hrel
   cases gk with
   | zero => exact absurd HA.out (by simp [laws_eqIntS.l0])
   | succ k1 =>
    have H := HA.out
    clear HA
    simp only [laws_eqIntS.l0] at H
    by_cases c4 : qa < (l0.length : Int)
    ·
     rw [if_pos c4] at H
     have qi : decide (qa < (l0.length : Int)) = true := decide_eq_true c4
     clear c4
     by_cases c5 : 0 ≤ qa
     ·
      rw [if_pos c5] at H
      have ql : decide (0 ≤ qa) = true := decide_eq_true c5
      clear c5
      by_cases c6 : qa < (l1.length : Int)
      ·
       rw [if_pos c6] at H
       have qm : decide (qa < (l1.length : Int)) = true := decide_eq_true c6
       clear c6
       by_cases c7 : (rd l0 qa) = (rd l1 qa)
       ·
        rw [if_pos c7] at H
        have qj : ((rd l0 qa) == (rd l1 qa)) = true := beq_iff_eq.mpr c7
        have qk : ((rd l0 qa) != (rd l1 qa)) = false := bne_eq_false_iff_eq.mpr c7
        clear c7
        have H' := Aside0.mk H
        clear H
        have p158 : 0 ≤ (qa : Int) := of_decide_eq_true (by first | (with_reducible assumption) | assumption)
        have q158 : qa < (l0.length : Int) := of_decide_eq_true (by first | (with_reducible assumption) | assumption)
        obtain ⟨qg, e158, qb⟩ := Kd.at_int HR0.out qa p158 q158
        cases e158
        replace p158 := eq_true p158
        replace q158 := eq_true q158
        have p159 : 0 ≤ (qa : Int) := of_decide_eq_true (by first | (with_reducible assumption) | assumption)
        have q159 : qa < (l1.length : Int) := of_decide_eq_true (by first | (with_reducible assumption) | assumption)
        obtain ⟨qh, e159, qc⟩ := Kd.at_int HR1.out qa p159 q159
        cases e159
        replace p159 := eq_true p159
        replace q159 := eq_true q159
        go_wp2
        repeat (go_quiet (fail); try go_wp2)
        go_roundg k1
        case measure => have := HK1.out; omega
        case rel => exact ⟨(wrap64 (qa + 1)), (by first | rfl | (simp; done) | (simp [*]; done)), H', ⟨by have := HK1.out; omega⟩, by repeat (first | exact Drawn0.refl _ | apply Drawn0.step)⟩
       ·
        rw [if_neg c7] at H
        have qj : ((rd l0 qa) == (rd l1 qa)) = false := beq_eq_false_iff_ne.mpr c7
        have qk : ((rd l0 qa) != (rd l1 qa)) = true := bne_iff_ne.mpr c7
        obtain rfl := Option.some.inj H
        have p158 : 0 ≤ (qa : Int) := of_decide_eq_true (by first | (with_reducible assumption) | assumption)
        have q158 : qa < (l0.length : Int) := of_decide_eq_true (by first | (with_reducible assumption) | assumption)
        obtain ⟨qg, e158, qb⟩ := Kd.at_int HR0.out qa p158 q158
        cases e158
        replace p158 := eq_true p158
        replace q158 := eq_true q158
        have p159 : 0 ≤ (qa : Int) := of_decide_eq_true (by first | (with_reducible assumption) | assumption)
        have q159 : qa < (l1.length : Int) := of_decide_eq_true (by first | (with_reducible assumption) | assumption)
        obtain ⟨qh, e159, qc⟩ := Kd.at_int HR1.out qa p159 q159
        cases e159
        replace p159 := eq_true p159
        replace q159 := eq_true q159
        go_wp2
        repeat (go_quiet (fail); try go_wp2)
        go_ret
        exact ⟨by first | rfl | (simp; done) | (simp [*]; done), by repeat (first | exact Drawn0.refl _ | apply Drawn0.step)⟩
      ·
       rw [if_neg c6] at H
       exact absurd H (by simp)
     ·
      rw [if_neg c5] at H
      exact absurd H (by simp)
    ·
     rw [if_neg c4] at H
     have qi : decide (qa < (l0.length : Int)) = false := decide_eq_false c4
     clear c4
     obtain rfl := Option.some.inj H
     go_wp2
     repeat (go_quiet (fail); try go_wp2)
     go_ret
     exact ⟨by first | rfl | (simp; done) | (simp [*]; done), by repeat (first | exact Drawn0.refl _ | apply Drawn0.step)⟩
 ·
  rw [if_neg c3] at H
  have qd : ((l0.length : Int) == (l1.length : Int)) = false := beq_eq_false_iff_ne.mpr c3
  have qe : ((l0.length : Int) != (l1.length : Int)) = true := bne_iff_ne.mpr c3
  have qf : (l0.length == l1.length) = false := by first | simpa using c3 | (simp at c3 ⊢; omega)
  obtain rfl := Option.some.inj H
  go_enter Tryd.func58, Tryd.ntmps58
  go_wp2
  repeat (go_quiet (fail); try go_wp2)
  go_ret
  exact ⟨by first | rfl | (simp; done) | (simp [*]; done), by repeat (first | exact Drawn0.refl _ | apply Drawn0.step)⟩

/-! ### laws_eqAtom: function 15 -/
def laws_eqAtom.f (k : Nat) (l0_0 : List Int) (a0_1 : Int) (a0_2 : Bool) (l1_0 : List Int) (a1_1 : Int) (a1_2 : Bool) : Option (Bool) := (laws_eqIntS.f k l0_0 l1_0).bind fun qk => (if qk = true then (if a0_1 = a1_1 then (if (a0_2 != a1_2) = true then (some false) else (some true)) else (some false)) else (some false))
theorem laws_eqAtom.mono : ∀ a0 a1 a2 a3 a4 a5 k, LeO (laws_eqAtom.f k a0 a1 a2 a3 a4 a5) (laws_eqAtom.f (k + 1) a0 a1 a2 a3 a4 a5) := by
 intro a0 a1 a2 a3 a4 a5 k
 unfold laws_eqAtom.f
 repeat' first
   | (with_reducible exact laws_eqIntS.mono _ _ _)
   | (with_reducible exact LeO.refl _)
   | (with_reducible exact LeO.none _)
   | (with_reducible refine LeO.ite ?_ ?_)
   | (with_reducible refine LeO.bind ?_ (fun _ => ?_))
   | exact laws_eqIntS.mono _ _ _
   | exact LeO.none _
   | refine LeO.ite ?_ ?_
   | refine LeO.bind ?_ (fun _ => ?_)
set_option maxHeartbeats 8000000 in
set_option maxRecDepth 100000 in
theorem laws_eqAtom.calls (k : Nat) (A0_0 : Option Addr) (c0_0 : Nat) (l0_0 : List Int) (a0_1 : Int) (a0_2 : Bool) (A1_0 : Option Addr) (c1_0 : Nat) (l1_0 : List Int) (a1_1 : Int) (a1_2 : Bool) (r : Bool) (w : World) (hr0_0 : Kd.C (Kd.int .i64) w A0_0 l0_0.length l0_0) (hc0_0 : l0_0.length ≤ c0_0) (hr1_0 : Kd.C (Kd.int .i64) w A1_0 l1_0.length l1_0) (hc1_0 : l1_0.length ≤ c1_0) (h : laws_eqAtom.f k l0_0 a0_1 a0_2 l1_0 a1_1 a1_2 = some r) :
  Calls Tryd.prog 15 #[.agg #[.slice A0_0 l0_0.length c0_0, .int .i64 a0_1, .bool a0_2], .agg #[.slice A1_0 l1_0.length c1_0, .int .i64 a1_1, .bool a1_2]] w fun e w' => e = .returned (.bool r) ∧ Below w.heap.size w w' := by
 have hu27 := Tryd.underlying27
 have qg := Aside0.mk hr0_0
 have qh := Aside0.mk hc0_0
 clear hr0_0 hc0_0
 have qi := Aside0.mk hr1_0
 have qj := Aside0.mk hc1_0
 clear hr1_0 hc1_0
 have HB := Aside0.mk (Below.refl w.heap.size w)
 have H : ((laws_eqIntS.f k l0_0 l1_0).bind fun qk => (if qk = true then (if a0_1 = a1_1 then (if (a0_2 != a1_2) = true then (some false) else (some true)) else (some false)) else (some false))) = some r := h
 clear h
 replace H := Option.bind_eq_some_iff.mp H
 obtain ⟨qk, A30, H⟩ := H
 replace H : (if qk = true then (if a0_1 = a1_1 then (if (a0_2 != a1_2) = true then (some false) else (some true)) else (some false)) else (some false)) = some r := H
 have A3 := Aside0.mk A30
 clear A30
 by_cases c4 : qk = true
 ·
  subst c4
  have H1 : (if a0_1 = a1_1 then (if (a0_2 != a1_2) = true then (some false) else (some true)) else (some false)) = some r := by rw [if_pos rfl] at H; exact H
  clear H
  have H := H1
  clear H1
  by_cases c5 : a0_1 = a1_1
  ·
   rw [if_pos c5] at H
   have ze : (a0_1 == a1_1) = true := beq_iff_eq.mpr c5
   have zf : (a0_1 != a1_1) = false := bne_eq_false_iff_eq.mpr c5
   clear c5
   by_cases c6 : (a0_2 != a1_2) = true
   ·
    rw [if_pos c6] at H
    have zg : (a0_2 != a1_2) = true := c6
    (try (have zh : decide (a0_2 = a1_2) = false := by simpa using c6))
    (try (have zi : (a0_2 == a1_2) = false := by simpa using c6))
    (try (have zp : ¬ (a0_2 = a1_2) := by simpa using c6))
    clear c6
    obtain rfl := Option.some.inj H
    go_enter Tryd.func15, Tryd.ntmps15
    go_wp2_with (first | ((with_reducible refine gate_dst (N := 2) rfl ?_); refine box_event ?hg (N := 2) ?hd (cs := #[.slice A0_0 l0_0.length c0_0, .int .i64 a0_1, .bool a0_2]) (t := 27) ?hr ?_; (case hd => rfl); (case hg => rfl); (case hr => first | (go_simp; done) | (go_simp; rfl)); intro qb hg w7 hbox hb; have qa := Aside0.mk (hbox); have ql := Aside0.mk ((by rw [hg]; exact (bz_ HB) : w.heap.size ≤ qb)); have qm := Aside0.mk ((by rw [hg]; exact (bz_ HB) : w.heap.size ≤ qb)); replace HB := bS_ HB hb; clear hb hbox hg) | ((with_reducible refine gate_dst (N := 3) rfl ?_); refine box_event ?hg (N := 3) ?hd (cs := #[.slice A1_0 l1_0.length c1_0, .int .i64 a1_1, .bool a1_2]) (t := 27) ?hr ?_; (case hd => rfl); (case hg => rfl); (case hr => first | (go_simp; done) | (go_simp; rfl)); intro qc hg w8 hbox hb; have qd := Aside0.mk (hbox); have qn := Aside0.mk ((by rw [hg]; exact (bz_ HB) : w.heap.size ≤ qc)); have qo := Aside0.mk ((by rw [hg]; exact (bz_ HB) : w.heap.size ≤ qc)); replace HB := bS_ HB hb; have qe := Aside0.mk ((nl_ qa hg : qb ≠ qc)); have qf := Aside0.mk ((ng_ qa hg : qc ≠ qb)); replace qa := kB_ qa hb; clear hb hbox hg; have zq := qe.out; have zr := qf.out; have qs : w8.cell? ⟨qb, 0, none⟩ = some (.slice A0_0 l0_0.length c0_0) := bc_ qa 0; have qt : w8.cell? ⟨qb, 1, none⟩ = some (.int .i64 a0_1) := bc_ qa 1; have qu : w8.cell? ⟨qb, 2, none⟩ = some (.bool a0_2) := bc_ qa 2; have qv := blk_frozen qa.out 0; have qw := blk_frozen qa.out 1; have qx := blk_frozen qa.out 2; have qy : w8.cell? ⟨qc, 0, none⟩ = some (.slice A1_0 l1_0.length c1_0) := bc_ qd 0; have qz : w8.cell? ⟨qc, 1, none⟩ = some (.int .i64 a1_1) := bc_ qd 1; have qA : w8.cell? ⟨qc, 2, none⟩ = some (.bool a1_2) := bc_ qd 2; have qB := blk_frozen qd.out 0; have qC := blk_frozen qd.out 1; have qD := blk_frozen qd.out 2) | ((with_reducible refine gate_callee (f := 58) rfl ?_); refine goesL_ (some 9) rfl rfl Tryd.func58 (by kernel_rfl) rfl #[.slice A0_0 l0_0.length c0_0, .slice A1_0 l1_0.length c1_0] rfl (by (try simp only [List.map_toArray, List.map_cons, List.map_nil]); first | done | rfl | (simp only [List.length_drop, List.length_take]; rfl)) ?_; (with_reducible refine (laws_eqIntS.calls k _ _ l0_0 _ _ l1_0 true _ ?side1 ?side2 ?side3 ?side4 A3.out).mono ?_); (case side1 => exact cb_ qg HB); (case side2 => exact qh.out); (case side3 => exact cb_ qi HB); (case side4 => exact qj.out); rintro e w' ⟨rfl, ⟨nd, rfl⟩⟩; refine ⟨_, rfl, ?_⟩))
    go_ret
    exact ⟨by first | rfl | (simp [errW_none, errW_some] <;> rfl) | (simp [*, errW_none, errW_some] <;> rfl), bb_ HB⟩
   ·
    rw [if_neg c6] at H
    have zg : (a0_2 != a1_2) = false := by simpa using c6
    (try (have zh : decide (a0_2 = a1_2) = true := by simpa using c6))
    (try (have zi : (a0_2 == a1_2) = true := by simpa using c6))
    clear c6
    obtain rfl := Option.some.inj H
    go_enter Tryd.func15, Tryd.ntmps15
    go_wp2_with (first | ((with_reducible refine gate_dst (N := 2) rfl ?_); refine box_event ?hg (N := 2) ?hd (cs := #[.slice A0_0 l0_0.length c0_0, .int .i64 a0_1, .bool a0_2]) (t := 27) ?hr ?_; (case hd => rfl); (case hg => rfl); (case hr => first | (go_simp; done) | (go_simp; rfl)); intro qb hg zs hbox hb; have qa := Aside0.mk (hbox); have ql := Aside0.mk ((by rw [hg]; exact (bz_ HB) : w.heap.size ≤ qb)); have qm := Aside0.mk ((by rw [hg]; exact (bz_ HB) : w.heap.size ≤ qb)); replace HB := bS_ HB hb; clear hb hbox hg) | ((with_reducible refine gate_dst (N := 3) rfl ?_); refine box_event ?hg (N := 3) ?hd (cs := #[.slice A1_0 l1_0.length c1_0, .int .i64 a1_1, .bool a1_2]) (t := 27) ?hr ?_; (case hd => rfl); (case hg => rfl); (case hr => first | (go_simp; done) | (go_simp; rfl)); intro qc hg qp hbox hb; have qd := Aside0.mk (hbox); have qn := Aside0.mk ((by rw [hg]; exact (bz_ HB) : w.heap.size ≤ qc)); have qo := Aside0.mk ((by rw [hg]; exact (bz_ HB) : w.heap.size ≤ qc)); replace HB := bS_ HB hb; have qe := Aside0.mk ((nl_ qa hg : qb ≠ qc)); have qf := Aside0.mk ((ng_ qa hg : qc ≠ qb)); replace qa := kB_ qa hb; clear hb hbox hg; have zj := qe.out; have zk := qf.out; have qE : qp.cell? ⟨qb, 0, none⟩ = some (.slice A0_0 l0_0.length c0_0) := bc_ qa 0; have qF : qp.cell? ⟨qb, 1, none⟩ = some (.int .i64 a0_1) := bc_ qa 1; have qG : qp.cell? ⟨qb, 2, none⟩ = some (.bool a0_2) := bc_ qa 2; have qH := blk_frozen qa.out 0; have qI := blk_frozen qa.out 1; have qJ := blk_frozen qa.out 2; have qK : qp.cell? ⟨qc, 0, none⟩ = some (.slice A1_0 l1_0.length c1_0) := bc_ qd 0; have qL : qp.cell? ⟨qc, 1, none⟩ = some (.int .i64 a1_1) := bc_ qd 1; have qM : qp.cell? ⟨qc, 2, none⟩ = some (.bool a1_2) := bc_ qd 2; have qN := blk_frozen qd.out 0; have qO := blk_frozen qd.out 1; have qP := blk_frozen qd.out 2) | ((with_reducible refine gate_callee (f := 58) rfl ?_); refine goesL_ (some 9) rfl rfl Tryd.func58 (by kernel_rfl) rfl #[.slice A0_0 l0_0.length c0_0, .slice A1_0 l1_0.length c1_0] rfl (by (try simp only [List.map_toArray, List.map_cons, List.map_nil]); first | done | rfl | (simp only [List.length_drop, List.length_take]; rfl)) ?_; (with_reducible refine (laws_eqIntS.calls k _ _ l0_0 _ _ l1_0 true _ ?side1 ?side2 ?side3 ?side4 A3.out).mono ?_); (case side1 => exact cb_ qg HB); (case side2 => exact qh.out); (case side3 => exact cb_ qi HB); (case side4 => exact qj.out); rintro e w' ⟨rfl, ⟨nd, rfl⟩⟩; refine ⟨_, rfl, ?_⟩))
    go_ret
    exact ⟨by first | rfl | (simp [errW_none, errW_some] <;> rfl) | (simp [*, errW_none, errW_some] <;> rfl), bb_ HB⟩
  ·
   rw [if_neg c5] at H
   have ze : (a0_1 == a1_1) = false := beq_eq_false_iff_ne.mpr c5
   have zf : (a0_1 != a1_1) = true := bne_iff_ne.mpr c5
   obtain rfl := Option.some.inj H
   go_enter Tryd.func15, Tryd.ntmps15
   go_wp2_with (first | ((with_reducible refine gate_dst (N := 2) rfl ?_); refine box_event ?hg (N := 2) ?hd (cs := #[.slice A0_0 l0_0.length c0_0, .int .i64 a0_1, .bool a0_2]) (t := 27) ?hr ?_; (case hd => rfl); (case hg => rfl); (case hr => first | (go_simp; done) | (go_simp; rfl)); intro qb hg zt hbox hb; have qa := Aside0.mk (hbox); have ql := Aside0.mk ((by rw [hg]; exact (bz_ HB) : w.heap.size ≤ qb)); have qm := Aside0.mk ((by rw [hg]; exact (bz_ HB) : w.heap.size ≤ qb)); replace HB := bS_ HB hb; clear hb hbox hg) | ((with_reducible refine gate_dst (N := 3) rfl ?_); refine box_event ?hg (N := 3) ?hd (cs := #[.slice A1_0 l1_0.length c1_0, .int .i64 a1_1, .bool a1_2]) (t := 27) ?hr ?_; (case hd => rfl); (case hg => rfl); (case hr => first | (go_simp; done) | (go_simp; rfl)); intro qc hg qq hbox hb; have qd := Aside0.mk (hbox); have qn := Aside0.mk ((by rw [hg]; exact (bz_ HB) : w.heap.size ≤ qc)); have qo := Aside0.mk ((by rw [hg]; exact (bz_ HB) : w.heap.size ≤ qc)); replace HB := bS_ HB hb; have qe := Aside0.mk ((nl_ qa hg : qb ≠ qc)); have qf := Aside0.mk ((ng_ qa hg : qc ≠ qb)); replace qa := kB_ qa hb; clear hb hbox hg; have zl := qe.out; have zm := qf.out; have qQ : qq.cell? ⟨qb, 0, none⟩ = some (.slice A0_0 l0_0.length c0_0) := bc_ qa 0; have qR : qq.cell? ⟨qb, 1, none⟩ = some (.int .i64 a0_1) := bc_ qa 1; have qS : qq.cell? ⟨qb, 2, none⟩ = some (.bool a0_2) := bc_ qa 2; have qT := blk_frozen qa.out 0; have qU := blk_frozen qa.out 1; have qV := blk_frozen qa.out 2; have qW : qq.cell? ⟨qc, 0, none⟩ = some (.slice A1_0 l1_0.length c1_0) := bc_ qd 0; have qX : qq.cell? ⟨qc, 1, none⟩ = some (.int .i64 a1_1) := bc_ qd 1; have qY : qq.cell? ⟨qc, 2, none⟩ = some (.bool a1_2) := bc_ qd 2; have qZ := blk_frozen qd.out 0; have q0 := blk_frozen qd.out 1; have q1 := blk_frozen qd.out 2) | ((with_reducible refine gate_callee (f := 58) rfl ?_); refine goesL_ (some 9) rfl rfl Tryd.func58 (by kernel_rfl) rfl #[.slice A0_0 l0_0.length c0_0, .slice A1_0 l1_0.length c1_0] rfl (by (try simp only [List.map_toArray, List.map_cons, List.map_nil]); first | done | rfl | (simp only [List.length_drop, List.length_take]; rfl)) ?_; (with_reducible refine (laws_eqIntS.calls k _ _ l0_0 _ _ l1_0 true _ ?side1 ?side2 ?side3 ?side4 A3.out).mono ?_); (case side1 => exact cb_ qg HB); (case side2 => exact qh.out); (case side3 => exact cb_ qi HB); (case side4 => exact qj.out); rintro e w' ⟨rfl, ⟨nd, rfl⟩⟩; refine ⟨_, rfl, ?_⟩))
   go_ret
   exact ⟨by first | rfl | (simp [errW_none, errW_some] <;> rfl) | (simp [*, errW_none, errW_some] <;> rfl), bb_ HB⟩
 ·
  replace c4 := Bool.eq_false_iff.mpr c4
  subst c4
  have H1 : (some false) = some r := by rw [if_neg (show ¬ (false = true) by decide)] at H; exact H
  clear H
  have H := H1
  clear H1
  obtain rfl := Option.some.inj H
  go_enter Tryd.func15, Tryd.ntmps15
  go_wp2_with (first | ((with_reducible refine gate_dst (N := 2) rfl ?_); refine box_event ?hg (N := 2) ?hd (cs := #[.slice A0_0 l0_0.length c0_0, .int .i64 a0_1, .bool a0_2]) (t := 27) ?hr ?_; (case hd => rfl); (case hg => rfl); (case hr => first | (go_simp; done) | (go_simp; rfl)); intro qb hg zu hbox hb; have qa := Aside0.mk (hbox); have ql := Aside0.mk ((by rw [hg]; exact (bz_ HB) : w.heap.size ≤ qb)); have qm := Aside0.mk ((by rw [hg]; exact (bz_ HB) : w.heap.size ≤ qb)); replace HB := bS_ HB hb; clear hb hbox hg) | ((with_reducible refine gate_dst (N := 3) rfl ?_); refine box_event ?hg (N := 3) ?hd (cs := #[.slice A1_0 l1_0.length c1_0, .int .i64 a1_1, .bool a1_2]) (t := 27) ?hr ?_; (case hd => rfl); (case hg => rfl); (case hr => first | (go_simp; done) | (go_simp; rfl)); intro qc hg qr hbox hb; have qd := Aside0.mk (hbox); have qn := Aside0.mk ((by rw [hg]; exact (bz_ HB) : w.heap.size ≤ qc)); have qo := Aside0.mk ((by rw [hg]; exact (bz_ HB) : w.heap.size ≤ qc)); replace HB := bS_ HB hb; have qe := Aside0.mk ((nl_ qa hg : qb ≠ qc)); have qf := Aside0.mk ((ng_ qa hg : qc ≠ qb)); replace qa := kB_ qa hb; clear hb hbox hg; have zn := qe.out; have zo := qf.out; have q2 : qr.cell? ⟨qb, 0, none⟩ = some (.slice A0_0 l0_0.length c0_0) := bc_ qa 0; have q3 : qr.cell? ⟨qb, 1, none⟩ = some (.int .i64 a0_1) := bc_ qa 1; have q4 : qr.cell? ⟨qb, 2, none⟩ = some (.bool a0_2) := bc_ qa 2; have q5 := blk_frozen qa.out 0; have q6 := blk_frozen qa.out 1; have q7 := blk_frozen qa.out 2; have q8 : qr.cell? ⟨qc, 0, none⟩ = some (.slice A1_0 l1_0.length c1_0) := bc_ qd 0; have q9 : qr.cell? ⟨qc, 1, none⟩ = some (.int .i64 a1_1) := bc_ qd 1; have za : qr.cell? ⟨qc, 2, none⟩ = some (.bool a1_2) := bc_ qd 2; have zb := blk_frozen qd.out 0; have zc := blk_frozen qd.out 1; have zd := blk_frozen qd.out 2) | ((with_reducible refine gate_callee (f := 58) rfl ?_); refine goesL_ (some 9) rfl rfl Tryd.func58 (by kernel_rfl) rfl #[.slice A0_0 l0_0.length c0_0, .slice A1_0 l1_0.length c1_0] rfl (by (try simp only [List.map_toArray, List.map_cons, List.map_nil]); first | done | rfl | (simp only [List.length_drop, List.length_take]; rfl)) ?_; (with_reducible refine (laws_eqIntS.calls k _ _ l0_0 _ _ l1_0 false _ ?side1 ?side2 ?side3 ?side4 A3.out).mono ?_); (case side1 => exact cb_ qg HB); (case side2 => exact qh.out); (case side3 => exact cb_ qi HB); (case side4 => exact qj.out); rintro e w' ⟨rfl, ⟨nd, rfl⟩⟩; refine ⟨_, rfl, ?_⟩))
  go_ret
  exact ⟨by first | rfl | (simp [errW_none, errW_some] <;> rfl) | (simp [*, errW_none, errW_some] <;> rfl), bb_ HB⟩

/-! ### laws_FnExactFormatAtom: function 3 -/
def laws_FnExactFormatAtom.f (k : Nat) (l0_0 : List Int) (a0_1 : Int) (a0_2 : Bool) : Option (Bool) := (laws_szAtom.f l0_0 a0_1 a0_2 1048576).bind fun qv => (if qv < 0 then (some true) else ((laws_toAtom.f k l0_0 a0_1 a0_2).bind fun qs => ((spec_FormatAtom.f k qs.1 qs.2.1 qs.2.2).bind fun qo => ((laws_toAtom.f k l0_0 a0_1 a0_2).bind fun qf => ((impl_FormatAtom.f k qf.1 qf.2.1 qf.2.2).bind fun ql => (if ql.toList = qo.toList then ((laws_toAtom.f k l0_0 a0_1 a0_2).bind fun qh => ((laws_eqAtom.f k qf.1 qf.2.1 qf.2.2 qh.1 qh.2.1 qh.2.2).bind fun qr => (if qr = true then (some true) else (some false)))) else (some false)))))))
theorem laws_FnExactFormatAtom.mono : ∀ a0 a1 a2 k, LeO (laws_FnExactFormatAtom.f k a0 a1 a2) (laws_FnExactFormatAtom.f (k + 1) a0 a1 a2) := by
 intro a0 a1 a2 k
 unfold laws_FnExactFormatAtom.f
 repeat' first
   | (with_reducible exact impl_FormatAtom.mono _ _ _ _)
   | (with_reducible exact laws_eqAtom.mono _ _ _ _ _ _ _)
   | (with_reducible exact laws_toAtom.mono _ _ _ _)
   | (with_reducible exact spec_FormatAtom.mono _ _ _ _)
   | (with_reducible exact LeO.refl _)
   | (with_reducible exact LeO.none _)
   | (with_reducible refine LeO.ite ?_ ?_)
   | (with_reducible refine LeO.bind ?_ (fun _ => ?_))
   | exact impl_FormatAtom.mono _ _ _ _
   | exact laws_eqAtom.mono _ _ _ _ _ _ _
   | exact laws_toAtom.mono _ _ _ _
   | exact spec_FormatAtom.mono _ _ _ _
   | exact LeO.none _
   | refine LeO.ite ?_ ?_
   | refine LeO.bind ?_ (fun _ => ?_)
set_option maxHeartbeats 8000000 in
set_option maxRecDepth 100000 in
theorem laws_FnExactFormatAtom.calls (k : Nat) (A0_0 : Option Addr) (c0_0 : Nat) (l0_0 : List Int) (a0_1 : Int) (a0_2 : Bool) (r : Bool) (w : World) (hL : LaidW w) (hr0_0 : Kd.C (Kd.int .i64) w A0_0 l0_0.length l0_0) (hc0_0 : l0_0.length ≤ c0_0) (h : laws_FnExactFormatAtom.f k l0_0 a0_1 a0_2 = some r) :
  Calls Tryd.prog 3 #[.agg #[.slice A0_0 l0_0.length c0_0, .int .i64 a0_1, .bool a0_2]] w fun e w' => e = .returned (.bool r) ∧ Below w.heap.size w w' := by
 have HL_ := Aside0.mk hL
 clear hL
 have hu24 := Tryd.underlying24
 have hu27 := Tryd.underlying27
 have qp := Aside0.mk hr0_0
 have qq := Aside0.mk hc0_0
 clear hr0_0 hc0_0
 have HB := Aside0.mk (Below.refl w.heap.size w)
 have H : ((laws_szAtom.f l0_0 a0_1 a0_2 1048576).bind fun qv => (if qv < 0 then (some true) else ((laws_toAtom.f k l0_0 a0_1 a0_2).bind fun qs => ((spec_FormatAtom.f k qs.1 qs.2.1 qs.2.2).bind fun qo => ((laws_toAtom.f k l0_0 a0_1 a0_2).bind fun qf => ((impl_FormatAtom.f k qf.1 qf.2.1 qf.2.2).bind fun ql => (if ql.toList = qo.toList then ((laws_toAtom.f k l0_0 a0_1 a0_2).bind fun qh => ((laws_eqAtom.f k qf.1 qf.2.1 qf.2.2 qh.1 qh.2.1 qh.2.2).bind fun qr => (if qr = true then (some true) else (some false)))) else (some false)))))))) = some r := h
 clear h
 replace H := Option.bind_eq_some_iff.mp H
 obtain ⟨qv, A20, H⟩ := H
 replace H : (if qv < 0 then (some true) else ((laws_toAtom.f k l0_0 a0_1 a0_2).bind fun qs => ((spec_FormatAtom.f k qs.1 qs.2.1 qs.2.2).bind fun qo => ((laws_toAtom.f k l0_0 a0_1 a0_2).bind fun qf => ((impl_FormatAtom.f k qf.1 qf.2.1 qf.2.2).bind fun ql => (if ql.toList = qo.toList then ((laws_toAtom.f k l0_0 a0_1 a0_2).bind fun qh => ((laws_eqAtom.f k qf.1 qf.2.1 qf.2.2 qh.1 qh.2.1 qh.2.2).bind fun qr => (if qr = true then (some true) else (some false)))) else (some false))))))) = some r := H
 have A2 := Aside0.mk A20
 clear A20
 by_cases c3 : qv < 0
 ·
  rw [if_pos c3] at H
  have z5 : decide (qv < 0) = true := decide_eq_true c3
  clear c3
  obtain rfl := Option.some.inj H
  go_enter Tryd.func3, Tryd.ntmps3
  go_wp2_with (first | ((with_reducible refine gate_dst (N := 1) rfl ?_); refine box_event ?hg (N := 1) ?hd (cs := #[.slice A0_0 l0_0.length c0_0, .int .i64 a0_1, .bool a0_2]) (t := 24) ?hr ?_; (case hd => rfl); (case hg => rfl); (case hr => first | (go_simp; done) | (go_simp; rfl)); intro qc hg w4 hbox hb; have qa := Aside0.mk (hbox); have qH := Aside0.mk ((by rw [hg]; exact (bz_ HB) : w.heap.size ≤ qc)); have qI := Aside0.mk ((by rw [hg]; exact (bz_ HB) : w.heap.size ≤ qc)); replace HB := bS_ HB hb; clear hb hbox hg; have z6 : w4.cell? ⟨qc, 0, none⟩ = some (.slice A0_0 l0_0.length c0_0) := bc_ qa 0; have z7 : w4.cell? ⟨qc, 1, none⟩ = some (.int .i64 a0_1) := bc_ qa 1; have z8 : w4.cell? ⟨qc, 2, none⟩ = some (.bool a0_2) := bc_ qa 2; have z9 := blk_frozen qa.out 0; have ja := blk_frozen qa.out 1; have jb := blk_frozen qa.out 2) | ((with_reducible refine gate_callee (f := 11) rfl ?_); refine goesL_ (some 9) rfl rfl Tryd.func11 (by kernel_rfl) rfl #[.agg #[.slice A0_0 l0_0.length c0_0, .int .i64 a0_1, .bool a0_2], .int .i64 1048576] rfl (by (try simp only [List.map_toArray, List.map_cons, List.map_nil]); first | done | rfl | (simp only [List.length_drop, List.length_take]; rfl)) ?_; (with_reducible refine (laws_szAtom.calls _ _ l0_0 a0_1 a0_2 1048576 qv _ ?side1 ?side2 A2.out).mono ?_); (case side1 => exact cb_ qp HB); (case side2 => exact qq.out); rintro e w6 ⟨rfl, hb⟩; refine ⟨_, rfl, ?_⟩; replace qa := kB_ qa hb; replace HB := bS_ HB hb; (try clear hb); (try clear hb2); (try clear hk); (try clear hi)))
  go_ret
  exact ⟨by first | rfl | (simp [errW_none, errW_some] <;> rfl) | (simp [*, errW_none, errW_some] <;> rfl), bb_ HB⟩
 ·
  rw [if_neg c3] at H
  have z5 : decide (qv < 0) = false := decide_eq_false c3
  clear c3
  replace H := Option.bind_eq_some_iff.mp H
  obtain ⟨⟨qu, qw, qx⟩, A70, H⟩ := H
  replace H : ((spec_FormatAtom.f k qu qw qx).bind fun qo => ((laws_toAtom.f k l0_0 a0_1 a0_2).bind fun qf => ((impl_FormatAtom.f k qf.1 qf.2.1 qf.2.2).bind fun ql => (if ql.toList = qo.toList then ((laws_toAtom.f k l0_0 a0_1 a0_2).bind fun qh => ((laws_eqAtom.f k qf.1 qf.2.1 qf.2.2 qh.1 qh.2.1 qh.2.2).bind fun qr => (if qr = true then (some true) else (some false)))) else (some false))))) = some r := H
  have A7 := Aside0.mk A70
  clear A70
  replace H := Option.bind_eq_some_iff.mp H
  obtain ⟨qo, A80, H⟩ := H
  replace H : ((laws_toAtom.f k l0_0 a0_1 a0_2).bind fun qf => ((impl_FormatAtom.f k qf.1 qf.2.1 qf.2.2).bind fun ql => (if ql.toList = qo.toList then ((laws_toAtom.f k l0_0 a0_1 a0_2).bind fun qh => ((laws_eqAtom.f k qf.1 qf.2.1 qf.2.2 qh.1 qh.2.1 qh.2.2).bind fun qr => (if qr = true then (some true) else (some false)))) else (some false)))) = some r := H
  have A8 := Aside0.mk A80
  clear A80
  replace H := Option.bind_eq_some_iff.mp H
  obtain ⟨⟨qi, qj, qk⟩, A90, H⟩ := H
  replace H : ((impl_FormatAtom.f k qi qj qk).bind fun ql => (if ql.toList = qo.toList then ((laws_toAtom.f k l0_0 a0_1 a0_2).bind fun qh => ((laws_eqAtom.f k qi qj qk qh.1 qh.2.1 qh.2.2).bind fun qr => (if qr = true then (some true) else (some false)))) else (some false))) = some r := H
  have A9 := Aside0.mk A90
  clear A90
  replace H := Option.bind_eq_some_iff.mp H
  obtain ⟨ql, A100, H⟩ := H
  replace H : (if ql.toList = qo.toList then ((laws_toAtom.f k l0_0 a0_1 a0_2).bind fun qh => ((laws_eqAtom.f k qi qj qk qh.1 qh.2.1 qh.2.2).bind fun qr => (if qr = true then (some true) else (some false)))) else (some false)) = some r := H
  have A10 := Aside0.mk A100
  clear A100
  by_cases c11 : ql.toList = qo.toList
  ·
   rw [if_pos c11] at H
   have qL : (ql.toList == qo.toList) = true := beq_iff_eq.mpr c11
   have qM : (ql.toList != qo.toList) = false := bne_eq_false_iff_eq.mpr c11
   clear c11
   replace H := Option.bind_eq_some_iff.mp H
   obtain ⟨⟨qD, qE, qF⟩, A120, H⟩ := H
   replace H : ((laws_eqAtom.f k qi qj qk qD qE qF).bind fun qr => (if qr = true then (some true) else (some false))) = some r := H
   have A12 := Aside0.mk A120
   clear A120
   replace H := Option.bind_eq_some_iff.mp H
   obtain ⟨qr, A130, H⟩ := H
   replace H : (if qr = true then (some true) else (some false)) = some r := H
   have A13 := Aside0.mk A130
   clear A130
   by_cases c14 : qr = true
   ·
    subst c14
    have H1 : (some true) = some r := by rw [if_pos rfl] at H; exact H
    clear H
    have H := H1
    clear H1
    obtain rfl := Option.some.inj H
    go_enter Tryd.func3, Tryd.ntmps3
    try go_wp2_with (first | ((with_reducible refine gate_dst (N := 1) rfl ?_); refine box_event ?hg (N := 1) ?hd (cs := #[.slice A0_0 l0_0.length c0_0, .int .i64 a0_1, .bool a0_2]) (t := 24) ?hr ?_; (case hd => rfl); (case hg => rfl); (case hr => first | (go_simp; done) | (go_simp; rfl)); intro qc hg jc hbox hb; have qa := Aside0.mk (hbox); have qH := Aside0.mk ((by rw [hg]; exact (bz_ HB) : w.heap.size ≤ qc)); have qI := Aside0.mk ((by rw [hg]; exact (bz_ HB) : w.heap.size ≤ qc)); replace HB := bS_ HB hb; clear hb hbox hg; have qV : jc.cell? ⟨qc, 0, none⟩ = some (.slice A0_0 l0_0.length c0_0) := bc_ qa 0; have qW : jc.cell? ⟨qc, 1, none⟩ = some (.int .i64 a0_1) := bc_ qa 1; have qX : jc.cell? ⟨qc, 2, none⟩ = some (.bool a0_2) := bc_ qa 2; have qY := blk_frozen qa.out 0; have qZ := blk_frozen qa.out 1; have q0 := blk_frozen qa.out 2) | ((with_reducible refine gate_callee (f := 11) rfl ?_); refine goesL_ (some 9) rfl rfl Tryd.func11 (by kernel_rfl) rfl #[.agg #[.slice A0_0 l0_0.length c0_0, .int .i64 a0_1, .bool a0_2], .int .i64 1048576] rfl (by (try simp only [List.map_toArray, List.map_cons, List.map_nil]); first | done | rfl | (simp only [List.length_drop, List.length_take]; rfl)) ?_; (with_reducible refine (laws_szAtom.calls _ _ l0_0 a0_1 a0_2 1048576 qv _ ?side1 ?side2 A2.out).mono ?_); (case side1 => exact cb_ qp HB); (case side2 => exact qq.out); rintro e jd ⟨rfl, hb⟩; refine ⟨_, rfl, ?_⟩; replace qa := kB_ qa hb; replace HB := bS_ HB hb; (try clear hb); (try clear hb2); (try clear hk); (try clear hi); have q1 : jd.cell? ⟨qc, 0, none⟩ = some (.slice A0_0 l0_0.length c0_0) := bc_ qa 0; have q2 : jd.cell? ⟨qc, 1, none⟩ = some (.int .i64 a0_1) := bc_ qa 1; have q3 : jd.cell? ⟨qc, 2, none⟩ = some (.bool a0_2) := bc_ qa 2; have q4 := blk_frozen qa.out 0; have q5 := blk_frozen qa.out 1; have q6 := blk_frozen qa.out 2) | ((with_reducible refine gate_callee (f := 13) rfl ?_); refine goesL_ (some 13) rfl rfl Tryd.func13 (by kernel_rfl) rfl #[.agg #[.slice A0_0 l0_0.length c0_0, .int .i64 a0_1, .bool a0_2]] rfl (by (try simp only [List.map_toArray, List.map_cons, List.map_nil]); first | done | rfl | (simp only [List.length_drop, List.length_take]; rfl)) ?_; (with_reducible refine (laws_toAtom.calls k _ _ l0_0 a0_1 a0_2 qu qw qx _ ?side1 ?side2 A7.out).mono ?_); (case side1 => exact cb_ qp HB); (case side2 => exact qq.out); rintro e jB ⟨qN, rfl, ho0, hb⟩; refine ⟨_, rfl, ?_⟩; have qd := Aside0.mk (Kd.R_lower ho0 (bz_ HB)); replace qa := kB_ qa hb; replace HB := bS_ HB hb; (try clear hb); (try clear hb2); (try clear hk); (try clear hi); (try clear ho0); obtain ⟨qO, qP, eo20⟩ := Kd.R_slice qd.out; subst eo20) | ((with_reducible refine gate_callee (f := 12) rfl ?_); refine goesL_ (some 14) rfl rfl Tryd.func12 (by kernel_rfl) rfl #[.agg #[.slice qO qu.length qP, .int .i64 qw, .bool qx]] rfl (by (try simp only [List.map_toArray, List.map_cons, List.map_nil]); first | done | rfl | (simp only [List.length_drop, List.length_take]; rfl)) ?_; (with_reducible refine (spec_FormatAtom.calls k _ _ qu qw qx qo _ ?side1 ?side2 A8.out).mono ?_); (case side1 => exact cr_ qd); (case side2 => exact (Kd.R_reads' qd.out).2.1); rintro e je ⟨rfl, hb⟩; refine ⟨_, rfl, ?_⟩; replace qd := rB_ qd hb; replace qa := kB_ qa hb; replace HB := bS_ HB hb; (try clear hb); (try clear hb2); (try clear hk); (try clear hi); have q7 : je.cell? ⟨qc, 0, none⟩ = some (.slice A0_0 l0_0.length c0_0) := bc_ qa 0; have q8 : je.cell? ⟨qc, 1, none⟩ = some (.int .i64 a0_1) := bc_ qa 1; have q9 : je.cell? ⟨qc, 2, none⟩ = some (.bool a0_2) := bc_ qa 2; have za := blk_frozen qa.out 0; have zb := blk_frozen qa.out 1; have zc := blk_frozen qa.out 2) | ((with_reducible refine gate_callee (f := 13) rfl ?_); refine goesL_ (some 16) rfl rfl Tryd.func13 (by kernel_rfl) rfl #[.agg #[.slice A0_0 l0_0.length c0_0, .int .i64 a0_1, .bool a0_2]] rfl (by (try simp only [List.map_toArray, List.map_cons, List.map_nil]); first | done | rfl | (simp only [List.length_drop, List.length_take]; rfl)) ?_; (with_reducible refine (laws_toAtom.calls k _ _ l0_0 a0_1 a0_2 qi qj qk _ ?side1 ?side2 A9.out).mono ?_); (case side1 => exact cb_ qp HB); (case side2 => exact qq.out); rintro e jC ⟨qQ, rfl, ho0, hb⟩; refine ⟨_, rfl, ?_⟩; have qe := Aside0.mk (Kd.R_lower (Kd.R_new' ho0 (Kd.R_lt (rm_ qd))) (bz_ HB)); replace qd := Aside0.mk (Kd.R_elder' (rm_ qd) (Kd.R_base ho0) hb); replace qa := kB_ qa hb; replace HB := bS_ HB hb; (try clear hb); (try clear hb2); (try clear hk); (try clear hi); (try clear ho0)) | ((with_reducible refine gate_dst (N := 5) rfl ?_); refine box_event ?hg (N := 5) ?hd (cs := #[.slice none 0 0, .int .i64 0, .bool false]) (t := 27) ?hr ?_; (case hd => rfl); (case hg => rfl); (case hr => first | (go_simp; done) | (go_simp; rfl)); intro qg hg jf hbox hb; replace qd := rB_ qd hb; replace qe := rB_ qe hb; have qb := Aside0.mk (hbox); have qJ := Aside0.mk ((by rw [hg]; exact (bz_ HB) : w.heap.size ≤ qg)); have qK := Aside0.mk ((by rw [hg]; exact (bz_ HB) : w.heap.size ≤ qg)); replace HB := bS_ HB hb; have qm := Aside0.mk ((nl_ qa hg : qc ≠ qg)); have qn := Aside0.mk ((ng_ qa hg : qg ≠ qc)); replace qa := kB_ qa hb; clear hb hbox hg; obtain ⟨qA, qy, eo25⟩ := Kd.R_slice qe.out; subst eo25; have jt := qn.out; have ju := qm.out; have zd : jf.cell? ⟨qg, 0, none⟩ = some (.slice none 0 0) := bc_ qb 0; have ze : jf.cell? ⟨qg, 1, none⟩ = some (.int .i64 0) := bc_ qb 1; have zf : jf.cell? ⟨qg, 2, none⟩ = some (.bool false) := bc_ qb 2; have zg := blk_frozen qb.out 0; have zh := blk_frozen qb.out 1; have zi := blk_frozen qb.out 2) | ((with_reducible refine gate_callee (f := 14) rfl ?_); refine goesL_ (some 18) rfl rfl Tryd.func14 (by kernel_rfl) rfl #[.agg #[.slice qA qi.length qy, .int .i64 qj, .bool qk]] rfl (by (try simp only [List.map_toArray, List.map_cons, List.map_nil]); first | done | rfl | (simp only [List.length_drop, List.length_take]; rfl)) ?_; (with_reducible refine (impl_FormatAtom.calls (hL := laid_ HL_ HB) k _ _ qi qj qk ql _ ?side1 ?side2 A10.out).mono ?_); (case side1 => refine (Kd.R_reads' (e := 3) (base := w.heap.size) (ok := fun k_ => (True ∧ some k_ ≠ (.slice qO qu.length qP : Value).ownBlock)) (n := qi.length) (c := qy) ?_).2.2; exact (by (with_reducible repeat (first | apply Kd.R_alloc | apply Kd.R_drewN | apply Kd.R_drew)); exact (rt3_ qe qb (by decide) 0 1 2 (.slice qA qi.length qy) (.int .i64 qj) (.bool qk)))); (case side2 => exact (Kd.R_reads' qe.out).2.1); rintro e jz ⟨rfl, hb⟩; refine ⟨_, rfl, ?_⟩; replace qd := Aside0.mk (Kd.R_below (by (with_reducible repeat (first | apply Kd.R_alloc | apply Kd.R_drewN | apply Kd.R_drew)); exact (rt3_ qd qb (by decide) 0 1 2 (.slice qA qi.length qy) (.int .i64 qj) (.bool qk))) hb); replace qe := Aside0.mk (Kd.R_below (by (with_reducible repeat (first | apply Kd.R_alloc | apply Kd.R_drewN | apply Kd.R_drew)); exact (rt3_ qe qb (by decide) 0 1 2 (.slice qA qi.length qy) (.int .i64 qj) (.bool qk))) hb); replace qa := Aside0.mk (blk_below (g := qc) (o := .cells #[.slice A0_0 l0_0.length c0_0, .int .i64 a0_1, .bool a0_2] 24 (0, 0)) (kf_ qa) hb); replace qb := Aside0.mk (blk_below (g := qg) (o := .cells #[.slice qA qi.length qy, .int .i64 qj, .bool qk] 27 (0, 0)) (by (with_reducible repeat (first | refine blk_drewN ?_ _ | refine blk_drew ?_ | refine blk_alloc ?_ _)); refine blk_put (cs := #[.slice qA qi.length qy, .int .i64 qj, .bool false]) ?_ 2 _ rfl; (with_reducible repeat (first | refine blk_drewN ?_ _ | refine blk_drew ?_ | refine blk_alloc ?_ _)); refine blk_put (cs := #[.slice qA qi.length qy, .int .i64 0, .bool false]) ?_ 1 _ rfl; (with_reducible repeat (first | refine blk_drewN ?_ _ | refine blk_drew ?_ | refine blk_alloc ?_ _)); refine blk_put (cs := #[.slice none 0 0, .int .i64 0, .bool false]) ?_ 0 _ rfl; (with_reducible repeat (first | refine blk_drewN ?_ _ | refine blk_drew ?_ | refine blk_alloc ?_ _)); exact qb.out) hb); replace HB := bS_ HB hb; (try clear hb); (try clear hb2); (try clear hk); (try clear hi)))
    replace qd := Aside0.mk (Kd.R_drew qd.out); replace qe := Aside0.mk (Kd.R_drew qe.out); replace qa := Aside0.mk (blk_drew qa.out); replace qb := Aside0.mk (blk_drew qb.out); replace HB := Aside0.mk (below_drew1 HB.out)
    refine start_ (n := 5) (S := fun w' => w'.cell? ⟨qg, 0, none⟩ = some (.slice qA qi.length qy) ∧ w'.cell? ⟨qg, 1, none⟩ = some (.int .i64 qj) ∧ w'.cell? ⟨qg, 2, none⟩ = some (.bool qk) ∧ w'.cell? ⟨qc, 0, none⟩ = some (.slice A0_0 l0_0.length c0_0) ∧ w'.cell? ⟨qc, 1, none⟩ = some (.int .i64 a0_1) ∧ w'.cell? ⟨qc, 2, none⟩ = some (.bool a0_2)) (ds := []) #[false, false, false, false, false] (by kernel_rfl) rfl rfl ⟨bc_ qb 0, bc_ qb 1, bc_ qb 2, bc_ qa 0, bc_ qa 1, bc_ qa 2⟩ (fun hHeld => ?_)
    generalize jz.drew = jD at qd qe qa qb HB hHeld ⊢
    refine take_ (i := 0) (N := some 22) (v := ?_) (a' := ?_) #[true, false, false, false, false] rfl rfl (by kernel_rfl) (fun _ _ _ h => h) (Or.inl ⟨by rfl, ?_⟩) hHeld ?_ ?_
    rotate_left
    ·
     rintro w' ⟨s0, s1, s2, s3, s4, s5⟩
     go_simp
     with_reducible rfl
    rotate_left
    ·
     simp only [Act.put, List.setIfInBounds_toArray, List.set_cons_zero, List.set_cons_succ, i64_w, i32_w]
     rfl
    refine take_ (i := 1) (N := some 23) (v := ?_) (a' := ?_) #[true, true, false, false, false] rfl rfl (by kernel_rfl) (fun _ _ _ h => h) (Or.inl ⟨by rfl, ?_⟩) hHeld ?_ ?_
    rotate_left
    ·
     rintro w' ⟨s0, s1, s2, s3, s4, s5⟩
     go_simp
     with_reducible rfl
    rotate_left
    ·
     simp only [Act.put, List.setIfInBounds_toArray, List.set_cons_zero, List.set_cons_succ, i64_w, i32_w]
     rfl
    refine one_ (i := 2) (N := some 24) #[true, true, true, false, false] rfl rfl (by kernel_rfl) (by decide) (fun K hK => ?_)
    refine goes_ Tryd.func13 (by kernel_rfl) rfl #[.agg #[.slice A0_0 l0_0.length c0_0, .int .i64 a0_1, .bool a0_2]] (by rfl) rfl rfl (by (try simp only [List.map_toArray, List.map_cons, List.map_nil]); first | done | rfl | (simp only [List.length_drop, List.length_take]; rfl)) ?_
    with_reducible refine (laws_toAtom.calls k _ _ l0_0 a0_1 a0_2 qD qE qF _ ?side1 ?side2 A12.out).mono ?_
    (case side1 => exact cb_ qp HB)
    (case side2 => exact qq.out)
    rintro e jE ⟨jg, rfl, ho0, hb⟩
    refine ⟨_, rfl, ?_⟩
    have qt := Aside0.mk (Kd.R_lower (Kd.R_new' (Kd.R_new' ho0 (Kd.R_lt (rm_ qd))) (Kd.R_lt (rm_ qe))) (bz_ HB)); replace qd := Aside0.mk (Kd.R_elder' (rm_ qd) (Kd.R_base ho0) hb); replace qe := Aside0.mk (Kd.R_elder' (rm_ qe) (Kd.R_base ho0) hb); replace qa := kB_ qa hb; replace qb := kB_ qb hb; replace HB := bS_ HB hb; (try clear hb); (try clear hb2); (try clear hk); (try clear hi); (try clear ho0)
    obtain ⟨jh, ji, eo31⟩ := Kd.R_slice qt.out
    (first | subst eo31 | (injection eo31 with f1_ f2_ f3_; have f4_ := f1_.symm; have f5_ := f3_.symm; clear f1_ f2_ f3_; subst f4_; subst f5_))
    refine hK.out _ _ ⟨bc_ qb 0, bc_ qb 1, bc_ qb 2, bc_ qa 0, bc_ qa 1, bc_ qa 2⟩ (fun hHeld => ?_)
    clear hK K
    refine norm_ (a' := ?_) ?_ ?_
    rotate_left
    ·
     show Act.put _ (some 24) _ = _
     simp only [Act.put, List.setIfInBounds_toArray, List.set_cons_zero, List.set_cons_succ, i64_w, i32_w]
     rfl
    refine one_ (i := 3) (N := some 25) #[true, true, true, true, false] rfl rfl (by kernel_rfl) (by decide) (fun K hK => ?_)
    refine goes_ Tryd.func15 (by kernel_rfl) rfl #[.agg #[.slice qA qi.length qy, .int .i64 qj, .bool qk], .agg #[.slice jh qD.length ji, .int .i64 qE, .bool qF]] (by rfl) rfl rfl (by (try simp only [List.map_toArray, List.map_cons, List.map_nil]); first | done | rfl | (simp only [List.length_drop, List.length_take]; rfl)) ?_
    with_reducible refine (laws_eqAtom.calls k _ _ qi qj qk _ _ qD qE qF true _ ?side1 ?side2 ?side3 ?side4 A13.out).mono ?_
    (case side1 => exact cr_ qe)
    (case side2 => exact (Kd.R_reads' qe.out).2.1)
    (case side3 => exact cr_ qt)
    (case side4 => exact (Kd.R_reads' qt.out).2.1)
    rintro e jF ⟨rfl, hb⟩
    refine ⟨_, rfl, ?_⟩
    replace qd := rB_ qd hb; replace qe := rB_ qe hb; replace qt := rB_ qt hb; replace qa := kB_ qa hb; replace qb := kB_ qb hb; replace HB := bS_ HB hb; (try clear hb); (try clear hb2); (try clear hk); (try clear hi)
    refine hK.out _ _ ⟨bc_ qb 0, bc_ qb 1, bc_ qb 2, bc_ qa 0, bc_ qa 1, bc_ qa 2⟩ (fun hHeld => ?_)
    clear hK K
    refine norm_ (a' := ?_) ?_ ?_
    rotate_left
    ·
     show Act.put _ (some 25) _ = _
     simp only [Act.put, List.setIfInBounds_toArray, List.set_cons_zero, List.set_cons_succ, i64_w, i32_w]
     rfl
    refine pure_ (i := 4) (N := some 26) (v := ?_) (a' := ?_) #[true, true, true, true, true] rfl rfl (by kernel_rfl) (fun _ _ _ h => h) (Or.inl ⟨by rfl, ?_⟩) ?_ ?_
    rotate_left
    ·
     intro w'
     go_simp
     with_reducible rfl
    rotate_left
    ·
     simp only [Act.put, List.setIfInBounds_toArray, List.set_cons_zero, List.set_cons_succ, i64_w, i32_w]
     rfl
    refine done_ (by kernel_rfl) ?_
    try go_wp2
    go_ret
    exact ⟨by first | rfl | (simp [errW_none, errW_some] <;> rfl) | (simp [*, errW_none, errW_some] <;> rfl), bb_ HB⟩
   ·
    replace c14 := Bool.eq_false_iff.mpr c14
    subst c14
    have H1 : (some false) = some r := by rw [if_neg (show ¬ (false = true) by decide)] at H; exact H
    clear H
    have H := H1
    clear H1
    obtain rfl := Option.some.inj H
    go_enter Tryd.func3, Tryd.ntmps3
    try go_wp2_with (first | ((with_reducible refine gate_dst (N := 1) rfl ?_); refine box_event ?hg (N := 1) ?hd (cs := #[.slice A0_0 l0_0.length c0_0, .int .i64 a0_1, .bool a0_2]) (t := 24) ?hr ?_; (case hd => rfl); (case hg => rfl); (case hr => first | (go_simp; done) | (go_simp; rfl)); intro qc hg jj hbox hb; have qa := Aside0.mk (hbox); have qH := Aside0.mk ((by rw [hg]; exact (bz_ HB) : w.heap.size ≤ qc)); have qI := Aside0.mk ((by rw [hg]; exact (bz_ HB) : w.heap.size ≤ qc)); replace HB := bS_ HB hb; clear hb hbox hg; have zj : jj.cell? ⟨qc, 0, none⟩ = some (.slice A0_0 l0_0.length c0_0) := bc_ qa 0; have zk : jj.cell? ⟨qc, 1, none⟩ = some (.int .i64 a0_1) := bc_ qa 1; have zl : jj.cell? ⟨qc, 2, none⟩ = some (.bool a0_2) := bc_ qa 2; have zm := blk_frozen qa.out 0; have zn := blk_frozen qa.out 1; have zo := blk_frozen qa.out 2) | ((with_reducible refine gate_callee (f := 11) rfl ?_); refine goesL_ (some 9) rfl rfl Tryd.func11 (by kernel_rfl) rfl #[.agg #[.slice A0_0 l0_0.length c0_0, .int .i64 a0_1, .bool a0_2], .int .i64 1048576] rfl (by (try simp only [List.map_toArray, List.map_cons, List.map_nil]); first | done | rfl | (simp only [List.length_drop, List.length_take]; rfl)) ?_; (with_reducible refine (laws_szAtom.calls _ _ l0_0 a0_1 a0_2 1048576 qv _ ?side1 ?side2 A2.out).mono ?_); (case side1 => exact cb_ qp HB); (case side2 => exact qq.out); rintro e jk ⟨rfl, hb⟩; refine ⟨_, rfl, ?_⟩; replace qa := kB_ qa hb; replace HB := bS_ HB hb; (try clear hb); (try clear hb2); (try clear hk); (try clear hi); have zp : jk.cell? ⟨qc, 0, none⟩ = some (.slice A0_0 l0_0.length c0_0) := bc_ qa 0; have zq : jk.cell? ⟨qc, 1, none⟩ = some (.int .i64 a0_1) := bc_ qa 1; have zr : jk.cell? ⟨qc, 2, none⟩ = some (.bool a0_2) := bc_ qa 2; have zs := blk_frozen qa.out 0; have zt := blk_frozen qa.out 1; have zu := blk_frozen qa.out 2) | ((with_reducible refine gate_callee (f := 13) rfl ?_); refine goesL_ (some 13) rfl rfl Tryd.func13 (by kernel_rfl) rfl #[.agg #[.slice A0_0 l0_0.length c0_0, .int .i64 a0_1, .bool a0_2]] rfl (by (try simp only [List.map_toArray, List.map_cons, List.map_nil]); first | done | rfl | (simp only [List.length_drop, List.length_take]; rfl)) ?_; (with_reducible refine (laws_toAtom.calls k _ _ l0_0 a0_1 a0_2 qu qw qx _ ?side1 ?side2 A7.out).mono ?_); (case side1 => exact cb_ qp HB); (case side2 => exact qq.out); rintro e jG ⟨qN, rfl, ho0, hb⟩; refine ⟨_, rfl, ?_⟩; have qd := Aside0.mk (Kd.R_lower ho0 (bz_ HB)); replace qa := kB_ qa hb; replace HB := bS_ HB hb; (try clear hb); (try clear hb2); (try clear hk); (try clear hi); (try clear ho0); obtain ⟨qR, qS, eo38⟩ := Kd.R_slice qd.out; subst eo38) | ((with_reducible refine gate_callee (f := 12) rfl ?_); refine goesL_ (some 14) rfl rfl Tryd.func12 (by kernel_rfl) rfl #[.agg #[.slice qR qu.length qS, .int .i64 qw, .bool qx]] rfl (by (try simp only [List.map_toArray, List.map_cons, List.map_nil]); first | done | rfl | (simp only [List.length_drop, List.length_take]; rfl)) ?_; (with_reducible refine (spec_FormatAtom.calls k _ _ qu qw qx qo _ ?side1 ?side2 A8.out).mono ?_); (case side1 => exact cr_ qd); (case side2 => exact (Kd.R_reads' qd.out).2.1); rintro e jl ⟨rfl, hb⟩; refine ⟨_, rfl, ?_⟩; replace qd := rB_ qd hb; replace qa := kB_ qa hb; replace HB := bS_ HB hb; (try clear hb); (try clear hb2); (try clear hk); (try clear hi); have zv : jl.cell? ⟨qc, 0, none⟩ = some (.slice A0_0 l0_0.length c0_0) := bc_ qa 0; have zw : jl.cell? ⟨qc, 1, none⟩ = some (.int .i64 a0_1) := bc_ qa 1; have zx : jl.cell? ⟨qc, 2, none⟩ = some (.bool a0_2) := bc_ qa 2; have zy := blk_frozen qa.out 0; have zz := blk_frozen qa.out 1; have zA := blk_frozen qa.out 2) | ((with_reducible refine gate_callee (f := 13) rfl ?_); refine goesL_ (some 16) rfl rfl Tryd.func13 (by kernel_rfl) rfl #[.agg #[.slice A0_0 l0_0.length c0_0, .int .i64 a0_1, .bool a0_2]] rfl (by (try simp only [List.map_toArray, List.map_cons, List.map_nil]); first | done | rfl | (simp only [List.length_drop, List.length_take]; rfl)) ?_; (with_reducible refine (laws_toAtom.calls k _ _ l0_0 a0_1 a0_2 qi qj qk _ ?side1 ?side2 A9.out).mono ?_); (case side1 => exact cb_ qp HB); (case side2 => exact qq.out); rintro e jH ⟨qQ, rfl, ho0, hb⟩; refine ⟨_, rfl, ?_⟩; have qe := Aside0.mk (Kd.R_lower (Kd.R_new' ho0 (Kd.R_lt (rm_ qd))) (bz_ HB)); replace qd := Aside0.mk (Kd.R_elder' (rm_ qd) (Kd.R_base ho0) hb); replace qa := kB_ qa hb; replace HB := bS_ HB hb; (try clear hb); (try clear hb2); (try clear hk); (try clear hi); (try clear ho0)) | ((with_reducible refine gate_dst (N := 5) rfl ?_); refine box_event ?hg (N := 5) ?hd (cs := #[.slice none 0 0, .int .i64 0, .bool false]) (t := 27) ?hr ?_; (case hd => rfl); (case hg => rfl); (case hr => first | (go_simp; done) | (go_simp; rfl)); intro qg hg jm hbox hb; replace qd := rB_ qd hb; replace qe := rB_ qe hb; have qb := Aside0.mk (hbox); have qJ := Aside0.mk ((by rw [hg]; exact (bz_ HB) : w.heap.size ≤ qg)); have qK := Aside0.mk ((by rw [hg]; exact (bz_ HB) : w.heap.size ≤ qg)); replace HB := bS_ HB hb; have qm := Aside0.mk ((nl_ qa hg : qc ≠ qg)); have qn := Aside0.mk ((ng_ qa hg : qg ≠ qc)); replace qa := kB_ qa hb; clear hb hbox hg; obtain ⟨qB, qz, eo43⟩ := Kd.R_slice qe.out; subst eo43; have jv := qn.out; have jw := qm.out; have zB : jm.cell? ⟨qg, 0, none⟩ = some (.slice none 0 0) := bc_ qb 0; have zC : jm.cell? ⟨qg, 1, none⟩ = some (.int .i64 0) := bc_ qb 1; have zD : jm.cell? ⟨qg, 2, none⟩ = some (.bool false) := bc_ qb 2; have zE := blk_frozen qb.out 0; have zF := blk_frozen qb.out 1; have zG := blk_frozen qb.out 2) | ((with_reducible refine gate_callee (f := 14) rfl ?_); refine goesL_ (some 18) rfl rfl Tryd.func14 (by kernel_rfl) rfl #[.agg #[.slice qB qi.length qz, .int .i64 qj, .bool qk]] rfl (by (try simp only [List.map_toArray, List.map_cons, List.map_nil]); first | done | rfl | (simp only [List.length_drop, List.length_take]; rfl)) ?_; (with_reducible refine (impl_FormatAtom.calls (hL := laid_ HL_ HB) k _ _ qi qj qk ql _ ?side1 ?side2 A10.out).mono ?_); (case side1 => refine (Kd.R_reads' (e := 3) (base := w.heap.size) (ok := fun k_ => (True ∧ some k_ ≠ (.slice qR qu.length qS : Value).ownBlock)) (n := qi.length) (c := qz) ?_).2.2; exact (by (with_reducible repeat (first | apply Kd.R_alloc | apply Kd.R_drewN | apply Kd.R_drew)); exact (rt3_ qe qb (by decide) 0 1 2 (.slice qB qi.length qz) (.int .i64 qj) (.bool qk)))); (case side2 => exact (Kd.R_reads' qe.out).2.1); rintro e jA ⟨rfl, hb⟩; refine ⟨_, rfl, ?_⟩; replace qd := Aside0.mk (Kd.R_below (by (with_reducible repeat (first | apply Kd.R_alloc | apply Kd.R_drewN | apply Kd.R_drew)); exact (rt3_ qd qb (by decide) 0 1 2 (.slice qB qi.length qz) (.int .i64 qj) (.bool qk))) hb); replace qe := Aside0.mk (Kd.R_below (by (with_reducible repeat (first | apply Kd.R_alloc | apply Kd.R_drewN | apply Kd.R_drew)); exact (rt3_ qe qb (by decide) 0 1 2 (.slice qB qi.length qz) (.int .i64 qj) (.bool qk))) hb); replace qa := Aside0.mk (blk_below (g := qc) (o := .cells #[.slice A0_0 l0_0.length c0_0, .int .i64 a0_1, .bool a0_2] 24 (0, 0)) (kf_ qa) hb); replace qb := Aside0.mk (blk_below (g := qg) (o := .cells #[.slice qB qi.length qz, .int .i64 qj, .bool qk] 27 (0, 0)) (by (with_reducible repeat (first | refine blk_drewN ?_ _ | refine blk_drew ?_ | refine blk_alloc ?_ _)); refine blk_put (cs := #[.slice qB qi.length qz, .int .i64 qj, .bool false]) ?_ 2 _ rfl; (with_reducible repeat (first | refine blk_drewN ?_ _ | refine blk_drew ?_ | refine blk_alloc ?_ _)); refine blk_put (cs := #[.slice qB qi.length qz, .int .i64 0, .bool false]) ?_ 1 _ rfl; (with_reducible repeat (first | refine blk_drewN ?_ _ | refine blk_drew ?_ | refine blk_alloc ?_ _)); refine blk_put (cs := #[.slice none 0 0, .int .i64 0, .bool false]) ?_ 0 _ rfl; (with_reducible repeat (first | refine blk_drewN ?_ _ | refine blk_drew ?_ | refine blk_alloc ?_ _)); exact qb.out) hb); replace HB := bS_ HB hb; (try clear hb); (try clear hb2); (try clear hk); (try clear hi)))
    replace qd := Aside0.mk (Kd.R_drew qd.out); replace qe := Aside0.mk (Kd.R_drew qe.out); replace qa := Aside0.mk (blk_drew qa.out); replace qb := Aside0.mk (blk_drew qb.out); replace HB := Aside0.mk (below_drew1 HB.out)
    refine start_ (n := 5) (S := fun w' => w'.cell? ⟨qg, 0, none⟩ = some (.slice qB qi.length qz) ∧ w'.cell? ⟨qg, 1, none⟩ = some (.int .i64 qj) ∧ w'.cell? ⟨qg, 2, none⟩ = some (.bool qk) ∧ w'.cell? ⟨qc, 0, none⟩ = some (.slice A0_0 l0_0.length c0_0) ∧ w'.cell? ⟨qc, 1, none⟩ = some (.int .i64 a0_1) ∧ w'.cell? ⟨qc, 2, none⟩ = some (.bool a0_2)) (ds := []) #[false, false, false, false, false] (by kernel_rfl) rfl rfl ⟨bc_ qb 0, bc_ qb 1, bc_ qb 2, bc_ qa 0, bc_ qa 1, bc_ qa 2⟩ (fun hHeld => ?_)
    generalize jA.drew = jI at qd qe qa qb HB hHeld ⊢
    refine take_ (i := 0) (N := some 22) (v := ?_) (a' := ?_) #[true, false, false, false, false] rfl rfl (by kernel_rfl) (fun _ _ _ h => h) (Or.inl ⟨by rfl, ?_⟩) hHeld ?_ ?_
    rotate_left
    ·
     rintro w' ⟨s0, s1, s2, s3, s4, s5⟩
     go_simp
     with_reducible rfl
    rotate_left
    ·
     simp only [Act.put, List.setIfInBounds_toArray, List.set_cons_zero, List.set_cons_succ, i64_w, i32_w]
     rfl
    refine take_ (i := 1) (N := some 23) (v := ?_) (a' := ?_) #[true, true, false, false, false] rfl rfl (by kernel_rfl) (fun _ _ _ h => h) (Or.inl ⟨by rfl, ?_⟩) hHeld ?_ ?_
    rotate_left
    ·
     rintro w' ⟨s0, s1, s2, s3, s4, s5⟩
     go_simp
     with_reducible rfl
    rotate_left
    ·
     simp only [Act.put, List.setIfInBounds_toArray, List.set_cons_zero, List.set_cons_succ, i64_w, i32_w]
     rfl
    refine one_ (i := 2) (N := some 24) #[true, true, true, false, false] rfl rfl (by kernel_rfl) (by decide) (fun K hK => ?_)
    refine goes_ Tryd.func13 (by kernel_rfl) rfl #[.agg #[.slice A0_0 l0_0.length c0_0, .int .i64 a0_1, .bool a0_2]] (by rfl) rfl rfl (by (try simp only [List.map_toArray, List.map_cons, List.map_nil]); first | done | rfl | (simp only [List.length_drop, List.length_take]; rfl)) ?_
    with_reducible refine (laws_toAtom.calls k _ _ l0_0 a0_1 a0_2 qD qE qF _ ?side1 ?side2 A12.out).mono ?_
    (case side1 => exact cb_ qp HB)
    (case side2 => exact qq.out)
    rintro e jJ ⟨jg, rfl, ho0, hb⟩
    refine ⟨_, rfl, ?_⟩
    have qt := Aside0.mk (Kd.R_lower (Kd.R_new' (Kd.R_new' ho0 (Kd.R_lt (rm_ qd))) (Kd.R_lt (rm_ qe))) (bz_ HB)); replace qd := Aside0.mk (Kd.R_elder' (rm_ qd) (Kd.R_base ho0) hb); replace qe := Aside0.mk (Kd.R_elder' (rm_ qe) (Kd.R_base ho0) hb); replace qa := kB_ qa hb; replace qb := kB_ qb hb; replace HB := bS_ HB hb; (try clear hb); (try clear hb2); (try clear hk); (try clear hi); (try clear ho0)
    obtain ⟨jn, jo, eo49⟩ := Kd.R_slice qt.out
    (first | subst eo49 | (injection eo49 with f1_ f2_ f3_; have f4_ := f1_.symm; have f5_ := f3_.symm; clear f1_ f2_ f3_; subst f4_; subst f5_))
    refine hK.out _ _ ⟨bc_ qb 0, bc_ qb 1, bc_ qb 2, bc_ qa 0, bc_ qa 1, bc_ qa 2⟩ (fun hHeld => ?_)
    clear hK K
    refine norm_ (a' := ?_) ?_ ?_
    rotate_left
    ·
     show Act.put _ (some 24) _ = _
     simp only [Act.put, List.setIfInBounds_toArray, List.set_cons_zero, List.set_cons_succ, i64_w, i32_w]
     rfl
    refine one_ (i := 3) (N := some 25) #[true, true, true, true, false] rfl rfl (by kernel_rfl) (by decide) (fun K hK => ?_)
    refine goes_ Tryd.func15 (by kernel_rfl) rfl #[.agg #[.slice qB qi.length qz, .int .i64 qj, .bool qk], .agg #[.slice jn qD.length jo, .int .i64 qE, .bool qF]] (by rfl) rfl rfl (by (try simp only [List.map_toArray, List.map_cons, List.map_nil]); first | done | rfl | (simp only [List.length_drop, List.length_take]; rfl)) ?_
    with_reducible refine (laws_eqAtom.calls k _ _ qi qj qk _ _ qD qE qF false _ ?side1 ?side2 ?side3 ?side4 A13.out).mono ?_
    (case side1 => exact cr_ qe)
    (case side2 => exact (Kd.R_reads' qe.out).2.1)
    (case side3 => exact cr_ qt)
    (case side4 => exact (Kd.R_reads' qt.out).2.1)
    rintro e jK ⟨rfl, hb⟩
    refine ⟨_, rfl, ?_⟩
    replace qd := rB_ qd hb; replace qe := rB_ qe hb; replace qt := rB_ qt hb; replace qa := kB_ qa hb; replace qb := kB_ qb hb; replace HB := bS_ HB hb; (try clear hb); (try clear hb2); (try clear hk); (try clear hi)
    refine hK.out _ _ ⟨bc_ qb 0, bc_ qb 1, bc_ qb 2, bc_ qa 0, bc_ qa 1, bc_ qa 2⟩ (fun hHeld => ?_)
    clear hK K
    refine norm_ (a' := ?_) ?_ ?_
    rotate_left
    ·
     show Act.put _ (some 25) _ = _
     simp only [Act.put, List.setIfInBounds_toArray, List.set_cons_zero, List.set_cons_succ, i64_w, i32_w]
     rfl
    refine pure_ (i := 4) (N := some 26) (v := ?_) (a' := ?_) #[true, true, true, true, true] rfl rfl (by kernel_rfl) (fun _ _ _ h => h) (Or.inl ⟨by rfl, ?_⟩) ?_ ?_
    rotate_left
    ·
     intro w'
     go_simp
     with_reducible rfl
    rotate_left
    ·
     simp only [Act.put, List.setIfInBounds_toArray, List.set_cons_zero, List.set_cons_succ, i64_w, i32_w]
     rfl
    refine done_ (by kernel_rfl) ?_
    try go_wp2
    go_ret
    exact ⟨by first | rfl | (simp [errW_none, errW_some] <;> rfl) | (simp [*, errW_none, errW_some] <;> rfl), bb_ HB⟩
  ·
   rw [if_neg c11] at H
   have qL : (ql.toList == qo.toList) = false := beq_eq_false_iff_ne.mpr c11
   have qM : (ql.toList != qo.toList) = true := bne_iff_ne.mpr c11
   obtain rfl := Option.some.inj H
   go_enter Tryd.func3, Tryd.ntmps3
   go_wp2_with (first | ((with_reducible refine gate_dst (N := 1) rfl ?_); refine box_event ?hg (N := 1) ?hd (cs := #[.slice A0_0 l0_0.length c0_0, .int .i64 a0_1, .bool a0_2]) (t := 24) ?hr ?_; (case hd => rfl); (case hg => rfl); (case hr => first | (go_simp; done) | (go_simp; rfl)); intro qc hg jp hbox hb; have qa := Aside0.mk (hbox); have qH := Aside0.mk ((by rw [hg]; exact (bz_ HB) : w.heap.size ≤ qc)); have qI := Aside0.mk ((by rw [hg]; exact (bz_ HB) : w.heap.size ≤ qc)); replace HB := bS_ HB hb; clear hb hbox hg; have zH : jp.cell? ⟨qc, 0, none⟩ = some (.slice A0_0 l0_0.length c0_0) := bc_ qa 0; have zI : jp.cell? ⟨qc, 1, none⟩ = some (.int .i64 a0_1) := bc_ qa 1; have zJ : jp.cell? ⟨qc, 2, none⟩ = some (.bool a0_2) := bc_ qa 2; have zK := blk_frozen qa.out 0; have zL := blk_frozen qa.out 1; have zM := blk_frozen qa.out 2) | ((with_reducible refine gate_callee (f := 11) rfl ?_); refine goesL_ (some 9) rfl rfl Tryd.func11 (by kernel_rfl) rfl #[.agg #[.slice A0_0 l0_0.length c0_0, .int .i64 a0_1, .bool a0_2], .int .i64 1048576] rfl (by (try simp only [List.map_toArray, List.map_cons, List.map_nil]); first | done | rfl | (simp only [List.length_drop, List.length_take]; rfl)) ?_; (with_reducible refine (laws_szAtom.calls _ _ l0_0 a0_1 a0_2 1048576 qv _ ?side1 ?side2 A2.out).mono ?_); (case side1 => exact cb_ qp HB); (case side2 => exact qq.out); rintro e jq ⟨rfl, hb⟩; refine ⟨_, rfl, ?_⟩; replace qa := kB_ qa hb; replace HB := bS_ HB hb; (try clear hb); (try clear hb2); (try clear hk); (try clear hi); have zN : jq.cell? ⟨qc, 0, none⟩ = some (.slice A0_0 l0_0.length c0_0) := bc_ qa 0; have zO : jq.cell? ⟨qc, 1, none⟩ = some (.int .i64 a0_1) := bc_ qa 1; have zP : jq.cell? ⟨qc, 2, none⟩ = some (.bool a0_2) := bc_ qa 2; have zQ := blk_frozen qa.out 0; have zR := blk_frozen qa.out 1; have zS := blk_frozen qa.out 2) | ((with_reducible refine gate_callee (f := 13) rfl ?_); refine goesL_ (some 13) rfl rfl Tryd.func13 (by kernel_rfl) rfl #[.agg #[.slice A0_0 l0_0.length c0_0, .int .i64 a0_1, .bool a0_2]] rfl (by (try simp only [List.map_toArray, List.map_cons, List.map_nil]); first | done | rfl | (simp only [List.length_drop, List.length_take]; rfl)) ?_; (with_reducible refine (laws_toAtom.calls k _ _ l0_0 a0_1 a0_2 qu qw qx _ ?side1 ?side2 A7.out).mono ?_); (case side1 => exact cb_ qp HB); (case side2 => exact qq.out); rintro e jL ⟨qN, rfl, ho0, hb⟩; refine ⟨_, rfl, ?_⟩; have qd := Aside0.mk (Kd.R_lower ho0 (bz_ HB)); replace qa := kB_ qa hb; replace HB := bS_ HB hb; (try clear hb); (try clear hb2); (try clear hk); (try clear hi); (try clear ho0); obtain ⟨qT, qU, eo56⟩ := Kd.R_slice qd.out; subst eo56) | ((with_reducible refine gate_callee (f := 12) rfl ?_); refine goesL_ (some 14) rfl rfl Tryd.func12 (by kernel_rfl) rfl #[.agg #[.slice qT qu.length qU, .int .i64 qw, .bool qx]] rfl (by (try simp only [List.map_toArray, List.map_cons, List.map_nil]); first | done | rfl | (simp only [List.length_drop, List.length_take]; rfl)) ?_; (with_reducible refine (spec_FormatAtom.calls k _ _ qu qw qx qo _ ?side1 ?side2 A8.out).mono ?_); (case side1 => exact cr_ qd); (case side2 => exact (Kd.R_reads' qd.out).2.1); rintro e jr ⟨rfl, hb⟩; refine ⟨_, rfl, ?_⟩; replace qd := rB_ qd hb; replace qa := kB_ qa hb; replace HB := bS_ HB hb; (try clear hb); (try clear hb2); (try clear hk); (try clear hi); have zT : jr.cell? ⟨qc, 0, none⟩ = some (.slice A0_0 l0_0.length c0_0) := bc_ qa 0; have zU : jr.cell? ⟨qc, 1, none⟩ = some (.int .i64 a0_1) := bc_ qa 1; have zV : jr.cell? ⟨qc, 2, none⟩ = some (.bool a0_2) := bc_ qa 2; have zW := blk_frozen qa.out 0; have zX := blk_frozen qa.out 1; have zY := blk_frozen qa.out 2) | ((with_reducible refine gate_callee (f := 13) rfl ?_); refine goesL_ (some 16) rfl rfl Tryd.func13 (by kernel_rfl) rfl #[.agg #[.slice A0_0 l0_0.length c0_0, .int .i64 a0_1, .bool a0_2]] rfl (by (try simp only [List.map_toArray, List.map_cons, List.map_nil]); first | done | rfl | (simp only [List.length_drop, List.length_take]; rfl)) ?_; (with_reducible refine (laws_toAtom.calls k _ _ l0_0 a0_1 a0_2 qi qj qk _ ?side1 ?side2 A9.out).mono ?_); (case side1 => exact cb_ qp HB); (case side2 => exact qq.out); rintro e jM ⟨qQ, rfl, ho0, hb⟩; refine ⟨_, rfl, ?_⟩; have qe := Aside0.mk (Kd.R_lower (Kd.R_new' ho0 (Kd.R_lt (rm_ qd))) (bz_ HB)); replace qd := Aside0.mk (Kd.R_elder' (rm_ qd) (Kd.R_base ho0) hb); replace qa := kB_ qa hb; replace HB := bS_ HB hb; (try clear hb); (try clear hb2); (try clear hk); (try clear hi); (try clear ho0)) | ((with_reducible refine gate_dst (N := 5) rfl ?_); refine box_event ?hg (N := 5) ?hd (cs := #[.slice none 0 0, .int .i64 0, .bool false]) (t := 27) ?hr ?_; (case hd => rfl); (case hg => rfl); (case hr => first | (go_simp; done) | (go_simp; rfl)); intro qg hg js hbox hb; replace qd := rB_ qd hb; replace qe := rB_ qe hb; have qb := Aside0.mk (hbox); have qJ := Aside0.mk ((by rw [hg]; exact (bz_ HB) : w.heap.size ≤ qg)); have qK := Aside0.mk ((by rw [hg]; exact (bz_ HB) : w.heap.size ≤ qg)); replace HB := bS_ HB hb; have qm := Aside0.mk ((nl_ qa hg : qc ≠ qg)); have qn := Aside0.mk ((ng_ qa hg : qg ≠ qc)); replace qa := kB_ qa hb; clear hb hbox hg; obtain ⟨qG, qC, eo61⟩ := Kd.R_slice qe.out; subst eo61; have jx := qn.out; have jy := qm.out; have zZ : js.cell? ⟨qg, 0, none⟩ = some (.slice none 0 0) := bc_ qb 0; have z0 : js.cell? ⟨qg, 1, none⟩ = some (.int .i64 0) := bc_ qb 1; have z1 : js.cell? ⟨qg, 2, none⟩ = some (.bool false) := bc_ qb 2; have z2 := blk_frozen qb.out 0; have z3 := blk_frozen qb.out 1; have z4 := blk_frozen qb.out 2) | ((with_reducible refine gate_callee (f := 14) rfl ?_); refine goesL_ (some 18) rfl rfl Tryd.func14 (by kernel_rfl) rfl #[.agg #[.slice qG qi.length qC, .int .i64 qj, .bool qk]] rfl (by (try simp only [List.map_toArray, List.map_cons, List.map_nil]); first | done | rfl | (simp only [List.length_drop, List.length_take]; rfl)) ?_; (with_reducible refine (impl_FormatAtom.calls (hL := laid_ HL_ HB) k _ _ qi qj qk ql _ ?side1 ?side2 A10.out).mono ?_); (case side1 => refine (Kd.R_reads' (e := 3) (base := w.heap.size) (ok := fun k_ => (True ∧ some k_ ≠ (.slice qT qu.length qU : Value).ownBlock)) (n := qi.length) (c := qC) ?_).2.2; exact (by (with_reducible repeat (first | apply Kd.R_alloc | apply Kd.R_drewN | apply Kd.R_drew)); exact (rt3_ qe qb (by decide) 0 1 2 (.slice qG qi.length qC) (.int .i64 qj) (.bool qk)))); (case side2 => exact (Kd.R_reads' qe.out).2.1); rintro e jN ⟨rfl, hb⟩; refine ⟨_, rfl, ?_⟩; replace qd := Aside0.mk (Kd.R_below (by (with_reducible repeat (first | apply Kd.R_alloc | apply Kd.R_drewN | apply Kd.R_drew)); exact (rt3_ qd qb (by decide) 0 1 2 (.slice qG qi.length qC) (.int .i64 qj) (.bool qk))) hb); replace qe := Aside0.mk (Kd.R_below (by (with_reducible repeat (first | apply Kd.R_alloc | apply Kd.R_drewN | apply Kd.R_drew)); exact (rt3_ qe qb (by decide) 0 1 2 (.slice qG qi.length qC) (.int .i64 qj) (.bool qk))) hb); replace qa := Aside0.mk (blk_below (g := qc) (o := .cells #[.slice A0_0 l0_0.length c0_0, .int .i64 a0_1, .bool a0_2] 24 (0, 0)) (kf_ qa) hb); replace qb := Aside0.mk (blk_below (g := qg) (o := .cells #[.slice qG qi.length qC, .int .i64 qj, .bool qk] 27 (0, 0)) (by (with_reducible repeat (first | refine blk_drewN ?_ _ | refine blk_drew ?_ | refine blk_alloc ?_ _)); refine blk_put (cs := #[.slice qG qi.length qC, .int .i64 qj, .bool false]) ?_ 2 _ rfl; (with_reducible repeat (first | refine blk_drewN ?_ _ | refine blk_drew ?_ | refine blk_alloc ?_ _)); refine blk_put (cs := #[.slice qG qi.length qC, .int .i64 0, .bool false]) ?_ 1 _ rfl; (with_reducible repeat (first | refine blk_drewN ?_ _ | refine blk_drew ?_ | refine blk_alloc ?_ _)); refine blk_put (cs := #[.slice none 0 0, .int .i64 0, .bool false]) ?_ 0 _ rfl; (with_reducible repeat (first | refine blk_drewN ?_ _ | refine blk_drew ?_ | refine blk_alloc ?_ _)); exact qb.out) hb); replace HB := bS_ HB hb; (try clear hb); (try clear hb2); (try clear hk); (try clear hi)))
   go_ret
   exact ⟨by first | rfl | (simp [errW_none, errW_some] <;> rfl) | (simp [*, errW_none, errW_some] <;> rfl), bb_ HB⟩

end Go.Proofs.YtohoibekddhneaaDoor.PFnExactFormatAtom
