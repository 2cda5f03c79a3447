/- The functions that the law FnExactParseAtom reaches, each as a Lean function with the same answers, and the proof that the call comes to exactly these: turned by program out of the printed texts. No condition but those that each theorem names. -/
import Derived.Test.YtohoibekddhneaaDoorQFnExactParseAtomx0
namespace Go.Proofs.YtohoibekddhneaaDoor.PFnExactParseAtom
open Go.RowKit Go.Proofs.YtohoibekddhneaaDoorW.PrintWords Go.Proofs.YtohoibekddhneaaDoorW.PrintLast Go.Proofs.YtohoibekddhneaaDoorW.PrintMore
attribute [local go_sem] max2_int min2_int max_two min_two max_three min_three max_four min_four   -- for this text's walks alone
set_option linter.unusedVariables false
set_option linter.unusedSimpArgs false

/-! ### laws_eqIntS: function 58 -/
def laws_eqIntS.l0 : Nat → List Int → List Int → Int → Option (Bool)
 | 0, _, _, _ => none
 | k + 1, x0, x1, x5 => if x5 < (x0.length : Int) then (if 0 ≤ x5 then (if x5 < (x1.length : Int) then (if (rd x0 x5) = (rd x1 x5) then (laws_eqIntS.l0 k x0 x1 (wrap64 (x5 + 1))) else (some false)) else (none)) else (none)) else (some true)
def laws_eqIntS.f (k : Nat) (l0 : List Int) (l1 : List Int) : Option (Bool) := if (l0.length : Int) = (l1.length : Int) then (laws_eqIntS.l0 k l0 l1 0) else (some false)
theorem laws_eqIntS.mono_l : ∀ k, (∀ y0 y1 y2, LeO (laws_eqIntS.l0 k y0 y1 y2) (laws_eqIntS.l0 (k + 1) y0 y1 y2))
 | 0 => fun _ _ _ r h => by simp [laws_eqIntS.l0] at h
 | k + 1 => by
  have ih0 := laws_eqIntS.mono_l k
  ·
   intro y0 y1 y2
   unfold laws_eqIntS.l0
   repeat' first
   | (with_reducible exact ih0 _ _ _)
   | (with_reducible exact LeO.refl _)
   | (with_reducible exact LeO.none _)
   | (with_reducible refine LeO.ite ?_ ?_)
   | (with_reducible refine LeO.bind ?_ (fun _ => ?_))
   | exact ih0 _ _ _
   | exact LeO.none _
   | refine LeO.ite ?_ ?_
   | refine LeO.bind ?_ (fun _ => ?_)
theorem laws_eqIntS.mono : ∀ a0 a1 k, LeO (laws_eqIntS.f k a0 a1) (laws_eqIntS.f (k + 1) a0 a1) := by
 intro a0 a1 k
 have ih0 := laws_eqIntS.mono_l k
 unfold laws_eqIntS.f
 repeat' first
   | (with_reducible exact ih0 _ _ _)
   | (with_reducible exact LeO.refl _)
   | (with_reducible exact LeO.none _)
   | (with_reducible refine LeO.ite ?_ ?_)
   | (with_reducible refine LeO.bind ?_ (fun _ => ?_))
   | exact ih0 _ _ _
   | exact LeO.none _
   | refine LeO.ite ?_ ?_
   | refine LeO.bind ?_ (fun _ => ?_)
set_option maxHeartbeats 8000000 in
set_option maxRecDepth 100000 in
theorem laws_eqIntS.calls (k : Nat) (A0 : Option Addr) (c0 : Nat) (l0 : List Int) (A1 : Option Addr) (c1 : Nat) (l1 : List Int) (r : Bool) (w : World) (hr0 : Kd.C (Kd.int .i64) w A0 l0.length l0) (hc0 : l0.length ≤ c0) (hr1 : Kd.C (Kd.int .i64) w A1 l1.length l1) (hc1 : l1.length ≤ c1) (h : laws_eqIntS.f k l0 l1 = some r) :
  Calls Tryd.prog 58 #[.slice A0 l0.length c0, .slice A1 l1.length c1] w fun e w' => e = .returned (.bool r) ∧ Drawn0 w w' := by
 have HR0 := Aside0.mk hr0
 have HC0 := Aside0.mk hc0
 clear hr0 hc0
 have HR1 := Aside0.mk hr1
 have HC1 := Aside0.mk hc1
 clear hr1 hc1
 have H : (if (l0.length : Int) = (l1.length : Int) then (laws_eqIntS.l0 k l0 l1 0) else (some false)) = some r := h
 clear h
 by_cases c3 : (l0.length : Int) = (l1.length : Int)
 ·
  rw [if_pos c3] at H
  have qd : ((l0.length : Int) == (l1.length : Int)) = true := beq_iff_eq.mpr c3
  have qe : ((l0.length : Int) != (l1.length : Int)) = false := bne_eq_false_iff_eq.mpr c3
  have qf : (l0.length == l1.length) = true := by first | simpa using c3 | (simp at c3 ⊢; omega)
  clear c3
  have H' := Aside0.mk H
  clear H
  go_enter Tryd.func58, Tryd.ntmps58
  go_wp2
  repeat (go_quiet (fail); try go_wp2)
  go_loopg [5] k (fun kq v5 w' => ∃ (qa : Int), v5 = .int .i64 qa ∧ Aside0 (laws_eqIntS.l0 kq l0 l1 qa = some r) ∧ Aside0 (kq ≤ k) ∧ Drawn0 w w')
  case atStart => exact ⟨(0), (by first | rfl | (simp; done) | (simp [*]; done)), H', ⟨Nat.le_refl _⟩, by repeat (first | exact Drawn0.refl _ | apply Drawn0.step)⟩
  case round =>
   clear H'
   try clear c1
   try clear p2
   try clear c3
   try clear qd
   try clear qe
   try clear qf
   obtain ⟨qa, rfl, HA, HK1, ⟨m1, rfl⟩⟩ := hrel
   cases gk with
   | zero => exact absurd HA.out (by simp [laws_eqIntS.l0])
   | succ k1 =>
    have H := HA.out
    clear HA
    simp only [laws_eqIntS.l0] at H
    by_cases c4 : qa < (l0.length : Int)
    ·
     rw [if_pos c4] at H
     have qi : decide (qa < (l0.length : Int)) = true := decide_eq_true c4
     clear c4
     by_cases c5 : 0 ≤ qa
     ·
      rw [if_pos c5] at H
      have ql : decide (0 ≤ qa) = true := decide_eq_true c5
      clear c5
      by_cases c6 : qa < (l1.length : Int)
      ·
       rw [if_pos c6] at H
       have qm : decide (qa < (l1.length : Int)) = true := decide_eq_true c6
       clear c6
       by_cases c7 : (rd l0 qa) = (rd l1 qa)
       ·
        rw [if_pos c7] at H
        have qj : ((rd l0 qa) == (rd l1 qa)) = true := beq_iff_eq.mpr c7
        have qk : ((rd l0 qa) != (rd l1 qa)) = false := bne_eq_false_iff_eq.mpr c7
        clear c7
        have H' := Aside0.mk H
        clear H
        have p101 : 0 ≤ (qa : Int) := of_decide_eq_true (by first | (with_reducible assumption) | assumption)
        have q101 : qa < (l0.length : Int) := of_decide_eq_true (by first | (with_reducible assumption) | assumption)
        obtain ⟨qg, e101, qb⟩ := Kd.at_int HR0.out qa p101 q101
        cases e101
        replace p101 := eq_true p101
        replace q101 := eq_true q101
        have p102 : 0 ≤ (qa : Int) := of_decide_eq_true (by first | (with_reducible assumption) | assumption)
        have q102 : qa < (l1.length : Int) := of_decide_eq_true (by first | (with_reducible assumption) | assumption)
        obtain ⟨qh, e102, qc⟩ := Kd.at_int HR1.out qa p102 q102
        cases e102
        replace p102 := eq_true p102
        replace q102 := eq_true q102
        go_wp2
        repeat (go_quiet (fail); try go_wp2)
        go_roundg k1
        case measure => have := HK1.out; omega
        case rel => exact ⟨(wrap64 (qa + 1)), (by first | rfl | (simp; done) | (simp [*]; done)), H', ⟨by have := HK1.out; omega⟩, by repeat (first | exact Drawn0.refl _ | apply Drawn0.step)⟩
       ·
        rw [if_neg c7] at H
        have qj : ((rd l0 qa) == (rd l1 qa)) = false := beq_eq_false_iff_ne.mpr c7
        have qk : ((rd l0 qa) != (rd l1 qa)) = true := bne_iff_ne.mpr c7
        obtain rfl := Option.some.inj H
        have p101 : 0 ≤ (qa : Int) := of_decide_eq_true (by first | (with_reducible assumption) | assumption)
        have q101 : qa < (l0.length : Int) := of_decide_eq_true (by first | (with_reducible assumption) | assumption)
        obtain ⟨qg, e101, qb⟩ := Kd.at_int HR0.out qa p101 q101
        cases e101
        replace p101 := eq_true p101
        replace q101 := eq_true q101
        have p102 : 0 ≤ (qa : Int) := of_decide_eq_true (by first | (with_reducible assumption) | assumption)
        have q102 : qa < (l1.length : Int) := of_decide_eq_true (by first | (with_reducible assumption) | assumption)
        obtain ⟨qh, e102, qc⟩ := Kd.at_int HR1.out qa p102 q102
        cases e102
        replace p102 := eq_true p102
        replace q102 := eq_true q102
        go_wp2
        repeat (go_quiet (fail); try go_wp2)
        go_ret
        exact ⟨by first | rfl | (simp; done) | (simp [*]; done), by repeat (first | exact Drawn0.refl _ | apply Drawn0.step)⟩
      ·
       rw [if_neg c6] at H
       exact absurd H (by simp)
     ·
      rw [if_neg c5] at H
      exact absurd H (by simp)
    ·
     rw [if_neg c4] at H
     have qi : decide (qa < (l0.length : Int)) = false := decide_eq_false c4
     clear c4
     obtain rfl := Option.some.inj H
     go_wp2
     repeat (go_quiet (fail); try go_wp2)
     go_ret
     exact ⟨by first | rfl | (simp; done) | (simp [*]; done), by repeat (first | exact Drawn0.refl _ | apply Drawn0.step)⟩
 ·
  rw [if_neg c3] at H
  have qd : ((l0.length : Int) == (l1.length : Int)) = false := beq_eq_false_iff_ne.mpr c3
  have qe : ((l0.length : Int) != (l1.length : Int)) = true := bne_iff_ne.mpr c3
  have qf : (l0.length == l1.length) = false := by first | simpa using c3 | (simp at c3 ⊢; omega)
  obtain rfl := Option.some.inj H
  go_enter Tryd.func58, Tryd.ntmps58
  go_wp2
  repeat (go_quiet (fail); try go_wp2)
  go_ret
  exact ⟨by first | rfl | (simp; done) | (simp [*]; done), by repeat (first | exact Drawn0.refl _ | apply Drawn0.step)⟩

/-! ### laws_eqAtom: function 15 -/
def laws_eqAtom.f (k : Nat) (l0_0 : List Int) (a0_1 : Int) (a0_2 : Bool) (l1_0 : List Int) (a1_1 : Int) (a1_2 : Bool) : Option (Bool) := (laws_eqIntS.f k l0_0 l1_0).bind fun qk => (if qk = true then (if a0_1 = a1_1 then (if (a0_2 != a1_2) = true then (some false) else (some true)) else (some false)) else (some false))
theorem laws_eqAtom.mono : ∀ a0 a1 a2 a3 a4 a5 k, LeO (laws_eqAtom.f k a0 a1 a2 a3 a4 a5) (laws_eqAtom.f (k + 1) a0 a1 a2 a3 a4 a5) := by
 intro a0 a1 a2 a3 a4 a5 k
 unfold laws_eqAtom.f
 repeat' first
   | (with_reducible exact laws_eqIntS.mono _ _ _)
   | (with_reducible exact LeO.refl _)
   | (with_reducible exact LeO.none _)
   | (with_reducible refine LeO.ite ?_ ?_)
   | (with_reducible refine LeO.bind ?_ (fun _ => ?_))
   | exact laws_eqIntS.mono _ _ _
   | exact LeO.none _
   | refine LeO.ite ?_ ?_
   | refine LeO.bind ?_ (fun _ => ?_)
set_option maxHeartbeats 8000000 in
set_option maxRecDepth 100000 in
theorem laws_eqAtom.calls (k : Nat) (A0_0 : Option Addr) (c0_0 : Nat) (l0_0 : List Int) (a0_1 : Int) (a0_2 : Bool) (A1_0 : Option Addr) (c1_0 : Nat) (l1_0 : List Int) (a1_1 : Int) (a1_2 : Bool) (r : Bool) (w : World) (hr0_0 : Kd.C (Kd.int .i64) w A0_0 l0_0.length l0_0) (hc0_0 : l0_0.length ≤ c0_0) (hr1_0 : Kd.C (Kd.int .i64) w A1_0 l1_0.length l1_0) (hc1_0 : l1_0.length ≤ c1_0) (h : laws_eqAtom.f k l0_0 a0_1 a0_2 l1_0 a1_1 a1_2 = some r) :
  Calls Tryd.prog 15 #[.agg #[.slice A0_0 l0_0.length c0_0, .int .i64 a0_1, .bool a0_2], .agg #[.slice A1_0 l1_0.length c1_0, .int .i64 a1_1, .bool a1_2]] w fun e w' => e = .returned (.bool r) ∧ Below w.heap.size w w' := by
 have hu27 := Tryd.underlying27
 have qg := Aside0.mk hr0_0
 have qh := Aside0.mk hc0_0
 clear hr0_0 hc0_0
 have qi := Aside0.mk hr1_0
 have qj := Aside0.mk hc1_0
 clear hr1_0 hc1_0
 have HB := Aside0.mk (Below.refl w.heap.size w)
 have H : ((laws_eqIntS.f k l0_0 l1_0).bind fun qk => (if qk = true then (if a0_1 = a1_1 then (if (a0_2 != a1_2) = true then (some false) else (some true)) else (some false)) else (some false))) = some r := h
 clear h
 replace H := Option.bind_eq_some_iff.mp H
 obtain ⟨qk, A30, H⟩ := H
 replace H : (if qk = true then (if a0_1 = a1_1 then (if (a0_2 != a1_2) = true then (some false) else (some true)) else (some false)) else (some false)) = some r := H
 have A3 := Aside0.mk A30
 clear A30
 by_cases c4 : qk = true
 ·
  subst c4
  have H1 : (if a0_1 = a1_1 then (if (a0_2 != a1_2) = true then (some false) else (some true)) else (some false)) = some r := by rw [if_pos rfl] at H; exact H
  clear H
  have H := H1
  clear H1
  by_cases c5 : a0_1 = a1_1
  ·
   rw [if_pos c5] at H
   have ze : (a0_1 == a1_1) = true := beq_iff_eq.mpr c5
   have zf : (a0_1 != a1_1) = false := bne_eq_false_iff_eq.mpr c5
   clear c5
   by_cases c6 : (a0_2 != a1_2) = true
   ·
    rw [if_pos c6] at H
    have zg : (a0_2 != a1_2) = true := c6
    (try (have zh : decide (a0_2 = a1_2) = false := by simpa using c6))
    (try (have zi : (a0_2 == a1_2) = false := by simpa using c6))
    (try (have zp : ¬ (a0_2 = a1_2) := by simpa using c6))
    clear c6
    obtain rfl := Option.some.inj H
    go_enter Tryd.func15, Tryd.ntmps15
    go_wp2_with (first | ((with_reducible refine gate_dst (N := 2) rfl ?_); refine box_event ?hg (N := 2) ?hd (cs := #[.slice A0_0 l0_0.length c0_0, .int .i64 a0_1, .bool a0_2]) (t := 27) ?hr ?_; (case hd => rfl); (case hg => rfl); (case hr => first | (go_simp; done) | (go_simp; rfl)); intro qb hg w7 hbox hb; have qa := Aside0.mk (hbox); have ql := Aside0.mk ((by rw [hg]; exact (bz_ HB) : w.heap.size ≤ qb)); have qm := Aside0.mk ((by rw [hg]; exact (bz_ HB) : w.heap.size ≤ qb)); replace HB := bS_ HB hb; clear hb hbox hg) | ((with_reducible refine gate_dst (N := 3) rfl ?_); refine box_event ?hg (N := 3) ?hd (cs := #[.slice A1_0 l1_0.length c1_0, .int .i64 a1_1, .bool a1_2]) (t := 27) ?hr ?_; (case hd => rfl); (case hg => rfl); (case hr => first | (go_simp; done) | (go_simp; rfl)); intro qc hg w8 hbox hb; have qd := Aside0.mk (hbox); have qn := Aside0.mk ((by rw [hg]; exact (bz_ HB) : w.heap.size ≤ qc)); have qo := Aside0.mk ((by rw [hg]; exact (bz_ HB) : w.heap.size ≤ qc)); replace HB := bS_ HB hb; have qe := Aside0.mk ((nl_ qa hg : qb ≠ qc)); have qf := Aside0.mk ((ng_ qa hg : qc ≠ qb)); replace qa := kB_ qa hb; clear hb hbox hg; have zq := qe.out; have zr := qf.out; have qs : w8.cell? ⟨qb, 0, none⟩ = some (.slice A0_0 l0_0.length c0_0) := bc_ qa 0; have qt : w8.cell? ⟨qb, 1, none⟩ = some (.int .i64 a0_1) := bc_ qa 1; have qu : w8.cell? ⟨qb, 2, none⟩ = some (.bool a0_2) := bc_ qa 2; have qv := blk_frozen qa.out 0; have qw := blk_frozen qa.out 1; have qx := blk_frozen qa.out 2; have qy : w8.cell? ⟨qc, 0, none⟩ = some (.slice A1_0 l1_0.length c1_0) := bc_ qd 0; have qz : w8.cell? ⟨qc, 1, none⟩ = some (.int .i64 a1_1) := bc_ qd 1; have qA : w8.cell? ⟨qc, 2, none⟩ = some (.bool a1_2) := bc_ qd 2; have qB := blk_frozen qd.out 0; have qC := blk_frozen qd.out 1; have qD := blk_frozen qd.out 2) | ((with_reducible refine gate_callee (f := 58) rfl ?_); refine goesL_ (some 9) rfl rfl Tryd.func58 (by kernel_rfl) rfl #[.slice A0_0 l0_0.length c0_0, .slice A1_0 l1_0.length c1_0] rfl (by (try simp only [List.map_toArray, List.map_cons, List.map_nil]); first | done | rfl | (simp only [List.length_drop, List.length_take]; rfl)) ?_; (with_reducible refine (laws_eqIntS.calls k _ _ l0_0 _ _ l1_0 true _ ?side1 ?side2 ?side3 ?side4 A3.out).mono ?_); (case side1 => exact cb_ qg HB); (case side2 => exact qh.out); (case side3 => exact cb_ qi HB); (case side4 => exact qj.out); rintro e w' ⟨rfl, ⟨nd, rfl⟩⟩; refine ⟨_, rfl, ?_⟩))
    go_ret
    exact ⟨by first | rfl | (simp [errW_none, errW_some] <;> rfl) | (simp [*, errW_none, errW_some] <;> rfl), bb_ HB⟩
   ·
    rw [if_neg c6] at H
    have zg : (a0_2 != a1_2) = false := by simpa using c6
    (try (have zh : decide (a0_2 = a1_2) = true := by simpa using c6))
    (try (have zi : (a0_2 == a1_2) = true := by simpa using c6))
    clear c6
    obtain rfl := Option.some.inj H
    go_enter Tryd.func15, Tryd.ntmps15
    go_wp2_with (first | ((with_reducible refine gate_dst (N := 2) rfl ?_); refine box_event ?hg (N := 2) ?hd (cs := #[.slice A0_0 l0_0.length c0_0, .int .i64 a0_1, .bool a0_2]) (t := 27) ?hr ?_; (case hd => rfl); (case hg => rfl); (case hr => first | (go_simp; done) | (go_simp; rfl)); intro qb hg zs hbox hb; have qa := Aside0.mk (hbox); have ql := Aside0.mk ((by rw [hg]; exact (bz_ HB) : w.heap.size ≤ qb)); have qm := Aside0.mk ((by rw [hg]; exact (bz_ HB) : w.heap.size ≤ qb)); replace HB := bS_ HB hb; clear hb hbox hg) | ((with_reducible refine gate_dst (N := 3) rfl ?_); refine box_event ?hg (N := 3) ?hd (cs := #[.slice A1_0 l1_0.length c1_0, .int .i64 a1_1, .bool a1_2]) (t := 27) ?hr ?_; (case hd => rfl); (case hg => rfl); (case hr => first | (go_simp; done) | (go_simp; rfl)); intro qc hg qp hbox hb; have qd := Aside0.mk (hbox); have qn := Aside0.mk ((by rw [hg]; exact (bz_ HB) : w.heap.size ≤ qc)); have qo := Aside0.mk ((by rw [hg]; exact (bz_ HB) : w.heap.size ≤ qc)); replace HB := bS_ HB hb; have qe := Aside0.mk ((nl_ qa hg : qb ≠ qc)); have qf := Aside0.mk ((ng_ qa hg : qc ≠ qb)); replace qa := kB_ qa hb; clear hb hbox hg; have zj := qe.out; have zk := qf.out; have qE : qp.cell? ⟨qb, 0, none⟩ = some (.slice A0_0 l0_0.length c0_0) := bc_ qa 0; have qF : qp.cell? ⟨qb, 1, none⟩ = some (.int .i64 a0_1) := bc_ qa 1; have qG : qp.cell? ⟨qb, 2, none⟩ = some (.bool a0_2) := bc_ qa 2; have qH := blk_frozen qa.out 0; have qI := blk_frozen qa.out 1; have qJ := blk_frozen qa.out 2; have qK : qp.cell? ⟨qc, 0, none⟩ = some (.slice A1_0 l1_0.length c1_0) := bc_ qd 0; have qL : qp.cell? ⟨qc, 1, none⟩ = some (.int .i64 a1_1) := bc_ qd 1; have qM : qp.cell? ⟨qc, 2, none⟩ = some (.bool a1_2) := bc_ qd 2; have qN := blk_frozen qd.out 0; have qO := blk_frozen qd.out 1; have qP := blk_frozen qd.out 2) | ((with_reducible refine gate_callee (f := 58) rfl ?_); refine goesL_ (some 9) rfl rfl Tryd.func58 (by kernel_rfl) rfl #[.slice A0_0 l0_0.length c0_0, .slice A1_0 l1_0.length c1_0] rfl (by (try simp only [List.map_toArray, List.map_cons, List.map_nil]); first | done | rfl | (simp only [List.length_drop, List.length_take]; rfl)) ?_; (with_reducible refine (laws_eqIntS.calls k _ _ l0_0 _ _ l1_0 true _ ?side1 ?side2 ?side3 ?side4 A3.out).mono ?_); (case side1 => exact cb_ qg HB); (case side2 => exact qh.out); (case side3 => exact cb_ qi HB); (case side4 => exact qj.out); rintro e w' ⟨rfl, ⟨nd, rfl⟩⟩; refine ⟨_, rfl, ?_⟩))
    go_ret
    exact ⟨by first | rfl | (simp [errW_none, errW_some] <;> rfl) | (simp [*, errW_none, errW_some] <;> rfl), bb_ HB⟩
  ·
   rw [if_neg c5] at H
   have ze : (a0_1 == a1_1) = false := beq_eq_false_iff_ne.mpr c5
   have zf : (a0_1 != a1_1) = true := bne_iff_ne.mpr c5
   obtain rfl := Option.some.inj H
   go_enter Tryd.func15, Tryd.ntmps15
   go_wp2_with (first | ((with_reducible refine gate_dst (N := 2) rfl ?_); refine box_event ?hg (N := 2) ?hd (cs := #[.slice A0_0 l0_0.length c0_0, .int .i64 a0_1, .bool a0_2]) (t := 27) ?hr ?_; (case hd => rfl); (case hg => rfl); (case hr => first | (go_simp; done) | (go_simp; rfl)); intro qb hg zt hbox hb; have qa := Aside0.mk (hbox); have ql := Aside0.mk ((by rw [hg]; exact (bz_ HB) : w.heap.size ≤ qb)); have qm := Aside0.mk ((by rw [hg]; exact (bz_ HB) : w.heap.size ≤ qb)); replace HB := bS_ HB hb; clear hb hbox hg) | ((with_reducible refine gate_dst (N := 3) rfl ?_); refine box_event ?hg (N := 3) ?hd (cs := #[.slice A1_0 l1_0.length c1_0, .int .i64 a1_1, .bool a1_2]) (t := 27) ?hr ?_; (case hd => rfl); (case hg => rfl); (case hr => first | (go_simp; done) | (go_simp; rfl)); intro qc hg qq hbox hb; have qd := Aside0.mk (hbox); have qn := Aside0.mk ((by rw [hg]; exact (bz_ HB) : w.heap.size ≤ qc)); have qo := Aside0.mk ((by rw [hg]; exact (bz_ HB) : w.heap.size ≤ qc)); replace HB := bS_ HB hb; have qe := Aside0.mk ((nl_ qa hg : qb ≠ qc)); have qf := Aside0.mk ((ng_ qa hg : qc ≠ qb)); replace qa := kB_ qa hb; clear hb hbox hg; have zl := qe.out; have zm := qf.out; have qQ : qq.cell? ⟨qb, 0, none⟩ = some (.slice A0_0 l0_0.length c0_0) := bc_ qa 0; have qR : qq.cell? ⟨qb, 1, none⟩ = some (.int .i64 a0_1) := bc_ qa 1; have qS : qq.cell? ⟨qb, 2, none⟩ = some (.bool a0_2) := bc_ qa 2; have qT := blk_frozen qa.out 0; have qU := blk_frozen qa.out 1; have qV := blk_frozen qa.out 2; have qW : qq.cell? ⟨qc, 0, none⟩ = some (.slice A1_0 l1_0.length c1_0) := bc_ qd 0; have qX : qq.cell? ⟨qc, 1, none⟩ = some (.int .i64 a1_1) := bc_ qd 1; have qY : qq.cell? ⟨qc, 2, none⟩ = some (.bool a1_2) := bc_ qd 2; have qZ := blk_frozen qd.out 0; have q0 := blk_frozen qd.out 1; have q1 := blk_frozen qd.out 2) | ((with_reducible refine gate_callee (f := 58) rfl ?_); refine goesL_ (some 9) rfl rfl Tryd.func58 (by kernel_rfl) rfl #[.slice A0_0 l0_0.length c0_0, .slice A1_0 l1_0.length c1_0] rfl (by (try simp only [List.map_toArray, List.map_cons, List.map_nil]); first | done | rfl | (simp only [List.length_drop, List.length_take]; rfl)) ?_; (with_reducible refine (laws_eqIntS.calls k _ _ l0_0 _ _ l1_0 true _ ?side1 ?side2 ?side3 ?side4 A3.out).mono ?_); (case side1 => exact cb_ qg HB); (case side2 => exact qh.out); (case side3 => exact cb_ qi HB); (case side4 => exact qj.out); rintro e w' ⟨rfl, ⟨nd, rfl⟩⟩; refine ⟨_, rfl, ?_⟩))
   go_ret
   exact ⟨by first | rfl | (simp [errW_none, errW_some] <;> rfl) | (simp [*, errW_none, errW_some] <;> rfl), bb_ HB⟩
 ·
  replace c4 := Bool.eq_false_iff.mpr c4
  subst c4
  have H1 : (some false) = some r := by rw [if_neg (show ¬ (false = true) by decide)] at H; exact H
  clear H
  have H := H1
  clear H1
  obtain rfl := Option.some.inj H
  go_enter Tryd.func15, Tryd.ntmps15
  go_wp2_with (first | ((with_reducible refine gate_dst (N := 2) rfl ?_); refine box_event ?hg (N := 2) ?hd (cs := #[.slice A0_0 l0_0.length c0_0, .int .i64 a0_1, .bool a0_2]) (t := 27) ?hr ?_; (case hd => rfl); (case hg => rfl); (case hr => first | (go_simp; done) | (go_simp; rfl)); intro qb hg zu hbox hb; have qa := Aside0.mk (hbox); have ql := Aside0.mk ((by rw [hg]; exact (bz_ HB) : w.heap.size ≤ qb)); have qm := Aside0.mk ((by rw [hg]; exact (bz_ HB) : w.heap.size ≤ qb)); replace HB := bS_ HB hb; clear hb hbox hg) | ((with_reducible refine gate_dst (N := 3) rfl ?_); refine box_event ?hg (N := 3) ?hd (cs := #[.slice A1_0 l1_0.length c1_0, .int .i64 a1_1, .bool a1_2]) (t := 27) ?hr ?_; (case hd => rfl); (case hg => rfl); (case hr => first | (go_simp; done) | (go_simp; rfl)); intro qc hg qr hbox hb; have qd := Aside0.mk (hbox); have qn := Aside0.mk ((by rw [hg]; exact (bz_ HB) : w.heap.size ≤ qc)); have qo := Aside0.mk ((by rw [hg]; exact (bz_ HB) : w.heap.size ≤ qc)); replace HB := bS_ HB hb; have qe := Aside0.mk ((nl_ qa hg : qb ≠ qc)); have qf := Aside0.mk ((ng_ qa hg : qc ≠ qb)); replace qa := kB_ qa hb; clear hb hbox hg; have zn := qe.out; have zo := qf.out; have q2 : qr.cell? ⟨qb, 0, none⟩ = some (.slice A0_0 l0_0.length c0_0) := bc_ qa 0; have q3 : qr.cell? ⟨qb, 1, none⟩ = some (.int .i64 a0_1) := bc_ qa 1; have q4 : qr.cell? ⟨qb, 2, none⟩ = some (.bool a0_2) := bc_ qa 2; have q5 := blk_frozen qa.out 0; have q6 := blk_frozen qa.out 1; have q7 := blk_frozen qa.out 2; have q8 : qr.cell? ⟨qc, 0, none⟩ = some (.slice A1_0 l1_0.length c1_0) := bc_ qd 0; have q9 : qr.cell? ⟨qc, 1, none⟩ = some (.int .i64 a1_1) := bc_ qd 1; have za : qr.cell? ⟨qc, 2, none⟩ = some (.bool a1_2) := bc_ qd 2; have zb := blk_frozen qd.out 0; have zc := blk_frozen qd.out 1; have zd := blk_frozen qd.out 2) | ((with_reducible refine gate_callee (f := 58) rfl ?_); refine goesL_ (some 9) rfl rfl Tryd.func58 (by kernel_rfl) rfl #[.slice A0_0 l0_0.length c0_0, .slice A1_0 l1_0.length c1_0] rfl (by (try simp only [List.map_toArray, List.map_cons, List.map_nil]); first | done | rfl | (simp only [List.length_drop, List.length_take]; rfl)) ?_; (with_reducible refine (laws_eqIntS.calls k _ _ l0_0 _ _ l1_0 false _ ?side1 ?side2 ?side3 ?side4 A3.out).mono ?_); (case side1 => exact cb_ qg HB); (case side2 => exact qh.out); (case side3 => exact cb_ qi HB); (case side4 => exact qj.out); rintro e w' ⟨rfl, ⟨nd, rfl⟩⟩; refine ⟨_, rfl, ?_⟩))
  go_ret
  exact ⟨by first | rfl | (simp [errW_none, errW_some] <;> rfl) | (simp [*, errW_none, errW_some] <;> rfl), bb_ HB⟩

/-! ### spec_l1In: function 80 -/
def spec_l1In.f (a0 : Int) (a1 : Int) (a2 : Int) : Option (Bool) := if a0 ≥ a1 then (some (decide (a0 ≤ a2))) else (some false)
set_option maxHeartbeats 8000000 in
set_option maxRecDepth 100000 in
theorem spec_l1In.calls (a0 : Int) (a1 : Int) (a2 : Int) (r : Bool) (w : World) (h : spec_l1In.f a0 a1 a2 = some r) :
  Calls Tryd.prog 80 #[.int .i64 a0, .int .i64 a1, .int .i64 a2] w fun e w' => e = .returned (.bool r) ∧ Drawn0 w w' := by
 have H : (if a0 ≥ a1 then (some (decide (a0 ≤ a2))) else (some false)) = some r := h
 clear h
 by_cases c4 : a0 ≥ a1
 ·
  rw [if_pos c4] at H
  have qa : decide (a1 ≤ a0) = true := decide_eq_true c4
  clear c4
  obtain rfl := Option.some.inj H
  go_enter Tryd.func80, Tryd.ntmps80
  go_wp2
  go_ret
  exact ⟨by first | rfl | (simp; done) | (simp [*]; done), by repeat (first | exact Drawn0.refl _ | apply Drawn0.step)⟩
 ·
  rw [if_neg c4] at H
  have qa : decide (a1 ≤ a0) = false := decide_eq_false c4
  clear c4
  obtain rfl := Option.some.inj H
  go_enter Tryd.func80, Tryd.ntmps80
  go_wp2
  go_ret
  exact ⟨by first | rfl | (simp; done) | (simp [*]; done), by repeat (first | exact Drawn0.refl _ | apply Drawn0.step)⟩

/-! ### spec_IsNumber: function 59 -/
def spec_IsNumber.f (a0 : Int) : Option (Bool) := (spec_l1In.f a0 (-400000000) 400000000).bind fun qa => (some qa)
set_option maxHeartbeats 8000000 in
set_option maxRecDepth 100000 in
theorem spec_IsNumber.calls (a0 : Int) (r : Bool) (w : World) (h : spec_IsNumber.f a0 = some r) :
  Calls Tryd.prog 59 #[.int .i64 a0] w fun e w' => e = .returned (.bool r) ∧ Drawn0 w w' := by
 have H : ((spec_l1In.f a0 (-400000000) 400000000).bind fun qa => (some qa)) = some r := h
 clear h
 replace H := Option.bind_eq_some_iff.mp H
 obtain ⟨qa, A20, H⟩ := H
 replace H : (some qa) = some r := H
 have A2 := Aside0.mk A20
 clear A20
 obtain rfl := Option.some.inj H
 go_enter Tryd.func59, Tryd.ntmps59
 go_wp2_with (first | ((with_reducible refine gate_callee (f := 80) rfl ?_); refine goesL_ (some 4) rfl rfl Tryd.func80 (by kernel_rfl) rfl #[.int .i64 a0, .int .i64 (-400000000), .int .i64 400000000] rfl (by (try simp only [List.map_toArray, List.map_cons, List.map_nil]); first | done | rfl | (simp only [List.length_drop, List.length_take]; rfl)) ?_; (with_reducible refine (spec_l1In.calls a0 (-400000000) 400000000 qa _ A2.out).mono ?_); rintro e w' ⟨rfl, ⟨nd, rfl⟩⟩; refine ⟨_, rfl, ?_⟩))
 go_ret
 exact ⟨by first | rfl | (simp; done) | (simp [*]; done), by repeat (first | exact Drawn0.refl _ | apply Drawn0.step)⟩

/-! ### spec_l1Abs: function 103 -/
def spec_l1Abs.f (a0 : Int) : Option (Int) := some (mx a0 (wrap64 (-a0)))
set_option maxHeartbeats 8000000 in
set_option maxRecDepth 100000 in
theorem spec_l1Abs.calls (a0 : Int) (r : Int) (w : World) (h : spec_l1Abs.f a0 = some r) :
  Calls Tryd.prog 103 #[.int .i64 a0] w fun e w' => e = .returned (.int .i64 r) ∧ Below w.heap.size w w' := by
 have HB := Aside0.mk (Below.refl w.heap.size w)
 have H : (some (mx a0 (wrap64 (-a0)))) = some r := h
 clear h
 obtain ⟨ji2, hji2⟩ : ∃ j_ : Int, (mx a0 (wrap64 (-a0))) = j_ := ⟨_, rfl⟩
 replace H : (some ji2) = some r := by first | (rw [hji2] at H; exact H) | (simp only [hji2] at H ⊢; exact H)
 have hji2_ : (if a0 < (wrap64 (-a0)) then (wrap64 (-a0)) else a0) = ji2 := hji2
 obtain rfl := Option.some.inj H
 go_enter Tryd.func103, Tryd.ntmps103
 go_wp2
 go_ret
 exact ⟨by first | rfl | (simp [errW_none, errW_some] <;> rfl) | (simp only [← hji2]; first | rfl | (simp [errW_none, errW_some] <;> rfl)) | (simp [*, errW_none, errW_some] <;> rfl), bb_ HB⟩

/-! ### spec_l2Gcd: function 87 -/
mutual
def spec_l2Gcd.l0 : Nat → List Int → Int → Int → Option (Int)
 | 0, _, _, _ => none
 | k + 1, x0, x5, x6 => if x6 < (x0.length : Int) then (if 0 ≤ x6 then ((spec_l1Abs.f (rd x0 x6)).bind fun qe => (spec_l2Gcd.l1 k x0 x5 x6 qe)) else (none)) else (some x5)
def spec_l2Gcd.l1 : Nat → List Int → Int → Int → Int → Option (Int)
 | 0, _, _, _, _ => none
 | k + 1, x0, x5, x6, x7 => if x7 = 0 then (spec_l2Gcd.l0 k x0 x5 (wrap64 (x6 + 1))) else (spec_l2Gcd.l1 k x0 x7 x6 (Int.tmod x5 x7))
end
def spec_l2Gcd.f (k : Nat) (l0 : List Int) (a1 : Int) : Option (Int) := (spec_l1Abs.f a1).bind fun qd => (spec_l2Gcd.l0 k l0 qd 0)
theorem spec_l2Gcd.mono_l : ∀ k, (∀ y0 y1 y2, LeO (spec_l2Gcd.l0 k y0 y1 y2) (spec_l2Gcd.l0 (k + 1) y0 y1 y2)) ∧ (∀ y0 y1 y2 y3, LeO (spec_l2Gcd.l1 k y0 y1 y2 y3) (spec_l2Gcd.l1 (k + 1) y0 y1 y2 y3))
 | 0 => ⟨fun _ _ _ r h => by simp [spec_l2Gcd.l0] at h, fun _ _ _ _ r h => by simp [spec_l2Gcd.l1] at h⟩
 | k + 1 => by
  obtain ⟨ih0, ih1⟩ := spec_l2Gcd.mono_l k
  refine ⟨?_, ?_⟩
  ·
   intro y0 y1 y2
   unfold spec_l2Gcd.l0
   repeat' first
   | (with_reducible exact ih0 _ _ _)
   | (with_reducible exact ih1 _ _ _ _)
   | (with_reducible exact LeO.refl _)
   | (with_reducible exact LeO.none _)
   | (with_reducible refine LeO.ite ?_ ?_)
   | (with_reducible refine LeO.bind ?_ (fun _ => ?_))
   | exact ih0 _ _ _
   | exact ih1 _ _ _ _
   | exact LeO.none _
   | refine LeO.ite ?_ ?_
   | refine LeO.bind ?_ (fun _ => ?_)
  ·
   intro y0 y1 y2 y3
   unfold spec_l2Gcd.l1
   repeat' first
   | (with_reducible exact ih0 _ _ _)
   | (with_reducible exact ih1 _ _ _ _)
   | (with_reducible exact LeO.refl _)
   | (with_reducible exact LeO.none _)
   | (with_reducible refine LeO.ite ?_ ?_)
   | (with_reducible refine LeO.bind ?_ (fun _ => ?_))
   | exact ih0 _ _ _
   | exact ih1 _ _ _ _
   | exact LeO.none _
   | refine LeO.ite ?_ ?_
   | refine LeO.bind ?_ (fun _ => ?_)
theorem spec_l2Gcd.mono : ∀ a0 a1 k, LeO (spec_l2Gcd.f k a0 a1) (spec_l2Gcd.f (k + 1) a0 a1) := by
 intro a0 a1 k
 obtain ⟨ih0, ih1⟩ := spec_l2Gcd.mono_l k
 unfold spec_l2Gcd.f
 repeat' first
   | (with_reducible exact ih0 _ _ _)
   | (with_reducible exact ih1 _ _ _ _)
   | (with_reducible exact LeO.refl _)
   | (with_reducible exact LeO.none _)
   | (with_reducible refine LeO.ite ?_ ?_)
   | (with_reducible refine LeO.bind ?_ (fun _ => ?_))
   | exact ih0 _ _ _
   | exact ih1 _ _ _ _
   | exact LeO.none _
   | refine LeO.ite ?_ ?_
   | refine LeO.bind ?_ (fun _ => ?_)
set_option maxHeartbeats 8000000 in
set_option maxRecDepth 100000 in
theorem spec_l2Gcd.calls (k : Nat) (A0 : Option Addr) (c0 : Nat) (l0 : List Int) (a1 : Int) (r : Int) (w : World) (hr0 : Kd.C (Kd.int .i64) w A0 l0.length l0) (hc0 : l0.length ≤ c0) (h : spec_l2Gcd.f k l0 a1 = some r) :
  Calls Tryd.prog 87 #[.slice A0 l0.length c0, .int .i64 a1] w fun e w' => e = .returned (.int .i64 r) ∧ Below w.heap.size w w' := by
 have HR0 := Aside0.mk hr0
 have HC0 := Aside0.mk hc0
 clear hr0 hc0
 have HB := Aside0.mk (Below.refl w.heap.size w)
 have H : ((spec_l1Abs.f a1).bind fun qd => (spec_l2Gcd.l0 k l0 qd 0)) = some r := h
 clear h
 replace H := Option.bind_eq_some_iff.mp H
 obtain ⟨qd, A30, H⟩ := H
 replace H : (spec_l2Gcd.l0 k l0 qd 0) = some r := H
 have A3 := Aside0.mk A30
 clear A30
 have H' := Aside0.mk H
 clear H
 go_enter Tryd.func87, Tryd.ntmps87
 go_wp2_with (first | (go_at_call 103; (with_reducible refine (spec_l1Abs.calls a1 qd _ A3.out).mono ?_); rintro e w4 ⟨rfl, hb⟩; replace HB := bS_ HB hb; (try clear hb); (try clear hb2); (try clear hk); (try clear hi)))
 repeat (go_quiet (first | (go_at_call 103; (with_reducible refine (spec_l1Abs.calls a1 qd _ A3.out).mono ?_); rintro e w4 ⟨rfl, hb⟩; replace HB := bS_ HB hb; (try clear hb); (try clear hb2); (try clear hk); (try clear hi))); try go_wp2_with (first | (go_at_call 103; (with_reducible refine (spec_l1Abs.calls a1 qd _ A3.out).mono ?_); rintro e w4 ⟨rfl, hb⟩; replace HB := bS_ HB hb; (try clear hb); (try clear hb2); (try clear hk); (try clear hi))))
 go_loopg [5, 6] k (fun kq v5 v6 w' => ∃ (qf : Int) (qa : Int), v5 = .int .i64 qf ∧ v6 = .int .i64 qa ∧ Aside0 (spec_l2Gcd.l0 kq l0 qf qa = some r) ∧ Aside0 (kq ≤ k) ∧ Aside0 (Below w.heap.size w w'))
 case atStart => exact ⟨(qd), (0), (by first | rfl | (simp; done) | (simp [*]; done)), (by first | rfl | (simp; done) | (simp [*]; done)), H', ⟨Nat.le_refl _⟩, ⟨bb_ HB⟩⟩
 case round =>
  clear H'
  try clear p2
  obtain ⟨qf, qa, rfl, rfl, HA, HK1, HB⟩ := hrel
  cases gk with
  | zero => exact absurd HA.out (by simp [spec_l2Gcd.l0])
  | succ k1 =>
   have H := HA.out
   clear HA
   simp only [spec_l2Gcd.l0] at H
   by_cases c5 : qa < (l0.length : Int)
   ·
    rw [if_pos c5] at H
    have qh : decide (qa < (l0.length : Int)) = true := decide_eq_true c5
    clear c5
    by_cases c6 : 0 ≤ qa
    ·
     rw [if_pos c6] at H
     have qi : decide (0 ≤ qa) = true := decide_eq_true c6
     clear c6
     replace H := Option.bind_eq_some_iff.mp H
     obtain ⟨qe, A70, H⟩ := H
     replace H : (spec_l2Gcd.l1 k1 l0 qf qa qe) = some r := H
     have A7 := Aside0.mk A70
     clear A70
     have H' := Aside0.mk H
     clear H
     have p108 : 0 ≤ (qa : Int) := of_decide_eq_true (by first | (with_reducible assumption) | assumption)
     have q108 : qa < (l0.length : Int) := of_decide_eq_true (by first | (with_reducible assumption) | assumption)
     obtain ⟨ql, e108, qb⟩ := Kd.at_int HR0.out qa p108 q108
     cases e108
     replace qb := (HB.out.cell (World.block_lt_of_cell? w _ qb)).trans qb
     replace p108 := eq_true p108
     replace q108 := eq_true q108
     go_wp2_with (first | (go_at_call 103; (with_reducible refine (spec_l1Abs.calls (rd l0 qa) qe _ A7.out).mono ?_); rintro e w8 ⟨rfl, hb⟩; replace HB := bS_ HB hb; (try clear hb); (try clear hb2); (try clear hk); (try clear hi)))
     repeat (go_quiet (first | (go_at_call 103; (with_reducible refine (spec_l1Abs.calls (rd l0 qa) qe _ A7.out).mono ?_); rintro e w8 ⟨rfl, hb⟩; replace HB := bS_ HB hb; (try clear hb); (try clear hb2); (try clear hk); (try clear hi))); try go_wp2_with (first | (go_at_call 103; (with_reducible refine (spec_l1Abs.calls (rd l0 qa) qe _ A7.out).mono ?_); rintro e w8 ⟨rfl, hb⟩; replace HB := bS_ HB hb; (try clear hb); (try clear hb2); (try clear hk); (try clear hi))))
     go_loopg [5, 7] k1 (fun kq v5 v7 w' => ∃ (qg : Int) (qc : Int), v5 = .int .i64 qg ∧ v7 = .int .i64 qc ∧ Aside0 (spec_l2Gcd.l1 kq l0 qg qa qc = some r) ∧ Aside0 (kq ≤ k1) ∧ Aside0 (Below w.heap.size w w'))
     case atStart => exact ⟨(qf), (qe), (by first | rfl | (simp; done) | (simp [*]; done)), (by first | rfl | (simp; done) | (simp [*]; done)), H', ⟨Nat.le_refl _⟩, ⟨bb_ HB⟩⟩
     case round =>
      clear H'
      try clear p1
      try clear q1
      try clear hx1
      try clear p2
      try clear c5
      try clear qh
      try clear c6
      try clear qi
      try clear c8
      try clear qb
      try clear p108
      try clear p2
      try clear q108
      obtain ⟨qg, qc, rfl, rfl, HA, HK2, HB⟩ := hrel
      cases gk with
      | zero => exact absurd HA.out (by simp [spec_l2Gcd.l1])
      | succ k2 =>
       have H := HA.out
       clear HA
       simp only [spec_l2Gcd.l1] at H
       by_cases c9 : qc = 0
       ·
        rw [if_pos c9] at H
        have qj : (qc == 0) = true := beq_iff_eq.mpr c9
        have qk : (qc != 0) = false := bne_eq_false_iff_eq.mpr c9
        clear c9
        have H' := Aside0.mk H
        clear H
        go_wp2
        repeat (go_quiet (fail); try go_wp2)
        go_roundg k2
        case measure => have := HK1.out; have := HK2.out; omega
        case rel => exact ⟨(qg), (wrap64 (qa + 1)), (by first | rfl | (simp; done) | (simp [*]; done)), (by first | rfl | (simp; done) | (simp [*]; done)), H', ⟨by have := HK1.out; have := HK2.out; omega⟩, ⟨bb_ HB⟩⟩
       ·
        rw [if_neg c9] at H
        have qj : (qc == 0) = false := beq_eq_false_iff_ne.mpr c9
        have qk : (qc != 0) = true := bne_iff_ne.mpr c9
        have H' := Aside0.mk H
        clear H
        go_wp2
        repeat (go_quiet (fail); try go_wp2)
        go_roundg k2
        case measure => have := HK1.out; have := HK2.out; omega
        case rel => exact ⟨(qc), (Int.tmod qg qc), (by first | rfl | (simp; done) | (simp [*]; done)), (by first | rfl | (simp; done) | (simp [*]; done)), H', ⟨by have := HK1.out; have := HK2.out; omega⟩, ⟨bb_ HB⟩⟩
    ·
     rw [if_neg c6] at H
     exact absurd H (by simp)
   ·
    rw [if_neg c5] at H
    have qh : decide (qa < (l0.length : Int)) = false := decide_eq_false c5
    clear c5
    obtain rfl := Option.some.inj H
    go_wp2
    repeat (go_quiet (fail); try go_wp2)
    go_ret
    exact ⟨by first | rfl | (simp [errW_none, errW_some] <;> rfl) | (simp [*, errW_none, errW_some] <;> rfl), bb_ HB⟩

/-! ### spec_IsAtom: function 46 -/
mutual
def spec_IsAtom.j0 : Nat → Bool → List Int → Int → Bool → Option (Bool)
 | 0, _, _, _, _ => none
 | k + 1, x13, x111000, x111001, x111002 => if x13 = true then (some false) else (spec_IsAtom.l0 k 0 x111000 x111001 x111002)
def spec_IsAtom.l0 : Nat → Int → List Int → Int → Bool → Option (Bool)
 | 0, _, _, _, _ => none
 | k + 1, x3, x111000, x111001, x111002 => if x3 < (x111000.length : Int) then (if 0 ≤ x3 then ((spec_IsNumber.f (rd x111000 x3)).bind fun qu => (if qu = true then (spec_IsAtom.l0 k (wrap64 (x3 + 1)) x111000 x111001 x111002) else (some false))) else (none)) else ((spec_l2Gcd.f k x111000 x111001).bind fun qv => (some (decide (qv ≤ 1))))
end
def spec_IsAtom.f (k : Nat) (l0_0 : List Int) (a0_1 : Int) (a0_2 : Bool) : Option (Bool) := if (l0_0.length : Int) > 4 then (spec_IsAtom.j0 k true l0_0 a0_1 a0_2) else ((spec_IsNumber.f a0_1).bind fun qe => (spec_IsAtom.j0 k (!qe) l0_0 a0_1 a0_2))
theorem spec_IsAtom.mono_l : ∀ k, (∀ y0 y1 y2 y3, LeO (spec_IsAtom.j0 k y0 y1 y2 y3) (spec_IsAtom.j0 (k + 1) y0 y1 y2 y3)) ∧ (∀ y0 y1 y2 y3, LeO (spec_IsAtom.l0 k y0 y1 y2 y3) (spec_IsAtom.l0 (k + 1) y0 y1 y2 y3))
 | 0 => ⟨fun _ _ _ _ r h => by simp [spec_IsAtom.j0] at h, fun _ _ _ _ r h => by simp [spec_IsAtom.l0] at h⟩
 | k + 1 => by
  obtain ⟨ih0, ih1⟩ := spec_IsAtom.mono_l k
  refine ⟨?_, ?_⟩
  ·
   intro y0 y1 y2 y3
   unfold spec_IsAtom.j0
   repeat' first
   | (with_reducible exact ih0 _ _ _ _)
   | (with_reducible exact ih1 _ _ _ _)
   | (with_reducible exact spec_l2Gcd.mono _ _ _)
   | (with_reducible exact LeO.refl _)
   | (with_reducible exact LeO.none _)
   | (with_reducible refine LeO.ite ?_ ?_)
   | (with_reducible refine LeO.bind ?_ (fun _ => ?_))
   | exact ih0 _ _ _ _
   | exact ih1 _ _ _ _
   | exact spec_l2Gcd.mono _ _ _
   | exact LeO.none _
   | refine LeO.ite ?_ ?_
   | refine LeO.bind ?_ (fun _ => ?_)
  ·
   intro y0 y1 y2 y3
   unfold spec_IsAtom.l0
   repeat' first
   | (with_reducible exact ih0 _ _ _ _)
   | (with_reducible exact ih1 _ _ _ _)
   | (with_reducible exact spec_l2Gcd.mono _ _ _)
   | (with_reducible exact LeO.refl _)
   | (with_reducible exact LeO.none _)
   | (with_reducible refine LeO.ite ?_ ?_)
   | (with_reducible refine LeO.bind ?_ (fun _ => ?_))
   | exact ih0 _ _ _ _
   | exact ih1 _ _ _ _
   | exact spec_l2Gcd.mono _ _ _
   | exact LeO.none _
   | refine LeO.ite ?_ ?_
   | refine LeO.bind ?_ (fun _ => ?_)
theorem spec_IsAtom.mono : ∀ a0 a1 a2 k, LeO (spec_IsAtom.f k a0 a1 a2) (spec_IsAtom.f (k + 1) a0 a1 a2) := by
 intro a0 a1 a2 k
 obtain ⟨ih0, ih1⟩ := spec_IsAtom.mono_l k
 unfold spec_IsAtom.f
 repeat' first
   | (with_reducible exact ih0 _ _ _ _)
   | (with_reducible exact ih1 _ _ _ _)
   | (with_reducible exact spec_l2Gcd.mono _ _ _)
   | (with_reducible exact LeO.refl _)
   | (with_reducible exact LeO.none _)
   | (with_reducible refine LeO.ite ?_ ?_)
   | (with_reducible refine LeO.bind ?_ (fun _ => ?_))
   | exact ih0 _ _ _ _
   | exact ih1 _ _ _ _
   | exact spec_l2Gcd.mono _ _ _
   | exact LeO.none _
   | refine LeO.ite ?_ ?_
   | refine LeO.bind ?_ (fun _ => ?_)
set_option maxHeartbeats 8000000 in
set_option maxRecDepth 100000 in
theorem spec_IsAtom.calls (k : Nat) (A0_0 : Option Addr) (c0_0 : Nat) (l0_0 : List Int) (a0_1 : Int) (a0_2 : Bool) (r : Bool) (w : World) (hr0_0 : Kd.C (Kd.int .i64) w A0_0 l0_0.length l0_0) (hc0_0 : l0_0.length ≤ c0_0) (h : spec_IsAtom.f k l0_0 a0_1 a0_2 = some r) :
  Calls Tryd.prog 46 #[.agg #[.slice A0_0 l0_0.length c0_0, .int .i64 a0_1, .bool a0_2]] w fun e w' => e = .returned (.bool r) ∧ Below w.heap.size w w' := by
 have hu27 := Tryd.underlying27
 have qh := Aside0.mk hr0_0
 have qx := Aside0.mk hc0_0
 clear hr0_0 hc0_0
 have HB := Aside0.mk (Below.refl w.heap.size w)
 have H : (if (l0_0.length : Int) > 4 then (spec_IsAtom.j0 k true l0_0 a0_1 a0_2) else ((spec_IsNumber.f a0_1).bind fun qe => (spec_IsAtom.j0 k (!qe) l0_0 a0_1 a0_2))) = some r := h
 clear h
 have HC2 := Aside0.mk H
 clear H
 go_enter Tryd.func46, Tryd.ntmps46
 go_upto_region 1 with (first | ((with_reducible refine gate_dst (N := 1) rfl ?_); refine box_event ?hg (N := 1) ?hd (cs := #[.slice A0_0 l0_0.length c0_0, .int .i64 a0_1, .bool a0_2]) (t := 27) ?hr ?_; (case hd => rfl); (case hg => rfl); (case hr => first | (go_simp; done) | (go_simp; rfl)); intro qb hg w3 hbox hb; have qa := Aside0.mk (hbox); have qS := Aside0.mk ((by rw [hg]; exact (bz_ HB) : w.heap.size ≤ qb)); have qT := Aside0.mk ((by rw [hg]; exact (bz_ HB) : w.heap.size ≤ qb)); replace HB := bS_ HB hb; clear hb hbox hg))
 (try simp only [Act.put, List.setIfInBounds_toArray, List.set_cons_zero, List.set_cons_succ])
 go_cut [13] (fun v13 wc => ∃ (kq : Nat) (qg : Bool), v13 = .bool qg ∧ Aside0 (spec_IsAtom.j0 kq qg l0_0 a0_1 a0_2 = some r) ∧ Aside0 (kq ≤ k) ∧ Aside0 (wc.heap[qb]? = some (.cells #[(.slice A0_0 l0_0.length c0_0), .int .i64 a0_1, .bool a0_2] 27 (0, 0))) ∧ Aside0 (Below w.heap.size w wc))
 case first =>
  have H := HC2.out
  clear HC2
  by_cases c4 : (l0_0.length : Int) > 4
  ·
   rw [if_pos c4] at H
   have qf : decide (4 < (l0_0.length : Int)) = true := decide_eq_true c4
   have qw : decide (4 < l0_0.length) = true := decide_eq_true (by omega)
   clear c4
   (first | rw [qf] | (simp only [i64_w, i32_w]; rw [qf]) | skip)
   have H' := Aside0.mk H
   clear H
   have qi : w3.cell? ⟨qb, 0, none⟩ = some (.slice A0_0 l0_0.length c0_0) := bc_ qa 0
   have qj : w3.cell? ⟨qb, 1, none⟩ = some (.int .i64 a0_1) := bc_ qa 1
   have qk : w3.cell? ⟨qb, 2, none⟩ = some (.bool a0_2) := bc_ qa 2
   have ql := blk_frozen qa.out 0
   have qm := blk_frozen qa.out 1
   have qn := blk_frozen qa.out 2
   go_wp2
   go_meet
   case rel => exact ⟨_, (true), (by first | rfl | (simp; done) | (simp [*]; done)), H', ⟨by first | omega | exact Nat.le_refl _⟩, ⟨kf_ qa⟩, ⟨bb_ HB⟩⟩
  ·
   rw [if_neg c4] at H
   have qf : decide (4 < (l0_0.length : Int)) = false := decide_eq_false c4
   have qw : decide (4 < l0_0.length) = false := decide_eq_false (by omega)
   clear c4
   (first | rw [qf] | (simp only [i64_w, i32_w]; rw [qf]) | skip)
   replace H := Option.bind_eq_some_iff.mp H
   obtain ⟨qe, A60, H⟩ := H
   replace H : (spec_IsAtom.j0 k (!qe) l0_0 a0_1 a0_2) = some r := H
   have A6 := Aside0.mk A60
   clear A60
   have H' := Aside0.mk H
   clear H
   have qo : w3.cell? ⟨qb, 0, none⟩ = some (.slice A0_0 l0_0.length c0_0) := bc_ qa 0
   have qp : w3.cell? ⟨qb, 1, none⟩ = some (.int .i64 a0_1) := bc_ qa 1
   have qq : w3.cell? ⟨qb, 2, none⟩ = some (.bool a0_2) := bc_ qa 2
   have qr := blk_frozen qa.out 0
   have qs := blk_frozen qa.out 1
   have qt := blk_frozen qa.out 2
   go_wp2_with (first | (go_at_call 59; (with_reducible refine (spec_IsNumber.calls a0_1 qe _ A6.out).mono ?_); rintro e w' ⟨rfl, ⟨nd, rfl⟩⟩))
   go_meet
   case rel => exact ⟨_, (!qe), (by first | rfl | (simp; done) | (simp [*]; done)), H', ⟨by first | omega | exact Nat.le_refl _⟩, ⟨kf_ qa⟩, ⟨bb_ HB⟩⟩
 case rest =>
  clear HC2
  try clear p2
  try clear c4
  try clear qf
  try clear qw
  try clear qi
  try clear qj
  try clear qk
  try clear qo
  try clear qp
  try clear qq
  try clear ql
  try clear qm
  try clear qn
  try clear qr
  try clear qs
  try clear qt
  obtain ⟨kq, qg, rfl, HA, HJ1, qa, HB⟩ := hcut
  cases kq with
  | zero => exact absurd HA.out (by simp [spec_IsAtom.j0])
  | succ kj1 =>
   have H := HA.out
   clear HA
   simp only [spec_IsAtom.j0] at H
   by_cases c8 : qg = true
   ·
    subst c8
    have H1 : (some false) = some r := by rw [if_pos rfl] at H; exact H
    clear H
    have H := H1
    clear H1
    obtain rfl := Option.some.inj H
    go_wp2
    go_ret
    exact ⟨by first | rfl | (simp [errW_none, errW_some] <;> rfl) | (simp [*, errW_none, errW_some] <;> rfl), bb_ HB⟩
   ·
    replace c8 := Bool.eq_false_iff.mpr c8
    subst c8
    have H1 : (spec_IsAtom.l0 kj1 0 l0_0 a0_1 a0_2) = some r := by rw [if_neg (show ¬ (false = true) by decide)] at H; exact H
    clear H
    have H := H1
    clear H1
    have H' := Aside0.mk H
    clear H
    go_wp2
    go_loopg [3] kj1 (fun kq v3 w' => ∃ (qc : Int), v3 = .int .i64 qc ∧ Aside0 (spec_IsAtom.l0 kq qc l0_0 a0_1 a0_2 = some r) ∧ Aside0 (kq ≤ kj1) ∧ Aside0 (w'.heap[qb]? = some (.cells #[(.slice A0_0 l0_0.length c0_0), .int .i64 a0_1, .bool a0_2] 27 (0, 0))) ∧ Aside0 (Below w.heap.size w w'))
    case atStart => exact ⟨(0), (by first | rfl | (simp; done) | (simp [*]; done)), H', ⟨Nat.le_refl _⟩, ⟨kf_ qa⟩, ⟨bb_ HB⟩⟩
    case round =>
     clear H'
     try clear p2
     try clear c4
     try clear qf
     try clear qw
     try clear c8
     try clear qi
     try clear qj
     try clear qk
     try clear qo
     try clear qp
     try clear qq
     try clear ql
     try clear qm
     try clear qn
     try clear qr
     try clear qs
     try clear qt
     try clear p2
     obtain ⟨qc, rfl, HA, HK2, qa, HB⟩ := hrel
     cases gk with
     | zero => exact absurd HA.out (by simp [spec_IsAtom.l0])
     | succ k2 =>
      have H := HA.out
      clear HA
      simp only [spec_IsAtom.l0] at H
      by_cases c9 : qc < (l0_0.length : Int)
      ·
       rw [if_pos c9] at H
       have qR : decide (qc < (l0_0.length : Int)) = true := decide_eq_true c9
       clear c9
       by_cases c10 : 0 ≤ qc
       ·
        rw [if_pos c10] at H
        have qU : decide (0 ≤ qc) = true := decide_eq_true c10
        clear c10
        replace H := Option.bind_eq_some_iff.mp H
        obtain ⟨qu, A110, H⟩ := H
        replace H : (if qu = true then (spec_IsAtom.l0 k2 (wrap64 (qc + 1)) l0_0 a0_1 a0_2) else (some false)) = some r := H
        have A11 := Aside0.mk A110
        clear A110
        by_cases c12 : qu = true
        ·
         subst c12
         have H1 : (spec_IsAtom.l0 k2 (wrap64 (qc + 1)) l0_0 a0_1 a0_2) = some r := by rw [if_pos rfl] at H; exact H
         clear H
         have H := H1
         clear H1
         have H' := Aside0.mk H
         clear H
         have qz : wr.cell? ⟨qb, 0, none⟩ = some (.slice A0_0 l0_0.length c0_0) := bc_ qa 0
         have qA : wr.cell? ⟨qb, 1, none⟩ = some (.int .i64 a0_1) := bc_ qa 1
         have qB : wr.cell? ⟨qb, 2, none⟩ = some (.bool a0_2) := bc_ qa 2
         have qC := blk_frozen qa.out 0
         have qD := blk_frozen qa.out 1
         have qE := blk_frozen qa.out 2
         have p112 : 0 ≤ (qc : Int) := of_decide_eq_true (by first | (with_reducible assumption) | assumption)
         have q112 : qc < (l0_0.length : Int) := of_decide_eq_true (by first | (with_reducible assumption) | assumption)
         obtain ⟨qy, e112, qd⟩ := Kd.at_int qh.out qc p112 q112
         cases e112
         replace qd := (HB.out.cell (World.block_lt_of_cell? w _ qd)).trans qd
         replace p112 := eq_true p112
         replace q112 := eq_true q112
         go_wp2_with (first | ((with_reducible refine gate_callee (f := 59) rfl ?_); refine goesL_ (some 26) rfl rfl Tryd.func59 (by kernel_rfl) rfl #[.int .i64 (rd l0_0 qc)] rfl (by (try simp only [List.map_toArray, List.map_cons, List.map_nil]); first | done | rfl | (simp only [List.length_drop, List.length_take]; rfl)) ?_; (with_reducible refine (spec_IsNumber.calls (rd l0_0 qc) true _ A11.out).mono ?_); rintro e w' ⟨rfl, ⟨nd, rfl⟩⟩; refine ⟨_, rfl, ?_⟩))
         go_roundg k2
         case measure => have := HJ1.out; have := HK2.out; omega
         case rel => exact ⟨(wrap64 (qc + 1)), (by first | rfl | (simp; done) | (simp [*]; done)), H', ⟨by have := HJ1.out; have := HK2.out; omega⟩, ⟨kf_ qa⟩, ⟨bb_ HB⟩⟩
        ·
         replace c12 := Bool.eq_false_iff.mpr c12
         subst c12
         have H1 : (some false) = some r := by rw [if_neg (show ¬ (false = true) by decide)] at H; exact H
         clear H
         have H := H1
         clear H1
         obtain rfl := Option.some.inj H
         have qF : wr.cell? ⟨qb, 0, none⟩ = some (.slice A0_0 l0_0.length c0_0) := bc_ qa 0
         have qG : wr.cell? ⟨qb, 1, none⟩ = some (.int .i64 a0_1) := bc_ qa 1
         have qH : wr.cell? ⟨qb, 2, none⟩ = some (.bool a0_2) := bc_ qa 2
         have qI := blk_frozen qa.out 0
         have qJ := blk_frozen qa.out 1
         have qK := blk_frozen qa.out 2
         have p112 : 0 ≤ (qc : Int) := of_decide_eq_true (by first | (with_reducible assumption) | assumption)
         have q112 : qc < (l0_0.length : Int) := of_decide_eq_true (by first | (with_reducible assumption) | assumption)
         obtain ⟨qy, e112, qd⟩ := Kd.at_int qh.out qc p112 q112
         cases e112
         replace qd := (HB.out.cell (World.block_lt_of_cell? w _ qd)).trans qd
         replace p112 := eq_true p112
         replace q112 := eq_true q112
         go_wp2_with (first | ((with_reducible refine gate_callee (f := 59) rfl ?_); refine goesL_ (some 26) rfl rfl Tryd.func59 (by kernel_rfl) rfl #[.int .i64 (rd l0_0 qc)] rfl (by (try simp only [List.map_toArray, List.map_cons, List.map_nil]); first | done | rfl | (simp only [List.length_drop, List.length_take]; rfl)) ?_; (with_reducible refine (spec_IsNumber.calls (rd l0_0 qc) false _ A11.out).mono ?_); rintro e w' ⟨rfl, ⟨nd, rfl⟩⟩; refine ⟨_, rfl, ?_⟩))
         go_ret
         exact ⟨by first | rfl | (simp [errW_none, errW_some] <;> rfl) | (simp [*, errW_none, errW_some] <;> rfl), bb_ HB⟩
       ·
        rw [if_neg c10] at H
        exact absurd H (by simp)
      ·
       rw [if_neg c9] at H
       have qR : decide (qc < (l0_0.length : Int)) = false := decide_eq_false c9
       clear c9
       replace H := Option.bind_eq_some_iff.mp H
       obtain ⟨qv, A150, H⟩ := H
       replace H : (some (decide (qv ≤ 1))) = some r := H
       have A15 := Aside0.mk A150
       clear A150
       obtain rfl := Option.some.inj H
       have qL : wr.cell? ⟨qb, 0, none⟩ = some (.slice A0_0 l0_0.length c0_0) := bc_ qa 0
       have qM : wr.cell? ⟨qb, 1, none⟩ = some (.int .i64 a0_1) := bc_ qa 1
       have qN : wr.cell? ⟨qb, 2, none⟩ = some (.bool a0_2) := bc_ qa 2
       have qO := blk_frozen qa.out 0
       have qP := blk_frozen qa.out 1
       have qQ := blk_frozen qa.out 2
       go_wp2_with (first | ((with_reducible refine gate_callee (f := 87) rfl ?_); refine goesL_ (some 32) rfl rfl Tryd.func87 (by kernel_rfl) rfl #[.slice A0_0 l0_0.length c0_0, .int .i64 a0_1] rfl (by (try simp only [List.map_toArray, List.map_cons, List.map_nil]); first | done | rfl | (simp only [List.length_drop, List.length_take]; rfl)) ?_; (with_reducible refine (spec_l2Gcd.calls k2 _ _ l0_0 a0_1 qv _ ?side1 ?side2 A15.out).mono ?_); (case side1 => exact cb_ qh HB); (case side2 => exact qx.out); rintro e qV ⟨rfl, hb⟩; refine ⟨_, rfl, ?_⟩; replace qa := kB_ qa hb; replace HB := bS_ HB hb; (try clear hb); (try clear hb2); (try clear hk); (try clear hi)))
       go_ret
       exact ⟨by first | rfl | (simp [errW_none, errW_some] <;> rfl) | (simp [*, errW_none, errW_some] <;> rfl), bb_ HB⟩

/-! ### spec_FormatInt: function 50 -/
def spec_FormatInt.l0 : Nat → Int → ByteArray → Int → Option (ByteArray)
 | 0, _, _, _ => none
 | k + 1, x0, x3, x4 => if x4 = 0 then (if x0 = 0 then (some (⟨#[48]⟩ : ByteArray)) else (if x0 < 0 then (if 1 + x3.size ≤ 9223372036854775807 then (some ((⟨#[45]⟩ : ByteArray) ++ x3)) else (none)) else (some x3))) else (if (Int.tmod x4 10) < 0 then (if 0 ≤ (wrap64 (-(Int.tmod x4 10))) then (if (wrap64 (-(Int.tmod x4 10))) ≤ (wrap64 ((wrap64 (-(Int.tmod x4 10))) + 1)) then (if (wrap64 ((wrap64 (-(Int.tmod x4 10))) + 1)) ≤ 10 then (if ((⟨#[48, 49, 50, 51, 52, 53, 54, 55, 56, 57]⟩ : ByteArray).extract ((wrap64 (-(Int.tmod x4 10))) : Int).toNat ((wrap64 ((wrap64 (-(Int.tmod x4 10))) + 1)) : Int).toNat).size + x3.size ≤ 9223372036854775807 then (spec_FormatInt.l0 k x0 (((⟨#[48, 49, 50, 51, 52, 53, 54, 55, 56, 57]⟩ : ByteArray).extract ((wrap64 (-(Int.tmod x4 10))) : Int).toNat ((wrap64 ((wrap64 (-(Int.tmod x4 10))) + 1)) : Int).toNat) ++ x3) (wrap64 (Int.tdiv x4 10))) else (none)) else (none)) else (none)) else (none)) else (if 0 ≤ (Int.tmod x4 10) then (if (Int.tmod x4 10) ≤ (wrap64 ((Int.tmod x4 10) + 1)) then (if (wrap64 ((Int.tmod x4 10) + 1)) ≤ 10 then (if ((⟨#[48, 49, 50, 51, 52, 53, 54, 55, 56, 57]⟩ : ByteArray).extract ((Int.tmod x4 10) : Int).toNat ((wrap64 ((Int.tmod x4 10) + 1)) : Int).toNat).size + x3.size ≤ 9223372036854775807 then (spec_FormatInt.l0 k x0 (((⟨#[48, 49, 50, 51, 52, 53, 54, 55, 56, 57]⟩ : ByteArray).extract ((Int.tmod x4 10) : Int).toNat ((wrap64 ((Int.tmod x4 10) + 1)) : Int).toNat) ++ x3) (wrap64 (Int.tdiv x4 10))) else (none)) else (none)) else (none)) else (none)))
def spec_FormatInt.f (k : Nat) (a0 : Int) : Option (ByteArray) := spec_FormatInt.l0 k a0 (⟨#[]⟩ : ByteArray) a0
theorem spec_FormatInt.mono_l : ∀ k, (∀ y0 y1 y2, LeO (spec_FormatInt.l0 k y0 y1 y2) (spec_FormatInt.l0 (k + 1) y0 y1 y2))
 | 0 => fun _ _ _ r h => by simp [spec_FormatInt.l0] at h
 | k + 1 => by
  have ih0 := spec_FormatInt.mono_l k
  ·
   intro y0 y1 y2
   unfold spec_FormatInt.l0
   repeat' first
   | (with_reducible exact ih0 _ _ _)
   | (with_reducible exact LeO.refl _)
   | (with_reducible exact LeO.none _)
   | (with_reducible refine LeO.ite ?_ ?_)
   | (with_reducible refine LeO.bind ?_ (fun _ => ?_))
   | exact ih0 _ _ _
   | exact LeO.none _
   | refine LeO.ite ?_ ?_
   | refine LeO.bind ?_ (fun _ => ?_)
theorem spec_FormatInt.mono : ∀ a0 k, LeO (spec_FormatInt.f k a0) (spec_FormatInt.f (k + 1) a0) := by
 intro a0 k
 have ih0 := spec_FormatInt.mono_l k
 unfold spec_FormatInt.f
 repeat' first
   | (with_reducible exact ih0 _ _ _)
   | (with_reducible exact LeO.refl _)
   | (with_reducible exact LeO.none _)
   | (with_reducible refine LeO.ite ?_ ?_)
   | (with_reducible refine LeO.bind ?_ (fun _ => ?_))
   | exact ih0 _ _ _
   | exact LeO.none _
   | refine LeO.ite ?_ ?_
   | refine LeO.bind ?_ (fun _ => ?_)
set_option maxHeartbeats 8000000 in
set_option maxRecDepth 100000 in
theorem spec_FormatInt.calls (k : Nat) (a0 : Int) (r : ByteArray) (w : World) (h : spec_FormatInt.f k a0 = some r) :
  Calls Tryd.prog 50 #[.int .i64 a0] w fun e w' => e = .returned (.string r) ∧ Drawn0 w w' := by
 have H : (spec_FormatInt.l0 k a0 (⟨#[]⟩ : ByteArray) a0) = some r := h
 clear h
 have H' := Aside0.mk H
 clear H
 go_enter Tryd.func50, Tryd.ntmps50
 go_wp2
 go_loopg [3, 4] k (fun kq v3 v4 w' => ∃ (qa : ByteArray) (qb : Int), v3 = .string qa ∧ v4 = .int .i64 qb ∧ Aside0 (spec_FormatInt.l0 kq a0 qa qb = some r) ∧ Aside0 (kq ≤ k) ∧ Drawn0 w w')
 case atStart => exact ⟨((⟨#[]⟩ : ByteArray)), (a0), (by first | rfl | (simp; done) | (simp [*]; done)), (by first | rfl | (simp; done) | (simp [*]; done)), H', ⟨Nat.le_refl _⟩, by repeat (first | exact Drawn0.refl _ | apply Drawn0.step)⟩
 case round =>
  clear H'
  obtain ⟨qa, qb, rfl, rfl, HA, HK1, ⟨m1, rfl⟩⟩ := hrel
  cases gk with
  | zero => exact absurd HA.out (by simp [spec_FormatInt.l0])
  | succ k1 =>
   have H := HA.out
   clear HA
   simp only [spec_FormatInt.l0] at H
   by_cases c2 : qb = 0
   ·
    rw [if_pos c2] at H
    have qd : (qb == 0) = true := beq_iff_eq.mpr c2
    have qe : (qb != 0) = false := bne_eq_false_iff_eq.mpr c2
    clear c2
    by_cases c3 : a0 = 0
    ·
     rw [if_pos c3] at H
     have qf : (a0 == 0) = true := beq_iff_eq.mpr c3
     have qg : (a0 != 0) = false := bne_eq_false_iff_eq.mpr c3
     clear c3
     obtain rfl := Option.some.inj H
     go_wp2
     go_ret
     exact ⟨by first | rfl | (simp; done) | (simp [*]; done), by repeat (first | exact Drawn0.refl _ | apply Drawn0.step)⟩
    ·
     rw [if_neg c3] at H
     have qf : (a0 == 0) = false := beq_eq_false_iff_ne.mpr c3
     have qg : (a0 != 0) = true := bne_iff_ne.mpr c3
     by_cases c4 : a0 < 0
     ·
      rw [if_pos c4] at H
      have qh : decide (a0 < 0) = true := decide_eq_true c4
      clear c4
      by_cases c5 : 1 + qa.size ≤ 9223372036854775807
      ·
       rw [if_pos c5] at H
       have qw := eq_true c5
       have qx : decide (1 + qa.size ≤ 9223372036854775807) = true := decide_eq_true c5
       try have qy : (9223372036854775807 < 1 + qa.size) = False := eq_false (Nat.not_lt.2 c5)
       obtain rfl := Option.some.inj H
       go_wp2
       go_ret
       exact ⟨by first | rfl | (simp; done) | (simp [*]; done), by repeat (first | exact Drawn0.refl _ | apply Drawn0.step)⟩
      ·
       rw [if_neg c5] at H
       exact absurd H (by simp)
     ·
      rw [if_neg c4] at H
      have qh : decide (a0 < 0) = false := decide_eq_false c4
      clear c4
      obtain rfl := Option.some.inj H
      go_wp2
      go_ret
      exact ⟨by first | rfl | (simp; done) | (simp [*]; done), by repeat (first | exact Drawn0.refl _ | apply Drawn0.step)⟩
   ·
    rw [if_neg c2] at H
    have qd : (qb == 0) = false := beq_eq_false_iff_ne.mpr c2
    have qe : (qb != 0) = true := bne_iff_ne.mpr c2
    by_cases c6 : (Int.tmod qb 10) < 0
    ·
     rw [if_pos c6] at H
     have qc : decide ((Int.tmod qb 10) < 0) = true := decide_eq_true c6
     clear c6
     obtain ⟨ji7, hji7⟩ : ∃ j_ : Int, (wrap64 (-(Int.tmod qb 10))) = j_ := ⟨_, rfl⟩
     replace H : (if 0 ≤ (ji7) then (if (ji7) ≤ (wrap64 ((ji7) + 1)) then (if (wrap64 ((ji7) + 1)) ≤ 10 then (if ((⟨#[48, 49, 50, 51, 52, 53, 54, 55, 56, 57]⟩ : ByteArray).extract ((ji7) : Int).toNat ((wrap64 ((ji7) + 1)) : Int).toNat).size + qa.size ≤ 9223372036854775807 then (spec_FormatInt.l0 k1 a0 (((⟨#[48, 49, 50, 51, 52, 53, 54, 55, 56, 57]⟩ : ByteArray).extract ((ji7) : Int).toNat ((wrap64 ((ji7) + 1)) : Int).toNat) ++ qa) (wrap64 (Int.tdiv qb 10))) else (none)) else (none)) else (none)) else (none)) = some r := by first | (rw [hji7] at H; exact H) | (simp only [hji7] at H ⊢; exact H)
     have hji7w : (IntKind.i64.wrap (-(Int.tmod qb 10))) = ji7 := (i64_w _).trans hji7
     by_cases c8 : 0 ≤ (ji7)
     ·
      rw [if_pos c8] at H
      have qz := eq_true c8
      have qA : decide (0 ≤ (ji7)) = true := decide_eq_true c8
      clear c8
      by_cases c9 : (ji7) ≤ (wrap64 ((ji7) + 1))
      ·
       rw [if_pos c9] at H
       have qB := eq_true c9
       have qC : decide ((ji7) ≤ (wrap64 ((ji7) + 1))) = true := decide_eq_true c9
       by_cases c10 : (wrap64 ((ji7) + 1)) ≤ 10
       ·
        rw [if_pos c10] at H
        have qi := eq_true c10
        have qj : decide ((wrap64 ((ji7) + 1)) ≤ 10) = true := decide_eq_true c10
        by_cases c11 : ((⟨#[48, 49, 50, 51, 52, 53, 54, 55, 56, 57]⟩ : ByteArray).extract ((ji7) : Int).toNat ((wrap64 ((ji7) + 1)) : Int).toNat).size + qa.size ≤ 9223372036854775807
        ·
         rw [if_pos c11] at H
         have qk := eq_true c11
         have ql : decide (((⟨#[48, 49, 50, 51, 52, 53, 54, 55, 56, 57]⟩ : ByteArray).extract ((ji7) : Int).toNat ((wrap64 ((ji7) + 1)) : Int).toNat).size + qa.size ≤ 9223372036854775807) = true := decide_eq_true c11
         try have qm : (9223372036854775807 < ((⟨#[48, 49, 50, 51, 52, 53, 54, 55, 56, 57]⟩ : ByteArray).extract ((ji7) : Int).toNat ((wrap64 ((ji7) + 1)) : Int).toNat).size + qa.size) = False := eq_false (Nat.not_lt.2 c11)
         have H' := Aside0.mk H
         clear H
         go_wp2
         go_roundg k1
         case measure => have := HK1.out; omega
         case rel => exact ⟨(((⟨#[48, 49, 50, 51, 52, 53, 54, 55, 56, 57]⟩ : ByteArray).extract ((ji7) : Int).toNat ((wrap64 ((ji7) + 1)) : Int).toNat) ++ qa), (wrap64 (Int.tdiv qb 10)), (by first | rfl | (simp; done) | (simp only [← hji7] <;> (first | rfl | simp)) | (simp [*]; done)), (by first | rfl | (simp; done) | (simp [*]; done)), H', ⟨by have := HK1.out; omega⟩, by repeat (first | exact Drawn0.refl _ | apply Drawn0.step)⟩
        ·
         rw [if_neg c11] at H
         exact absurd H (by simp)
       ·
        rw [if_neg c10] at H
        exact absurd H (by simp)
      ·
       rw [if_neg c9] at H
       exact absurd H (by simp)
     ·
      rw [if_neg c8] at H
      exact absurd H (by simp)
    ·
     rw [if_neg c6] at H
     have qc : decide ((Int.tmod qb 10) < 0) = false := decide_eq_false c6
     clear c6
     obtain ⟨ji12, hji12⟩ : ∃ j_ : Int, (Int.tmod qb 10) = j_ := ⟨_, rfl⟩
     replace H : (if 0 ≤ (ji12) then (if (ji12) ≤ (wrap64 ((ji12) + 1)) then (if (wrap64 ((ji12) + 1)) ≤ 10 then (if ((⟨#[48, 49, 50, 51, 52, 53, 54, 55, 56, 57]⟩ : ByteArray).extract ((ji12) : Int).toNat ((wrap64 ((ji12) + 1)) : Int).toNat).size + qa.size ≤ 9223372036854775807 then (spec_FormatInt.l0 k1 a0 (((⟨#[48, 49, 50, 51, 52, 53, 54, 55, 56, 57]⟩ : ByteArray).extract ((ji12) : Int).toNat ((wrap64 ((ji12) + 1)) : Int).toNat) ++ qa) (wrap64 (Int.tdiv qb 10))) else (none)) else (none)) else (none)) else (none)) = some r := by first | (rw [hji12] at H; exact H) | (simp only [hji12] at H ⊢; exact H)
     (try rw [hji12] at qc)
     by_cases c13 : 0 ≤ (ji12)
     ·
      rw [if_pos c13] at H
      have qn := eq_true c13
      have qo : decide (0 ≤ (ji12)) = true := decide_eq_true c13
      clear c13
      by_cases c14 : (ji12) ≤ (wrap64 ((ji12) + 1))
      ·
       rw [if_pos c14] at H
       have qp := eq_true c14
       have qq : decide ((ji12) ≤ (wrap64 ((ji12) + 1))) = true := decide_eq_true c14
       by_cases c15 : (wrap64 ((ji12) + 1)) ≤ 10
       ·
        rw [if_pos c15] at H
        have qr := eq_true c15
        have qs : decide ((wrap64 ((ji12) + 1)) ≤ 10) = true := decide_eq_true c15
        by_cases c16 : ((⟨#[48, 49, 50, 51, 52, 53, 54, 55, 56, 57]⟩ : ByteArray).extract ((ji12) : Int).toNat ((wrap64 ((ji12) + 1)) : Int).toNat).size + qa.size ≤ 9223372036854775807
        ·
         rw [if_pos c16] at H
         have qt := eq_true c16
         have qu : decide (((⟨#[48, 49, 50, 51, 52, 53, 54, 55, 56, 57]⟩ : ByteArray).extract ((ji12) : Int).toNat ((wrap64 ((ji12) + 1)) : Int).toNat).size + qa.size ≤ 9223372036854775807) = true := decide_eq_true c16
         try have qv : (9223372036854775807 < ((⟨#[48, 49, 50, 51, 52, 53, 54, 55, 56, 57]⟩ : ByteArray).extract ((ji12) : Int).toNat ((wrap64 ((ji12) + 1)) : Int).toNat).size + qa.size) = False := eq_false (Nat.not_lt.2 c16)
         have H' := Aside0.mk H
         clear H
         go_wp2
         go_roundg k1
         case measure => have := HK1.out; omega
         case rel => exact ⟨(((⟨#[48, 49, 50, 51, 52, 53, 54, 55, 56, 57]⟩ : ByteArray).extract ((ji12) : Int).toNat ((wrap64 ((ji12) + 1)) : Int).toNat) ++ qa), (wrap64 (Int.tdiv qb 10)), (by first | rfl | (simp; done) | (simp only [← hji12] <;> (first | rfl | simp)) | (simp [*]; done)), (by first | rfl | (simp; done) | (simp [*]; done)), H', ⟨by have := HK1.out; omega⟩, by repeat (first | exact Drawn0.refl _ | apply Drawn0.step)⟩
        ·
         rw [if_neg c16] at H
         exact absurd H (by simp)
       ·
        rw [if_neg c15] at H
        exact absurd H (by simp)
      ·
       rw [if_neg c14] at H
       exact absurd H (by simp)
     ·
      rw [if_neg c13] at H
      exact absurd H (by simp)

/-! ### spec_FormatAtom: function 12 -/
mutual
def spec_FormatAtom.l0 : Nat → ByteArray → Int → List Int → Int → Bool → Option (ByteArray)
 | 0, _, _, _, _, _ => none
 | k + 1, x3, x4, x116000, x116001, x116002 => if x4 < (x116000.length : Int) then (if 0 ≤ x4 then (if (rd x116000 x4) = 0 then (spec_FormatAtom.l0 k x3 (wrap64 (x4 + 1)) x116000 x116001 x116002) else (if (rd x116000 x4) > 0 then (spec_FormatAtom.j1 k x3 x4 (rd x116000 x4) (x3.toList != ([] : List UInt8)) x116000 x116001 x116002) else (spec_FormatAtom.j1 k x3 x4 (rd x116000 x4) false x116000 x116001 x116002))) else (none)) else (if x116001 > 0 then (spec_FormatAtom.j3 k x3 (x3.toList != ([] : List UInt8)) x116000 x116001 x116002) else (spec_FormatAtom.j3 k x3 false x116000 x116001 x116002))
def spec_FormatAtom.j1 : Nat → ByteArray → Int → Int → Bool → List Int → Int → Bool → Option (ByteArray)
 | 0, _, _, _, _, _, _, _ => none
 | k + 1, x3, x4, x5, x28, x116000, x116001, x116002 => if x28 = true then (if x3.size + 1 ≤ 9223372036854775807 then (spec_FormatAtom.j2 k (x3 ++ (⟨#[43]⟩ : ByteArray)) x4 x5 x116000 x116001 x116002) else (none)) else (spec_FormatAtom.j2 k x3 x4 x5 x116000 x116001 x116002)
def spec_FormatAtom.j2 : Nat → ByteArray → Int → Int → List Int → Int → Bool → Option (ByteArray)
 | 0, _, _, _, _, _, _ => none
 | k + 1, x3, x4, x5, x116000, x116001, x116002 => if x5 = (-1) then (if x3.size + 1 ≤ 9223372036854775807 then (if 0 ≤ x4 then (if x4 ≤ (wrap64 (x4 + 1)) then (if (wrap64 (x4 + 1)) ≤ 4 then (if (x3 ++ (⟨#[45]⟩ : ByteArray)).size + ((⟨#[120, 121, 122, 116]⟩ : ByteArray).extract (x4 : Int).toNat ((wrap64 (x4 + 1)) : Int).toNat).size ≤ 9223372036854775807 then (spec_FormatAtom.l0 k ((x3 ++ (⟨#[45]⟩ : ByteArray)) ++ ((⟨#[120, 121, 122, 116]⟩ : ByteArray).extract (x4 : Int).toNat ((wrap64 (x4 + 1)) : Int).toNat)) (wrap64 (x4 + 1)) x116000 x116001 x116002) else (none)) else (none)) else (none)) else (none)) else (none)) else (if x5 = 1 then (if 0 ≤ x4 then (if x4 ≤ (wrap64 (x4 + 1)) then (if (wrap64 (x4 + 1)) ≤ 4 then (if x3.size + ((⟨#[120, 121, 122, 116]⟩ : ByteArray).extract (x4 : Int).toNat ((wrap64 (x4 + 1)) : Int).toNat).size ≤ 9223372036854775807 then (spec_FormatAtom.l0 k (x3 ++ ((⟨#[120, 121, 122, 116]⟩ : ByteArray).extract (x4 : Int).toNat ((wrap64 (x4 + 1)) : Int).toNat)) (wrap64 (x4 + 1)) x116000 x116001 x116002) else (none)) else (none)) else (none)) else (none)) else ((spec_FormatInt.f k x5).bind fun qj => (if x3.size + qj.size ≤ 9223372036854775807 then (if 0 ≤ x4 then (if x4 ≤ (wrap64 (x4 + 1)) then (if (wrap64 (x4 + 1)) ≤ 4 then (if (x3 ++ qj).size + ((⟨#[120, 121, 122, 116]⟩ : ByteArray).extract (x4 : Int).toNat ((wrap64 (x4 + 1)) : Int).toNat).size ≤ 9223372036854775807 then (spec_FormatAtom.l0 k ((x3 ++ qj) ++ ((⟨#[120, 121, 122, 116]⟩ : ByteArray).extract (x4 : Int).toNat ((wrap64 (x4 + 1)) : Int).toNat)) (wrap64 (x4 + 1)) x116000 x116001 x116002) else (none)) else (none)) else (none)) else (none)) else (none))))
def spec_FormatAtom.j3 : Nat → ByteArray → Bool → List Int → Int → Bool → Option (ByteArray)
 | 0, _, _, _, _, _ => none
 | k + 1, x3, x53, x116000, x116001, x116002 => if x53 = true then (if x3.size + 1 ≤ 9223372036854775807 then (spec_FormatAtom.j4 k (x3 ++ (⟨#[43]⟩ : ByteArray)) x116000 x116001 x116002) else (none)) else (spec_FormatAtom.j4 k x3 x116000 x116001 x116002)
def spec_FormatAtom.j4 : Nat → ByteArray → List Int → Int → Bool → Option (ByteArray)
 | 0, _, _, _, _ => none
 | k + 1, x3, x116000, x116001, x116002 => if x116001 = 0 then (spec_FormatAtom.j5 k x3 (x3.toList == ([] : List UInt8)) x116000 x116001 x116002) else (spec_FormatAtom.j5 k x3 true x116000 x116001 x116002)
def spec_FormatAtom.j5 : Nat → ByteArray → Bool → List Int → Int → Bool → Option (ByteArray)
 | 0, _, _, _, _, _ => none
 | k + 1, x3, x62, x116000, x116001, x116002 => if x62 = true then ((spec_FormatInt.f k x116001).bind fun qf => (if x3.size + qf.size ≤ 9223372036854775807 then (if x116002 = true then (if (x3 ++ qf).size + 2 ≤ 9223372036854775807 then (some ((x3 ++ qf) ++ (⟨#[60, 48]⟩ : ByteArray))) else (none)) else (if (x3 ++ qf).size + 3 ≤ 9223372036854775807 then (some ((x3 ++ qf) ++ (⟨#[60, 61, 48]⟩ : ByteArray))) else (none))) else (none))) else (if x116002 = true then (if x3.size + 2 ≤ 9223372036854775807 then (some (x3 ++ (⟨#[60, 48]⟩ : ByteArray))) else (none)) else (if x3.size + 3 ≤ 9223372036854775807 then (some (x3 ++ (⟨#[60, 61, 48]⟩ : ByteArray))) else (none)))
end
def spec_FormatAtom.f (k : Nat) (l0_0 : List Int) (a0_1 : Int) (a0_2 : Bool) : Option (ByteArray) := (spec_IsAtom.f k l0_0 a0_1 a0_2).bind fun za => (if za = true then (spec_FormatAtom.l0 k (⟨#[]⟩ : ByteArray) 0 l0_0 a0_1 a0_2) else (some (⟨#[]⟩ : ByteArray)))
theorem spec_FormatAtom.mono_l : ∀ k, (∀ y0 y1 y2 y3 y4, LeO (spec_FormatAtom.l0 k y0 y1 y2 y3 y4) (spec_FormatAtom.l0 (k + 1) y0 y1 y2 y3 y4)) ∧ (∀ y0 y1 y2 y3 y4 y5 y6, LeO (spec_FormatAtom.j1 k y0 y1 y2 y3 y4 y5 y6) (spec_FormatAtom.j1 (k + 1) y0 y1 y2 y3 y4 y5 y6)) ∧ (∀ y0 y1 y2 y3 y4 y5, LeO (spec_FormatAtom.j2 k y0 y1 y2 y3 y4 y5) (spec_FormatAtom.j2 (k + 1) y0 y1 y2 y3 y4 y5)) ∧ (∀ y0 y1 y2 y3 y4, LeO (spec_FormatAtom.j3 k y0 y1 y2 y3 y4) (spec_FormatAtom.j3 (k + 1) y0 y1 y2 y3 y4)) ∧ (∀ y0 y1 y2 y3, LeO (spec_FormatAtom.j4 k y0 y1 y2 y3) (spec_FormatAtom.j4 (k + 1) y0 y1 y2 y3)) ∧ (∀ y0 y1 y2 y3 y4, LeO (spec_FormatAtom.j5 k y0 y1 y2 y3 y4) (spec_FormatAtom.j5 (k + 1) y0 y1 y2 y3 y4))
 | 0 => ⟨fun _ _ _ _ _ r h => by simp [spec_FormatAtom.l0] at h, fun _ _ _ _ _ _ _ r h => by simp [spec_FormatAtom.j1] at h, fun _ _ _ _ _ _ r h => by simp [spec_FormatAtom.j2] at h, fun _ _ _ _ _ r h => by simp [spec_FormatAtom.j3] at h, fun _ _ _ _ r h => by simp [spec_FormatAtom.j4] at h, fun _ _ _ _ _ r h => by simp [spec_FormatAtom.j5] at h⟩
 | k + 1 => by
  obtain ⟨ih0, ih1, ih2, ih3, ih4, ih5⟩ := spec_FormatAtom.mono_l k
  refine ⟨?_, ?_, ?_, ?_, ?_, ?_⟩
  ·
   intro y0 y1 y2 y3 y4
   unfold spec_FormatAtom.l0
   repeat' first
   | (with_reducible exact ih0 _ _ _ _ _)
   | (with_reducible exact ih1 _ _ _ _ _ _ _)
   | (with_reducible exact ih2 _ _ _ _ _ _)
   | (with_reducible exact ih3 _ _ _ _ _)
   | (with_reducible exact ih4 _ _ _ _)
   | (with_reducible exact ih5 _ _ _ _ _)
   | (with_reducible exact spec_FormatInt.mono _ _)
   | (with_reducible exact spec_IsAtom.mono _ _ _ _)
   | (with_reducible exact LeO.refl _)
   | (with_reducible exact LeO.none _)
   | (with_reducible refine LeO.ite ?_ ?_)
   | (with_reducible refine LeO.bind ?_ (fun _ => ?_))
   | exact ih0 _ _ _ _ _
   | exact ih1 _ _ _ _ _ _ _
   | exact ih2 _ _ _ _ _ _
   | exact ih3 _ _ _ _ _
   | exact ih4 _ _ _ _
   | exact ih5 _ _ _ _ _
   | exact spec_FormatInt.mono _ _
   | exact spec_IsAtom.mono _ _ _ _
   | exact LeO.none _
   | refine LeO.ite ?_ ?_
   | refine LeO.bind ?_ (fun _ => ?_)
  ·
   intro y0 y1 y2 y3 y4 y5 y6
   unfold spec_FormatAtom.j1
   repeat' first
   | (with_reducible exact ih0 _ _ _ _ _)
   | (with_reducible exact ih1 _ _ _ _ _ _ _)
   | (with_reducible exact ih2 _ _ _ _ _ _)
   | (with_reducible exact ih3 _ _ _ _ _)
   | (with_reducible exact ih4 _ _ _ _)
   | (with_reducible exact ih5 _ _ _ _ _)
   | (with_reducible exact spec_FormatInt.mono _ _)
   | (with_reducible exact spec_IsAtom.mono _ _ _ _)
   | (with_reducible exact LeO.refl _)
   | (with_reducible exact LeO.none _)
   | (with_reducible refine LeO.ite ?_ ?_)
   | (with_reducible refine LeO.bind ?_ (fun _ => ?_))
   | exact ih0 _ _ _ _ _
   | exact ih1 _ _ _ _ _ _ _
   | exact ih2 _ _ _ _ _ _
   | exact ih3 _ _ _ _ _
   | exact ih4 _ _ _ _
   | exact ih5 _ _ _ _ _
   | exact spec_FormatInt.mono _ _
   | exact spec_IsAtom.mono _ _ _ _
   | exact LeO.none _
   | refine LeO.ite ?_ ?_
   | refine LeO.bind ?_ (fun _ => ?_)
  ·
   intro y0 y1 y2 y3 y4 y5
   unfold spec_FormatAtom.j2
   repeat' first
   | (with_reducible exact ih0 _ _ _ _ _)
   | (with_reducible exact ih1 _ _ _ _ _ _ _)
   | (with_reducible exact ih2 _ _ _ _ _ _)
   | (with_reducible exact ih3 _ _ _ _ _)
   | (with_reducible exact ih4 _ _ _ _)
   | (with_reducible exact ih5 _ _ _ _ _)
   | (with_reducible exact spec_FormatInt.mono _ _)
   | (with_reducible exact spec_IsAtom.mono _ _ _ _)
   | (with_reducible exact LeO.refl _)
   | (with_reducible exact LeO.none _)
   | (with_reducible refine LeO.ite ?_ ?_)
   | (with_reducible refine LeO.bind ?_ (fun _ => ?_))
   | exact ih0 _ _ _ _ _
   | exact ih1 _ _ _ _ _ _ _
   | exact ih2 _ _ _ _ _ _
   | exact ih3 _ _ _ _ _
   | exact ih4 _ _ _ _
   | exact ih5 _ _ _ _ _
   | exact spec_FormatInt.mono _ _
   | exact spec_IsAtom.mono _ _ _ _
   | exact LeO.none _
   | refine LeO.ite ?_ ?_
   | refine LeO.bind ?_ (fun _ => ?_)
  ·
   intro y0 y1 y2 y3 y4
   unfold spec_FormatAtom.j3
   repeat' first
   | (with_reducible exact ih0 _ _ _ _ _)
   | (with_reducible exact ih1 _ _ _ _ _ _ _)
   | (with_reducible exact ih2 _ _ _ _ _ _)
   | (with_reducible exact ih3 _ _ _ _ _)
   | (with_reducible exact ih4 _ _ _ _)
   | (with_reducible exact ih5 _ _ _ _ _)
   | (with_reducible exact spec_FormatInt.mono _ _)
   | (with_reducible exact spec_IsAtom.mono _ _ _ _)
   | (with_reducible exact LeO.refl _)
   | (with_reducible exact LeO.none _)
   | (with_reducible refine LeO.ite ?_ ?_)
   | (with_reducible refine LeO.bind ?_ (fun _ => ?_))
   | exact ih0 _ _ _ _ _
   | exact ih1 _ _ _ _ _ _ _
   | exact ih2 _ _ _ _ _ _
   | exact ih3 _ _ _ _ _
   | exact ih4 _ _ _ _
   | exact ih5 _ _ _ _ _
   | exact spec_FormatInt.mono _ _
   | exact spec_IsAtom.mono _ _ _ _
   | exact LeO.none _
   | refine LeO.ite ?_ ?_
   | refine LeO.bind ?_ (fun _ => ?_)
  ·
   intro y0 y1 y2 y3
   unfold spec_FormatAtom.j4
   repeat' first
   | (with_reducible exact ih0 _ _ _ _ _)
   | (with_reducible exact ih1 _ _ _ _ _ _ _)
   | (with_reducible exact ih2 _ _ _ _ _ _)
   | (with_reducible exact ih3 _ _ _ _ _)
   | (with_reducible exact ih4 _ _ _ _)
   | (with_reducible exact ih5 _ _ _ _ _)
   | (with_reducible exact spec_FormatInt.mono _ _)
   | (with_reducible exact spec_IsAtom.mono _ _ _ _)
   | (with_reducible exact LeO.refl _)
   | (with_reducible exact LeO.none _)
   | (with_reducible refine LeO.ite ?_ ?_)
   | (with_reducible refine LeO.bind ?_ (fun _ => ?_))
   | exact ih0 _ _ _ _ _
   | exact ih1 _ _ _ _ _ _ _
   | exact ih2 _ _ _ _ _ _
   | exact ih3 _ _ _ _ _
   | exact ih4 _ _ _ _
   | exact ih5 _ _ _ _ _
   | exact spec_FormatInt.mono _ _
   | exact spec_IsAtom.mono _ _ _ _
   | exact LeO.none _
   | refine LeO.ite ?_ ?_
   | refine LeO.bind ?_ (fun _ => ?_)
  ·
   intro y0 y1 y2 y3 y4
   unfold spec_FormatAtom.j5
   repeat' first
   | (with_reducible exact ih0 _ _ _ _ _)
   | (with_reducible exact ih1 _ _ _ _ _ _ _)
   | (with_reducible exact ih2 _ _ _ _ _ _)
   | (with_reducible exact ih3 _ _ _ _ _)
   | (with_reducible exact ih4 _ _ _ _)
   | (with_reducible exact ih5 _ _ _ _ _)
   | (with_reducible exact spec_FormatInt.mono _ _)
   | (with_reducible exact spec_IsAtom.mono _ _ _ _)
   | (with_reducible exact LeO.refl _)
   | (with_reducible exact LeO.none _)
   | (with_reducible refine LeO.ite ?_ ?_)
   | (with_reducible refine LeO.bind ?_ (fun _ => ?_))
   | exact ih0 _ _ _ _ _
   | exact ih1 _ _ _ _ _ _ _
   | exact ih2 _ _ _ _ _ _
   | exact ih3 _ _ _ _ _
   | exact ih4 _ _ _ _
   | exact ih5 _ _ _ _ _
   | exact spec_FormatInt.mono _ _
   | exact spec_IsAtom.mono _ _ _ _
   | exact LeO.none _
   | refine LeO.ite ?_ ?_
   | refine LeO.bind ?_ (fun _ => ?_)
theorem spec_FormatAtom.mono : ∀ a0 a1 a2 k, LeO (spec_FormatAtom.f k a0 a1 a2) (spec_FormatAtom.f (k + 1) a0 a1 a2) := by
 intro a0 a1 a2 k
 obtain ⟨ih0, ih1, ih2, ih3, ih4, ih5⟩ := spec_FormatAtom.mono_l k
 unfold spec_FormatAtom.f
 repeat' first
   | (with_reducible exact ih0 _ _ _ _ _)
   | (with_reducible exact ih1 _ _ _ _ _ _ _)
   | (with_reducible exact ih2 _ _ _ _ _ _)
   | (with_reducible exact ih3 _ _ _ _ _)
   | (with_reducible exact ih4 _ _ _ _)
   | (with_reducible exact ih5 _ _ _ _ _)
   | (with_reducible exact spec_FormatInt.mono _ _)
   | (with_reducible exact spec_IsAtom.mono _ _ _ _)
   | (with_reducible exact LeO.refl _)
   | (with_reducible exact LeO.none _)
   | (with_reducible refine LeO.ite ?_ ?_)
   | (with_reducible refine LeO.bind ?_ (fun _ => ?_))
   | exact ih0 _ _ _ _ _
   | exact ih1 _ _ _ _ _ _ _
   | exact ih2 _ _ _ _ _ _
   | exact ih3 _ _ _ _ _
   | exact ih4 _ _ _ _
   | exact ih5 _ _ _ _ _
   | exact spec_FormatInt.mono _ _
   | exact spec_IsAtom.mono _ _ _ _
   | exact LeO.none _
   | refine LeO.ite ?_ ?_
   | refine LeO.bind ?_ (fun _ => ?_)
set_option maxHeartbeats 8000000 in
set_option maxRecDepth 100000 in
theorem spec_FormatAtom.calls (k : Nat) (A0_0 : Option Addr) (c0_0 : Nat) (l0_0 : List Int) (a0_1 : Int) (a0_2 : Bool) (r : ByteArray) (w : World) (hr0_0 : Kd.C (Kd.int .i64) w A0_0 l0_0.length l0_0) (hc0_0 : l0_0.length ≤ c0_0) (h : spec_FormatAtom.f k l0_0 a0_1 a0_2 = some r) :
  Calls Tryd.prog 12 #[.agg #[.slice A0_0 l0_0.length c0_0, .int .i64 a0_1, .bool a0_2]] w fun e w' => e = .returned (.string r) ∧ Below w.heap.size w w' := by
 have hu27 := Tryd.underlying27
 have qZ := Aside0.mk hr0_0
 have zX := Aside0.mk hc0_0
 clear hr0_0 hc0_0
 have HB := Aside0.mk (Below.refl w.heap.size w)
 have H : ((spec_IsAtom.f k l0_0 a0_1 a0_2).bind fun za => (if za = true then (spec_FormatAtom.l0 k (⟨#[]⟩ : ByteArray) 0 l0_0 a0_1 a0_2) else (some (⟨#[]⟩ : ByteArray)))) = some r := h
 clear h
 replace H := Option.bind_eq_some_iff.mp H
 obtain ⟨za, A20, H⟩ := H
 replace H : (if za = true then (spec_FormatAtom.l0 k (⟨#[]⟩ : ByteArray) 0 l0_0 a0_1 a0_2) else (some (⟨#[]⟩ : ByteArray))) = some r := H
 have A2 := Aside0.mk A20
 clear A20
 by_cases c3 : za = true
 ·
  subst c3
  have H1 : (spec_FormatAtom.l0 k (⟨#[]⟩ : ByteArray) 0 l0_0 a0_1 a0_2) = some r := by rw [if_pos rfl] at H; exact H
  clear H
  have H := H1
  clear H1
  have H' := Aside0.mk H
  clear H
  go_enter Tryd.func12, Tryd.ntmps12
  go_wp2_with (first | ((with_reducible refine gate_dst (N := 1) rfl ?_); refine box_event ?hg (N := 1) ?hd (cs := #[.slice A0_0 l0_0.length c0_0, .int .i64 a0_1, .bool a0_2]) (t := 27) ?hr ?_; (case hd => rfl); (case hg => rfl); (case hr => first | (go_simp; done) | (go_simp; rfl)); intro qc hg w4 hbox hb; have qa := Aside0.mk (hbox); have z2 := Aside0.mk ((by rw [hg]; exact (bz_ HB) : w.heap.size ≤ qc)); have z3 := Aside0.mk ((by rw [hg]; exact (bz_ HB) : w.heap.size ≤ qc)); replace HB := bS_ HB hb; clear hb hbox hg; have qw : w4.cell? ⟨qc, 0, none⟩ = some (.slice A0_0 l0_0.length c0_0) := bc_ qa 0; have qx : w4.cell? ⟨qc, 1, none⟩ = some (.int .i64 a0_1) := bc_ qa 1; have qy : w4.cell? ⟨qc, 2, none⟩ = some (.bool a0_2) := bc_ qa 2; have qz := blk_frozen qa.out 0; have qA := blk_frozen qa.out 1; have qB := blk_frozen qa.out 2) | ((with_reducible refine gate_callee (f := 46) rfl ?_); refine goesL_ (some 7) rfl rfl Tryd.func46 (by kernel_rfl) rfl #[.agg #[.slice A0_0 l0_0.length c0_0, .int .i64 a0_1, .bool a0_2]] rfl (by (try simp only [List.map_toArray, List.map_cons, List.map_nil]); first | done | rfl | (simp only [List.length_drop, List.length_take]; rfl)) ?_; (with_reducible refine (spec_IsAtom.calls k _ _ l0_0 a0_1 a0_2 true _ ?side1 ?side2 A2.out).mono ?_); (case side1 => exact cb_ qZ HB); (case side2 => exact zX.out); rintro e w6 ⟨rfl, hb⟩; refine ⟨_, rfl, ?_⟩; replace qa := kB_ qa hb; replace HB := bS_ HB hb; (try clear hb); (try clear hb2); (try clear hk); (try clear hi)))
  go_loopg [3, 4] k (fun kq v3 v4 w' => ∃ (qh : ByteArray) (qb : Int), v3 = .string qh ∧ v4 = .int .i64 qb ∧ Aside0 (spec_FormatAtom.l0 kq qh qb l0_0 a0_1 a0_2 = some r) ∧ Aside0 (kq ≤ k) ∧ Aside0 (w'.heap[qc]? = some (.cells #[(.slice A0_0 l0_0.length c0_0), .int .i64 a0_1, .bool a0_2] 27 (0, 0))) ∧ Aside0 (Below w.heap.size w w'))
  case atStart => exact ⟨((⟨#[]⟩ : ByteArray)), (0), (by first | rfl | (simp; done) | (simp [*]; done)), (by first | rfl | (simp; done) | (simp [*]; done)), H', ⟨Nat.le_refl _⟩, ⟨kf_ qa⟩, ⟨bb_ HB⟩⟩
  case round =>
   clear H'
   try clear c1
   try clear p2
   try clear c3
   try clear c4
   try clear qw
   try clear qx
   try clear qy
   try clear qz
   try clear qA
   try clear qB
   obtain ⟨qh, qb, rfl, rfl, HA, HK1, qa, HB⟩ := hrel
   cases gk with
   | zero => exact absurd HA.out (by simp [spec_FormatAtom.l0])
   | succ k1 =>
    have H := HA.out
    clear HA
    simp only [spec_FormatAtom.l0] at H
    by_cases c7 : qb < (l0_0.length : Int)
    ·
     rw [if_pos c7] at H
     have zb : decide (qb < (l0_0.length : Int)) = true := decide_eq_true c7
     clear c7
     by_cases c8 : 0 ≤ qb
     ·
      rw [if_pos c8] at H
      have ze : decide (0 ≤ qb) = true := decide_eq_true c8
      clear c8
      by_cases c9 : (rd l0_0 qb) = 0
      ·
       rw [if_pos c9] at H
       have zc : ((rd l0_0 qb) == 0) = true := beq_iff_eq.mpr c9
       have zd : ((rd l0_0 qb) != 0) = false := bne_eq_false_iff_eq.mpr c9
       clear c9
       have H' := Aside0.mk H
       clear H
       have qk : wr.cell? ⟨qc, 0, none⟩ = some (.slice A0_0 l0_0.length c0_0) := bc_ qa 0
       have ql : wr.cell? ⟨qc, 1, none⟩ = some (.int .i64 a0_1) := bc_ qa 1
       have qm : wr.cell? ⟨qc, 2, none⟩ = some (.bool a0_2) := bc_ qa 2
       have qn := blk_frozen qa.out 0
       have qo := blk_frozen qa.out 1
       have qp := blk_frozen qa.out 2
       have p117 : 0 ≤ (qb : Int) := of_decide_eq_true (by first | (with_reducible assumption) | assumption)
       have q117 : qb < (l0_0.length : Int) := of_decide_eq_true (by first | (with_reducible assumption) | assumption)
       obtain ⟨zf, e117, qg⟩ := Kd.at_int qZ.out qb p117 q117
       cases e117
       replace qg := (HB.out.cell (World.block_lt_of_cell? w _ qg)).trans qg
       replace p117 := eq_true p117
       replace q117 := eq_true q117
       go_wp2
       go_roundg k1
       case measure => have := HK1.out; omega
       case rel => exact ⟨(qh), (wrap64 (qb + 1)), (by first | rfl | (simp; done) | (simp [*]; done)), (by first | rfl | (simp; done) | (simp [*]; done)), H', ⟨by have := HK1.out; omega⟩, ⟨kf_ qa⟩, ⟨bb_ HB⟩⟩
      ·
       rw [if_neg c9] at H
       have zc : ((rd l0_0 qb) == 0) = false := beq_eq_false_iff_ne.mpr c9
       have zd : ((rd l0_0 qb) != 0) = true := bne_iff_ne.mpr c9
       have HC11 := Aside0.mk H
       clear H
       have qq : wr.cell? ⟨qc, 0, none⟩ = some (.slice A0_0 l0_0.length c0_0) := bc_ qa 0
       have qr : wr.cell? ⟨qc, 1, none⟩ = some (.int .i64 a0_1) := bc_ qa 1
       have qs : wr.cell? ⟨qc, 2, none⟩ = some (.bool a0_2) := bc_ qa 2
       have qt := blk_frozen qa.out 0
       have qu := blk_frozen qa.out 1
       have qv := blk_frozen qa.out 2
       have p117 : 0 ≤ (qb : Int) := of_decide_eq_true (by first | (with_reducible assumption) | assumption)
       have q117 : qb < (l0_0.length : Int) := of_decide_eq_true (by first | (with_reducible assumption) | assumption)
       obtain ⟨zf, e117, qg⟩ := Kd.at_int qZ.out qb p117 q117
       cases e117
       replace qg := (HB.out.cell (World.block_lt_of_cell? w _ qg)).trans qg
       replace p117 := eq_true p117
       replace q117 := eq_true q117
       go_upto_region 9 with (fail)
       go_cut [28] (fun v28 wc => ∃ (kq : Nat) (qE : Bool), v28 = .bool qE ∧ Aside0 (spec_FormatAtom.j1 kq qh qb (rd l0_0 qb) qE l0_0 a0_1 a0_2 = some r) ∧ Aside0 (kq ≤ k1) ∧ Aside0 (wc.heap[qc]? = some (.cells #[(.slice (some zf) l0_0.length c0_0), .int .i64 a0_1, .bool a0_2] 27 (0, 0))) ∧ Aside0 (Below w.heap.size w wc))
       case first =>
        have H := HC11.out
        clear HC11
        by_cases c13 : (rd l0_0 qb) > 0
        ·
         rw [if_pos c13] at H
         have qi : decide (0 < (rd l0_0 qb)) = true := decide_eq_true c13
         clear c13
         (first | rw [qi] | (simp only [i64_w, i32_w]; rw [qi]) | skip)
         have H' := Aside0.mk H
         clear H
         go_wp2
         go_meet
         case rel => exact ⟨_, ((qh.toList != ([] : List UInt8))), (by first | rfl | (simp; done) | (simp [*]; done) | (simp; exact isE_ _)), H', ⟨by have := HK1.out; first | omega | exact Nat.le_refl _⟩, ⟨kf_ qa⟩, ⟨bb_ HB⟩⟩
        ·
         rw [if_neg c13] at H
         have qi : decide (0 < (rd l0_0 qb)) = false := decide_eq_false c13
         clear c13
         (first | rw [qi] | (simp only [i64_w, i32_w]; rw [qi]) | skip)
         have H' := Aside0.mk H
         clear H
         go_wp2
         go_meet
         case rel => exact ⟨_, (false), (by first | rfl | (simp; done) | (simp [*]; done)), H', ⟨by have := HK1.out; first | omega | exact Nat.le_refl _⟩, ⟨kf_ qa⟩, ⟨bb_ HB⟩⟩
       case rest =>
        clear HC11
        try clear c1
        try clear p1
        try clear q1
        try clear hx1
        try clear p2
        try clear c3
        try clear c4
        try clear p6
        try clear c7
        try clear zb
        try clear c8
        try clear ze
        try clear c9
        try clear zc
        try clear zd
        try clear p11
        try clear q11
        try clear hx11
        try clear c12
        try clear c13
        try clear qi
        try clear qk
        try clear ql
        try clear qm
        try clear qq
        try clear qr
        try clear qs
        try clear qw
        try clear qx
        try clear qy
        try clear qn
        try clear qo
        try clear qp
        try clear qt
        try clear qu
        try clear qv
        try clear qz
        try clear qA
        try clear qB
        try clear qg
        try clear p117
        try clear p2
        try clear q117
        obtain ⟨kq, qE, rfl, HA, HJ10, qa, HB⟩ := hcut
        cases kq with
        | zero => exact absurd HA.out (by simp [spec_FormatAtom.j1])
        | succ kj10 =>
         have H := HA.out
         clear HA
         simp only [spec_FormatAtom.j1] at H
         have HC14 := Aside0.mk H
         clear H
         go_upto_if 28 with (fail)
         go_cut [3] (fun v3 wc => ∃ (kq : Nat) (qe : ByteArray), v3 = .string qe ∧ Aside0 (spec_FormatAtom.j2 kq qe qb (rd l0_0 qb) l0_0 a0_1 a0_2 = some r) ∧ Aside0 (kq ≤ kj10) ∧ Aside0 (wc.heap[qc]? = some (.cells #[(.slice (some zf) l0_0.length c0_0), .int .i64 a0_1, .bool a0_2] 27 (0, 0))) ∧ Aside0 (Below w.heap.size w wc))
         case first =>
          have H := HC14.out
          clear HC14
          by_cases c15 : qE = true
          ·
           subst c15
           have H1 : (if qh.size + 1 ≤ 9223372036854775807 then (spec_FormatAtom.j2 kj10 (qh ++ (⟨#[43]⟩ : ByteArray)) qb (rd l0_0 qb) l0_0 a0_1 a0_2) else (none)) = some r := by rw [if_pos rfl] at H; exact H
           clear H
           have H := H1
           clear H1
           by_cases c16 : qh.size + 1 ≤ 9223372036854775807
           ·
            rw [if_pos c16] at H
            have q0 := eq_true c16
            have q2 : decide (qh.size + 1 ≤ 9223372036854775807) = true := decide_eq_true c16
            try have q3 : (9223372036854775807 < qh.size + 1) = False := eq_false (Nat.not_lt.2 c16)
            have H' := Aside0.mk H
            clear H
            go_wp2
            go_meet
            case rel => exact ⟨_, (qh ++ (⟨#[43]⟩ : ByteArray)), (by first | rfl | (simp; done) | (simp [*]; done)), H', ⟨by have := HK1.out; have := HJ10.out; first | omega | exact Nat.le_refl _⟩, ⟨kf_ qa⟩, ⟨bb_ HB⟩⟩
           ·
            rw [if_neg c16] at H
            exact absurd H (by simp)
          ·
           replace c15 := Bool.eq_false_iff.mpr c15
           subst c15
           have H1 : (spec_FormatAtom.j2 kj10 qh qb (rd l0_0 qb) l0_0 a0_1 a0_2) = some r := by rw [if_neg (show ¬ (false = true) by decide)] at H; exact H
           clear H
           have H := H1
           clear H1
           have H' := Aside0.mk H
           clear H
           go_wp2
           go_meet
           case rel => exact ⟨_, (qh), (by first | rfl | (simp; done) | (simp [*]; done)), H', ⟨by have := HK1.out; have := HJ10.out; first | omega | exact Nat.le_refl _⟩, ⟨kf_ qa⟩, ⟨bb_ HB⟩⟩
         case rest =>
          clear HC14
          try clear c1
          try clear p1
          try clear q1
          try clear hx1
          try clear p2
          try clear c3
          try clear c4
          try clear p6
          try clear c7
          try clear zb
          try clear c8
          try clear ze
          try clear c9
          try clear zc
          try clear zd
          try clear p11
          try clear q11
          try clear hx11
          try clear c12
          try clear c13
          try clear qi
          try clear c15
          try clear c16
          try clear q0
          try clear q2
          try clear q3
          try clear qk
          try clear ql
          try clear qm
          try clear qq
          try clear qr
          try clear qs
          try clear qw
          try clear qx
          try clear qy
          try clear qn
          try clear qo
          try clear qp
          try clear qt
          try clear qu
          try clear qv
          try clear qz
          try clear qA
          try clear qB
          try clear qg
          try clear p1
          try clear p11
          try clear p117
          try clear p2
          try clear p6
          try clear q1
          try clear q11
          try clear q117
          obtain ⟨kq, qe, rfl, HA, HJ13, qa, HB⟩ := hcut
          cases kq with
          | zero => exact absurd HA.out (by simp [spec_FormatAtom.j2])
          | succ kj13 =>
           have H := HA.out
           clear HA
           simp only [spec_FormatAtom.j2] at H
           by_cases c17 : (rd l0_0 qb) = (-1)
           ·
            rw [if_pos c17] at H
            have q4 : ((rd l0_0 qb) == (-1)) = true := beq_iff_eq.mpr c17
            have q5 : ((rd l0_0 qb) != (-1)) = false := bne_eq_false_iff_eq.mpr c17
            clear c17
            by_cases c18 : qe.size + 1 ≤ 9223372036854775807
            ·
             rw [if_pos c18] at H
             have zg := eq_true c18
             have zh : decide (qe.size + 1 ≤ 9223372036854775807) = true := decide_eq_true c18
             try have zi : (9223372036854775807 < qe.size + 1) = False := eq_false (Nat.not_lt.2 c18)
             by_cases c19 : 0 ≤ qb
             ·
              rw [if_pos c19] at H
              have zj := eq_true c19
              have zk : decide (0 ≤ qb) = true := decide_eq_true c19
              clear c19
              by_cases c20 : qb ≤ (wrap64 (qb + 1))
              ·
               rw [if_pos c20] at H
               have zl := eq_true c20
               have zm : decide (qb ≤ (wrap64 (qb + 1))) = true := decide_eq_true c20
               by_cases c21 : (wrap64 (qb + 1)) ≤ 4
               ·
                rw [if_pos c21] at H
                have zn := eq_true c21
                have zo : decide ((wrap64 (qb + 1)) ≤ 4) = true := decide_eq_true c21
                by_cases c22 : (qe ++ (⟨#[45]⟩ : ByteArray)).size + ((⟨#[120, 121, 122, 116]⟩ : ByteArray).extract (qb : Int).toNat ((wrap64 (qb + 1)) : Int).toNat).size ≤ 9223372036854775807
                ·
                 rw [if_pos c22] at H
                 have zp := eq_true c22
                 have zq : decide ((qe ++ (⟨#[45]⟩ : ByteArray)).size + ((⟨#[120, 121, 122, 116]⟩ : ByteArray).extract (qb : Int).toNat ((wrap64 (qb + 1)) : Int).toNat).size ≤ 9223372036854775807) = true := decide_eq_true c22
                 try have q6 : (9223372036854775807 < (qe ++ (⟨#[45]⟩ : ByteArray)).size + ((⟨#[120, 121, 122, 116]⟩ : ByteArray).extract (qb : Int).toNat ((wrap64 (qb + 1)) : Int).toNat).size) = False := eq_false (Nat.not_lt.2 c22)
                 try (have z4 := q6; simp only [ByteArray.size_append, show ∀ c, (ByteArray.mk #[c]).size = 1 from fun _ => rfl, show ∀ c d, (ByteArray.mk #[c, d]).size = 2 from fun _ _ => rfl, show ∀ c d e, (ByteArray.mk #[c, d, e]).size = 3 from fun _ _ _ => rfl] at z4)
                 have H' := Aside0.mk H
                 clear H
                 go_wp2
                 go_roundg kj13
                 case measure => have := HK1.out; have := HJ10.out; have := HJ13.out; omega
                 case rel => exact ⟨((qe ++ (⟨#[45]⟩ : ByteArray)) ++ ((⟨#[120, 121, 122, 116]⟩ : ByteArray).extract (qb : Int).toNat ((wrap64 (qb + 1)) : Int).toNat)), (wrap64 (qb + 1)), (by first | rfl | (simp; done) | (simp [*]; done)), (by first | rfl | (simp; done) | (simp [*]; done)), H', ⟨by have := HK1.out; have := HJ10.out; have := HJ13.out; omega⟩, ⟨kf_ qa⟩, ⟨bb_ HB⟩⟩
                ·
                 rw [if_neg c22] at H
                 exact absurd H (by simp)
               ·
                rw [if_neg c21] at H
                exact absurd H (by simp)
              ·
               rw [if_neg c20] at H
               exact absurd H (by simp)
             ·
              rw [if_neg c19] at H
              exact absurd H (by simp)
            ·
             rw [if_neg c18] at H
             exact absurd H (by simp)
           ·
            rw [if_neg c17] at H
            have q4 : ((rd l0_0 qb) == (-1)) = false := beq_eq_false_iff_ne.mpr c17
            have q5 : ((rd l0_0 qb) != (-1)) = true := bne_iff_ne.mpr c17
            by_cases c23 : (rd l0_0 qb) = 1
            ·
             rw [if_pos c23] at H
             have q7 : ((rd l0_0 qb) == 1) = true := beq_iff_eq.mpr c23
             have q8 : ((rd l0_0 qb) != 1) = false := bne_eq_false_iff_eq.mpr c23
             clear c23
             by_cases c24 : 0 ≤ qb
             ·
              rw [if_pos c24] at H
              have zr := eq_true c24
              have zs : decide (0 ≤ qb) = true := decide_eq_true c24
              clear c24
              by_cases c25 : qb ≤ (wrap64 (qb + 1))
              ·
               rw [if_pos c25] at H
               have zt := eq_true c25
               have zu : decide (qb ≤ (wrap64 (qb + 1))) = true := decide_eq_true c25
               by_cases c26 : (wrap64 (qb + 1)) ≤ 4
               ·
                rw [if_pos c26] at H
                have zv := eq_true c26
                have zw : decide ((wrap64 (qb + 1)) ≤ 4) = true := decide_eq_true c26
                by_cases c27 : qe.size + ((⟨#[120, 121, 122, 116]⟩ : ByteArray).extract (qb : Int).toNat ((wrap64 (qb + 1)) : Int).toNat).size ≤ 9223372036854775807
                ·
                 rw [if_pos c27] at H
                 have zx := eq_true c27
                 have zy : decide (qe.size + ((⟨#[120, 121, 122, 116]⟩ : ByteArray).extract (qb : Int).toNat ((wrap64 (qb + 1)) : Int).toNat).size ≤ 9223372036854775807) = true := decide_eq_true c27
                 try have zz : (9223372036854775807 < qe.size + ((⟨#[120, 121, 122, 116]⟩ : ByteArray).extract (qb : Int).toNat ((wrap64 (qb + 1)) : Int).toNat).size) = False := eq_false (Nat.not_lt.2 c27)
                 have H' := Aside0.mk H
                 clear H
                 go_wp2
                 go_roundg kj13
                 case measure => have := HK1.out; have := HJ10.out; have := HJ13.out; omega
                 case rel => exact ⟨(qe ++ ((⟨#[120, 121, 122, 116]⟩ : ByteArray).extract (qb : Int).toNat ((wrap64 (qb + 1)) : Int).toNat)), (wrap64 (qb + 1)), (by first | rfl | (simp; done) | (simp [*]; done)), (by first | rfl | (simp; done) | (simp [*]; done)), H', ⟨by have := HK1.out; have := HJ10.out; have := HJ13.out; omega⟩, ⟨kf_ qa⟩, ⟨bb_ HB⟩⟩
                ·
                 rw [if_neg c27] at H
                 exact absurd H (by simp)
               ·
                rw [if_neg c26] at H
                exact absurd H (by simp)
              ·
               rw [if_neg c25] at H
               exact absurd H (by simp)
             ·
              rw [if_neg c24] at H
              exact absurd H (by simp)
            ·
             rw [if_neg c23] at H
             have q7 : ((rd l0_0 qb) == 1) = false := beq_eq_false_iff_ne.mpr c23
             have q8 : ((rd l0_0 qb) != 1) = true := bne_iff_ne.mpr c23
             replace H := Option.bind_eq_some_iff.mp H
             obtain ⟨qj, A280, H⟩ := H
             replace H : (if qe.size + qj.size ≤ 9223372036854775807 then (if 0 ≤ qb then (if qb ≤ (wrap64 (qb + 1)) then (if (wrap64 (qb + 1)) ≤ 4 then (if (qe ++ qj).size + ((⟨#[120, 121, 122, 116]⟩ : ByteArray).extract (qb : Int).toNat ((wrap64 (qb + 1)) : Int).toNat).size ≤ 9223372036854775807 then (spec_FormatAtom.l0 kj13 ((qe ++ qj) ++ ((⟨#[120, 121, 122, 116]⟩ : ByteArray).extract (qb : Int).toNat ((wrap64 (qb + 1)) : Int).toNat)) (wrap64 (qb + 1)) l0_0 a0_1 a0_2) else (none)) else (none)) else (none)) else (none)) else (none)) = some r := H
             have A28 := Aside0.mk A280
             clear A280
             by_cases c29 : qe.size + qj.size ≤ 9223372036854775807
             ·
              rw [if_pos c29] at H
              have zA := eq_true c29
              have zB : decide (qe.size + qj.size ≤ 9223372036854775807) = true := decide_eq_true c29
              try have zC : (9223372036854775807 < qe.size + qj.size) = False := eq_false (Nat.not_lt.2 c29)
              by_cases c30 : 0 ≤ qb
              ·
               rw [if_pos c30] at H
               have zD := eq_true c30
               have zE : decide (0 ≤ qb) = true := decide_eq_true c30
               clear c30
               by_cases c31 : qb ≤ (wrap64 (qb + 1))
               ·
                rw [if_pos c31] at H
                have zF := eq_true c31
                have zG : decide (qb ≤ (wrap64 (qb + 1))) = true := decide_eq_true c31
                by_cases c32 : (wrap64 (qb + 1)) ≤ 4
                ·
                 rw [if_pos c32] at H
                 have zH := eq_true c32
                 have zI : decide ((wrap64 (qb + 1)) ≤ 4) = true := decide_eq_true c32
                 by_cases c33 : (qe ++ qj).size + ((⟨#[120, 121, 122, 116]⟩ : ByteArray).extract (qb : Int).toNat ((wrap64 (qb + 1)) : Int).toNat).size ≤ 9223372036854775807
                 ·
                  rw [if_pos c33] at H
                  have zJ := eq_true c33
                  have zK : decide ((qe ++ qj).size + ((⟨#[120, 121, 122, 116]⟩ : ByteArray).extract (qb : Int).toNat ((wrap64 (qb + 1)) : Int).toNat).size ≤ 9223372036854775807) = true := decide_eq_true c33
                  try have q9 : (9223372036854775807 < (qe ++ qj).size + ((⟨#[120, 121, 122, 116]⟩ : ByteArray).extract (qb : Int).toNat ((wrap64 (qb + 1)) : Int).toNat).size) = False := eq_false (Nat.not_lt.2 c33)
                  try (have z5 := q9; simp only [ByteArray.size_append, show ∀ c, (ByteArray.mk #[c]).size = 1 from fun _ => rfl, show ∀ c d, (ByteArray.mk #[c, d]).size = 2 from fun _ _ => rfl, show ∀ c d e, (ByteArray.mk #[c, d, e]).size = 3 from fun _ _ _ => rfl] at z5)
                  have H' := Aside0.mk H
                  clear H
                  go_wp2_with (first | ((with_reducible refine gate_callee (f := 50) rfl ?_); refine goesL_ (some 39) rfl rfl Tryd.func50 (by kernel_rfl) rfl #[.int .i64 (rd l0_0 qb)] rfl (by (try simp only [List.map_toArray, List.map_cons, List.map_nil]); first | done | rfl | (simp only [List.length_drop, List.length_take]; rfl)) ?_; (with_reducible refine (spec_FormatInt.calls kj13 (rd l0_0 qb) qj _ A28.out).mono ?_); rintro e w' ⟨rfl, ⟨nd, rfl⟩⟩; refine ⟨_, rfl, ?_⟩))
                  go_roundg kj13
                  case measure => have := HK1.out; have := HJ10.out; have := HJ13.out; omega
                  case rel => exact ⟨((qe ++ qj) ++ ((⟨#[120, 121, 122, 116]⟩ : ByteArray).extract (qb : Int).toNat ((wrap64 (qb + 1)) : Int).toNat)), (wrap64 (qb + 1)), (by first | rfl | (simp; done) | (simp [*]; done)), (by first | rfl | (simp; done) | (simp [*]; done)), H', ⟨by have := HK1.out; have := HJ10.out; have := HJ13.out; omega⟩, ⟨kf_ qa⟩, ⟨bb_ HB⟩⟩
                 ·
                  rw [if_neg c33] at H
                  exact absurd H (by simp)
                ·
                 rw [if_neg c32] at H
                 exact absurd H (by simp)
               ·
                rw [if_neg c31] at H
                exact absurd H (by simp)
              ·
               rw [if_neg c30] at H
               exact absurd H (by simp)
             ·
              rw [if_neg c29] at H
              exact absurd H (by simp)
     ·
      rw [if_neg c8] at H
      exact absurd H (by simp)
    ·
     rw [if_neg c7] at H
     have zb : decide (qb < (l0_0.length : Int)) = false := decide_eq_false c7
     clear c7
     have HC34 := Aside0.mk H
     clear H
     have qF : wr.cell? ⟨qc, 0, none⟩ = some (.slice A0_0 l0_0.length c0_0) := bc_ qa 0
     have qG : wr.cell? ⟨qc, 1, none⟩ = some (.int .i64 a0_1) := bc_ qa 1
     have qH : wr.cell? ⟨qc, 2, none⟩ = some (.bool a0_2) := bc_ qa 2
     have qI := blk_frozen qa.out 0
     have qJ := blk_frozen qa.out 1
     have qK := blk_frozen qa.out 2
     go_upto_region 16 with (fail)
     go_cut [53] (fun v53 wc => ∃ (kq : Nat) (qL : Bool), v53 = .bool qL ∧ Aside0 (spec_FormatAtom.j3 kq qh qL l0_0 a0_1 a0_2 = some r) ∧ Aside0 (kq ≤ k1) ∧ Aside0 (wc.heap[qc]? = some (.cells #[(.slice A0_0 l0_0.length c0_0), .int .i64 a0_1, .bool a0_2] 27 (0, 0))) ∧ Aside0 (Below w.heap.size w wc))
     case first =>
      have H := HC34.out
      clear HC34
      by_cases c36 : a0_1 > 0
      ·
       rw [if_pos c36] at H
       have qC : decide (0 < a0_1) = true := decide_eq_true c36
       clear c36
       (first | rw [qC] | (simp only [i64_w, i32_w]; rw [qC]) | skip)
       have H' := Aside0.mk H
       clear H
       have qM : wr.cell? ⟨qc, 0, none⟩ = some (.slice A0_0 l0_0.length c0_0) := bc_ qa 0
       have qN : wr.cell? ⟨qc, 1, none⟩ = some (.int .i64 a0_1) := bc_ qa 1
       have qO : wr.cell? ⟨qc, 2, none⟩ = some (.bool a0_2) := bc_ qa 2
       have qP := blk_frozen qa.out 0
       have qQ := blk_frozen qa.out 1
       have qR := blk_frozen qa.out 2
       go_wp2
       go_meet
       case rel => exact ⟨_, ((qh.toList != ([] : List UInt8))), (by first | rfl | (simp; done) | (simp [*]; done) | (simp; exact isE_ _)), H', ⟨by have := HK1.out; first | omega | exact Nat.le_refl _⟩, ⟨kf_ qa⟩, ⟨bb_ HB⟩⟩
      ·
       rw [if_neg c36] at H
       have qC : decide (0 < a0_1) = false := decide_eq_false c36
       clear c36
       (first | rw [qC] | (simp only [i64_w, i32_w]; rw [qC]) | skip)
       have H' := Aside0.mk H
       clear H
       have qS : wr.cell? ⟨qc, 0, none⟩ = some (.slice A0_0 l0_0.length c0_0) := bc_ qa 0
       have qT : wr.cell? ⟨qc, 1, none⟩ = some (.int .i64 a0_1) := bc_ qa 1
       have qU : wr.cell? ⟨qc, 2, none⟩ = some (.bool a0_2) := bc_ qa 2
       have qV := blk_frozen qa.out 0
       have qW := blk_frozen qa.out 1
       have qX := blk_frozen qa.out 2
       go_wp2
       go_meet
       case rel => exact ⟨_, (false), (by first | rfl | (simp; done) | (simp [*]; done)), H', ⟨by have := HK1.out; first | omega | exact Nat.le_refl _⟩, ⟨kf_ qa⟩, ⟨bb_ HB⟩⟩
     case rest =>
      clear HC34
      try clear c1
      try clear p1
      try clear q1
      try clear hx1
      try clear c2
      try clear p2
      try clear c3
      try clear c4
      try clear c5
      try clear p6
      try clear c7
      try clear zb
      try clear c8
      try clear ze
      try clear c9
      try clear zc
      try clear zd
      try clear p11
      try clear q11
      try clear hx11
      try clear c12
      try clear c13
      try clear qi
      try clear c15
      try clear c16
      try clear q0
      try clear q2
      try clear q3
      try clear c17
      try clear q4
      try clear q5
      try clear c18
      try clear zg
      try clear zh
      try clear zi
      try clear c19
      try clear zj
      try clear zk
      try clear c20
      try clear zl
      try clear zm
      try clear c21
      try clear zn
      try clear zo
      try clear c22
      try clear zp
      try clear zq
      try clear q6
      try clear c23
      try clear q7
      try clear q8
      try clear c24
      try clear zr
      try clear zs
      try clear c25
      try clear zt
      try clear zu
      try clear c26
      try clear zv
      try clear zw
      try clear c27
      try clear zx
      try clear zy
      try clear zz
      try clear c29
      try clear zA
      try clear zB
      try clear zC
      try clear c30
      try clear zD
      try clear zE
      try clear c31
      try clear zF
      try clear zG
      try clear c32
      try clear zH
      try clear zI
      try clear c33
      try clear zJ
      try clear zK
      try clear q9
      try clear c36
      try clear qC
      try clear qk
      try clear ql
      try clear qm
      try clear qq
      try clear qr
      try clear qs
      try clear qF
      try clear qG
      try clear qH
      try clear qM
      try clear qN
      try clear qO
      try clear qS
      try clear qT
      try clear qU
      try clear qw
      try clear qx
      try clear qy
      try clear qn
      try clear qo
      try clear qp
      try clear qt
      try clear qu
      try clear qv
      try clear qI
      try clear qJ
      try clear qK
      try clear qP
      try clear qQ
      try clear qR
      try clear qV
      try clear qW
      try clear qX
      try clear qz
      try clear qA
      try clear qB
      try clear qg
      try clear p1
      try clear p11
      try clear p117
      try clear p2
      try clear p6
      try clear q1
      try clear q11
      try clear q117
      obtain ⟨kq, qL, rfl, HA, HJ33, qa, HB⟩ := hcut
      cases kq with
      | zero => exact absurd HA.out (by simp [spec_FormatAtom.j3])
      | succ kj33 =>
       have H := HA.out
       clear HA
       simp only [spec_FormatAtom.j3] at H
       have HC39 := Aside0.mk H
       clear H
       go_upto_if 53 with (fail)
       go_cut [3] (fun v3 wc => ∃ (kq : Nat) (qd : ByteArray), v3 = .string qd ∧ Aside0 (spec_FormatAtom.j4 kq qd l0_0 a0_1 a0_2 = some r) ∧ Aside0 (kq ≤ kj33) ∧ Aside0 (wc.heap[qc]? = some (.cells #[(.slice A0_0 l0_0.length c0_0), .int .i64 a0_1, .bool a0_2] 27 (0, 0))) ∧ Aside0 (Below w.heap.size w wc))
       case first =>
        have H := HC39.out
        clear HC39
        by_cases c40 : qL = true
        ·
         subst c40
         have H1 : (if qh.size + 1 ≤ 9223372036854775807 then (spec_FormatAtom.j4 kj33 (qh ++ (⟨#[43]⟩ : ByteArray)) l0_0 a0_1 a0_2) else (none)) = some r := by rw [if_pos rfl] at H; exact H
         clear H
         have H := H1
         clear H1
         by_cases c41 : qh.size + 1 ≤ 9223372036854775807
         ·
          rw [if_pos c41] at H
          have zY := eq_true c41
          have zZ : decide (qh.size + 1 ≤ 9223372036854775807) = true := decide_eq_true c41
          try have z0 : (9223372036854775807 < qh.size + 1) = False := eq_false (Nat.not_lt.2 c41)
          have H' := Aside0.mk H
          clear H
          go_wp2
          go_meet
          case rel => exact ⟨_, (qh ++ (⟨#[43]⟩ : ByteArray)), (by first | rfl | (simp; done) | (simp [*]; done)), H', ⟨by have := HK1.out; have := HJ33.out; first | omega | exact Nat.le_refl _⟩, ⟨kf_ qa⟩, ⟨bb_ HB⟩⟩
         ·
          rw [if_neg c41] at H
          exact absurd H (by simp)
        ·
         replace c40 := Bool.eq_false_iff.mpr c40
         subst c40
         have H1 : (spec_FormatAtom.j4 kj33 qh l0_0 a0_1 a0_2) = some r := by rw [if_neg (show ¬ (false = true) by decide)] at H; exact H
         clear H
         have H := H1
         clear H1
         have H' := Aside0.mk H
         clear H
         go_wp2
         go_meet
         case rel => exact ⟨_, (qh), (by first | rfl | (simp; done) | (simp [*]; done)), H', ⟨by have := HK1.out; have := HJ33.out; first | omega | exact Nat.le_refl _⟩, ⟨kf_ qa⟩, ⟨bb_ HB⟩⟩
       case rest =>
        clear HC39
        try clear c1
        try clear p1
        try clear q1
        try clear hx1
        try clear c2
        try clear p2
        try clear c3
        try clear c4
        try clear c5
        try clear p6
        try clear c7
        try clear zb
        try clear c8
        try clear ze
        try clear c9
        try clear zc
        try clear zd
        try clear p11
        try clear q11
        try clear hx11
        try clear c12
        try clear c13
        try clear qi
        try clear c15
        try clear c16
        try clear q0
        try clear q2
        try clear q3
        try clear c17
        try clear q4
        try clear q5
        try clear c18
        try clear zg
        try clear zh
        try clear zi
        try clear c19
        try clear zj
        try clear zk
        try clear c20
        try clear zl
        try clear zm
        try clear c21
        try clear zn
        try clear zo
        try clear c22
        try clear zp
        try clear zq
        try clear q6
        try clear c23
        try clear q7
        try clear q8
        try clear c24
        try clear zr
        try clear zs
        try clear c25
        try clear zt
        try clear zu
        try clear c26
        try clear zv
        try clear zw
        try clear c27
        try clear zx
        try clear zy
        try clear zz
        try clear c29
        try clear zA
        try clear zB
        try clear zC
        try clear c30
        try clear zD
        try clear zE
        try clear c31
        try clear zF
        try clear zG
        try clear c32
        try clear zH
        try clear zI
        try clear c33
        try clear zJ
        try clear zK
        try clear q9
        try clear c36
        try clear qC
        try clear c40
        try clear c41
        try clear zY
        try clear zZ
        try clear z0
        try clear qk
        try clear ql
        try clear qm
        try clear qq
        try clear qr
        try clear qs
        try clear qF
        try clear qG
        try clear qH
        try clear qM
        try clear qN
        try clear qO
        try clear qS
        try clear qT
        try clear qU
        try clear qw
        try clear qx
        try clear qy
        try clear qn
        try clear qo
        try clear qp
        try clear qt
        try clear qu
        try clear qv
        try clear qI
        try clear qJ
        try clear qK
        try clear qP
        try clear qQ
        try clear qR
        try clear qV
        try clear qW
        try clear qX
        try clear qz
        try clear qA
        try clear qB
        try clear qg
        try clear p1
        try clear p11
        try clear p117
        try clear p2
        try clear p6
        try clear q1
        try clear q11
        try clear q117
        obtain ⟨kq, qd, rfl, HA, HJ38, qa, HB⟩ := hcut
        cases kq with
        | zero => exact absurd HA.out (by simp [spec_FormatAtom.j4])
        | succ kj38 =>
         have H := HA.out
         clear HA
         simp only [spec_FormatAtom.j4] at H
         have HC42 := Aside0.mk H
         clear H
         go_upto_region 18 with (fail)
         go_cut [62] (fun v62 wc => ∃ (kq : Nat) (qY : Bool), v62 = .bool qY ∧ Aside0 (spec_FormatAtom.j5 kq qd qY l0_0 a0_1 a0_2 = some r) ∧ Aside0 (kq ≤ kj38) ∧ Aside0 (wc.heap[qc]? = some (.cells #[(.slice A0_0 l0_0.length c0_0), .int .i64 a0_1, .bool a0_2] 27 (0, 0))) ∧ Aside0 (Below w.heap.size w wc))
         case first =>
          have H := HC42.out
          clear HC42
          by_cases c43 : a0_1 = 0
          ·
           rw [if_pos c43] at H
           have qD : (a0_1 == 0) = true := beq_iff_eq.mpr c43
           have z1 : (a0_1 != 0) = false := bne_eq_false_iff_eq.mpr c43
           clear c43
           (first | rw [qD] | (simp only [i64_w, i32_w]; rw [qD]) | skip)
           have H' := Aside0.mk H
           clear H
           have zL : wc.cell? ⟨qc, 0, none⟩ = some (.slice A0_0 l0_0.length c0_0) := bc_ qa 0
           have zM : wc.cell? ⟨qc, 1, none⟩ = some (.int .i64 a0_1) := bc_ qa 1
           have zN : wc.cell? ⟨qc, 2, none⟩ = some (.bool a0_2) := bc_ qa 2
           have zO := blk_frozen qa.out 0
           have zP := blk_frozen qa.out 1
           have zQ := blk_frozen qa.out 2
           go_wp2
           go_meet
           case rel => exact ⟨_, ((qd.toList == ([] : List UInt8))), (by first | rfl | (simp; done) | (simp [*]; done)), H', ⟨by have := HK1.out; have := HJ33.out; have := HJ38.out; first | omega | exact Nat.le_refl _⟩, ⟨kf_ qa⟩, ⟨bb_ HB⟩⟩
          ·
           rw [if_neg c43] at H
           have qD : (a0_1 == 0) = false := beq_eq_false_iff_ne.mpr c43
           have z1 : (a0_1 != 0) = true := bne_iff_ne.mpr c43
           (first | rw [qD] | (simp only [i64_w, i32_w]; rw [qD]) | skip)
           have H' := Aside0.mk H
           clear H
           have zR : wc.cell? ⟨qc, 0, none⟩ = some (.slice A0_0 l0_0.length c0_0) := bc_ qa 0
           have zS : wc.cell? ⟨qc, 1, none⟩ = some (.int .i64 a0_1) := bc_ qa 1
           have zT : wc.cell? ⟨qc, 2, none⟩ = some (.bool a0_2) := bc_ qa 2
           have zU := blk_frozen qa.out 0
           have zV := blk_frozen qa.out 1
           have zW := blk_frozen qa.out 2
           go_wp2
           go_meet
           case rel => exact ⟨_, (true), (by first | rfl | (simp; done) | (simp [*]; done)), H', ⟨by have := HK1.out; have := HJ33.out; have := HJ38.out; first | omega | exact Nat.le_refl _⟩, ⟨kf_ qa⟩, ⟨bb_ HB⟩⟩
         case rest =>
          clear HC42
          try clear c1
          try clear p1
          try clear q1
          try clear hx1
          try clear c2
          try clear p2
          try clear c3
          try clear c4
          try clear c5
          try clear p6
          try clear c7
          try clear zb
          try clear c8
          try clear ze
          try clear c9
          try clear zc
          try clear zd
          try clear p11
          try clear q11
          try clear hx11
          try clear c12
          try clear c13
          try clear qi
          try clear c15
          try clear c16
          try clear q0
          try clear q2
          try clear q3
          try clear c17
          try clear q4
          try clear q5
          try clear c18
          try clear zg
          try clear zh
          try clear zi
          try clear c19
          try clear zj
          try clear zk
          try clear c20
          try clear zl
          try clear zm
          try clear c21
          try clear zn
          try clear zo
          try clear c22
          try clear zp
          try clear zq
          try clear q6
          try clear c23
          try clear q7
          try clear q8
          try clear c24
          try clear zr
          try clear zs
          try clear c25
          try clear zt
          try clear zu
          try clear c26
          try clear zv
          try clear zw
          try clear c27
          try clear zx
          try clear zy
          try clear zz
          try clear c29
          try clear zA
          try clear zB
          try clear zC
          try clear c30
          try clear zD
          try clear zE
          try clear c31
          try clear zF
          try clear zG
          try clear c32
          try clear zH
          try clear zI
          try clear c33
          try clear zJ
          try clear zK
          try clear q9
          try clear c36
          try clear qC
          try clear c40
          try clear c41
          try clear zY
          try clear zZ
          try clear z0
          try clear c43
          try clear qD
          try clear z1
          try clear qk
          try clear ql
          try clear qm
          try clear qq
          try clear qr
          try clear qs
          try clear qF
          try clear qG
          try clear qH
          try clear qM
          try clear qN
          try clear qO
          try clear qS
          try clear qT
          try clear qU
          try clear zL
          try clear zM
          try clear zN
          try clear zR
          try clear zS
          try clear zT
          try clear qw
          try clear qx
          try clear qy
          try clear qn
          try clear qo
          try clear qp
          try clear qt
          try clear qu
          try clear qv
          try clear qI
          try clear qJ
          try clear qK
          try clear qP
          try clear qQ
          try clear qR
          try clear qV
          try clear qW
          try clear qX
          try clear zO
          try clear zP
          try clear zQ
          try clear zU
          try clear zV
          try clear zW
          try clear qz
          try clear qA
          try clear qB
          try clear qg
          try clear p1
          try clear p11
          try clear p117
          try clear p2
          try clear p6
          try clear q1
          try clear q11
          try clear q117
          obtain ⟨kq, qY, rfl, HA, HJ41, qa, HB⟩ := hcut
          cases kq with
          | zero => exact absurd HA.out (by simp [spec_FormatAtom.j5])
          | succ kj41 =>
           have H := HA.out
           clear HA
           simp only [spec_FormatAtom.j5] at H
           by_cases c46 : qY = true
           ·
            subst c46
            have H1 : ((spec_FormatInt.f kj41 a0_1).bind fun qf => (if qd.size + qf.size ≤ 9223372036854775807 then (if a0_2 = true then (if (qd ++ qf).size + 2 ≤ 9223372036854775807 then (some ((qd ++ qf) ++ (⟨#[60, 48]⟩ : ByteArray))) else (none)) else (if (qd ++ qf).size + 3 ≤ 9223372036854775807 then (some ((qd ++ qf) ++ (⟨#[60, 61, 48]⟩ : ByteArray))) else (none))) else (none))) = some r := by rw [if_pos rfl] at H; exact H
            clear H
            have H := H1
            clear H1
            replace H := Option.bind_eq_some_iff.mp H
            obtain ⟨qf, A470, H⟩ := H
            replace H : (if qd.size + qf.size ≤ 9223372036854775807 then (if a0_2 = true then (if (qd ++ qf).size + 2 ≤ 9223372036854775807 then (some ((qd ++ qf) ++ (⟨#[60, 48]⟩ : ByteArray))) else (none)) else (if (qd ++ qf).size + 3 ≤ 9223372036854775807 then (some ((qd ++ qf) ++ (⟨#[60, 61, 48]⟩ : ByteArray))) else (none))) else (none)) = some r := H
            have A47 := Aside0.mk A470
            clear A470
            by_cases c48 : qd.size + qf.size ≤ 9223372036854775807
            ·
             rw [if_pos c48] at H
             have jF := eq_true c48
             have jG : decide (qd.size + qf.size ≤ 9223372036854775807) = true := decide_eq_true c48
             try have jH : (9223372036854775807 < qd.size + qf.size) = False := eq_false (Nat.not_lt.2 c48)
             by_cases c49 : a0_2 = true
             ·
              subst c49
              have H1 : (if (qd ++ qf).size + 2 ≤ 9223372036854775807 then (some ((qd ++ qf) ++ (⟨#[60, 48]⟩ : ByteArray))) else (none)) = some r := by rw [if_pos rfl] at H; exact H
              clear H
              have H := H1
              clear H1
              by_cases c50 : (qd ++ qf).size + 2 ≤ 9223372036854775807
              ·
               rw [if_pos c50] at H
               have jI := eq_true c50
               have jJ : decide ((qd ++ qf).size + 2 ≤ 9223372036854775807) = true := decide_eq_true c50
               try have z6 : (9223372036854775807 < (qd ++ qf).size + 2) = False := eq_false (Nat.not_lt.2 c50)
               try (have z7 := z6; simp only [ByteArray.size_append, show ∀ c, (ByteArray.mk #[c]).size = 1 from fun _ => rfl, show ∀ c d, (ByteArray.mk #[c, d]).size = 2 from fun _ _ => rfl, show ∀ c d e, (ByteArray.mk #[c, d, e]).size = 3 from fun _ _ _ => rfl] at z7)
               obtain rfl := Option.some.inj H
               have ja : wc.cell? ⟨qc, 0, none⟩ = some (.slice A0_0 l0_0.length c0_0) := bc_ qa 0
               have jb : wc.cell? ⟨qc, 1, none⟩ = some (.int .i64 a0_1) := bc_ qa 1
               have jc : wc.cell? ⟨qc, 2, none⟩ = some (.bool true) := bc_ qa 2
               have jd := blk_frozen qa.out 0
               have je := blk_frozen qa.out 1
               have jf := blk_frozen qa.out 2
               go_wp2_with (first | ((with_reducible refine gate_callee (f := 50) rfl ?_); refine goesL_ (some 66) rfl rfl Tryd.func50 (by kernel_rfl) rfl #[.int .i64 a0_1] rfl (by (try simp only [List.map_toArray, List.map_cons, List.map_nil]); first | done | rfl | (simp only [List.length_drop, List.length_take]; rfl)) ?_; (with_reducible refine (spec_FormatInt.calls kj41 a0_1 qf _ A47.out).mono ?_); rintro e w' ⟨rfl, ⟨nd, rfl⟩⟩; refine ⟨_, rfl, ?_⟩))
               go_ret
               exact ⟨by first | rfl | (simp [errW_none, errW_some] <;> rfl) | (simp [*, errW_none, errW_some] <;> rfl), bb_ HB⟩
              ·
               rw [if_neg c50] at H
               exact absurd H (by simp)
             ·
              replace c49 := Bool.eq_false_iff.mpr c49
              subst c49
              have H1 : (if (qd ++ qf).size + 3 ≤ 9223372036854775807 then (some ((qd ++ qf) ++ (⟨#[60, 61, 48]⟩ : ByteArray))) else (none)) = some r := by rw [if_neg (show ¬ (false = true) by decide)] at H; exact H
              clear H
              have H := H1
              clear H1
              by_cases c52 : (qd ++ qf).size + 3 ≤ 9223372036854775807
              ·
               rw [if_pos c52] at H
               have jK := eq_true c52
               have jL : decide ((qd ++ qf).size + 3 ≤ 9223372036854775807) = true := decide_eq_true c52
               try have z8 : (9223372036854775807 < (qd ++ qf).size + 3) = False := eq_false (Nat.not_lt.2 c52)
               try (have z9 := z8; simp only [ByteArray.size_append, show ∀ c, (ByteArray.mk #[c]).size = 1 from fun _ => rfl, show ∀ c d, (ByteArray.mk #[c, d]).size = 2 from fun _ _ => rfl, show ∀ c d e, (ByteArray.mk #[c, d, e]).size = 3 from fun _ _ _ => rfl] at z9)
               obtain rfl := Option.some.inj H
               have jg : wc.cell? ⟨qc, 0, none⟩ = some (.slice A0_0 l0_0.length c0_0) := bc_ qa 0
               have jh : wc.cell? ⟨qc, 1, none⟩ = some (.int .i64 a0_1) := bc_ qa 1
               have ji : wc.cell? ⟨qc, 2, none⟩ = some (.bool false) := bc_ qa 2
               have jj := blk_frozen qa.out 0
               have jk := blk_frozen qa.out 1
               have jl := blk_frozen qa.out 2
               go_wp2_with (first | ((with_reducible refine gate_callee (f := 50) rfl ?_); refine goesL_ (some 66) rfl rfl Tryd.func50 (by kernel_rfl) rfl #[.int .i64 a0_1] rfl (by (try simp only [List.map_toArray, List.map_cons, List.map_nil]); first | done | rfl | (simp only [List.length_drop, List.length_take]; rfl)) ?_; (with_reducible refine (spec_FormatInt.calls kj41 a0_1 qf _ A47.out).mono ?_); rintro e w' ⟨rfl, ⟨nd, rfl⟩⟩; refine ⟨_, rfl, ?_⟩))
               go_ret
               exact ⟨by first | rfl | (simp [errW_none, errW_some] <;> rfl) | (simp [*, errW_none, errW_some] <;> rfl), bb_ HB⟩
              ·
               rw [if_neg c52] at H
               exact absurd H (by simp)
            ·
             rw [if_neg c48] at H
             exact absurd H (by simp)
           ·
            replace c46 := Bool.eq_false_iff.mpr c46
            subst c46
            have H1 : (if a0_2 = true then (if qd.size + 2 ≤ 9223372036854775807 then (some (qd ++ (⟨#[60, 48]⟩ : ByteArray))) else (none)) else (if qd.size + 3 ≤ 9223372036854775807 then (some (qd ++ (⟨#[60, 61, 48]⟩ : ByteArray))) else (none))) = some r := by rw [if_neg (show ¬ (false = true) by decide)] at H; exact H
            clear H
            have H := H1
            clear H1
            by_cases c54 : a0_2 = true
            ·
             subst c54
             have H1 : (if qd.size + 2 ≤ 9223372036854775807 then (some (qd ++ (⟨#[60, 48]⟩ : ByteArray))) else (none)) = some r := by rw [if_pos rfl] at H; exact H
             clear H
             have H := H1
             clear H1
             by_cases c55 : qd.size + 2 ≤ 9223372036854775807
             ·
              rw [if_pos c55] at H
              have jM := eq_true c55
              have jN : decide (qd.size + 2 ≤ 9223372036854775807) = true := decide_eq_true c55
              try have jO : (9223372036854775807 < qd.size + 2) = False := eq_false (Nat.not_lt.2 c55)
              obtain rfl := Option.some.inj H
              have jm : wc.cell? ⟨qc, 0, none⟩ = some (.slice A0_0 l0_0.length c0_0) := bc_ qa 0
              have jn : wc.cell? ⟨qc, 1, none⟩ = some (.int .i64 a0_1) := bc_ qa 1
              have jo : wc.cell? ⟨qc, 2, none⟩ = some (.bool true) := bc_ qa 2
              have jp := blk_frozen qa.out 0
              have jq := blk_frozen qa.out 1
              have jr := blk_frozen qa.out 2
              go_wp2
              go_ret
              exact ⟨by first | rfl | (simp [errW_none, errW_some] <;> rfl) | (simp [*, errW_none, errW_some] <;> rfl), bb_ HB⟩
             ·
              rw [if_neg c55] at H
              exact absurd H (by simp)
            ·
             replace c54 := Bool.eq_false_iff.mpr c54
             subst c54
             have H1 : (if qd.size + 3 ≤ 9223372036854775807 then (some (qd ++ (⟨#[60, 61, 48]⟩ : ByteArray))) else (none)) = some r := by rw [if_neg (show ¬ (false = true) by decide)] at H; exact H
             clear H
             have H := H1
             clear H1
             by_cases c57 : qd.size + 3 ≤ 9223372036854775807
             ·
              rw [if_pos c57] at H
              have jP := eq_true c57
              have jQ : decide (qd.size + 3 ≤ 9223372036854775807) = true := decide_eq_true c57
              try have jR : (9223372036854775807 < qd.size + 3) = False := eq_false (Nat.not_lt.2 c57)
              obtain rfl := Option.some.inj H
              have js : wc.cell? ⟨qc, 0, none⟩ = some (.slice A0_0 l0_0.length c0_0) := bc_ qa 0
              have jt : wc.cell? ⟨qc, 1, none⟩ = some (.int .i64 a0_1) := bc_ qa 1
              have ju : wc.cell? ⟨qc, 2, none⟩ = some (.bool false) := bc_ qa 2
              have jv := blk_frozen qa.out 0
              have jw := blk_frozen qa.out 1
              have jx := blk_frozen qa.out 2
              go_wp2
              go_ret
              exact ⟨by first | rfl | (simp [errW_none, errW_some] <;> rfl) | (simp [*, errW_none, errW_some] <;> rfl), bb_ HB⟩
             ·
              rw [if_neg c57] at H
              exact absurd H (by simp)
 ·
  replace c3 := Bool.eq_false_iff.mpr c3
  subst c3
  have H1 : (some (⟨#[]⟩ : ByteArray)) = some r := by rw [if_neg (show ¬ (false = true) by decide)] at H; exact H
  clear H
  have H := H1
  clear H1
  obtain rfl := Option.some.inj H
  go_enter Tryd.func12, Tryd.ntmps12
  go_wp2_with (first | ((with_reducible refine gate_dst (N := 1) rfl ?_); refine box_event ?hg (N := 1) ?hd (cs := #[.slice A0_0 l0_0.length c0_0, .int .i64 a0_1, .bool a0_2]) (t := 27) ?hr ?_; (case hd => rfl); (case hg => rfl); (case hr => first | (go_simp; done) | (go_simp; rfl)); intro qc hg jE hbox hb; have qa := Aside0.mk (hbox); have z2 := Aside0.mk ((by rw [hg]; exact (bz_ HB) : w.heap.size ≤ qc)); have z3 := Aside0.mk ((by rw [hg]; exact (bz_ HB) : w.heap.size ≤ qc)); replace HB := bS_ HB hb; clear hb hbox hg; have jy : jE.cell? ⟨qc, 0, none⟩ = some (.slice A0_0 l0_0.length c0_0) := bc_ qa 0; have jz : jE.cell? ⟨qc, 1, none⟩ = some (.int .i64 a0_1) := bc_ qa 1; have jA : jE.cell? ⟨qc, 2, none⟩ = some (.bool a0_2) := bc_ qa 2; have jB := blk_frozen qa.out 0; have jC := blk_frozen qa.out 1; have jD := blk_frozen qa.out 2) | ((with_reducible refine gate_callee (f := 46) rfl ?_); refine goesL_ (some 7) rfl rfl Tryd.func46 (by kernel_rfl) rfl #[.agg #[.slice A0_0 l0_0.length c0_0, .int .i64 a0_1, .bool a0_2]] rfl (by (try simp only [List.map_toArray, List.map_cons, List.map_nil]); first | done | rfl | (simp only [List.length_drop, List.length_take]; rfl)) ?_; (with_reducible refine (spec_IsAtom.calls k _ _ l0_0 a0_1 a0_2 false _ ?side1 ?side2 A2.out).mono ?_); (case side1 => exact cb_ qZ HB); (case side2 => exact zX.out); rintro e jS ⟨rfl, hb⟩; refine ⟨_, rfl, ?_⟩; replace qa := kB_ qa hb; replace HB := bS_ HB hb; (try clear hb); (try clear hb2); (try clear hk); (try clear hi)))
  go_ret
  exact ⟨by first | rfl | (simp [errW_none, errW_some] <;> rfl) | (simp [*, errW_none, errW_some] <;> rfl), bb_ HB⟩

end Go.Proofs.YtohoibekddhneaaDoor.PFnExactParseAtom
