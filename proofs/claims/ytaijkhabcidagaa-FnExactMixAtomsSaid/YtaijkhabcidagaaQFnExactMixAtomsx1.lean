/- The functions that the law FnExactMixAtoms reaches, each as a Lean function with the same answers, and the proof that the call comes to exactly these: turned by program out of the printed texts. No condition but those that each theorem names. -/
import Derived.Test.YtaijkhabcidagaaQFnExactMixAtomsx0
namespace Go.Proofs.Ytaijkhabcidagaa.PFnExactMixAtoms
open Go.RowKit Go.Proofs.YtaijkhabcidagaaW.PrintWords Go.Proofs.YtaijkhabcidagaaW.PrintLast Go.Proofs.YtaijkhabcidagaaW.PrintMore
attribute [local go_sem] max2_int min2_int max_two min_two max_three min_three max_four min_four   -- for this text's walks alone
set_option linter.unusedVariables false
set_option linter.unusedSimpArgs false

/-! ### laws_szIntS: function 52 -/
def laws_szIntS.f (l0 : List Int) (a1 : Int) : Option (Int) := if (wrap64 (a1 - (l0.length : Int))) < 0 then (some (-1)) else (some (wrap64 (a1 - (l0.length : Int))))
set_option maxHeartbeats 8000000 in
set_option maxRecDepth 100000 in
theorem laws_szIntS.calls (A0 : Option Addr) (c0 : Nat) (l0 : List Int) (a1 : Int) (r : Int) (w : World) (hr0 : Kd.C (Kd.int .i64) w A0 l0.length l0) (hc0 : l0.length ≤ c0) (h : laws_szIntS.f l0 a1 = some r) :
  Calls Try.prog 52 #[.slice A0 l0.length c0, .int .i64 a1] w fun e w' => e = .returned (.int .i64 r) ∧ Drawn0 w w' := by
 have HR0 := Aside0.mk hr0
 have HC0 := Aside0.mk hc0
 clear hr0 hc0
 have H : (if (wrap64 (a1 - (l0.length : Int))) < 0 then (some (-1)) else (some (wrap64 (a1 - (l0.length : Int))))) = some r := h
 clear h
 by_cases c3 : (wrap64 (a1 - (l0.length : Int))) < 0
 ·
  rw [if_pos c3] at H
  have qa : decide ((wrap64 (a1 - (l0.length : Int))) < 0) = true := decide_eq_true c3
  clear c3
  obtain rfl := Option.some.inj H
  go_enter Try.func52, Try.ntmps52
  go_wp2
  go_ret
  exact ⟨by first | rfl | (simp; done) | (simp [*]; done), by repeat (first | exact Drawn0.refl _ | apply Drawn0.step)⟩
 ·
  rw [if_neg c3] at H
  have qa : decide ((wrap64 (a1 - (l0.length : Int))) < 0) = false := decide_eq_false c3
  clear c3
  obtain rfl := Option.some.inj H
  go_enter Try.func52, Try.ntmps52
  go_wp2
  go_ret
  exact ⟨by first | rfl | (simp; done) | (simp [*]; done), by repeat (first | exact Drawn0.refl _ | apply Drawn0.step)⟩

/-! ### laws_szAtom: function 13 -/
def laws_szAtom.f (l0_0 : List Int) (a0_1 : Int) (a0_2 : Bool) (a1 : Int) : Option (Int) := (laws_szIntS.f l0_0 a1).bind fun qc => (if qc < 0 then (some (-1)) else (some qc))
set_option maxHeartbeats 8000000 in
set_option maxRecDepth 100000 in
theorem laws_szAtom.calls (A0_0 : Option Addr) (c0_0 : Nat) (l0_0 : List Int) (a0_1 : Int) (a0_2 : Bool) (a1 : Int) (r : Int) (w : World) (hr0_0 : Kd.C (Kd.int .i64) w A0_0 l0_0.length l0_0) (hc0_0 : l0_0.length ≤ c0_0) (h : laws_szAtom.f l0_0 a0_1 a0_2 a1 = some r) :
  Calls Try.prog 13 #[.agg #[.slice A0_0 l0_0.length c0_0, .int .i64 a0_1, .bool a0_2], .int .i64 a1] w fun e w' => e = .returned (.int .i64 r) ∧ Below w.heap.size w w' := by
 have hu24 := Try.underlying24
 have qd := Aside0.mk hr0_0
 have qe := Aside0.mk hc0_0
 clear hr0_0 hc0_0
 have HB := Aside0.mk (Below.refl w.heap.size w)
 have H : ((laws_szIntS.f l0_0 a1).bind fun qc => (if qc < 0 then (some (-1)) else (some qc))) = some r := h
 clear h
 replace H := Option.bind_eq_some_iff.mp H
 obtain ⟨qc, A30, H⟩ := H
 replace H : (if qc < 0 then (some (-1)) else (some qc)) = some r := H
 have A3 := Aside0.mk A30
 clear A30
 by_cases c4 : qc < 0
 ·
  rw [if_pos c4] at H
  have qh : decide (qc < 0) = true := decide_eq_true c4
  clear c4
  obtain rfl := Option.some.inj H
  go_enter Try.func13, Try.ntmps13
  go_wp2_with (first | ((with_reducible refine gate_dst (N := 2) rfl ?_); refine box_event ?hg (N := 2) ?hd (cs := #[.slice A0_0 l0_0.length c0_0, .int .i64 a0_1, .bool a0_2]) (t := 24) ?hr ?_; (case hd => rfl); (case hg => rfl); (case hr => first | (go_simp; done) | (go_simp; rfl)); intro qb hg w5 hbox hb; have qa := Aside0.mk (hbox); have qf := Aside0.mk ((by rw [hg]; exact (bz_ HB) : w.heap.size ≤ qb)); have qg := Aside0.mk ((by rw [hg]; exact (bz_ HB) : w.heap.size ≤ qb)); replace HB := bS_ HB hb; clear hb hbox hg; have qi : w5.cell? ⟨qb, 0, none⟩ = some (.slice A0_0 l0_0.length c0_0) := bc_ qa 0; have qj : w5.cell? ⟨qb, 1, none⟩ = some (.int .i64 a0_1) := bc_ qa 1; have qk : w5.cell? ⟨qb, 2, none⟩ = some (.bool a0_2) := bc_ qa 2; have ql := blk_frozen qa.out 0; have qm := blk_frozen qa.out 1; have qn := blk_frozen qa.out 2) | ((with_reducible refine gate_callee (f := 52) rfl ?_); refine goesL_ (some 8) rfl rfl Try.func52 (by kernel_rfl) rfl #[.slice A0_0 l0_0.length c0_0, .int .i64 a1] rfl (by (try simp only [List.map_toArray, List.map_cons, List.map_nil]); first | done | rfl | (simp only [List.length_drop, List.length_take]; rfl)) ?_; (with_reducible refine (laws_szIntS.calls _ _ l0_0 a1 qc _ ?side1 ?side2 A3.out).mono ?_); (case side1 => exact cb_ qd HB); (case side2 => exact qe.out); rintro e w' ⟨rfl, ⟨nd, rfl⟩⟩; refine ⟨_, rfl, ?_⟩))
  go_ret
  exact ⟨by first | rfl | (simp [errW_none, errW_some] <;> rfl) | (simp [*, errW_none, errW_some] <;> rfl), bb_ HB⟩
 ·
  rw [if_neg c4] at H
  have qh : decide (qc < 0) = false := decide_eq_false c4
  clear c4
  obtain rfl := Option.some.inj H
  go_enter Try.func13, Try.ntmps13
  go_wp2_with (first | ((with_reducible refine gate_dst (N := 2) rfl ?_); refine box_event ?hg (N := 2) ?hd (cs := #[.slice A0_0 l0_0.length c0_0, .int .i64 a0_1, .bool a0_2]) (t := 24) ?hr ?_; (case hd => rfl); (case hg => rfl); (case hr => first | (go_simp; done) | (go_simp; rfl)); intro qb hg w7 hbox hb; have qa := Aside0.mk (hbox); have qf := Aside0.mk ((by rw [hg]; exact (bz_ HB) : w.heap.size ≤ qb)); have qg := Aside0.mk ((by rw [hg]; exact (bz_ HB) : w.heap.size ≤ qb)); replace HB := bS_ HB hb; clear hb hbox hg; have qo : w7.cell? ⟨qb, 0, none⟩ = some (.slice A0_0 l0_0.length c0_0) := bc_ qa 0; have qp : w7.cell? ⟨qb, 1, none⟩ = some (.int .i64 a0_1) := bc_ qa 1; have qq : w7.cell? ⟨qb, 2, none⟩ = some (.bool a0_2) := bc_ qa 2; have qr := blk_frozen qa.out 0; have qs := blk_frozen qa.out 1; have qt := blk_frozen qa.out 2) | ((with_reducible refine gate_callee (f := 52) rfl ?_); refine goesL_ (some 8) rfl rfl Try.func52 (by kernel_rfl) rfl #[.slice A0_0 l0_0.length c0_0, .int .i64 a1] rfl (by (try simp only [List.map_toArray, List.map_cons, List.map_nil]); first | done | rfl | (simp only [List.length_drop, List.length_take]; rfl)) ?_; (with_reducible refine (laws_szIntS.calls _ _ l0_0 a1 qc _ ?side1 ?side2 A3.out).mono ?_); (case side1 => exact cb_ qd HB); (case side2 => exact qe.out); rintro e w' ⟨rfl, ⟨nd, rfl⟩⟩; refine ⟨_, rfl, ?_⟩))
  go_ret
  exact ⟨by first | rfl | (simp [errW_none, errW_some] <;> rfl) | (simp [*, errW_none, errW_some] <;> rfl), bb_ HB⟩

/-! ### laws_toIntS: function 21 -/
def laws_toIntS.l0 : Nat → List Int → List Int → Int → Option (List Int)
 | 0, _, _, _ => none
 | k + 1, x0, x3, x4 => if x4 < (x0.length : Int) then (if 0 ≤ x4 then (if x4 < (x3.length : Int) then (laws_toIntS.l0 k x0 (x3.set (x4 : Int).toNat (rd x0 x4)) (wrap64 (x4 + 1))) else (none)) else (none)) else (some x3)
def laws_toIntS.f (k : Nat) (l0 : List Int) : Option (List Int) := if 0 ≤ (l0.length : Int) then (if ((l0.length : Int) : Int).toNat ≤ 35184372088832 then (laws_toIntS.l0 k l0 (List.replicate ((l0.length : Int) : Int).toNat 0) 0) else (none)) else (none)
theorem laws_toIntS.mono_l : ∀ k, (∀ y0 y1 y2, LeO (laws_toIntS.l0 k y0 y1 y2) (laws_toIntS.l0 (k + 1) y0 y1 y2))
 | 0 => fun _ _ _ r h => by simp [laws_toIntS.l0] at h
 | k + 1 => by
  have ih0 := laws_toIntS.mono_l k
  ·
   intro y0 y1 y2
   unfold laws_toIntS.l0
   repeat' first
   | (with_reducible exact ih0 _ _ _)
   | (with_reducible exact LeO.refl _)
   | (with_reducible exact LeO.none _)
   | (with_reducible refine LeO.ite ?_ ?_)
   | (with_reducible refine LeO.bind ?_ (fun _ => ?_))
   | exact ih0 _ _ _
   | exact LeO.none _
   | refine LeO.ite ?_ ?_
   | refine LeO.bind ?_ (fun _ => ?_)
theorem laws_toIntS.mono : ∀ a0 k, LeO (laws_toIntS.f k a0) (laws_toIntS.f (k + 1) a0) := by
 intro a0 k
 have ih0 := laws_toIntS.mono_l k
 unfold laws_toIntS.f
 repeat' first
   | (with_reducible exact ih0 _ _ _)
   | (with_reducible exact LeO.refl _)
   | (with_reducible exact LeO.none _)
   | (with_reducible refine LeO.ite ?_ ?_)
   | (with_reducible refine LeO.bind ?_ (fun _ => ?_))
   | exact ih0 _ _ _
   | exact LeO.none _
   | refine LeO.ite ?_ ?_
   | refine LeO.bind ?_ (fun _ => ?_)
set_option maxHeartbeats 8000000 in
set_option maxRecDepth 100000 in
theorem laws_toIntS.calls (k : Nat) (A0 : Option Addr) (c0 : Nat) (l0 : List Int) (r : List Int) (w : World) (hr0 : Kd.C (Kd.int .i64) w A0 l0.length l0) (hc0 : l0.length ≤ c0) (h : laws_toIntS.f k l0 = some r) :
  Calls Try.prog 21 #[.slice A0 l0.length c0] w fun e w' => ∃ v0_ : Value, e = .returned (v0_) ∧ Kd.R (Kd.int .i64) 3 w' w.heap.size (fun _ => True) v0_ r ∧ Below w.heap.size w w' := by
 have HR0 := Aside0.mk hr0
 have HC0 := Aside0.mk hc0
 clear hr0 hc0
 have HB := Aside0.mk (Below.refl w.heap.size w)
 have H : (if 0 ≤ (l0.length : Int) then (if ((l0.length : Int) : Int).toNat ≤ 35184372088832 then (laws_toIntS.l0 k l0 (List.replicate ((l0.length : Int) : Int).toNat 0) 0) else (none)) else (none)) = some r := h
 clear h
 by_cases c2 : 0 ≤ (l0.length : Int)
 ·
  rw [if_pos c2] at H
  have qg := eq_true c2
  have qh : decide (0 ≤ (l0.length : Int)) = true := decide_eq_true c2
  clear c2
  by_cases c3 : ((l0.length : Int) : Int).toNat ≤ 35184372088832
  ·
   rw [if_pos c3] at H
   have qi := eq_true c3
   have qj : decide (((l0.length : Int) : Int).toNat ≤ 35184372088832) = true := decide_eq_true c3
   clear c3
   obtain ⟨y103, hy103⟩ : ∃ y_ : List Int, y_ = (List.replicate ((l0.length : Int) : Int).toNat 0) := ⟨_, rfl⟩
   replace H : (laws_toIntS.l0 k l0 y103 0) = some r := by first | (rw [hy103]; with_reducible exact H) | (have H2_ := (Option.bind_some _ _).symm.trans H; rw [hy103]; with_reducible exact H2_) | (have H2_ := (Option.bind_some _ _).symm.trans H; with_reducible exact H2_) | with_reducible exact H | (rw [hy103]; exact H) | exact H
   have Ny103 := Aside0.mk hy103
   clear hy103
   have H' := Aside0.mk H
   clear H
   go_enter Try.func21, Try.ntmps21
   go_wp2_with (first | ((with_reducible refine gate_dst (N := 7) rfl ?_); refine Kd.R_make (Kd.int .i64) _ 3 rfl (N := 7) rfl 22 _ _ rfl (l0.length : Int) rfl rfl Try.underlying22 (.int .i64 0) 8 info3 rfl (by decide) (by omega) 0 (ok := fun _ => True) (okp := fun _ => True) rfl (fun _ hk => hk) trivial (of_decide_eq_true (by first | (with_reducible assumption) | assumption)) (Nat.le_trans (Nat.mul_le_mul_right _ (of_decide_eq_true (by first | (with_reducible assumption) | assumption) : (l0.length : Int).toNat ≤ 35184372088832)) (by omega)) (Below.refl _ _) (Nat.le_refl _) ?_; intro qk w4 ho5 hb hg_ hnew_; clear hg_ hnew_; (first | rw [← Ny103.out] at ho5 | (simp only [Int.reduceToNat] at ho5; rw [← Ny103.out] at ho5)); have qf := Aside0.mk (Kd.R_lower ho5 (bz_ HB)); replace HB := bS_ HB hb; clear hb ho5))
   go_loopg [4] k (fun kq v4 w' => ∃ (qc : List Int) (qa : Int), v4 = .int .i64 qa ∧ Aside0 (laws_toIntS.l0 kq l0 qc qa = some r) ∧ Aside0 (kq ≤ k) ∧ Aside0 (Kd.R (Kd.int .i64) 3 w' w.heap.size (fun _ => True) qk qc) ∧ Aside0 (Below w.heap.size w w'))
   case atStart => exact ⟨(y103), (0), (by first | rfl | (simp; done) | (simp [*]; done)), H', ⟨Nat.le_refl _⟩, ⟨by (with_reducible repeat (first | apply Kd.R_alloc | apply Kd.R_drewN | apply Kd.R_drew)); exact qf.out⟩, ⟨bb_ HB⟩⟩
   case round =>
    clear H'
    try clear c2
    try clear qg
    try clear qh
    try clear p2
    try clear c3
    try clear qi
    try clear qj
    obtain ⟨qc, qa, rfl, HA, HK1, qd, HB⟩ := hrel
    cases gk with
    | zero => exact absurd HA.out (by simp [laws_toIntS.l0])
    | succ k1 =>
     have H := HA.out
     clear HA
     simp only [laws_toIntS.l0] at H
     by_cases c6 : qa < (l0.length : Int)
     ·
      rw [if_pos c6] at H
      have ql : decide (qa < (l0.length : Int)) = true := decide_eq_true c6
      clear c6
      by_cases c7 : 0 ≤ qa
      ·
       rw [if_pos c7] at H
       have qq : decide (0 ≤ qa) = true := decide_eq_true c7
       clear c7
       by_cases c8 : qa < (qc.length : Int)
       ·
        rw [if_pos c8] at H
        have qr : decide (qa < (qc.length : Int)) = true := decide_eq_true c8
        clear c8
        obtain ⟨y107, hy107⟩ : ∃ y_ : List Int, y_ = (qc.set (qa : Int).toNat (rd l0 qa)) := ⟨_, rfl⟩
        replace H : (laws_toIntS.l0 k1 l0 y107 (wrap64 (qa + 1))) = some r := by first | (rw [hy107]; with_reducible exact H) | (have H2_ := (Option.bind_some _ _).symm.trans H; rw [hy107]; with_reducible exact H2_) | (have H2_ := (Option.bind_some _ _).symm.trans H; with_reducible exact H2_) | with_reducible exact H | (rw [hy107]; exact H) | exact H
        have Ny107 := Aside0.mk hy107
        clear hy107
        have H' := Aside0.mk H
        clear H
        have p106 : 0 ≤ (qa : Int) := of_decide_eq_true (by first | (with_reducible assumption) | assumption)
        have q106 : qa < (l0.length : Int) := of_decide_eq_true (by first | (with_reducible assumption) | assumption)
        obtain ⟨qn, e106, qb⟩ := Kd.at_int HR0.out qa p106 q106
        cases e106
        replace qb := (HB.out.cell (World.block_lt_of_cell? w _ qb)).trans qb
        replace p106 := eq_true p106
        replace q106 := eq_true q106
        have p9 : 0 ≤ (qa : Int) := of_decide_eq_true (by first | (with_reducible assumption) | assumption)
        have q9 : (qa : Int) < ((qc.length : Int) : Int) := of_decide_eq_true (by first | (with_reducible assumption) | assumption)
        obtain ⟨go9, qs, eo9, qo, gl9, cl9, HG9⟩ := Kd.R_form qd.out (by omega)
        (first | cases eo9 | (injection eo9 with ea_ en_ ec_; (first | subst ea_ | (injection ea_ with ea_; subst ea_)); subst ec_; clear en_))
        have qt := Aside0.mk qo
        have qu := Aside0.mk HG9
        clear qo gl9 HG9
        obtain ⟨qp, hf9_0⟩ := Kd.R_celln 0 qd.out (qa : Int) p9 q9
        replace p9 := eq_true p9
        replace q9 := eq_true q9
        have qe := Kd.R_putg qd.out (qa : Int) (rd l0 qa)
        go_wp2_with (first | ((with_reducible refine gate_store (t := 3) (p := 20) rfl ?_); refine store_event (t := 3) (p := 20) (v := ?vo_w11) (w1 := (wr.setCell ⟨go9, (qa : Int).toNat, none⟩ (.int .i64 (rd l0 qa)))) ?hg ?ho ?hn ?hr ?_; (case ho => rfl); (case hg => rfl); (case hn => rfl); (case hr => first | (go_simp; done) | (go_simp; rfl)); intro qm hw; have hg : wr.grownBy qm (some go9) := (by rw [hw]; exact qe.2); have hp_ : Kd.R (Kd.int .i64) 3 qm w.heap.size (fun _ => True) (.slice (some ⟨go9, 0, none⟩) qc.length qs) y107 := (by rw [hw, Ny107.out]; exact qe.1); clear qe; replace qd := Aside0.mk (hp_); replace HB := Aside0.mk ((by rw [hw]; exact below_set (HB.out) qt.out : Below w.heap.size w qm)); clear hg hw hp_))
        go_roundg k1
        case measure => have := HK1.out; omega
        case rel => exact ⟨(y107), (wrap64 (qa + 1)), (by first | rfl | (simp; done) | (simp [*]; done)), H', ⟨by have := HK1.out; omega⟩, ⟨by (with_reducible repeat (first | apply Kd.R_alloc | apply Kd.R_drewN | apply Kd.R_drew)); exact qd.out⟩, ⟨bb_ HB⟩⟩
       ·
        rw [if_neg c8] at H
        exact absurd H (by simp)
      ·
       rw [if_neg c7] at H
       exact absurd H (by simp)
     ·
      rw [if_neg c6] at H
      have ql : decide (qa < (l0.length : Int)) = false := decide_eq_false c6
      clear c6
      obtain rfl := Option.some.inj H
      go_wp2
      go_ret
      exact ⟨_, by first | rfl | (simp [errW_none, errW_some] <;> rfl) | (simp [*, errW_none, errW_some] <;> rfl), by (with_reducible repeat (first | apply Kd.R_alloc | apply Kd.R_drewN | apply Kd.R_drew)); exact qd.out, bb_ HB⟩
  ·
   rw [if_neg c3] at H
   exact absurd H (by simp)
 ·
  rw [if_neg c2] at H
  exact absurd H (by simp)

/-! ### laws_toAtom: function 15 -/
def laws_toAtom.f (k : Nat) (l0_0 : List Int) (a0_1 : Int) (a0_2 : Bool) : Option (List Int × Int × Bool) := (laws_toIntS.f k l0_0).bind fun qh => (some (qh, a0_1, a0_2))
theorem laws_toAtom.mono : ∀ a0 a1 a2 k, LeO (laws_toAtom.f k a0 a1 a2) (laws_toAtom.f (k + 1) a0 a1 a2) := by
 intro a0 a1 a2 k
 unfold laws_toAtom.f
 repeat' first
   | (with_reducible exact laws_toIntS.mono _ _)
   | (with_reducible exact LeO.refl _)
   | (with_reducible exact LeO.none _)
   | (with_reducible refine LeO.ite ?_ ?_)
   | (with_reducible refine LeO.bind ?_ (fun _ => ?_))
   | exact laws_toIntS.mono _ _
   | exact LeO.none _
   | refine LeO.ite ?_ ?_
   | refine LeO.bind ?_ (fun _ => ?_)
set_option maxHeartbeats 8000000 in
set_option maxRecDepth 100000 in
theorem laws_toAtom.calls (k : Nat) (A0_0 : Option Addr) (c0_0 : Nat) (l0_0 : List Int) (a0_1 : Int) (a0_2 : Bool) (r1 : List Int) (r2 : Int) (r3 : Bool) (w : World) (hr0_0 : Kd.C (Kd.int .i64) w A0_0 l0_0.length l0_0) (hc0_0 : l0_0.length ≤ c0_0) (h : laws_toAtom.f k l0_0 a0_1 a0_2 = some (r1, r2, r3)) :
  Calls Try.prog 15 #[.agg #[.slice A0_0 l0_0.length c0_0, .int .i64 a0_1, .bool a0_2]] w fun e w' => ∃ v0_ : Value, e = .returned (.agg #[v0_, .int .i64 r2, .bool r3]) ∧ Kd.R (Kd.int .i64) 3 w' w.heap.size (fun _ => True) v0_ r1 ∧ Below w.heap.size w w' := by
 have hu24 := Try.underlying24
 have hu26 := Try.underlying26
 have qq := Aside0.mk hr0_0
 have qr := Aside0.mk hc0_0
 clear hr0_0 hc0_0
 have HB := Aside0.mk (Below.refl w.heap.size w)
 have H : ((laws_toIntS.f k l0_0).bind fun qh => (some (qh, a0_1, a0_2))) = some (r1, r2, r3) := h
 clear h
 replace H := Option.bind_eq_some_iff.mp H
 obtain ⟨qh, A20, H⟩ := H
 replace H : (some (qh, a0_1, a0_2)) = some (r1, r2, r3) := H
 have A2 := Aside0.mk A20
 clear A20
 simp only [Option.some.injEq, Prod.mk.injEq] at H
 obtain ⟨rfl, rfl, rfl⟩ := H
 go_enter Try.func15, Try.ntmps15
 go_wp2_with (first | ((with_reducible refine gate_dst (N := 1) rfl ?_); refine box_event ?hg (N := 1) ?hd (cs := #[.slice A0_0 l0_0.length c0_0, .int .i64 a0_1, .bool a0_2]) (t := 24) ?hr ?_; (case hd => rfl); (case hg => rfl); (case hr => first | (go_simp; done) | (go_simp; rfl)); intro qd hg w3 hbox hb; have qa := Aside0.mk (hbox); have qQ := Aside0.mk ((by rw [hg]; exact (bz_ HB) : w.heap.size ≤ qd)); have qR := Aside0.mk ((by rw [hg]; exact (bz_ HB) : w.heap.size ≤ qd)); replace HB := bS_ HB hb; clear hb hbox hg) | ((with_reducible refine gate_dst (N := 2) rfl ?_); refine box_event ?hg (N := 2) ?hd (cs := #[.slice none 0 0, .int .i64 0, .bool false]) (t := 26) ?hr ?_; (case hd => rfl); (case hg => rfl); (case hr => first | (go_simp; done) | (go_simp; rfl)); intro qc hg w4 hbox hb; have qb := Aside0.mk (hbox); have qS := Aside0.mk ((by rw [hg]; exact (bz_ HB) : w.heap.size ≤ qc)); have qT := Aside0.mk ((by rw [hg]; exact (bz_ HB) : w.heap.size ≤ qc)); replace HB := bS_ HB hb; have qi := Aside0.mk ((nl_ qa hg : qd ≠ qc)); have qj := Aside0.mk ((ng_ qa hg : qc ≠ qd)); replace qa := kB_ qa hb; clear hb hbox hg) | ((with_reducible refine gate_dst (N := 3) rfl ?_); refine box_event ?hg (N := 3) ?hd (cs := #[.slice none 0 0, .int .i64 0, .bool false]) (t := 26) ?hr ?_; (case hd => rfl); (case hg => rfl); (case hr => first | (go_simp; done) | (go_simp; rfl)); intro qe hg w5 hbox hb; have qg := Aside0.mk (hbox); have qU := Aside0.mk ((by rw [hg]; exact (bz_ HB) : w.heap.size ≤ qe)); have qV := Aside0.mk ((by rw [hg]; exact (bz_ HB) : w.heap.size ≤ qe)); replace HB := bS_ HB hb; have qk := Aside0.mk ((nl_ qa hg : qd ≠ qe)); have ql := Aside0.mk ((ng_ qa hg : qe ≠ qd)); replace qa := kB_ qa hb; have qf := Aside0.mk ((nl_ qb hg : qc ≠ qe)); have qm := Aside0.mk ((ng_ qb hg : qe ≠ qc)); replace qb := kB_ qb hb; clear hb hbox hg; have qY := qi.out; have qZ := qj.out; have q0 := qk.out; have q1 := ql.out; have qK : w5.cell? ⟨qd, 0, none⟩ = some (.slice A0_0 l0_0.length c0_0) := bc_ qa 0; have qL : w5.cell? ⟨qd, 1, none⟩ = some (.int .i64 a0_1) := bc_ qa 1; have qM : w5.cell? ⟨qd, 2, none⟩ = some (.bool a0_2) := bc_ qa 2; have qN := blk_frozen qa.out 0; have qO := blk_frozen qa.out 1; have qP := blk_frozen qa.out 2) | ((with_reducible refine gate_callee (f := 21) rfl ?_); refine goesL_ (some 6) rfl rfl Try.func21 (by kernel_rfl) rfl #[.slice A0_0 l0_0.length c0_0] rfl (by (try simp only [List.map_toArray, List.map_cons, List.map_nil]); first | done | rfl | (simp only [List.length_drop, List.length_take]; rfl)) ?_; (with_reducible refine (laws_toIntS.calls k _ _ l0_0 qh _ ?side1 ?side2 A2.out).mono ?_); (case side1 => exact cb_ qq HB); (case side2 => exact qr.out); rintro e w9 ⟨q2, rfl, ho0, hb⟩; refine ⟨_, rfl, ?_⟩; have qp := Aside0.mk (Kd.R_lower ho0 (bz_ HB)); replace qa := kB_ qa hb; replace qb := kB_ qb hb; replace qg := kB_ qg hb; replace HB := bS_ HB hb; (try clear hb); (try clear hb2); (try clear hk); (try clear hi); (try clear ho0); obtain ⟨qn, qo, eo10⟩ := Kd.R_slice qp.out; subst eo10; have qW := qm.out; have qX := qf.out; have qs : w9.cell? ⟨qe, 0, none⟩ = some (.slice none 0 0) := bc_ qg 0; have qt : w9.cell? ⟨qe, 1, none⟩ = some (.int .i64 0) := bc_ qg 1; have qu : w9.cell? ⟨qe, 2, none⟩ = some (.bool false) := bc_ qg 2; have qv := blk_frozen qg.out 0; have qw := blk_frozen qg.out 1; have qx := blk_frozen qg.out 2; have qy : w9.cell? ⟨qd, 0, none⟩ = some (.slice A0_0 l0_0.length c0_0) := bc_ qa 0; have qz : w9.cell? ⟨qd, 1, none⟩ = some (.int .i64 a0_1) := bc_ qa 1; have qA : w9.cell? ⟨qd, 2, none⟩ = some (.bool a0_2) := bc_ qa 2; have qB := blk_frozen qa.out 0; have qC := blk_frozen qa.out 1; have qD := blk_frozen qa.out 2; have qE : w9.cell? ⟨qc, 0, none⟩ = some (.slice none 0 0) := bc_ qb 0; have qF : w9.cell? ⟨qc, 1, none⟩ = some (.int .i64 0) := bc_ qb 1; have qG : w9.cell? ⟨qc, 2, none⟩ = some (.bool false) := bc_ qb 2; have qH := blk_frozen qb.out 0; have qI := blk_frozen qb.out 1; have qJ := blk_frozen qb.out 2))
 refine bodyPost_ret (results_cell_row rfl _ _ qc 26 #[.slice qn qh.length qo, .int .i64 a0_1, .bool a0_2] (0, 0) _ rfl (by (with_reducible repeat (first | refine blk_drewN ?_ _ | refine blk_drew ?_ | refine blk_alloc ?_ _)); refine blk_put (cs := #[.slice qn qh.length qo, .int .i64 a0_1, .bool false]) ?_ 2 _ rfl; (with_reducible repeat (first | refine blk_drewN ?_ _ | refine blk_drew ?_ | refine blk_alloc ?_ _)); refine blk_put (cs := #[.slice qn qh.length qo, .int .i64 0, .bool false]) ?_ 1 _ rfl; (with_reducible repeat (first | refine blk_drewN ?_ _ | refine blk_drew ?_ | refine blk_alloc ?_ _)); refine blk_put (cs := #[.slice none 0 0, .int .i64 0, .bool false]) ?_ 0 _ rfl; (with_reducible repeat (first | refine blk_drewN ?_ _ | refine blk_drew ?_ | refine blk_alloc ?_ _)); refine blk_far ?_ qf.out _; (with_reducible repeat (first | refine blk_drewN ?_ _ | refine blk_drew ?_ | refine blk_alloc ?_ _)); refine blk_far ?_ qf.out _; (with_reducible repeat (first | refine blk_drewN ?_ _ | refine blk_drew ?_ | refine blk_alloc ?_ _)); refine blk_far ?_ qf.out _; (with_reducible repeat (first | refine blk_drewN ?_ _ | refine blk_drew ?_ | refine blk_alloc ?_ _)); exact qb.out) Try.underlying26 rfl (by kernel_rfl)) rfl ?_
 exact ⟨_, by first | rfl | (simp [errW_none, errW_some] <;> rfl) | (simp [*, errW_none, errW_some] <;> rfl), by (with_reducible repeat (first | apply Kd.R_alloc | apply Kd.R_drewN | apply Kd.R_drew)); exact Kd.R_mono (Kd.R_far (p := ⟨qc, 2, none⟩) (Kd.R_far (p := ⟨qc, 1, none⟩) (Kd.R_far (p := ⟨qc, 0, none⟩) (Kd.R_far (p := ⟨qe, 2, none⟩) (Kd.R_far (p := ⟨qe, 1, none⟩) (Kd.R_far (p := ⟨qe, 0, none⟩) (Kd.R_types (Kd.R_types qp.out qg.out (by decide)) qb.out (by decide)) (fun _ hk => hk.1.2) (.slice qn qh.length qo)) (fun _ hk => hk.1.2) (.int .i64 a0_1)) (fun _ hk => hk.1.2) (.bool a0_2)) (fun _ hk => hk.2) (.slice qn qh.length qo)) (fun _ hk => hk.2) (.int .i64 a0_1)) (fun _ hk => hk.2) (.bool a0_2)) (fun _ hk => trivial), bb_ HB⟩

/-! ### laws_eqIntS: function 23 -/
def laws_eqIntS.l0 : Nat → List Int → List Int → Int → Option (Bool)
 | 0, _, _, _ => none
 | k + 1, x0, x1, x5 => if x5 < (x0.length : Int) then (if 0 ≤ x5 then (if x5 < (x1.length : Int) then (if (rd x0 x5) = (rd x1 x5) then (laws_eqIntS.l0 k x0 x1 (wrap64 (x5 + 1))) else (some false)) else (none)) else (none)) else (some true)
def laws_eqIntS.f (k : Nat) (l0 : List Int) (l1 : List Int) : Option (Bool) := if (l0.length : Int) = (l1.length : Int) then (laws_eqIntS.l0 k l0 l1 0) else (some false)
theorem laws_eqIntS.mono_l : ∀ k, (∀ y0 y1 y2, LeO (laws_eqIntS.l0 k y0 y1 y2) (laws_eqIntS.l0 (k + 1) y0 y1 y2))
 | 0 => fun _ _ _ r h => by simp [laws_eqIntS.l0] at h
 | k + 1 => by
  have ih0 := laws_eqIntS.mono_l k
  ·
   intro y0 y1 y2
   unfold laws_eqIntS.l0
   repeat' first
   | (with_reducible exact ih0 _ _ _)
   | (with_reducible exact LeO.refl _)
   | (with_reducible exact LeO.none _)
   | (with_reducible refine LeO.ite ?_ ?_)
   | (with_reducible refine LeO.bind ?_ (fun _ => ?_))
   | exact ih0 _ _ _
   | exact LeO.none _
   | refine LeO.ite ?_ ?_
   | refine LeO.bind ?_ (fun _ => ?_)
theorem laws_eqIntS.mono : ∀ a0 a1 k, LeO (laws_eqIntS.f k a0 a1) (laws_eqIntS.f (k + 1) a0 a1) := by
 intro a0 a1 k
 have ih0 := laws_eqIntS.mono_l k
 unfold laws_eqIntS.f
 repeat' first
   | (with_reducible exact ih0 _ _ _)
   | (with_reducible exact LeO.refl _)
   | (with_reducible exact LeO.none _)
   | (with_reducible refine LeO.ite ?_ ?_)
   | (with_reducible refine LeO.bind ?_ (fun _ => ?_))
   | exact ih0 _ _ _
   | exact LeO.none _
   | refine LeO.ite ?_ ?_
   | refine LeO.bind ?_ (fun _ => ?_)
set_option maxHeartbeats 8000000 in
set_option maxRecDepth 100000 in
theorem laws_eqIntS.calls (k : Nat) (A0 : Option Addr) (c0 : Nat) (l0 : List Int) (A1 : Option Addr) (c1 : Nat) (l1 : List Int) (r : Bool) (w : World) (hr0 : Kd.C (Kd.int .i64) w A0 l0.length l0) (hc0 : l0.length ≤ c0) (hr1 : Kd.C (Kd.int .i64) w A1 l1.length l1) (hc1 : l1.length ≤ c1) (h : laws_eqIntS.f k l0 l1 = some r) :
  Calls Try.prog 23 #[.slice A0 l0.length c0, .slice A1 l1.length c1] w fun e w' => e = .returned (.bool r) ∧ Drawn0 w w' := by
 have HR0 := Aside0.mk hr0
 have HC0 := Aside0.mk hc0
 clear hr0 hc0
 have HR1 := Aside0.mk hr1
 have HC1 := Aside0.mk hc1
 clear hr1 hc1
 have H : (if (l0.length : Int) = (l1.length : Int) then (laws_eqIntS.l0 k l0 l1 0) else (some false)) = some r := h
 clear h
 by_cases c3 : (l0.length : Int) = (l1.length : Int)
 ·
  rw [if_pos c3] at H
  have qd : ((l0.length : Int) == (l1.length : Int)) = true := beq_iff_eq.mpr c3
  have qe : ((l0.length : Int) != (l1.length : Int)) = false := bne_eq_false_iff_eq.mpr c3
  have qf : (l0.length == l1.length) = true := by first | simpa using c3 | (simp at c3 ⊢; omega)
  clear c3
  have H' := Aside0.mk H
  clear H
  go_enter Try.func23, Try.ntmps23
  go_wp2
  repeat (go_quiet (fail); try go_wp2)
  go_loopg [5] k (fun kq v5 w' => ∃ (qa : Int), v5 = .int .i64 qa ∧ Aside0 (laws_eqIntS.l0 kq l0 l1 qa = some r) ∧ Aside0 (kq ≤ k) ∧ Drawn0 w w')
  case atStart => exact ⟨(0), (by first | rfl | (simp; done) | (simp [*]; done)), H', ⟨Nat.le_refl _⟩, by repeat (first | exact Drawn0.refl _ | apply Drawn0.step)⟩
  case round =>
   clear H'
   try clear c1
   try clear c2
   try clear p2
   try clear c3
   try clear qd
   try clear qe
   try clear qf
   obtain ⟨qa, rfl, HA, HK1, ⟨m1, rfl⟩⟩ := hrel
   cases gk with
   | zero => exact absurd HA.out (by simp [laws_eqIntS.l0])
   | succ k1 =>
    have H := HA.out
    clear HA
    simp only [laws_eqIntS.l0] at H
    by_cases c4 : qa < (l0.length : Int)
    ·
     rw [if_pos c4] at H
     have qi : decide (qa < (l0.length : Int)) = true := decide_eq_true c4
     clear c4
     by_cases c5 : 0 ≤ qa
     ·
      rw [if_pos c5] at H
      have ql : decide (0 ≤ qa) = true := decide_eq_true c5
      clear c5
      by_cases c6 : qa < (l1.length : Int)
      ·
       rw [if_pos c6] at H
       have qm : decide (qa < (l1.length : Int)) = true := decide_eq_true c6
       clear c6
       by_cases c7 : (rd l0 qa) = (rd l1 qa)
       ·
        rw [if_pos c7] at H
        have qj : ((rd l0 qa) == (rd l1 qa)) = true := beq_iff_eq.mpr c7
        have qk : ((rd l0 qa) != (rd l1 qa)) = false := bne_eq_false_iff_eq.mpr c7
        clear c7
        have H' := Aside0.mk H
        clear H
        have p114 : 0 ≤ (qa : Int) := of_decide_eq_true (by first | (with_reducible assumption) | assumption)
        have q114 : qa < (l0.length : Int) := of_decide_eq_true (by first | (with_reducible assumption) | assumption)
        obtain ⟨qg, e114, qb⟩ := Kd.at_int HR0.out qa p114 q114
        cases e114
        replace p114 := eq_true p114
        replace q114 := eq_true q114
        have p115 : 0 ≤ (qa : Int) := of_decide_eq_true (by first | (with_reducible assumption) | assumption)
        have q115 : qa < (l1.length : Int) := of_decide_eq_true (by first | (with_reducible assumption) | assumption)
        obtain ⟨qh, e115, qc⟩ := Kd.at_int HR1.out qa p115 q115
        cases e115
        replace p115 := eq_true p115
        replace q115 := eq_true q115
        go_wp2
        repeat (go_quiet (fail); try go_wp2)
        go_roundg k1
        case measure => have := HK1.out; omega
        case rel => exact ⟨(wrap64 (qa + 1)), (by first | rfl | (simp; done) | (simp [*]; done)), H', ⟨by have := HK1.out; omega⟩, by repeat (first | exact Drawn0.refl _ | apply Drawn0.step)⟩
       ·
        rw [if_neg c7] at H
        have qj : ((rd l0 qa) == (rd l1 qa)) = false := beq_eq_false_iff_ne.mpr c7
        have qk : ((rd l0 qa) != (rd l1 qa)) = true := bne_iff_ne.mpr c7
        obtain rfl := Option.some.inj H
        have p114 : 0 ≤ (qa : Int) := of_decide_eq_true (by first | (with_reducible assumption) | assumption)
        have q114 : qa < (l0.length : Int) := of_decide_eq_true (by first | (with_reducible assumption) | assumption)
        obtain ⟨qg, e114, qb⟩ := Kd.at_int HR0.out qa p114 q114
        cases e114
        replace p114 := eq_true p114
        replace q114 := eq_true q114
        have p115 : 0 ≤ (qa : Int) := of_decide_eq_true (by first | (with_reducible assumption) | assumption)
        have q115 : qa < (l1.length : Int) := of_decide_eq_true (by first | (with_reducible assumption) | assumption)
        obtain ⟨qh, e115, qc⟩ := Kd.at_int HR1.out qa p115 q115
        cases e115
        replace p115 := eq_true p115
        replace q115 := eq_true q115
        go_wp2
        repeat (go_quiet (fail); try go_wp2)
        go_ret
        exact ⟨by first | rfl | (simp; done) | (simp [*]; done), by repeat (first | exact Drawn0.refl _ | apply Drawn0.step)⟩
      ·
       rw [if_neg c6] at H
       exact absurd H (by simp)
     ·
      rw [if_neg c5] at H
      exact absurd H (by simp)
    ·
     rw [if_neg c4] at H
     have qi : decide (qa < (l0.length : Int)) = false := decide_eq_false c4
     clear c4
     obtain rfl := Option.some.inj H
     go_wp2
     repeat (go_quiet (fail); try go_wp2)
     go_ret
     exact ⟨by first | rfl | (simp; done) | (simp [*]; done), by repeat (first | exact Drawn0.refl _ | apply Drawn0.step)⟩
 ·
  rw [if_neg c3] at H
  have qd : ((l0.length : Int) == (l1.length : Int)) = false := beq_eq_false_iff_ne.mpr c3
  have qe : ((l0.length : Int) != (l1.length : Int)) = true := bne_iff_ne.mpr c3
  have qf : (l0.length == l1.length) = false := by first | simpa using c3 | (simp at c3 ⊢; omega)
  obtain rfl := Option.some.inj H
  go_enter Try.func23, Try.ntmps23
  go_wp2
  repeat (go_quiet (fail); try go_wp2)
  go_ret
  exact ⟨by first | rfl | (simp; done) | (simp [*]; done), by repeat (first | exact Drawn0.refl _ | apply Drawn0.step)⟩

/-! ### laws_eqAtom: function 17 -/
def laws_eqAtom.f (k : Nat) (l0_0 : List Int) (a0_1 : Int) (a0_2 : Bool) (l1_0 : List Int) (a1_1 : Int) (a1_2 : Bool) : Option (Bool) := (laws_eqIntS.f k l0_0 l1_0).bind fun qk => (if qk = true then (if a0_1 = a1_1 then (if (a0_2 != a1_2) = true then (some false) else (some true)) else (some false)) else (some false))
theorem laws_eqAtom.mono : ∀ a0 a1 a2 a3 a4 a5 k, LeO (laws_eqAtom.f k a0 a1 a2 a3 a4 a5) (laws_eqAtom.f (k + 1) a0 a1 a2 a3 a4 a5) := by
 intro a0 a1 a2 a3 a4 a5 k
 unfold laws_eqAtom.f
 repeat' first
   | (with_reducible exact laws_eqIntS.mono _ _ _)
   | (with_reducible exact LeO.refl _)
   | (with_reducible exact LeO.none _)
   | (with_reducible refine LeO.ite ?_ ?_)
   | (with_reducible refine LeO.bind ?_ (fun _ => ?_))
   | exact laws_eqIntS.mono _ _ _
   | exact LeO.none _
   | refine LeO.ite ?_ ?_
   | refine LeO.bind ?_ (fun _ => ?_)
set_option maxHeartbeats 8000000 in
set_option maxRecDepth 100000 in
theorem laws_eqAtom.calls (k : Nat) (A0_0 : Option Addr) (c0_0 : Nat) (l0_0 : List Int) (a0_1 : Int) (a0_2 : Bool) (A1_0 : Option Addr) (c1_0 : Nat) (l1_0 : List Int) (a1_1 : Int) (a1_2 : Bool) (r : Bool) (w : World) (hr0_0 : Kd.C (Kd.int .i64) w A0_0 l0_0.length l0_0) (hc0_0 : l0_0.length ≤ c0_0) (hr1_0 : Kd.C (Kd.int .i64) w A1_0 l1_0.length l1_0) (hc1_0 : l1_0.length ≤ c1_0) (h : laws_eqAtom.f k l0_0 a0_1 a0_2 l1_0 a1_1 a1_2 = some r) :
  Calls Try.prog 17 #[.agg #[.slice A0_0 l0_0.length c0_0, .int .i64 a0_1, .bool a0_2], .agg #[.slice A1_0 l1_0.length c1_0, .int .i64 a1_1, .bool a1_2]] w fun e w' => e = .returned (.bool r) ∧ Below w.heap.size w w' := by
 have hu26 := Try.underlying26
 have qg := Aside0.mk hr0_0
 have qh := Aside0.mk hc0_0
 clear hr0_0 hc0_0
 have qi := Aside0.mk hr1_0
 have qj := Aside0.mk hc1_0
 clear hr1_0 hc1_0
 have HB := Aside0.mk (Below.refl w.heap.size w)
 have H : ((laws_eqIntS.f k l0_0 l1_0).bind fun qk => (if qk = true then (if a0_1 = a1_1 then (if (a0_2 != a1_2) = true then (some false) else (some true)) else (some false)) else (some false))) = some r := h
 clear h
 replace H := Option.bind_eq_some_iff.mp H
 obtain ⟨qk, A30, H⟩ := H
 replace H : (if qk = true then (if a0_1 = a1_1 then (if (a0_2 != a1_2) = true then (some false) else (some true)) else (some false)) else (some false)) = some r := H
 have A3 := Aside0.mk A30
 clear A30
 by_cases c4 : qk = true
 ·
  subst c4
  have H1 : (if a0_1 = a1_1 then (if (a0_2 != a1_2) = true then (some false) else (some true)) else (some false)) = some r := by rw [if_pos rfl] at H; exact H
  clear H
  have H := H1
  clear H1
  by_cases c5 : a0_1 = a1_1
  ·
   rw [if_pos c5] at H
   have ze : (a0_1 == a1_1) = true := beq_iff_eq.mpr c5
   have zf : (a0_1 != a1_1) = false := bne_eq_false_iff_eq.mpr c5
   clear c5
   by_cases c6 : (a0_2 != a1_2) = true
   ·
    rw [if_pos c6] at H
    have zg : (a0_2 != a1_2) = true := c6
    (try (have zh : decide (a0_2 = a1_2) = false := by simpa using c6))
    (try (have zi : (a0_2 == a1_2) = false := by simpa using c6))
    (try (have zp : ¬ (a0_2 = a1_2) := by simpa using c6))
    clear c6
    obtain rfl := Option.some.inj H
    go_enter Try.func17, Try.ntmps17
    go_wp2_with (first | ((with_reducible refine gate_dst (N := 2) rfl ?_); refine box_event ?hg (N := 2) ?hd (cs := #[.slice A0_0 l0_0.length c0_0, .int .i64 a0_1, .bool a0_2]) (t := 26) ?hr ?_; (case hd => rfl); (case hg => rfl); (case hr => first | (go_simp; done) | (go_simp; rfl)); intro qb hg w7 hbox hb; have qa := Aside0.mk (hbox); have ql := Aside0.mk ((by rw [hg]; exact (bz_ HB) : w.heap.size ≤ qb)); have qm := Aside0.mk ((by rw [hg]; exact (bz_ HB) : w.heap.size ≤ qb)); replace HB := bS_ HB hb; clear hb hbox hg) | ((with_reducible refine gate_dst (N := 3) rfl ?_); refine box_event ?hg (N := 3) ?hd (cs := #[.slice A1_0 l1_0.length c1_0, .int .i64 a1_1, .bool a1_2]) (t := 26) ?hr ?_; (case hd => rfl); (case hg => rfl); (case hr => first | (go_simp; done) | (go_simp; rfl)); intro qc hg w8 hbox hb; have qd := Aside0.mk (hbox); have qn := Aside0.mk ((by rw [hg]; exact (bz_ HB) : w.heap.size ≤ qc)); have qo := Aside0.mk ((by rw [hg]; exact (bz_ HB) : w.heap.size ≤ qc)); replace HB := bS_ HB hb; have qe := Aside0.mk ((nl_ qa hg : qb ≠ qc)); have qf := Aside0.mk ((ng_ qa hg : qc ≠ qb)); replace qa := kB_ qa hb; clear hb hbox hg; have zq := qe.out; have zr := qf.out; have qs : w8.cell? ⟨qb, 0, none⟩ = some (.slice A0_0 l0_0.length c0_0) := bc_ qa 0; have qt : w8.cell? ⟨qb, 1, none⟩ = some (.int .i64 a0_1) := bc_ qa 1; have qu : w8.cell? ⟨qb, 2, none⟩ = some (.bool a0_2) := bc_ qa 2; have qv := blk_frozen qa.out 0; have qw := blk_frozen qa.out 1; have qx := blk_frozen qa.out 2; have qy : w8.cell? ⟨qc, 0, none⟩ = some (.slice A1_0 l1_0.length c1_0) := bc_ qd 0; have qz : w8.cell? ⟨qc, 1, none⟩ = some (.int .i64 a1_1) := bc_ qd 1; have qA : w8.cell? ⟨qc, 2, none⟩ = some (.bool a1_2) := bc_ qd 2; have qB := blk_frozen qd.out 0; have qC := blk_frozen qd.out 1; have qD := blk_frozen qd.out 2) | ((with_reducible refine gate_callee (f := 23) rfl ?_); refine goesL_ (some 9) rfl rfl Try.func23 (by kernel_rfl) rfl #[.slice A0_0 l0_0.length c0_0, .slice A1_0 l1_0.length c1_0] rfl (by (try simp only [List.map_toArray, List.map_cons, List.map_nil]); first | done | rfl | (simp only [List.length_drop, List.length_take]; rfl)) ?_; (with_reducible refine (laws_eqIntS.calls k _ _ l0_0 _ _ l1_0 true _ ?side1 ?side2 ?side3 ?side4 A3.out).mono ?_); (case side1 => exact cb_ qg HB); (case side2 => exact qh.out); (case side3 => exact cb_ qi HB); (case side4 => exact qj.out); rintro e w' ⟨rfl, ⟨nd, rfl⟩⟩; refine ⟨_, rfl, ?_⟩))
    go_ret
    exact ⟨by first | rfl | (simp [errW_none, errW_some] <;> rfl) | (simp [*, errW_none, errW_some] <;> rfl), bb_ HB⟩
   ·
    rw [if_neg c6] at H
    have zg : (a0_2 != a1_2) = false := by simpa using c6
    (try (have zh : decide (a0_2 = a1_2) = true := by simpa using c6))
    (try (have zi : (a0_2 == a1_2) = true := by simpa using c6))
    clear c6
    obtain rfl := Option.some.inj H
    go_enter Try.func17, Try.ntmps17
    go_wp2_with (first | ((with_reducible refine gate_dst (N := 2) rfl ?_); refine box_event ?hg (N := 2) ?hd (cs := #[.slice A0_0 l0_0.length c0_0, .int .i64 a0_1, .bool a0_2]) (t := 26) ?hr ?_; (case hd => rfl); (case hg => rfl); (case hr => first | (go_simp; done) | (go_simp; rfl)); intro qb hg zs hbox hb; have qa := Aside0.mk (hbox); have ql := Aside0.mk ((by rw [hg]; exact (bz_ HB) : w.heap.size ≤ qb)); have qm := Aside0.mk ((by rw [hg]; exact (bz_ HB) : w.heap.size ≤ qb)); replace HB := bS_ HB hb; clear hb hbox hg) | ((with_reducible refine gate_dst (N := 3) rfl ?_); refine box_event ?hg (N := 3) ?hd (cs := #[.slice A1_0 l1_0.length c1_0, .int .i64 a1_1, .bool a1_2]) (t := 26) ?hr ?_; (case hd => rfl); (case hg => rfl); (case hr => first | (go_simp; done) | (go_simp; rfl)); intro qc hg qp hbox hb; have qd := Aside0.mk (hbox); have qn := Aside0.mk ((by rw [hg]; exact (bz_ HB) : w.heap.size ≤ qc)); have qo := Aside0.mk ((by rw [hg]; exact (bz_ HB) : w.heap.size ≤ qc)); replace HB := bS_ HB hb; have qe := Aside0.mk ((nl_ qa hg : qb ≠ qc)); have qf := Aside0.mk ((ng_ qa hg : qc ≠ qb)); replace qa := kB_ qa hb; clear hb hbox hg; have zj := qe.out; have zk := qf.out; have qE : qp.cell? ⟨qb, 0, none⟩ = some (.slice A0_0 l0_0.length c0_0) := bc_ qa 0; have qF : qp.cell? ⟨qb, 1, none⟩ = some (.int .i64 a0_1) := bc_ qa 1; have qG : qp.cell? ⟨qb, 2, none⟩ = some (.bool a0_2) := bc_ qa 2; have qH := blk_frozen qa.out 0; have qI := blk_frozen qa.out 1; have qJ := blk_frozen qa.out 2; have qK : qp.cell? ⟨qc, 0, none⟩ = some (.slice A1_0 l1_0.length c1_0) := bc_ qd 0; have qL : qp.cell? ⟨qc, 1, none⟩ = some (.int .i64 a1_1) := bc_ qd 1; have qM : qp.cell? ⟨qc, 2, none⟩ = some (.bool a1_2) := bc_ qd 2; have qN := blk_frozen qd.out 0; have qO := blk_frozen qd.out 1; have qP := blk_frozen qd.out 2) | ((with_reducible refine gate_callee (f := 23) rfl ?_); refine goesL_ (some 9) rfl rfl Try.func23 (by kernel_rfl) rfl #[.slice A0_0 l0_0.length c0_0, .slice A1_0 l1_0.length c1_0] rfl (by (try simp only [List.map_toArray, List.map_cons, List.map_nil]); first | done | rfl | (simp only [List.length_drop, List.length_take]; rfl)) ?_; (with_reducible refine (laws_eqIntS.calls k _ _ l0_0 _ _ l1_0 true _ ?side1 ?side2 ?side3 ?side4 A3.out).mono ?_); (case side1 => exact cb_ qg HB); (case side2 => exact qh.out); (case side3 => exact cb_ qi HB); (case side4 => exact qj.out); rintro e w' ⟨rfl, ⟨nd, rfl⟩⟩; refine ⟨_, rfl, ?_⟩))
    go_ret
    exact ⟨by first | rfl | (simp [errW_none, errW_some] <;> rfl) | (simp [*, errW_none, errW_some] <;> rfl), bb_ HB⟩
  ·
   rw [if_neg c5] at H
   have ze : (a0_1 == a1_1) = false := beq_eq_false_iff_ne.mpr c5
   have zf : (a0_1 != a1_1) = true := bne_iff_ne.mpr c5
   obtain rfl := Option.some.inj H
   go_enter Try.func17, Try.ntmps17
   go_wp2_with (first | ((with_reducible refine gate_dst (N := 2) rfl ?_); refine box_event ?hg (N := 2) ?hd (cs := #[.slice A0_0 l0_0.length c0_0, .int .i64 a0_1, .bool a0_2]) (t := 26) ?hr ?_; (case hd => rfl); (case hg => rfl); (case hr => first | (go_simp; done) | (go_simp; rfl)); intro qb hg zt hbox hb; have qa := Aside0.mk (hbox); have ql := Aside0.mk ((by rw [hg]; exact (bz_ HB) : w.heap.size ≤ qb)); have qm := Aside0.mk ((by rw [hg]; exact (bz_ HB) : w.heap.size ≤ qb)); replace HB := bS_ HB hb; clear hb hbox hg) | ((with_reducible refine gate_dst (N := 3) rfl ?_); refine box_event ?hg (N := 3) ?hd (cs := #[.slice A1_0 l1_0.length c1_0, .int .i64 a1_1, .bool a1_2]) (t := 26) ?hr ?_; (case hd => rfl); (case hg => rfl); (case hr => first | (go_simp; done) | (go_simp; rfl)); intro qc hg qq hbox hb; have qd := Aside0.mk (hbox); have qn := Aside0.mk ((by rw [hg]; exact (bz_ HB) : w.heap.size ≤ qc)); have qo := Aside0.mk ((by rw [hg]; exact (bz_ HB) : w.heap.size ≤ qc)); replace HB := bS_ HB hb; have qe := Aside0.mk ((nl_ qa hg : qb ≠ qc)); have qf := Aside0.mk ((ng_ qa hg : qc ≠ qb)); replace qa := kB_ qa hb; clear hb hbox hg; have zl := qe.out; have zm := qf.out; have qQ : qq.cell? ⟨qb, 0, none⟩ = some (.slice A0_0 l0_0.length c0_0) := bc_ qa 0; have qR : qq.cell? ⟨qb, 1, none⟩ = some (.int .i64 a0_1) := bc_ qa 1; have qS : qq.cell? ⟨qb, 2, none⟩ = some (.bool a0_2) := bc_ qa 2; have qT := blk_frozen qa.out 0; have qU := blk_frozen qa.out 1; have qV := blk_frozen qa.out 2; have qW : qq.cell? ⟨qc, 0, none⟩ = some (.slice A1_0 l1_0.length c1_0) := bc_ qd 0; have qX : qq.cell? ⟨qc, 1, none⟩ = some (.int .i64 a1_1) := bc_ qd 1; have qY : qq.cell? ⟨qc, 2, none⟩ = some (.bool a1_2) := bc_ qd 2; have qZ := blk_frozen qd.out 0; have q0 := blk_frozen qd.out 1; have q1 := blk_frozen qd.out 2) | ((with_reducible refine gate_callee (f := 23) rfl ?_); refine goesL_ (some 9) rfl rfl Try.func23 (by kernel_rfl) rfl #[.slice A0_0 l0_0.length c0_0, .slice A1_0 l1_0.length c1_0] rfl (by (try simp only [List.map_toArray, List.map_cons, List.map_nil]); first | done | rfl | (simp only [List.length_drop, List.length_take]; rfl)) ?_; (with_reducible refine (laws_eqIntS.calls k _ _ l0_0 _ _ l1_0 true _ ?side1 ?side2 ?side3 ?side4 A3.out).mono ?_); (case side1 => exact cb_ qg HB); (case side2 => exact qh.out); (case side3 => exact cb_ qi HB); (case side4 => exact qj.out); rintro e w' ⟨rfl, ⟨nd, rfl⟩⟩; refine ⟨_, rfl, ?_⟩))
   go_ret
   exact ⟨by first | rfl | (simp [errW_none, errW_some] <;> rfl) | (simp [*, errW_none, errW_some] <;> rfl), bb_ HB⟩
 ·
  replace c4 := Bool.eq_false_iff.mpr c4
  subst c4
  have H1 : (some false) = some r := by rw [if_neg (show ¬ (false = true) by decide)] at H; exact H
  clear H
  have H := H1
  clear H1
  obtain rfl := Option.some.inj H
  go_enter Try.func17, Try.ntmps17
  go_wp2_with (first | ((with_reducible refine gate_dst (N := 2) rfl ?_); refine box_event ?hg (N := 2) ?hd (cs := #[.slice A0_0 l0_0.length c0_0, .int .i64 a0_1, .bool a0_2]) (t := 26) ?hr ?_; (case hd => rfl); (case hg => rfl); (case hr => first | (go_simp; done) | (go_simp; rfl)); intro qb hg zu hbox hb; have qa := Aside0.mk (hbox); have ql := Aside0.mk ((by rw [hg]; exact (bz_ HB) : w.heap.size ≤ qb)); have qm := Aside0.mk ((by rw [hg]; exact (bz_ HB) : w.heap.size ≤ qb)); replace HB := bS_ HB hb; clear hb hbox hg) | ((with_reducible refine gate_dst (N := 3) rfl ?_); refine box_event ?hg (N := 3) ?hd (cs := #[.slice A1_0 l1_0.length c1_0, .int .i64 a1_1, .bool a1_2]) (t := 26) ?hr ?_; (case hd => rfl); (case hg => rfl); (case hr => first | (go_simp; done) | (go_simp; rfl)); intro qc hg qr hbox hb; have qd := Aside0.mk (hbox); have qn := Aside0.mk ((by rw [hg]; exact (bz_ HB) : w.heap.size ≤ qc)); have qo := Aside0.mk ((by rw [hg]; exact (bz_ HB) : w.heap.size ≤ qc)); replace HB := bS_ HB hb; have qe := Aside0.mk ((nl_ qa hg : qb ≠ qc)); have qf := Aside0.mk ((ng_ qa hg : qc ≠ qb)); replace qa := kB_ qa hb; clear hb hbox hg; have zn := qe.out; have zo := qf.out; have q2 : qr.cell? ⟨qb, 0, none⟩ = some (.slice A0_0 l0_0.length c0_0) := bc_ qa 0; have q3 : qr.cell? ⟨qb, 1, none⟩ = some (.int .i64 a0_1) := bc_ qa 1; have q4 : qr.cell? ⟨qb, 2, none⟩ = some (.bool a0_2) := bc_ qa 2; have q5 := blk_frozen qa.out 0; have q6 := blk_frozen qa.out 1; have q7 := blk_frozen qa.out 2; have q8 : qr.cell? ⟨qc, 0, none⟩ = some (.slice A1_0 l1_0.length c1_0) := bc_ qd 0; have q9 : qr.cell? ⟨qc, 1, none⟩ = some (.int .i64 a1_1) := bc_ qd 1; have za : qr.cell? ⟨qc, 2, none⟩ = some (.bool a1_2) := bc_ qd 2; have zb := blk_frozen qd.out 0; have zc := blk_frozen qd.out 1; have zd := blk_frozen qd.out 2) | ((with_reducible refine gate_callee (f := 23) rfl ?_); refine goesL_ (some 9) rfl rfl Try.func23 (by kernel_rfl) rfl #[.slice A0_0 l0_0.length c0_0, .slice A1_0 l1_0.length c1_0] rfl (by (try simp only [List.map_toArray, List.map_cons, List.map_nil]); first | done | rfl | (simp only [List.length_drop, List.length_take]; rfl)) ?_; (with_reducible refine (laws_eqIntS.calls k _ _ l0_0 _ _ l1_0 false _ ?side1 ?side2 ?side3 ?side4 A3.out).mono ?_); (case side1 => exact cb_ qg HB); (case side2 => exact qh.out); (case side3 => exact cb_ qi HB); (case side4 => exact qj.out); rintro e w' ⟨rfl, ⟨nd, rfl⟩⟩; refine ⟨_, rfl, ?_⟩))
  go_ret
  exact ⟨by first | rfl | (simp [errW_none, errW_some] <;> rfl) | (simp [*, errW_none, errW_some] <;> rfl), bb_ HB⟩

/-! ### laws_markIntS: function 24 -/
def laws_markIntS.l0 : Nat → List Int → Int → Int → Option (Int × List Int)
 | 0, _, _, _ => none
 | k + 1, x0, x1, x5 => if x5 < (x0.length : Int) then (if 0 ≤ x5 then (laws_markIntS.l0 k (x0.set (x5 : Int).toNat x1) (wrap64 (x1 + 1)) (wrap64 (x5 + 1))) else (none)) else (some (x1, x0))
def laws_markIntS.f (k : Nat) (l0 : List Int) (a1 : Int) : Option (Int × List Int) := laws_markIntS.l0 k l0 a1 0
theorem laws_markIntS.mono_l : ∀ k, (∀ y0 y1 y2, LeO (laws_markIntS.l0 k y0 y1 y2) (laws_markIntS.l0 (k + 1) y0 y1 y2))
 | 0 => fun _ _ _ r h => by simp [laws_markIntS.l0] at h
 | k + 1 => by
  have ih0 := laws_markIntS.mono_l k
  ·
   intro y0 y1 y2
   unfold laws_markIntS.l0
   repeat' first
   | (with_reducible exact ih0 _ _ _)
   | (with_reducible exact LeO.refl _)
   | (with_reducible exact LeO.none _)
   | (with_reducible refine LeO.ite ?_ ?_)
   | (with_reducible refine LeO.bind ?_ (fun _ => ?_))
   | exact ih0 _ _ _
   | exact LeO.none _
   | refine LeO.ite ?_ ?_
   | refine LeO.bind ?_ (fun _ => ?_)
theorem laws_markIntS.mono : ∀ a0 a1 k, LeO (laws_markIntS.f k a0 a1) (laws_markIntS.f (k + 1) a0 a1) := by
 intro a0 a1 k
 have ih0 := laws_markIntS.mono_l k
 unfold laws_markIntS.f
 repeat' first
   | (with_reducible exact ih0 _ _ _)
   | (with_reducible exact LeO.refl _)
   | (with_reducible exact LeO.none _)
   | (with_reducible refine LeO.ite ?_ ?_)
   | (with_reducible refine LeO.bind ?_ (fun _ => ?_))
   | exact ih0 _ _ _
   | exact LeO.none _
   | refine LeO.ite ?_ ?_
   | refine LeO.bind ?_ (fun _ => ?_)
set_option maxHeartbeats 8000000 in
set_option maxRecDepth 100000 in
theorem laws_markIntS.calls (k : Nat) (P0_ : Nat → Prop) (u9000_ : Value) (l0 : List Int) (a1 : Int) (r1 : Int) (r2 : List Int) (w0 w : World) (hB : Below w0.heap.size w0 w) (ho0 : Kd.R (Kd.int .i64) 3 w w0.heap.size P0_ u9000_ l0) (h : laws_markIntS.f k l0 a1 = some (r1, r2)) :
  Calls Try.prog 24 #[u9000_, .int .i64 a1] w fun e w' => e = .returned (.int .i64 r1) ∧ Kd.R (Kd.int .i64) 3 w' w0.heap.size (fun k_ => (P0_ k_ ∨ w.heap.size ≤ k_)) u9000_ r2 ∧ Below w0.heap.size w0 w' ∧ Kept w w' (fun k_ => P0_ k_) := by
 have qi := Aside0.mk (show Kd.R (Kd.int .i64) 3 w w0.heap.size (fun k_ => (P0_ k_ ∨ w.heap.size ≤ k_)) u9000_ l0 from Kd.R_mono ho0 (fun k_ hk => (.inl hk)))
 have HK := Aside0.mk (Kept.refl w (fun k_ => P0_ k_))
 have HW0 := Aside0.mk hB.size
 have HB := Aside0.mk hB
 clear hB
 have H : (laws_markIntS.l0 k l0 a1 0) = some (r1, r2) := h
 clear h
 have H' := Aside0.mk H
 clear H
 go_enter Try.func24, Try.ntmps24
 go_wp2
 go_loopg [1, 5] k (fun kq v1 v5 w' => ∃ (qc : List Int) (qd : Int) (qa : Int), v1 = .int .i64 qd ∧ v5 = .int .i64 qa ∧ Aside0 (laws_markIntS.l0 kq qc qd qa = some (r1, r2)) ∧ Aside0 (kq ≤ k) ∧ Aside0 (Kd.R (Kd.int .i64) 3 w' w0.heap.size (fun k_ => (P0_ k_ ∨ w.heap.size ≤ k_)) u9000_ qc) ∧ Aside0 (Kept w w' (fun k_ => P0_ k_)) ∧ Aside0 (Below w0.heap.size w0 w'))
 case atStart => exact ⟨(l0), (a1), (0), (by first | rfl | (simp; done) | (simp [*]; done)), (by first | rfl | (simp; done) | (simp [*]; done)), H', ⟨Nat.le_refl _⟩, ⟨by (with_reducible repeat (first | apply Kd.R_alloc | apply Kd.R_drewN | apply Kd.R_drew)); exact qi.out⟩, ⟨by repeat (first | (with_reducible first | exact HK.out | apply Kept.alloc | apply Kept.drewN | apply Kept.drew) | exact HK.out)⟩, ⟨bb_ HB⟩⟩
 case round =>
  clear H'
  try clear c2
  try clear p2
  obtain ⟨qc, qd, qa, rfl, rfl, HA, HK1, qb, HK, HB⟩ := hrel
  cases gk with
  | zero => exact absurd HA.out (by simp [laws_markIntS.l0])
  | succ k1 =>
   have H := HA.out
   clear HA
   simp only [laws_markIntS.l0] at H
   by_cases c3 : qa < (qc.length : Int)
   ·
    rw [if_pos c3] at H
    have qe : decide (qa < (qc.length : Int)) = true := decide_eq_true c3
    clear c3
    by_cases c4 : 0 ≤ qa
    ·
     rw [if_pos c4] at H
     have qj : decide (0 ≤ qa) = true := decide_eq_true c4
     clear c4
     obtain ⟨y119, hy119⟩ : ∃ y_ : List Int, y_ = (qc.set (qa : Int).toNat qd) := ⟨_, rfl⟩
     replace H : (laws_markIntS.l0 k1 y119 (wrap64 (qd + 1)) (wrap64 (qa + 1))) = some (r1, r2) := by first | (rw [hy119]; with_reducible exact H) | (have H2_ := (Option.bind_some _ _).symm.trans H; rw [hy119]; with_reducible exact H2_) | (have H2_ := (Option.bind_some _ _).symm.trans H; with_reducible exact H2_) | with_reducible exact H | (rw [hy119]; exact H) | exact H
     have Ny119 := Aside0.mk hy119
     clear hy119
     have H' := Aside0.mk H
     clear H
     obtain ⟨qm, qk, eo6⟩ := Kd.R_slice qb.out
     subst eo6
     have p5 : 0 ≤ (qa : Int) := of_decide_eq_true (by first | (with_reducible assumption) | assumption)
     have q5 : (qa : Int) < ((qc.length : Int) : Int) := of_decide_eq_true (by first | (with_reducible assumption) | assumption)
     obtain ⟨go5, qn, eo5, qg, gl5, cl5, HG5⟩ := Kd.R_form qb.out (by omega)
     (first | cases eo5 | (injection eo5 with ea_ en_ ec_; (first | subst ea_ | (injection ea_ with ea_; subst ea_)); subst ec_; clear en_))
     have ql := Aside0.mk qg
     have qo := Aside0.mk HG5
     clear qg gl5 HG5
     have HMgo5 := Aside0.mk (show (P0_ go5 ∨ w.heap.size ≤ go5) from (qb.out.1 _ rfl))
     obtain ⟨qh, hf5_0⟩ := Kd.R_celln 0 qb.out (qa : Int) p5 q5
     replace p5 := eq_true p5
     replace q5 := eq_true q5
     have qf := Kd.R_putg qb.out (qa : Int) qd
     go_wp2_with (first | ((with_reducible refine gate_store (t := 3) (p := 15) rfl ?_); refine store_event (t := 3) (p := 15) (v := ?vo_w8) (w1 := (wr.setCell ⟨go5, (qa : Int).toNat, none⟩ (.int .i64 qd))) ?hg ?ho ?hn ?hr ?_; (case ho => rfl); (case hg => rfl); (case hn => rfl); (case hr => first | (go_simp; done) | (go_simp; rfl)); intro w8 hw; have hg : wr.grownBy w8 (some go5) := (by rw [hw]; exact qf.2); have hp_ : Kd.R (Kd.int .i64) 3 w8 w0.heap.size (fun k_ => (P0_ k_ ∨ w.heap.size ≤ k_)) (.slice (some ⟨go5, 0, none⟩) qc.length qk) y119 := (by rw [hw, Ny119.out]; exact qf.1); clear qf; replace HB := Aside0.mk ((by rw [hw]; exact below_set (HB.out) ql.out : Below w0.heap.size w0 w8)); replace HK := Aside0.mk (Kept.of_grown (S := (fun k_ => P0_ k_)) hg (by repeat (first | (with_reducible first | exact HK.out | apply Kept.alloc | apply Kept.drewN | apply Kept.drew) | exact HK.out)) (fun k_ e_ => (qb.out.1 k_ e_))); replace qb := Aside0.mk (hp_); clear hg hw hp_))
     go_roundg k1
     case measure => have := HK1.out; omega
     case rel => exact ⟨(y119), (wrap64 (qd + 1)), (wrap64 (qa + 1)), (by first | rfl | (simp; done) | (simp [*]; done)), (by first | rfl | (simp; done) | (simp [*]; done)), H', ⟨by have := HK1.out; omega⟩, ⟨by (with_reducible repeat (first | apply Kd.R_alloc | apply Kd.R_drewN | apply Kd.R_drew)); exact qb.out⟩, ⟨by repeat (first | (with_reducible first | exact HK.out | apply Kept.alloc | apply Kept.drewN | apply Kept.drew) | exact HK.out)⟩, ⟨bb_ HB⟩⟩
    ·
     rw [if_neg c4] at H
     exact absurd H (by simp)
   ·
    rw [if_neg c3] at H
    have qe : decide (qa < (qc.length : Int)) = false := decide_eq_false c3
    clear c3
    simp only [Option.some.injEq, Prod.mk.injEq] at H
    obtain ⟨rfl, rfl⟩ := H
    obtain ⟨qp, qq, eo9⟩ := Kd.R_slice qb.out
    subst eo9
    go_wp2
    go_ret
    exact ⟨by first | rfl | (simp [errW_none, errW_some] <;> rfl) | (simp [*, errW_none, errW_some] <;> rfl), by (with_reducible repeat (first | apply Kd.R_alloc | apply Kd.R_drewN | apply Kd.R_drew)); exact qb.out, bb_ HB, by repeat (first | (with_reducible first | exact HK.out | apply Kept.alloc | apply Kept.drewN | apply Kept.drew) | exact HK.out)⟩

/-! ### laws_markAtom: function 18 -/
def laws_markAtom.f (k : Nat) (l0_0 : List Int) (a0_1 : Int) (a0_2 : Bool) (a1 : Int) : Option (Int × List Int) := (laws_markIntS.f k l0_0 a1).bind fun qc => (some (qc.1, qc.2))
theorem laws_markAtom.mono : ∀ a0 a1 a2 a3 k, LeO (laws_markAtom.f k a0 a1 a2 a3) (laws_markAtom.f (k + 1) a0 a1 a2 a3) := by
 intro a0 a1 a2 a3 k
 unfold laws_markAtom.f
 repeat' first
   | (with_reducible exact laws_markIntS.mono _ _ _)
   | (with_reducible exact LeO.refl _)
   | (with_reducible exact LeO.none _)
   | (with_reducible refine LeO.ite ?_ ?_)
   | (with_reducible refine LeO.bind ?_ (fun _ => ?_))
   | exact laws_markIntS.mono _ _ _
   | exact LeO.none _
   | refine LeO.ite ?_ ?_
   | refine LeO.bind ?_ (fun _ => ?_)
set_option maxHeartbeats 8000000 in
set_option maxRecDepth 100000 in
theorem laws_markAtom.calls (k : Nat) (P0_0_ : Nat → Prop) (u9000_ : Value) (l0_0 : List Int) (a0_1 : Int) (a0_2 : Bool) (a1 : Int) (r1 : Int) (r2 : List Int) (w0 w : World) (hB : Below w0.heap.size w0 w) (ho0_0 : Kd.R (Kd.int .i64) 3 w w0.heap.size P0_0_ u9000_ l0_0) (h : laws_markAtom.f k l0_0 a0_1 a0_2 a1 = some (r1, r2)) :
  Calls Try.prog 18 #[.agg #[u9000_, .int .i64 a0_1, .bool a0_2], .int .i64 a1] w fun e w' => e = .returned (.int .i64 r1) ∧ Kd.R (Kd.int .i64) 3 w' w0.heap.size (fun k_ => (P0_0_ k_ ∨ w.heap.size ≤ k_)) u9000_ r2 ∧ Below w0.heap.size w0 w' ∧ Kept w w' (fun k_ => P0_0_ k_) := by
 have hu26 := Try.underlying26
 have qa := Aside0.mk (show Kd.R (Kd.int .i64) 3 w w0.heap.size (fun k_ => (P0_0_ k_ ∨ w.heap.size ≤ k_)) u9000_ l0_0 from Kd.R_mono ho0_0 (fun k_ hk => (.inl hk)))
 have HK := Aside0.mk (Kept.refl w (fun k_ => P0_0_ k_))
 have HW0 := Aside0.mk hB.size
 have HB := Aside0.mk hB
 clear hB
 have H : ((laws_markIntS.f k l0_0 a1).bind fun qc => (some (qc.1, qc.2))) = some (r1, r2) := h
 clear h
 replace H := Option.bind_eq_some_iff.mp H
 obtain ⟨⟨qf, qg⟩, A30, H⟩ := H
 replace H : (some (qf, qg)) = some (r1, r2) := H
 have A3 := Aside0.mk A30
 clear A30
 simp only [Option.some.injEq, Prod.mk.injEq] at H
 obtain ⟨rfl, rfl⟩ := H
 obtain ⟨qh, qi, eo4⟩ := Kd.R_slice qa.out
 subst eo4
 go_enter Try.func18, Try.ntmps18
 go_wp2_with (first | ((with_reducible refine gate_dst (N := 2) rfl ?_); refine box_event ?hg (N := 2) ?hd (cs := #[.slice qh l0_0.length qi, .int .i64 a0_1, .bool a0_2]) (t := 26) ?hr ?_; (case hd => rfl); (case hg => rfl); (case hr => first | (go_simp; done) | (go_simp; rfl)); intro qd hg w5 hbox hb; replace qa := rB_ qa hb; have qb := Aside0.mk (hbox); have qe := Aside0.mk ((by rw [hg]; exact (by first | exact HK.out.1 | exact (show Kept w _ (fun k_ => P0_0_ k_) from by repeat (first | (with_reducible first | exact HK.out | apply Kept.alloc | apply Kept.drewN | apply Kept.drew) | exact HK.out)).1) : w.heap.size ≤ qd)); replace HK := Aside0.mk (Kept.below (S := (fun k_ => P0_0_ k_)) (by repeat (first | (with_reducible first | exact HK.out | apply Kept.alloc | apply Kept.drewN | apply Kept.drew) | exact HK.out)) hb); have qj := Aside0.mk ((by rw [hg]; exact (bz_ HB) : w0.heap.size ≤ qd)); replace HB := bS_ HB hb; clear hb hbox hg; have qk : w5.cell? ⟨qd, 0, none⟩ = some (.slice qh l0_0.length qi) := bc_ qb 0; have ql : w5.cell? ⟨qd, 1, none⟩ = some (.int .i64 a0_1) := bc_ qb 1; have qm : w5.cell? ⟨qd, 2, none⟩ = some (.bool a0_2) := bc_ qb 2; have qn := blk_frozen qb.out 0; have qo := blk_frozen qb.out 1; have qp := blk_frozen qb.out 2) | ((with_reducible refine gate_callee (f := 24) rfl ?_); refine goesL_ (some 8) rfl rfl Try.func24 (by kernel_rfl) rfl #[.slice qh l0_0.length qi, .int .i64 a1] rfl (by (try simp only [List.map_toArray, List.map_cons, List.map_nil]); first | done | rfl | (simp only [List.length_drop, List.length_take]; rfl)) ?_; (with_reducible refine (laws_markIntS.calls k (fun k_ => some k_ = (.slice qh l0_0.length qi : Value).ownBlock) (.slice qh l0_0.length qi) l0_0 a1 qf qg w0 _ ?side1 ?side2 A3.out).mono ?_); (case side1 => repeat (first | (with_reducible first | exact HB.out | apply below_alloc | apply pw_below_drewN | apply below_drew1 | refine below_set ?_ qj.out) | exact HB.out)); (case side2 => exact Kd.R_tight rfl qa.out); rintro e w7 ⟨rfl, hy0, hb, hkp⟩; refine ⟨_, rfl, ?_⟩; replace qb := Aside0.mk (blk_kept (kf_ qb) hkp (fun hs_ => (fun e_ => (Kd.R_ne qa.out qb.out (by decide)) e_) hs_)); replace HK := Aside0.mk (Kept.then_ (S := (fun k_ => P0_0_ k_)) (by repeat (first | (with_reducible first | exact HK.out | apply Kept.alloc | apply Kept.drewN | apply Kept.drew | refine Kept.setCell ?_ (.inr qe.out) _) | exact HK.out)) hkp (fun k_ hs_ => (fun e_ => (qa.out.1 k_ e_.symm)) hs_)); replace qa := Aside0.mk (Kd.R_reok rfl hy0 (fun k_ e_ => qa.out.1 k_ e_)); replace HB := Aside0.mk (hb); (try clear hb); (try clear hkp); (try clear hy0)))
 go_ret
 exact ⟨by first | rfl | (simp [errW_none, errW_some] <;> rfl) | (simp [*, errW_none, errW_some] <;> rfl), by (with_reducible repeat (first | apply Kd.R_alloc | apply Kd.R_drewN | apply Kd.R_drew)); exact qa.out, bb_ HB, by repeat (first | (with_reducible first | exact HK.out | apply Kept.alloc | apply Kept.drewN | apply Kept.drew | refine Kept.setCell ?_ (.inr qe.out) _) | exact HK.out)⟩

/-! ### laws_heldIntS: function 55 -/
def laws_heldIntS.l0 : Nat → List Int → Int → Int → Option (Int)
 | 0, _, _, _ => none
 | k + 1, x0, x1, x5 => if x5 < (x0.length : Int) then (if 0 ≤ x5 then (if (rd x0 x5) = x1 then (laws_heldIntS.l0 k x0 (wrap64 (x1 + 1)) (wrap64 (x5 + 1))) else (some (-1))) else (none)) else (some x1)
def laws_heldIntS.f (k : Nat) (l0 : List Int) (a1 : Int) : Option (Int) := laws_heldIntS.l0 k l0 a1 0
theorem laws_heldIntS.mono_l : ∀ k, (∀ y0 y1 y2, LeO (laws_heldIntS.l0 k y0 y1 y2) (laws_heldIntS.l0 (k + 1) y0 y1 y2))
 | 0 => fun _ _ _ r h => by simp [laws_heldIntS.l0] at h
 | k + 1 => by
  have ih0 := laws_heldIntS.mono_l k
  ·
   intro y0 y1 y2
   unfold laws_heldIntS.l0
   repeat' first
   | (with_reducible exact ih0 _ _ _)
   | (with_reducible exact LeO.refl _)
   | (with_reducible exact LeO.none _)
   | (with_reducible refine LeO.ite ?_ ?_)
   | (with_reducible refine LeO.bind ?_ (fun _ => ?_))
   | exact ih0 _ _ _
   | exact LeO.none _
   | refine LeO.ite ?_ ?_
   | refine LeO.bind ?_ (fun _ => ?_)
theorem laws_heldIntS.mono : ∀ a0 a1 k, LeO (laws_heldIntS.f k a0 a1) (laws_heldIntS.f (k + 1) a0 a1) := by
 intro a0 a1 k
 have ih0 := laws_heldIntS.mono_l k
 unfold laws_heldIntS.f
 repeat' first
   | (with_reducible exact ih0 _ _ _)
   | (with_reducible exact LeO.refl _)
   | (with_reducible exact LeO.none _)
   | (with_reducible refine LeO.ite ?_ ?_)
   | (with_reducible refine LeO.bind ?_ (fun _ => ?_))
   | exact ih0 _ _ _
   | exact LeO.none _
   | refine LeO.ite ?_ ?_
   | refine LeO.bind ?_ (fun _ => ?_)
set_option maxHeartbeats 8000000 in
set_option maxRecDepth 100000 in
theorem laws_heldIntS.calls (k : Nat) (A0 : Option Addr) (c0 : Nat) (l0 : List Int) (a1 : Int) (r : Int) (w : World) (hr0 : Kd.C (Kd.int .i64) w A0 l0.length l0) (hc0 : l0.length ≤ c0) (h : laws_heldIntS.f k l0 a1 = some r) :
  Calls Try.prog 55 #[.slice A0 l0.length c0, .int .i64 a1] w fun e w' => e = .returned (.int .i64 r) ∧ Drawn0 w w' := by
 have HR0 := Aside0.mk hr0
 have HC0 := Aside0.mk hc0
 clear hr0 hc0
 have H : (laws_heldIntS.l0 k l0 a1 0) = some r := h
 clear h
 have H' := Aside0.mk H
 clear H
 go_enter Try.func55, Try.ntmps55
 go_wp2
 go_loopg [1, 5] k (fun kq v1 v5 w' => ∃ (qb : Int) (qa : Int), v1 = .int .i64 qb ∧ v5 = .int .i64 qa ∧ Aside0 (laws_heldIntS.l0 kq l0 qb qa = some r) ∧ Aside0 (kq ≤ k) ∧ Drawn0 w w')
 case atStart => exact ⟨(a1), (0), (by first | rfl | (simp; done) | (simp [*]; done)), (by first | rfl | (simp; done) | (simp [*]; done)), H', ⟨Nat.le_refl _⟩, by repeat (first | exact Drawn0.refl _ | apply Drawn0.step)⟩
 case round =>
  clear H'
  try clear p2
  obtain ⟨qb, qa, rfl, rfl, HA, HK1, ⟨m1, rfl⟩⟩ := hrel
  cases gk with
  | zero => exact absurd HA.out (by simp [laws_heldIntS.l0])
  | succ k1 =>
   have H := HA.out
   clear HA
   simp only [laws_heldIntS.l0] at H
   by_cases c3 : qa < (l0.length : Int)
   ·
    rw [if_pos c3] at H
    have qe : decide (qa < (l0.length : Int)) = true := decide_eq_true c3
    clear c3
    by_cases c4 : 0 ≤ qa
    ·
     rw [if_pos c4] at H
     have qh : decide (0 ≤ qa) = true := decide_eq_true c4
     clear c4
     by_cases c5 : (rd l0 qa) = qb
     ·
      rw [if_pos c5] at H
      have qf : ((rd l0 qa) == qb) = true := beq_iff_eq.mpr c5
      have qg : ((rd l0 qa) != qb) = false := bne_eq_false_iff_eq.mpr c5
      clear c5
      have H' := Aside0.mk H
      clear H
      have p123 : 0 ≤ (qa : Int) := of_decide_eq_true (by first | (with_reducible assumption) | assumption)
      have q123 : qa < (l0.length : Int) := of_decide_eq_true (by first | (with_reducible assumption) | assumption)
      obtain ⟨qd, e123, qc⟩ := Kd.at_int HR0.out qa p123 q123
      cases e123
      replace p123 := eq_true p123
      replace q123 := eq_true q123
      go_wp2
      go_roundg k1
      case measure => have := HK1.out; omega
      case rel => exact ⟨(wrap64 (qb + 1)), (wrap64 (qa + 1)), (by first | rfl | (simp; done) | (simp [*]; done)), (by first | rfl | (simp; done) | (simp [*]; done)), H', ⟨by have := HK1.out; omega⟩, by repeat (first | exact Drawn0.refl _ | apply Drawn0.step)⟩
     ·
      rw [if_neg c5] at H
      have qf : ((rd l0 qa) == qb) = false := beq_eq_false_iff_ne.mpr c5
      have qg : ((rd l0 qa) != qb) = true := bne_iff_ne.mpr c5
      obtain rfl := Option.some.inj H
      have p123 : 0 ≤ (qa : Int) := of_decide_eq_true (by first | (with_reducible assumption) | assumption)
      have q123 : qa < (l0.length : Int) := of_decide_eq_true (by first | (with_reducible assumption) | assumption)
      obtain ⟨qd, e123, qc⟩ := Kd.at_int HR0.out qa p123 q123
      cases e123
      replace p123 := eq_true p123
      replace q123 := eq_true q123
      go_wp2
      go_ret
      exact ⟨by first | rfl | (simp; done) | (simp [*]; done), by repeat (first | exact Drawn0.refl _ | apply Drawn0.step)⟩
    ·
     rw [if_neg c4] at H
     exact absurd H (by simp)
   ·
    rw [if_neg c3] at H
    have qe : decide (qa < (l0.length : Int)) = false := decide_eq_false c3
    clear c3
    obtain rfl := Option.some.inj H
    go_wp2
    go_ret
    exact ⟨by first | rfl | (simp; done) | (simp [*]; done), by repeat (first | exact Drawn0.refl _ | apply Drawn0.step)⟩

/-! ### laws_heldAtom: function 19 -/
def laws_heldAtom.f (k : Nat) (l0_0 : List Int) (a0_1 : Int) (a0_2 : Bool) (a1 : Int) : Option (Int) := (laws_heldIntS.f k l0_0 a1).bind fun qc => (if qc < 0 then (some (-1)) else (some qc))
theorem laws_heldAtom.mono : ∀ a0 a1 a2 a3 k, LeO (laws_heldAtom.f k a0 a1 a2 a3) (laws_heldAtom.f (k + 1) a0 a1 a2 a3) := by
 intro a0 a1 a2 a3 k
 unfold laws_heldAtom.f
 repeat' first
   | (with_reducible exact laws_heldIntS.mono _ _ _)
   | (with_reducible exact LeO.refl _)
   | (with_reducible exact LeO.none _)
   | (with_reducible refine LeO.ite ?_ ?_)
   | (with_reducible refine LeO.bind ?_ (fun _ => ?_))
   | exact laws_heldIntS.mono _ _ _
   | exact LeO.none _
   | refine LeO.ite ?_ ?_
   | refine LeO.bind ?_ (fun _ => ?_)
set_option maxHeartbeats 8000000 in
set_option maxRecDepth 100000 in
theorem laws_heldAtom.calls (k : Nat) (A0_0 : Option Addr) (c0_0 : Nat) (l0_0 : List Int) (a0_1 : Int) (a0_2 : Bool) (a1 : Int) (r : Int) (w : World) (hr0_0 : Kd.C (Kd.int .i64) w A0_0 l0_0.length l0_0) (hc0_0 : l0_0.length ≤ c0_0) (h : laws_heldAtom.f k l0_0 a0_1 a0_2 a1 = some r) :
  Calls Try.prog 19 #[.agg #[.slice A0_0 l0_0.length c0_0, .int .i64 a0_1, .bool a0_2], .int .i64 a1] w fun e w' => e = .returned (.int .i64 r) ∧ Below w.heap.size w w' := by
 have hu26 := Try.underlying26
 have qd := Aside0.mk hr0_0
 have qe := Aside0.mk hc0_0
 clear hr0_0 hc0_0
 have HB := Aside0.mk (Below.refl w.heap.size w)
 have H : ((laws_heldIntS.f k l0_0 a1).bind fun qc => (if qc < 0 then (some (-1)) else (some qc))) = some r := h
 clear h
 replace H := Option.bind_eq_some_iff.mp H
 obtain ⟨qc, A30, H⟩ := H
 replace H : (if qc < 0 then (some (-1)) else (some qc)) = some r := H
 have A3 := Aside0.mk A30
 clear A30
 by_cases c4 : qc < 0
 ·
  rw [if_pos c4] at H
  have qh : decide (qc < 0) = true := decide_eq_true c4
  clear c4
  obtain rfl := Option.some.inj H
  go_enter Try.func19, Try.ntmps19
  go_wp2_with (first | ((with_reducible refine gate_dst (N := 2) rfl ?_); refine box_event ?hg (N := 2) ?hd (cs := #[.slice A0_0 l0_0.length c0_0, .int .i64 a0_1, .bool a0_2]) (t := 26) ?hr ?_; (case hd => rfl); (case hg => rfl); (case hr => first | (go_simp; done) | (go_simp; rfl)); intro qb hg w5 hbox hb; have qa := Aside0.mk (hbox); have qf := Aside0.mk ((by rw [hg]; exact (bz_ HB) : w.heap.size ≤ qb)); have qg := Aside0.mk ((by rw [hg]; exact (bz_ HB) : w.heap.size ≤ qb)); replace HB := bS_ HB hb; clear hb hbox hg; have qi : w5.cell? ⟨qb, 0, none⟩ = some (.slice A0_0 l0_0.length c0_0) := bc_ qa 0; have qj : w5.cell? ⟨qb, 1, none⟩ = some (.int .i64 a0_1) := bc_ qa 1; have qk : w5.cell? ⟨qb, 2, none⟩ = some (.bool a0_2) := bc_ qa 2; have ql := blk_frozen qa.out 0; have qm := blk_frozen qa.out 1; have qn := blk_frozen qa.out 2) | ((with_reducible refine gate_callee (f := 55) rfl ?_); refine goesL_ (some 8) rfl rfl Try.func55 (by kernel_rfl) rfl #[.slice A0_0 l0_0.length c0_0, .int .i64 a1] rfl (by (try simp only [List.map_toArray, List.map_cons, List.map_nil]); first | done | rfl | (simp only [List.length_drop, List.length_take]; rfl)) ?_; (with_reducible refine (laws_heldIntS.calls k _ _ l0_0 a1 qc _ ?side1 ?side2 A3.out).mono ?_); (case side1 => exact cb_ qd HB); (case side2 => exact qe.out); rintro e w' ⟨rfl, ⟨nd, rfl⟩⟩; refine ⟨_, rfl, ?_⟩))
  go_ret
  exact ⟨by first | rfl | (simp [errW_none, errW_some] <;> rfl) | (simp [*, errW_none, errW_some] <;> rfl), bb_ HB⟩
 ·
  rw [if_neg c4] at H
  have qh : decide (qc < 0) = false := decide_eq_false c4
  clear c4
  obtain rfl := Option.some.inj H
  go_enter Try.func19, Try.ntmps19
  go_wp2_with (first | ((with_reducible refine gate_dst (N := 2) rfl ?_); refine box_event ?hg (N := 2) ?hd (cs := #[.slice A0_0 l0_0.length c0_0, .int .i64 a0_1, .bool a0_2]) (t := 26) ?hr ?_; (case hd => rfl); (case hg => rfl); (case hr => first | (go_simp; done) | (go_simp; rfl)); intro qb hg w7 hbox hb; have qa := Aside0.mk (hbox); have qf := Aside0.mk ((by rw [hg]; exact (bz_ HB) : w.heap.size ≤ qb)); have qg := Aside0.mk ((by rw [hg]; exact (bz_ HB) : w.heap.size ≤ qb)); replace HB := bS_ HB hb; clear hb hbox hg; have qo : w7.cell? ⟨qb, 0, none⟩ = some (.slice A0_0 l0_0.length c0_0) := bc_ qa 0; have qp : w7.cell? ⟨qb, 1, none⟩ = some (.int .i64 a0_1) := bc_ qa 1; have qq : w7.cell? ⟨qb, 2, none⟩ = some (.bool a0_2) := bc_ qa 2; have qr := blk_frozen qa.out 0; have qs := blk_frozen qa.out 1; have qt := blk_frozen qa.out 2) | ((with_reducible refine gate_callee (f := 55) rfl ?_); refine goesL_ (some 8) rfl rfl Try.func55 (by kernel_rfl) rfl #[.slice A0_0 l0_0.length c0_0, .int .i64 a1] rfl (by (try simp only [List.map_toArray, List.map_cons, List.map_nil]); first | done | rfl | (simp only [List.length_drop, List.length_take]; rfl)) ?_; (with_reducible refine (laws_heldIntS.calls k _ _ l0_0 a1 qc _ ?side1 ?side2 A3.out).mono ?_); (case side1 => exact cb_ qd HB); (case side2 => exact qe.out); rintro e w' ⟨rfl, ⟨nd, rfl⟩⟩; refine ⟨_, rfl, ?_⟩))
  go_ret
  exact ⟨by first | rfl | (simp [errW_none, errW_some] <;> rfl) | (simp [*, errW_none, errW_some] <;> rfl), bb_ HB⟩

/-! ### spec_l1In: function 61 -/
def spec_l1In.f (a0 : Int) (a1 : Int) (a2 : Int) : Option (Bool) := if a0 ≥ a1 then (some (decide (a0 ≤ a2))) else (some false)
set_option maxHeartbeats 8000000 in
set_option maxRecDepth 100000 in
theorem spec_l1In.calls (a0 : Int) (a1 : Int) (a2 : Int) (r : Bool) (w : World) (h : spec_l1In.f a0 a1 a2 = some r) :
  Calls Try.prog 61 #[.int .i64 a0, .int .i64 a1, .int .i64 a2] w fun e w' => e = .returned (.bool r) ∧ Drawn0 w w' := by
 have H : (if a0 ≥ a1 then (some (decide (a0 ≤ a2))) else (some false)) = some r := h
 clear h
 by_cases c4 : a0 ≥ a1
 ·
  rw [if_pos c4] at H
  have qa : decide (a1 ≤ a0) = true := decide_eq_true c4
  clear c4
  obtain rfl := Option.some.inj H
  go_enter Try.func61, Try.ntmps61
  go_wp2
  go_ret
  exact ⟨by first | rfl | (simp; done) | (simp [*]; done), by repeat (first | exact Drawn0.refl _ | apply Drawn0.step)⟩
 ·
  rw [if_neg c4] at H
  have qa : decide (a1 ≤ a0) = false := decide_eq_false c4
  clear c4
  obtain rfl := Option.some.inj H
  go_enter Try.func61, Try.ntmps61
  go_wp2
  go_ret
  exact ⟨by first | rfl | (simp; done) | (simp [*]; done), by repeat (first | exact Drawn0.refl _ | apply Drawn0.step)⟩

/-! ### spec_IsNumber: function 56 -/
def spec_IsNumber.f (a0 : Int) : Option (Bool) := (spec_l1In.f a0 (-400000000) 400000000).bind fun qa => (some qa)
set_option maxHeartbeats 8000000 in
set_option maxRecDepth 100000 in
theorem spec_IsNumber.calls (a0 : Int) (r : Bool) (w : World) (h : spec_IsNumber.f a0 = some r) :
  Calls Try.prog 56 #[.int .i64 a0] w fun e w' => e = .returned (.bool r) ∧ Drawn0 w w' := by
 have H : ((spec_l1In.f a0 (-400000000) 400000000).bind fun qa => (some qa)) = some r := h
 clear h
 replace H := Option.bind_eq_some_iff.mp H
 obtain ⟨qa, A20, H⟩ := H
 replace H : (some qa) = some r := H
 have A2 := Aside0.mk A20
 clear A20
 obtain rfl := Option.some.inj H
 go_enter Try.func56, Try.ntmps56
 go_wp2_with (first | ((with_reducible refine gate_callee (f := 61) rfl ?_); refine goesL_ (some 4) rfl rfl Try.func61 (by kernel_rfl) rfl #[.int .i64 a0, .int .i64 (-400000000), .int .i64 400000000] rfl (by (try simp only [List.map_toArray, List.map_cons, List.map_nil]); first | done | rfl | (simp only [List.length_drop, List.length_take]; rfl)) ?_; (with_reducible refine (spec_l1In.calls a0 (-400000000) 400000000 qa _ A2.out).mono ?_); rintro e w' ⟨rfl, ⟨nd, rfl⟩⟩; refine ⟨_, rfl, ?_⟩))
 go_ret
 exact ⟨by first | rfl | (simp; done) | (simp [*]; done), by repeat (first | exact Drawn0.refl _ | apply Drawn0.step)⟩

/-! ### spec_l1Abs: function 89 -/
def spec_l1Abs.f (a0 : Int) : Option (Int) := some (mx a0 (wrap64 (-a0)))
set_option maxHeartbeats 8000000 in
set_option maxRecDepth 100000 in
theorem spec_l1Abs.calls (a0 : Int) (r : Int) (w : World) (h : spec_l1Abs.f a0 = some r) :
  Calls Try.prog 89 #[.int .i64 a0] w fun e w' => e = .returned (.int .i64 r) ∧ Below w.heap.size w w' := by
 have HB := Aside0.mk (Below.refl w.heap.size w)
 have H : (some (mx a0 (wrap64 (-a0)))) = some r := h
 clear h
 obtain ⟨ji2, hji2⟩ : ∃ j_ : Int, (mx a0 (wrap64 (-a0))) = j_ := ⟨_, rfl⟩
 replace H : (some ji2) = some r := by first | (rw [hji2] at H; exact H) | (simp only [hji2] at H ⊢; exact H)
 have hji2_ : (if a0 < (wrap64 (-a0)) then (wrap64 (-a0)) else a0) = ji2 := hji2
 obtain rfl := Option.some.inj H
 go_enter Try.func89, Try.ntmps89
 go_wp2
 go_ret
 exact ⟨by first | rfl | (simp [errW_none, errW_some] <;> rfl) | (simp only [← hji2]; first | rfl | (simp [errW_none, errW_some] <;> rfl)) | (simp [*, errW_none, errW_some] <;> rfl), bb_ HB⟩

/-! ### spec_l2Gcd: function 81 -/
mutual
def spec_l2Gcd.l0 : Nat → List Int → Int → Int → Option (Int)
 | 0, _, _, _ => none
 | k + 1, x0, x5, x6 => if x6 < (x0.length : Int) then (if 0 ≤ x6 then ((spec_l1Abs.f (rd x0 x6)).bind fun qe => (spec_l2Gcd.l1 k x0 x5 x6 qe)) else (none)) else (some x5)
def spec_l2Gcd.l1 : Nat → List Int → Int → Int → Int → Option (Int)
 | 0, _, _, _, _ => none
 | k + 1, x0, x5, x6, x7 => if x7 = 0 then (spec_l2Gcd.l0 k x0 x5 (wrap64 (x6 + 1))) else (spec_l2Gcd.l1 k x0 x7 x6 (Int.tmod x5 x7))
end
def spec_l2Gcd.f (k : Nat) (l0 : List Int) (a1 : Int) : Option (Int) := (spec_l1Abs.f a1).bind fun qd => (spec_l2Gcd.l0 k l0 qd 0)
theorem spec_l2Gcd.mono_l : ∀ k, (∀ y0 y1 y2, LeO (spec_l2Gcd.l0 k y0 y1 y2) (spec_l2Gcd.l0 (k + 1) y0 y1 y2)) ∧ (∀ y0 y1 y2 y3, LeO (spec_l2Gcd.l1 k y0 y1 y2 y3) (spec_l2Gcd.l1 (k + 1) y0 y1 y2 y3))
 | 0 => ⟨fun _ _ _ r h => by simp [spec_l2Gcd.l0] at h, fun _ _ _ _ r h => by simp [spec_l2Gcd.l1] at h⟩
 | k + 1 => by
  obtain ⟨ih0, ih1⟩ := spec_l2Gcd.mono_l k
  refine ⟨?_, ?_⟩
  ·
   intro y0 y1 y2
   unfold spec_l2Gcd.l0
   repeat' first
   | (with_reducible exact ih0 _ _ _)
   | (with_reducible exact ih1 _ _ _ _)
   | (with_reducible exact LeO.refl _)
   | (with_reducible exact LeO.none _)
   | (with_reducible refine LeO.ite ?_ ?_)
   | (with_reducible refine LeO.bind ?_ (fun _ => ?_))
   | exact ih0 _ _ _
   | exact ih1 _ _ _ _
   | exact LeO.none _
   | refine LeO.ite ?_ ?_
   | refine LeO.bind ?_ (fun _ => ?_)
  ·
   intro y0 y1 y2 y3
   unfold spec_l2Gcd.l1
   repeat' first
   | (with_reducible exact ih0 _ _ _)
   | (with_reducible exact ih1 _ _ _ _)
   | (with_reducible exact LeO.refl _)
   | (with_reducible exact LeO.none _)
   | (with_reducible refine LeO.ite ?_ ?_)
   | (with_reducible refine LeO.bind ?_ (fun _ => ?_))
   | exact ih0 _ _ _
   | exact ih1 _ _ _ _
   | exact LeO.none _
   | refine LeO.ite ?_ ?_
   | refine LeO.bind ?_ (fun _ => ?_)
theorem spec_l2Gcd.mono : ∀ a0 a1 k, LeO (spec_l2Gcd.f k a0 a1) (spec_l2Gcd.f (k + 1) a0 a1) := by
 intro a0 a1 k
 obtain ⟨ih0, ih1⟩ := spec_l2Gcd.mono_l k
 unfold spec_l2Gcd.f
 repeat' first
   | (with_reducible exact ih0 _ _ _)
   | (with_reducible exact ih1 _ _ _ _)
   | (with_reducible exact LeO.refl _)
   | (with_reducible exact LeO.none _)
   | (with_reducible refine LeO.ite ?_ ?_)
   | (with_reducible refine LeO.bind ?_ (fun _ => ?_))
   | exact ih0 _ _ _
   | exact ih1 _ _ _ _
   | exact LeO.none _
   | refine LeO.ite ?_ ?_
   | refine LeO.bind ?_ (fun _ => ?_)
set_option maxHeartbeats 8000000 in
set_option maxRecDepth 100000 in
theorem spec_l2Gcd.calls (k : Nat) (A0 : Option Addr) (c0 : Nat) (l0 : List Int) (a1 : Int) (r : Int) (w : World) (hr0 : Kd.C (Kd.int .i64) w A0 l0.length l0) (hc0 : l0.length ≤ c0) (h : spec_l2Gcd.f k l0 a1 = some r) :
  Calls Try.prog 81 #[.slice A0 l0.length c0, .int .i64 a1] w fun e w' => e = .returned (.int .i64 r) ∧ Below w.heap.size w w' := by
 have HR0 := Aside0.mk hr0
 have HC0 := Aside0.mk hc0
 clear hr0 hc0
 have HB := Aside0.mk (Below.refl w.heap.size w)
 have H : ((spec_l1Abs.f a1).bind fun qd => (spec_l2Gcd.l0 k l0 qd 0)) = some r := h
 clear h
 replace H := Option.bind_eq_some_iff.mp H
 obtain ⟨qd, A30, H⟩ := H
 replace H : (spec_l2Gcd.l0 k l0 qd 0) = some r := H
 have A3 := Aside0.mk A30
 clear A30
 have H' := Aside0.mk H
 clear H
 go_enter Try.func81, Try.ntmps81
 go_wp2_with (first | (go_at_call 89; (with_reducible refine (spec_l1Abs.calls a1 qd _ A3.out).mono ?_); rintro e w4 ⟨rfl, hb⟩; replace HB := bS_ HB hb; (try clear hb); (try clear hb2); (try clear hk); (try clear hi)))
 repeat (go_quiet (first | (go_at_call 89; (with_reducible refine (spec_l1Abs.calls a1 qd _ A3.out).mono ?_); rintro e w4 ⟨rfl, hb⟩; replace HB := bS_ HB hb; (try clear hb); (try clear hb2); (try clear hk); (try clear hi))); try go_wp2_with (first | (go_at_call 89; (with_reducible refine (spec_l1Abs.calls a1 qd _ A3.out).mono ?_); rintro e w4 ⟨rfl, hb⟩; replace HB := bS_ HB hb; (try clear hb); (try clear hb2); (try clear hk); (try clear hi))))
 go_loopg [5, 6] k (fun kq v5 v6 w' => ∃ (qf : Int) (qa : Int), v5 = .int .i64 qf ∧ v6 = .int .i64 qa ∧ Aside0 (spec_l2Gcd.l0 kq l0 qf qa = some r) ∧ Aside0 (kq ≤ k) ∧ Aside0 (Below w.heap.size w w'))
 case atStart => exact ⟨(qd), (0), (by first | rfl | (simp; done) | (simp [*]; done)), (by first | rfl | (simp; done) | (simp [*]; done)), H', ⟨Nat.le_refl _⟩, ⟨bb_ HB⟩⟩
 case round =>
  clear H'
  try clear p2
  obtain ⟨qf, qa, rfl, rfl, HA, HK1, HB⟩ := hrel
  cases gk with
  | zero => exact absurd HA.out (by simp [spec_l2Gcd.l0])
  | succ k1 =>
   have H := HA.out
   clear HA
   simp only [spec_l2Gcd.l0] at H
   by_cases c5 : qa < (l0.length : Int)
   ·
    rw [if_pos c5] at H
    have qh : decide (qa < (l0.length : Int)) = true := decide_eq_true c5
    clear c5
    by_cases c6 : 0 ≤ qa
    ·
     rw [if_pos c6] at H
     have qi : decide (0 ≤ qa) = true := decide_eq_true c6
     clear c6
     replace H := Option.bind_eq_some_iff.mp H
     obtain ⟨qe, A70, H⟩ := H
     replace H : (spec_l2Gcd.l1 k1 l0 qf qa qe) = some r := H
     have A7 := Aside0.mk A70
     clear A70
     have H' := Aside0.mk H
     clear H
     have p128 : 0 ≤ (qa : Int) := of_decide_eq_true (by first | (with_reducible assumption) | assumption)
     have q128 : qa < (l0.length : Int) := of_decide_eq_true (by first | (with_reducible assumption) | assumption)
     obtain ⟨ql, e128, qb⟩ := Kd.at_int HR0.out qa p128 q128
     cases e128
     replace qb := (HB.out.cell (World.block_lt_of_cell? w _ qb)).trans qb
     replace p128 := eq_true p128
     replace q128 := eq_true q128
     go_wp2_with (first | (go_at_call 89; (with_reducible refine (spec_l1Abs.calls (rd l0 qa) qe _ A7.out).mono ?_); rintro e w8 ⟨rfl, hb⟩; replace HB := bS_ HB hb; (try clear hb); (try clear hb2); (try clear hk); (try clear hi)))
     repeat (go_quiet (first | (go_at_call 89; (with_reducible refine (spec_l1Abs.calls (rd l0 qa) qe _ A7.out).mono ?_); rintro e w8 ⟨rfl, hb⟩; replace HB := bS_ HB hb; (try clear hb); (try clear hb2); (try clear hk); (try clear hi))); try go_wp2_with (first | (go_at_call 89; (with_reducible refine (spec_l1Abs.calls (rd l0 qa) qe _ A7.out).mono ?_); rintro e w8 ⟨rfl, hb⟩; replace HB := bS_ HB hb; (try clear hb); (try clear hb2); (try clear hk); (try clear hi))))
     go_loopg [5, 7] k1 (fun kq v5 v7 w' => ∃ (qg : Int) (qc : Int), v5 = .int .i64 qg ∧ v7 = .int .i64 qc ∧ Aside0 (spec_l2Gcd.l1 kq l0 qg qa qc = some r) ∧ Aside0 (kq ≤ k1) ∧ Aside0 (Below w.heap.size w w'))
     case atStart => exact ⟨(qf), (qe), (by first | rfl | (simp; done) | (simp [*]; done)), (by first | rfl | (simp; done) | (simp [*]; done)), H', ⟨Nat.le_refl _⟩, ⟨bb_ HB⟩⟩
     case round =>
      clear H'
      try clear p1
      try clear q1
      try clear hx1
      try clear p2
      try clear c5
      try clear qh
      try clear c6
      try clear qi
      try clear c8
      try clear qb
      try clear p128
      try clear p2
      try clear q128
      obtain ⟨qg, qc, rfl, rfl, HA, HK2, HB⟩ := hrel
      cases gk with
      | zero => exact absurd HA.out (by simp [spec_l2Gcd.l1])
      | succ k2 =>
       have H := HA.out
       clear HA
       simp only [spec_l2Gcd.l1] at H
       by_cases c9 : qc = 0
       ·
        rw [if_pos c9] at H
        have qj : (qc == 0) = true := beq_iff_eq.mpr c9
        have qk : (qc != 0) = false := bne_eq_false_iff_eq.mpr c9
        clear c9
        have H' := Aside0.mk H
        clear H
        go_wp2
        repeat (go_quiet (fail); try go_wp2)
        go_roundg k2
        case measure => have := HK1.out; have := HK2.out; omega
        case rel => exact ⟨(qg), (wrap64 (qa + 1)), (by first | rfl | (simp; done) | (simp [*]; done)), (by first | rfl | (simp; done) | (simp [*]; done)), H', ⟨by have := HK1.out; have := HK2.out; omega⟩, ⟨bb_ HB⟩⟩
       ·
        rw [if_neg c9] at H
        have qj : (qc == 0) = false := beq_eq_false_iff_ne.mpr c9
        have qk : (qc != 0) = true := bne_iff_ne.mpr c9
        have H' := Aside0.mk H
        clear H
        go_wp2
        repeat (go_quiet (fail); try go_wp2)
        go_roundg k2
        case measure => have := HK1.out; have := HK2.out; omega
        case rel => exact ⟨(qc), (Int.tmod qg qc), (by first | rfl | (simp; done) | (simp [*]; done)), (by first | rfl | (simp; done) | (simp [*]; done)), H', ⟨by have := HK1.out; have := HK2.out; omega⟩, ⟨bb_ HB⟩⟩
    ·
     rw [if_neg c6] at H
     exact absurd H (by simp)
   ·
    rw [if_neg c5] at H
    have qh : decide (qa < (l0.length : Int)) = false := decide_eq_false c5
    clear c5
    obtain rfl := Option.some.inj H
    go_wp2
    repeat (go_quiet (fail); try go_wp2)
    go_ret
    exact ⟨by first | rfl | (simp [errW_none, errW_some] <;> rfl) | (simp [*, errW_none, errW_some] <;> rfl), bb_ HB⟩

/-! ### spec_IsAtom: function 53 -/
mutual
def spec_IsAtom.j0 : Nat → Bool → List Int → Int → Bool → Option (Bool)
 | 0, _, _, _, _ => none
 | k + 1, x13, x131000, x131001, x131002 => if x13 = true then (some false) else (spec_IsAtom.l0 k 0 x131000 x131001 x131002)
def spec_IsAtom.l0 : Nat → Int → List Int → Int → Bool → Option (Bool)
 | 0, _, _, _, _ => none
 | k + 1, x3, x131000, x131001, x131002 => if x3 < (x131000.length : Int) then (if 0 ≤ x3 then ((spec_IsNumber.f (rd x131000 x3)).bind fun qu => (if qu = true then (spec_IsAtom.l0 k (wrap64 (x3 + 1)) x131000 x131001 x131002) else (some false))) else (none)) else ((spec_l2Gcd.f k x131000 x131001).bind fun qv => (some (decide (qv ≤ 1))))
end
def spec_IsAtom.f (k : Nat) (l0_0 : List Int) (a0_1 : Int) (a0_2 : Bool) : Option (Bool) := if (l0_0.length : Int) > 4 then (spec_IsAtom.j0 k true l0_0 a0_1 a0_2) else ((spec_IsNumber.f a0_1).bind fun qe => (spec_IsAtom.j0 k (!qe) l0_0 a0_1 a0_2))
theorem spec_IsAtom.mono_l : ∀ k, (∀ y0 y1 y2 y3, LeO (spec_IsAtom.j0 k y0 y1 y2 y3) (spec_IsAtom.j0 (k + 1) y0 y1 y2 y3)) ∧ (∀ y0 y1 y2 y3, LeO (spec_IsAtom.l0 k y0 y1 y2 y3) (spec_IsAtom.l0 (k + 1) y0 y1 y2 y3))
 | 0 => ⟨fun _ _ _ _ r h => by simp [spec_IsAtom.j0] at h, fun _ _ _ _ r h => by simp [spec_IsAtom.l0] at h⟩
 | k + 1 => by
  obtain ⟨ih0, ih1⟩ := spec_IsAtom.mono_l k
  refine ⟨?_, ?_⟩
  ·
   intro y0 y1 y2 y3
   unfold spec_IsAtom.j0
   repeat' first
   | (with_reducible exact ih0 _ _ _ _)
   | (with_reducible exact ih1 _ _ _ _)
   | (with_reducible exact spec_l2Gcd.mono _ _ _)
   | (with_reducible exact LeO.refl _)
   | (with_reducible exact LeO.none _)
   | (with_reducible refine LeO.ite ?_ ?_)
   | (with_reducible refine LeO.bind ?_ (fun _ => ?_))
   | exact ih0 _ _ _ _
   | exact ih1 _ _ _ _
   | exact spec_l2Gcd.mono _ _ _
   | exact LeO.none _
   | refine LeO.ite ?_ ?_
   | refine LeO.bind ?_ (fun _ => ?_)
  ·
   intro y0 y1 y2 y3
   unfold spec_IsAtom.l0
   repeat' first
   | (with_reducible exact ih0 _ _ _ _)
   | (with_reducible exact ih1 _ _ _ _)
   | (with_reducible exact spec_l2Gcd.mono _ _ _)
   | (with_reducible exact LeO.refl _)
   | (with_reducible exact LeO.none _)
   | (with_reducible refine LeO.ite ?_ ?_)
   | (with_reducible refine LeO.bind ?_ (fun _ => ?_))
   | exact ih0 _ _ _ _
   | exact ih1 _ _ _ _
   | exact spec_l2Gcd.mono _ _ _
   | exact LeO.none _
   | refine LeO.ite ?_ ?_
   | refine LeO.bind ?_ (fun _ => ?_)
theorem spec_IsAtom.mono : ∀ a0 a1 a2 k, LeO (spec_IsAtom.f k a0 a1 a2) (spec_IsAtom.f (k + 1) a0 a1 a2) := by
 intro a0 a1 a2 k
 obtain ⟨ih0, ih1⟩ := spec_IsAtom.mono_l k
 unfold spec_IsAtom.f
 repeat' first
   | (with_reducible exact ih0 _ _ _ _)
   | (with_reducible exact ih1 _ _ _ _)
   | (with_reducible exact spec_l2Gcd.mono _ _ _)
   | (with_reducible exact LeO.refl _)
   | (with_reducible exact LeO.none _)
   | (with_reducible refine LeO.ite ?_ ?_)
   | (with_reducible refine LeO.bind ?_ (fun _ => ?_))
   | exact ih0 _ _ _ _
   | exact ih1 _ _ _ _
   | exact spec_l2Gcd.mono _ _ _
   | exact LeO.none _
   | refine LeO.ite ?_ ?_
   | refine LeO.bind ?_ (fun _ => ?_)
set_option maxHeartbeats 8000000 in
set_option maxRecDepth 100000 in
theorem spec_IsAtom.calls (k : Nat) (A0_0 : Option Addr) (c0_0 : Nat) (l0_0 : List Int) (a0_1 : Int) (a0_2 : Bool) (r : Bool) (w : World) (hr0_0 : Kd.C (Kd.int .i64) w A0_0 l0_0.length l0_0) (hc0_0 : l0_0.length ≤ c0_0) (h : spec_IsAtom.f k l0_0 a0_1 a0_2 = some r) :
  Calls Try.prog 53 #[.agg #[.slice A0_0 l0_0.length c0_0, .int .i64 a0_1, .bool a0_2]] w fun e w' => e = .returned (.bool r) ∧ Below w.heap.size w w' := by
 have hu26 := Try.underlying26
 have qh := Aside0.mk hr0_0
 have qx := Aside0.mk hc0_0
 clear hr0_0 hc0_0
 have HB := Aside0.mk (Below.refl w.heap.size w)
 have H : (if (l0_0.length : Int) > 4 then (spec_IsAtom.j0 k true l0_0 a0_1 a0_2) else ((spec_IsNumber.f a0_1).bind fun qe => (spec_IsAtom.j0 k (!qe) l0_0 a0_1 a0_2))) = some r := h
 clear h
 have HC2 := Aside0.mk H
 clear H
 go_enter Try.func53, Try.ntmps53
 go_upto_region 1 with (first | ((with_reducible refine gate_dst (N := 1) rfl ?_); refine box_event ?hg (N := 1) ?hd (cs := #[.slice A0_0 l0_0.length c0_0, .int .i64 a0_1, .bool a0_2]) (t := 26) ?hr ?_; (case hd => rfl); (case hg => rfl); (case hr => first | (go_simp; done) | (go_simp; rfl)); intro qb hg w3 hbox hb; have qa := Aside0.mk (hbox); have qS := Aside0.mk ((by rw [hg]; exact (bz_ HB) : w.heap.size ≤ qb)); have qT := Aside0.mk ((by rw [hg]; exact (bz_ HB) : w.heap.size ≤ qb)); replace HB := bS_ HB hb; clear hb hbox hg))
 (try simp only [Act.put, List.setIfInBounds_toArray, List.set_cons_zero, List.set_cons_succ])
 go_cut [13] (fun v13 wc => ∃ (kq : Nat) (qg : Bool), v13 = .bool qg ∧ Aside0 (spec_IsAtom.j0 kq qg l0_0 a0_1 a0_2 = some r) ∧ Aside0 (kq ≤ k) ∧ Aside0 (wc.heap[qb]? = some (.cells #[(.slice A0_0 l0_0.length c0_0), .int .i64 a0_1, .bool a0_2] 26 (0, 0))) ∧ Aside0 (Below w.heap.size w wc))
 case first =>
  have H := HC2.out
  clear HC2
  by_cases c4 : (l0_0.length : Int) > 4
  ·
   rw [if_pos c4] at H
   have qf : decide (4 < (l0_0.length : Int)) = true := decide_eq_true c4
   have qw : decide (4 < l0_0.length) = true := decide_eq_true (by omega)
   clear c4
   (first | rw [qf] | (simp only [i64_w, i32_w]; rw [qf]) | skip)
   have H' := Aside0.mk H
   clear H
   have qi : w3.cell? ⟨qb, 0, none⟩ = some (.slice A0_0 l0_0.length c0_0) := bc_ qa 0
   have qj : w3.cell? ⟨qb, 1, none⟩ = some (.int .i64 a0_1) := bc_ qa 1
   have qk : w3.cell? ⟨qb, 2, none⟩ = some (.bool a0_2) := bc_ qa 2
   have ql := blk_frozen qa.out 0
   have qm := blk_frozen qa.out 1
   have qn := blk_frozen qa.out 2
   go_wp2
   go_meet
   case rel => exact ⟨_, (true), (by first | rfl | (simp; done) | (simp [*]; done)), H', ⟨by first | omega | exact Nat.le_refl _⟩, ⟨kf_ qa⟩, ⟨bb_ HB⟩⟩
  ·
   rw [if_neg c4] at H
   have qf : decide (4 < (l0_0.length : Int)) = false := decide_eq_false c4
   have qw : decide (4 < l0_0.length) = false := decide_eq_false (by omega)
   clear c4
   (first | rw [qf] | (simp only [i64_w, i32_w]; rw [qf]) | skip)
   replace H := Option.bind_eq_some_iff.mp H
   obtain ⟨qe, A60, H⟩ := H
   replace H : (spec_IsAtom.j0 k (!qe) l0_0 a0_1 a0_2) = some r := H
   have A6 := Aside0.mk A60
   clear A60
   have H' := Aside0.mk H
   clear H
   have qo : w3.cell? ⟨qb, 0, none⟩ = some (.slice A0_0 l0_0.length c0_0) := bc_ qa 0
   have qp : w3.cell? ⟨qb, 1, none⟩ = some (.int .i64 a0_1) := bc_ qa 1
   have qq : w3.cell? ⟨qb, 2, none⟩ = some (.bool a0_2) := bc_ qa 2
   have qr := blk_frozen qa.out 0
   have qs := blk_frozen qa.out 1
   have qt := blk_frozen qa.out 2
   go_wp2_with (first | (go_at_call 56; (with_reducible refine (spec_IsNumber.calls a0_1 qe _ A6.out).mono ?_); rintro e w' ⟨rfl, ⟨nd, rfl⟩⟩))
   go_meet
   case rel => exact ⟨_, (!qe), (by first | rfl | (simp; done) | (simp [*]; done)), H', ⟨by first | omega | exact Nat.le_refl _⟩, ⟨kf_ qa⟩, ⟨bb_ HB⟩⟩
 case rest =>
  clear HC2
  try clear p2
  try clear c4
  try clear qf
  try clear qw
  try clear c5
  try clear qi
  try clear qj
  try clear qk
  try clear qo
  try clear qp
  try clear qq
  try clear ql
  try clear qm
  try clear qn
  try clear qr
  try clear qs
  try clear qt
  obtain ⟨kq, qg, rfl, HA, HJ1, qa, HB⟩ := hcut
  cases kq with
  | zero => exact absurd HA.out (by simp [spec_IsAtom.j0])
  | succ kj1 =>
   have H := HA.out
   clear HA
   simp only [spec_IsAtom.j0] at H
   by_cases c8 : qg = true
   ·
    subst c8
    have H1 : (some false) = some r := by rw [if_pos rfl] at H; exact H
    clear H
    have H := H1
    clear H1
    obtain rfl := Option.some.inj H
    go_wp2
    go_ret
    exact ⟨by first | rfl | (simp [errW_none, errW_some] <;> rfl) | (simp [*, errW_none, errW_some] <;> rfl), bb_ HB⟩
   ·
    replace c8 := Bool.eq_false_iff.mpr c8
    subst c8
    have H1 : (spec_IsAtom.l0 kj1 0 l0_0 a0_1 a0_2) = some r := by rw [if_neg (show ¬ (false = true) by decide)] at H; exact H
    clear H
    have H := H1
    clear H1
    have H' := Aside0.mk H
    clear H
    go_wp2
    go_loopg [3] kj1 (fun kq v3 w' => ∃ (qc : Int), v3 = .int .i64 qc ∧ Aside0 (spec_IsAtom.l0 kq qc l0_0 a0_1 a0_2 = some r) ∧ Aside0 (kq ≤ kj1) ∧ Aside0 (w'.heap[qb]? = some (.cells #[(.slice A0_0 l0_0.length c0_0), .int .i64 a0_1, .bool a0_2] 26 (0, 0))) ∧ Aside0 (Below w.heap.size w w'))
    case atStart => exact ⟨(0), (by first | rfl | (simp; done) | (simp [*]; done)), H', ⟨Nat.le_refl _⟩, ⟨kf_ qa⟩, ⟨bb_ HB⟩⟩
    case round =>
     clear H'
     try clear p2
     try clear c4
     try clear qf
     try clear qw
     try clear c5
     try clear c8
     try clear qi
     try clear qj
     try clear qk
     try clear qo
     try clear qp
     try clear qq
     try clear ql
     try clear qm
     try clear qn
     try clear qr
     try clear qs
     try clear qt
     try clear p2
     obtain ⟨qc, rfl, HA, HK2, qa, HB⟩ := hrel
     cases gk with
     | zero => exact absurd HA.out (by simp [spec_IsAtom.l0])
     | succ k2 =>
      have H := HA.out
      clear HA
      simp only [spec_IsAtom.l0] at H
      by_cases c9 : qc < (l0_0.length : Int)
      ·
       rw [if_pos c9] at H
       have qR : decide (qc < (l0_0.length : Int)) = true := decide_eq_true c9
       clear c9
       by_cases c10 : 0 ≤ qc
       ·
        rw [if_pos c10] at H
        have qU : decide (0 ≤ qc) = true := decide_eq_true c10
        clear c10
        replace H := Option.bind_eq_some_iff.mp H
        obtain ⟨qu, A110, H⟩ := H
        replace H : (if qu = true then (spec_IsAtom.l0 k2 (wrap64 (qc + 1)) l0_0 a0_1 a0_2) else (some false)) = some r := H
        have A11 := Aside0.mk A110
        clear A110
        by_cases c12 : qu = true
        ·
         subst c12
         have H1 : (spec_IsAtom.l0 k2 (wrap64 (qc + 1)) l0_0 a0_1 a0_2) = some r := by rw [if_pos rfl] at H; exact H
         clear H
         have H := H1
         clear H1
         have H' := Aside0.mk H
         clear H
         have qz : wr.cell? ⟨qb, 0, none⟩ = some (.slice A0_0 l0_0.length c0_0) := bc_ qa 0
         have qA : wr.cell? ⟨qb, 1, none⟩ = some (.int .i64 a0_1) := bc_ qa 1
         have qB : wr.cell? ⟨qb, 2, none⟩ = some (.bool a0_2) := bc_ qa 2
         have qC := blk_frozen qa.out 0
         have qD := blk_frozen qa.out 1
         have qE := blk_frozen qa.out 2
         have p132 : 0 ≤ (qc : Int) := of_decide_eq_true (by first | (with_reducible assumption) | assumption)
         have q132 : qc < (l0_0.length : Int) := of_decide_eq_true (by first | (with_reducible assumption) | assumption)
         obtain ⟨qy, e132, qd⟩ := Kd.at_int qh.out qc p132 q132
         cases e132
         replace qd := (HB.out.cell (World.block_lt_of_cell? w _ qd)).trans qd
         replace p132 := eq_true p132
         replace q132 := eq_true q132
         go_wp2_with (first | ((with_reducible refine gate_callee (f := 56) rfl ?_); refine goesL_ (some 26) rfl rfl Try.func56 (by kernel_rfl) rfl #[.int .i64 (rd l0_0 qc)] rfl (by (try simp only [List.map_toArray, List.map_cons, List.map_nil]); first | done | rfl | (simp only [List.length_drop, List.length_take]; rfl)) ?_; (with_reducible refine (spec_IsNumber.calls (rd l0_0 qc) true _ A11.out).mono ?_); rintro e w' ⟨rfl, ⟨nd, rfl⟩⟩; refine ⟨_, rfl, ?_⟩))
         go_roundg k2
         case measure => have := HJ1.out; have := HK2.out; omega
         case rel => exact ⟨(wrap64 (qc + 1)), (by first | rfl | (simp; done) | (simp [*]; done)), H', ⟨by have := HJ1.out; have := HK2.out; omega⟩, ⟨kf_ qa⟩, ⟨bb_ HB⟩⟩
        ·
         replace c12 := Bool.eq_false_iff.mpr c12
         subst c12
         have H1 : (some false) = some r := by rw [if_neg (show ¬ (false = true) by decide)] at H; exact H
         clear H
         have H := H1
         clear H1
         obtain rfl := Option.some.inj H
         have qF : wr.cell? ⟨qb, 0, none⟩ = some (.slice A0_0 l0_0.length c0_0) := bc_ qa 0
         have qG : wr.cell? ⟨qb, 1, none⟩ = some (.int .i64 a0_1) := bc_ qa 1
         have qH : wr.cell? ⟨qb, 2, none⟩ = some (.bool a0_2) := bc_ qa 2
         have qI := blk_frozen qa.out 0
         have qJ := blk_frozen qa.out 1
         have qK := blk_frozen qa.out 2
         have p132 : 0 ≤ (qc : Int) := of_decide_eq_true (by first | (with_reducible assumption) | assumption)
         have q132 : qc < (l0_0.length : Int) := of_decide_eq_true (by first | (with_reducible assumption) | assumption)
         obtain ⟨qy, e132, qd⟩ := Kd.at_int qh.out qc p132 q132
         cases e132
         replace qd := (HB.out.cell (World.block_lt_of_cell? w _ qd)).trans qd
         replace p132 := eq_true p132
         replace q132 := eq_true q132
         go_wp2_with (first | ((with_reducible refine gate_callee (f := 56) rfl ?_); refine goesL_ (some 26) rfl rfl Try.func56 (by kernel_rfl) rfl #[.int .i64 (rd l0_0 qc)] rfl (by (try simp only [List.map_toArray, List.map_cons, List.map_nil]); first | done | rfl | (simp only [List.length_drop, List.length_take]; rfl)) ?_; (with_reducible refine (spec_IsNumber.calls (rd l0_0 qc) false _ A11.out).mono ?_); rintro e w' ⟨rfl, ⟨nd, rfl⟩⟩; refine ⟨_, rfl, ?_⟩))
         go_ret
         exact ⟨by first | rfl | (simp [errW_none, errW_some] <;> rfl) | (simp [*, errW_none, errW_some] <;> rfl), bb_ HB⟩
       ·
        rw [if_neg c10] at H
        exact absurd H (by simp)
      ·
       rw [if_neg c9] at H
       have qR : decide (qc < (l0_0.length : Int)) = false := decide_eq_false c9
       clear c9
       replace H := Option.bind_eq_some_iff.mp H
       obtain ⟨qv, A150, H⟩ := H
       replace H : (some (decide (qv ≤ 1))) = some r := H
       have A15 := Aside0.mk A150
       clear A150
       obtain rfl := Option.some.inj H
       have qL : wr.cell? ⟨qb, 0, none⟩ = some (.slice A0_0 l0_0.length c0_0) := bc_ qa 0
       have qM : wr.cell? ⟨qb, 1, none⟩ = some (.int .i64 a0_1) := bc_ qa 1
       have qN : wr.cell? ⟨qb, 2, none⟩ = some (.bool a0_2) := bc_ qa 2
       have qO := blk_frozen qa.out 0
       have qP := blk_frozen qa.out 1
       have qQ := blk_frozen qa.out 2
       go_wp2_with (first | ((with_reducible refine gate_callee (f := 81) rfl ?_); refine goesL_ (some 32) rfl rfl Try.func81 (by kernel_rfl) rfl #[.slice A0_0 l0_0.length c0_0, .int .i64 a0_1] rfl (by (try simp only [List.map_toArray, List.map_cons, List.map_nil]); first | done | rfl | (simp only [List.length_drop, List.length_take]; rfl)) ?_; (with_reducible refine (spec_l2Gcd.calls k2 _ _ l0_0 a0_1 qv _ ?side1 ?side2 A15.out).mono ?_); (case side1 => exact cb_ qh HB); (case side2 => exact qx.out); rintro e qV ⟨rfl, hb⟩; refine ⟨_, rfl, ?_⟩; replace qa := kB_ qa hb; replace HB := bS_ HB hb; (try clear hb); (try clear hb2); (try clear hk); (try clear hi)))
       go_ret
       exact ⟨by first | rfl | (simp [errW_none, errW_some] <;> rfl) | (simp [*, errW_none, errW_some] <;> rfl), bb_ HB⟩

/-! ### spec_l2Atom: function 57 -/
def spec_l2Atom.l0 : Nat → List Int → Int → Int → List Int → Int → Bool → Option (List Int × Int × Bool × Bool)
 | 0, _, _, _, _, _, _ => none
 | k + 1, x0, x8, x10, x138000, x138001, x138002 => if x10 < (x0.length : Int) then (if 0 ≤ x10 then (if x8 = 0 then (none) else (if x138000.length < 17592186044416 then (spec_l2Atom.l0 k x0 x8 (wrap64 (x10 + 1)) (x138000 ++ [wrap64 (Int.tdiv (rd x0 x10) x8)]) x138001 x138002) else (none))) else (none)) else ((spec_IsAtom.f k x138000 x138001 x138002).bind fun qn => (if qn = true then (some (x138000, x138001, x138002, true)) else (some (([] : List Int), 0, false, false))))
def spec_l2Atom.f (k : Nat) (l0 : List Int) (a1 : Int) (a2 : Bool) : Option (List Int × Int × Bool × Bool) := (spec_l2Gcd.f k l0 a1).bind fun qj => (if (mx 1 qj) = 0 then (none) else (spec_l2Atom.l0 k l0 (mx 1 qj) 0 ([] : List Int) (wrap64 (Int.tdiv a1 (mx 1 qj))) a2))
theorem spec_l2Atom.mono_l : ∀ k, (∀ y0 y1 y2 y3 y4 y5, LeO (spec_l2Atom.l0 k y0 y1 y2 y3 y4 y5) (spec_l2Atom.l0 (k + 1) y0 y1 y2 y3 y4 y5))
 | 0 => fun _ _ _ _ _ _ r h => by simp [spec_l2Atom.l0] at h
 | k + 1 => by
  have ih0 := spec_l2Atom.mono_l k
  ·
   intro y0 y1 y2 y3 y4 y5
   unfold spec_l2Atom.l0
   repeat' first
   | (with_reducible exact ih0 _ _ _ _ _ _)
   | (with_reducible exact spec_IsAtom.mono _ _ _ _)
   | (with_reducible exact spec_l2Gcd.mono _ _ _)
   | (with_reducible exact LeO.refl _)
   | (with_reducible exact LeO.none _)
   | (with_reducible refine LeO.ite ?_ ?_)
   | (with_reducible refine LeO.bind ?_ (fun _ => ?_))
   | exact ih0 _ _ _ _ _ _
   | exact spec_IsAtom.mono _ _ _ _
   | exact spec_l2Gcd.mono _ _ _
   | exact LeO.none _
   | refine LeO.ite ?_ ?_
   | refine LeO.bind ?_ (fun _ => ?_)
theorem spec_l2Atom.mono : ∀ a0 a1 a2 k, LeO (spec_l2Atom.f k a0 a1 a2) (spec_l2Atom.f (k + 1) a0 a1 a2) := by
 intro a0 a1 a2 k
 have ih0 := spec_l2Atom.mono_l k
 unfold spec_l2Atom.f
 repeat' first
   | (with_reducible exact ih0 _ _ _ _ _ _)
   | (with_reducible exact spec_IsAtom.mono _ _ _ _)
   | (with_reducible exact spec_l2Gcd.mono _ _ _)
   | (with_reducible exact LeO.refl _)
   | (with_reducible exact LeO.none _)
   | (with_reducible refine LeO.ite ?_ ?_)
   | (with_reducible refine LeO.bind ?_ (fun _ => ?_))
   | exact ih0 _ _ _ _ _ _
   | exact spec_IsAtom.mono _ _ _ _
   | exact spec_l2Gcd.mono _ _ _
   | exact LeO.none _
   | refine LeO.ite ?_ ?_
   | refine LeO.bind ?_ (fun _ => ?_)
def spec_l2Atom.T6 : Bool × List (List Nat × List Nat) := (true, [([], []), ([0], [0]), ([], []), ([], []), ([2, 3], [2, 3]), ([4], [4]), ([], []), ([5, 6], [5, 6]), ([7], [7]), ([1, 8], [1, 8]), ([0, 1, 2, 3, 4, 5, 6, 7, 8, 9], []), ([10, 9, 9, 0, 1, 2, 3, 4, 5, 6, 7, 8, 9], [9, 10])])
def spec_l2Atom.B6 : List Nat := [0, 1, 0, 0, 12, 28, 0, 124, 252, 511, 1023, 2047]
theorem spec_l2Atom.tab6 : rtab .any (opsOf Try.f57 6) = spec_l2Atom.T6 := by kernel_rfl
theorem spec_l2Atom.bits6 : waitsOk spec_l2Atom.T6.2 spec_l2Atom.B6 = true := by kernel_rfl
set_option maxHeartbeats 8000000 in
set_option maxRecDepth 100000 in
theorem spec_l2Atom.calls (k : Nat) (A0 : Option Addr) (c0 : Nat) (l0 : List Int) (a1 : Int) (a2 : Bool) (r1 : List Int) (r2 : Int) (r3 : Bool) (r4 : Bool) (w : World) (hr0 : Kd.C (Kd.int .i64) w A0 l0.length l0) (hc0 : l0.length ≤ c0) (h : spec_l2Atom.f k l0 a1 a2 = some (r1, r2, r3, r4)) :
  Calls Try.prog 57 #[.slice A0 l0.length c0, .int .i64 a1, .bool a2] w fun e w' => ∃ v0_ : Value, e = .returned (.tuple #[.agg #[v0_, .int .i64 r2, .bool r3], .bool r4]) ∧ Kd.R (Kd.int .i64) 3 w' w.heap.size (fun _ => True) v0_ r1 ∧ Below w.heap.size w w' := by
 have hu26 := Try.underlying26
 have HR0 := Aside0.mk hr0
 have HC0 := Aside0.mk hc0
 clear hr0 hc0
 have HB := Aside0.mk (Below.refl w.heap.size w)
 have H : ((spec_l2Gcd.f k l0 a1).bind fun qj => (if (mx 1 qj) = 0 then (none) else (spec_l2Atom.l0 k l0 (mx 1 qj) 0 ([] : List Int) (wrap64 (Int.tdiv a1 (mx 1 qj))) a2))) = some (r1, r2, r3, r4) := h
 clear h
 replace H := Option.bind_eq_some_iff.mp H
 obtain ⟨qj, A40, H⟩ := H
 replace H : (if (mx 1 qj) = 0 then (none) else (spec_l2Atom.l0 k l0 (mx 1 qj) 0 ([] : List Int) (wrap64 (Int.tdiv a1 (mx 1 qj))) a2)) = some (r1, r2, r3, r4) := H
 have A4 := Aside0.mk A40
 clear A40
 obtain ⟨ji5, hji5⟩ : ∃ j_ : Int, (mx 1 qj) = j_ := ⟨_, rfl⟩
 replace H : (if (ji5) = 0 then (none) else (spec_l2Atom.l0 k l0 ji5 0 ([] : List Int) (wrap64 (Int.tdiv a1 (ji5))) a2)) = some (r1, r2, r3, r4) := by first | (rw [hji5] at H; exact H) | (simp only [hji5] at H ⊢; exact H)
 (try rw [hji5] at A4)
 (try (have hji5l : 1 ≤ ji5 := by (rw [← hji5]; unfold mx; (repeat' split) <;> omega)))
 (try (have hji5m : 0 ≤ ji5 := by omega))
 have hji5_ : (if 1 < qj then qj else 1) = ji5 := hji5
 by_cases c6 : (ji5) = 0
 ·
  rw [if_pos c6] at H
  exact absurd H (by simp)
 ·
  rw [if_neg c6] at H
  have q4 : ((ji5) == 0) = false := beq_eq_false_iff_ne.mpr c6
  have q5 : ((ji5) != 0) = true := bne_iff_ne.mpr c6
  have H' := Aside0.mk H
  clear H
  go_enter Try.func57, Try.ntmps57
  go_wp2_with (first | ((with_reducible refine gate_dst (N := 6) rfl ?_); refine box_event ?hg (N := 6) ?hd (cs := #[.slice none 0 0, .int .i64 0, .bool false]) (t := 26) ?hr ?_; (case hd => rfl); (case hg => rfl); (case hr => first | (go_simp; done) | (go_simp; rfl)); intro qg hg w7 hbox hb; have qd := Aside0.mk (hbox); have q9 := Aside0.mk ((by rw [hg]; exact (bz_ HB) : w.heap.size ≤ qg)); have za := Aside0.mk ((by rw [hg]; exact (bz_ HB) : w.heap.size ≤ qg)); replace HB := bS_ HB hb; clear hb hbox hg) | ((with_reducible refine gate_callee (f := 81) rfl ?_); refine goesL_ (some 13) rfl rfl Try.func81 (by kernel_rfl) rfl #[.slice A0 l0.length c0, .int .i64 a1] rfl (by (try simp only [List.map_toArray, List.map_cons, List.map_nil]); first | done | rfl | (simp only [List.length_drop, List.length_take]; rfl)) ?_; (with_reducible refine (spec_l2Gcd.calls k _ _ l0 a1 qj _ ?side1 ?side2 A4.out).mono ?_); (case side1 => exact cb_ HR0 HB); (case side2 => exact HC0.out); rintro e w8 ⟨rfl, hb⟩; refine ⟨_, rfl, ?_⟩; replace qd := kB_ qd hb; replace HB := bS_ HB hb; (try clear hb); (try clear hb2); (try clear hk); (try clear hi)) | ((with_reducible refine gate_dst (N := 9) rfl ?_); refine box_event ?hg (N := 9) ?hd (cs := #[.slice none 0 0, .int .i64 0, .bool false]) (t := 26) ?hr ?_; (case hd => rfl); (case hg => rfl); (case hr => first | (go_simp; done) | (go_simp; rfl)); intro qe hg w9 hbox hb; have qa := Aside0.mk (hbox); have zb := Aside0.mk ((by rw [hg]; exact (bz_ HB) : w.heap.size ≤ qe)); have zc := Aside0.mk ((by rw [hg]; exact (bz_ HB) : w.heap.size ≤ qe)); replace HB := bS_ HB hb; have qh := Aside0.mk ((nl_ qd hg : qg ≠ qe)); have qi := Aside0.mk ((ng_ qd hg : qe ≠ qg)); replace qd := kB_ qd hb; clear hb hbox hg; have zd := qi.out; have ze := qh.out; have qo : w9.cell? ⟨qe, 0, none⟩ = some (.slice none 0 0) := bc_ qa 0; have qp : w9.cell? ⟨qe, 1, none⟩ = some (.int .i64 0) := bc_ qa 1; have qq : w9.cell? ⟨qe, 2, none⟩ = some (.bool false) := bc_ qa 2; have qr := blk_frozen qa.out 0; have qs := blk_frozen qa.out 1; have qt := blk_frozen qa.out 2))
  go_loopg [10] k (fun kq v10 w' => ∃ (qf : Int) (qc : List Int) (u138000 : Value), v10 = .int .i64 qf ∧ Aside0 (spec_l2Atom.l0 kq l0 ji5 qf qc (wrap64 (Int.tdiv a1 (ji5))) a2 = some (r1, r2, r3, r4)) ∧ Aside0 (kq ≤ k) ∧ Aside0 (Kd.R (Kd.int .i64) 3 w' w.heap.size (fun _ => True) u138000 qc) ∧ Aside0 (w'.heap[qg]? = some (.cells #[(.slice none 0 0), .int .i64 0, .bool false] 26 (0, 0))) ∧ Aside0 (w'.heap[qe]? = some (.cells #[u138000, .int .i64 (wrap64 (Int.tdiv a1 (ji5))), .bool a2] 26 (0, 0))) ∧ Aside0 (Below w.heap.size w w'))
  case atStart => exact ⟨(0), (([] : List Int)), (.slice none 0 0), (by first | rfl | (simp; done) | (simp [*]; done)), H', ⟨Nat.le_refl _⟩, ⟨by first | exact Kd.R_nil _ _ _ _ _ | exact Kd.N_nil _ _ _ _ _ | exact Kd.V_nil _ _ _ _ _ | exact Kd.Q_nil _ _ _ _ _ | exact Kd.S_nil _ _ _ _ _⟩, ⟨kf_ qd⟩, ⟨by (with_reducible repeat (first | refine blk_drewN ?_ _ | refine blk_drew ?_ | refine blk_alloc ?_ _)); refine blk_put (cs := #[.slice none 0 0, .int .i64 (wrap64 (Int.tdiv a1 (ji5))), .bool false]) ?_ 2 _ rfl; (with_reducible repeat (first | refine blk_drewN ?_ _ | refine blk_drew ?_ | refine blk_alloc ?_ _)); refine blk_put (cs := #[.slice none 0 0, .int .i64 0, .bool false]) ?_ 1 _ rfl; (with_reducible repeat (first | refine blk_drewN ?_ _ | refine blk_drew ?_ | refine blk_alloc ?_ _)); refine blk_put (cs := #[.slice none 0 0, .int .i64 0, .bool false]) ?_ 0 _ rfl; (with_reducible repeat (first | refine blk_drewN ?_ _ | refine blk_drew ?_ | refine blk_alloc ?_ _)); exact qa.out⟩, ⟨bb_ HB⟩⟩
  case round =>
   clear H'
   try clear c1
   try clear p2
   try clear c5
   try clear c6
   try clear q4
   try clear q5
   try clear p6
   try clear c8
   try clear c10
   try clear qo
   try clear qp
   try clear qq
   try clear qr
   try clear qs
   try clear qt
   obtain ⟨qf, qc, u138000, rfl, HA, HK1, qb, qd, qa, HB⟩ := hrel
   cases gk with
   | zero => exact absurd HA.out (by simp [spec_l2Atom.l0])
   | succ k1 =>
    have H := HA.out
    clear HA
    simp only [spec_l2Atom.l0] at H
    by_cases c12 : qf < (l0.length : Int)
    ·
     rw [if_pos c12] at H
     have qw : decide (qf < (l0.length : Int)) = true := decide_eq_true c12
     clear c12
     by_cases c13 : 0 ≤ qf
     ·
      rw [if_pos c13] at H
      have zf : decide (0 ≤ qf) = true := decide_eq_true c13
      clear c13
      by_cases c14 : ji5 = 0
      ·
       rw [if_pos c14] at H
       exact absurd H (by simp)
      ·
       rw [if_neg c14] at H
       have zg : (ji5 == 0) = false := beq_eq_false_iff_ne.mpr c14
       have zh : (ji5 != 0) = true := bne_iff_ne.mpr c14
       by_cases c15 : qc.length < 17592186044416
       ·
        rw [if_pos c15] at H
        have LMc15 := Aside0.mk c15
        clear c15
        obtain ⟨y139, hy139⟩ : ∃ y_ : List Int, y_ = (qc ++ [wrap64 (Int.tdiv (rd l0 qf) ji5)]) := ⟨_, rfl⟩
        replace H : (spec_l2Atom.l0 k1 l0 ji5 (wrap64 (qf + 1)) y139 (wrap64 (Int.tdiv a1 (ji5))) a2) = some (r1, r2, r3, r4) := by first | (rw [hy139]; with_reducible exact H) | (have H2_ := (Option.bind_some _ _).symm.trans H; rw [hy139]; with_reducible exact H2_) | (have H2_ := (Option.bind_some _ _).symm.trans H; with_reducible exact H2_) | with_reducible exact H | (rw [hy139]; exact H) | exact H
        have Ny139 := Aside0.mk hy139
        clear hy139
        have H' := Aside0.mk H
        clear H
        try go_wp2
        replace qb := Aside0.mk (Kd.R_drew qb.out); replace qd := Aside0.mk (blk_drew qd.out); replace qa := Aside0.mk (blk_drew qa.out); replace HB := Aside0.mk (below_drew1 HB.out)
        have p138 : 0 ≤ (qf : Int) := of_decide_eq_true (by first | (with_reducible assumption) | assumption)
        have q138 : qf < (l0.length : Int) := of_decide_eq_true (by first | (with_reducible assumption) | assumption)
        obtain ⟨qx, e138, qk⟩ := Kd.at_int HR0.out qf p138 q138
        have hw138_0 := qk
        cases e138
        replace qk := (HB.out.cell (World.block_lt_of_cell? w _ qk)).trans qk
        replace p138 := eq_true p138
        replace q138 := eq_true q138
        refine start_ (n := 12) (S := fun w' => w'.cell? ⟨qe, 0, none⟩ = some (u138000) ∧ w'.cell? ⟨qe, 1, none⟩ = some (.int .i64 (wrap64 (Int.tdiv a1 (ji5)))) ∧ w'.cell? ⟨qe, 2, none⟩ = some (.bool a2) ∧ w'.cell? (qx.add (qf).toNat) = some (.int .i64 (rd l0 qf))) (ds := [11]) #[false, false, false, false, false, false, false, false, false, false, false, false] (by kernel_rfl) rfl rfl ⟨bc_ qa 0, bc_ qa 1, bc_ qa 2, ((HB.out.cell (World.block_lt_of_cell? w _ hw138_0)).trans hw138_0)⟩ (fun hHeld => ?_); refine with_tabW spec_l2Atom.tab6 spec_l2Atom.bits6 (fun HT_ HW_ => ?_)
        generalize wr.drew = zo at qb qd qa HB qk hHeld ⊢
        refine pure_ (i := 0) (N := some 26) (v := ?_) (a' := ?_) #[true, false, false, false, false, false, false, false, false, false, false, false] rfl rfl (any_of HT_.out (by kernel_rfl)) (fun _ _ _ h => h) (Or.inl ⟨by rfl, ?_⟩) ?_ ?_
        rotate_left
        ·
         intro w'
         go_simp
         with_reducible rfl
        rotate_left
        ·
         simp only [Act.put, List.setIfInBounds_toArray, List.set_cons_zero, List.set_cons_succ, i64_w, i32_w]
         rfl
        refine pure_ (i := 2) (N := some 28) (v := ?_) (a' := ?_) #[true, false, true, false, false, false, false, false, false, false, false, false] rfl rfl (any_of HT_.out (by kernel_rfl)) (fun _ _ _ h => h) (Or.inl ⟨by rfl, ?_⟩) ?_ ?_
        rotate_left
        ·
         intro w'
         go_simp
         with_reducible rfl
        rotate_left
        ·
         simp only [Act.put, List.setIfInBounds_toArray, List.set_cons_zero, List.set_cons_succ, i64_w, i32_w]
         rfl
        refine pure_ (i := 3) (N := some 29) (v := ?_) (a' := ?_) #[true, false, true, true, false, false, false, false, false, false, false, false] rfl rfl (any_of HT_.out (by kernel_rfl)) (fun _ _ _ h => h) (Or.inl ⟨by rfl, ?_⟩) ?_ ?_
        rotate_left
        ·
         intro w'
         go_simp
         with_reducible rfl
        rotate_left
        ·
         simp only [Act.put, List.setIfInBounds_toArray, List.set_cons_zero, List.set_cons_succ, i64_w, i32_w]
         rfl
        refine pure_ (i := 4) (N := some 30) (v := ?_) (a' := ?_) #[true, false, true, true, true, false, false, false, false, false, false, false] rfl rfl (any_of HT_.out (by kernel_rfl)) (fun _ _ _ h => h) (Or.inl ⟨by rfl, ?_⟩) ?_ ?_
        rotate_left
        ·
         intro w'
         go_simp
         with_reducible rfl
        rotate_left
        ·
         simp only [Act.put, List.setIfInBounds_toArray, List.set_cons_zero, List.set_cons_succ, i64_w, i32_w]
         rfl
        refine pure_ (i := 6) (N := some 32) (v := ?_) (a' := ?_) #[true, false, true, true, true, false, true, false, false, false, false, false] rfl rfl (any_of HT_.out (by kernel_rfl)) (fun _ _ _ h => h) (Or.inl ⟨by rfl, ?_⟩) ?_ ?_
        rotate_left
        ·
         intro w'
         go_simp
         with_reducible rfl
        rotate_left
        ·
         simp only [Act.put, List.setIfInBounds_toArray, List.set_cons_zero, List.set_cons_succ, i64_w, i32_w]
         rfl
        refine take_ (i := 1) (N := some 27) (v := ?_) (a' := ?_) #[true, true, true, true, true, false, true, false, false, false, false, false] rfl rfl (take_ofW HT_.out HW_.out (by kernel_rfl)) (fun _ _ _ h => h) (Or.inl ⟨by rfl, ?_⟩) hHeld ?_ ?_
        rotate_left
        ·
         rintro w' ⟨s0, s1, s2, s3⟩
         go_simp
         with_reducible rfl
        rotate_left
        ·
         simp only [Act.put, List.setIfInBounds_toArray, List.set_cons_zero, List.set_cons_succ, i64_w, i32_w]
         rfl
        refine take_ (i := 5) (N := some 31) (v := ?_) (a' := ?_) #[true, true, true, true, true, true, true, false, false, false, false, false] rfl rfl (take_ofW HT_.out HW_.out (by kernel_rfl)) (fun _ _ _ h => h) (Or.inl ⟨by rfl, ?_⟩) hHeld ?_ ?_
        rotate_left
        ·
         rintro w' ⟨s0, s1, s2, s3⟩
         go_simp
         with_reducible rfl
        rotate_left
        ·
         simp only [Act.put, List.setIfInBounds_toArray, List.set_cons_zero, List.set_cons_succ, i64_w, i32_w]
         rfl
        refine pure_ (i := 7) (N := some 33) (v := ?_) (a' := ?_) #[true, true, true, true, true, true, true, true, false, false, false, false] rfl rfl (any_of HT_.out (by kernel_rfl)) (fun _ _ _ h => h) (Or.inl ⟨by rfl, ?_⟩) ?_ ?_
        rotate_left
        ·
         intro w'
         go_simp
         with_reducible rfl
        rotate_left
        ·
         simp only [Act.put, List.setIfInBounds_toArray, List.set_cons_zero, List.set_cons_succ, i64_w, i32_w]
         rfl
        refine one_ (i := 8) (N := some 34) #[true, true, true, true, true, true, true, true, true, false, false, false] rfl rfl (one_of HT_.out (by kernel_rfl)) (by decide) (fun K hK => ?_)
        refine value_ (w1 := ?_) (v := ?_) (by rfl) rfl ?_ ?_
        rotate_left 2
        ·
         go_simp
         constructor
         ·
          rfl
         ·
          rfl
        refine hK.out _ _ ⟨(blk_cell (blk_alloc qa.out _) 0).trans rfl, (blk_cell (blk_alloc qa.out _) 1).trans rfl, (blk_cell (blk_alloc qa.out _) 2).trans rfl, (World.cell?_alloc_lt _ _ _ (World.block_lt_of_cell? _ _ (((HB.out.cell (World.block_lt_of_cell? w _ hw138_0)).trans hw138_0)))).trans (((HB.out.cell (World.block_lt_of_cell? w _ hw138_0)).trans hw138_0))⟩ (fun hHeld => ?_)
        clear hK K
        refine norm_ (a' := ?_) ?_ ?_
        rotate_left
        ·
         show Act.put _ (some 34) _ = _
         simp only [Act.put, List.setIfInBounds_toArray, List.set_cons_zero, List.set_cons_succ, i64_w, i32_w]
         rfl
        refine one_ (i := 9) (N := some 35) #[true, true, true, true, true, true, true, true, true, true, false, false] rfl rfl (one_of HT_.out (by kernel_rfl)) (by decide) (fun K hK => ?_)
        refine Kd.R_append_step (Kd.int .i64) (w0 := w) w.heap.size (by rfl) (.tmp 27) (.tmp 34) 22 3 (.int .i64 0) 8 rfl Try.underlying22 info3 rfl (by decide) (by omega) u138000 qc (wrap64 (Int.tdiv (rd l0 qf) ji5)) [.int .i64 (wrap64 (Int.tdiv (rd l0 qf) ji5))] (fun _ => True) (fun _ => False) rfl rfl ?aP (fun _ hk => hk.elim) ?aF ?aO ?aB ?aS ?aL ?_
        (case aP => exact rfl)
        (case aB => exact (bb_ HB))
        (case aF => exact (fun _ _ => trivial))
        (case aO => exact (rm_ qb))
        (case aS => exact (bz_ HB))
        (case aL => have := LMc15.out; omega)
        intro zm zn ho hb hg hat
        rw [← Ny139.out] at ho
        replace qd := Aside0.mk (blk_grown (g := qg) (o := .cells #[.slice none 0 0, .int .i64 0, .bool false] 26 (0, 0)) (kf_ qd) hg (Kd.R_ne qb.out qd.out (by decide))); replace qa := Aside0.mk (blk_grown (g := qe) (o := .cells #[u138000, .int .i64 (wrap64 (Int.tdiv a1 (ji5))), .bool a2] 26 (0, 0)) (kf_ qa) hg (Kd.R_ne qb.out qa.out (by decide))); replace HB := Aside0.mk (hb); have qu := Aside0.mk (ho); clear qb; clear ho hb hg hat
        obtain ⟨qy, qz, eo18⟩ := Kd.R_slice qu.out
        (first | subst eo18 | (injection eo18 with f1_ f2_ f3_; have f4_ := f1_.symm; have f5_ := f3_.symm; clear f1_ f2_ f3_; subst f4_; subst f5_))
        refine hK.out _ _ ⟨bc_ qa 0, bc_ qa 1, bc_ qa 2, ((HB.out.cell (World.block_lt_of_cell? w _ hw138_0)).trans hw138_0)⟩ (fun hHeld => ?_)
        clear hK K
        refine norm_ (a' := ?_) ?_ ?_
        rotate_left
        ·
         show Act.put _ (some 35) _ = _
         simp only [Act.put, List.setIfInBounds_toArray, List.set_cons_zero, List.set_cons_succ, i64_w, i32_w]
         rfl
        refine pure_ (i := 10) (N := some 36) (v := ?_) (a' := ?_) #[true, true, true, true, true, true, true, true, true, true, true, false] rfl rfl (any_of HT_.out (by kernel_rfl)) (fun _ _ _ h => h) (Or.inl ⟨by rfl, ?_⟩) ?_ ?_
        rotate_left
        ·
         intro w'
         go_simp
         with_reducible rfl
        rotate_left
        ·
         simp only [Act.put, List.setIfInBounds_toArray, List.set_cons_zero, List.set_cons_succ, i64_w, i32_w]
         rfl
        refine last_ (i := 11) (N := none) #[true, true, true, true, true, true, true, true, true, true, true, true] rfl rfl (one_of HT_.out (by kernel_rfl)) (by decide) (fun K hK => ?_)
        have hs19 : zn.cell? ⟨qe, 0, none⟩ = some (u138000) := bc_ qa 0
        have hfs19 := blk_frozen qa.out 0
        have hns19_0 := qh.out
        have hms19_0 := qi.out
        refine skip_ (w1 := ?_) (by rfl) rfl ?_ ?_
        rotate_left
        ·
         go_simp
         rfl
        refine hK.out _ _ ?_
        clear hK K
        refine done_ (done_of HT_.out (by kernel_rfl)) ?_
        try go_wp2
        go_roundg k1
        case measure => have := HK1.out; omega
        case rel => exact ⟨(wrap64 (qf + 1)), (y139), (.slice qy y139.length qz), (by first | rfl | (simp; done) | (simp [*]; done)), H', ⟨by have := HK1.out; omega⟩, ⟨by (with_reducible repeat (first | apply Kd.R_alloc | apply Kd.R_drewN | apply Kd.R_drew)); exact Kd.R_mono (Kd.R_far (p := ⟨qe, 0, none⟩) (Kd.R_types qu.out qa.out (by decide)) (fun _ hk => hk.2) (.slice qy y139.length qz)) (fun _ hk => trivial)⟩, ⟨kf_ qd⟩, ⟨by (with_reducible repeat (first | refine blk_drewN ?_ _ | refine blk_drew ?_ | refine blk_alloc ?_ _)); refine blk_put (cs := #[u138000, .int .i64 (wrap64 (Int.tdiv a1 (ji5))), .bool a2]) ?_ 0 _ rfl; (with_reducible repeat (first | refine blk_drewN ?_ _ | refine blk_drew ?_ | refine blk_alloc ?_ _)); exact qa.out⟩, ⟨bb_ HB⟩⟩
       ·
        rw [if_neg c15] at H
        exact absurd H (by simp)
     ·
      rw [if_neg c13] at H
      exact absurd H (by simp)
    ·
     rw [if_neg c12] at H
     have qw : decide (qf < (l0.length : Int)) = false := decide_eq_false c12
     clear c12
     replace H := Option.bind_eq_some_iff.mp H
     obtain ⟨qn, A200, H⟩ := H
     replace H : (if qn = true then (some (qc, (wrap64 (Int.tdiv a1 (ji5))), a2, true)) else (some (([] : List Int), 0, false, false))) = some (r1, r2, r3, r4) := H
     have A20 := Aside0.mk A200
     clear A200
     by_cases c21 : qn = true
     ·
      subst c21
      have H1 : (some (qc, (wrap64 (Int.tdiv a1 (ji5))), a2, true)) = some (r1, r2, r3, r4) := by rw [if_pos rfl] at H; exact H
      clear H
      have H := H1
      clear H1
      simp only [Option.some.injEq, Prod.mk.injEq] at H
      obtain ⟨rfl, rfl, rfl, rfl⟩ := H
      have zi := qi.out
      have zj := qh.out
      have qA : wr.cell? ⟨qe, 0, none⟩ = some (u138000) := bc_ qa 0
      have qB : wr.cell? ⟨qe, 1, none⟩ = some (.int .i64 (wrap64 (Int.tdiv a1 (ji5)))) := bc_ qa 1
      have qC : wr.cell? ⟨qe, 2, none⟩ = some (.bool a2) := bc_ qa 2
      have qD := blk_frozen qa.out 0
      have qE := blk_frozen qa.out 1
      have qF := blk_frozen qa.out 2
      obtain ⟨ql, qm, eo24⟩ := Kd.R_slice qb.out
      subst eo24
      go_wp2_with (first | ((with_reducible refine gate_callee (f := 53) rfl ?_); refine goesL_ (some 38) rfl rfl Try.func53 (by kernel_rfl) rfl #[.agg #[.slice ql qc.length qm, .int .i64 (wrap64 (Int.tdiv a1 (ji5))), .bool a2]] rfl (by (try simp only [List.map_toArray, List.map_cons, List.map_nil]); first | done | (simp only [hji5]; rfl) | rfl | (simp only [List.length_drop, List.length_take]; rfl)) ?_; (with_reducible refine (spec_IsAtom.calls k1 _ _ qc (wrap64 (Int.tdiv a1 (ji5))) a2 true _ ?side1 ?side2 A20.out).mono ?_); (case side1 => exact cr_ qb); (case side2 => exact (Kd.R_reads' qb.out).2.1); rintro e qv ⟨rfl, hb⟩; refine ⟨_, rfl, ?_⟩; replace qb := rB_ qb hb; replace qd := kB_ qd hb; replace qa := kB_ qa hb; replace HB := bS_ HB hb; (try clear hb); (try clear hb2); (try clear hk); (try clear hi); have qG : qv.cell? ⟨qe, 0, none⟩ = some (.slice ql qc.length qm) := bc_ qa 0; have qH : qv.cell? ⟨qe, 1, none⟩ = some (.int .i64 (wrap64 (Int.tdiv a1 (ji5)))) := bc_ qa 1; have qI : qv.cell? ⟨qe, 2, none⟩ = some (.bool a2) := bc_ qa 2; have qJ := blk_frozen qa.out 0; have qK := blk_frozen qa.out 1; have qL := blk_frozen qa.out 2; have qM : qv.cell? ⟨qg, 0, none⟩ = some (.slice none 0 0) := bc_ qd 0; have qN : qv.cell? ⟨qg, 1, none⟩ = some (.int .i64 0) := bc_ qd 1; have qO : qv.cell? ⟨qg, 2, none⟩ = some (.bool false) := bc_ qd 2; have qP := blk_frozen qd.out 0; have qQ := blk_frozen qd.out 1; have qR := blk_frozen qd.out 2))
      refine bodyPost_ret (results_ct rfl _ _ qg 26 #[.slice ql qc.length qm, .int .i64 (wrap64 (Int.tdiv a1 (ji5))), .bool a2] (0, 0) _ rfl (by (with_reducible repeat (first | refine blk_drewN ?_ _ | refine blk_drew ?_ | refine blk_alloc ?_ _)); refine blk_put (cs := #[.slice ql qc.length qm, .int .i64 (wrap64 (Int.tdiv a1 (ji5))), .bool false]) ?_ 2 _ rfl; (with_reducible repeat (first | refine blk_drewN ?_ _ | refine blk_drew ?_ | refine blk_alloc ?_ _)); refine blk_put (cs := #[.slice ql qc.length qm, .int .i64 0, .bool false]) ?_ 1 _ rfl; (with_reducible repeat (first | refine blk_drewN ?_ _ | refine blk_drew ?_ | refine blk_alloc ?_ _)); refine blk_put (cs := #[.slice none 0 0, .int .i64 0, .bool false]) ?_ 0 _ rfl; (with_reducible repeat (first | refine blk_drewN ?_ _ | refine blk_drew ?_ | refine blk_alloc ?_ _)); exact qd.out) Try.underlying26 rfl (by kernel_rfl)) rfl ?_
      exact ⟨_, by first | rfl | (simp [errW_none, errW_some] <;> rfl) | (simp only [← hji5]; first | rfl | (simp [errW_none, errW_some] <;> rfl)) | (simp [*, errW_none, errW_some] <;> rfl), by (with_reducible repeat (first | apply Kd.R_alloc | apply Kd.R_drewN | apply Kd.R_drew)); exact Kd.R_mono (Kd.R_far (p := ⟨qg, 2, none⟩) (Kd.R_far (p := ⟨qg, 1, none⟩) (Kd.R_far (p := ⟨qg, 0, none⟩) (Kd.R_types qb.out qd.out (by decide)) (fun _ hk => hk.2) (.slice ql qc.length qm)) (fun _ hk => hk.2) (.int .i64 (wrap64 (Int.tdiv a1 (ji5))))) (fun _ hk => hk.2) (.bool a2)) (fun _ hk => trivial), bb_ HB⟩
     ·
      replace c21 := Bool.eq_false_iff.mpr c21
      subst c21
      have H1 : (some (([] : List Int), 0, false, false)) = some (r1, r2, r3, r4) := by rw [if_neg (show ¬ (false = true) by decide)] at H; exact H
      clear H
      have H := H1
      clear H1
      simp only [Option.some.injEq, Prod.mk.injEq] at H
      obtain ⟨rfl, rfl, rfl, rfl⟩ := H
      have zk := qi.out
      have zl := qh.out
      have qS : wr.cell? ⟨qe, 0, none⟩ = some (u138000) := bc_ qa 0
      have qT : wr.cell? ⟨qe, 1, none⟩ = some (.int .i64 (wrap64 (Int.tdiv a1 (ji5)))) := bc_ qa 1
      have qU : wr.cell? ⟨qe, 2, none⟩ = some (.bool a2) := bc_ qa 2
      have qV := blk_frozen qa.out 0
      have qW := blk_frozen qa.out 1
      have qX := blk_frozen qa.out 2
      obtain ⟨q6, q7, eo30⟩ := Kd.R_slice qb.out
      subst eo30
      go_wp2_with (first | ((with_reducible refine gate_callee (f := 53) rfl ?_); refine goesL_ (some 38) rfl rfl Try.func53 (by kernel_rfl) rfl #[.agg #[.slice q6 qc.length q7, .int .i64 (wrap64 (Int.tdiv a1 (ji5))), .bool a2]] rfl (by (try simp only [List.map_toArray, List.map_cons, List.map_nil]); first | done | (simp only [hji5]; rfl) | rfl | (simp only [List.length_drop, List.length_take]; rfl)) ?_; (with_reducible refine (spec_IsAtom.calls k1 _ _ qc (wrap64 (Int.tdiv a1 (ji5))) a2 false _ ?side1 ?side2 A20.out).mono ?_); (case side1 => exact cr_ qb); (case side2 => exact (Kd.R_reads' qb.out).2.1); rintro e q8 ⟨rfl, hb⟩; refine ⟨_, rfl, ?_⟩; replace qb := rB_ qb hb; replace qd := kB_ qd hb; replace qa := kB_ qa hb; replace HB := bS_ HB hb; (try clear hb); (try clear hb2); (try clear hk); (try clear hi); have qY : q8.cell? ⟨qg, 0, none⟩ = some (.slice none 0 0) := bc_ qd 0; have qZ : q8.cell? ⟨qg, 1, none⟩ = some (.int .i64 0) := bc_ qd 1; have q0 : q8.cell? ⟨qg, 2, none⟩ = some (.bool false) := bc_ qd 2; have q1 := blk_frozen qd.out 0; have q2 := blk_frozen qd.out 1; have q3 := blk_frozen qd.out 2))
      refine bodyPost_ret (results_ct rfl _ _ qg 26 #[.slice none 0 0, .int .i64 0, .bool false] (0, 0) _ rfl (by (with_reducible repeat (first | refine blk_drewN ?_ _ | refine blk_drew ?_ | refine blk_alloc ?_ _)); refine blk_put (cs := #[.slice none 0 0, .int .i64 0, .bool false]) ?_ 2 _ rfl; (with_reducible repeat (first | refine blk_drewN ?_ _ | refine blk_drew ?_ | refine blk_alloc ?_ _)); refine blk_put (cs := #[.slice none 0 0, .int .i64 0, .bool false]) ?_ 1 _ rfl; (with_reducible repeat (first | refine blk_drewN ?_ _ | refine blk_drew ?_ | refine blk_alloc ?_ _)); refine blk_put (cs := #[.slice none 0 0, .int .i64 0, .bool false]) ?_ 0 _ rfl; (with_reducible repeat (first | refine blk_drewN ?_ _ | refine blk_drew ?_ | refine blk_alloc ?_ _)); exact qd.out) Try.underlying26 rfl (by kernel_rfl)) rfl ?_
      exact ⟨_, by first | rfl | (simp [errW_none, errW_some] <;> rfl) | (simp only [← hji5]; first | rfl | (simp [errW_none, errW_some] <;> rfl)) | (simp [*, errW_none, errW_some] <;> rfl), by first | exact Kd.R_nil _ _ _ _ _ | exact Kd.N_nil _ _ _ _ _ | exact Kd.V_nil _ _ _ _ _ | exact Kd.Q_nil _ _ _ _ _ | exact Kd.S_nil _ _ _ _ _, bb_ HB⟩

/-! ### spec_MixAtoms: function 30 -/
mutual
def spec_MixAtoms.j0 : Nat → Int → Int → Bool → List Int → Int → Bool → List Int → Int → Bool → Option (List Int × Int × Bool × Bool)
 | 0, _, _, _, _, _, _, _, _, _ => none
 | k + 1, x1, x3, x40, x144000, x144001, x144002, x145000, x145001, x145002 => if x40 = true then (some (([] : List Int), 0, false, false)) else (spec_MixAtoms.l0 k x1 x3 (([] : List Int)) 0 x144000 x144001 x144002 x145000 x145001 x145002)
def spec_MixAtoms.l0 : Nat → Int → Int → List Int → Int → List Int → Int → Bool → List Int → Int → Bool → Option (List Int × Int × Bool × Bool)
 | 0, _, _, _, _, _, _, _, _, _, _ => none
 | k + 1, x1, x3, x10, x11, x144000, x144001, x144002, x145000, x145001, x145002 => if x11 < (x144000.length : Int) then (if 0 ≤ x11 then (if x11 < (x145000.length : Int) then (if x10.length < 17592186044416 then (spec_MixAtoms.l0 k x1 x3 (x10 ++ [wrap64 ((wrap64 (x1 * (rd x144000 x11))) + (wrap64 (x3 * (rd x145000 x11))))]) (wrap64 (x11 + 1)) x144000 x144001 x144002 x145000 x145001 x145002) else (none)) else (none)) else (none)) else (if x144002 = true then (if x1 > 0 then ((spec_l2Atom.f k x10 (wrap64 ((wrap64 (x1 * x144001)) + (wrap64 (x3 * x145001)))) true).bind fun qE => (some (qE.1, qE.2.1, qE.2.2.1, qE.2.2.2))) else (if x145002 = true then ((spec_l2Atom.f k x10 (wrap64 ((wrap64 (x1 * x144001)) + (wrap64 (x3 * x145001)))) (decide (x3 > 0))).bind fun qp => (some (qp.1, qp.2.1, qp.2.2.1, qp.2.2.2))) else ((spec_l2Atom.f k x10 (wrap64 ((wrap64 (x1 * x144001)) + (wrap64 (x3 * x145001)))) false).bind fun qq => (some (qq.1, qq.2.1, qq.2.2.1, qq.2.2.2))))) else (if x145002 = true then ((spec_l2Atom.f k x10 (wrap64 ((wrap64 (x1 * x144001)) + (wrap64 (x3 * x145001)))) (decide (x3 > 0))).bind fun qr => (some (qr.1, qr.2.1, qr.2.2.1, qr.2.2.2))) else ((spec_l2Atom.f k x10 (wrap64 ((wrap64 (x1 * x144001)) + (wrap64 (x3 * x145001)))) false).bind fun qs => (some (qs.1, qs.2.1, qs.2.2.1, qs.2.2.2)))))
end
def spec_MixAtoms.f (k : Nat) (l0_0 : List Int) (a0_1 : Int) (a0_2 : Bool) (a1 : Int) (l2_0 : List Int) (a2_1 : Int) (a2_2 : Bool) (a3 : Int) : Option (List Int × Int × Bool × Bool) := (spec_IsAtom.f k l0_0 a0_1 a0_2).bind fun jC => (if jC = true then ((spec_IsAtom.f k l2_0 a2_1 a2_2).bind fun qO => (if qO = true then (if (l0_0.length : Int) = (l2_0.length : Int) then ((spec_l1In.f a1 0 400000000).bind fun qF => (if qF = true then ((spec_l1In.f a3 0 400000000).bind fun qy => (spec_MixAtoms.j0 k a1 a3 (!qy) l0_0 a0_1 a0_2 l2_0 a2_1 a2_2)) else (spec_MixAtoms.j0 k a1 a3 true l0_0 a0_1 a0_2 l2_0 a2_1 a2_2))) else (spec_MixAtoms.j0 k a1 a3 true l0_0 a0_1 a0_2 l2_0 a2_1 a2_2)) else (spec_MixAtoms.j0 k a1 a3 true l0_0 a0_1 a0_2 l2_0 a2_1 a2_2))) else (spec_MixAtoms.j0 k a1 a3 true l0_0 a0_1 a0_2 l2_0 a2_1 a2_2))
theorem spec_MixAtoms.mono_l : ∀ k, (∀ y0 y1 y2 y3 y4 y5 y6 y7 y8, LeO (spec_MixAtoms.j0 k y0 y1 y2 y3 y4 y5 y6 y7 y8) (spec_MixAtoms.j0 (k + 1) y0 y1 y2 y3 y4 y5 y6 y7 y8)) ∧ (∀ y0 y1 y2 y3 y4 y5 y6 y7 y8 y9, LeO (spec_MixAtoms.l0 k y0 y1 y2 y3 y4 y5 y6 y7 y8 y9) (spec_MixAtoms.l0 (k + 1) y0 y1 y2 y3 y4 y5 y6 y7 y8 y9))
 | 0 => ⟨fun _ _ _ _ _ _ _ _ _ r h => by simp [spec_MixAtoms.j0] at h, fun _ _ _ _ _ _ _ _ _ _ r h => by simp [spec_MixAtoms.l0] at h⟩
 | k + 1 => by
  obtain ⟨ih0, ih1⟩ := spec_MixAtoms.mono_l k
  refine ⟨?_, ?_⟩
  ·
   intro y0 y1 y2 y3 y4 y5 y6 y7 y8
   unfold spec_MixAtoms.j0
   repeat' first
   | (with_reducible exact ih0 _ _ _ _ _ _ _ _ _)
   | (with_reducible exact ih1 _ _ _ _ _ _ _ _ _ _)
   | (with_reducible exact spec_IsAtom.mono _ _ _ _)
   | (with_reducible exact spec_l2Atom.mono _ _ _ _)
   | (with_reducible exact LeO.refl _)
   | (with_reducible exact LeO.none _)
   | (with_reducible refine LeO.ite ?_ ?_)
   | (with_reducible refine LeO.bind ?_ (fun _ => ?_))
   | exact ih0 _ _ _ _ _ _ _ _ _
   | exact ih1 _ _ _ _ _ _ _ _ _ _
   | exact spec_IsAtom.mono _ _ _ _
   | exact spec_l2Atom.mono _ _ _ _
   | exact LeO.none _
   | refine LeO.ite ?_ ?_
   | refine LeO.bind ?_ (fun _ => ?_)
  ·
   intro y0 y1 y2 y3 y4 y5 y6 y7 y8 y9
   unfold spec_MixAtoms.l0
   repeat' first
   | (with_reducible exact ih0 _ _ _ _ _ _ _ _ _)
   | (with_reducible exact ih1 _ _ _ _ _ _ _ _ _ _)
   | (with_reducible exact spec_IsAtom.mono _ _ _ _)
   | (with_reducible exact spec_l2Atom.mono _ _ _ _)
   | (with_reducible exact LeO.refl _)
   | (with_reducible exact LeO.none _)
   | (with_reducible refine LeO.ite ?_ ?_)
   | (with_reducible refine LeO.bind ?_ (fun _ => ?_))
   | exact ih0 _ _ _ _ _ _ _ _ _
   | exact ih1 _ _ _ _ _ _ _ _ _ _
   | exact spec_IsAtom.mono _ _ _ _
   | exact spec_l2Atom.mono _ _ _ _
   | exact LeO.none _
   | refine LeO.ite ?_ ?_
   | refine LeO.bind ?_ (fun _ => ?_)
theorem spec_MixAtoms.mono : ∀ a0 a1 a2 a3 a4 a5 a6 a7 k, LeO (spec_MixAtoms.f k a0 a1 a2 a3 a4 a5 a6 a7) (spec_MixAtoms.f (k + 1) a0 a1 a2 a3 a4 a5 a6 a7) := by
 intro a0 a1 a2 a3 a4 a5 a6 a7 k
 obtain ⟨ih0, ih1⟩ := spec_MixAtoms.mono_l k
 unfold spec_MixAtoms.f
 repeat' first
   | (with_reducible exact ih0 _ _ _ _ _ _ _ _ _)
   | (with_reducible exact ih1 _ _ _ _ _ _ _ _ _ _)
   | (with_reducible exact spec_IsAtom.mono _ _ _ _)
   | (with_reducible exact spec_l2Atom.mono _ _ _ _)
   | (with_reducible exact LeO.refl _)
   | (with_reducible exact LeO.none _)
   | (with_reducible refine LeO.ite ?_ ?_)
   | (with_reducible refine LeO.bind ?_ (fun _ => ?_))
   | exact ih0 _ _ _ _ _ _ _ _ _
   | exact ih1 _ _ _ _ _ _ _ _ _ _
   | exact spec_IsAtom.mono _ _ _ _
   | exact spec_l2Atom.mono _ _ _ _
   | exact LeO.none _
   | refine LeO.ite ?_ ?_
   | refine LeO.bind ?_ (fun _ => ?_)
def spec_MixAtoms.T7 : Bool × List (List Nat × List Nat) := (true, [([], []), ([], []), ([], []), ([2], [2]), ([], []), ([3, 4], [3, 4]), ([5], [5]), ([1, 6], [1, 6]), ([], []), ([], []), ([9], [9]), ([], []), ([10, 11], [10, 11]), ([12], [12]), ([8, 13], [8, 13]), ([7, 14], [7, 14]), ([15], [15]), ([0, 16], [0, 16]), ([17, 17, 0, 1, 2, 3, 4, 5, 6, 7, 8, 9, 10, 11, 12, 13, 14, 15, 16, 17], [0, 17])])
def spec_MixAtoms.B7 : List Nat := [0, 0, 0, 4, 0, 28, 60, 126, 0, 0, 512, 0, 3584, 7680, 16128, 32766, 65534, 131071, 262143]
theorem spec_MixAtoms.tab7 : rtab .any (opsOf Try.f30 7) = spec_MixAtoms.T7 := by kernel_rfl
theorem spec_MixAtoms.bits7 : waitsOk spec_MixAtoms.T7.2 spec_MixAtoms.B7 = true := by kernel_rfl
set_option maxHeartbeats 8000000 in
set_option maxRecDepth 100000 in
theorem spec_MixAtoms.calls (k : Nat) (A0_0 : Option Addr) (c0_0 : Nat) (l0_0 : List Int) (a0_1 : Int) (a0_2 : Bool) (a1 : Int) (A2_0 : Option Addr) (c2_0 : Nat) (l2_0 : List Int) (a2_1 : Int) (a2_2 : Bool) (a3 : Int) (r1 : List Int) (r2 : Int) (r3 : Bool) (r4 : Bool) (w : World) (hr0_0 : Kd.C (Kd.int .i64) w A0_0 l0_0.length l0_0) (hc0_0 : l0_0.length ≤ c0_0) (hr2_0 : Kd.C (Kd.int .i64) w A2_0 l2_0.length l2_0) (hc2_0 : l2_0.length ≤ c2_0) (h : spec_MixAtoms.f k l0_0 a0_1 a0_2 a1 l2_0 a2_1 a2_2 a3 = some (r1, r2, r3, r4)) :
  Calls Try.prog 30 #[.agg #[.slice A0_0 l0_0.length c0_0, .int .i64 a0_1, .bool a0_2], .int .i64 a1, .agg #[.slice A2_0 l2_0.length c2_0, .int .i64 a2_1, .bool a2_2], .int .i64 a3] w fun e w' => ∃ v0_ : Value, e = .returned (.tuple #[.agg #[v0_, .int .i64 r2, .bool r3], .bool r4]) ∧ Kd.R (Kd.int .i64) 3 w' w.heap.size (fun _ => True) v0_ r1 ∧ Below w.heap.size w w' := by
 have hu26 := Try.underlying26
 have qP := Aside0.mk hr0_0
 have qQ := Aside0.mk hc0_0
 clear hr0_0 hc0_0
 have qR := Aside0.mk hr2_0
 have q3 := Aside0.mk hc2_0
 clear hr2_0 hc2_0
 have HB := Aside0.mk (Below.refl w.heap.size w)
 have H : ((spec_IsAtom.f k l0_0 a0_1 a0_2).bind fun jC => (if jC = true then ((spec_IsAtom.f k l2_0 a2_1 a2_2).bind fun qO => (if qO = true then (if (l0_0.length : Int) = (l2_0.length : Int) then ((spec_l1In.f a1 0 400000000).bind fun qF => (if qF = true then ((spec_l1In.f a3 0 400000000).bind fun qy => (spec_MixAtoms.j0 k a1 a3 (!qy) l0_0 a0_1 a0_2 l2_0 a2_1 a2_2)) else (spec_MixAtoms.j0 k a1 a3 true l0_0 a0_1 a0_2 l2_0 a2_1 a2_2))) else (spec_MixAtoms.j0 k a1 a3 true l0_0 a0_1 a0_2 l2_0 a2_1 a2_2)) else (spec_MixAtoms.j0 k a1 a3 true l0_0 a0_1 a0_2 l2_0 a2_1 a2_2))) else (spec_MixAtoms.j0 k a1 a3 true l0_0 a0_1 a0_2 l2_0 a2_1 a2_2))) = some (r1, r2, r3, r4) := h
 clear h
 have HC5 := Aside0.mk H
 clear H
 go_enter Try.func30, Try.ntmps30
 go_upto_region 1 with (first | ((with_reducible refine gate_dst (N := 4) rfl ?_); (try (refine gate_guard (by rfl) ?_; dsimp only)); refine box_event ?hg (N := 4) ?hd (cs := #[.slice A0_0 l0_0.length c0_0, .int .i64 a0_1, .bool a0_2]) (t := 26) ?hr ?_; (case hd => rfl); (case hg => rfl); (case hr => first | (go_simp; done) | (go_simp; rfl)); intro qd hg w6 hbox hb; have qa := Aside0.mk (hbox); have XA := Aside0.mk ((by rw [hg]; exact (bz_ HB) : w.heap.size ≤ qd)); have XB := Aside0.mk ((by rw [hg]; exact (bz_ HB) : w.heap.size ≤ qd)); replace HB := bS_ HB hb; clear hb hbox hg) | ((with_reducible refine gate_dst (N := 6) rfl ?_); (try (refine gate_guard (by rfl) ?_; dsimp only)); refine box_event ?hg (N := 6) ?hd (cs := #[.slice A2_0 l2_0.length c2_0, .int .i64 a2_1, .bool a2_2]) (t := 26) ?hr ?_; (case hd => rfl); (case hg => rfl); (case hr => first | (go_simp; done) | (go_simp; rfl)); intro qe hg w7 hbox hb; have qb := Aside0.mk (hbox); have XC := Aside0.mk ((by rw [hg]; exact (bz_ HB) : w.heap.size ≤ qe)); have XD := Aside0.mk ((by rw [hg]; exact (bz_ HB) : w.heap.size ≤ qe)); replace HB := bS_ HB hb; have qk := Aside0.mk ((nl_ qa hg : qd ≠ qe)); have ql := Aside0.mk ((ng_ qa hg : qe ≠ qd)); replace qa := kB_ qa hb; clear hb hbox hg) | ((with_reducible refine gate_dst (N := 8) rfl ?_); (try (refine gate_guard (by rfl) ?_; dsimp only)); refine box_event ?hg (N := 8) ?hd (cs := #[.slice none 0 0, .int .i64 0, .bool false]) (t := 26) ?hr ?_; (case hd => rfl); (case hg => rfl); (case hr => first | (go_simp; done) | (go_simp; rfl)); intro qf hg w8 hbox hb; have qc := Aside0.mk (hbox); have XE := Aside0.mk ((by rw [hg]; exact (bz_ HB) : w.heap.size ≤ qf)); have XF := Aside0.mk ((by rw [hg]; exact (bz_ HB) : w.heap.size ≤ qf)); replace HB := bS_ HB hb; have qh := Aside0.mk ((nl_ qa hg : qd ≠ qf)); have qi := Aside0.mk ((ng_ qa hg : qf ≠ qd)); replace qa := kB_ qa hb; have qn := Aside0.mk ((nl_ qb hg : qe ≠ qf)); have qo := Aside0.mk ((ng_ qb hg : qf ≠ qe)); replace qb := kB_ qb hb; clear hb hbox hg))
 (try simp only [Act.put, List.setIfInBounds_toArray, List.set_cons_zero, List.set_cons_succ])
 go_cut [40] (fun v40 wc => ∃ (kq : Nat) (q4 : Bool), v40 = .bool q4 ∧ Aside0 (spec_MixAtoms.j0 kq a1 a3 q4 l0_0 a0_1 a0_2 l2_0 a2_1 a2_2 = some (r1, r2, r3, r4)) ∧ Aside0 (kq ≤ k) ∧ Aside0 (wc.heap[qd]? = some (.cells #[(.slice A0_0 l0_0.length c0_0), .int .i64 a0_1, .bool a0_2] 26 (0, 0))) ∧ Aside0 (wc.heap[qe]? = some (.cells #[(.slice A2_0 l2_0.length c2_0), .int .i64 a2_1, .bool a2_2] 26 (0, 0))) ∧ Aside0 (wc.heap[qf]? = some (.cells #[(.slice none 0 0), .int .i64 0, .bool false] 26 (0, 0))) ∧ Aside0 (Below w.heap.size w wc))
 case first =>
  have H := HC5.out
  clear HC5
  replace H := Option.bind_eq_some_iff.mp H
  obtain ⟨jC, A90, H⟩ := H
  replace H : (if jC = true then ((spec_IsAtom.f k l2_0 a2_1 a2_2).bind fun qO => (if qO = true then (if (l0_0.length : Int) = (l2_0.length : Int) then ((spec_l1In.f a1 0 400000000).bind fun qF => (if qF = true then ((spec_l1In.f a3 0 400000000).bind fun qy => (spec_MixAtoms.j0 k a1 a3 (!qy) l0_0 a0_1 a0_2 l2_0 a2_1 a2_2)) else (spec_MixAtoms.j0 k a1 a3 true l0_0 a0_1 a0_2 l2_0 a2_1 a2_2))) else (spec_MixAtoms.j0 k a1 a3 true l0_0 a0_1 a0_2 l2_0 a2_1 a2_2)) else (spec_MixAtoms.j0 k a1 a3 true l0_0 a0_1 a0_2 l2_0 a2_1 a2_2))) else (spec_MixAtoms.j0 k a1 a3 true l0_0 a0_1 a0_2 l2_0 a2_1 a2_2)) = some (r1, r2, r3, r4) := H
  have A9 := Aside0.mk A90
  clear A90
  by_cases c10 : jC = true
  ·
   subst c10
   have H1 : ((spec_IsAtom.f k l2_0 a2_1 a2_2).bind fun qO => (if qO = true then (if (l0_0.length : Int) = (l2_0.length : Int) then ((spec_l1In.f a1 0 400000000).bind fun qF => (if qF = true then ((spec_l1In.f a3 0 400000000).bind fun qy => (spec_MixAtoms.j0 k a1 a3 (!qy) l0_0 a0_1 a0_2 l2_0 a2_1 a2_2)) else (spec_MixAtoms.j0 k a1 a3 true l0_0 a0_1 a0_2 l2_0 a2_1 a2_2))) else (spec_MixAtoms.j0 k a1 a3 true l0_0 a0_1 a0_2 l2_0 a2_1 a2_2)) else (spec_MixAtoms.j0 k a1 a3 true l0_0 a0_1 a0_2 l2_0 a2_1 a2_2))) = some (r1, r2, r3, r4) := by rw [if_pos rfl] at H; exact H
   clear H
   have H := H1
   clear H1
   replace H := Option.bind_eq_some_iff.mp H
   obtain ⟨qO, A110, H⟩ := H
   replace H : (if qO = true then (if (l0_0.length : Int) = (l2_0.length : Int) then ((spec_l1In.f a1 0 400000000).bind fun qF => (if qF = true then ((spec_l1In.f a3 0 400000000).bind fun qy => (spec_MixAtoms.j0 k a1 a3 (!qy) l0_0 a0_1 a0_2 l2_0 a2_1 a2_2)) else (spec_MixAtoms.j0 k a1 a3 true l0_0 a0_1 a0_2 l2_0 a2_1 a2_2))) else (spec_MixAtoms.j0 k a1 a3 true l0_0 a0_1 a0_2 l2_0 a2_1 a2_2)) else (spec_MixAtoms.j0 k a1 a3 true l0_0 a0_1 a0_2 l2_0 a2_1 a2_2)) = some (r1, r2, r3, r4) := H
   have A11 := Aside0.mk A110
   clear A110
   by_cases c12 : qO = true
   ·
    subst c12
    have H1 : (if (l0_0.length : Int) = (l2_0.length : Int) then ((spec_l1In.f a1 0 400000000).bind fun qF => (if qF = true then ((spec_l1In.f a3 0 400000000).bind fun qy => (spec_MixAtoms.j0 k a1 a3 (!qy) l0_0 a0_1 a0_2 l2_0 a2_1 a2_2)) else (spec_MixAtoms.j0 k a1 a3 true l0_0 a0_1 a0_2 l2_0 a2_1 a2_2))) else (spec_MixAtoms.j0 k a1 a3 true l0_0 a0_1 a0_2 l2_0 a2_1 a2_2)) = some (r1, r2, r3, r4) := by rw [if_pos rfl] at H; exact H
    clear H
    have H := H1
    clear H1
    by_cases c13 : (l0_0.length : Int) = (l2_0.length : Int)
    ·
     rw [if_pos c13] at H
     have qI : ((l0_0.length : Int) == (l2_0.length : Int)) = true := beq_iff_eq.mpr c13
     have Qb : ((l0_0.length : Int) != (l2_0.length : Int)) = false := bne_eq_false_iff_eq.mpr c13
     have Qc : (l0_0.length == l2_0.length) = true := by first | simpa using c13 | (simp at c13 ⊢; omega)
     clear c13
     (first | rw [qI] | (simp only [i64_w, i32_w]; rw [qI]) | skip)
     replace H := Option.bind_eq_some_iff.mp H
     obtain ⟨qF, A140, H⟩ := H
     replace H : (if qF = true then ((spec_l1In.f a3 0 400000000).bind fun qy => (spec_MixAtoms.j0 k a1 a3 (!qy) l0_0 a0_1 a0_2 l2_0 a2_1 a2_2)) else (spec_MixAtoms.j0 k a1 a3 true l0_0 a0_1 a0_2 l2_0 a2_1 a2_2)) = some (r1, r2, r3, r4) := H
     have A14 := Aside0.mk A140
     clear A140
     by_cases c15 : qF = true
     ·
      subst c15
      have H1 : ((spec_l1In.f a3 0 400000000).bind fun qy => (spec_MixAtoms.j0 k a1 a3 (!qy) l0_0 a0_1 a0_2 l2_0 a2_1 a2_2)) = some (r1, r2, r3, r4) := by rw [if_pos rfl] at H; exact H
      clear H
      have H := H1
      clear H1
      replace H := Option.bind_eq_some_iff.mp H
      obtain ⟨qy, A160, H⟩ := H
      replace H : (spec_MixAtoms.j0 k a1 a3 (!qy) l0_0 a0_1 a0_2 l2_0 a2_1 a2_2) = some (r1, r2, r3, r4) := H
      have A16 := Aside0.mk A160
      clear A160
      have H' := Aside0.mk H
      clear H
      have XG := qk.out
      have XH := ql.out
      have XI := qh.out
      have XJ := qi.out
      have q5 : w8.cell? ⟨qd, 0, none⟩ = some (.slice A0_0 l0_0.length c0_0) := bc_ qa 0
      have q6 : w8.cell? ⟨qd, 1, none⟩ = some (.int .i64 a0_1) := bc_ qa 1
      have q7 : w8.cell? ⟨qd, 2, none⟩ = some (.bool a0_2) := bc_ qa 2
      have q8 := blk_frozen qa.out 0
      have q9 := blk_frozen qa.out 1
      have za := blk_frozen qa.out 2
      go_wp2_with (first | ((with_reducible refine gate_callee (f := 53) rfl ?_); refine goesL_ (some 15) rfl rfl Try.func53 (by kernel_rfl) rfl #[.agg #[.slice A0_0 l0_0.length c0_0, .int .i64 a0_1, .bool a0_2]] rfl (by (try simp only [List.map_toArray, List.map_cons, List.map_nil]); first | done | rfl | (simp only [List.length_drop, List.length_take]; rfl)) ?_; (with_reducible refine (spec_IsAtom.calls k _ _ l0_0 a0_1 a0_2 true _ ?side1 ?side2 A9.out).mono ?_); (case side1 => exact cb_ qP HB); (case side2 => exact qQ.out); rintro e JQ ⟨rfl, hb⟩; refine ⟨_, rfl, ?_⟩; replace qa := kB_ qa hb; replace qb := kB_ qb hb; replace qc := kB_ qc hb; replace HB := bS_ HB hb; (try clear hb); (try clear hb2); (try clear hk); (try clear hi); have XK := qn.out; have XL := qo.out; have zb : JQ.cell? ⟨qe, 0, none⟩ = some (.slice A2_0 l2_0.length c2_0) := bc_ qb 0; have zc : JQ.cell? ⟨qe, 1, none⟩ = some (.int .i64 a2_1) := bc_ qb 1; have zd : JQ.cell? ⟨qe, 2, none⟩ = some (.bool a2_2) := bc_ qb 2; have ze := blk_frozen qb.out 0; have zf := blk_frozen qb.out 1; have zg := blk_frozen qb.out 2) | (go_at_call 53; (with_reducible refine (spec_IsAtom.calls k _ _ l2_0 a2_1 a2_2 true _ ?side1 ?side2 A11.out).mono ?_); (case side1 => exact cb_ qR HB); (case side2 => exact q3.out); rintro e Qu ⟨rfl, hb⟩; replace qa := kB_ qa hb; replace qb := kB_ qb hb; replace qc := kB_ qc hb; replace HB := bS_ HB hb; (try clear hb); (try clear hb2); (try clear hk); (try clear hi); have zh : Qu.cell? ⟨qd, 0, none⟩ = some (.slice A0_0 l0_0.length c0_0) := bc_ qa 0; have zi : Qu.cell? ⟨qd, 1, none⟩ = some (.int .i64 a0_1) := bc_ qa 1; have zj : Qu.cell? ⟨qd, 2, none⟩ = some (.bool a0_2) := bc_ qa 2; have zk := blk_frozen qa.out 0; have zl := blk_frozen qa.out 1; have zm := blk_frozen qa.out 2; have zn : Qu.cell? ⟨qe, 0, none⟩ = some (.slice A2_0 l2_0.length c2_0) := bc_ qb 0; have zo : Qu.cell? ⟨qe, 1, none⟩ = some (.int .i64 a2_1) := bc_ qb 1; have zp : Qu.cell? ⟨qe, 2, none⟩ = some (.bool a2_2) := bc_ qb 2; have zq := blk_frozen qb.out 0; have zr := blk_frozen qb.out 1; have zs := blk_frozen qb.out 2) | (go_at_call 61; (with_reducible refine (spec_l1In.calls a1 0 400000000 true _ A14.out).mono ?_); rintro e w' ⟨rfl, ⟨nd, rfl⟩⟩) | (go_at_call 61; (with_reducible refine (spec_l1In.calls a3 0 400000000 qy _ A16.out).mono ?_); rintro e w' ⟨rfl, ⟨nd, rfl⟩⟩))
      go_meet
      case rel => exact ⟨_, (!qy), (by first | rfl | (simp; done) | (simp [*]; done)), H', ⟨by first | omega | exact Nat.le_refl _⟩, ⟨kf_ qa⟩, ⟨kf_ qb⟩, ⟨kf_ qc⟩, ⟨bb_ HB⟩⟩
     ·
      replace c15 := Bool.eq_false_iff.mpr c15
      subst c15
      have H1 : (spec_MixAtoms.j0 k a1 a3 true l0_0 a0_1 a0_2 l2_0 a2_1 a2_2) = some (r1, r2, r3, r4) := by rw [if_neg (show ¬ (false = true) by decide)] at H; exact H
      clear H
      have H := H1
      clear H1
      have H' := Aside0.mk H
      clear H
      have XM := qk.out
      have XN := ql.out
      have XO := qh.out
      have XP := qi.out
      have zt : w8.cell? ⟨qd, 0, none⟩ = some (.slice A0_0 l0_0.length c0_0) := bc_ qa 0
      have zu : w8.cell? ⟨qd, 1, none⟩ = some (.int .i64 a0_1) := bc_ qa 1
      have zv : w8.cell? ⟨qd, 2, none⟩ = some (.bool a0_2) := bc_ qa 2
      have zw := blk_frozen qa.out 0
      have zx := blk_frozen qa.out 1
      have zy := blk_frozen qa.out 2
      go_wp2_with (first | ((with_reducible refine gate_callee (f := 53) rfl ?_); refine goesL_ (some 15) rfl rfl Try.func53 (by kernel_rfl) rfl #[.agg #[.slice A0_0 l0_0.length c0_0, .int .i64 a0_1, .bool a0_2]] rfl (by (try simp only [List.map_toArray, List.map_cons, List.map_nil]); first | done | rfl | (simp only [List.length_drop, List.length_take]; rfl)) ?_; (with_reducible refine (spec_IsAtom.calls k _ _ l0_0 a0_1 a0_2 true _ ?side1 ?side2 A9.out).mono ?_); (case side1 => exact cb_ qP HB); (case side2 => exact qQ.out); rintro e JR ⟨rfl, hb⟩; refine ⟨_, rfl, ?_⟩; replace qa := kB_ qa hb; replace qb := kB_ qb hb; replace qc := kB_ qc hb; replace HB := bS_ HB hb; (try clear hb); (try clear hb2); (try clear hk); (try clear hi); have XQ := qn.out; have XR := qo.out; have zz : JR.cell? ⟨qe, 0, none⟩ = some (.slice A2_0 l2_0.length c2_0) := bc_ qb 0; have zA : JR.cell? ⟨qe, 1, none⟩ = some (.int .i64 a2_1) := bc_ qb 1; have zB : JR.cell? ⟨qe, 2, none⟩ = some (.bool a2_2) := bc_ qb 2; have zC := blk_frozen qb.out 0; have zD := blk_frozen qb.out 1; have zE := blk_frozen qb.out 2) | (go_at_call 53; (with_reducible refine (spec_IsAtom.calls k _ _ l2_0 a2_1 a2_2 true _ ?side1 ?side2 A11.out).mono ?_); (case side1 => exact cb_ qR HB); (case side2 => exact q3.out); rintro e Qv ⟨rfl, hb⟩; replace qa := kB_ qa hb; replace qb := kB_ qb hb; replace qc := kB_ qc hb; replace HB := bS_ HB hb; (try clear hb); (try clear hb2); (try clear hk); (try clear hi); have zF : Qv.cell? ⟨qd, 0, none⟩ = some (.slice A0_0 l0_0.length c0_0) := bc_ qa 0; have zG : Qv.cell? ⟨qd, 1, none⟩ = some (.int .i64 a0_1) := bc_ qa 1; have zH : Qv.cell? ⟨qd, 2, none⟩ = some (.bool a0_2) := bc_ qa 2; have zI := blk_frozen qa.out 0; have zJ := blk_frozen qa.out 1; have zK := blk_frozen qa.out 2; have zL : Qv.cell? ⟨qe, 0, none⟩ = some (.slice A2_0 l2_0.length c2_0) := bc_ qb 0; have zM : Qv.cell? ⟨qe, 1, none⟩ = some (.int .i64 a2_1) := bc_ qb 1; have zN : Qv.cell? ⟨qe, 2, none⟩ = some (.bool a2_2) := bc_ qb 2; have zO := blk_frozen qb.out 0; have zP := blk_frozen qb.out 1; have zQ := blk_frozen qb.out 2) | (go_at_call 61; (with_reducible refine (spec_l1In.calls a1 0 400000000 false _ A14.out).mono ?_); rintro e w' ⟨rfl, ⟨nd, rfl⟩⟩))
      go_meet
      case rel => exact ⟨_, (true), (by first | rfl | (simp; done) | (simp [*]; done)), H', ⟨by first | omega | exact Nat.le_refl _⟩, ⟨kf_ qa⟩, ⟨kf_ qb⟩, ⟨kf_ qc⟩, ⟨bb_ HB⟩⟩
    ·
     rw [if_neg c13] at H
     have qI : ((l0_0.length : Int) == (l2_0.length : Int)) = false := beq_eq_false_iff_ne.mpr c13
     have Qb : ((l0_0.length : Int) != (l2_0.length : Int)) = true := bne_iff_ne.mpr c13
     have Qc : (l0_0.length == l2_0.length) = false := by first | simpa using c13 | (simp at c13 ⊢; omega)
     (first | rw [qI] | (simp only [i64_w, i32_w]; rw [qI]) | skip)
     have H' := Aside0.mk H
     clear H
     have XS := qk.out
     have XT := ql.out
     have XU := qh.out
     have XV := qi.out
     have zR : w8.cell? ⟨qd, 0, none⟩ = some (.slice A0_0 l0_0.length c0_0) := bc_ qa 0
     have zS : w8.cell? ⟨qd, 1, none⟩ = some (.int .i64 a0_1) := bc_ qa 1
     have zT : w8.cell? ⟨qd, 2, none⟩ = some (.bool a0_2) := bc_ qa 2
     have zU := blk_frozen qa.out 0
     have zV := blk_frozen qa.out 1
     have zW := blk_frozen qa.out 2
     go_wp2_with (first | ((with_reducible refine gate_callee (f := 53) rfl ?_); refine goesL_ (some 15) rfl rfl Try.func53 (by kernel_rfl) rfl #[.agg #[.slice A0_0 l0_0.length c0_0, .int .i64 a0_1, .bool a0_2]] rfl (by (try simp only [List.map_toArray, List.map_cons, List.map_nil]); first | done | rfl | (simp only [List.length_drop, List.length_take]; rfl)) ?_; (with_reducible refine (spec_IsAtom.calls k _ _ l0_0 a0_1 a0_2 true _ ?side1 ?side2 A9.out).mono ?_); (case side1 => exact cb_ qP HB); (case side2 => exact qQ.out); rintro e JS ⟨rfl, hb⟩; refine ⟨_, rfl, ?_⟩; replace qa := kB_ qa hb; replace qb := kB_ qb hb; replace qc := kB_ qc hb; replace HB := bS_ HB hb; (try clear hb); (try clear hb2); (try clear hk); (try clear hi); have XW := qn.out; have XX := qo.out; have zX : JS.cell? ⟨qe, 0, none⟩ = some (.slice A2_0 l2_0.length c2_0) := bc_ qb 0; have zY : JS.cell? ⟨qe, 1, none⟩ = some (.int .i64 a2_1) := bc_ qb 1; have zZ : JS.cell? ⟨qe, 2, none⟩ = some (.bool a2_2) := bc_ qb 2; have z0 := blk_frozen qb.out 0; have z1 := blk_frozen qb.out 1; have z2 := blk_frozen qb.out 2) | (go_at_call 53; (with_reducible refine (spec_IsAtom.calls k _ _ l2_0 a2_1 a2_2 true _ ?side1 ?side2 A11.out).mono ?_); (case side1 => exact cb_ qR HB); (case side2 => exact q3.out); rintro e Qw ⟨rfl, hb⟩; replace qa := kB_ qa hb; replace qb := kB_ qb hb; replace qc := kB_ qc hb; replace HB := bS_ HB hb; (try clear hb); (try clear hb2); (try clear hk); (try clear hi); have z3 : Qw.cell? ⟨qd, 0, none⟩ = some (.slice A0_0 l0_0.length c0_0) := bc_ qa 0; have z4 : Qw.cell? ⟨qd, 1, none⟩ = some (.int .i64 a0_1) := bc_ qa 1; have z5 : Qw.cell? ⟨qd, 2, none⟩ = some (.bool a0_2) := bc_ qa 2; have z6 := blk_frozen qa.out 0; have z7 := blk_frozen qa.out 1; have z8 := blk_frozen qa.out 2; have z9 : Qw.cell? ⟨qe, 0, none⟩ = some (.slice A2_0 l2_0.length c2_0) := bc_ qb 0; have ja : Qw.cell? ⟨qe, 1, none⟩ = some (.int .i64 a2_1) := bc_ qb 1; have jb : Qw.cell? ⟨qe, 2, none⟩ = some (.bool a2_2) := bc_ qb 2; have jc := blk_frozen qb.out 0; have jd := blk_frozen qb.out 1; have je := blk_frozen qb.out 2))
     go_meet
     case rel => exact ⟨_, (true), (by first | rfl | (simp; done) | (simp [*]; done)), H', ⟨by first | omega | exact Nat.le_refl _⟩, ⟨kf_ qa⟩, ⟨kf_ qb⟩, ⟨kf_ qc⟩, ⟨bb_ HB⟩⟩
   ·
    replace c12 := Bool.eq_false_iff.mpr c12
    subst c12
    have H1 : (spec_MixAtoms.j0 k a1 a3 true l0_0 a0_1 a0_2 l2_0 a2_1 a2_2) = some (r1, r2, r3, r4) := by rw [if_neg (show ¬ (false = true) by decide)] at H; exact H
    clear H
    have H := H1
    clear H1
    have H' := Aside0.mk H
    clear H
    have XY := qk.out
    have XZ := ql.out
    have X0 := qh.out
    have X1 := qi.out
    have jf : w8.cell? ⟨qd, 0, none⟩ = some (.slice A0_0 l0_0.length c0_0) := bc_ qa 0
    have jg : w8.cell? ⟨qd, 1, none⟩ = some (.int .i64 a0_1) := bc_ qa 1
    have jh : w8.cell? ⟨qd, 2, none⟩ = some (.bool a0_2) := bc_ qa 2
    have ji := blk_frozen qa.out 0
    have jj := blk_frozen qa.out 1
    have jk := blk_frozen qa.out 2
    go_wp2_with (first | ((with_reducible refine gate_callee (f := 53) rfl ?_); refine goesL_ (some 15) rfl rfl Try.func53 (by kernel_rfl) rfl #[.agg #[.slice A0_0 l0_0.length c0_0, .int .i64 a0_1, .bool a0_2]] rfl (by (try simp only [List.map_toArray, List.map_cons, List.map_nil]); first | done | rfl | (simp only [List.length_drop, List.length_take]; rfl)) ?_; (with_reducible refine (spec_IsAtom.calls k _ _ l0_0 a0_1 a0_2 true _ ?side1 ?side2 A9.out).mono ?_); (case side1 => exact cb_ qP HB); (case side2 => exact qQ.out); rintro e JT ⟨rfl, hb⟩; refine ⟨_, rfl, ?_⟩; replace qa := kB_ qa hb; replace qb := kB_ qb hb; replace qc := kB_ qc hb; replace HB := bS_ HB hb; (try clear hb); (try clear hb2); (try clear hk); (try clear hi); have X2 := qn.out; have X3 := qo.out; have jl : JT.cell? ⟨qe, 0, none⟩ = some (.slice A2_0 l2_0.length c2_0) := bc_ qb 0; have jm : JT.cell? ⟨qe, 1, none⟩ = some (.int .i64 a2_1) := bc_ qb 1; have jn : JT.cell? ⟨qe, 2, none⟩ = some (.bool a2_2) := bc_ qb 2; have jo := blk_frozen qb.out 0; have jp := blk_frozen qb.out 1; have jq := blk_frozen qb.out 2) | (go_at_call 53; (with_reducible refine (spec_IsAtom.calls k _ _ l2_0 a2_1 a2_2 false _ ?side1 ?side2 A11.out).mono ?_); (case side1 => exact cb_ qR HB); (case side2 => exact q3.out); rintro e YY ⟨rfl, hb⟩; replace qa := kB_ qa hb; replace qb := kB_ qb hb; replace qc := kB_ qc hb; replace HB := bS_ HB hb; (try clear hb); (try clear hb2); (try clear hk); (try clear hi)))
    go_meet
    case rel => exact ⟨_, (true), (by first | rfl | (simp; done) | (simp [*]; done)), H', ⟨by first | omega | exact Nat.le_refl _⟩, ⟨kf_ qa⟩, ⟨kf_ qb⟩, ⟨kf_ qc⟩, ⟨bb_ HB⟩⟩
  ·
   replace c10 := Bool.eq_false_iff.mpr c10
   subst c10
   have H1 : (spec_MixAtoms.j0 k a1 a3 true l0_0 a0_1 a0_2 l2_0 a2_1 a2_2) = some (r1, r2, r3, r4) := by rw [if_neg (show ¬ (false = true) by decide)] at H; exact H
   clear H
   have H := H1
   clear H1
   have H' := Aside0.mk H
   clear H
   have X4 := qk.out
   have X5 := ql.out
   have X6 := qh.out
   have X7 := qi.out
   have jr : w8.cell? ⟨qd, 0, none⟩ = some (.slice A0_0 l0_0.length c0_0) := bc_ qa 0
   have js : w8.cell? ⟨qd, 1, none⟩ = some (.int .i64 a0_1) := bc_ qa 1
   have jt : w8.cell? ⟨qd, 2, none⟩ = some (.bool a0_2) := bc_ qa 2
   have ju := blk_frozen qa.out 0
   have jv := blk_frozen qa.out 1
   have jw := blk_frozen qa.out 2
   go_wp2_with (first | ((with_reducible refine gate_callee (f := 53) rfl ?_); refine goesL_ (some 15) rfl rfl Try.func53 (by kernel_rfl) rfl #[.agg #[.slice A0_0 l0_0.length c0_0, .int .i64 a0_1, .bool a0_2]] rfl (by (try simp only [List.map_toArray, List.map_cons, List.map_nil]); first | done | rfl | (simp only [List.length_drop, List.length_take]; rfl)) ?_; (with_reducible refine (spec_IsAtom.calls k _ _ l0_0 a0_1 a0_2 false _ ?side1 ?side2 A9.out).mono ?_); (case side1 => exact cb_ qP HB); (case side2 => exact qQ.out); rintro e YZ ⟨rfl, hb⟩; refine ⟨_, rfl, ?_⟩; replace qa := kB_ qa hb; replace qb := kB_ qb hb; replace qc := kB_ qc hb; replace HB := bS_ HB hb; (try clear hb); (try clear hb2); (try clear hk); (try clear hi)))
   go_meet
   case rel => exact ⟨_, (true), (by first | rfl | (simp; done) | (simp [*]; done)), H', ⟨by first | omega | exact Nat.le_refl _⟩, ⟨kf_ qa⟩, ⟨kf_ qb⟩, ⟨kf_ qc⟩, ⟨bb_ HB⟩⟩
 case rest =>
  clear HC5
  try clear c1
  try clear c2
  try clear p2
  try clear c3
  try clear c4
  try clear c5
  try clear c10
  try clear c12
  try clear c13
  try clear qI
  try clear Qb
  try clear Qc
  try clear c15
  try clear c17
  try clear c18
  try clear c21
  try clear c26
  try clear c27
  try clear c30
  try clear c35
  try clear c36
  try clear c39
  try clear c44
  try clear c45
  try clear c48
  try clear c51
  try clear c52
  try clear c53
  try clear q5
  try clear q6
  try clear q7
  try clear zb
  try clear zc
  try clear zd
  try clear zh
  try clear zi
  try clear zj
  try clear zn
  try clear zo
  try clear zp
  try clear zt
  try clear zu
  try clear zv
  try clear zz
  try clear zA
  try clear zB
  try clear zF
  try clear zG
  try clear zH
  try clear zL
  try clear zM
  try clear zN
  try clear zR
  try clear zS
  try clear zT
  try clear zX
  try clear zY
  try clear zZ
  try clear z3
  try clear z4
  try clear z5
  try clear z9
  try clear ja
  try clear jb
  try clear jf
  try clear jg
  try clear jh
  try clear jl
  try clear jm
  try clear jn
  try clear jr
  try clear js
  try clear jt
  try clear q8
  try clear q9
  try clear za
  try clear ze
  try clear zf
  try clear zg
  try clear zk
  try clear zl
  try clear zm
  try clear zq
  try clear zr
  try clear zs
  try clear zw
  try clear zx
  try clear zy
  try clear zC
  try clear zD
  try clear zE
  try clear zI
  try clear zJ
  try clear zK
  try clear zO
  try clear zP
  try clear zQ
  try clear zU
  try clear zV
  try clear zW
  try clear z0
  try clear z1
  try clear z2
  try clear z6
  try clear z7
  try clear z8
  try clear jc
  try clear jd
  try clear je
  try clear ji
  try clear jj
  try clear jk
  try clear jo
  try clear jp
  try clear jq
  try clear ju
  try clear jv
  try clear jw
  obtain ⟨kq, q4, rfl, HA, HJ4, qa, qb, qc, HB⟩ := hcut
  cases kq with
  | zero => exact absurd HA.out (by simp [spec_MixAtoms.j0])
  | succ kj4 =>
   have H := HA.out
   clear HA
   simp only [spec_MixAtoms.j0] at H
   by_cases c55 : q4 = true
   ·
    subst c55
    have H1 : (some (([] : List Int), 0, false, false)) = some (r1, r2, r3, r4) := by rw [if_pos rfl] at H; exact H
    clear H
    have H := H1
    clear H1
    simp only [Option.some.injEq, Prod.mk.injEq] at H
    obtain ⟨rfl, rfl, rfl, rfl⟩ := H
    have X8 := qi.out
    have X9 := qh.out
    have Ya := qo.out
    have Yb := qn.out
    have Qo : wc.cell? ⟨qf, 0, none⟩ = some (.slice none 0 0) := bc_ qc 0
    have Qp : wc.cell? ⟨qf, 1, none⟩ = some (.int .i64 0) := bc_ qc 1
    have Qq : wc.cell? ⟨qf, 2, none⟩ = some (.bool false) := bc_ qc 2
    have Qr := blk_frozen qc.out 0
    have Qs := blk_frozen qc.out 1
    have Qt := blk_frozen qc.out 2
    go_wp2
    refine bodyPost_ret (results_ct rfl _ _ qf 26 #[.slice none 0 0, .int .i64 0, .bool false] (0, 0) _ rfl (by (with_reducible repeat (first | refine blk_drewN ?_ _ | refine blk_drew ?_ | refine blk_alloc ?_ _)); refine blk_put (cs := #[.slice none 0 0, .int .i64 0, .bool false]) ?_ 2 _ rfl; (with_reducible repeat (first | refine blk_drewN ?_ _ | refine blk_drew ?_ | refine blk_alloc ?_ _)); refine blk_put (cs := #[.slice none 0 0, .int .i64 0, .bool false]) ?_ 1 _ rfl; (with_reducible repeat (first | refine blk_drewN ?_ _ | refine blk_drew ?_ | refine blk_alloc ?_ _)); refine blk_put (cs := #[.slice none 0 0, .int .i64 0, .bool false]) ?_ 0 _ rfl; (with_reducible repeat (first | refine blk_drewN ?_ _ | refine blk_drew ?_ | refine blk_alloc ?_ _)); exact qc.out) Try.underlying26 rfl (by kernel_rfl)) rfl ?_
    exact ⟨_, by first | rfl | (simp [errW_none, errW_some] <;> rfl) | (simp [*, errW_none, errW_some] <;> rfl), by first | exact Kd.R_nil _ _ _ _ _ | exact Kd.N_nil _ _ _ _ _ | exact Kd.V_nil _ _ _ _ _ | exact Kd.Q_nil _ _ _ _ _ | exact Kd.S_nil _ _ _ _ _, bb_ HB⟩
   ·
    replace c55 := Bool.eq_false_iff.mpr c55
    subst c55
    have H1 : (spec_MixAtoms.l0 kj4 a1 a3 (([] : List Int)) 0 l0_0 a0_1 a0_2 l2_0 a2_1 a2_2) = some (r1, r2, r3, r4) := by rw [if_neg (show ¬ (false = true) by decide)] at H; exact H
    clear H
    have H := H1
    clear H1
    obtain ⟨y150, hy150⟩ : ∃ y_ : List Int, y_ = (([] : List Int)) := ⟨_, rfl⟩
    replace H : (spec_MixAtoms.l0 kj4 a1 a3 y150 0 l0_0 a0_1 a0_2 l2_0 a2_1 a2_2) = some (r1, r2, r3, r4) := by first | (rw [hy150]; with_reducible exact H) | (have H2_ := (Option.bind_some _ _).symm.trans H; rw [hy150]; with_reducible exact H2_) | (have H2_ := (Option.bind_some _ _).symm.trans H; with_reducible exact H2_) | with_reducible exact H | (rw [hy150]; exact H) | exact H
    have Ny150 := Aside0.mk hy150
    clear hy150
    have H' := Aside0.mk H
    clear H
    go_wp2_with (first | ((with_reducible refine gate_dst (N := 42) rfl ?_); (try (refine gate_guard (by rfl) ?_; dsimp only)); refine Kd.R_lit (Kd.int .i64) _ 3 ?hg (N := 42) ?hd (xs := ([] : List Int)) (inner := []) (ok := fun _ => True) (okp := fun _ => True) ?hr ?hp (fun _ hk => hk) trivial (Below.refl _ _) (Nat.le_refl _) (by simp) ?_; (case hd => rfl); (case hg => rfl); (case hr => first | (go_simp; done) | (go_simp; rfl)); (case hp => exact (Reps.none _ _)); intro YO Y0 ho60 hb hg_ hnew_; clear hg_ hnew_; (first | rw [← Ny150.out] at ho60 | (simp only [Int.reduceToNat] at ho60; rw [← Ny150.out] at ho60)); have Qz := Aside0.mk (Kd.R_lower ho60 (bz_ HB)); replace qa := kB_ qa hb; replace qb := kB_ qb hb; replace qc := kB_ qc hb; replace HB := bS_ HB hb; clear hb ho60))
    go_loopg [10, 11] kj4 (fun kq v10 v11 w' => ∃ (qm : List Int) (qj : Int), v11 = .int .i64 qj ∧ Aside0 (spec_MixAtoms.l0 kq a1 a3 qm qj l0_0 a0_1 a0_2 l2_0 a2_1 a2_2 = some (r1, r2, r3, r4)) ∧ Aside0 (kq ≤ kj4) ∧ Aside0 (Kd.R (Kd.int .i64) 3 w' w.heap.size (fun _ => True) v10 qm) ∧ Aside0 (w'.heap[qd]? = some (.cells #[(.slice A0_0 l0_0.length c0_0), .int .i64 a0_1, .bool a0_2] 26 (0, 0))) ∧ Aside0 (w'.heap[qe]? = some (.cells #[(.slice A2_0 l2_0.length c2_0), .int .i64 a2_1, .bool a2_2] 26 (0, 0))) ∧ Aside0 (w'.heap[qf]? = some (.cells #[(.slice none 0 0), .int .i64 0, .bool false] 26 (0, 0))) ∧ Aside0 (Below w.heap.size w w'))
    case atStart => exact ⟨(y150), (0), (by first | rfl | (simp; done) | (simp [*]; done)), H', ⟨Nat.le_refl _⟩, ⟨by (with_reducible repeat (first | apply Kd.R_alloc | apply Kd.R_drewN | apply Kd.R_drew)); exact Qz.out⟩, ⟨kf_ qa⟩, ⟨kf_ qb⟩, ⟨kf_ qc⟩, ⟨bb_ HB⟩⟩
    case round =>
     clear H'
     try clear c1
     try clear c2
     try clear p2
     try clear c3
     try clear c4
     try clear c5
     try clear c10
     try clear c12
     try clear c13
     try clear qI
     try clear Qb
     try clear Qc
     try clear c15
     try clear c17
     try clear c18
     try clear c21
     try clear c26
     try clear c27
     try clear c30
     try clear c35
     try clear c36
     try clear c39
     try clear c44
     try clear c45
     try clear c48
     try clear c51
     try clear c52
     try clear c53
     try clear c55
     try clear c56
     try clear c57
     try clear q5
     try clear q6
     try clear q7
     try clear zb
     try clear zc
     try clear zd
     try clear zh
     try clear zi
     try clear zj
     try clear zn
     try clear zo
     try clear zp
     try clear zt
     try clear zu
     try clear zv
     try clear zz
     try clear zA
     try clear zB
     try clear zF
     try clear zG
     try clear zH
     try clear zL
     try clear zM
     try clear zN
     try clear zR
     try clear zS
     try clear zT
     try clear zX
     try clear zY
     try clear zZ
     try clear z3
     try clear z4
     try clear z5
     try clear z9
     try clear ja
     try clear jb
     try clear jf
     try clear jg
     try clear jh
     try clear jl
     try clear jm
     try clear jn
     try clear jr
     try clear js
     try clear jt
     try clear Qo
     try clear Qp
     try clear Qq
     try clear q8
     try clear q9
     try clear za
     try clear ze
     try clear zf
     try clear zg
     try clear zk
     try clear zl
     try clear zm
     try clear zq
     try clear zr
     try clear zs
     try clear zw
     try clear zx
     try clear zy
     try clear zC
     try clear zD
     try clear zE
     try clear zI
     try clear zJ
     try clear zK
     try clear zO
     try clear zP
     try clear zQ
     try clear zU
     try clear zV
     try clear zW
     try clear z0
     try clear z1
     try clear z2
     try clear z6
     try clear z7
     try clear z8
     try clear jc
     try clear jd
     try clear je
     try clear ji
     try clear jj
     try clear jk
     try clear jo
     try clear jp
     try clear jq
     try clear ju
     try clear jv
     try clear jw
     try clear Qr
     try clear Qs
     try clear Qt
     try clear p2
     obtain ⟨qm, qj, rfl, HA, HK2, qg, qa, qb, qc, HB⟩ := hrel
     cases gk with
     | zero => exact absurd HA.out (by simp [spec_MixAtoms.l0])
     | succ k2 =>
      have H := HA.out
      clear HA
      simp only [spec_MixAtoms.l0] at H
      by_cases c61 : qj < (l0_0.length : Int)
      ·
       rw [if_pos c61] at H
       have QA : decide (qj < (l0_0.length : Int)) = true := decide_eq_true c61
       clear c61
       by_cases c62 : 0 ≤ qj
       ·
        rw [if_pos c62] at H
        have Yc : decide (0 ≤ qj) = true := decide_eq_true c62
        clear c62
        by_cases c63 : qj < (l2_0.length : Int)
        ·
         rw [if_pos c63] at H
         have Yd : decide (qj < (l2_0.length : Int)) = true := decide_eq_true c63
         clear c63
         by_cases c64 : qm.length < 17592186044416
         ·
          rw [if_pos c64] at H
          have LMc64 := Aside0.mk c64
          clear c64
          obtain ⟨y155, hy155⟩ : ∃ y_ : List Int, y_ = (qm ++ [wrap64 ((wrap64 (a1 * (rd l0_0 qj))) + (wrap64 (a3 * (rd l2_0 qj))))]) := ⟨_, rfl⟩
          replace H : (spec_MixAtoms.l0 k2 a1 a3 y155 (wrap64 (qj + 1)) l0_0 a0_1 a0_2 l2_0 a2_1 a2_2) = some (r1, r2, r3, r4) := by first | (rw [hy155]; with_reducible exact H) | (have H2_ := (Option.bind_some _ _).symm.trans H; rw [hy155]; with_reducible exact H2_) | (have H2_ := (Option.bind_some _ _).symm.trans H; with_reducible exact H2_) | with_reducible exact H | (rw [hy155]; exact H) | exact H
          have Ny155 := Aside0.mk hy155
          clear hy155
          have H' := Aside0.mk H
          clear H
          have Ye := qk.out
          have Yf := ql.out
          have Yg := qh.out
          have Yh := qi.out
          have Ja : wr.cell? ⟨qd, 0, none⟩ = some (.slice A0_0 l0_0.length c0_0) := bc_ qa 0
          have Jb : wr.cell? ⟨qd, 1, none⟩ = some (.int .i64 a0_1) := bc_ qa 1
          have Jc : wr.cell? ⟨qd, 2, none⟩ = some (.bool a0_2) := bc_ qa 2
          have Jd := blk_frozen qa.out 0
          have Je := blk_frozen qa.out 1
          have Jf := blk_frozen qa.out 2
          try go_wp2
          replace qg := Aside0.mk (Kd.R_drew qg.out); replace qa := Aside0.mk (blk_drew qa.out); replace qb := Aside0.mk (blk_drew qb.out); replace qc := Aside0.mk (blk_drew qc.out); replace HB := Aside0.mk (below_drew1 HB.out)
          have p153 : 0 ≤ (qj : Int) := of_decide_eq_true (by first | (with_reducible assumption) | assumption)
          have q153 : qj < (l0_0.length : Int) := of_decide_eq_true (by first | (with_reducible assumption) | assumption)
          obtain ⟨Qd, e153, qG⟩ := Kd.at_int qP.out qj p153 q153
          have hw153_0 := qG
          cases e153
          replace qG := (HB.out.cell (World.block_lt_of_cell? w _ qG)).trans qG
          replace p153 := eq_true p153
          replace q153 := eq_true q153
          have p154 : 0 ≤ (qj : Int) := of_decide_eq_true (by first | (with_reducible assumption) | assumption)
          have q154 : qj < (l2_0.length : Int) := of_decide_eq_true (by first | (with_reducible assumption) | assumption)
          obtain ⟨Qe, e154, qH⟩ := Kd.at_int qR.out qj p154 q154
          have hw154_0 := qH
          cases e154
          replace qH := (HB.out.cell (World.block_lt_of_cell? w _ qH)).trans qH
          replace p154 := eq_true p154
          replace q154 := eq_true q154
          refine start_ (n := 19) (S := fun w' => w'.cell? ⟨qd, 0, none⟩ = some (.slice (some Qd) l0_0.length c0_0) ∧ w'.cell? ⟨qd, 1, none⟩ = some (.int .i64 a0_1) ∧ w'.cell? ⟨qd, 2, none⟩ = some (.bool a0_2) ∧ w'.cell? ⟨qe, 0, none⟩ = some (.slice (some Qe) l2_0.length c2_0) ∧ w'.cell? ⟨qe, 1, none⟩ = some (.int .i64 a2_1) ∧ w'.cell? ⟨qe, 2, none⟩ = some (.bool a2_2) ∧ w'.cell? (Qd.add (qj).toNat) = some (.int .i64 (rd l0_0 qj)) ∧ w'.cell? (Qe.add (qj).toNat) = some (.int .i64 (rd l2_0 qj))) (ds := []) #[false, false, false, false, false, false, false, false, false, false, false, false, false, false, false, false, false, false, false] (by kernel_rfl) rfl rfl ⟨bc_ qa 0, bc_ qa 1, bc_ qa 2, bc_ qb 0, bc_ qb 1, bc_ qb 2, ((HB.out.cell (World.block_lt_of_cell? w _ hw153_0)).trans hw153_0), ((HB.out.cell (World.block_lt_of_cell? w _ hw154_0)).trans hw154_0)⟩ (fun hHeld => ?_); refine with_tabW spec_MixAtoms.tab7 spec_MixAtoms.bits7 (fun HT_ HW_ => ?_)
          generalize wr.drew = Y1 at qg qa qb qc HB qG qH hHeld ⊢
          refine pure_ (i := 0) (N := some 50) (v := ?_) (a' := ?_) #[true, false, false, false, false, false, false, false, false, false, false, false, false, false, false, false, false, false, false] rfl rfl (any_of HT_.out (by kernel_rfl)) (fun _ _ _ h => h) (Or.inl ⟨by rfl, ?_⟩) ?_ ?_
          rotate_left
          ·
           intro w'
           go_simp
           with_reducible rfl
          rotate_left
          ·
           simp only [Act.put, List.setIfInBounds_toArray, List.set_cons_zero, List.set_cons_succ, i64_w, i32_w]
           rfl
          refine pure_ (i := 1) (N := some 51) (v := ?_) (a' := ?_) #[true, true, false, false, false, false, false, false, false, false, false, false, false, false, false, false, false, false, false] rfl rfl (any_of HT_.out (by kernel_rfl)) (fun _ _ _ h => h) (Or.inl ⟨by rfl, ?_⟩) ?_ ?_
          rotate_left
          ·
           intro w'
           go_simp
           with_reducible rfl
          rotate_left
          ·
           simp only [Act.put, List.setIfInBounds_toArray, List.set_cons_zero, List.set_cons_succ, i64_w, i32_w]
           rfl
          refine pure_ (i := 2) (N := some 52) (v := ?_) (a' := ?_) #[true, true, true, false, false, false, false, false, false, false, false, false, false, false, false, false, false, false, false] rfl rfl (any_of HT_.out (by kernel_rfl)) (fun _ _ _ h => h) (Or.inl ⟨by rfl, ?_⟩) ?_ ?_
          rotate_left
          ·
           intro w'
           go_simp
           with_reducible rfl
          rotate_left
          ·
           simp only [Act.put, List.setIfInBounds_toArray, List.set_cons_zero, List.set_cons_succ, i64_w, i32_w]
           rfl
          refine pure_ (i := 4) (N := some 54) (v := ?_) (a' := ?_) #[true, true, true, false, true, false, false, false, false, false, false, false, false, false, false, false, false, false, false] rfl rfl (any_of HT_.out (by kernel_rfl)) (fun _ _ _ h => h) (Or.inl ⟨by rfl, ?_⟩) ?_ ?_
          rotate_left
          ·
           intro w'
           go_simp
           with_reducible rfl
          rotate_left
          ·
           simp only [Act.put, List.setIfInBounds_toArray, List.set_cons_zero, List.set_cons_succ, i64_w, i32_w]
           rfl
          refine pure_ (i := 8) (N := some 58) (v := ?_) (a' := ?_) #[true, true, true, false, true, false, false, false, true, false, false, false, false, false, false, false, false, false, false] rfl rfl (any_of HT_.out (by kernel_rfl)) (fun _ _ _ h => h) (Or.inl ⟨by rfl, ?_⟩) ?_ ?_
          rotate_left
          ·
           intro w'
           go_simp
           with_reducible rfl
          rotate_left
          ·
           simp only [Act.put, List.setIfInBounds_toArray, List.set_cons_zero, List.set_cons_succ, i64_w, i32_w]
           rfl
          refine pure_ (i := 9) (N := some 59) (v := ?_) (a' := ?_) #[true, true, true, false, true, false, false, false, true, true, false, false, false, false, false, false, false, false, false] rfl rfl (any_of HT_.out (by kernel_rfl)) (fun _ _ _ h => h) (Or.inl ⟨by rfl, ?_⟩) ?_ ?_
          rotate_left
          ·
           intro w'
           go_simp
           with_reducible rfl
          rotate_left
          ·
           simp only [Act.put, List.setIfInBounds_toArray, List.set_cons_zero, List.set_cons_succ, i64_w, i32_w]
           rfl
          refine pure_ (i := 11) (N := some 61) (v := ?_) (a' := ?_) #[true, true, true, false, true, false, false, false, true, true, false, true, false, false, false, false, false, false, false] rfl rfl (any_of HT_.out (by kernel_rfl)) (fun _ _ _ h => h) (Or.inl ⟨by rfl, ?_⟩) ?_ ?_
          rotate_left
          ·
           intro w'
           go_simp
           with_reducible rfl
          rotate_left
          ·
           simp only [Act.put, List.setIfInBounds_toArray, List.set_cons_zero, List.set_cons_succ, i64_w, i32_w]
           rfl
          refine take_ (i := 3) (N := some 53) (v := ?_) (a' := ?_) #[true, true, true, true, true, false, false, false, true, true, false, true, false, false, false, false, false, false, false] rfl rfl (take_ofW HT_.out HW_.out (by kernel_rfl)) (fun _ _ _ h => h) (Or.inl ⟨by rfl, ?_⟩) hHeld ?_ ?_
          rotate_left
          ·
           rintro w' ⟨s0, s1, s2, s3, s4, s5, s6, s7⟩
           go_simp
           with_reducible rfl
          rotate_left
          ·
           simp only [Act.put, List.setIfInBounds_toArray, List.set_cons_zero, List.set_cons_succ, i64_w, i32_w]
           rfl
          refine pure_ (i := 5) (N := some 55) (v := ?_) (a' := ?_) #[true, true, true, true, true, true, false, false, true, true, false, true, false, false, false, false, false, false, false] rfl rfl (any_of HT_.out (by kernel_rfl)) (fun _ _ _ h => h) (Or.inl ⟨by rfl, ?_⟩) ?_ ?_
          rotate_left
          ·
           intro w'
           go_simp
           with_reducible rfl
          rotate_left
          ·
           simp only [Act.put, List.setIfInBounds_toArray, List.set_cons_zero, List.set_cons_succ, i64_w, i32_w]
           rfl
          refine take_ (i := 6) (N := some 56) (v := ?_) (a' := ?_) #[true, true, true, true, true, true, true, false, true, true, false, true, false, false, false, false, false, false, false] rfl rfl (take_ofW HT_.out HW_.out (by kernel_rfl)) (fun _ _ _ h => h) (Or.inl ⟨by rfl, ?_⟩) hHeld ?_ ?_
          rotate_left
          ·
           rintro w' ⟨s0, s1, s2, s3, s4, s5, s6, s7⟩
           go_simp
           with_reducible rfl
          rotate_left
          ·
           simp only [Act.put, List.setIfInBounds_toArray, List.set_cons_zero, List.set_cons_succ, i64_w, i32_w]
           rfl
          refine pure_ (i := 7) (N := some 57) (v := ?_) (a' := ?_) #[true, true, true, true, true, true, true, true, true, true, false, true, false, false, false, false, false, false, false] rfl rfl (any_of HT_.out (by kernel_rfl)) (fun _ _ _ h => h) (Or.inl ⟨by rfl, ?_⟩) ?_ ?_
          rotate_left
          ·
           intro w'
           go_simp
           with_reducible rfl
          rotate_left
          ·
           simp only [Act.put, List.setIfInBounds_toArray, List.set_cons_zero, List.set_cons_succ, i64_w, i32_w]
           rfl
          refine take_ (i := 10) (N := some 60) (v := ?_) (a' := ?_) #[true, true, true, true, true, true, true, true, true, true, true, true, false, false, false, false, false, false, false] rfl rfl (take_ofW HT_.out HW_.out (by kernel_rfl)) (fun _ _ _ h => h) (Or.inl ⟨by rfl, ?_⟩) hHeld ?_ ?_
          rotate_left
          ·
           rintro w' ⟨s0, s1, s2, s3, s4, s5, s6, s7⟩
           go_simp
           with_reducible rfl
          rotate_left
          ·
           simp only [Act.put, List.setIfInBounds_toArray, List.set_cons_zero, List.set_cons_succ, i64_w, i32_w]
           rfl
          refine pure_ (i := 12) (N := some 62) (v := ?_) (a' := ?_) #[true, true, true, true, true, true, true, true, true, true, true, true, true, false, false, false, false, false, false] rfl rfl (any_of HT_.out (by kernel_rfl)) (fun _ _ _ h => h) (Or.inl ⟨by rfl, ?_⟩) ?_ ?_
          rotate_left
          ·
           intro w'
           go_simp
           with_reducible rfl
          rotate_left
          ·
           simp only [Act.put, List.setIfInBounds_toArray, List.set_cons_zero, List.set_cons_succ, i64_w, i32_w]
           rfl
          refine take_ (i := 13) (N := some 63) (v := ?_) (a' := ?_) #[true, true, true, true, true, true, true, true, true, true, true, true, true, true, false, false, false, false, false] rfl rfl (take_ofW HT_.out HW_.out (by kernel_rfl)) (fun _ _ _ h => h) (Or.inl ⟨by rfl, ?_⟩) hHeld ?_ ?_
          rotate_left
          ·
           rintro w' ⟨s0, s1, s2, s3, s4, s5, s6, s7⟩
           go_simp
           with_reducible rfl
          rotate_left
          ·
           simp only [Act.put, List.setIfInBounds_toArray, List.set_cons_zero, List.set_cons_succ, i64_w, i32_w]
           rfl
          refine pure_ (i := 14) (N := some 64) (v := ?_) (a' := ?_) #[true, true, true, true, true, true, true, true, true, true, true, true, true, true, true, false, false, false, false] rfl rfl (any_of HT_.out (by kernel_rfl)) (fun _ _ _ h => h) (Or.inl ⟨by rfl, ?_⟩) ?_ ?_
          rotate_left
          ·
           intro w'
           go_simp
           with_reducible rfl
          rotate_left
          ·
           simp only [Act.put, List.setIfInBounds_toArray, List.set_cons_zero, List.set_cons_succ, i64_w, i32_w]
           rfl
          refine pure_ (i := 15) (N := some 65) (v := ?_) (a' := ?_) #[true, true, true, true, true, true, true, true, true, true, true, true, true, true, true, true, false, false, false] rfl rfl (any_of HT_.out (by kernel_rfl)) (fun _ _ _ h => h) (Or.inl ⟨by rfl, ?_⟩) ?_ ?_
          rotate_left
          ·
           intro w'
           go_simp
           with_reducible rfl
          rotate_left
          ·
           simp only [Act.put, List.setIfInBounds_toArray, List.set_cons_zero, List.set_cons_succ, i64_w, i32_w]
           rfl
          refine one_ (i := 16) (N := some 66) #[true, true, true, true, true, true, true, true, true, true, true, true, true, true, true, true, true, false, false] rfl rfl (one_of HT_.out (by kernel_rfl)) (by decide) (fun K hK => ?_)
          refine value_ (w1 := ?_) (v := ?_) (by rfl) rfl ?_ ?_
          rotate_left 2
          ·
           go_simp
           constructor
           ·
            rfl
           ·
            rfl
          refine hK.out _ _ ⟨(blk_cell (blk_alloc qa.out _) 0).trans rfl, (blk_cell (blk_alloc qa.out _) 1).trans rfl, (blk_cell (blk_alloc qa.out _) 2).trans rfl, (blk_cell (blk_alloc qb.out _) 0).trans rfl, (blk_cell (blk_alloc qb.out _) 1).trans rfl, (blk_cell (blk_alloc qb.out _) 2).trans rfl, (World.cell?_alloc_lt _ _ _ (World.block_lt_of_cell? _ _ (((HB.out.cell (World.block_lt_of_cell? w _ hw153_0)).trans hw153_0)))).trans (((HB.out.cell (World.block_lt_of_cell? w _ hw153_0)).trans hw153_0)), (World.cell?_alloc_lt _ _ _ (World.block_lt_of_cell? _ _ (((HB.out.cell (World.block_lt_of_cell? w _ hw154_0)).trans hw154_0)))).trans (((HB.out.cell (World.block_lt_of_cell? w _ hw154_0)).trans hw154_0))⟩ (fun hHeld => ?_)
          clear hK K
          refine norm_ (a' := ?_) ?_ ?_
          rotate_left
          ·
           show Act.put _ (some 66) _ = _
           simp only [Act.put, List.setIfInBounds_toArray, List.set_cons_zero, List.set_cons_succ, i64_w, i32_w]
           rfl
          refine one_ (i := 17) (N := some 67) #[true, true, true, true, true, true, true, true, true, true, true, true, true, true, true, true, true, true, false] rfl rfl (one_of HT_.out (by kernel_rfl)) (by decide) (fun K hK => ?_)
          refine Kd.R_append_step (Kd.int .i64) (w0 := w) w.heap.size (by rfl) (.tmp 50) (.tmp 66) 22 3 (.int .i64 0) 8 rfl Try.underlying22 info3 rfl (by decide) (by omega) u10 qm (wrap64 ((wrap64 (a1 * (rd l0_0 qj))) + (wrap64 (a3 * (rd l2_0 qj))))) [.int .i64 (wrap64 ((wrap64 (a1 * (rd l0_0 qj))) + (wrap64 (a3 * (rd l2_0 qj)))))] (fun _ => True) (fun _ => False) rfl rfl ?aP (fun _ hk => hk.elim) ?aF ?aO ?aB ?aS ?aL ?_
          (case aP => exact rfl)
          (case aB => exact (bb_ HB))
          (case aF => exact (fun _ _ => trivial))
          (case aO => exact (rm_ qg))
          (case aS => exact (bz_ HB))
          (case aL => have := LMc64.out; omega)
          intro YP Y2 ho hb hg hat
          rw [← Ny155.out] at ho
          replace qa := Aside0.mk (blk_grown (g := qd) (o := .cells #[.slice (some Qd) l0_0.length c0_0, .int .i64 a0_1, .bool a0_2] 26 (0, 0)) (kf_ qa) hg (Kd.R_ne qg.out qa.out (by decide))); replace qb := Aside0.mk (blk_grown (g := qe) (o := .cells #[.slice (some Qe) l2_0.length c2_0, .int .i64 a2_1, .bool a2_2] 26 (0, 0)) (kf_ qb) hg (Kd.R_ne qg.out qb.out (by decide))); replace qc := Aside0.mk (blk_grown (g := qf) (o := .cells #[.slice none 0 0, .int .i64 0, .bool false] 26 (0, 0)) (kf_ qc) hg (Kd.R_ne qg.out qc.out (by decide))); replace HB := Aside0.mk (hb); have QB := Aside0.mk (ho); clear qg; clear ho hb hg hat
          refine hK.out _ _ ⟨bc_ qa 0, bc_ qa 1, bc_ qa 2, bc_ qb 0, bc_ qb 1, bc_ qb 2, ((HB.out.cell (World.block_lt_of_cell? w _ hw153_0)).trans hw153_0), ((HB.out.cell (World.block_lt_of_cell? w _ hw154_0)).trans hw154_0)⟩ (fun hHeld => ?_)
          clear hK K
          refine norm_ (a' := ?_) ?_ ?_
          rotate_left
          ·
           show Act.put _ (some 67) _ = _
           simp only [Act.put, List.setIfInBounds_toArray, List.set_cons_zero, List.set_cons_succ, i64_w, i32_w]
           rfl
          refine pure_ (i := 18) (N := some 10) (v := ?_) (a' := ?_) #[true, true, true, true, true, true, true, true, true, true, true, true, true, true, true, true, true, true, true] rfl rfl (any_of HT_.out (by kernel_rfl)) (fun _ _ _ h => h) (Or.inl ⟨by rfl, ?_⟩) ?_ ?_
          rotate_left
          ·
           intro w'
           go_simp
           with_reducible rfl
          rotate_left
          ·
           simp only [Act.put, List.setIfInBounds_toArray, List.set_cons_zero, List.set_cons_succ, i64_w, i32_w]
           rfl
          refine done_ (done_of HT_.out (by kernel_rfl)) ?_
          try go_wp2
          go_roundg k2
          case measure => have := HJ4.out; have := HK2.out; omega
          case rel => exact ⟨(y155), (wrap64 (qj + 1)), (by first | rfl | (simp; done) | (simp [*]; done)), H', ⟨by have := HJ4.out; have := HK2.out; omega⟩, ⟨by (with_reducible repeat (first | apply Kd.R_alloc | apply Kd.R_drewN | apply Kd.R_drew)); exact QB.out⟩, ⟨kf_ qa⟩, ⟨kf_ qb⟩, ⟨kf_ qc⟩, ⟨bb_ HB⟩⟩
         ·
          rw [if_neg c64] at H
          exact absurd H (by simp)
        ·
         rw [if_neg c63] at H
         exact absurd H (by simp)
       ·
        rw [if_neg c62] at H
        exact absurd H (by simp)
      ·
       rw [if_neg c61] at H
       have QA : decide (qj < (l0_0.length : Int)) = false := decide_eq_false c61
       clear c61
       by_cases c70 : a0_2 = true
       ·
        subst c70
        have H1 : (if a1 > 0 then ((spec_l2Atom.f k2 qm (wrap64 ((wrap64 (a1 * a0_1)) + (wrap64 (a3 * a2_1)))) true).bind fun qE => (some (qE.1, qE.2.1, qE.2.2.1, qE.2.2.2))) else (if a2_2 = true then ((spec_l2Atom.f k2 qm (wrap64 ((wrap64 (a1 * a0_1)) + (wrap64 (a3 * a2_1)))) (decide (a3 > 0))).bind fun qp => (some (qp.1, qp.2.1, qp.2.2.1, qp.2.2.2))) else ((spec_l2Atom.f k2 qm (wrap64 ((wrap64 (a1 * a0_1)) + (wrap64 (a3 * a2_1)))) false).bind fun qq => (some (qq.1, qq.2.1, qq.2.2.1, qq.2.2.2))))) = some (r1, r2, r3, r4) := by rw [if_pos rfl] at H; exact H
        clear H
        have H := H1
        clear H1
        by_cases c71 : a1 > 0
        ·
         rw [if_pos c71] at H
         have QC : decide (0 < a1) = true := decide_eq_true c71
         clear c71
         replace H := Option.bind_eq_some_iff.mp H
         obtain ⟨⟨qY, jD, Qf, QD⟩, A720, H⟩ := H
         replace H : (some (qY, jD, Qf, QD)) = some (r1, r2, r3, r4) := H
         have A72 := Aside0.mk A720
         clear A720
         simp only [Option.some.injEq, Prod.mk.injEq] at H
         obtain ⟨rfl, rfl, rfl, rfl⟩ := H
         have Yi := qk.out
         have Yj := ql.out
         have Yk := qh.out
         have Yl := qi.out
         have Jg : wr.cell? ⟨qd, 0, none⟩ = some (.slice A0_0 l0_0.length c0_0) := bc_ qa 0
         have Jh : wr.cell? ⟨qd, 1, none⟩ = some (.int .i64 a0_1) := bc_ qa 1
         have Ji : wr.cell? ⟨qd, 2, none⟩ = some (.bool true) := bc_ qa 2
         have Jj := blk_frozen qa.out 0
         have Jk := blk_frozen qa.out 1
         have Jl := blk_frozen qa.out 2
         have Ym := qn.out
         have Yn := qo.out
         have Jm : wr.cell? ⟨qe, 0, none⟩ = some (.slice A2_0 l2_0.length c2_0) := bc_ qb 0
         have Jn : wr.cell? ⟨qe, 1, none⟩ = some (.int .i64 a2_1) := bc_ qb 1
         have Jo : wr.cell? ⟨qe, 2, none⟩ = some (.bool a2_2) := bc_ qb 2
         have Jp := blk_frozen qb.out 0
         have Jq := blk_frozen qb.out 1
         have Jr := blk_frozen qb.out 2
         obtain ⟨JU, JV, eo78⟩ := Kd.R_slice qg.out
         subst eo78
         go_wp2_with (first | ((with_reducible refine gate_callee (f := 57) rfl ?_); refine goesL_ (some 93) rfl rfl Try.func57 (by kernel_rfl) rfl #[.slice JU qm.length JV, .int .i64 (wrap64 ((wrap64 (a1 * a0_1)) + (wrap64 (a3 * a2_1)))), .bool true] rfl (by (try simp only [List.map_toArray, List.map_cons, List.map_nil]); first | done | rfl | (simp only [List.length_drop, List.length_take]; rfl)) ?_; (with_reducible refine (spec_l2Atom.calls k2 _ _ qm (wrap64 ((wrap64 (a1 * a0_1)) + (wrap64 (a3 * a2_1)))) true qY jD Qf QD _ ?side1 ?side2 A72.out).mono ?_); (case side1 => exact cr_ qg); (case side2 => exact (Kd.R_reads' qg.out).2.1); rintro e Y3 ⟨YQ, rfl, ho0, hb⟩; refine ⟨_, rfl, ?_⟩; have jx := Aside0.mk (Kd.R_lower (Kd.R_new' ho0 (Kd.R_lt (rm_ qg))) (bz_ HB)); replace qg := Aside0.mk (Kd.R_elder' (rm_ qg) (Kd.R_base ho0) hb); replace qa := kB_ qa hb; replace qb := kB_ qb hb; replace qc := kB_ qc hb; replace HB := bS_ HB hb; (try clear hb); (try clear hb2); (try clear hk); (try clear hi); (try clear ho0)) | ((with_reducible refine gate_dst (N := 12) rfl ?_); (try (refine gate_guard (by rfl) ?_; dsimp only)); refine box_event ?hg (N := 12) ?hd (cs := #[.slice none 0 0, .int .i64 0, .bool false]) (t := 26) ?hr ?_; (case hd => rfl); (case hg => rfl); (case hr => first | (go_simp; done) | (go_simp; rfl)); intro qt hg Qx hbox hb; replace qg := rB_ qg hb; replace jx := rB_ jx hb; have qJ := Aside0.mk (hbox); have Yo := Aside0.mk ((by rw [hg]; exact (bz_ HB) : w.heap.size ≤ qt)); have Yp := Aside0.mk ((by rw [hg]; exact (bz_ HB) : w.heap.size ≤ qt)); replace HB := bS_ HB hb; have jE := Aside0.mk ((nl_ qa hg : qd ≠ qt)); have jF := Aside0.mk ((ng_ qa hg : qt ≠ qd)); replace qa := kB_ qa hb; have jG := Aside0.mk ((nl_ qb hg : qe ≠ qt)); have jH := Aside0.mk ((ng_ qb hg : qt ≠ qe)); replace qb := kB_ qb hb; have qz := Aside0.mk ((nl_ qc hg : qf ≠ qt)); have jI := Aside0.mk ((ng_ qc hg : qt ≠ qf)); replace qc := kB_ qc hb; clear hb hbox hg; obtain ⟨Qg, Qh, eo81⟩ := Kd.R_slice jx.out; subst eo81; have Yq := jF.out; have Yr := jE.out; have Ys := jH.out; have Yt := jG.out; have Yu := jI.out; have Yv := qz.out; have Js : Qx.cell? ⟨qt, 0, none⟩ = some (.slice none 0 0) := bc_ qJ 0; have Jt : Qx.cell? ⟨qt, 1, none⟩ = some (.int .i64 0) := bc_ qJ 1; have Ju : Qx.cell? ⟨qt, 2, none⟩ = some (.bool false) := bc_ qJ 2; have Jv := blk_frozen qJ.out 0; have Jw := blk_frozen qJ.out 1; have Jx := blk_frozen qJ.out 2; have Jy : Qx.cell? ⟨qf, 0, none⟩ = some (.slice none 0 0) := bc_ qc 0; have Jz : Qx.cell? ⟨qf, 1, none⟩ = some (.int .i64 0) := bc_ qc 1; have JA : Qx.cell? ⟨qf, 2, none⟩ = some (.bool false) := bc_ qc 2; have JB := blk_frozen qc.out 0; have JC := blk_frozen qc.out 1; have JD := blk_frozen qc.out 2))
         refine bodyPost_ret (results_ct rfl _ _ qf 26 #[.slice Qg qY.length Qh, .int .i64 jD, .bool Qf] (0, 0) _ rfl (by (with_reducible repeat (first | refine blk_drewN ?_ _ | refine blk_drew ?_ | refine blk_alloc ?_ _)); refine blk_put (cs := #[.slice Qg qY.length Qh, .int .i64 jD, .bool false]) ?_ 2 _ rfl; (with_reducible repeat (first | refine blk_drewN ?_ _ | refine blk_drew ?_ | refine blk_alloc ?_ _)); refine blk_put (cs := #[.slice Qg qY.length Qh, .int .i64 0, .bool false]) ?_ 1 _ rfl; (with_reducible repeat (first | refine blk_drewN ?_ _ | refine blk_drew ?_ | refine blk_alloc ?_ _)); refine blk_put (cs := #[.slice none 0 0, .int .i64 0, .bool false]) ?_ 0 _ rfl; (with_reducible repeat (first | refine blk_drewN ?_ _ | refine blk_drew ?_ | refine blk_alloc ?_ _)); refine blk_far ?_ qz.out _; (with_reducible repeat (first | refine blk_drewN ?_ _ | refine blk_drew ?_ | refine blk_alloc ?_ _)); refine blk_far ?_ qz.out _; (with_reducible repeat (first | refine blk_drewN ?_ _ | refine blk_drew ?_ | refine blk_alloc ?_ _)); refine blk_far ?_ qz.out _; (with_reducible repeat (first | refine blk_drewN ?_ _ | refine blk_drew ?_ | refine blk_alloc ?_ _)); exact qc.out) Try.underlying26 rfl (by kernel_rfl)) rfl ?_
         exact ⟨_, by first | rfl | (simp [errW_none, errW_some] <;> rfl) | (simp [*, errW_none, errW_some] <;> rfl), by (with_reducible repeat (first | apply Kd.R_alloc | apply Kd.R_drewN | apply Kd.R_drew)); exact Kd.R_mono (Kd.R_far (p := ⟨qf, 2, none⟩) (Kd.R_far (p := ⟨qf, 1, none⟩) (Kd.R_far (p := ⟨qf, 0, none⟩) (Kd.R_far (p := ⟨qt, 2, none⟩) (Kd.R_far (p := ⟨qt, 1, none⟩) (Kd.R_far (p := ⟨qt, 0, none⟩) (Kd.R_types (Kd.R_types jx.out qJ.out (by decide)) qc.out (by decide)) (fun _ hk => hk.1.2) (.slice Qg qY.length Qh)) (fun _ hk => hk.1.2) (.int .i64 jD)) (fun _ hk => hk.1.2) (.bool Qf)) (fun _ hk => hk.2) (.slice Qg qY.length Qh)) (fun _ hk => hk.2) (.int .i64 jD)) (fun _ hk => hk.2) (.bool Qf)) (fun _ hk => trivial), bb_ HB⟩
        ·
         rw [if_neg c71] at H
         have QC : decide (0 < a1) = false := decide_eq_false c71
         clear c71
         by_cases c87 : a2_2 = true
         ·
          subst c87
          have H1 : ((spec_l2Atom.f k2 qm (wrap64 ((wrap64 (a1 * a0_1)) + (wrap64 (a3 * a2_1)))) (decide (a3 > 0))).bind fun qp => (some (qp.1, qp.2.1, qp.2.2.1, qp.2.2.2))) = some (r1, r2, r3, r4) := by rw [if_pos rfl] at H; exact H
          clear H
          have H := H1
          clear H1
          replace H := Option.bind_eq_some_iff.mp H
          obtain ⟨⟨qZ, jJ, Qi, QE⟩, A880, H⟩ := H
          replace H : (some (qZ, jJ, Qi, QE)) = some (r1, r2, r3, r4) := H
          have A88 := Aside0.mk A880
          clear A880
          simp only [Option.some.injEq, Prod.mk.injEq] at H
          obtain ⟨rfl, rfl, rfl, rfl⟩ := H
          have Yw := qk.out
          have Yx := ql.out
          have Yy := qh.out
          have Yz := qi.out
          have JE : wr.cell? ⟨qd, 0, none⟩ = some (.slice A0_0 l0_0.length c0_0) := bc_ qa 0
          have JF : wr.cell? ⟨qd, 1, none⟩ = some (.int .i64 a0_1) := bc_ qa 1
          have JG : wr.cell? ⟨qd, 2, none⟩ = some (.bool true) := bc_ qa 2
          have JH := blk_frozen qa.out 0
          have JI := blk_frozen qa.out 1
          have JJ := blk_frozen qa.out 2
          have YA := qn.out
          have YB := qo.out
          have JK : wr.cell? ⟨qe, 0, none⟩ = some (.slice A2_0 l2_0.length c2_0) := bc_ qb 0
          have JL : wr.cell? ⟨qe, 1, none⟩ = some (.int .i64 a2_1) := bc_ qb 1
          have JM : wr.cell? ⟨qe, 2, none⟩ = some (.bool true) := bc_ qb 2
          have JN := blk_frozen qb.out 0
          have JO := blk_frozen qb.out 1
          have JP := blk_frozen qb.out 2
          obtain ⟨JW, JX, eo94⟩ := Kd.R_slice qg.out
          subst eo94
          go_wp2_with (first | ((with_reducible refine gate_callee (f := 57) rfl ?_); refine goesL_ (some 93) rfl rfl Try.func57 (by kernel_rfl) rfl #[.slice JW qm.length JX, .int .i64 (wrap64 ((wrap64 (a1 * a0_1)) + (wrap64 (a3 * a2_1)))), .bool (decide (a3 > 0))] rfl (by (try simp only [List.map_toArray, List.map_cons, List.map_nil]); first | done | rfl | (simp only [List.length_drop, List.length_take]; rfl)) ?_; (with_reducible refine (spec_l2Atom.calls k2 _ _ qm (wrap64 ((wrap64 (a1 * a0_1)) + (wrap64 (a3 * a2_1)))) (decide (a3 > 0)) qZ jJ Qi QE _ ?side1 ?side2 A88.out).mono ?_); (case side1 => exact cr_ qg); (case side2 => exact (Kd.R_reads' qg.out).2.1); rintro e Y4 ⟨YR, rfl, ho0, hb⟩; refine ⟨_, rfl, ?_⟩; have jy := Aside0.mk (Kd.R_lower (Kd.R_new' ho0 (Kd.R_lt (rm_ qg))) (bz_ HB)); replace qg := Aside0.mk (Kd.R_elder' (rm_ qg) (Kd.R_base ho0) hb); replace qa := kB_ qa hb; replace qb := kB_ qb hb; replace qc := kB_ qc hb; replace HB := bS_ HB hb; (try clear hb); (try clear hb2); (try clear hk); (try clear hi); (try clear ho0)) | ((with_reducible refine gate_dst (N := 12) rfl ?_); (try (refine gate_guard (by rfl) ?_; dsimp only)); refine box_event ?hg (N := 12) ?hd (cs := #[.slice none 0 0, .int .i64 0, .bool false]) (t := 26) ?hr ?_; (case hd => rfl); (case hg => rfl); (case hr => first | (go_simp; done) | (go_simp; rfl)); intro qu hg Qy hbox hb; replace qg := rB_ qg hb; replace jy := rB_ jy hb; have qK := Aside0.mk (hbox); have YC := Aside0.mk ((by rw [hg]; exact (bz_ HB) : w.heap.size ≤ qu)); have YD := Aside0.mk ((by rw [hg]; exact (bz_ HB) : w.heap.size ≤ qu)); replace HB := bS_ HB hb; have jK := Aside0.mk ((nl_ qa hg : qd ≠ qu)); have jL := Aside0.mk ((ng_ qa hg : qu ≠ qd)); replace qa := kB_ qa hb; have jM := Aside0.mk ((nl_ qb hg : qe ≠ qu)); have jN := Aside0.mk ((ng_ qb hg : qu ≠ qe)); replace qb := kB_ qb hb; have qA := Aside0.mk ((nl_ qc hg : qf ≠ qu)); have jO := Aside0.mk ((ng_ qc hg : qu ≠ qf)); replace qc := kB_ qc hb; clear hb hbox hg; obtain ⟨Qj, Qk, eo97⟩ := Kd.R_slice jy.out; subst eo97; have YE := jL.out; have YF := jK.out; have YG := jN.out; have YH := jM.out; have JY := jO.out; have JZ := qA.out; have QF : Qy.cell? ⟨qu, 0, none⟩ = some (.slice none 0 0) := bc_ qK 0; have QG : Qy.cell? ⟨qu, 1, none⟩ = some (.int .i64 0) := bc_ qK 1; have QH : Qy.cell? ⟨qu, 2, none⟩ = some (.bool false) := bc_ qK 2; have QI := blk_frozen qK.out 0; have QJ := blk_frozen qK.out 1; have QK := blk_frozen qK.out 2; have QL : Qy.cell? ⟨qf, 0, none⟩ = some (.slice none 0 0) := bc_ qc 0; have QM : Qy.cell? ⟨qf, 1, none⟩ = some (.int .i64 0) := bc_ qc 1; have QN : Qy.cell? ⟨qf, 2, none⟩ = some (.bool false) := bc_ qc 2; have QO := blk_frozen qc.out 0; have QP := blk_frozen qc.out 1; have QQ := blk_frozen qc.out 2))
          refine bodyPost_ret (results_ct rfl _ _ qf 26 #[.slice Qj qZ.length Qk, .int .i64 jJ, .bool Qi] (0, 0) _ rfl (by (with_reducible repeat (first | refine blk_drewN ?_ _ | refine blk_drew ?_ | refine blk_alloc ?_ _)); refine blk_put (cs := #[.slice Qj qZ.length Qk, .int .i64 jJ, .bool false]) ?_ 2 _ rfl; (with_reducible repeat (first | refine blk_drewN ?_ _ | refine blk_drew ?_ | refine blk_alloc ?_ _)); refine blk_put (cs := #[.slice Qj qZ.length Qk, .int .i64 0, .bool false]) ?_ 1 _ rfl; (with_reducible repeat (first | refine blk_drewN ?_ _ | refine blk_drew ?_ | refine blk_alloc ?_ _)); refine blk_put (cs := #[.slice none 0 0, .int .i64 0, .bool false]) ?_ 0 _ rfl; (with_reducible repeat (first | refine blk_drewN ?_ _ | refine blk_drew ?_ | refine blk_alloc ?_ _)); refine blk_far ?_ qA.out _; (with_reducible repeat (first | refine blk_drewN ?_ _ | refine blk_drew ?_ | refine blk_alloc ?_ _)); refine blk_far ?_ qA.out _; (with_reducible repeat (first | refine blk_drewN ?_ _ | refine blk_drew ?_ | refine blk_alloc ?_ _)); refine blk_far ?_ qA.out _; (with_reducible repeat (first | refine blk_drewN ?_ _ | refine blk_drew ?_ | refine blk_alloc ?_ _)); exact qc.out) Try.underlying26 rfl (by kernel_rfl)) rfl ?_
          exact ⟨_, by first | rfl | (simp [errW_none, errW_some] <;> rfl) | (simp [*, errW_none, errW_some] <;> rfl), by (with_reducible repeat (first | apply Kd.R_alloc | apply Kd.R_drewN | apply Kd.R_drew)); exact Kd.R_mono (Kd.R_far (p := ⟨qf, 2, none⟩) (Kd.R_far (p := ⟨qf, 1, none⟩) (Kd.R_far (p := ⟨qf, 0, none⟩) (Kd.R_far (p := ⟨qu, 2, none⟩) (Kd.R_far (p := ⟨qu, 1, none⟩) (Kd.R_far (p := ⟨qu, 0, none⟩) (Kd.R_types (Kd.R_types jy.out qK.out (by decide)) qc.out (by decide)) (fun _ hk => hk.1.2) (.slice Qj qZ.length Qk)) (fun _ hk => hk.1.2) (.int .i64 jJ)) (fun _ hk => hk.1.2) (.bool Qi)) (fun _ hk => hk.2) (.slice Qj qZ.length Qk)) (fun _ hk => hk.2) (.int .i64 jJ)) (fun _ hk => hk.2) (.bool Qi)) (fun _ hk => trivial), bb_ HB⟩
         ·
          replace c87 := Bool.eq_false_iff.mpr c87
          subst c87
          have H1 : ((spec_l2Atom.f k2 qm (wrap64 ((wrap64 (a1 * a0_1)) + (wrap64 (a3 * a2_1)))) false).bind fun qq => (some (qq.1, qq.2.1, qq.2.2.1, qq.2.2.2))) = some (r1, r2, r3, r4) := by rw [if_neg (show ¬ (false = true) by decide)] at H; exact H
          clear H
          have H := H1
          clear H1
          replace H := Option.bind_eq_some_iff.mp H
          obtain ⟨⟨q0, jP, Ql, QR⟩, A1030, H⟩ := H
          replace H : (some (q0, jP, Ql, QR)) = some (r1, r2, r3, r4) := H
          have A103 := Aside0.mk A1030
          clear A1030
          simp only [Option.some.injEq, Prod.mk.injEq] at H
          obtain ⟨rfl, rfl, rfl, rfl⟩ := H
          have J0 := qk.out
          have J1 := ql.out
          have J2 := qh.out
          have J3 := qi.out
          have QS : wr.cell? ⟨qd, 0, none⟩ = some (.slice A0_0 l0_0.length c0_0) := bc_ qa 0
          have QT : wr.cell? ⟨qd, 1, none⟩ = some (.int .i64 a0_1) := bc_ qa 1
          have QU : wr.cell? ⟨qd, 2, none⟩ = some (.bool true) := bc_ qa 2
          have QV := blk_frozen qa.out 0
          have QW := blk_frozen qa.out 1
          have QX := blk_frozen qa.out 2
          have J4 := qn.out
          have J5 := qo.out
          have QY : wr.cell? ⟨qe, 0, none⟩ = some (.slice A2_0 l2_0.length c2_0) := bc_ qb 0
          have QZ : wr.cell? ⟨qe, 1, none⟩ = some (.int .i64 a2_1) := bc_ qb 1
          have Q0 : wr.cell? ⟨qe, 2, none⟩ = some (.bool false) := bc_ qb 2
          have Q1 := blk_frozen qb.out 0
          have Q2 := blk_frozen qb.out 1
          have Q3 := blk_frozen qb.out 2
          obtain ⟨Q4, Q5, eo109⟩ := Kd.R_slice qg.out
          subst eo109
          go_wp2_with (first | ((with_reducible refine gate_callee (f := 57) rfl ?_); refine goesL_ (some 93) rfl rfl Try.func57 (by kernel_rfl) rfl #[.slice Q4 qm.length Q5, .int .i64 (wrap64 ((wrap64 (a1 * a0_1)) + (wrap64 (a3 * a2_1)))), .bool false] rfl (by (try simp only [List.map_toArray, List.map_cons, List.map_nil]); first | done | rfl | (simp only [List.length_drop, List.length_take]; rfl)) ?_; (with_reducible refine (spec_l2Atom.calls k2 _ _ qm (wrap64 ((wrap64 (a1 * a0_1)) + (wrap64 (a3 * a2_1)))) false q0 jP Ql QR _ ?side1 ?side2 A103.out).mono ?_); (case side1 => exact cr_ qg); (case side2 => exact (Kd.R_reads' qg.out).2.1); rintro e YS ⟨YT, rfl, ho0, hb⟩; refine ⟨_, rfl, ?_⟩; have jz := Aside0.mk (Kd.R_lower (Kd.R_new' ho0 (Kd.R_lt (rm_ qg))) (bz_ HB)); replace qg := Aside0.mk (Kd.R_elder' (rm_ qg) (Kd.R_base ho0) hb); replace qa := kB_ qa hb; replace qb := kB_ qb hb; replace qc := kB_ qc hb; replace HB := bS_ HB hb; (try clear hb); (try clear hb2); (try clear hk); (try clear hi); (try clear ho0)) | ((with_reducible refine gate_dst (N := 12) rfl ?_); (try (refine gate_guard (by rfl) ?_; dsimp only)); refine box_event ?hg (N := 12) ?hd (cs := #[.slice none 0 0, .int .i64 0, .bool false]) (t := 26) ?hr ?_; (case hd => rfl); (case hg => rfl); (case hr => first | (go_simp; done) | (go_simp; rfl)); intro qv hg jQ hbox hb; replace qg := rB_ qg hb; replace jz := rB_ jz hb; have qL := Aside0.mk (hbox); have YI := Aside0.mk ((by rw [hg]; exact (bz_ HB) : w.heap.size ≤ qv)); have YJ := Aside0.mk ((by rw [hg]; exact (bz_ HB) : w.heap.size ≤ qv)); replace HB := bS_ HB hb; have jR := Aside0.mk ((nl_ qa hg : qd ≠ qv)); have jS := Aside0.mk ((ng_ qa hg : qv ≠ qd)); replace qa := kB_ qa hb; have jT := Aside0.mk ((nl_ qb hg : qe ≠ qv)); have jU := Aside0.mk ((ng_ qb hg : qv ≠ qe)); replace qb := kB_ qb hb; have qB := Aside0.mk ((nl_ qc hg : qf ≠ qv)); have jV := Aside0.mk ((ng_ qc hg : qv ≠ qf)); replace qc := kB_ qc hb; clear hb hbox hg; obtain ⟨qS, qT, eo112⟩ := Kd.R_slice jz.out; subst eo112; have J6 := jS.out; have J7 := jR.out; have J8 := jU.out; have J9 := jT.out; have Xa := jV.out; have Xb := qB.out; have Q6 : jQ.cell? ⟨qv, 0, none⟩ = some (.slice none 0 0) := bc_ qL 0; have Q7 : jQ.cell? ⟨qv, 1, none⟩ = some (.int .i64 0) := bc_ qL 1; have Q8 : jQ.cell? ⟨qv, 2, none⟩ = some (.bool false) := bc_ qL 2; have Q9 := blk_frozen qL.out 0; have Za := blk_frozen qL.out 1; have Zb := blk_frozen qL.out 2; have Zc : jQ.cell? ⟨qf, 0, none⟩ = some (.slice none 0 0) := bc_ qc 0; have Zd : jQ.cell? ⟨qf, 1, none⟩ = some (.int .i64 0) := bc_ qc 1; have Ze : jQ.cell? ⟨qf, 2, none⟩ = some (.bool false) := bc_ qc 2; have Zf := blk_frozen qc.out 0; have Zg := blk_frozen qc.out 1; have Zh := blk_frozen qc.out 2))
          refine bodyPost_ret (results_ct rfl _ _ qf 26 #[.slice qS q0.length qT, .int .i64 jP, .bool Ql] (0, 0) _ rfl (by (with_reducible repeat (first | refine blk_drewN ?_ _ | refine blk_drew ?_ | refine blk_alloc ?_ _)); refine blk_put (cs := #[.slice qS q0.length qT, .int .i64 jP, .bool false]) ?_ 2 _ rfl; (with_reducible repeat (first | refine blk_drewN ?_ _ | refine blk_drew ?_ | refine blk_alloc ?_ _)); refine blk_put (cs := #[.slice qS q0.length qT, .int .i64 0, .bool false]) ?_ 1 _ rfl; (with_reducible repeat (first | refine blk_drewN ?_ _ | refine blk_drew ?_ | refine blk_alloc ?_ _)); refine blk_put (cs := #[.slice none 0 0, .int .i64 0, .bool false]) ?_ 0 _ rfl; (with_reducible repeat (first | refine blk_drewN ?_ _ | refine blk_drew ?_ | refine blk_alloc ?_ _)); refine blk_far ?_ qB.out _; (with_reducible repeat (first | refine blk_drewN ?_ _ | refine blk_drew ?_ | refine blk_alloc ?_ _)); refine blk_far ?_ qB.out _; (with_reducible repeat (first | refine blk_drewN ?_ _ | refine blk_drew ?_ | refine blk_alloc ?_ _)); refine blk_far ?_ qB.out _; (with_reducible repeat (first | refine blk_drewN ?_ _ | refine blk_drew ?_ | refine blk_alloc ?_ _)); exact qc.out) Try.underlying26 rfl (by kernel_rfl)) rfl ?_
          exact ⟨_, by first | rfl | (simp [errW_none, errW_some] <;> rfl) | (simp [*, errW_none, errW_some] <;> rfl), by (with_reducible repeat (first | apply Kd.R_alloc | apply Kd.R_drewN | apply Kd.R_drew)); exact Kd.R_mono (Kd.R_far (p := ⟨qf, 2, none⟩) (Kd.R_far (p := ⟨qf, 1, none⟩) (Kd.R_far (p := ⟨qf, 0, none⟩) (Kd.R_far (p := ⟨qv, 2, none⟩) (Kd.R_far (p := ⟨qv, 1, none⟩) (Kd.R_far (p := ⟨qv, 0, none⟩) (Kd.R_types (Kd.R_types jz.out qL.out (by decide)) qc.out (by decide)) (fun _ hk => hk.1.2) (.slice qS q0.length qT)) (fun _ hk => hk.1.2) (.int .i64 jP)) (fun _ hk => hk.1.2) (.bool Ql)) (fun _ hk => hk.2) (.slice qS q0.length qT)) (fun _ hk => hk.2) (.int .i64 jP)) (fun _ hk => hk.2) (.bool Ql)) (fun _ hk => trivial), bb_ HB⟩
       ·
        replace c70 := Bool.eq_false_iff.mpr c70
        subst c70
        have H1 : (if a2_2 = true then ((spec_l2Atom.f k2 qm (wrap64 ((wrap64 (a1 * a0_1)) + (wrap64 (a3 * a2_1)))) (decide (a3 > 0))).bind fun qr => (some (qr.1, qr.2.1, qr.2.2.1, qr.2.2.2))) else ((spec_l2Atom.f k2 qm (wrap64 ((wrap64 (a1 * a0_1)) + (wrap64 (a3 * a2_1)))) false).bind fun qs => (some (qs.1, qs.2.1, qs.2.2.1, qs.2.2.2)))) = some (r1, r2, r3, r4) := by rw [if_neg (show ¬ (false = true) by decide)] at H; exact H
        clear H
        have H := H1
        clear H1
        by_cases c118 : a2_2 = true
        ·
         subst c118
         have H1 : ((spec_l2Atom.f k2 qm (wrap64 ((wrap64 (a1 * a0_1)) + (wrap64 (a3 * a2_1)))) (decide (a3 > 0))).bind fun qr => (some (qr.1, qr.2.1, qr.2.2.1, qr.2.2.2))) = some (r1, r2, r3, r4) := by rw [if_pos rfl] at H; exact H
         clear H
         have H := H1
         clear H1
         replace H := Option.bind_eq_some_iff.mp H
         obtain ⟨⟨q1, jW, Qm, Zi⟩, A1190, H⟩ := H
         replace H : (some (q1, jW, Qm, Zi)) = some (r1, r2, r3, r4) := H
         have A119 := Aside0.mk A1190
         clear A1190
         simp only [Option.some.injEq, Prod.mk.injEq] at H
         obtain ⟨rfl, rfl, rfl, rfl⟩ := H
         have Xc := qk.out
         have Xd := ql.out
         have Xe := qh.out
         have Xf := qi.out
         have Zj : wr.cell? ⟨qd, 0, none⟩ = some (.slice A0_0 l0_0.length c0_0) := bc_ qa 0
         have Zk : wr.cell? ⟨qd, 1, none⟩ = some (.int .i64 a0_1) := bc_ qa 1
         have Zl : wr.cell? ⟨qd, 2, none⟩ = some (.bool false) := bc_ qa 2
         have Zm := blk_frozen qa.out 0
         have Zn := blk_frozen qa.out 1
         have Zo := blk_frozen qa.out 2
         have Xg := qn.out
         have Xh := qo.out
         have Zp : wr.cell? ⟨qe, 0, none⟩ = some (.slice A2_0 l2_0.length c2_0) := bc_ qb 0
         have Zq : wr.cell? ⟨qe, 1, none⟩ = some (.int .i64 a2_1) := bc_ qb 1
         have Zr : wr.cell? ⟨qe, 2, none⟩ = some (.bool true) := bc_ qb 2
         have Zs := blk_frozen qb.out 0
         have Zt := blk_frozen qb.out 1
         have Zu := blk_frozen qb.out 2
         obtain ⟨Zv, Zw, eo125⟩ := Kd.R_slice qg.out
         subst eo125
         go_wp2_with (first | ((with_reducible refine gate_callee (f := 57) rfl ?_); refine goesL_ (some 93) rfl rfl Try.func57 (by kernel_rfl) rfl #[.slice Zv qm.length Zw, .int .i64 (wrap64 ((wrap64 (a1 * a0_1)) + (wrap64 (a3 * a2_1)))), .bool (decide (a3 > 0))] rfl (by (try simp only [List.map_toArray, List.map_cons, List.map_nil]); first | done | rfl | (simp only [List.length_drop, List.length_take]; rfl)) ?_; (with_reducible refine (spec_l2Atom.calls k2 _ _ qm (wrap64 ((wrap64 (a1 * a0_1)) + (wrap64 (a3 * a2_1)))) (decide (a3 > 0)) q1 jW Qm Zi _ ?side1 ?side2 A119.out).mono ?_); (case side1 => exact cr_ qg); (case side2 => exact (Kd.R_reads' qg.out).2.1); rintro e YU ⟨YV, rfl, ho0, hb⟩; refine ⟨_, rfl, ?_⟩; have jA := Aside0.mk (Kd.R_lower (Kd.R_new' ho0 (Kd.R_lt (rm_ qg))) (bz_ HB)); replace qg := Aside0.mk (Kd.R_elder' (rm_ qg) (Kd.R_base ho0) hb); replace qa := kB_ qa hb; replace qb := kB_ qb hb; replace qc := kB_ qc hb; replace HB := bS_ HB hb; (try clear hb); (try clear hb2); (try clear hk); (try clear hi); (try clear ho0)) | ((with_reducible refine gate_dst (N := 12) rfl ?_); (try (refine gate_guard (by rfl) ?_; dsimp only)); refine box_event ?hg (N := 12) ?hd (cs := #[.slice none 0 0, .int .i64 0, .bool false]) (t := 26) ?hr ?_; (case hd => rfl); (case hg => rfl); (case hr => first | (go_simp; done) | (go_simp; rfl)); intro qw hg jX hbox hb; replace qg := rB_ qg hb; replace jA := rB_ jA hb; have qM := Aside0.mk (hbox); have YK := Aside0.mk ((by rw [hg]; exact (bz_ HB) : w.heap.size ≤ qw)); have YL := Aside0.mk ((by rw [hg]; exact (bz_ HB) : w.heap.size ≤ qw)); replace HB := bS_ HB hb; have jY := Aside0.mk ((nl_ qa hg : qd ≠ qw)); have jZ := Aside0.mk ((ng_ qa hg : qw ≠ qd)); replace qa := kB_ qa hb; have j1 := Aside0.mk ((nl_ qb hg : qe ≠ qw)); have j2 := Aside0.mk ((ng_ qb hg : qw ≠ qe)); replace qb := kB_ qb hb; have qC := Aside0.mk ((nl_ qc hg : qf ≠ qw)); have j3 := Aside0.mk ((ng_ qc hg : qw ≠ qf)); replace qc := kB_ qc hb; clear hb hbox hg; obtain ⟨qU, qV, eo128⟩ := Kd.R_slice jA.out; subst eo128; have Xi := jZ.out; have Xj := jY.out; have Xk := j2.out; have Xl := j1.out; have Xm := j3.out; have Xn := qC.out; have Zx : jX.cell? ⟨qw, 0, none⟩ = some (.slice none 0 0) := bc_ qM 0; have Zy : jX.cell? ⟨qw, 1, none⟩ = some (.int .i64 0) := bc_ qM 1; have Zz : jX.cell? ⟨qw, 2, none⟩ = some (.bool false) := bc_ qM 2; have ZA := blk_frozen qM.out 0; have ZB := blk_frozen qM.out 1; have ZC := blk_frozen qM.out 2; have ZD : jX.cell? ⟨qf, 0, none⟩ = some (.slice none 0 0) := bc_ qc 0; have ZE : jX.cell? ⟨qf, 1, none⟩ = some (.int .i64 0) := bc_ qc 1; have ZF : jX.cell? ⟨qf, 2, none⟩ = some (.bool false) := bc_ qc 2; have ZG := blk_frozen qc.out 0; have ZH := blk_frozen qc.out 1; have ZI := blk_frozen qc.out 2))
         refine bodyPost_ret (results_ct rfl _ _ qf 26 #[.slice qU q1.length qV, .int .i64 jW, .bool Qm] (0, 0) _ rfl (by (with_reducible repeat (first | refine blk_drewN ?_ _ | refine blk_drew ?_ | refine blk_alloc ?_ _)); refine blk_put (cs := #[.slice qU q1.length qV, .int .i64 jW, .bool false]) ?_ 2 _ rfl; (with_reducible repeat (first | refine blk_drewN ?_ _ | refine blk_drew ?_ | refine blk_alloc ?_ _)); refine blk_put (cs := #[.slice qU q1.length qV, .int .i64 0, .bool false]) ?_ 1 _ rfl; (with_reducible repeat (first | refine blk_drewN ?_ _ | refine blk_drew ?_ | refine blk_alloc ?_ _)); refine blk_put (cs := #[.slice none 0 0, .int .i64 0, .bool false]) ?_ 0 _ rfl; (with_reducible repeat (first | refine blk_drewN ?_ _ | refine blk_drew ?_ | refine blk_alloc ?_ _)); refine blk_far ?_ qC.out _; (with_reducible repeat (first | refine blk_drewN ?_ _ | refine blk_drew ?_ | refine blk_alloc ?_ _)); refine blk_far ?_ qC.out _; (with_reducible repeat (first | refine blk_drewN ?_ _ | refine blk_drew ?_ | refine blk_alloc ?_ _)); refine blk_far ?_ qC.out _; (with_reducible repeat (first | refine blk_drewN ?_ _ | refine blk_drew ?_ | refine blk_alloc ?_ _)); exact qc.out) Try.underlying26 rfl (by kernel_rfl)) rfl ?_
         exact ⟨_, by first | rfl | (simp [errW_none, errW_some] <;> rfl) | (simp [*, errW_none, errW_some] <;> rfl), by (with_reducible repeat (first | apply Kd.R_alloc | apply Kd.R_drewN | apply Kd.R_drew)); exact Kd.R_mono (Kd.R_far (p := ⟨qf, 2, none⟩) (Kd.R_far (p := ⟨qf, 1, none⟩) (Kd.R_far (p := ⟨qf, 0, none⟩) (Kd.R_far (p := ⟨qw, 2, none⟩) (Kd.R_far (p := ⟨qw, 1, none⟩) (Kd.R_far (p := ⟨qw, 0, none⟩) (Kd.R_types (Kd.R_types jA.out qM.out (by decide)) qc.out (by decide)) (fun _ hk => hk.1.2) (.slice qU q1.length qV)) (fun _ hk => hk.1.2) (.int .i64 jW)) (fun _ hk => hk.1.2) (.bool Qm)) (fun _ hk => hk.2) (.slice qU q1.length qV)) (fun _ hk => hk.2) (.int .i64 jW)) (fun _ hk => hk.2) (.bool Qm)) (fun _ hk => trivial), bb_ HB⟩
        ·
         replace c118 := Bool.eq_false_iff.mpr c118
         subst c118
         have H1 : ((spec_l2Atom.f k2 qm (wrap64 ((wrap64 (a1 * a0_1)) + (wrap64 (a3 * a2_1)))) false).bind fun qs => (some (qs.1, qs.2.1, qs.2.2.1, qs.2.2.2))) = some (r1, r2, r3, r4) := by rw [if_neg (show ¬ (false = true) by decide)] at H; exact H
         clear H
         have H := H1
         clear H1
         replace H := Option.bind_eq_some_iff.mp H
         obtain ⟨⟨q2, j4, Qn, ZJ⟩, A1340, H⟩ := H
         replace H : (some (q2, j4, Qn, ZJ)) = some (r1, r2, r3, r4) := H
         have A134 := Aside0.mk A1340
         clear A1340
         simp only [Option.some.injEq, Prod.mk.injEq] at H
         obtain ⟨rfl, rfl, rfl, rfl⟩ := H
         have Xo := qk.out
         have Xp := ql.out
         have Xq := qh.out
         have Xr := qi.out
         have ZK : wr.cell? ⟨qd, 0, none⟩ = some (.slice A0_0 l0_0.length c0_0) := bc_ qa 0
         have ZL : wr.cell? ⟨qd, 1, none⟩ = some (.int .i64 a0_1) := bc_ qa 1
         have ZM : wr.cell? ⟨qd, 2, none⟩ = some (.bool false) := bc_ qa 2
         have ZN := blk_frozen qa.out 0
         have ZO := blk_frozen qa.out 1
         have ZP := blk_frozen qa.out 2
         have Xs := qn.out
         have Xt := qo.out
         have ZQ : wr.cell? ⟨qe, 0, none⟩ = some (.slice A2_0 l2_0.length c2_0) := bc_ qb 0
         have ZR : wr.cell? ⟨qe, 1, none⟩ = some (.int .i64 a2_1) := bc_ qb 1
         have ZS : wr.cell? ⟨qe, 2, none⟩ = some (.bool false) := bc_ qb 2
         have ZT := blk_frozen qb.out 0
         have ZU := blk_frozen qb.out 1
         have ZV := blk_frozen qb.out 2
         obtain ⟨ZW, ZX, eo140⟩ := Kd.R_slice qg.out
         subst eo140
         go_wp2_with (first | ((with_reducible refine gate_callee (f := 57) rfl ?_); refine goesL_ (some 93) rfl rfl Try.func57 (by kernel_rfl) rfl #[.slice ZW qm.length ZX, .int .i64 (wrap64 ((wrap64 (a1 * a0_1)) + (wrap64 (a3 * a2_1)))), .bool false] rfl (by (try simp only [List.map_toArray, List.map_cons, List.map_nil]); first | done | rfl | (simp only [List.length_drop, List.length_take]; rfl)) ?_; (with_reducible refine (spec_l2Atom.calls k2 _ _ qm (wrap64 ((wrap64 (a1 * a0_1)) + (wrap64 (a3 * a2_1)))) false q2 j4 Qn ZJ _ ?side1 ?side2 A134.out).mono ?_); (case side1 => exact cr_ qg); (case side2 => exact (Kd.R_reads' qg.out).2.1); rintro e YW ⟨YX, rfl, ho0, hb⟩; refine ⟨_, rfl, ?_⟩; have jB := Aside0.mk (Kd.R_lower (Kd.R_new' ho0 (Kd.R_lt (rm_ qg))) (bz_ HB)); replace qg := Aside0.mk (Kd.R_elder' (rm_ qg) (Kd.R_base ho0) hb); replace qa := kB_ qa hb; replace qb := kB_ qb hb; replace qc := kB_ qc hb; replace HB := bS_ HB hb; (try clear hb); (try clear hb2); (try clear hk); (try clear hi); (try clear ho0)) | ((with_reducible refine gate_dst (N := 12) rfl ?_); (try (refine gate_guard (by rfl) ?_; dsimp only)); refine box_event ?hg (N := 12) ?hd (cs := #[.slice none 0 0, .int .i64 0, .bool false]) (t := 26) ?hr ?_; (case hd => rfl); (case hg => rfl); (case hr => first | (go_simp; done) | (go_simp; rfl)); intro qx hg j5 hbox hb; replace qg := rB_ qg hb; replace jB := rB_ jB hb; have qN := Aside0.mk (hbox); have YM := Aside0.mk ((by rw [hg]; exact (bz_ HB) : w.heap.size ≤ qx)); have YN := Aside0.mk ((by rw [hg]; exact (bz_ HB) : w.heap.size ≤ qx)); replace HB := bS_ HB hb; have j6 := Aside0.mk ((nl_ qa hg : qd ≠ qx)); have j7 := Aside0.mk ((ng_ qa hg : qx ≠ qd)); replace qa := kB_ qa hb; have j8 := Aside0.mk ((nl_ qb hg : qe ≠ qx)); have j9 := Aside0.mk ((ng_ qb hg : qx ≠ qe)); replace qb := kB_ qb hb; have qD := Aside0.mk ((nl_ qc hg : qf ≠ qx)); have Qa := Aside0.mk ((ng_ qc hg : qx ≠ qf)); replace qc := kB_ qc hb; clear hb hbox hg; obtain ⟨qW, qX, eo143⟩ := Kd.R_slice jB.out; subst eo143; have Xu := j7.out; have Xv := j6.out; have Xw := j9.out; have Xx := j8.out; have Xy := Qa.out; have Xz := qD.out; have ZY : j5.cell? ⟨qx, 0, none⟩ = some (.slice none 0 0) := bc_ qN 0; have ZZ : j5.cell? ⟨qx, 1, none⟩ = some (.int .i64 0) := bc_ qN 1; have Z0 : j5.cell? ⟨qx, 2, none⟩ = some (.bool false) := bc_ qN 2; have Z1 := blk_frozen qN.out 0; have Z2 := blk_frozen qN.out 1; have Z3 := blk_frozen qN.out 2; have Z4 : j5.cell? ⟨qf, 0, none⟩ = some (.slice none 0 0) := bc_ qc 0; have Z5 : j5.cell? ⟨qf, 1, none⟩ = some (.int .i64 0) := bc_ qc 1; have Z6 : j5.cell? ⟨qf, 2, none⟩ = some (.bool false) := bc_ qc 2; have Z7 := blk_frozen qc.out 0; have Z8 := blk_frozen qc.out 1; have Z9 := blk_frozen qc.out 2))
         refine bodyPost_ret (results_ct rfl _ _ qf 26 #[.slice qW q2.length qX, .int .i64 j4, .bool Qn] (0, 0) _ rfl (by (with_reducible repeat (first | refine blk_drewN ?_ _ | refine blk_drew ?_ | refine blk_alloc ?_ _)); refine blk_put (cs := #[.slice qW q2.length qX, .int .i64 j4, .bool false]) ?_ 2 _ rfl; (with_reducible repeat (first | refine blk_drewN ?_ _ | refine blk_drew ?_ | refine blk_alloc ?_ _)); refine blk_put (cs := #[.slice qW q2.length qX, .int .i64 0, .bool false]) ?_ 1 _ rfl; (with_reducible repeat (first | refine blk_drewN ?_ _ | refine blk_drew ?_ | refine blk_alloc ?_ _)); refine blk_put (cs := #[.slice none 0 0, .int .i64 0, .bool false]) ?_ 0 _ rfl; (with_reducible repeat (first | refine blk_drewN ?_ _ | refine blk_drew ?_ | refine blk_alloc ?_ _)); refine blk_far ?_ qD.out _; (with_reducible repeat (first | refine blk_drewN ?_ _ | refine blk_drew ?_ | refine blk_alloc ?_ _)); refine blk_far ?_ qD.out _; (with_reducible repeat (first | refine blk_drewN ?_ _ | refine blk_drew ?_ | refine blk_alloc ?_ _)); refine blk_far ?_ qD.out _; (with_reducible repeat (first | refine blk_drewN ?_ _ | refine blk_drew ?_ | refine blk_alloc ?_ _)); exact qc.out) Try.underlying26 rfl (by kernel_rfl)) rfl ?_
         exact ⟨_, by first | rfl | (simp [errW_none, errW_some] <;> rfl) | (simp [*, errW_none, errW_some] <;> rfl), by (with_reducible repeat (first | apply Kd.R_alloc | apply Kd.R_drewN | apply Kd.R_drew)); exact Kd.R_mono (Kd.R_far (p := ⟨qf, 2, none⟩) (Kd.R_far (p := ⟨qf, 1, none⟩) (Kd.R_far (p := ⟨qf, 0, none⟩) (Kd.R_far (p := ⟨qx, 2, none⟩) (Kd.R_far (p := ⟨qx, 1, none⟩) (Kd.R_far (p := ⟨qx, 0, none⟩) (Kd.R_types (Kd.R_types jB.out qN.out (by decide)) qc.out (by decide)) (fun _ hk => hk.1.2) (.slice qW q2.length qX)) (fun _ hk => hk.1.2) (.int .i64 j4)) (fun _ hk => hk.1.2) (.bool Qn)) (fun _ hk => hk.2) (.slice qW q2.length qX)) (fun _ hk => hk.2) (.int .i64 j4)) (fun _ hk => hk.2) (.bool Qn)) (fun _ hk => trivial), bb_ HB⟩

/-! ### impl_IsNumber: function 58 -/
def impl_IsNumber.f (a0 : Int) : Option (Bool) := if a0 ≥ (-400000000) then (some (decide (a0 ≤ 400000000))) else (some false)
set_option maxHeartbeats 8000000 in
set_option maxRecDepth 100000 in
theorem impl_IsNumber.calls (a0 : Int) (r : Bool) (w : World) (h : impl_IsNumber.f a0 = some r) :
  Calls Try.prog 58 #[.int .i64 a0] w fun e w' => e = .returned (.bool r) ∧ Drawn0 w w' := by
 have H : (if a0 ≥ (-400000000) then (some (decide (a0 ≤ 400000000))) else (some false)) = some r := h
 clear h
 by_cases c2 : a0 ≥ (-400000000)
 ·
  rw [if_pos c2] at H
  have qa : decide ((-400000000) ≤ a0) = true := decide_eq_true c2
  clear c2
  obtain rfl := Option.some.inj H
  go_enter Try.func58, Try.ntmps58
  go_wp2
  go_ret
  exact ⟨by first | rfl | (simp; done) | (simp [*]; done), by repeat (first | exact Drawn0.refl _ | apply Drawn0.step)⟩
 ·
  rw [if_neg c2] at H
  have qa : decide ((-400000000) ≤ a0) = false := decide_eq_false c2
  clear c2
  obtain rfl := Option.some.inj H
  go_enter Try.func58, Try.ntmps58
  go_wp2
  go_ret
  exact ⟨by first | rfl | (simp; done) | (simp [*]; done), by repeat (first | exact Drawn0.refl _ | apply Drawn0.step)⟩

/-! ### impl_absolute: function 90 -/
def impl_absolute.f (a0 : Int) : Option (Int) := if a0 < 0 then (some (wrap64 (-a0))) else (some a0)
set_option maxHeartbeats 8000000 in
set_option maxRecDepth 100000 in
theorem impl_absolute.calls (a0 : Int) (r : Int) (w : World) (h : impl_absolute.f a0 = some r) :
  Calls Try.prog 90 #[.int .i64 a0] w fun e w' => e = .returned (.int .i64 r) ∧ Drawn0 w w' := by
 have H : (if a0 < 0 then (some (wrap64 (-a0))) else (some a0)) = some r := h
 clear h
 by_cases c2 : a0 < 0
 ·
  rw [if_pos c2] at H
  have qa : decide (a0 < 0) = true := decide_eq_true c2
  clear c2
  obtain rfl := Option.some.inj H
  go_enter Try.func90, Try.ntmps90
  go_wp2
  go_ret
  exact ⟨by first | rfl | (simp; done) | (simp [*]; done), by repeat (first | exact Drawn0.refl _ | apply Drawn0.step)⟩
 ·
  rw [if_neg c2] at H
  have qa : decide (a0 < 0) = false := decide_eq_false c2
  clear c2
  obtain rfl := Option.some.inj H
  go_enter Try.func90, Try.ntmps90
  go_wp2
  go_ret
  exact ⟨by first | rfl | (simp; done) | (simp [*]; done), by repeat (first | exact Drawn0.refl _ | apply Drawn0.step)⟩

/-! ### impl_commonDivisor: function 82 -/
def impl_commonDivisor.l0 : Nat → Int → Int → Option (Int)
 | 0, _, _ => none
 | k + 1, x0, x1 => if x1 = 0 then (some x0) else (impl_commonDivisor.l0 k x1 (Int.tmod x0 x1))
def impl_commonDivisor.f (k : Nat) (a0 : Int) (a1 : Int) : Option (Int) := (impl_absolute.f a0).bind fun qb => ((impl_absolute.f a1).bind fun qa => (impl_commonDivisor.l0 k qb qa))
theorem impl_commonDivisor.mono_l : ∀ k, (∀ y0 y1, LeO (impl_commonDivisor.l0 k y0 y1) (impl_commonDivisor.l0 (k + 1) y0 y1))
 | 0 => fun _ _ r h => by simp [impl_commonDivisor.l0] at h
 | k + 1 => by
  have ih0 := impl_commonDivisor.mono_l k
  ·
   intro y0 y1
   unfold impl_commonDivisor.l0
   repeat' first
   | (with_reducible exact ih0 _ _)
   | (with_reducible exact LeO.refl _)
   | (with_reducible exact LeO.none _)
   | (with_reducible refine LeO.ite ?_ ?_)
   | (with_reducible refine LeO.bind ?_ (fun _ => ?_))
   | exact ih0 _ _
   | exact LeO.none _
   | refine LeO.ite ?_ ?_
   | refine LeO.bind ?_ (fun _ => ?_)
theorem impl_commonDivisor.mono : ∀ a0 a1 k, LeO (impl_commonDivisor.f k a0 a1) (impl_commonDivisor.f (k + 1) a0 a1) := by
 intro a0 a1 k
 have ih0 := impl_commonDivisor.mono_l k
 unfold impl_commonDivisor.f
 repeat' first
   | (with_reducible exact ih0 _ _)
   | (with_reducible exact LeO.refl _)
   | (with_reducible exact LeO.none _)
   | (with_reducible refine LeO.ite ?_ ?_)
   | (with_reducible refine LeO.bind ?_ (fun _ => ?_))
   | exact ih0 _ _
   | exact LeO.none _
   | refine LeO.ite ?_ ?_
   | refine LeO.bind ?_ (fun _ => ?_)
set_option maxHeartbeats 8000000 in
set_option maxRecDepth 100000 in
theorem impl_commonDivisor.calls (k : Nat) (a0 : Int) (a1 : Int) (r : Int) (w : World) (h : impl_commonDivisor.f k a0 a1 = some r) :
  Calls Try.prog 82 #[.int .i64 a0, .int .i64 a1] w fun e w' => e = .returned (.int .i64 r) ∧ Drawn0 w w' := by
 have H : ((impl_absolute.f a0).bind fun qb => ((impl_absolute.f a1).bind fun qa => (impl_commonDivisor.l0 k qb qa))) = some r := h
 clear h
 replace H := Option.bind_eq_some_iff.mp H
 obtain ⟨qb, A30, H⟩ := H
 replace H : ((impl_absolute.f a1).bind fun qa => (impl_commonDivisor.l0 k qb qa)) = some r := H
 have A3 := Aside0.mk A30
 clear A30
 replace H := Option.bind_eq_some_iff.mp H
 obtain ⟨qa, A40, H⟩ := H
 replace H : (impl_commonDivisor.l0 k qb qa) = some r := H
 have A4 := Aside0.mk A40
 clear A40
 have H' := Aside0.mk H
 clear H
 go_enter Try.func82, Try.ntmps82
 go_wp2_with (first | (go_at_call 90; (with_reducible refine (impl_absolute.calls a0 qb _ A3.out).mono ?_); rintro e w' ⟨rfl, ⟨nd, rfl⟩⟩; (try first | exact ⟨rfl, _, World.drewN_drewN _ _ _⟩ | exact ⟨rfl, _, Eq.trans (World.drewN_drewN _ _ _) (congrArg (World.drewN _) (Nat.add_assoc _ _ _))⟩)) | (go_at_call 90; (with_reducible refine (impl_absolute.calls a1 qa _ A4.out).mono ?_); rintro e w' ⟨rfl, ⟨nd, rfl⟩⟩; (try first | exact ⟨rfl, _, World.drewN_drewN _ _ _⟩ | exact ⟨rfl, _, Eq.trans (World.drewN_drewN _ _ _) (congrArg (World.drewN _) (Nat.add_assoc _ _ _))⟩)))
 repeat (go_quiet (first | (go_at_call 90; (with_reducible refine (impl_absolute.calls a0 qb _ A3.out).mono ?_); rintro e w' ⟨rfl, ⟨nd, rfl⟩⟩; (try first | exact ⟨rfl, _, World.drewN_drewN _ _ _⟩ | exact ⟨rfl, _, Eq.trans (World.drewN_drewN _ _ _) (congrArg (World.drewN _) (Nat.add_assoc _ _ _))⟩)) | (go_at_call 90; (with_reducible refine (impl_absolute.calls a1 qa _ A4.out).mono ?_); rintro e w' ⟨rfl, ⟨nd, rfl⟩⟩; (try first | exact ⟨rfl, _, World.drewN_drewN _ _ _⟩ | exact ⟨rfl, _, Eq.trans (World.drewN_drewN _ _ _) (congrArg (World.drewN _) (Nat.add_assoc _ _ _))⟩))); try go_wp2_with (first | (go_at_call 90; (with_reducible refine (impl_absolute.calls a0 qb _ A3.out).mono ?_); rintro e w' ⟨rfl, ⟨nd, rfl⟩⟩; (try first | exact ⟨rfl, _, World.drewN_drewN _ _ _⟩ | exact ⟨rfl, _, Eq.trans (World.drewN_drewN _ _ _) (congrArg (World.drewN _) (Nat.add_assoc _ _ _))⟩)) | (go_at_call 90; (with_reducible refine (impl_absolute.calls a1 qa _ A4.out).mono ?_); rintro e w' ⟨rfl, ⟨nd, rfl⟩⟩; (try first | exact ⟨rfl, _, World.drewN_drewN _ _ _⟩ | exact ⟨rfl, _, Eq.trans (World.drewN_drewN _ _ _) (congrArg (World.drewN _) (Nat.add_assoc _ _ _))⟩))))
 go_loopg [0, 1] k (fun kq v0 v1 w' => ∃ (qd : Int) (qc : Int), v0 = .int .i64 qd ∧ v1 = .int .i64 qc ∧ Aside0 (impl_commonDivisor.l0 kq qd qc = some r) ∧ Aside0 (kq ≤ k) ∧ Drawn0 w w')
 case atStart => exact ⟨(qb), (qa), (by first | rfl | (simp; done) | (simp [*]; done)), (by first | rfl | (simp; done) | (simp [*]; done)), H', ⟨Nat.le_refl _⟩, by repeat (first | exact Drawn0.refl _ | apply Drawn0.step)⟩
 case round =>
  clear H'
  try clear p2
  obtain ⟨qd, qc, rfl, rfl, HA, HK1, ⟨m1, rfl⟩⟩ := hrel
  cases gk with
  | zero => exact absurd HA.out (by simp [impl_commonDivisor.l0])
  | succ k1 =>
   have H := HA.out
   clear HA
   simp only [impl_commonDivisor.l0] at H
   by_cases c5 : qc = 0
   ·
    rw [if_pos c5] at H
    have qe : (qc == 0) = true := beq_iff_eq.mpr c5
    have qf : (qc != 0) = false := bne_eq_false_iff_eq.mpr c5
    clear c5
    obtain rfl := Option.some.inj H
    go_wp2
    repeat (go_quiet (fail); try go_wp2)
    go_ret
    exact ⟨by first | rfl | (simp; done) | (simp [*]; done), by repeat (first | exact Drawn0.refl _ | apply Drawn0.step)⟩
   ·
    rw [if_neg c5] at H
    have qe : (qc == 0) = false := beq_eq_false_iff_ne.mpr c5
    have qf : (qc != 0) = true := bne_iff_ne.mpr c5
    have H' := Aside0.mk H
    clear H
    go_wp2
    repeat (go_quiet (fail); try go_wp2)
    go_roundg k1
    case measure => have := HK1.out; omega
    case rel => exact ⟨(qc), (Int.tmod qd qc), (by first | rfl | (simp; done) | (simp [*]; done)), (by first | rfl | (simp; done) | (simp [*]; done)), H', ⟨by have := HK1.out; omega⟩, by repeat (first | exact Drawn0.refl _ | apply Drawn0.step)⟩

/-! ### impl_divisorOf: function 83 -/
def impl_divisorOf.l0 : Nat → Int → List Int → Int → Int → Option (Int)
 | 0, _, _, _, _ => none
 | k + 1, x3, x6, x7, x8 => if x8 < x7 then (if 0 ≤ x8 then (if x8 < (x6.length : Int) then ((impl_commonDivisor.f k x3 (rd x6 x8)).bind fun qb => (impl_divisorOf.l0 k qb x6 x7 (wrap64 (x8 + 1)))) else (none)) else (none)) else (some x3)
def impl_divisorOf.f (k : Nat) (l0 : List Int) : Option (Int) := impl_divisorOf.l0 k 0 l0 (l0.length : Int) 0
theorem impl_divisorOf.mono_l : ∀ k, (∀ y0 y1 y2 y3, LeO (impl_divisorOf.l0 k y0 y1 y2 y3) (impl_divisorOf.l0 (k + 1) y0 y1 y2 y3))
 | 0 => fun _ _ _ _ r h => by simp [impl_divisorOf.l0] at h
 | k + 1 => by
  have ih0 := impl_divisorOf.mono_l k
  ·
   intro y0 y1 y2 y3
   unfold impl_divisorOf.l0
   repeat' first
   | (with_reducible exact ih0 _ _ _ _)
   | (with_reducible exact impl_commonDivisor.mono _ _ _)
   | (with_reducible exact LeO.refl _)
   | (with_reducible exact LeO.none _)
   | (with_reducible refine LeO.ite ?_ ?_)
   | (with_reducible refine LeO.bind ?_ (fun _ => ?_))
   | exact ih0 _ _ _ _
   | exact impl_commonDivisor.mono _ _ _
   | exact LeO.none _
   | refine LeO.ite ?_ ?_
   | refine LeO.bind ?_ (fun _ => ?_)
theorem impl_divisorOf.mono : ∀ a0 k, LeO (impl_divisorOf.f k a0) (impl_divisorOf.f (k + 1) a0) := by
 intro a0 k
 have ih0 := impl_divisorOf.mono_l k
 unfold impl_divisorOf.f
 repeat' first
   | (with_reducible exact ih0 _ _ _ _)
   | (with_reducible exact impl_commonDivisor.mono _ _ _)
   | (with_reducible exact LeO.refl _)
   | (with_reducible exact LeO.none _)
   | (with_reducible refine LeO.ite ?_ ?_)
   | (with_reducible refine LeO.bind ?_ (fun _ => ?_))
   | exact ih0 _ _ _ _
   | exact impl_commonDivisor.mono _ _ _
   | exact LeO.none _
   | refine LeO.ite ?_ ?_
   | refine LeO.bind ?_ (fun _ => ?_)
set_option maxHeartbeats 8000000 in
set_option maxRecDepth 100000 in
theorem impl_divisorOf.calls (k : Nat) (A0 : Option Addr) (c0 : Nat) (l0 : List Int) (r : Int) (w : World) (hr0 : Kd.C (Kd.int .i64) w A0 l0.length l0) (hc0 : l0.length ≤ c0) (h : impl_divisorOf.f k l0 = some r) :
  Calls Try.prog 83 #[.slice A0 l0.length c0] w fun e w' => e = .returned (.int .i64 r) ∧ Drawn0 w w' := by
 have HR0 := Aside0.mk hr0
 have HC0 := Aside0.mk hc0
 clear hr0 hc0
 have H : (impl_divisorOf.l0 k 0 l0 (l0.length : Int) 0) = some r := h
 clear h
 have H' := Aside0.mk H
 clear H
 go_enter Try.func83, Try.ntmps83
 go_wp2
 go_loopg [3, 8] k (fun kq v3 v8 w' => ∃ (qc : Int) (qa : Int), v3 = .int .i64 qc ∧ v8 = .int .i64 qa ∧ Aside0 (impl_divisorOf.l0 kq qc l0 (l0.length : Int) qa = some r) ∧ Aside0 (kq ≤ k) ∧ Drawn0 w w')
 case atStart => exact ⟨(0), (0), (by first | rfl | (simp; done) | (simp [*]; done)), (by first | rfl | (simp; done) | (simp [*]; done)), H', ⟨Nat.le_refl _⟩, by repeat (first | exact Drawn0.refl _ | apply Drawn0.step)⟩
 case round =>
  clear H'
  obtain ⟨qc, qa, rfl, rfl, HA, HK1, ⟨m1, rfl⟩⟩ := hrel
  cases gk with
  | zero => exact absurd HA.out (by simp [impl_divisorOf.l0])
  | succ k1 =>
   have H := HA.out
   clear HA
   simp only [impl_divisorOf.l0] at H
   by_cases c2 : qa < (l0.length : Int)
   ·
    rw [if_pos c2] at H
    have qe : decide (qa < (l0.length : Int)) = true := decide_eq_true c2
    clear c2
    by_cases c3 : 0 ≤ qa
    ·
     rw [if_pos c3] at H
     have qg : decide (0 ≤ qa) = true := decide_eq_true c3
     clear c3
     by_cases c4 : qa < (l0.length : Int)
     ·
      rw [if_pos c4] at H
      have qh : decide (qa < (l0.length : Int)) = true := decide_eq_true c4
      clear c4
      replace H := Option.bind_eq_some_iff.mp H
      obtain ⟨qb, A50, H⟩ := H
      replace H : (impl_divisorOf.l0 k1 qb l0 (l0.length : Int) (wrap64 (qa + 1))) = some r := H
      have A5 := Aside0.mk A50
      clear A50
      have H' := Aside0.mk H
      clear H
      have p195 : 0 ≤ (qa : Int) := of_decide_eq_true (by first | (with_reducible assumption) | assumption)
      have q195 : qa < (l0.length : Int) := of_decide_eq_true (by first | (with_reducible assumption) | assumption)
      obtain ⟨qf, e195, qd⟩ := Kd.at_int HR0.out qa p195 q195
      cases e195
      replace p195 := eq_true p195
      replace q195 := eq_true q195
      go_wp2_with (first | ((with_reducible refine gate_callee (f := 82) rfl ?_); refine goesL_ (some 14) rfl rfl Try.func82 (by kernel_rfl) rfl #[.int .i64 qc, .int .i64 (rd l0 qa)] rfl (by (try simp only [List.map_toArray, List.map_cons, List.map_nil]); first | done | rfl | (simp only [List.length_drop, List.length_take]; rfl)) ?_; (with_reducible refine (impl_commonDivisor.calls k1 qc (rd l0 qa) qb _ A5.out).mono ?_); rintro e w' ⟨rfl, ⟨nd, rfl⟩⟩; refine ⟨_, rfl, ?_⟩))
      go_roundg k1
      case measure => have := HK1.out; omega
      case rel => exact ⟨(qb), (wrap64 (qa + 1)), (by first | rfl | (simp; done) | (simp [*]; done)), (by first | rfl | (simp; done) | (simp [*]; done)), H', ⟨by have := HK1.out; omega⟩, by repeat (first | exact Drawn0.refl _ | apply Drawn0.step)⟩
     ·
      rw [if_neg c4] at H
      exact absurd H (by simp)
    ·
     rw [if_neg c3] at H
     exact absurd H (by simp)
   ·
    rw [if_neg c2] at H
    have qe : decide (qa < (l0.length : Int)) = false := decide_eq_false c2
    clear c2
    obtain rfl := Option.some.inj H
    go_wp2
    go_ret
    exact ⟨by first | rfl | (simp; done) | (simp [*]; done), by repeat (first | exact Drawn0.refl _ | apply Drawn0.step)⟩

/-! ### impl_IsAtom: function 54 -/
mutual
def impl_IsAtom.j0 : Nat → Bool → List Int → Int → Bool → Option (Bool)
 | 0, _, _, _, _ => none
 | k + 1, x14, x198000, x198001, x198002 => if x14 = true then (some false) else (impl_IsAtom.l0 k x198000 (x198000.length : Int) 0 x198000 x198001 x198002)
def impl_IsAtom.l0 : Nat → List Int → Int → Int → List Int → Int → Bool → Option (Bool)
 | 0, _, _, _, _, _, _ => none
 | k + 1, x16, x17, x18, x198000, x198001, x198002 => if x18 < x17 then (if 0 ≤ x18 then (if x18 < (x16.length : Int) then ((impl_IsNumber.f (rd x16 x18)).bind fun qx => (if qx = true then (impl_IsAtom.l0 k x16 x17 (wrap64 (x18 + 1)) x198000 x198001 x198002) else (some false))) else (none)) else (none)) else ((impl_divisorOf.f k x198000).bind fun qe => ((impl_commonDivisor.f k qe x198001).bind fun qg => (some (decide (qg ≤ 1)))))
end
def impl_IsAtom.f (k : Nat) (l0_0 : List Int) (a0_1 : Int) (a0_2 : Bool) : Option (Bool) := if (l0_0.length : Int) > 4 then (impl_IsAtom.j0 k true l0_0 a0_1 a0_2) else ((impl_IsNumber.f a0_1).bind fun qf => (impl_IsAtom.j0 k (!qf) l0_0 a0_1 a0_2))
theorem impl_IsAtom.mono_l : ∀ k, (∀ y0 y1 y2 y3, LeO (impl_IsAtom.j0 k y0 y1 y2 y3) (impl_IsAtom.j0 (k + 1) y0 y1 y2 y3)) ∧ (∀ y0 y1 y2 y3 y4 y5, LeO (impl_IsAtom.l0 k y0 y1 y2 y3 y4 y5) (impl_IsAtom.l0 (k + 1) y0 y1 y2 y3 y4 y5))
 | 0 => ⟨fun _ _ _ _ r h => by simp [impl_IsAtom.j0] at h, fun _ _ _ _ _ _ r h => by simp [impl_IsAtom.l0] at h⟩
 | k + 1 => by
  obtain ⟨ih0, ih1⟩ := impl_IsAtom.mono_l k
  refine ⟨?_, ?_⟩
  ·
   intro y0 y1 y2 y3
   unfold impl_IsAtom.j0
   repeat' first
   | (with_reducible exact ih0 _ _ _ _)
   | (with_reducible exact ih1 _ _ _ _ _ _)
   | (with_reducible exact impl_commonDivisor.mono _ _ _)
   | (with_reducible exact impl_divisorOf.mono _ _)
   | (with_reducible exact LeO.refl _)
   | (with_reducible exact LeO.none _)
   | (with_reducible refine LeO.ite ?_ ?_)
   | (with_reducible refine LeO.bind ?_ (fun _ => ?_))
   | exact ih0 _ _ _ _
   | exact ih1 _ _ _ _ _ _
   | exact impl_commonDivisor.mono _ _ _
   | exact impl_divisorOf.mono _ _
   | exact LeO.none _
   | refine LeO.ite ?_ ?_
   | refine LeO.bind ?_ (fun _ => ?_)
  ·
   intro y0 y1 y2 y3 y4 y5
   unfold impl_IsAtom.l0
   repeat' first
   | (with_reducible exact ih0 _ _ _ _)
   | (with_reducible exact ih1 _ _ _ _ _ _)
   | (with_reducible exact impl_commonDivisor.mono _ _ _)
   | (with_reducible exact impl_divisorOf.mono _ _)
   | (with_reducible exact LeO.refl _)
   | (with_reducible exact LeO.none _)
   | (with_reducible refine LeO.ite ?_ ?_)
   | (with_reducible refine LeO.bind ?_ (fun _ => ?_))
   | exact ih0 _ _ _ _
   | exact ih1 _ _ _ _ _ _
   | exact impl_commonDivisor.mono _ _ _
   | exact impl_divisorOf.mono _ _
   | exact LeO.none _
   | refine LeO.ite ?_ ?_
   | refine LeO.bind ?_ (fun _ => ?_)
theorem impl_IsAtom.mono : ∀ a0 a1 a2 k, LeO (impl_IsAtom.f k a0 a1 a2) (impl_IsAtom.f (k + 1) a0 a1 a2) := by
 intro a0 a1 a2 k
 obtain ⟨ih0, ih1⟩ := impl_IsAtom.mono_l k
 unfold impl_IsAtom.f
 repeat' first
   | (with_reducible exact ih0 _ _ _ _)
   | (with_reducible exact ih1 _ _ _ _ _ _)
   | (with_reducible exact impl_commonDivisor.mono _ _ _)
   | (with_reducible exact impl_divisorOf.mono _ _)
   | (with_reducible exact LeO.refl _)
   | (with_reducible exact LeO.none _)
   | (with_reducible refine LeO.ite ?_ ?_)
   | (with_reducible refine LeO.bind ?_ (fun _ => ?_))
   | exact ih0 _ _ _ _
   | exact ih1 _ _ _ _ _ _
   | exact impl_commonDivisor.mono _ _ _
   | exact impl_divisorOf.mono _ _
   | exact LeO.none _
   | refine LeO.ite ?_ ?_
   | refine LeO.bind ?_ (fun _ => ?_)
set_option maxHeartbeats 8000000 in
set_option maxRecDepth 100000 in
theorem impl_IsAtom.calls (k : Nat) (A0_0 : Option Addr) (c0_0 : Nat) (l0_0 : List Int) (a0_1 : Int) (a0_2 : Bool) (r : Bool) (w : World) (hr0_0 : Kd.C (Kd.int .i64) w A0_0 l0_0.length l0_0) (hc0_0 : l0_0.length ≤ c0_0) (h : impl_IsAtom.f k l0_0 a0_1 a0_2 = some r) :
  Calls Try.prog 54 #[.agg #[.slice A0_0 l0_0.length c0_0, .int .i64 a0_1, .bool a0_2]] w fun e w' => e = .returned (.bool r) ∧ Below w.heap.size w w' := by
 have hu26 := Try.underlying26
 have qh := Aside0.mk hr0_0
 have qk := Aside0.mk hc0_0
 clear hr0_0 hc0_0
 have HB := Aside0.mk (Below.refl w.heap.size w)
 have H : (if (l0_0.length : Int) > 4 then (impl_IsAtom.j0 k true l0_0 a0_1 a0_2) else ((impl_IsNumber.f a0_1).bind fun qf => (impl_IsAtom.j0 k (!qf) l0_0 a0_1 a0_2))) = some r := h
 clear h
 have HC2 := Aside0.mk H
 clear H
 go_enter Try.func54, Try.ntmps54
 go_upto_region 1 with (first | ((with_reducible refine gate_dst (N := 1) rfl ?_); refine box_event ?hg (N := 1) ?hd (cs := #[.slice A0_0 l0_0.length c0_0, .int .i64 a0_1, .bool a0_2]) (t := 26) ?hr ?_; (case hd => rfl); (case hg => rfl); (case hr => first | (go_simp; done) | (go_simp; rfl)); intro qc hg w3 hbox hb; have qa := Aside0.mk (hbox); have qy := Aside0.mk ((by rw [hg]; exact (bz_ HB) : w.heap.size ≤ qc)); have qz := Aside0.mk ((by rw [hg]; exact (bz_ HB) : w.heap.size ≤ qc)); replace HB := bS_ HB hb; clear hb hbox hg))
 repeat (go_quiet (first | ((with_reducible refine gate_dst (N := 1) rfl ?_); refine box_event ?hg (N := 1) ?hd (cs := #[.slice A0_0 l0_0.length c0_0, .int .i64 a0_1, .bool a0_2]) (t := 26) ?hr ?_; (case hd => rfl); (case hg => rfl); (case hr => first | (go_simp; done) | (go_simp; rfl)); intro qc hg w3 hbox hb; have qa := Aside0.mk (hbox); have qy := Aside0.mk ((by rw [hg]; exact (bz_ HB) : w.heap.size ≤ qc)); have qz := Aside0.mk ((by rw [hg]; exact (bz_ HB) : w.heap.size ≤ qc)); replace HB := bS_ HB hb; clear hb hbox hg)); go_upto_region 1 with (first | ((with_reducible refine gate_dst (N := 1) rfl ?_); refine box_event ?hg (N := 1) ?hd (cs := #[.slice A0_0 l0_0.length c0_0, .int .i64 a0_1, .bool a0_2]) (t := 26) ?hr ?_; (case hd => rfl); (case hg => rfl); (case hr => first | (go_simp; done) | (go_simp; rfl)); intro qc hg w3 hbox hb; have qa := Aside0.mk (hbox); have qy := Aside0.mk ((by rw [hg]; exact (bz_ HB) : w.heap.size ≤ qc)); have qz := Aside0.mk ((by rw [hg]; exact (bz_ HB) : w.heap.size ≤ qc)); replace HB := bS_ HB hb; clear hb hbox hg)))
 (try simp only [Act.put, List.setIfInBounds_toArray, List.set_cons_zero, List.set_cons_succ])
 go_cut [14] (fun v14 wc => ∃ (kq : Nat) (qj : Bool), v14 = .bool qj ∧ Aside0 (impl_IsAtom.j0 kq qj l0_0 a0_1 a0_2 = some r) ∧ Aside0 (kq ≤ k) ∧ Aside0 (wc.heap[qc]? = some (.cells #[(.slice A0_0 l0_0.length c0_0), .int .i64 a0_1, .bool a0_2] 26 (0, 0))) ∧ Aside0 (Below w.heap.size w wc))
 case first =>
  have H := HC2.out
  clear HC2
  by_cases c4 : (l0_0.length : Int) > 4
  ·
   rw [if_pos c4] at H
   have qi : decide (4 < (l0_0.length : Int)) = true := decide_eq_true c4
   have qA : decide (4 < l0_0.length) = true := decide_eq_true (by omega)
   clear c4
   (first | rw [qi] | (simp only [i64_w, i32_w]; rw [qi]) | skip)
   have H' := Aside0.mk H
   clear H
   have ql : w3.cell? ⟨qc, 0, none⟩ = some (.slice A0_0 l0_0.length c0_0) := bc_ qa 0
   have qm : w3.cell? ⟨qc, 1, none⟩ = some (.int .i64 a0_1) := bc_ qa 1
   have qn : w3.cell? ⟨qc, 2, none⟩ = some (.bool a0_2) := bc_ qa 2
   have qo := blk_frozen qa.out 0
   have qp := blk_frozen qa.out 1
   have qq := blk_frozen qa.out 2
   go_wp2
   repeat (go_quiet (fail); try go_wp2)
   go_meet
   case rel => exact ⟨_, (true), (by first | rfl | (simp; done) | (simp [*]; done)), H', ⟨by first | omega | exact Nat.le_refl _⟩, ⟨kf_ qa⟩, ⟨bb_ HB⟩⟩
  ·
   rw [if_neg c4] at H
   have qi : decide (4 < (l0_0.length : Int)) = false := decide_eq_false c4
   have qA : decide (4 < l0_0.length) = false := decide_eq_false (by omega)
   clear c4
   (first | rw [qi] | (simp only [i64_w, i32_w]; rw [qi]) | skip)
   replace H := Option.bind_eq_some_iff.mp H
   obtain ⟨qf, A60, H⟩ := H
   replace H : (impl_IsAtom.j0 k (!qf) l0_0 a0_1 a0_2) = some r := H
   have A6 := Aside0.mk A60
   clear A60
   have H' := Aside0.mk H
   clear H
   have qr : w3.cell? ⟨qc, 0, none⟩ = some (.slice A0_0 l0_0.length c0_0) := bc_ qa 0
   have qs : w3.cell? ⟨qc, 1, none⟩ = some (.int .i64 a0_1) := bc_ qa 1
   have qt : w3.cell? ⟨qc, 2, none⟩ = some (.bool a0_2) := bc_ qa 2
   have qu := blk_frozen qa.out 0
   have qv := blk_frozen qa.out 1
   have qw := blk_frozen qa.out 2
   go_wp2_with (first | (go_at_call 58; (with_reducible refine (impl_IsNumber.calls a0_1 qf _ A6.out).mono ?_); rintro e w' ⟨rfl, ⟨nd, rfl⟩⟩; (try first | exact ⟨rfl, _, World.drewN_drewN _ _ _⟩ | exact ⟨rfl, _, Eq.trans (World.drewN_drewN _ _ _) (congrArg (World.drewN _) (Nat.add_assoc _ _ _))⟩)))
   repeat (go_quiet (first | (go_at_call 58; (with_reducible refine (impl_IsNumber.calls a0_1 qf _ A6.out).mono ?_); rintro e w' ⟨rfl, ⟨nd, rfl⟩⟩; (try first | exact ⟨rfl, _, World.drewN_drewN _ _ _⟩ | exact ⟨rfl, _, Eq.trans (World.drewN_drewN _ _ _) (congrArg (World.drewN _) (Nat.add_assoc _ _ _))⟩))); try go_wp2_with (first | (go_at_call 58; (with_reducible refine (impl_IsNumber.calls a0_1 qf _ A6.out).mono ?_); rintro e w' ⟨rfl, ⟨nd, rfl⟩⟩; (try first | exact ⟨rfl, _, World.drewN_drewN _ _ _⟩ | exact ⟨rfl, _, Eq.trans (World.drewN_drewN _ _ _) (congrArg (World.drewN _) (Nat.add_assoc _ _ _))⟩))))
   go_meet
   case rel => exact ⟨_, (!qf), (by first | rfl | (simp; done) | (simp [*]; done)), H', ⟨by first | omega | exact Nat.le_refl _⟩, ⟨kf_ qa⟩, ⟨bb_ HB⟩⟩
 case rest =>
  clear HC2
  try clear p2
  try clear c4
  try clear qi
  try clear qA
  try clear c5
  try clear ql
  try clear qm
  try clear qn
  try clear qr
  try clear qs
  try clear qt
  try clear qo
  try clear qp
  try clear qq
  try clear qu
  try clear qv
  try clear qw
  obtain ⟨kq, qj, rfl, HA, HJ1, qa, HB⟩ := hcut
  cases kq with
  | zero => exact absurd HA.out (by simp [impl_IsAtom.j0])
  | succ kj1 =>
   have H := HA.out
   clear HA
   simp only [impl_IsAtom.j0] at H
   by_cases c8 : qj = true
   ·
    subst c8
    have H1 : (some false) = some r := by rw [if_pos rfl] at H; exact H
    clear H
    have H := H1
    clear H1
    obtain rfl := Option.some.inj H
    go_wp2
    repeat (go_quiet (fail); try go_wp2)
    go_ret
    exact ⟨by first | rfl | (simp [errW_none, errW_some] <;> rfl) | (simp [*, errW_none, errW_some] <;> rfl), bb_ HB⟩
   ·
    replace c8 := Bool.eq_false_iff.mpr c8
    subst c8
    have H1 : (impl_IsAtom.l0 kj1 l0_0 (l0_0.length : Int) 0 l0_0 a0_1 a0_2) = some r := by rw [if_neg (show ¬ (false = true) by decide)] at H; exact H
    clear H
    have H := H1
    clear H1
    have H' := Aside0.mk H
    clear H
    have qB : wc.cell? ⟨qc, 0, none⟩ = some (.slice A0_0 l0_0.length c0_0) := bc_ qa 0
    have qC : wc.cell? ⟨qc, 1, none⟩ = some (.int .i64 a0_1) := bc_ qa 1
    have qD : wc.cell? ⟨qc, 2, none⟩ = some (.bool a0_2) := bc_ qa 2
    have qE := blk_frozen qa.out 0
    have qF := blk_frozen qa.out 1
    have qG := blk_frozen qa.out 2
    go_wp2
    repeat (go_quiet (fail); try go_wp2)
    go_loopg [18] kj1 (fun kq v18 w' => ∃ (qb : Int), v18 = .int .i64 qb ∧ Aside0 (impl_IsAtom.l0 kq l0_0 (l0_0.length : Int) qb l0_0 a0_1 a0_2 = some r) ∧ Aside0 (kq ≤ kj1) ∧ Aside0 (w'.heap[qc]? = some (.cells #[(.slice A0_0 l0_0.length c0_0), .int .i64 a0_1, .bool a0_2] 26 (0, 0))) ∧ Aside0 (Below w.heap.size w w'))
    case atStart => exact ⟨(0), (by first | rfl | (simp; done) | (simp [*]; done)), H', ⟨Nat.le_refl _⟩, ⟨kf_ qa⟩, ⟨bb_ HB⟩⟩
    case round =>
     clear H'
     try clear p2
     try clear c4
     try clear qi
     try clear qA
     try clear c5
     try clear c8
     try clear ql
     try clear qm
     try clear qn
     try clear qr
     try clear qs
     try clear qt
     try clear qB
     try clear qC
     try clear qD
     try clear qo
     try clear qp
     try clear qq
     try clear qu
     try clear qv
     try clear qw
     try clear qE
     try clear qF
     try clear qG
     try clear p2
     obtain ⟨qb, rfl, HA, HK2, qa, HB⟩ := hrel
     cases gk with
     | zero => exact absurd HA.out (by simp [impl_IsAtom.l0])
     | succ k2 =>
      have H := HA.out
      clear HA
      simp only [impl_IsAtom.l0] at H
      by_cases c10 : qb < (l0_0.length : Int)
      ·
       rw [if_pos c10] at H
       have qH : decide (qb < (l0_0.length : Int)) = true := decide_eq_true c10
       clear c10
       by_cases c11 : 0 ≤ qb
       ·
        rw [if_pos c11] at H
        have qP : decide (0 ≤ qb) = true := decide_eq_true c11
        clear c11
        by_cases c12 : qb < (l0_0.length : Int)
        ·
         rw [if_pos c12] at H
         have qQ : decide (qb < (l0_0.length : Int)) = true := decide_eq_true c12
         clear c12
         replace H := Option.bind_eq_some_iff.mp H
         obtain ⟨qx, A130, H⟩ := H
         replace H : (if qx = true then (impl_IsAtom.l0 k2 l0_0 (l0_0.length : Int) (wrap64 (qb + 1)) l0_0 a0_1 a0_2) else (some false)) = some r := H
         have A13 := Aside0.mk A130
         clear A130
         by_cases c14 : qx = true
         ·
          subst c14
          have H1 : (impl_IsAtom.l0 k2 l0_0 (l0_0.length : Int) (wrap64 (qb + 1)) l0_0 a0_1 a0_2) = some r := by rw [if_pos rfl] at H; exact H
          clear H
          have H := H1
          clear H1
          have H' := Aside0.mk H
          clear H
          have p199 : 0 ≤ (qb : Int) := of_decide_eq_true (by first | (with_reducible assumption) | assumption)
          have q199 : qb < (l0_0.length : Int) := of_decide_eq_true (by first | (with_reducible assumption) | assumption)
          obtain ⟨qI, e199, qd⟩ := Kd.at_int qh.out qb p199 q199
          cases e199
          replace qd := (HB.out.cell (World.block_lt_of_cell? w _ qd)).trans qd
          replace p199 := eq_true p199
          replace q199 := eq_true q199
          go_wp2_with (first | (go_at_call 58; (with_reducible refine (impl_IsNumber.calls (rd l0_0 qb) true _ A13.out).mono ?_); rintro e w' ⟨rfl, ⟨nd, rfl⟩⟩; (try first | exact ⟨rfl, _, World.drewN_drewN _ _ _⟩ | exact ⟨rfl, _, Eq.trans (World.drewN_drewN _ _ _) (congrArg (World.drewN _) (Nat.add_assoc _ _ _))⟩)))
          repeat (go_quiet (first | (go_at_call 58; (with_reducible refine (impl_IsNumber.calls (rd l0_0 qb) true _ A13.out).mono ?_); rintro e w' ⟨rfl, ⟨nd, rfl⟩⟩; (try first | exact ⟨rfl, _, World.drewN_drewN _ _ _⟩ | exact ⟨rfl, _, Eq.trans (World.drewN_drewN _ _ _) (congrArg (World.drewN _) (Nat.add_assoc _ _ _))⟩))); try go_wp2_with (first | (go_at_call 58; (with_reducible refine (impl_IsNumber.calls (rd l0_0 qb) true _ A13.out).mono ?_); rintro e w' ⟨rfl, ⟨nd, rfl⟩⟩; (try first | exact ⟨rfl, _, World.drewN_drewN _ _ _⟩ | exact ⟨rfl, _, Eq.trans (World.drewN_drewN _ _ _) (congrArg (World.drewN _) (Nat.add_assoc _ _ _))⟩))))
          go_roundg k2
          case measure => have := HJ1.out; have := HK2.out; omega
          case rel => exact ⟨(wrap64 (qb + 1)), (by first | rfl | (simp; done) | (simp [*]; done)), H', ⟨by have := HJ1.out; have := HK2.out; omega⟩, ⟨kf_ qa⟩, ⟨bb_ HB⟩⟩
         ·
          replace c14 := Bool.eq_false_iff.mpr c14
          subst c14
          have H1 : (some false) = some r := by rw [if_neg (show ¬ (false = true) by decide)] at H; exact H
          clear H
          have H := H1
          clear H1
          obtain rfl := Option.some.inj H
          have p199 : 0 ≤ (qb : Int) := of_decide_eq_true (by first | (with_reducible assumption) | assumption)
          have q199 : qb < (l0_0.length : Int) := of_decide_eq_true (by first | (with_reducible assumption) | assumption)
          obtain ⟨qI, e199, qd⟩ := Kd.at_int qh.out qb p199 q199
          cases e199
          replace qd := (HB.out.cell (World.block_lt_of_cell? w _ qd)).trans qd
          replace p199 := eq_true p199
          replace q199 := eq_true q199
          go_wp2_with (first | (go_at_call 58; (with_reducible refine (impl_IsNumber.calls (rd l0_0 qb) false _ A13.out).mono ?_); rintro e w' ⟨rfl, ⟨nd, rfl⟩⟩; (try first | exact ⟨rfl, _, World.drewN_drewN _ _ _⟩ | exact ⟨rfl, _, Eq.trans (World.drewN_drewN _ _ _) (congrArg (World.drewN _) (Nat.add_assoc _ _ _))⟩)))
          repeat (go_quiet (first | (go_at_call 58; (with_reducible refine (impl_IsNumber.calls (rd l0_0 qb) false _ A13.out).mono ?_); rintro e w' ⟨rfl, ⟨nd, rfl⟩⟩; (try first | exact ⟨rfl, _, World.drewN_drewN _ _ _⟩ | exact ⟨rfl, _, Eq.trans (World.drewN_drewN _ _ _) (congrArg (World.drewN _) (Nat.add_assoc _ _ _))⟩))); try go_wp2_with (first | (go_at_call 58; (with_reducible refine (impl_IsNumber.calls (rd l0_0 qb) false _ A13.out).mono ?_); rintro e w' ⟨rfl, ⟨nd, rfl⟩⟩; (try first | exact ⟨rfl, _, World.drewN_drewN _ _ _⟩ | exact ⟨rfl, _, Eq.trans (World.drewN_drewN _ _ _) (congrArg (World.drewN _) (Nat.add_assoc _ _ _))⟩))))
          go_ret
          exact ⟨by first | rfl | (simp [errW_none, errW_some] <;> rfl) | (simp [*, errW_none, errW_some] <;> rfl), bb_ HB⟩
        ·
         rw [if_neg c12] at H
         exact absurd H (by simp)
       ·
        rw [if_neg c11] at H
        exact absurd H (by simp)
      ·
       rw [if_neg c10] at H
       have qH : decide (qb < (l0_0.length : Int)) = false := decide_eq_false c10
       clear c10
       replace H := Option.bind_eq_some_iff.mp H
       obtain ⟨qe, A150, H⟩ := H
       replace H : ((impl_commonDivisor.f k2 qe a0_1).bind fun qg => (some (decide (qg ≤ 1)))) = some r := H
       have A15 := Aside0.mk A150
       clear A150
       replace H := Option.bind_eq_some_iff.mp H
       obtain ⟨qg, A160, H⟩ := H
       replace H : (some (decide (qg ≤ 1))) = some r := H
       have A16 := Aside0.mk A160
       clear A160
       obtain rfl := Option.some.inj H
       have qJ : wr.cell? ⟨qc, 0, none⟩ = some (.slice A0_0 l0_0.length c0_0) := bc_ qa 0
       have qK : wr.cell? ⟨qc, 1, none⟩ = some (.int .i64 a0_1) := bc_ qa 1
       have qL : wr.cell? ⟨qc, 2, none⟩ = some (.bool a0_2) := bc_ qa 2
       have qM := blk_frozen qa.out 0
       have qN := blk_frozen qa.out 1
       have qO := blk_frozen qa.out 2
       go_wp2_with (first | (go_at_call 83; (with_reducible refine (impl_divisorOf.calls k2 _ _ l0_0 qe _ ?side1 ?side2 A15.out).mono ?_); (case side1 => exact cb_ qh HB); (case side2 => exact qk.out); rintro e w' ⟨rfl, ⟨nd, rfl⟩⟩; (try first | exact ⟨rfl, _, World.drewN_drewN _ _ _⟩ | exact ⟨rfl, _, Eq.trans (World.drewN_drewN _ _ _) (congrArg (World.drewN _) (Nat.add_assoc _ _ _))⟩)) | (go_at_call 82; (with_reducible refine (impl_commonDivisor.calls k2 qe a0_1 qg _ A16.out).mono ?_); rintro e w' ⟨rfl, ⟨nd, rfl⟩⟩; (try first | exact ⟨rfl, _, World.drewN_drewN _ _ _⟩ | exact ⟨rfl, _, Eq.trans (World.drewN_drewN _ _ _) (congrArg (World.drewN _) (Nat.add_assoc _ _ _))⟩)))
       repeat (go_quiet (first | (go_at_call 83; (with_reducible refine (impl_divisorOf.calls k2 _ _ l0_0 qe _ ?side1 ?side2 A15.out).mono ?_); (case side1 => exact cb_ qh HB); (case side2 => exact qk.out); rintro e w' ⟨rfl, ⟨nd, rfl⟩⟩; (try first | exact ⟨rfl, _, World.drewN_drewN _ _ _⟩ | exact ⟨rfl, _, Eq.trans (World.drewN_drewN _ _ _) (congrArg (World.drewN _) (Nat.add_assoc _ _ _))⟩)) | (go_at_call 82; (with_reducible refine (impl_commonDivisor.calls k2 qe a0_1 qg _ A16.out).mono ?_); rintro e w' ⟨rfl, ⟨nd, rfl⟩⟩; (try first | exact ⟨rfl, _, World.drewN_drewN _ _ _⟩ | exact ⟨rfl, _, Eq.trans (World.drewN_drewN _ _ _) (congrArg (World.drewN _) (Nat.add_assoc _ _ _))⟩))); try go_wp2_with (first | (go_at_call 83; (with_reducible refine (impl_divisorOf.calls k2 _ _ l0_0 qe _ ?side1 ?side2 A15.out).mono ?_); (case side1 => exact cb_ qh HB); (case side2 => exact qk.out); rintro e w' ⟨rfl, ⟨nd, rfl⟩⟩; (try first | exact ⟨rfl, _, World.drewN_drewN _ _ _⟩ | exact ⟨rfl, _, Eq.trans (World.drewN_drewN _ _ _) (congrArg (World.drewN _) (Nat.add_assoc _ _ _))⟩)) | (go_at_call 82; (with_reducible refine (impl_commonDivisor.calls k2 qe a0_1 qg _ A16.out).mono ?_); rintro e w' ⟨rfl, ⟨nd, rfl⟩⟩; (try first | exact ⟨rfl, _, World.drewN_drewN _ _ _⟩ | exact ⟨rfl, _, Eq.trans (World.drewN_drewN _ _ _) (congrArg (World.drewN _) (Nat.add_assoc _ _ _))⟩))))
       go_ret
       exact ⟨by first | rfl | (simp [errW_none, errW_some] <;> rfl) | (simp [*, errW_none, errW_some] <;> rfl), bb_ HB⟩

end Go.Proofs.Ytaijkhabcidagaa.PFnExactMixAtoms
