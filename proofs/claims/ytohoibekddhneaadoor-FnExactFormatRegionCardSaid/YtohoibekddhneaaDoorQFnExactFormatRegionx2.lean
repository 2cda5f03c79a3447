/- The functions that the law FnExactFormatRegion reaches, each as a Lean function with the same answers, and the proof that the call comes to exactly these: turned by program out of the printed texts. No condition but those that each theorem names. -/
import Derived.Test.YtohoibekddhneaaDoorQFnExactFormatRegionx0
import Derived.Test.YtohoibekddhneaaDoorQFnExactFormatRegionx1
namespace Go.Proofs.YtohoibekddhneaaDoor.PFnExactFormatRegion
open Go.RowKit Go.Proofs.YtohoibekddhneaaDoorW.PrintWords Go.Proofs.YtohoibekddhneaaDoorW.PrintLast Go.Proofs.YtohoibekddhneaaDoorW.PrintMore
attribute [local go_sem] max2_int min2_int max_two min_two max_three min_three max_four min_four   -- for this text's walks alone
set_option linter.unusedVariables false
set_option linter.unusedSimpArgs false

/-! ### impl_IsAtom: function 52 -/
mutual
def impl_IsAtom.j0 : Nat → Bool → List Int → Int → Bool → Option (Bool)
 | 0, _, _, _, _ => none
 | k + 1, x14, x212000, x212001, x212002 => if x14 = true then (some false) else (impl_IsAtom.l0 k x212000 (x212000.length : Int) 0 x212000 x212001 x212002)
def impl_IsAtom.l0 : Nat → List Int → Int → Int → List Int → Int → Bool → Option (Bool)
 | 0, _, _, _, _, _, _ => none
 | k + 1, x16, x17, x18, x212000, x212001, x212002 => if x18 < x17 then (if 0 ≤ x18 then (if x18 < (x16.length : Int) then ((impl_IsNumber.f (rd x16 x18)).bind fun qx => (if qx = true then (impl_IsAtom.l0 k x16 x17 (wrap64 (x18 + 1)) x212000 x212001 x212002) else (some false))) else (none)) else (none)) else ((impl_divisorOf.f k x212000).bind fun qd => ((impl_commonDivisor.f k qd x212001).bind fun qf => (some (decide (qf ≤ 1)))))
end
def impl_IsAtom.f (k : Nat) (l0_0 : List Int) (a0_1 : Int) (a0_2 : Bool) : Option (Bool) := if (l0_0.length : Int) > 4 then (impl_IsAtom.j0 k true l0_0 a0_1 a0_2) else ((impl_IsNumber.f a0_1).bind fun qe => (impl_IsAtom.j0 k (!qe) l0_0 a0_1 a0_2))
theorem impl_IsAtom.mono_l : ∀ k, (∀ y0 y1 y2 y3, LeO (impl_IsAtom.j0 k y0 y1 y2 y3) (impl_IsAtom.j0 (k + 1) y0 y1 y2 y3)) ∧ (∀ y0 y1 y2 y3 y4 y5, LeO (impl_IsAtom.l0 k y0 y1 y2 y3 y4 y5) (impl_IsAtom.l0 (k + 1) y0 y1 y2 y3 y4 y5))
 | 0 => ⟨fun _ _ _ _ r h => by simp [impl_IsAtom.j0] at h, fun _ _ _ _ _ _ r h => by simp [impl_IsAtom.l0] at h⟩
 | k + 1 => by
  obtain ⟨ih0, ih1⟩ := impl_IsAtom.mono_l k
  refine ⟨?_, ?_⟩ <;> (intros; first | unfold impl_IsAtom.j0 | unfold impl_IsAtom.l0)
  all_goals
   repeat' first
   | (with_reducible exact ih0 _ _ _ _)
   | (with_reducible exact ih1 _ _ _ _ _ _)
   | (with_reducible exact impl_commonDivisor.mono _ _ _)
   | (with_reducible exact impl_divisorOf.mono _ _)
   | (with_reducible exact LeO.refl _)
   | (with_reducible exact LeO.none _)
   | (with_reducible refine LeO.ite ?_ ?_)
   | (with_reducible refine LeO.bind ?_ (fun _ => ?_))
   | exact ih0 _ _ _ _
   | exact ih1 _ _ _ _ _ _
   | exact impl_commonDivisor.mono _ _ _
   | exact impl_divisorOf.mono _ _
   | exact LeO.none _
   | refine LeO.ite ?_ ?_
   | refine LeO.bind ?_ (fun _ => ?_)
theorem impl_IsAtom.mono : ∀ a0 a1 a2 k, LeO (impl_IsAtom.f k a0 a1 a2) (impl_IsAtom.f (k + 1) a0 a1 a2) := by
 intro a0 a1 a2 k
 obtain ⟨ih0, ih1⟩ := impl_IsAtom.mono_l k
 unfold impl_IsAtom.f
 repeat' first
   | (with_reducible exact ih0 _ _ _ _)
   | (with_reducible exact ih1 _ _ _ _ _ _)
   | (with_reducible exact impl_commonDivisor.mono _ _ _)
   | (with_reducible exact impl_divisorOf.mono _ _)
   | (with_reducible exact LeO.refl _)
   | (with_reducible exact LeO.none _)
   | (with_reducible refine LeO.ite ?_ ?_)
   | (with_reducible refine LeO.bind ?_ (fun _ => ?_))
   | exact ih0 _ _ _ _
   | exact ih1 _ _ _ _ _ _
   | exact impl_commonDivisor.mono _ _ _
   | exact impl_divisorOf.mono _ _
   | exact LeO.none _
   | refine LeO.ite ?_ ?_
   | refine LeO.bind ?_ (fun _ => ?_)
set_option maxHeartbeats 8000000 in
set_option maxRecDepth 100000 in
theorem impl_IsAtom.calls (k : Nat) (A0_0 : Option Addr) (c0_0 : Nat) (l0_0 : List Int) (a0_1 : Int) (a0_2 : Bool) (r : Bool) (w : World) (hr0_0 : Kd.C (Kd.int .i64) w A0_0 l0_0.length l0_0) (hc0_0 : l0_0.length ≤ c0_0) (h : impl_IsAtom.f k l0_0 a0_1 a0_2 = some r) :
  Calls Tryd.prog 52 #[.agg #[.slice A0_0 l0_0.length c0_0, .int .i64 a0_1, .bool a0_2]] w fun e w' => e = .returned (.bool r) ∧ Below w.heap.size w w' := by
 have hu27 := Tryd.underlying27
 have qg := Aside0.mk hr0_0
 have qk := Aside0.mk hc0_0
 clear hr0_0 hc0_0
 have HB := Aside0.mk (Below.refl w.heap.size w)
 have H : (if (l0_0.length : Int) > 4 then (impl_IsAtom.j0 k true l0_0 a0_1 a0_2) else ((impl_IsNumber.f a0_1).bind fun qe => (impl_IsAtom.j0 k (!qe) l0_0 a0_1 a0_2))) = some r := h
 clear h
 have HC2 := Aside0.mk H
 clear H
 go_enter Tryd.func52, Tryd.ntmps52
 go_upto_region 1 with (first | ((with_reducible refine gate_dst (N := 1) rfl ?_); refine bx_ (cs := #[.slice A0_0 l0_0.length c0_0, .int .i64 a0_1, .bool a0_2]) (t := 27) ?_; intro qi hg w3 hbox hb; have qc := Aside0.mk (hbox); have qy := hz_ HB hg; have qz := hz_ HB hg; replace HB := bS_ HB hb; clear hb hbox hg))
 repeat (go_quiet (first | ((with_reducible refine gate_dst (N := 1) rfl ?_); refine bx_ (cs := #[.slice A0_0 l0_0.length c0_0, .int .i64 a0_1, .bool a0_2]) (t := 27) ?_; intro qi hg w3 hbox hb; have qc := Aside0.mk (hbox); have qy := hz_ HB hg; have qz := hz_ HB hg; replace HB := bS_ HB hb; clear hb hbox hg)); go_upto_region 1 with (first | ((with_reducible refine gate_dst (N := 1) rfl ?_); refine bx_ (cs := #[.slice A0_0 l0_0.length c0_0, .int .i64 a0_1, .bool a0_2]) (t := 27) ?_; intro qi hg w3 hbox hb; have qc := Aside0.mk (hbox); have qy := hz_ HB hg; have qz := hz_ HB hg; replace HB := bS_ HB hb; clear hb hbox hg)))
 (try simp only [Act.put, List.setIfInBounds_toArray, List.set_cons_zero, List.set_cons_succ])
 go_cut [14] (fun v14 wc => ∃ (kq : Nat) (qj : Bool), v14 = .bool qj ∧ Aside0 (impl_IsAtom.j0 kq qj l0_0 a0_1 a0_2 = some r) ∧ Aside0 (kq ≤ k) ∧ Aside0 (wc.heap[qi]? = some (.cells #[(.slice A0_0 l0_0.length c0_0), .int .i64 a0_1, .bool a0_2] 27 (0, 0))) ∧ Aside0 (Below w.heap.size w wc))
 case first =>
  have H := HC2.out
  clear HC2
  by_cases c4 : (l0_0.length : Int) > 4
  ·
   rw [if_pos c4] at H
   have qh : decide (4 < (l0_0.length : Int)) = true := decide_eq_true c4
   have qA : decide (4 < l0_0.length) = true := decide_eq_true (by omega)
   clear c4
   (first | rw [qh] | (simp only [i64_w, i32_w]; rw [qh]) | skip)
   have H' := Aside0.mk H
   clear H
   obtain ⟨ql, qm, qn, qo, qp, qq⟩ := b3_ qc
   go_wp2
   repeat (go_quiet (fail); try go_wp2)
   go_meet
   case rel => exact ⟨_, (true), (by first | rfl | (simp; done) | (simp [*]; done)), H', ⟨by first | omega | exact Nat.le_refl _⟩, ⟨kf_ qc⟩, ⟨bb_ HB⟩⟩
  rw [if_neg c4] at H
  have qh : decide (4 < (l0_0.length : Int)) = false := decide_eq_false c4
  have qA : decide (4 < l0_0.length) = false := decide_eq_false (by omega)
  clear c4
  (first | rw [qh] | (simp only [i64_w, i32_w]; rw [qh]) | skip)
  replace H := Option.bind_eq_some_iff.mp H
  obtain ⟨qe, A60, H⟩ := H
  replace H : (impl_IsAtom.j0 k (!qe) l0_0 a0_1 a0_2) = some r := H
  have A6 := Aside0.mk A60
  clear A60
  have H' := Aside0.mk H
  clear H
  obtain ⟨qr, qs, qt, qu, qv, qw⟩ := b3_ qc
  go_wp2_with (first | (go_at_call 61; (with_reducible refine (impl_IsNumber.calls a0_1 qe _ A6.out).mono ?_); rintro e w' ⟨rfl, ⟨nd, rfl⟩⟩; (try first | exact ⟨rfl, _, World.drewN_drewN _ _ _⟩ | exact ⟨rfl, _, Eq.trans (World.drewN_drewN _ _ _) (congrArg (World.drewN _) (Nat.add_assoc _ _ _))⟩)))
  repeat (go_quiet (first | (go_at_call 61; (with_reducible refine (impl_IsNumber.calls a0_1 qe _ A6.out).mono ?_); rintro e w' ⟨rfl, ⟨nd, rfl⟩⟩; (try first | exact ⟨rfl, _, World.drewN_drewN _ _ _⟩ | exact ⟨rfl, _, Eq.trans (World.drewN_drewN _ _ _) (congrArg (World.drewN _) (Nat.add_assoc _ _ _))⟩))); try go_wp2_with (first | (go_at_call 61; (with_reducible refine (impl_IsNumber.calls a0_1 qe _ A6.out).mono ?_); rintro e w' ⟨rfl, ⟨nd, rfl⟩⟩; (try first | exact ⟨rfl, _, World.drewN_drewN _ _ _⟩ | exact ⟨rfl, _, Eq.trans (World.drewN_drewN _ _ _) (congrArg (World.drewN _) (Nat.add_assoc _ _ _))⟩))))
  go_meet
  case rel => exact ⟨_, (!qe), (by first | rfl | (simp; done) | (simp [*]; done)), H', ⟨by first | omega | exact Nat.le_refl _⟩, ⟨kf_ qc⟩, ⟨bb_ HB⟩⟩
 case rest =>
  clear HC2
  try clear p2
  try clear c4
  try clear qh
  try clear qA
  try clear c5
  try clear ql
  try clear qm
  try clear qn
  try clear qr
  try clear qs
  try clear qt
  try clear qo
  try clear qp
  try clear qq
  try clear qu
  try clear qv
  try clear qw
  obtain ⟨kq, qj, rfl, HA, HJ1, qc, HB⟩ := hcut
  cases kq with
  | zero => exact absurd HA.out (by simp [impl_IsAtom.j0])
  | succ kj1 =>
   have H := HA.out
   clear HA
   simp only [impl_IsAtom.j0] at H
   by_cases c8 : qj = true
   ·
    subst c8
    have H1 : (some false) = some r := by rw [if_pos rfl] at H; exact H
    clear H
    have H := H1
    clear H1
    obtain rfl := Option.some.inj H
    go_wp2
    repeat (go_quiet (fail); try go_wp2)
    go_ret
    exact ⟨by first | rfl | (simp [errW_none, errW_some] <;> rfl) | (simp [*, errW_none, errW_some] <;> rfl), bb_ HB⟩
   replace c8 := Bool.eq_false_iff.mpr c8
   subst c8
   have H1 : (impl_IsAtom.l0 kj1 l0_0 (l0_0.length : Int) 0 l0_0 a0_1 a0_2) = some r := by rw [if_neg (show ¬ (false = true) by decide)] at H; exact H
   clear H
   have H := H1
   clear H1
   have H' := Aside0.mk H
   clear H
   obtain ⟨qB, qC, qD, qE, qF, qG⟩ := b3_ qc
   go_wp2
   repeat (go_quiet (fail); try go_wp2)
   go_loopg [18] kj1 (fun kq v18 w' => ∃ (qa : Int), v18 = .int .i64 qa ∧ Aside0 (impl_IsAtom.l0 kq l0_0 (l0_0.length : Int) qa l0_0 a0_1 a0_2 = some r) ∧ Aside0 (kq ≤ kj1) ∧ Aside0 (w'.heap[qi]? = some (.cells #[(.slice A0_0 l0_0.length c0_0), .int .i64 a0_1, .bool a0_2] 27 (0, 0))) ∧ Aside0 (Below w.heap.size w w'))
   case atStart => exact ⟨(0), (by first | rfl | (simp; done) | (simp [*]; done)), H', ⟨Nat.le_refl _⟩, ⟨kf_ qc⟩, ⟨bb_ HB⟩⟩
   case round =>
    clear H'
    try clear p2
    try clear c4
    try clear qh
    try clear qA
    try clear c5
    try clear c8
    try clear ql
    try clear qm
    try clear qn
    try clear qr
    try clear qs
    try clear qt
    try clear qB
    try clear qC
    try clear qD
    try clear qo
    try clear qp
    try clear qq
    try clear qu
    try clear qv
    try clear qw
    try clear qE
    try clear qF
    try clear qG
    try clear p2
    obtain ⟨qa, rfl, HA, HK2, qc, HB⟩ := hrel
    cases gk with
    | zero => exact absurd HA.out (by simp [impl_IsAtom.l0])
    | succ k2 =>
     have H := HA.out
     clear HA
     simp only [impl_IsAtom.l0] at H
     by_cases c10 : qa < (l0_0.length : Int)
     rotate_left
     ·
      rw [if_neg c10] at H
      have qH : decide (qa < (l0_0.length : Int)) = false := decide_eq_false c10
      clear c10
      replace H := Option.bind_eq_some_iff.mp H
      obtain ⟨qd, A150, H⟩ := H
      replace H : ((impl_commonDivisor.f k2 qd a0_1).bind fun qf => (some (decide (qf ≤ 1)))) = some r := H
      have A15 := Aside0.mk A150
      clear A150
      replace H := Option.bind_eq_some_iff.mp H
      obtain ⟨qf, A160, H⟩ := H
      replace H : (some (decide (qf ≤ 1))) = some r := H
      have A16 := Aside0.mk A160
      clear A160
      obtain rfl := Option.some.inj H
      obtain ⟨qJ, qK, qL, qM, qN, qO⟩ := b3_ qc
      go_wp2_with (first | (go_at_call 93; (with_reducible refine (impl_divisorOf.calls k2 _ _ l0_0 qd _ ?side1 ?side2 A15.out).mono ?_); (case side1 => exact cb_ qg HB); (case side2 => exact qk.out); rintro e w' ⟨rfl, ⟨nd, rfl⟩⟩; (try first | exact ⟨rfl, _, World.drewN_drewN _ _ _⟩ | exact ⟨rfl, _, Eq.trans (World.drewN_drewN _ _ _) (congrArg (World.drewN _) (Nat.add_assoc _ _ _))⟩)) | (go_at_call 92; (with_reducible refine (impl_commonDivisor.calls k2 qd a0_1 qf _ A16.out).mono ?_); rintro e w' ⟨rfl, ⟨nd, rfl⟩⟩; (try first | exact ⟨rfl, _, World.drewN_drewN _ _ _⟩ | exact ⟨rfl, _, Eq.trans (World.drewN_drewN _ _ _) (congrArg (World.drewN _) (Nat.add_assoc _ _ _))⟩)))
      repeat (go_quiet (first | (go_at_call 93; (with_reducible refine (impl_divisorOf.calls k2 _ _ l0_0 qd _ ?side1 ?side2 A15.out).mono ?_); (case side1 => exact cb_ qg HB); (case side2 => exact qk.out); rintro e w' ⟨rfl, ⟨nd, rfl⟩⟩; (try first | exact ⟨rfl, _, World.drewN_drewN _ _ _⟩ | exact ⟨rfl, _, Eq.trans (World.drewN_drewN _ _ _) (congrArg (World.drewN _) (Nat.add_assoc _ _ _))⟩)) | (go_at_call 92; (with_reducible refine (impl_commonDivisor.calls k2 qd a0_1 qf _ A16.out).mono ?_); rintro e w' ⟨rfl, ⟨nd, rfl⟩⟩; (try first | exact ⟨rfl, _, World.drewN_drewN _ _ _⟩ | exact ⟨rfl, _, Eq.trans (World.drewN_drewN _ _ _) (congrArg (World.drewN _) (Nat.add_assoc _ _ _))⟩))); try go_wp2_with (first | (go_at_call 93; (with_reducible refine (impl_divisorOf.calls k2 _ _ l0_0 qd _ ?side1 ?side2 A15.out).mono ?_); (case side1 => exact cb_ qg HB); (case side2 => exact qk.out); rintro e w' ⟨rfl, ⟨nd, rfl⟩⟩; (try first | exact ⟨rfl, _, World.drewN_drewN _ _ _⟩ | exact ⟨rfl, _, Eq.trans (World.drewN_drewN _ _ _) (congrArg (World.drewN _) (Nat.add_assoc _ _ _))⟩)) | (go_at_call 92; (with_reducible refine (impl_commonDivisor.calls k2 qd a0_1 qf _ A16.out).mono ?_); rintro e w' ⟨rfl, ⟨nd, rfl⟩⟩; (try first | exact ⟨rfl, _, World.drewN_drewN _ _ _⟩ | exact ⟨rfl, _, Eq.trans (World.drewN_drewN _ _ _) (congrArg (World.drewN _) (Nat.add_assoc _ _ _))⟩))))
      go_ret
      exact ⟨by first | rfl | (simp [errW_none, errW_some] <;> rfl) | (simp [*, errW_none, errW_some] <;> rfl), bb_ HB⟩
     rw [if_pos c10] at H
     have qH : decide (qa < (l0_0.length : Int)) = true := decide_eq_true c10
     clear c10
     by_cases c11 : 0 ≤ qa
     rotate_left
     ·
      rw [if_neg c11] at H
      exact absurd H (by simp)
     rw [if_pos c11] at H
     have qP : decide (0 ≤ qa) = true := decide_eq_true c11
     clear c11
     by_cases c12 : qa < (l0_0.length : Int)
     rotate_left
     ·
      rw [if_neg c12] at H
      exact absurd H (by simp)
     rw [if_pos c12] at H
     have qQ : decide (qa < (l0_0.length : Int)) = true := decide_eq_true c12
     clear c12
     replace H := Option.bind_eq_some_iff.mp H
     obtain ⟨qx, A130, H⟩ := H
     replace H : (if qx = true then (impl_IsAtom.l0 k2 l0_0 (l0_0.length : Int) (wrap64 (qa + 1)) l0_0 a0_1 a0_2) else (some false)) = some r := H
     have A13 := Aside0.mk A130
     clear A130
     by_cases c14 : qx = true
     rotate_left
     ·
      replace c14 := Bool.eq_false_iff.mpr c14
      subst c14
      have H1 : (some false) = some r := by rw [if_neg (show ¬ (false = true) by decide)] at H; exact H
      clear H
      have H := H1
      clear H1
      obtain rfl := Option.some.inj H
      have p213 : 0 ≤ (qa : Int) := of_decide_eq_true (by first | (with_reducible assumption) | assumption)
      have q213 : qa < (l0_0.length : Int) := of_decide_eq_true (by first | (with_reducible assumption) | assumption)
      obtain ⟨qI, e213, qb⟩ := Kd.at_int qg.out qa p213 q213
      cases e213
      replace qb := (HB.out.cell (World.block_lt_of_cell? w _ qb)).trans qb
      replace p213 := eq_true p213
      replace q213 := eq_true q213
      go_wp2_with (first | (go_at_call 61; (with_reducible refine (impl_IsNumber.calls (rd l0_0 qa) false _ A13.out).mono ?_); rintro e w' ⟨rfl, ⟨nd, rfl⟩⟩; (try first | exact ⟨rfl, _, World.drewN_drewN _ _ _⟩ | exact ⟨rfl, _, Eq.trans (World.drewN_drewN _ _ _) (congrArg (World.drewN _) (Nat.add_assoc _ _ _))⟩)))
      repeat (go_quiet (first | (go_at_call 61; (with_reducible refine (impl_IsNumber.calls (rd l0_0 qa) false _ A13.out).mono ?_); rintro e w' ⟨rfl, ⟨nd, rfl⟩⟩; (try first | exact ⟨rfl, _, World.drewN_drewN _ _ _⟩ | exact ⟨rfl, _, Eq.trans (World.drewN_drewN _ _ _) (congrArg (World.drewN _) (Nat.add_assoc _ _ _))⟩))); try go_wp2_with (first | (go_at_call 61; (with_reducible refine (impl_IsNumber.calls (rd l0_0 qa) false _ A13.out).mono ?_); rintro e w' ⟨rfl, ⟨nd, rfl⟩⟩; (try first | exact ⟨rfl, _, World.drewN_drewN _ _ _⟩ | exact ⟨rfl, _, Eq.trans (World.drewN_drewN _ _ _) (congrArg (World.drewN _) (Nat.add_assoc _ _ _))⟩))))
      go_ret
      exact ⟨by first | rfl | (simp [errW_none, errW_some] <;> rfl) | (simp [*, errW_none, errW_some] <;> rfl), bb_ HB⟩
     subst c14
     have H1 : (impl_IsAtom.l0 k2 l0_0 (l0_0.length : Int) (wrap64 (qa + 1)) l0_0 a0_1 a0_2) = some r := by rw [if_pos rfl] at H; exact H
     clear H
     have H := H1
     clear H1
     have H' := Aside0.mk H
     clear H
     have p213 : 0 ≤ (qa : Int) := of_decide_eq_true (by first | (with_reducible assumption) | assumption)
     have q213 : qa < (l0_0.length : Int) := of_decide_eq_true (by first | (with_reducible assumption) | assumption)
     obtain ⟨qI, e213, qb⟩ := Kd.at_int qg.out qa p213 q213
     cases e213
     replace qb := (HB.out.cell (World.block_lt_of_cell? w _ qb)).trans qb
     replace p213 := eq_true p213
     replace q213 := eq_true q213
     go_wp2_with (first | (go_at_call 61; (with_reducible refine (impl_IsNumber.calls (rd l0_0 qa) true _ A13.out).mono ?_); rintro e w' ⟨rfl, ⟨nd, rfl⟩⟩; (try first | exact ⟨rfl, _, World.drewN_drewN _ _ _⟩ | exact ⟨rfl, _, Eq.trans (World.drewN_drewN _ _ _) (congrArg (World.drewN _) (Nat.add_assoc _ _ _))⟩)))
     repeat (go_quiet (first | (go_at_call 61; (with_reducible refine (impl_IsNumber.calls (rd l0_0 qa) true _ A13.out).mono ?_); rintro e w' ⟨rfl, ⟨nd, rfl⟩⟩; (try first | exact ⟨rfl, _, World.drewN_drewN _ _ _⟩ | exact ⟨rfl, _, Eq.trans (World.drewN_drewN _ _ _) (congrArg (World.drewN _) (Nat.add_assoc _ _ _))⟩))); try go_wp2_with (first | (go_at_call 61; (with_reducible refine (impl_IsNumber.calls (rd l0_0 qa) true _ A13.out).mono ?_); rintro e w' ⟨rfl, ⟨nd, rfl⟩⟩; (try first | exact ⟨rfl, _, World.drewN_drewN _ _ _⟩ | exact ⟨rfl, _, Eq.trans (World.drewN_drewN _ _ _) (congrArg (World.drewN _) (Nat.add_assoc _ _ _))⟩))))
     go_roundg k2
     case measure => have := HJ1.out; have := HK2.out; omega
     case rel => exact ⟨(wrap64 (qa + 1)), (by first | rfl | (simp; done) | (simp [*]; done)), H', ⟨by have := HJ1.out; have := HK2.out; omega⟩, ⟨kf_ qc⟩, ⟨bb_ HB⟩⟩

-- NOT PRINTED: function 53 (strings_Builder_Len)

/-! ### impl_FormatAtom: function 14 -/
set_option maxHeartbeats 4000000 in
set_option maxRecDepth 100000 in
theorem Bld.used (b : Nat) (w : World) (h0 : w.cell? ⟨b, 0, none⟩ = some (.pointer (some ⟨b, 0, none⟩))) :
  Calls Tryd.prog 94 #[.pointer (some ⟨b, 0, none⟩)] w fun e w' => e = .returned (.tuple #[]) ∧ w' = w := by
 obtain ⟨j, hj, _⟩ := Option.map_eq_some_iff.1 (show (Tryd.prog.info? 87).map (·.size) = some 2 by kernel_rfl)
 have u1 := run_underlying Tryd.underlying85
 have u2 := run_underlying Tryd.underlying87
 go_enter Tryd.func94, Tryd.ntmps94
 go_wp2
 rw [Lib.run_neq_ptr_same w _ Tryd.underlying85 hj]
 go_wp2
 go_end0
 exact ⟨rfl, rfl⟩
set_option maxHeartbeats 4000000 in
set_option maxRecDepth 100000 in
theorem Bld.fresh (b : Nat) (w : World) (h0 : w.cell? ⟨b, 0, none⟩ = some (.pointer none)) (hsh : w.shape? b = some (87, 2)) (hfz : w.frozen? ⟨b, 0, none⟩ = false) :
  Calls Tryd.prog 94 #[.pointer (some ⟨b, 0, none⟩)] w fun e w' => e = .returned (.tuple #[]) ∧ w' = w.setCell ⟨b, 0, none⟩ (.pointer (some ⟨b, 0, none⟩)) := by
 obtain ⟨j, hj, hjs⟩ := Option.map_eq_some_iff.1 (show (Tryd.prog.info? 87).map (·.size) = some 2 by kernel_rfl)
 have u1 := run_underlying Tryd.underlying85
 have u2 := run_underlying Tryd.underlying87
 have u3 := run_underlying Tryd.underlying129
 go_enter Tryd.func94, Tryd.ntmps94
 go_wp2
 rw [Lib.run_to_unsafe w ⟨b, 0, none⟩ Tryd.underlying85 Tryd.underlying129 hj (by rw [hjs]; decide) hsh (Nat.zero_lt_succ 1)]
 simp only [Result.andThen]
 rw [Oper.upon_value]
 go_wp2
 rw [run_callFunc_extern Tryd.func111 (by kernel_rfl) (by kernel_rfl) (by kernel_rfl) (e := Extern.AbiNoEscape.same) (by kernel_rfl)]
 rw [Lib.run_noEscape]
 simp only [Result.andThen]
 rw [Oper.upon_value]
 go_wp2
 rw [Lib.run_from_unsafe w ⟨b, 0, none⟩ Tryd.underlying129 Tryd.underlying85 hj hsh (by kernel_rfl)]
 simp only [Result.andThen]
 rw [Oper.upon_value]
 go_wp2
 go_end0
 exact ⟨rfl, rfl⟩
set_option maxHeartbeats 4000000 in
set_option maxRecDepth 100000 in
theorem Bld.check (B b : Nat) (bs : List Value) (w : World) (h : Lib.IsBuilder 87 5 B b bs w) :
  Calls Tryd.prog 94 #[.pointer (some ⟨b, 0, none⟩)] w fun e w' => e = .returned (.tuple #[]) ∧ (Lib.BuilderAt 87 5 B b (.pointer (some ⟨b, 0, none⟩)) bs w' ∧ Below B w w') := by
 cases h with
 | inl h =>
  refine (Bld.fresh b w h.cell0 h.shape h.frozen0).mono ?_
  rintro e w' ⟨rfl, rfl⟩
  exact ⟨rfl, h.used _, (Below.refl B w).setCell (p := ⟨b, 0, none⟩) h.1 _⟩
 | inr h =>
  refine (Bld.used b w h.cell0).mono ?_
  rintro e w' ⟨rfl, rfl⟩
  exact ⟨rfl, h, Below.refl B _⟩
set_option maxHeartbeats 4000000 in
set_option maxRecDepth 100000 in
theorem Bld.here {B b : Nat} {p v : Value} {w : World} (h : w.heap[b]? = some (.cells #[p, v] 87 (0, 0))) : b < w.heap.size := (Array.getElem?_eq_some_iff.1 h).1
set_option maxHeartbeats 4000000 in
set_option maxRecDepth 100000 in
theorem Bld.writeByte (B b : Nat) (bs : List Value) (c : Int) (w : World) (h : Lib.IsBuilder 87 5 B b bs w) (hlen : bs.length + 1 ≤ 140737488355328) (hBw : B ≤ w.heap.size) :
  Calls Tryd.prog 54 #[.pointer (some ⟨b, 0, none⟩), .int .u8 c] w fun e w' => e = .returned .nilIface ∧ (Lib.IsBuilder 87 5 B b (bs ++ [.int .u8 c]) w' ∧ Below B w w') := by
 obtain ⟨i0, hi, hz0, hz1, hz2⟩ := info_parts (show (Tryd.prog.info? 5).map (fun i => (i.zero, i.size, i.bytes)) = some (some (.int .u8 0), 1, 1) by kernel_rfl)
 have u1 := run_underlying Tryd.underlying85
 have u2 := run_underlying Tryd.underlying87
 have u3 := run_underlying Tryd.underlying61
 go_enter Tryd.func54, Tryd.ntmps54
 go_wp2_with (go_at_call 94; refine (Bld.check B b bs _ h).mono ?_)
 rintro e w1 ⟨rfl, ⟨hB, v, hbk, hown, hne⟩, hb1⟩
 have hs1 := hb1.size
 have c0 : w1.cell? ⟨b, 0, none⟩ = some (.pointer (some ⟨b, 0, none⟩)) := by rw [Lib.cell_of_heap hbk]; rfl
 have c1 : w1.cell? ⟨b, 1, none⟩ = some v := by rw [Lib.cell_of_heap hbk]; rfl
 go_wp2_with (at_builtin; refine wpList_append_own _ rfl _ _ 61 rfl B 5 i0 (.int .u8 0) 1 1 Tryd.underlying61 hi hz0 hz1 hz2 rfl (by decide) _ _ _ rfl (hown.alloc _) ⟨w1.heap.size, 0, none⟩ 1 1 [.int .u8 c] rfl rfl ?c1 ?c2 ?c3 ?c4 ?c5 ?_)
 case c1 =>
  intro j u hj
  match j, hj with
  | 0, hj => simp at hj; subst hj; simp [Addr.add]
 case c2 => intro u hu; simp at hu; subst hu; rfl
 case c3 => unfold maxLen; omega
 case c4 => omega
 case c5 => simp; omega
 intro v' w2 hown' hgrow _
 have hlt : b < w1.heap.size := Bld.here (B := B) hbk
 have hb2 : w2.heap[b]? = some (.cells #[.pointer (some ⟨b, 0, none⟩), v] 87 (0, 0)) := by
  rw [hgrow.block b (by simp; omega) (fun e => hne e.symm), Lib.alloc_old w1 _ b hlt]
  exact hbk
 have d0 : w2.cell? ⟨b, 0, none⟩ = some (.pointer (some ⟨b, 0, none⟩)) := by rw [Lib.cell_of_heap hb2]; rfl
 have d1 : w2.cell? ⟨b, 1, none⟩ = some v := by rw [Lib.cell_of_heap hb2]; rfl
 have f1 : w2.frozen? ⟨b, 1, none⟩ = false := Lib.frozen_of_heap hb2 1
 obtain ⟨g, cap, rfl⟩ : ∃ g cap, v' = .slice (some ⟨g, 0, none⟩) (bs.length + 1) cap := by
  rcases hown'.2 with ⟨_, h0⟩ | ⟨g, cap, cur, hv, _⟩
  ·
   omega
  ·
   exact ⟨g, cap, hv⟩
 go_wp2
 go_ret
 refine ⟨rfl, .inr ?_, ?_⟩
 ·
  exact Lib.BuilderAt.put (T := 87) (e := 5) hB hb2 (bs' := bs ++ [.int .u8 c]) (by simpa using hown') (by decide)
 exact ((hb1.alloc (by omega) _).grown hgrow (by simp; omega) (fun k hk => (hown.lt k hk).1)).setCell (p := ⟨b, 1, none⟩) hB _
set_option maxHeartbeats 4000000 in
set_option maxRecDepth 100000 in
theorem Bld.writeString (B b : Nat) (bs : List Value) (s : ByteArray) (w : World) (h : Lib.IsBuilder 87 5 B b bs w) (hlen : bs.length + s.size ≤ 140737488355328) (hBw : B ≤ w.heap.size) :
  Calls Tryd.prog 55 #[.pointer (some ⟨b, 0, none⟩), .string s] w fun e w' => e = .returned (.tuple #[.int .i64 s.size, .nilIface]) ∧ (Lib.IsBuilder 87 5 B b (bs ++ Lib.strCells s) w' ∧ Below B w w') := by
 obtain ⟨i0, hi, hz0, hz1, hz2⟩ := info_parts (show (Tryd.prog.info? 5).map (fun i => (i.zero, i.size, i.bytes)) = some (some (.int .u8 0), 1, 1) by kernel_rfl)
 have u1 := run_underlying Tryd.underlying85
 have u2 := run_underlying Tryd.underlying87
 have u3 := run_underlying Tryd.underlying61
 go_enter Tryd.func55, Tryd.ntmps55
 go_wp2_with (go_at_call 94; refine (Bld.check B b bs _ h).mono ?_)
 rintro e w1 ⟨rfl, ⟨hB, v, hbk, hown, hne⟩, hb1⟩
 have hs1 := hb1.size
 have c0 : w1.cell? ⟨b, 0, none⟩ = some (.pointer (some ⟨b, 0, none⟩)) := by rw [Lib.cell_of_heap hbk]; rfl
 have c1 : w1.cell? ⟨b, 1, none⟩ = some v := by rw [Lib.cell_of_heap hbk]; rfl
 go_wp2_with (at_builtin; refine Lib.wpList_append_own_string _ rfl _ _ 61 9 rfl B 5 i0 Tryd.underlying61 Tryd.underlying9 hi hz0 hz1 hz2 _ _ _ rfl hown s rfl ?c3 ?c4 ?c5 ?_)
 case c3 => unfold maxLen; omega
 case c4 => omega
 case c5 => omega
 intro v' w2 hown' hgrow _
 have hlt : b < w1.heap.size := Bld.here (B := B) hbk
 have hb2 : w2.heap[b]? = some (.cells #[.pointer (some ⟨b, 0, none⟩), v] 87 (0, 0)) := by
  rw [hgrow.block b hlt (fun e => hne e.symm)]
  exact hbk
 have d0 : w2.cell? ⟨b, 0, none⟩ = some (.pointer (some ⟨b, 0, none⟩)) := by rw [Lib.cell_of_heap hb2]; rfl
 have d1 : w2.cell? ⟨b, 1, none⟩ = some v := by rw [Lib.cell_of_heap hb2]; rfl
 have f1 : w2.frozen? ⟨b, 1, none⟩ = false := Lib.frozen_of_heap hb2 1
 obtain ⟨ao, n', cap, rfl⟩ : ∃ ao n' cap, v' = .slice ao n' cap := by
  rcases hown'.2 with ⟨hv, _⟩ | ⟨g, cap, cur, hv, _⟩
  ·
   exact ⟨_, _, _, hv⟩
  ·
   exact ⟨_, _, _, hv⟩
 go_wp2
 go_ret2
 refine ⟨rfl, .inr ?_, ?_⟩
 rotate_left
 ·
  exact (hb1.grown hgrow (by omega) (fun k hk => (hown.lt k hk).1)).setCell (p := ⟨b, 1, none⟩) hB _
 exact Lib.BuilderAt.put (T := 87) (e := 5) hB hb2 (bs' := bs ++ Lib.strCells s) (by simpa [Lib.strCells_length] using hown') (by decide)
/-- The builder in block b (one of the blocks from B on) holds these bytes. -/
def Bl (B b : Nat) (acc : List UInt8) (w : World) : Prop := Lib.IsBuilder 87 5 B b (Lib.byteCells acc) w
theorem Bl.below {B b : Nat} {acc : List UInt8} {W W' : World} (h : Bl B b acc W) (hb : Below W.heap.size W W') : Bl B b acc W' := by
 have k : ∀ p, Lib.BuilderAt 87 5 B b p (Lib.byteCells acc) W → Lib.BuilderAt 87 5 B b p (Lib.byteCells acc) W' := by
  intro p h
  have hlt := h.lt
  obtain ⟨hB, v, hv, hown, hne⟩ := h
  exact ⟨hB, v, (hb.block b hlt).trans hv, hown.kept (row := none) ⟨hb.os, hb.tape, hb.output, hb.size, fun k hk _ => hb.block k hk⟩ (Classical.em _), hne⟩
 exact Or.imp (k _) (k _) h
theorem Bl.new (w : World) : Bl w.heap.size w.heap.size [] (w.alloc (.cells #[.pointer none, .slice none 0 0] 87)) := Lib.fresh_isBuilder _ _ w
theorem Bl.len {B b : Nat} {acc : List UInt8} {w : World} (h : Bl B b acc w) :
  Calls Tryd.prog 53 #[.pointer (some ⟨b, 0, none⟩)] w fun e w' => e = .returned (.int .i64 (acc.length : Int)) ∧ w' = w := by
 have := Tryd.Builder_Len B b _ w h
 rwa [Lib.byteCells_length] at this
theorem Bl.byte {B b : Nat} {acc : List UInt8} {w : World} (c : UInt8) (h : Bl B b acc w) (hl : acc.length ≤ 1000000) (hB : B ≤ w.heap.size) :
  Calls Tryd.prog 54 #[.pointer (some ⟨b, 0, none⟩), .int .u8 (c.toNat : Int)] w fun e w' => e = .returned .nilIface ∧ Bl B b (acc ++ [c]) w' ∧ Below B w w' := by
 refine (Bld.writeByte B b _ (c.toNat : Int) w h (by rw [Lib.byteCells_length]; omega) hB).mono ?_
 rintro e w' ⟨rfl, h1, h2⟩
 refine ⟨rfl, ?_, h2⟩
 unfold Bl
 rw [Lib.byteCells_append]
 exact h1
theorem Bl.byteI {B b : Nat} {acc : List UInt8} {w : World} (x : Int) (c : UInt8) (hx : (c.toNat : Int) = x) (h : Bl B b acc w) (hl : acc.length ≤ 1000000) (hB : B ≤ w.heap.size) :
  Calls Tryd.prog 54 #[.pointer (some ⟨b, 0, none⟩), .int .u8 x] w fun e w' => e = .returned .nilIface ∧ Bl B b (acc ++ [c]) w' ∧ Below B w w' := by
 subst hx
 exact Bl.byte c h hl hB
theorem Bl.str {B b : Nat} {acc : List UInt8} {w : World} (s : ByteArray) (h : Bl B b acc w) (hl : acc.length ≤ 1000000) (hs : s.size ≤ 1000000) (hB : B ≤ w.heap.size) :
  Calls Tryd.prog 55 #[.pointer (some ⟨b, 0, none⟩), .string s] w fun e w' => e = .returned (.tuple #[.int .i64 s.size, .nilIface]) ∧ Bl B b (acc ++ s.data.toList) w' ∧ Below B w w' := by
 refine (Bld.writeString B b _ s w h (by rw [Lib.byteCells_length]; omega) hB).mono ?_
 rintro e w' ⟨rfl, h1, h2⟩
 refine ⟨rfl, ?_, h2⟩
 unfold Bl
 rw [Lib.byteCells_append]
 exact h1
theorem Bl.out {B b : Nat} {acc : List UInt8} {w : World} (h : Bl B b acc w) (hB : B ≤ w.heap.size) :
  Calls Tryd.prog 57 #[.pointer (some ⟨b, 0, none⟩)] w fun e w' => e = .returned (.string ⟨acc.toArray⟩) ∧ Below B w w' := by
 refine (Tryd.Builder_String_any B b acc w h hB).mono ?_
 rintro e w' h
 exact h

def FA.nm (i : Nat) : UInt8 := if i = 0 then 120 else if i = 1 then 121 else if i = 2 then 122 else 116
def FA.plus (acc : List UInt8) (n : Int) : List UInt8 := if 0 < n ∧ 0 < acc.length then acc ++ [43] else acc
def FA.tail (acc : List UInt8) (s : Bool) : Option ByteArray := if acc.length ≤ 900000 then some ⟨(acc ++ (if s then [60, 48] else [60, 61, 48])).toArray⟩ else none
def FA.fin (acc : List UInt8) (c : Int) (s : Bool) : Option ByteArray := if c = 0 ∧ 0 < acc.length then FA.tail acc s else (impl_FormatInt.f c).bind fun t => if acc.length ≤ 800000 ∧ t.size ≤ 100 then FA.tail (FA.plus acc c ++ t.data.toList) s else none
def FA.step (acc : List UInt8) (i : Nat) (n : Int) : Option (List UInt8) := if n = 0 then some acc else if acc.length ≤ 700000 then (if n = 1 then some (FA.plus acc n ++ [FA.nm i]) else if n = -1 then some (FA.plus acc n ++ [45] ++ [FA.nm i]) else (impl_FormatInt.f n).bind fun t => if t.size ≤ 100 then some (FA.plus acc n ++ t.data.toList ++ [FA.nm i]) else none) else none
def FA.go : List Int → Nat → List UInt8 → Option (List UInt8)
 | [], _, acc => some acc
 | n :: ns, i, acc => (FA.step acc i n).bind fun a => FA.go ns (i + 1) a
def impl_FormatAtom.f (k : Nat) (l0_0 : List Int) (a0_1 : Int) (a0_2 : Bool) : Option (ByteArray) := (impl_IsAtom.f k l0_0 a0_1 a0_2).bind fun t => if t = true then (if l0_0.length ≤ 4 then (FA.go l0_0 0 []).bind fun acc => FA.fin acc a0_1 a0_2 else none) else some ⟨#[]⟩
theorem impl_FormatAtom.mono : ∀ l0_0 a0_1 a0_2 k, LeO (impl_FormatAtom.f k l0_0 a0_1 a0_2) (impl_FormatAtom.f (k + 1) l0_0 a0_1 a0_2) := fun l c s k => LeO.bind (impl_IsAtom.mono l c s k) (fun _ => LeO.refl _)
theorem FA.nm_get : ∀ (i : Nat) (h : i < 4), (⟨#[120, 121, 122, 116]⟩ : ByteArray)[i]'h = FA.nm i
 | 0, _ => rfl | 1, _ => rfl | 2, _ => rfl | 3, _ => rfl
 | n + 4, h => by omega
theorem FA.plus_len (acc : List UInt8) (n : Int) : (FA.plus acc n).length ≤ acc.length + 1 := by unfold FA.plus; split <;> simp
theorem FA.cell {W : World} {g : Nat} {A : Option Addr} {n c : Nat} {x : Int} {s : Bool} (h : W.heap[g]? = some (.cells #[.slice A n c, .int .i64 x, .bool s] 27 (0, 0))) :
  W.cell? ⟨g, 0, none⟩ = some (.slice A n c) ∧ W.cell? ⟨g, 1, none⟩ = some (.int .i64 x) ∧ W.cell? ⟨g, 2, none⟩ = some (.bool s) := by
 refine ⟨?_, ?_, ?_⟩ <;> (rw [Lib.cell_of_heap h]; rfl)
/-- What is carried: the box of the parameter, the builder, the frame. -/
structure FA.St (w : World) (g B : Nat) (A : Option Addr) (n c0 : Nat) (x : Int) (s : Bool) (acc : List UInt8) (W : World) : Prop where
 gB : g < B
 wg : w.heap.size ≤ g
 box : W.heap[g]? = some (.cells #[.slice A n c0, .int .i64 x, .bool s] 27 (0, 0))
 bl : Bl B B acc W
 lt : B < W.heap.size
 bw : Below w.heap.size w W
theorem FA.St.on {w : World} {g B : Nat} {A : Option Addr} {n c0 : Nat} {x : Int} {s : Bool} {acc acc' : List UInt8} {W W' : World} (h : FA.St w g B A n c0 x s acc W) (hb : Bl B B acc' W') (hw : Below B W W') : FA.St w g B A n c0 x s acc' W' :=
 ⟨h.gB, h.wg, (hw.block _ h.gB).trans h.box, hb, Nat.lt_of_lt_of_le h.lt hw.size, h.bw.trans (hw.mono (Nat.le_trans h.wg (Nat.le_of_lt h.gB)))⟩
theorem FA.St.grown {w : World} {g B : Nat} {A : Option Addr} {n c0 : Nat} {x : Int} {s : Bool} {acc : List UInt8} {W W' : World} (h : FA.St w g B A n c0 x s acc W) (hw : Below W.heap.size W W') : FA.St w g B A n c0 x s acc W' :=
 h.on (h.bl.below hw) (hw.mono (Nat.le_of_lt h.lt))
set_option maxHeartbeats 8000000 in
set_option maxRecDepth 100000 in
theorem impl_FormatAtom.calls (k : Nat) (A0_0 : Option Addr) (c0_0 : Nat) (l0_0 : List Int) (a0_1 : Int) (a0_2 : Bool) (r : ByteArray) (w : World) (hL : LaidW w) (hr0_0 : Kd.C (Kd.int .i64) w A0_0 l0_0.length l0_0) (hc0_0 : l0_0.length ≤ c0_0) (h : impl_FormatAtom.f k l0_0 a0_1 a0_2 = some r) :
  Calls Tryd.prog 14 #[.agg #[.slice A0_0 l0_0.length c0_0, .int .i64 a0_1, .bool a0_2]] w fun e w' => e = .returned (.string r) ∧ Below w.heap.size w w' := by
 have HL_ := Aside0.mk hL
 have HR0 := Aside0.mk hr0_0
 have HC0 := Aside0.mk hc0_0
 clear hL hr0_0 hc0_0
 have hu27 := Tryd.underlying27
 unfold impl_FormatAtom.f at h
 obtain ⟨t, hA, h⟩ := Option.bind_eq_some_iff.mp h
 have HA := Aside0.mk hA
 have H := Aside0.mk h
 clear hA h
 cases t with
 | false =>
  obtain rfl := Option.some.inj H.out
  go_enter Tryd.func14, Tryd.ntmps14
  go_wp2_with (first | ((with_reducible refine gate_dst (N := 1) rfl ?_); refine bx_ (cs := #[.slice A0_0 l0_0.length c0_0, .int .i64 a0_1, .bool a0_2]) (t := 27) ?_; intro g hg w1 hbox hb; have HX := Aside0.mk hbox; have HG := Aside0.mk hg; have HB := Aside0.mk hb; obtain ⟨e0, e1, e2⟩ := FA.cell hbox; clear hbox hg hb) | (go_at_call 52; refine (impl_IsAtom.calls k A0_0 c0_0 l0_0 a0_1 a0_2 _ _ (Kd.C_below HR0.out HB.out) HC0.out HA.out).mono ?_; rintro e w2 ⟨rfl, hb2⟩; replace HX := Aside0.mk (blk_below HX.out hb2); replace HB := Aside0.mk (below_step HB.out hb2); clear hb2 e0 e1 e2; have hgw := (Array.getElem?_eq_some_iff.1 HX.out).1; have e0 := fun o => (FA.cell ((Lib.alloc_old w2 o g hgw).trans HX.out)).1))
  go_ret
  exact ⟨rfl, HB.out⟩
 | true =>
  have H1 := H.out
  clear H
  rw [if_pos rfl] at H1
  by_cases h4 : l0_0.length ≤ 4
  rotate_left
  ·
   rw [if_neg h4] at H1; exact absurd H1 (by simp)
  rw [if_pos h4] at H1
  obtain ⟨fa, hgo, hfin⟩ := Option.bind_eq_some_iff.mp H1
  have HGO := Aside0.mk hgo
  have HFIN := Aside0.mk hfin
  have H4 := Aside0.mk h4
  clear H1 hgo hfin h4
  go_enter Tryd.func14, Tryd.ntmps14
  go_wp2_with (first | ((with_reducible refine gate_dst (N := 1) rfl ?_); refine bx_ (cs := #[.slice A0_0 l0_0.length c0_0, .int .i64 a0_1, .bool a0_2]) (t := 27) ?_; intro g hg w1 hbox hb; have HX := Aside0.mk hbox; have HG := Aside0.mk hg; have HB := Aside0.mk hb; obtain ⟨e0, e1, e2⟩ := FA.cell hbox; clear hbox hg hb) | (go_at_call 52; refine (impl_IsAtom.calls k A0_0 c0_0 l0_0 a0_1 a0_2 _ _ (Kd.C_below HR0.out HB.out) HC0.out HA.out).mono ?_; rintro e w2 ⟨rfl, hb2⟩; replace HX := Aside0.mk (blk_below HX.out hb2); replace HB := Aside0.mk (below_step HB.out hb2); clear hb2 e0 e1 e2; have hgw := (Array.getElem?_eq_some_iff.1 HX.out).1; have e0 := fun o => (FA.cell ((Lib.alloc_old w2 o g hgw).trans HX.out)).1))
  have HS : FA.St w g w2.heap.size A0_0 l0_0.length c0_0 a0_1 a0_2 [] (w2.alloc (.cells #[.pointer none, .slice none 0 0] 87)) := ⟨hgw, by rw [HG.out]; exact Nat.le_refl _, (Lib.alloc_old w2 _ g hgw).trans HX.out, Bl.new w2, by simp, below_alloc HB.out _⟩
  clear e0 hgw HX HG HB
  generalize w2.heap.size = B at HS ⊢
  generalize w2.alloc (.cells #[.pointer none, .slice none 0 0] 87) = W at HS ⊢
  obtain ⟨K, hK⟩ : ∃ K, K = l0_0.length + 1 := ⟨_, rfl⟩
  have HK0 := Aside0.mk hK
  clear hK
  go_loopg [12] K (fun kq v12 wc => ∃ (acc : List UInt8) (i : Nat), v12 = .int .i64 (i : Int) ∧ Aside0 (FA.go (l0_0.drop i) i acc = some fa) ∧ Aside0 (i + kq = l0_0.length + 1) ∧ Aside0 (i ≤ l0_0.length) ∧ FA.St w g B A0_0 l0_0.length c0_0 a0_1 a0_2 acc wc)
  case atStart => exact ⟨[], 0, rfl, by rw [List.drop_zero]; exact HGO, ⟨by have := HK0.out; omega⟩, ⟨Nat.zero_le _⟩, HS⟩
  case round =>
   clear HS HGO
   obtain ⟨acc, i, rfl, HGO, HK1, HI, HS⟩ := hrel
   cases gk with
   | zero => have := HK1.out; have := HI.out; omega
   | succ k1 =>
   obtain ⟨e0, e1, e2⟩ := FA.cell HS.box
   by_cases hi : i < l0_0.length
   ·
    have hlt : decide ((i : Int) < (l0_0.length : Int)) = true := by simpa using hi
    obtain ⟨qf, e242, qd⟩ := Kd.at_int (Kd.C_below HR0.out HS.bw) (i : Int) (by omega) (by omega)
    cases e242
    rw [Int.toNat_natCast] at qd
    have hq := List.drop_eq_getElem_cons hi
    have hrd : rd l0_0 (i : Int) = l0_0[i] := by simp [rd, List.getD_eq_getElem?_getD, hi]
    have HG1 := HGO.out
    rw [hq, FA.go, ← hrd] at HG1
    clear hq HGO
    generalize rd l0_0 (i : Int) = n at qd HG1 hrd
    clear hrd
    obtain ⟨a1, hst, hgo⟩ := Option.bind_eq_some_iff.mp HG1
    have HGO := Aside0.mk hgo
    clear HG1 hgo
    have h4 := H4.out
    have hwr : wrap64 ((i : Int) + 1) = ((i + 1 : Nat) : Int) := by unfold wrap64; omega
    have i0 : (0 ≤ (i : Int)) = True := eq_true (by omega)
    have i4 : ((i : Int) < 4) = True := eq_true (by omega)
    unfold FA.step at hst
    by_cases c0 : n = 0
    ·
     rw [if_pos c0] at hst
     obtain rfl := Option.some.inj hst
     have c0b : (n == 0) = true := beq_iff_eq.mpr c0
     clear c0 hst
     go_wp2
     go_roundg k1
     case measure => have := HK1.out; omega
     case rel => exact ⟨acc, i + 1, by first | rfl | (simp [hwr]; done), HGO, ⟨by have := HK1.out; omega⟩, ⟨by omega⟩, HS⟩
    rw [if_neg c0] at hst
    have c0b : (n == 0) = false := beq_eq_false_iff_ne.mpr c0
    by_cases cl : acc.length ≤ 700000
    rotate_left
    ·
     rw [if_neg cl] at hst; exact absurd hst (by simp)
    rw [if_pos cl] at hst
    by_cases c1 : n = 1
    ·
     rw [if_pos c1] at hst
     have c1b : (n == 1) = true := beq_iff_eq.mpr c1
     have cg : decide (0 < n) = true := decide_eq_true (by omega)
     by_cases ca : 0 < acc.length
     rotate_left
     ·
      have cab : decide ((0 : Int) < (acc.length : Int)) = false := decide_eq_false (by omega)
      have cac : decide (0 < acc.length) = false := decide_eq_false ca
      have ep : FA.plus acc n = acc := by unfold FA.plus; rw [if_neg (by omega)]
      go_wp2_with (first | (go_at_call 53; refine (Bl.len HS.bl).mono ?_; rintro e W1 ⟨rfl, rfl⟩) | (go_at_call 54; refine (Bl.byteI _ _ rfl HS.bl (by first | omega | (simp; omega)) (Nat.le_of_lt HS.lt)).mono ?_; rintro e W1 ⟨rfl, hb_, hw_⟩; replace HS := HS.on hb_ hw_; clear hb_ hw_ e0 e1 e2; obtain ⟨e0, e1, e2⟩ := FA.cell HS.box))
      go_roundg k1
      case measure => have := HK1.out; omega
      case rel =>
       obtain rfl := Option.some.inj hst
       refine ⟨_, i + 1, by first | rfl | simp, HGO, ⟨by have := HK1.out; omega⟩, ⟨by omega⟩, ?_⟩
       rw [ep, ← FA.nm_get i (by omega)]
       exact HS
     have cab : decide ((0 : Int) < (acc.length : Int)) = true := decide_eq_true (by omega)
     have cac : decide (0 < acc.length) = true := decide_eq_true ca
     have ep : FA.plus acc n = acc ++ [43] := by unfold FA.plus; rw [if_pos ⟨by omega, ca⟩]
     go_wp2_with (first | (go_at_call 53; refine (Bl.len HS.bl).mono ?_; rintro e W1 ⟨rfl, rfl⟩) | (go_at_call 54; refine (Bl.byteI _ 43 (by rfl) HS.bl (by first | omega | (simp; omega)) (Nat.le_of_lt HS.lt)).mono ?_; rintro e W1 ⟨rfl, hb_, hw_⟩; replace HS := HS.on hb_ hw_; clear hb_ hw_ e0 e1 e2; obtain ⟨e0, e1, e2⟩ := FA.cell HS.box) | (go_at_call 54; refine (Bl.byteI _ _ rfl HS.bl (by first | omega | (simp; omega)) (Nat.le_of_lt HS.lt)).mono ?_; rintro e W1 ⟨rfl, hb_, hw_⟩; replace HS := HS.on hb_ hw_; clear hb_ hw_ e0 e1 e2; obtain ⟨e0, e1, e2⟩ := FA.cell HS.box))
     go_roundg k1
     case measure => have := HK1.out; omega
     case rel =>
      obtain rfl := Option.some.inj hst
      refine ⟨_, i + 1, by first | rfl | simp, HGO, ⟨by have := HK1.out; omega⟩, ⟨by omega⟩, ?_⟩
      rw [ep, ← FA.nm_get i (by omega)]
      exact HS
    rw [if_neg c1] at hst
    have c1b : (n == 1) = false := beq_eq_false_iff_ne.mpr c1
    by_cases c2 : n = -1
    ·
     rw [if_pos c2] at hst
     have c2b : (n == -1) = true := beq_iff_eq.mpr c2
     have cg : decide (0 < n) = false := decide_eq_false (by omega)
     have ep : FA.plus acc n = acc := by unfold FA.plus; rw [if_neg (by omega)]
     go_wp2_with (first | (go_at_call 54; refine (Bl.byteI _ 45 (by rfl) HS.bl (by first | omega | (simp; omega)) (Nat.le_of_lt HS.lt)).mono ?_; rintro e W1 ⟨rfl, hb_, hw_⟩; replace HS := HS.on hb_ hw_; clear hb_ hw_ e0 e1 e2; obtain ⟨e0, e1, e2⟩ := FA.cell HS.box) | (go_at_call 54; refine (Bl.byteI _ _ rfl HS.bl (by first | omega | (simp; omega)) (Nat.le_of_lt HS.lt)).mono ?_; rintro e W1 ⟨rfl, hb_, hw_⟩; replace HS := HS.on hb_ hw_; clear hb_ hw_ e0 e1 e2; obtain ⟨e0, e1, e2⟩ := FA.cell HS.box))
     go_roundg k1
     case measure => have := HK1.out; omega
     case rel =>
      obtain rfl := Option.some.inj hst
      refine ⟨_, i + 1, by first | rfl | simp, HGO, ⟨by have := HK1.out; omega⟩, ⟨by omega⟩, ?_⟩
      rw [ep, ← FA.nm_get i (by omega)]
      exact HS
    rw [if_neg c2] at hst
    have c2b : (n == -1) = false := beq_eq_false_iff_ne.mpr c2
    obtain ⟨tt, hfi, hst⟩ := Option.bind_eq_some_iff.mp hst
    have HFI := Aside0.mk hfi
    clear hfi
    by_cases ct : tt.size ≤ 100
    rotate_left
    ·
     rw [if_neg ct] at hst; exact absurd hst (by simp)
    rw [if_pos ct] at hst
    by_cases cp : 0 < n
    rotate_left
    ·
     have cg : decide (0 < n) = false := decide_eq_false (by omega)
     have ep : FA.plus acc n = acc := by unfold FA.plus; rw [if_neg (by omega)]
     go_wp2_with (first | (go_at_call 56; refine (impl_FormatInt.calls n tt _ (laid_ HL_ (Aside0.mk HS.bw)) HFI.out).mono ?_; rintro e W1 ⟨rfl, hw_⟩; replace HS := HS.grown hw_; clear hw_ e0 e1 e2; obtain ⟨e0, e1, e2⟩ := FA.cell HS.box) | (go_at_call 55; refine (Bl.str tt HS.bl (by first | omega | (simp; omega)) (by first | omega | decide) (Nat.le_of_lt HS.lt)).mono ?_; rintro e W1 ⟨rfl, hb_, hw_⟩; replace HS := HS.on hb_ hw_; clear hb_ hw_ e0 e1 e2; obtain ⟨e0, e1, e2⟩ := FA.cell HS.box) | (go_at_call 54; refine (Bl.byteI _ _ rfl HS.bl (by first | omega | (simp; omega)) (Nat.le_of_lt HS.lt)).mono ?_; rintro e W1 ⟨rfl, hb_, hw_⟩; replace HS := HS.on hb_ hw_; clear hb_ hw_ e0 e1 e2; obtain ⟨e0, e1, e2⟩ := FA.cell HS.box))
     go_roundg k1
     case measure => have := HK1.out; omega
     case rel =>
      obtain rfl := Option.some.inj hst
      refine ⟨_, i + 1, by first | rfl | simp, HGO, ⟨by have := HK1.out; omega⟩, ⟨by omega⟩, ?_⟩
      rw [ep, ← FA.nm_get i (by omega)]
      exact HS
    have cg : decide (0 < n) = true := decide_eq_true (by omega)
    by_cases ca : 0 < acc.length
    rotate_left
    ·
     have cab : decide ((0 : Int) < (acc.length : Int)) = false := decide_eq_false (by omega)
     have cac : decide (0 < acc.length) = false := decide_eq_false ca
     have ep : FA.plus acc n = acc := by unfold FA.plus; rw [if_neg (by omega)]
     go_wp2_with (first | (go_at_call 53; refine (Bl.len HS.bl).mono ?_; rintro e W1 ⟨rfl, rfl⟩) | (go_at_call 56; refine (impl_FormatInt.calls n tt _ (laid_ HL_ (Aside0.mk HS.bw)) HFI.out).mono ?_; rintro e W1 ⟨rfl, hw_⟩; replace HS := HS.grown hw_; clear hw_ e0 e1 e2; obtain ⟨e0, e1, e2⟩ := FA.cell HS.box) | (go_at_call 55; refine (Bl.str tt HS.bl (by first | omega | (simp; omega)) (by first | omega | decide) (Nat.le_of_lt HS.lt)).mono ?_; rintro e W1 ⟨rfl, hb_, hw_⟩; replace HS := HS.on hb_ hw_; clear hb_ hw_ e0 e1 e2; obtain ⟨e0, e1, e2⟩ := FA.cell HS.box) | (go_at_call 54; refine (Bl.byteI _ _ rfl HS.bl (by first | omega | (simp; omega)) (Nat.le_of_lt HS.lt)).mono ?_; rintro e W1 ⟨rfl, hb_, hw_⟩; replace HS := HS.on hb_ hw_; clear hb_ hw_ e0 e1 e2; obtain ⟨e0, e1, e2⟩ := FA.cell HS.box))
     go_roundg k1
     case measure => have := HK1.out; omega
     case rel =>
      obtain rfl := Option.some.inj hst
      refine ⟨_, i + 1, by first | rfl | simp, HGO, ⟨by have := HK1.out; omega⟩, ⟨by omega⟩, ?_⟩
      rw [ep, ← FA.nm_get i (by omega)]
      exact HS
    have cab : decide ((0 : Int) < (acc.length : Int)) = true := decide_eq_true (by omega)
    have cac : decide (0 < acc.length) = true := decide_eq_true ca
    have ep : FA.plus acc n = acc ++ [43] := by unfold FA.plus; rw [if_pos ⟨by omega, ca⟩]
    go_wp2_with (first | (go_at_call 53; refine (Bl.len HS.bl).mono ?_; rintro e W1 ⟨rfl, rfl⟩) | (go_at_call 54; refine (Bl.byteI _ 43 (by rfl) HS.bl (by first | omega | (simp; omega)) (Nat.le_of_lt HS.lt)).mono ?_; rintro e W1 ⟨rfl, hb_, hw_⟩; replace HS := HS.on hb_ hw_; clear hb_ hw_ e0 e1 e2; obtain ⟨e0, e1, e2⟩ := FA.cell HS.box) | (go_at_call 56; refine (impl_FormatInt.calls n tt _ (laid_ HL_ (Aside0.mk HS.bw)) HFI.out).mono ?_; rintro e W1 ⟨rfl, hw_⟩; replace HS := HS.grown hw_; clear hw_ e0 e1 e2; obtain ⟨e0, e1, e2⟩ := FA.cell HS.box) | (go_at_call 55; refine (Bl.str tt HS.bl (by first | omega | (simp; omega)) (by first | omega | decide) (Nat.le_of_lt HS.lt)).mono ?_; rintro e W1 ⟨rfl, hb_, hw_⟩; replace HS := HS.on hb_ hw_; clear hb_ hw_ e0 e1 e2; obtain ⟨e0, e1, e2⟩ := FA.cell HS.box) | (go_at_call 54; refine (Bl.byteI _ _ rfl HS.bl (by first | omega | (simp; omega)) (Nat.le_of_lt HS.lt)).mono ?_; rintro e W1 ⟨rfl, hb_, hw_⟩; replace HS := HS.on hb_ hw_; clear hb_ hw_ e0 e1 e2; obtain ⟨e0, e1, e2⟩ := FA.cell HS.box))
    go_roundg k1
    case measure => have := HK1.out; omega
    case rel =>
     obtain rfl := Option.some.inj hst
     refine ⟨_, i + 1, by first | rfl | simp, HGO, ⟨by have := HK1.out; omega⟩, ⟨by omega⟩, ?_⟩
     rw [ep, ← FA.nm_get i (by omega)]
     exact HS
   have hie : i = l0_0.length := by have := HI.out; omega
   have hlt : decide ((i : Int) < (l0_0.length : Int)) = false := by simpa using hi
   have HG1 := HGO.out
   rw [List.drop_eq_nil_of_le (by omega), FA.go] at HG1
   obtain rfl : acc = fa := Option.some.inj HG1
   have hf := HFIN.out
   clear HG1 HGO HFIN hi
   unfold FA.fin at hf
   by_cases c0 : a0_1 = 0 ∧ 0 < acc.length
   ·
    rw [if_pos c0] at hf
    obtain ⟨rfl, ca⟩ := c0
    have cab : ((acc.length : Int) == 0) = false := beq_eq_false_iff_ne.mpr (by omega)
    unfold FA.tail at hf
    split at hf
    case isFalse => exact absurd hf (by simp)
    case isTrue hlen =>
    obtain rfl := Option.some.inj hf
    cases a0_2
    rotate_left
    ·
     go_wp2_with (first | (go_at_call 53; refine (Bl.len HS.bl).mono ?_; rintro e W1 ⟨rfl, rfl⟩) | (go_at_call 55; refine (Bl.str _ HS.bl (by first | omega | (simp; omega)) (by first | omega | decide) (Nat.le_of_lt HS.lt)).mono ?_; rintro e W1 ⟨rfl, hb_, hw_⟩; replace HS := HS.on hb_ hw_; clear hb_ hw_ e0 e1 e2; obtain ⟨e0, e1, e2⟩ := FA.cell HS.box) | (go_at_call 57; refine (Bl.out HS.bl (Nat.le_of_lt HS.lt)).mono ?_; rintro e W1 ⟨rfl, HO⟩))
     go_ret
     exact ⟨by first | rfl | (simp; done) | (simp; rfl), HS.bw.trans (HO.mono (Nat.le_trans HS.wg (Nat.le_of_lt HS.gB)))⟩
    go_wp2_with (first | (go_at_call 53; refine (Bl.len HS.bl).mono ?_; rintro e W1 ⟨rfl, rfl⟩) | (go_at_call 55; refine (Bl.str _ HS.bl (by first | omega | (simp; omega)) (by first | omega | decide) (Nat.le_of_lt HS.lt)).mono ?_; rintro e W1 ⟨rfl, hb_, hw_⟩; replace HS := HS.on hb_ hw_; clear hb_ hw_ e0 e1 e2; obtain ⟨e0, e1, e2⟩ := FA.cell HS.box) | (go_at_call 57; refine (Bl.out HS.bl (Nat.le_of_lt HS.lt)).mono ?_; rintro e W1 ⟨rfl, HO⟩))
    go_ret
    exact ⟨by first | rfl | (simp; done) | (simp; rfl), HS.bw.trans (HO.mono (Nat.le_trans HS.wg (Nat.le_of_lt HS.gB)))⟩
   rw [if_neg c0] at hf
   obtain ⟨tt, hfi, hg⟩ := Option.bind_eq_some_iff.mp hf
   clear hf
   have hf := hg
   clear hg
   have HFI := Aside0.mk hfi
   clear hfi
   split at hf
   case isFalse => exact absurd hf (by simp)
   case isTrue hct =>
   obtain ⟨hl8, ct⟩ := hct
   by_cases cz : a0_1 = 0
   ·
    have ca : acc.length = 0 := by omega
    have cab : ((acc.length : Int) == 0) = true := beq_iff_eq.mpr (by omega)
    have ep : FA.plus acc a0_1 = acc := by unfold FA.plus; rw [if_neg (by omega)]
    rw [ep] at hf
    subst cz
    unfold FA.tail at hf
    split at hf
    case isFalse => exact absurd hf (by simp)
    case isTrue hlen =>
    obtain rfl := Option.some.inj hf
    cases a0_2
    rotate_left
    ·
     go_wp2_with (first | (go_at_call 53; refine (Bl.len HS.bl).mono ?_; rintro e W1 ⟨rfl, rfl⟩) | (go_at_call 56; refine (impl_FormatInt.calls _ tt _ (laid_ HL_ (Aside0.mk HS.bw)) HFI.out).mono ?_; rintro e W1 ⟨rfl, hw_⟩; replace HS := HS.grown hw_; clear hw_ e0 e1 e2; obtain ⟨e0, e1, e2⟩ := FA.cell HS.box) | (go_at_call 55; refine (Bl.str _ HS.bl (by first | omega | (simp; omega)) (by first | omega | decide) (Nat.le_of_lt HS.lt)).mono ?_; rintro e W1 ⟨rfl, hb_, hw_⟩; replace HS := HS.on hb_ hw_; clear hb_ hw_ e0 e1 e2; obtain ⟨e0, e1, e2⟩ := FA.cell HS.box) | (go_at_call 57; refine (Bl.out HS.bl (Nat.le_of_lt HS.lt)).mono ?_; rintro e W1 ⟨rfl, HO⟩))
     go_ret
     exact ⟨by first | rfl | (simp; done) | (simp; rfl), HS.bw.trans (HO.mono (Nat.le_trans HS.wg (Nat.le_of_lt HS.gB)))⟩
    go_wp2_with (first | (go_at_call 53; refine (Bl.len HS.bl).mono ?_; rintro e W1 ⟨rfl, rfl⟩) | (go_at_call 56; refine (impl_FormatInt.calls _ tt _ (laid_ HL_ (Aside0.mk HS.bw)) HFI.out).mono ?_; rintro e W1 ⟨rfl, hw_⟩; replace HS := HS.grown hw_; clear hw_ e0 e1 e2; obtain ⟨e0, e1, e2⟩ := FA.cell HS.box) | (go_at_call 55; refine (Bl.str _ HS.bl (by first | omega | (simp; omega)) (by first | omega | decide) (Nat.le_of_lt HS.lt)).mono ?_; rintro e W1 ⟨rfl, hb_, hw_⟩; replace HS := HS.on hb_ hw_; clear hb_ hw_ e0 e1 e2; obtain ⟨e0, e1, e2⟩ := FA.cell HS.box) | (go_at_call 57; refine (Bl.out HS.bl (Nat.le_of_lt HS.lt)).mono ?_; rintro e W1 ⟨rfl, HO⟩))
    go_ret
    exact ⟨by first | rfl | (simp; done) | (simp; rfl), HS.bw.trans (HO.mono (Nat.le_trans HS.wg (Nat.le_of_lt HS.gB)))⟩
   have czb : (a0_1 == 0) = false := beq_eq_false_iff_ne.mpr cz
   by_cases cg : 0 < a0_1
   rotate_left
   ·
    have cgb : decide (0 < a0_1) = false := decide_eq_false cg
    have ep : FA.plus acc a0_1 = acc := by unfold FA.plus; rw [if_neg (by omega)]
    rw [ep] at hf
    unfold FA.tail at hf
    split at hf
    case isFalse => exact absurd hf (by simp)
    case isTrue hlen =>
    obtain rfl := Option.some.inj hf
    cases a0_2
    rotate_left
    ·
     go_wp2_with (first | (go_at_call 56; refine (impl_FormatInt.calls _ tt _ (laid_ HL_ (Aside0.mk HS.bw)) HFI.out).mono ?_; rintro e W1 ⟨rfl, hw_⟩; replace HS := HS.grown hw_; clear hw_ e0 e1 e2; obtain ⟨e0, e1, e2⟩ := FA.cell HS.box) | (go_at_call 55; refine (Bl.str _ HS.bl (by first | omega | (simp; omega)) (by first | omega | decide) (Nat.le_of_lt HS.lt)).mono ?_; rintro e W1 ⟨rfl, hb_, hw_⟩; replace HS := HS.on hb_ hw_; clear hb_ hw_ e0 e1 e2; obtain ⟨e0, e1, e2⟩ := FA.cell HS.box) | (go_at_call 57; refine (Bl.out HS.bl (Nat.le_of_lt HS.lt)).mono ?_; rintro e W1 ⟨rfl, HO⟩))
     go_ret
     exact ⟨by first | rfl | (simp; done) | (simp; rfl), HS.bw.trans (HO.mono (Nat.le_trans HS.wg (Nat.le_of_lt HS.gB)))⟩
    go_wp2_with (first | (go_at_call 56; refine (impl_FormatInt.calls _ tt _ (laid_ HL_ (Aside0.mk HS.bw)) HFI.out).mono ?_; rintro e W1 ⟨rfl, hw_⟩; replace HS := HS.grown hw_; clear hw_ e0 e1 e2; obtain ⟨e0, e1, e2⟩ := FA.cell HS.box) | (go_at_call 55; refine (Bl.str _ HS.bl (by first | omega | (simp; omega)) (by first | omega | decide) (Nat.le_of_lt HS.lt)).mono ?_; rintro e W1 ⟨rfl, hb_, hw_⟩; replace HS := HS.on hb_ hw_; clear hb_ hw_ e0 e1 e2; obtain ⟨e0, e1, e2⟩ := FA.cell HS.box) | (go_at_call 57; refine (Bl.out HS.bl (Nat.le_of_lt HS.lt)).mono ?_; rintro e W1 ⟨rfl, HO⟩))
    go_ret
    exact ⟨by first | rfl | (simp; done) | (simp; rfl), HS.bw.trans (HO.mono (Nat.le_trans HS.wg (Nat.le_of_lt HS.gB)))⟩
   have cgb : decide (0 < a0_1) = true := decide_eq_true cg
   by_cases ca : 0 < acc.length
   rotate_left
   ·
    have cab : decide ((0 : Int) < (acc.length : Int)) = false := decide_eq_false (by omega)
    have ep : FA.plus acc a0_1 = acc := by unfold FA.plus; rw [if_neg (by omega)]
    rw [ep] at hf
    unfold FA.tail at hf
    split at hf
    case isFalse => exact absurd hf (by simp)
    case isTrue hlen =>
    obtain rfl := Option.some.inj hf
    cases a0_2
    rotate_left
    ·
     go_wp2_with (first | (go_at_call 53; refine (Bl.len HS.bl).mono ?_; rintro e W1 ⟨rfl, rfl⟩) | (go_at_call 56; refine (impl_FormatInt.calls _ tt _ (laid_ HL_ (Aside0.mk HS.bw)) HFI.out).mono ?_; rintro e W1 ⟨rfl, hw_⟩; replace HS := HS.grown hw_; clear hw_ e0 e1 e2; obtain ⟨e0, e1, e2⟩ := FA.cell HS.box) | (go_at_call 55; refine (Bl.str _ HS.bl (by first | omega | (simp; omega)) (by first | omega | decide) (Nat.le_of_lt HS.lt)).mono ?_; rintro e W1 ⟨rfl, hb_, hw_⟩; replace HS := HS.on hb_ hw_; clear hb_ hw_ e0 e1 e2; obtain ⟨e0, e1, e2⟩ := FA.cell HS.box) | (go_at_call 57; refine (Bl.out HS.bl (Nat.le_of_lt HS.lt)).mono ?_; rintro e W1 ⟨rfl, HO⟩))
     go_ret
     exact ⟨by first | rfl | (simp; done) | (simp; rfl), HS.bw.trans (HO.mono (Nat.le_trans HS.wg (Nat.le_of_lt HS.gB)))⟩
    go_wp2_with (first | (go_at_call 53; refine (Bl.len HS.bl).mono ?_; rintro e W1 ⟨rfl, rfl⟩) | (go_at_call 56; refine (impl_FormatInt.calls _ tt _ (laid_ HL_ (Aside0.mk HS.bw)) HFI.out).mono ?_; rintro e W1 ⟨rfl, hw_⟩; replace HS := HS.grown hw_; clear hw_ e0 e1 e2; obtain ⟨e0, e1, e2⟩ := FA.cell HS.box) | (go_at_call 55; refine (Bl.str _ HS.bl (by first | omega | (simp; omega)) (by first | omega | decide) (Nat.le_of_lt HS.lt)).mono ?_; rintro e W1 ⟨rfl, hb_, hw_⟩; replace HS := HS.on hb_ hw_; clear hb_ hw_ e0 e1 e2; obtain ⟨e0, e1, e2⟩ := FA.cell HS.box) | (go_at_call 57; refine (Bl.out HS.bl (Nat.le_of_lt HS.lt)).mono ?_; rintro e W1 ⟨rfl, HO⟩))
    go_ret
    exact ⟨by first | rfl | (simp; done) | (simp; rfl), HS.bw.trans (HO.mono (Nat.le_trans HS.wg (Nat.le_of_lt HS.gB)))⟩
   have cab : decide ((0 : Int) < (acc.length : Int)) = true := decide_eq_true (by omega)
   have ep : FA.plus acc a0_1 = acc ++ [43] := by unfold FA.plus; rw [if_pos ⟨cg, ca⟩]
   rw [ep] at hf
   unfold FA.tail at hf
   split at hf
   case isFalse => exact absurd hf (by simp)
   case isTrue hlen =>
   obtain rfl := Option.some.inj hf
   cases a0_2
   rotate_left
   ·
    go_wp2_with (first | (go_at_call 53; refine (Bl.len HS.bl).mono ?_; rintro e W1 ⟨rfl, rfl⟩) | (go_at_call 54; refine (Bl.byteI _ 43 (by rfl) HS.bl (by first | omega | (simp; omega)) (Nat.le_of_lt HS.lt)).mono ?_; rintro e W1 ⟨rfl, hb_, hw_⟩; replace HS := HS.on hb_ hw_; clear hb_ hw_ e0 e1 e2; obtain ⟨e0, e1, e2⟩ := FA.cell HS.box) | (go_at_call 56; refine (impl_FormatInt.calls _ tt _ (laid_ HL_ (Aside0.mk HS.bw)) HFI.out).mono ?_; rintro e W1 ⟨rfl, hw_⟩; replace HS := HS.grown hw_; clear hw_ e0 e1 e2; obtain ⟨e0, e1, e2⟩ := FA.cell HS.box) | (go_at_call 55; refine (Bl.str _ HS.bl (by first | omega | (simp; omega)) (by first | omega | decide) (Nat.le_of_lt HS.lt)).mono ?_; rintro e W1 ⟨rfl, hb_, hw_⟩; replace HS := HS.on hb_ hw_; clear hb_ hw_ e0 e1 e2; obtain ⟨e0, e1, e2⟩ := FA.cell HS.box) | (go_at_call 57; refine (Bl.out HS.bl (Nat.le_of_lt HS.lt)).mono ?_; rintro e W1 ⟨rfl, HO⟩))
    go_ret
    exact ⟨by first | rfl | (simp; done) | (simp; rfl), HS.bw.trans (HO.mono (Nat.le_trans HS.wg (Nat.le_of_lt HS.gB)))⟩
   go_wp2_with (first | (go_at_call 53; refine (Bl.len HS.bl).mono ?_; rintro e W1 ⟨rfl, rfl⟩) | (go_at_call 54; refine (Bl.byteI _ 43 (by rfl) HS.bl (by first | omega | (simp; omega)) (Nat.le_of_lt HS.lt)).mono ?_; rintro e W1 ⟨rfl, hb_, hw_⟩; replace HS := HS.on hb_ hw_; clear hb_ hw_ e0 e1 e2; obtain ⟨e0, e1, e2⟩ := FA.cell HS.box) | (go_at_call 56; refine (impl_FormatInt.calls _ tt _ (laid_ HL_ (Aside0.mk HS.bw)) HFI.out).mono ?_; rintro e W1 ⟨rfl, hw_⟩; replace HS := HS.grown hw_; clear hw_ e0 e1 e2; obtain ⟨e0, e1, e2⟩ := FA.cell HS.box) | (go_at_call 55; refine (Bl.str _ HS.bl (by first | omega | (simp; omega)) (by first | omega | decide) (Nat.le_of_lt HS.lt)).mono ?_; rintro e W1 ⟨rfl, hb_, hw_⟩; replace HS := HS.on hb_ hw_; clear hb_ hw_ e0 e1 e2; obtain ⟨e0, e1, e2⟩ := FA.cell HS.box) | (go_at_call 57; refine (Bl.out HS.bl (Nat.le_of_lt HS.lt)).mono ?_; rintro e W1 ⟨rfl, HO⟩))
   go_ret
   exact ⟨by first | rfl | (simp; done) | (simp; rfl), HS.bw.trans (HO.mono (Nat.le_trans HS.wg (Nat.le_of_lt HS.gB)))⟩

-- NOT PRINTED: function 143 (bytealg_MakeNoZero)

-- NOT PRINTED: function 132 (strings_Builder_grow)

-- NOT PRINTED: function 118 (strings_Builder_Grow)

/-! ### strings_Join: function 98 -/
def strings_Join.f (l0 : List ByteArray) (a1 : ByteArray) : Option ByteArray := if l0.length ≤ 1000000 ∧ (Lib.join (l0.map (·.data.toList)) a1.data.toList).length ≤ 1000000 then some ⟨(Lib.join (l0.map (·.data.toList)) a1.data.toList).toArray⟩ else none
theorem strings_Join.calls (A0 : Option Addr) (c0 : Nat) (l0 : List ByteArray) (a1 : ByteArray) (r : ByteArray) (w : World) (hr0 : Kd.C Kd.string w A0 l0.length l0) (hc0 : l0.length ≤ c0) (h : strings_Join.f l0 a1 = some r) :
  Calls Tryd.prog 98 #[.slice A0 l0.length c0, .string a1] w fun e w' => e = .returned (.string r) ∧ Below w.heap.size w w' := by
 unfold strings_Join.f at h
 split at h
 rotate_left
 ·
  exact absurd h (by simp)
 rename_i hb
 obtain rfl := Option.some.inj h
 clear h
 by_cases hz : l0.length = 0
 ·
  obtain rfl := List.eq_nil_of_length_eq_zero hz
  exact (Tryd.strings_Join_none A0 c0 a1 w).mono fun e w' ⟨he, hw⟩ => ⟨he, hw ▸ Below.refl _ _⟩
 obtain ⟨ad, rfl, h0⟩ := Kd.at_string hr0 0 (by omega) (by omega)
 obtain ⟨b, o, sp⟩ := ad
 have e0 : (⟨b, o, sp⟩ : Addr).add (0 : Int).toNat = ⟨b, o, sp⟩ := by simp [Addr.add]
 rw [e0] at h0
 obtain ⟨hb1, rfl⟩ : b < w.heap.size ∧ sp = none := by
  unfold World.cell? at h0
  rcases Nat.lt_or_ge b w.heap.size with h' | h'
  ·
   refine ⟨h', ?_⟩
   cases sp with
   | none => rfl
   | some s => split at h0 <;> simp at h0
  ·
   simp [Array.getElem?_eq_none h'] at h0
 refine Tryd.strings_Join b o c0 l0 a1 w ?_ hb1 (by omega) hc0 (by omega)
 intro j x hx
 obtain ⟨hj, ex⟩ := List.getElem?_eq_some_iff.1 hx
 obtain ⟨ad, e, hj2⟩ := Kd.at_string hr0 (j : Int) (by omega) (by omega)
 obtain rfl := Option.some.inj e
 rw [Int.toNat_natCast] at hj2
 have e1 : (⟨b, o, none⟩ : Addr).add j = ⟨b, o + j, none⟩ := by unfold Addr.add; split <;> simp_all
 rw [e1] at hj2
 rw [hj2]
 simp [rdOf, List.getD_eq_getElem?_getD, hx]

/-! ### impl_bracesOf: function 67 -/
def impl_bracesOf.l0 : Nat → List ByteArray → List (S27) → Int → Int → Option (ByteArray)
 | 0, _, _, _, _ => none
 | k + 1, x3, x8, x9, x10 => if x10 < x9 then (if 0 ≤ x10 then (if x10 < (x8.length : Int) then ((impl_FormatAtom.f k ((rd_T27 x8 x10).f0) ((rd_T27 x8 x10).f1) ((rd_T27 x8 x10).f2)).bind fun qk => (if x3.length < 8796093022208 then (impl_bracesOf.l0 k (x3 ++ [qk]) x8 x9 (wrap64 (x10 + 1))) else (none))) else (none)) else (none)) else ((strings_Join.f x3 (⟨#[44]⟩ : ByteArray)).bind fun qc => (if 1 + qc.size ≤ 9223372036854775807 then (if ((⟨#[123]⟩ : ByteArray) ++ qc).size + 1 ≤ 9223372036854775807 then (some (((⟨#[123]⟩ : ByteArray) ++ qc) ++ (⟨#[125]⟩ : ByteArray))) else (none)) else (none)))
def impl_bracesOf.f (k : Nat) (a0_0 : Int) (l0_1 : List (S27)) : Option (ByteArray) := impl_bracesOf.l0 k (([] : List ByteArray)) l0_1 (l0_1.length : Int) 0
theorem impl_bracesOf.mono_l : ∀ k, (∀ y0 y1 y2 y3, LeO (impl_bracesOf.l0 k y0 y1 y2 y3) (impl_bracesOf.l0 (k + 1) y0 y1 y2 y3))
 | 0 => fun _ _ _ _ r h => by simp [impl_bracesOf.l0] at h
 | k + 1 => by
  have ih0 := impl_bracesOf.mono_l k
  ·
   intro y0 y1 y2 y3
   unfold impl_bracesOf.l0
   repeat' first
   | (with_reducible exact ih0 _ _ _ _)
   | (with_reducible exact impl_FormatAtom.mono _ _ _ _)
   | (with_reducible exact LeO.refl _)
   | (with_reducible exact LeO.none _)
   | (with_reducible refine LeO.ite ?_ ?_)
   | (with_reducible refine LeO.bind ?_ (fun _ => ?_))
   | exact ih0 _ _ _ _
   | exact impl_FormatAtom.mono _ _ _ _
   | exact LeO.none _
   | refine LeO.ite ?_ ?_
   | refine LeO.bind ?_ (fun _ => ?_)
theorem impl_bracesOf.mono : ∀ a0 a1 k, LeO (impl_bracesOf.f k a0 a1) (impl_bracesOf.f (k + 1) a0 a1) := by
 intro a0 a1 k
 have ih0 := impl_bracesOf.mono_l k
 unfold impl_bracesOf.f
 repeat' first
   | (with_reducible exact ih0 _ _ _ _)
   | (with_reducible exact impl_FormatAtom.mono _ _ _ _)
   | (with_reducible exact LeO.refl _)
   | (with_reducible exact LeO.none _)
   | (with_reducible refine LeO.ite ?_ ?_)
   | (with_reducible refine LeO.bind ?_ (fun _ => ?_))
   | exact ih0 _ _ _ _
   | exact impl_FormatAtom.mono _ _ _ _
   | exact LeO.none _
   | refine LeO.ite ?_ ?_
   | refine LeO.bind ?_ (fun _ => ?_)
set_option maxHeartbeats 8000000 in
set_option maxRecDepth 100000 in
theorem impl_bracesOf.calls (k : Nat) (a0_0 : Int) (A0_1 : Option Addr) (c0_1 : Nat) (l0_1 : List (S27)) (r : ByteArray) (w : World) (hL : LaidW w) (hr0_1 : Kd.C k27 w A0_1 l0_1.length l0_1) (hc0_1 : l0_1.length ≤ c0_1) (h : impl_bracesOf.f k a0_0 l0_1 = some r) :
  Calls Tryd.prog 67 #[.agg #[.int .i64 a0_0, .slice A0_1 l0_1.length c0_1]] w fun e w' => e = .returned (.string r) ∧ Below w.heap.size w w' := by
 have HL_ := Aside0.mk hL
 clear hL
 have hu41 := Tryd.underlying41
 have hu27 := Tryd.underlying27
 have qv := Aside0.mk hr0_1
 have qK := Aside0.mk hc0_1
 clear hr0_1 hc0_1
 have HB := Aside0.mk (Below.refl w.heap.size w)
 have H : (impl_bracesOf.l0 k (([] : List ByteArray)) l0_1 (l0_1.length : Int) 0) = some r := h
 clear h
 obtain ⟨y218, hy218⟩ : ∃ y_ : List ByteArray, y_ = (([] : List ByteArray)) := ⟨_, rfl⟩
 replace H : (impl_bracesOf.l0 k y218 l0_1 (l0_1.length : Int) 0) = some r := by first | (rw [hy218]; with_reducible exact H) | (have H2_ := (Option.bind_some _ _).symm.trans H; rw [hy218]; with_reducible exact H2_) | (have H2_ := (Option.bind_some _ _).symm.trans H; with_reducible exact H2_) | with_reducible exact H | (rw [hy218]; exact H) | exact H
 have Ny218 := Aside0.mk hy218
 clear hy218
 have H' := Aside0.mk H
 clear H
 go_enter Tryd.func67, Tryd.ntmps67
 go_wp2_with (first | ((with_reducible refine gate_dst (N := 1) rfl ?_); refine bx_ (cs := #[.int .i64 a0_0, .slice A0_1 l0_1.length c0_1]) (t := 41) ?_; intro qq hg w2 hbox hb; have qb := Aside0.mk (hbox); have qL := hz_ HB hg; have qM := hz_ HB hg; replace HB := bS_ HB hb; clear hb hbox hg) | ((with_reducible refine gate_dst (N := 6) rfl ?_); refine Kd.R_lit Kd.string _ 9 ?hg (N := 6) ?hd (xs := ([] : List ByteArray)) (inner := []) (ok := fun _ => True) (okp := fun _ => True) ?hr ?hp (fun _ hk => hk) trivial (Below.refl _ _) (Nat.le_refl _) (by simp) ?_; (case hd => rfl); (case hg => rfl); (case hr => first | (go_simp; done) | (go_simp; rfl)); (case hp => exact (Reps.none _ _)); intro qW w3 ho4 hb hg_ hnew_; clear hg_ hnew_; (first | rw [← Ny218.out] at ho4 | (simp only [Int.reduceToNat] at ho4; rw [← Ny218.out] at ho4)); have qw := Aside0.mk (Kd.R_lower ho4 (bz_ HB)); replace qb := kB_ qb hb; replace HB := bS_ HB hb; clear hb ho4; obtain ⟨qr, qs, qt, qu⟩ := b2_ qb))
 go_loopg [3, 10] k (fun kq v3 v10 w' => ∃ (qf : List ByteArray) (qa : Int), v10 = .int .i64 qa ∧ Aside0 (impl_bracesOf.l0 kq qf l0_1 (l0_1.length : Int) qa = some r) ∧ Aside0 (kq ≤ k) ∧ Aside0 (Kd.R Kd.string 9 w' w.heap.size (fun _ => True) v3 qf) ∧ Aside0 (w'.heap[qq]? = some (.cells #[.int .i64 a0_0, (.slice A0_1 l0_1.length c0_1)] 41 (0, 0))) ∧ Aside0 (Below w.heap.size w w'))
 case atStart => exact ⟨(y218), (0), (by first | rfl | (simp; done) | (simp [*]; done)), H', ⟨Nat.le_refl _⟩, ⟨by (with_reducible repeat (first | apply Kd.R_alloc | apply Kd.R_drewN | apply Kd.R_drew)); exact qw.out⟩, ⟨kf_ qb⟩, ⟨bb_ HB⟩⟩
 case round =>
  clear H'
  try clear p2
  try clear qr
  try clear qs
  try clear qt
  try clear qu
  obtain ⟨qf, qa, rfl, HA, HK1, qd, qb, HB⟩ := hrel
  cases gk with
  | zero => exact absurd HA.out (by simp [impl_bracesOf.l0])
  | succ k1 =>
   have H := HA.out
   clear HA
   simp only [impl_bracesOf.l0] at H
   by_cases c6 : qa < (l0_1.length : Int)
   rotate_left
   ·
    rw [if_neg c6] at H
    have qH : decide (qa < (l0_1.length : Int)) = false := decide_eq_false c6
    clear c6
    replace H := Option.bind_eq_some_iff.mp H
    obtain ⟨qc, A160, H⟩ := H
    replace H : (if 1 + qc.size ≤ 9223372036854775807 then (if ((⟨#[123]⟩ : ByteArray) ++ qc).size + 1 ≤ 9223372036854775807 then (some (((⟨#[123]⟩ : ByteArray) ++ qc) ++ (⟨#[125]⟩ : ByteArray))) else (none)) else (none)) = some r := H
    have A16 := Aside0.mk A160
    clear A160
    by_cases c17 : 1 + qc.size ≤ 9223372036854775807
    rotate_left
    ·
     rw [if_neg c17] at H
     exact absurd H (by simp)
    rw [if_pos c17] at H
    have qN := eq_true c17
    have qO : decide (1 + qc.size ≤ 9223372036854775807) = true := decide_eq_true c17
    try have qP : (9223372036854775807 < 1 + qc.size) = False := eq_false (Nat.not_lt.2 c17)
    by_cases c18 : ((⟨#[123]⟩ : ByteArray) ++ qc).size + 1 ≤ 9223372036854775807
    rotate_left
    ·
     rw [if_neg c18] at H
     exact absurd H (by simp)
    rw [if_pos c18] at H
    have qQ := eq_true c18
    have qR : decide (((⟨#[123]⟩ : ByteArray) ++ qc).size + 1 ≤ 9223372036854775807) = true := decide_eq_true c18
    try have qx : (9223372036854775807 < ((⟨#[123]⟩ : ByteArray) ++ qc).size + 1) = False := eq_false (Nat.not_lt.2 c18)
    try (have qy := qx; simp only [ByteArray.size_append, show ∀ c, (ByteArray.mk #[c]).size = 1 from fun _ => rfl, show ∀ c d, (ByteArray.mk #[c, d]).size = 2 from fun _ _ => rfl, show ∀ c d e, (ByteArray.mk #[c, d, e]).size = 3 from fun _ _ _ => rfl] at qy)
    obtain rfl := Option.some.inj H
    obtain ⟨qI, qJ, eo19⟩ := Kd.R_slice qd.out
    subst eo19
    go_wp2_with (first | ((with_reducible refine gate_callee (f := 98) rfl ?_); refine gL_ (some 21) Tryd.func98 #[.slice qI qf.length qJ, .string (⟨#[44]⟩ : ByteArray)] ?_; (with_reducible refine (strings_Join.calls _ _ qf (⟨#[44]⟩ : ByteArray) qc _ ?side1 ?side2 A16.out).mono ?_); (case side1 => exact cr_ qd); (case side2 => exact (Kd.R_reads' qd.out).2.1); rintro e q0 ⟨rfl, hb⟩; refine ⟨_, rfl, ?_⟩; replace qd := rB_ qd hb; replace qb := kB_ qb hb; replace HB := bS_ HB hb; clear hb))
    go_ret
    exact ⟨by first | rfl | (simp [errW_none, errW_some] <;> rfl) | (simp [*, errW_none, errW_some] <;> rfl), bb_ HB⟩
   rw [if_pos c6] at H
   have qH : decide (qa < (l0_1.length : Int)) = true := decide_eq_true c6
   clear c6
   by_cases c7 : 0 ≤ qa
   rotate_left
   ·
    rw [if_neg c7] at H
    exact absurd H (by simp)
   rw [if_pos c7] at H
   have qX : decide (0 ≤ qa) = true := decide_eq_true c7
   clear c7
   by_cases c8 : qa < (l0_1.length : Int)
   rotate_left
   ·
    rw [if_neg c8] at H
    exact absurd H (by simp)
   rw [if_pos c8] at H
   have qY : decide (qa < (l0_1.length : Int)) = true := decide_eq_true c8
   clear c8
   replace H := Option.bind_eq_some_iff.mp H
   obtain ⟨qk, A90, H⟩ := H
   replace H : (if qf.length < 8796093022208 then (impl_bracesOf.l0 k1 (qf ++ [qk]) l0_1 (l0_1.length : Int) (wrap64 (qa + 1))) else (none)) = some r := H
   have A9 := Aside0.mk A90
   clear A90
   by_cases c10 : qf.length < 8796093022208
   rotate_left
   ·
    rw [if_neg c10] at H
    exact absurd H (by simp)
   rw [if_pos c10] at H
   have LMc10 := Aside0.mk c10
   clear c10
   obtain ⟨y224, hy224⟩ : ∃ y_ : List ByteArray, y_ = (qf ++ [qk]) := ⟨_, rfl⟩
   replace H : (impl_bracesOf.l0 k1 y224 l0_1 (l0_1.length : Int) (wrap64 (qa + 1))) = some r := by first | (rw [hy224]; with_reducible exact H) | (have H2_ := (Option.bind_some _ _).symm.trans H; rw [hy224]; with_reducible exact H2_) | (have H2_ := (Option.bind_some _ _).symm.trans H; with_reducible exact H2_) | with_reducible exact H | (rw [hy224]; exact H) | exact H
   have Ny224 := Aside0.mk hy224
   clear hy224
   have H' := Aside0.mk H
   clear H
   have p221 : 0 ≤ (qa : Int) := of_decide_eq_true (by first | (with_reducible assumption) | assumption)
   have q221 : qa < (l0_1.length : Int) := of_decide_eq_true (by first | (with_reducible assumption) | assumption)
   obtain ⟨qz, qg, c221_0, e221, qh, qi, qj, hl221_0, hi221_0⟩ := at_T27 qv.out qa p221 q221
   cases e221
   replace qh := (HB.out.cell (World.block_lt_of_cell? w _ qh)).trans qh
   replace qi := (HB.out.cell (World.block_lt_of_cell? w _ qi)).trans qi
   replace qj := (HB.out.cell (World.block_lt_of_cell? w _ qj)).trans qj
   have qo := Aside0.mk hi221_0
   have qp := Aside0.mk hl221_0
   clear hi221_0 hl221_0
   replace p221 := eq_true p221
   replace q221 := eq_true q221
   go_wp2_with (first | ((with_reducible refine gate_dst (N := 5) rfl ?_); refine bx_ (cs := #[.slice none 0 0, .int .i64 0, .bool false]) (t := 27) ?_; intro ql hg q1 hbox hb; replace qd := rB_ qd hb; have qe := Aside0.mk (hbox); have qS := hz_ HB hg; have qT := hz_ HB hg; replace HB := bS_ HB hb; have qm := nL_ qb hg; have qn := nG_ qb hg; replace qb := kB_ qb hb; clear hb hbox hg; have qU := qn.out; have qV := qm.out; obtain ⟨qB, qC, qD, qE, qF, qG⟩ := b3_ qe) | ((with_reducible refine gate_callee (f := 14) rfl ?_); refine gL_ (some 16) Tryd.func14 #[.agg #[.slice qg ((rd_T27 l0_1 qa).f0).length c221_0, .int .i64 ((rd_T27 l0_1 qa).f1), .bool ((rd_T27 l0_1 qa).f2)]] ?_; (with_reducible refine (impl_FormatAtom.calls (hL := laid_ HL_ HB) k1 _ _ ((rd_T27 l0_1 qa).f0) ((rd_T27 l0_1 qa).f1) ((rd_T27 l0_1 qa).f2) qk _ ?side1 ?side2 A9.out).mono ?_); (case side1 => exact Kd.C_below qo.out (bb_ HB)); (case side2 => exact qp.out); rintro e q2 ⟨rfl, hb⟩; refine ⟨_, rfl, ?_⟩; replace qd := Aside0.mk (Kd.R_below (by (with_reducible repeat (first | apply Kd.R_alloc | apply Kd.R_drewN | apply Kd.R_drew)); exact (Kd.R_mono (Kd.R_far (p := ⟨ql, 2, none⟩) (Kd.R_far (p := ⟨ql, 1, none⟩) (Kd.R_far (p := ⟨ql, 0, none⟩) (Kd.R_types qd.out qe.out (by decide)) (fun _ hk => hk.2) (.slice qg ((rd_T27 l0_1 qa).f0).length c221_0)) (fun _ hk => hk.2) (.int .i64 ((rd_T27 l0_1 qa).f1))) (fun _ hk => hk.2) (.bool ((rd_T27 l0_1 qa).f2))) (fun _ h_ => h_.1))) hb); replace qb := kF_ qb hb; replace qe := kP_ (cs' := #[.slice qg ((rd_T27 l0_1 qa).f0).length c221_0, .int .i64 ((rd_T27 l0_1 qa).f1), .bool ((rd_T27 l0_1 qa).f2)]) qe hb; replace HB := bS_ HB hb; clear hb) | ((with_reducible refine gate_builtin (b := .append) (xs := #[.tmp 14, .tmp 17]) rfl ?_); at_builtin; refine Kd.R_append Kd.string (w0 := w) w.heap.size rfl (.tmp 14) (.tmp 17) 101 9 (.string ⟨#[]⟩) 16 rfl Tryd.underlying101 info9 rfl (by decide) (by omega) u3 qf qk [.string qk] (fun _ => True) (fun _ => False) rfl rfl ?aP (fun _ hk => hk.elim) ?aF ?aO ?aB ?aS ?aL ?_; (case aP => exact rfl); (case aB => exact (bb_ HB)); (case aF => exact (fun _ _ => trivial)); (case aO => exact (rm_ qd)); (case aS => exact (bz_ HB)); (case aL => have := LMc10.out; omega); intro qZ q3 ho hb hg hat; rw [← Ny224.out] at ho; replace qb := Aside0.mk (blk_grown (g := qq) (o := .cells #[.int .i64 a0_0, .slice (some qz) l0_1.length c0_1] 41 (0, 0)) (kf_ qb) hg (Kd.R_ne qd.out qb.out (by decide))); replace qe := Aside0.mk (blk_grown (g := ql) (o := .cells #[.slice qg ((rd_T27 l0_1 qa).f0).length c221_0, .int .i64 ((rd_T27 l0_1 qa).f1), .bool ((rd_T27 l0_1 qa).f2)] 27 (0, 0)) (kf_ qe) hg (Kd.R_ne qd.out qe.out (by decide))); replace HB := Aside0.mk (hb); have qA := Aside0.mk (ho); clear qd; clear ho hb hg hat))
   go_roundg k1
   case measure => have := HK1.out; omega
   case rel => exact ⟨(y224), (wrap64 (qa + 1)), (by first | rfl | (simp; done) | (simp [*]; done)), H', ⟨by have := HK1.out; omega⟩, ⟨by (with_reducible repeat (first | apply Kd.R_alloc | apply Kd.R_drewN | apply Kd.R_drew)); exact qA.out⟩, ⟨kf_ qb⟩, ⟨bb_ HB⟩⟩

/-! ### impl_IsCell: function 66 -/
mutual
def impl_IsCell.j0 : Nat → Bool → Int → List (S27) → Option (Bool)
 | 0, _, _, _ => none
 | k + 1, x18, x229000, x229001 => if x18 = true then (some false) else (impl_IsCell.l0 k x229001 (x229001.length : Int) 0 x229000 x229001)
def impl_IsCell.l0 : Nat → List (S27) → Int → Int → Int → List (S27) → Option (Bool)
 | 0, _, _, _, _, _ => none
 | k + 1, x20, x21, x22, x229000, x229001 => if x22 < x21 then (if 0 ≤ x22 then (if x22 < (x20.length : Int) then ((impl_IsAtom.f k ((rd_T27 x20 x22).f0) ((rd_T27 x20 x22).f1) ((rd_T27 x20 x22).f2)).bind fun qA => (if qA = true then (if (((rd_T27 x20 x22).f0).length : Int) = x229000 then (impl_IsCell.l0 k x20 x21 (wrap64 (x22 + 1)) x229000 x229001) else (some false)) else (some false))) else (none)) else (none)) else (some true)
end
def impl_IsCell.f (k : Nat) (a0_0 : Int) (l0_1 : List (S27)) : Option (Bool) := if a0_0 < 0 then (impl_IsCell.j0 k true a0_0 l0_1) else (if a0_0 > 4 then (impl_IsCell.j0 k true a0_0 l0_1) else (impl_IsCell.j0 k (decide ((l0_1.length : Int) > 16)) a0_0 l0_1))
theorem impl_IsCell.mono_l : ∀ k, (∀ y0 y1 y2, LeO (impl_IsCell.j0 k y0 y1 y2) (impl_IsCell.j0 (k + 1) y0 y1 y2)) ∧ (∀ y0 y1 y2 y3 y4, LeO (impl_IsCell.l0 k y0 y1 y2 y3 y4) (impl_IsCell.l0 (k + 1) y0 y1 y2 y3 y4))
 | 0 => ⟨fun _ _ _ r h => by simp [impl_IsCell.j0] at h, fun _ _ _ _ _ r h => by simp [impl_IsCell.l0] at h⟩
 | k + 1 => by
  obtain ⟨ih0, ih1⟩ := impl_IsCell.mono_l k
  refine ⟨?_, ?_⟩ <;> (intros; first | unfold impl_IsCell.j0 | unfold impl_IsCell.l0)
  all_goals
   repeat' first
   | (with_reducible exact ih0 _ _ _)
   | (with_reducible exact ih1 _ _ _ _ _)
   | (with_reducible exact impl_IsAtom.mono _ _ _ _)
   | (with_reducible exact LeO.refl _)
   | (with_reducible exact LeO.none _)
   | (with_reducible refine LeO.ite ?_ ?_)
   | (with_reducible refine LeO.bind ?_ (fun _ => ?_))
   | exact ih0 _ _ _
   | exact ih1 _ _ _ _ _
   | exact impl_IsAtom.mono _ _ _ _
   | exact LeO.none _
   | refine LeO.ite ?_ ?_
   | refine LeO.bind ?_ (fun _ => ?_)
theorem impl_IsCell.mono : ∀ a0 a1 k, LeO (impl_IsCell.f k a0 a1) (impl_IsCell.f (k + 1) a0 a1) := by
 intro a0 a1 k
 obtain ⟨ih0, ih1⟩ := impl_IsCell.mono_l k
 unfold impl_IsCell.f
 repeat' first
   | (with_reducible exact ih0 _ _ _)
   | (with_reducible exact ih1 _ _ _ _ _)
   | (with_reducible exact impl_IsAtom.mono _ _ _ _)
   | (with_reducible exact LeO.refl _)
   | (with_reducible exact LeO.none _)
   | (with_reducible refine LeO.ite ?_ ?_)
   | (with_reducible refine LeO.bind ?_ (fun _ => ?_))
   | exact ih0 _ _ _
   | exact ih1 _ _ _ _ _
   | exact impl_IsAtom.mono _ _ _ _
   | exact LeO.none _
   | refine LeO.ite ?_ ?_
   | refine LeO.bind ?_ (fun _ => ?_)
set_option maxHeartbeats 8000000 in
set_option maxRecDepth 100000 in
theorem impl_IsCell.calls (k : Nat) (a0_0 : Int) (A0_1 : Option Addr) (c0_1 : Nat) (l0_1 : List (S27)) (r : Bool) (w : World) (hr0_1 : Kd.C k27 w A0_1 l0_1.length l0_1) (hc0_1 : l0_1.length ≤ c0_1) (h : impl_IsCell.f k a0_0 l0_1 = some r) :
  Calls Tryd.prog 66 #[.agg #[.int .i64 a0_0, .slice A0_1 l0_1.length c0_1]] w fun e w' => e = .returned (.bool r) ∧ Below w.heap.size w w' := by
 have hu41 := Tryd.underlying41
 have hu27 := Tryd.underlying27
 have qn := Aside0.mk hr0_1
 have zq := Aside0.mk hc0_1
 clear hr0_1 hc0_1
 have HB := Aside0.mk (Below.refl w.heap.size w)
 have H : (if a0_0 < 0 then (impl_IsCell.j0 k true a0_0 l0_1) else (if a0_0 > 4 then (impl_IsCell.j0 k true a0_0 l0_1) else (impl_IsCell.j0 k (decide ((l0_1.length : Int) > 16)) a0_0 l0_1))) = some r := h
 clear h
 have HC2 := Aside0.mk H
 clear H
 go_enter Tryd.func66, Tryd.ntmps66
 go_upto_region 1 with (first | ((with_reducible refine gate_dst (N := 1) rfl ?_); (try (refine gate_guard (by rfl) ?_; dsimp only)); refine bx_ (cs := #[.int .i64 a0_0, .slice A0_1 l0_1.length c0_1]) (t := 41) ?_; intro qF hg w3 hbox hb; have qb := Aside0.mk (hbox); have zr := hz_ HB hg; have zs := hz_ HB hg; replace HB := bS_ HB hb; clear hb hbox hg))
 (try simp only [Act.put, List.setIfInBounds_toArray, List.set_cons_zero, List.set_cons_succ])
 go_cut [18] (fun v18 wc => ∃ (kq : Nat) (qm : Bool), v18 = .bool qm ∧ Aside0 (impl_IsCell.j0 kq qm a0_0 l0_1 = some r) ∧ Aside0 (kq ≤ k) ∧ Aside0 (wc.heap[qF]? = some (.cells #[.int .i64 a0_0, (.slice A0_1 l0_1.length c0_1)] 41 (0, 0))) ∧ Aside0 (Below w.heap.size w wc))
 case first =>
  have H := HC2.out
  clear HC2
  by_cases c4 : a0_0 < 0
  ·
   rw [if_pos c4] at H
   have ql : decide (a0_0 < 0) = true := decide_eq_true c4
   clear c4
   (first | rw [ql] | (simp only [i64_w, i32_w]; rw [ql]) | skip)
   have H' := Aside0.mk H
   clear H
   obtain ⟨qo, qp, qq, qr⟩ := b2_ qb
   go_wp2
   go_meet
   case rel => exact ⟨_, (true), (by first | rfl | (simp; done) | (simp [*]; done)), H', ⟨by first | omega | exact Nat.le_refl _⟩, ⟨kf_ qb⟩, ⟨bb_ HB⟩⟩
  rw [if_neg c4] at H
  have ql : decide (a0_0 < 0) = false := decide_eq_false c4
  clear c4
  (first | rw [ql] | (simp only [i64_w, i32_w]; rw [ql]) | skip)
  by_cases c6 : a0_0 > 4
  ·
   rw [if_pos c6] at H
   have qK : decide (4 < a0_0) = true := decide_eq_true c6
   clear c6
   have H' := Aside0.mk H
   clear H
   obtain ⟨qs, qt, qu, qv⟩ := b2_ qb
   go_wp2
   go_meet
   case rel => exact ⟨_, (true), (by first | rfl | (simp; done) | (simp [*]; done)), H', ⟨by first | omega | exact Nat.le_refl _⟩, ⟨kf_ qb⟩, ⟨bb_ HB⟩⟩
  rw [if_neg c6] at H
  have qK : decide (4 < a0_0) = false := decide_eq_false c6
  clear c6
  have H' := Aside0.mk H
  clear H
  obtain ⟨qw, qx, qy, qz⟩ := b2_ qb
  go_wp2
  go_meet
  case rel => exact ⟨_, (decide ((l0_1.length : Int) > 16)), (by first | rfl | (simp; done) | (simp [*]; done)), H', ⟨by first | omega | exact Nat.le_refl _⟩, ⟨kf_ qb⟩, ⟨bb_ HB⟩⟩
 case rest =>
  clear HC2
  try clear p2
  try clear c4
  try clear ql
  try clear c6
  try clear qK
  try clear qo
  try clear qp
  try clear qs
  try clear qt
  try clear qw
  try clear qx
  try clear qq
  try clear qr
  try clear qu
  try clear qv
  try clear qy
  try clear qz
  obtain ⟨kq, qm, rfl, HA, HJ1, qb, HB⟩ := hcut
  cases kq with
  | zero => exact absurd HA.out (by simp [impl_IsCell.j0])
  | succ kj1 =>
   have H := HA.out
   clear HA
   simp only [impl_IsCell.j0] at H
   by_cases c9 : qm = true
   ·
    subst c9
    have H1 : (some false) = some r := by rw [if_pos rfl] at H; exact H
    clear H
    have H := H1
    clear H1
    obtain rfl := Option.some.inj H
    go_wp2
    go_ret
    exact ⟨by first | rfl | (simp [errW_none, errW_some] <;> rfl) | (simp [*, errW_none, errW_some] <;> rfl), bb_ HB⟩
   replace c9 := Bool.eq_false_iff.mpr c9
   subst c9
   have H1 : (impl_IsCell.l0 kj1 l0_1 (l0_1.length : Int) 0 a0_0 l0_1) = some r := by rw [if_neg (show ¬ (false = true) by decide)] at H; exact H
   clear H
   have H := H1
   clear H1
   have H' := Aside0.mk H
   clear H
   obtain ⟨qB, qC, qD, qE⟩ := b2_ qb
   go_wp2
   go_loopg [22] kj1 (fun kq v22 w' => ∃ (qa : Int), v22 = .int .i64 qa ∧ Aside0 (impl_IsCell.l0 kq l0_1 (l0_1.length : Int) qa a0_0 l0_1 = some r) ∧ Aside0 (kq ≤ kj1) ∧ Aside0 (w'.heap[qF]? = some (.cells #[.int .i64 a0_0, (.slice A0_1 l0_1.length c0_1)] 41 (0, 0))) ∧ Aside0 (Below w.heap.size w w'))
   case atStart => exact ⟨(0), (by first | rfl | (simp; done) | (simp [*]; done)), H', ⟨Nat.le_refl _⟩, ⟨kf_ qb⟩, ⟨bb_ HB⟩⟩
   case round =>
    clear H'
    try clear p2
    try clear c4
    try clear ql
    try clear c6
    try clear qK
    try clear c9
    try clear qB
    try clear qC
    try clear qo
    try clear qp
    try clear qs
    try clear qt
    try clear qw
    try clear qx
    try clear qD
    try clear qE
    try clear qq
    try clear qr
    try clear qu
    try clear qv
    try clear qy
    try clear qz
    try clear p2
    obtain ⟨qa, rfl, HA, HK2, qb, HB⟩ := hrel
    cases gk with
    | zero => exact absurd HA.out (by simp [impl_IsCell.l0])
    | succ k2 =>
     have H := HA.out
     clear HA
     simp only [impl_IsCell.l0] at H
     by_cases c11 : qa < (l0_1.length : Int)
     rotate_left
     ·
      rw [if_neg c11] at H
      have qL : decide (qa < (l0_1.length : Int)) = false := decide_eq_false c11
      clear c11
      obtain rfl := Option.some.inj H
      go_wp2
      go_ret
      exact ⟨by first | rfl | (simp [errW_none, errW_some] <;> rfl) | (simp [*, errW_none, errW_some] <;> rfl), bb_ HB⟩
     rw [if_pos c11] at H
     have qL : decide (qa < (l0_1.length : Int)) = true := decide_eq_true c11
     clear c11
     by_cases c12 : 0 ≤ qa
     rotate_left
     ·
      rw [if_neg c12] at H
      exact absurd H (by simp)
     rw [if_pos c12] at H
     have zt : decide (0 ≤ qa) = true := decide_eq_true c12
     clear c12
     by_cases c13 : qa < (l0_1.length : Int)
     rotate_left
     ·
      rw [if_neg c13] at H
      exact absurd H (by simp)
     rw [if_pos c13] at H
     have zu : decide (qa < (l0_1.length : Int)) = true := decide_eq_true c13
     clear c13
     replace H := Option.bind_eq_some_iff.mp H
     obtain ⟨qA, A140, H⟩ := H
     replace H : (if qA = true then (if (((rd_T27 l0_1 qa).f0).length : Int) = a0_0 then (impl_IsCell.l0 k2 l0_1 (l0_1.length : Int) (wrap64 (qa + 1)) a0_0 l0_1) else (some false)) else (some false)) = some r := H
     have A14 := Aside0.mk A140
     clear A140
     by_cases c15 : qA = true
     rotate_left
     ·
      replace c15 := Bool.eq_false_iff.mpr c15
      subst c15
      have H1 : (some false) = some r := by rw [if_neg (show ¬ (false = true) by decide)] at H; exact H
      clear H
      have H := H1
      clear H1
      obtain rfl := Option.some.inj H
      have p229 : 0 ≤ (qa : Int) := of_decide_eq_true (by first | (with_reducible assumption) | assumption)
      have q229 : qa < (l0_1.length : Int) := of_decide_eq_true (by first | (with_reducible assumption) | assumption)
      obtain ⟨qG, qi, c229_0, e229, qc, qd, qe, hl229_0, hi229_0⟩ := at_T27 qn.out qa p229 q229
      cases e229
      replace qc := (HB.out.cell (World.block_lt_of_cell? w _ qc)).trans qc
      replace qd := (HB.out.cell (World.block_lt_of_cell? w _ qd)).trans qd
      replace qe := (HB.out.cell (World.block_lt_of_cell? w _ qe)).trans qe
      have qj := Aside0.mk hi229_0
      have qk := Aside0.mk hl229_0
      clear hi229_0 hl229_0
      replace p229 := eq_true p229
      replace q229 := eq_true q229
      go_wp2_with (first | ((with_reducible refine gate_dst (N := 4) rfl ?_); (try (refine gate_guard (by rfl) ?_; dsimp only)); refine bx_ (cs := #[.slice none 0 0, .int .i64 0, .bool false]) (t := 27) ?_; intro qH hg zB hbox hb; have qf := Aside0.mk (hbox); have qI := hz_ HB hg; have qJ := hz_ HB hg; replace HB := bS_ HB hb; have qg := nL_ qb hg; have qh := nG_ qb hg; replace qb := kB_ qb hb; clear hb hbox hg; have zv := qh.out; have zw := qg.out; obtain ⟨qO, qP, qQ, qR, qS, qT⟩ := b3_ qf) | ((with_reducible refine gate_callee (f := 52) rfl ?_); refine gL_ (some 27) Tryd.func52 #[.agg #[.slice qi ((rd_T27 l0_1 qa).f0).length c229_0, .int .i64 ((rd_T27 l0_1 qa).f1), .bool ((rd_T27 l0_1 qa).f2)]] ?_; (with_reducible refine (impl_IsAtom.calls k2 _ _ ((rd_T27 l0_1 qa).f0) ((rd_T27 l0_1 qa).f1) ((rd_T27 l0_1 qa).f2) false _ ?side1 ?side2 A14.out).mono ?_); (case side1 => exact Kd.C_below qj.out (bb_ HB)); (case side2 => exact qk.out); rintro e zC ⟨rfl, hb⟩; refine ⟨_, rfl, ?_⟩; replace qb := kF_ qb hb; replace qf := kP_ (cs' := #[.slice qi ((rd_T27 l0_1 qa).f0).length c229_0, .int .i64 ((rd_T27 l0_1 qa).f1), .bool ((rd_T27 l0_1 qa).f2)]) qf hb; replace HB := bS_ HB hb; clear hb))
      go_ret
      exact ⟨by first | rfl | (simp [errW_none, errW_some] <;> rfl) | (simp [*, errW_none, errW_some] <;> rfl), bb_ HB⟩
     subst c15
     have H1 : (if (((rd_T27 l0_1 qa).f0).length : Int) = a0_0 then (impl_IsCell.l0 k2 l0_1 (l0_1.length : Int) (wrap64 (qa + 1)) a0_0 l0_1) else (some false)) = some r := by rw [if_pos rfl] at H; exact H
     clear H
     have H := H1
     clear H1
     by_cases c16 : (((rd_T27 l0_1 qa).f0).length : Int) = a0_0
     rotate_left
     ·
      rw [if_neg c16] at H
      have qM : ((((rd_T27 l0_1 qa).f0).length : Int) == a0_0) = false := beq_eq_false_iff_ne.mpr c16
      have qN : ((((rd_T27 l0_1 qa).f0).length : Int) != a0_0) = true := bne_iff_ne.mpr c16
      obtain rfl := Option.some.inj H
      have p229 : 0 ≤ (qa : Int) := of_decide_eq_true (by first | (with_reducible assumption) | assumption)
      have q229 : qa < (l0_1.length : Int) := of_decide_eq_true (by first | (with_reducible assumption) | assumption)
      obtain ⟨qG, qi, c229_0, e229, qc, qd, qe, hl229_0, hi229_0⟩ := at_T27 qn.out qa p229 q229
      cases e229
      replace qc := (HB.out.cell (World.block_lt_of_cell? w _ qc)).trans qc
      replace qd := (HB.out.cell (World.block_lt_of_cell? w _ qd)).trans qd
      replace qe := (HB.out.cell (World.block_lt_of_cell? w _ qe)).trans qe
      have qj := Aside0.mk hi229_0
      have qk := Aside0.mk hl229_0
      clear hi229_0 hl229_0
      replace p229 := eq_true p229
      replace q229 := eq_true q229
      go_wp2_with (first | ((with_reducible refine gate_dst (N := 4) rfl ?_); (try (refine gate_guard (by rfl) ?_; dsimp only)); refine bx_ (cs := #[.slice none 0 0, .int .i64 0, .bool false]) (t := 27) ?_; intro qH hg zD hbox hb; have qf := Aside0.mk (hbox); have qI := hz_ HB hg; have qJ := hz_ HB hg; replace HB := bS_ HB hb; have qg := nL_ qb hg; have qh := nG_ qb hg; replace qb := kB_ qb hb; clear hb hbox hg; have zx := qh.out; have zy := qg.out; obtain ⟨qU, qV, qW, qX, qY, qZ⟩ := b3_ qf) | ((with_reducible refine gate_callee (f := 52) rfl ?_); refine gL_ (some 27) Tryd.func52 #[.agg #[.slice qi ((rd_T27 l0_1 qa).f0).length c229_0, .int .i64 ((rd_T27 l0_1 qa).f1), .bool ((rd_T27 l0_1 qa).f2)]] ?_; (with_reducible refine (impl_IsAtom.calls k2 _ _ ((rd_T27 l0_1 qa).f0) ((rd_T27 l0_1 qa).f1) ((rd_T27 l0_1 qa).f2) true _ ?side1 ?side2 A14.out).mono ?_); (case side1 => exact Kd.C_below qj.out (bb_ HB)); (case side2 => exact qk.out); rintro e zE ⟨rfl, hb⟩; refine ⟨_, rfl, ?_⟩; replace qb := kF_ qb hb; replace qf := kP_ (cs' := #[.slice qi ((rd_T27 l0_1 qa).f0).length c229_0, .int .i64 ((rd_T27 l0_1 qa).f1), .bool ((rd_T27 l0_1 qa).f2)]) qf hb; replace HB := bS_ HB hb; clear hb; obtain ⟨q0, q1, q2, q3, q4, q5⟩ := b3_ qf; obtain ⟨q6, q7, q8, q9⟩ := b2_ qb))
      go_ret
      exact ⟨by first | rfl | (simp [errW_none, errW_some] <;> rfl) | (simp [*, errW_none, errW_some] <;> rfl), bb_ HB⟩
     rw [if_pos c16] at H
     have qM : ((((rd_T27 l0_1 qa).f0).length : Int) == a0_0) = true := beq_iff_eq.mpr c16
     have qN : ((((rd_T27 l0_1 qa).f0).length : Int) != a0_0) = false := bne_eq_false_iff_eq.mpr c16
     clear c16
     have H' := Aside0.mk H
     clear H
     have p229 : 0 ≤ (qa : Int) := of_decide_eq_true (by first | (with_reducible assumption) | assumption)
     have q229 : qa < (l0_1.length : Int) := of_decide_eq_true (by first | (with_reducible assumption) | assumption)
     obtain ⟨qG, qi, c229_0, e229, qc, qd, qe, hl229_0, hi229_0⟩ := at_T27 qn.out qa p229 q229
     cases e229
     replace qc := (HB.out.cell (World.block_lt_of_cell? w _ qc)).trans qc
     replace qd := (HB.out.cell (World.block_lt_of_cell? w _ qd)).trans qd
     replace qe := (HB.out.cell (World.block_lt_of_cell? w _ qe)).trans qe
     have qj := Aside0.mk hi229_0
     have qk := Aside0.mk hl229_0
     clear hi229_0 hl229_0
     replace p229 := eq_true p229
     replace q229 := eq_true q229
     go_wp2_with (first | ((with_reducible refine gate_dst (N := 4) rfl ?_); (try (refine gate_guard (by rfl) ?_; dsimp only)); refine bx_ (cs := #[.slice none 0 0, .int .i64 0, .bool false]) (t := 27) ?_; intro qH hg zF hbox hb; have qf := Aside0.mk (hbox); have qI := hz_ HB hg; have qJ := hz_ HB hg; replace HB := bS_ HB hb; have qg := nL_ qb hg; have qh := nG_ qb hg; replace qb := kB_ qb hb; clear hb hbox hg; have zz := qh.out; have zA := qg.out; obtain ⟨za, zb, zc, zd, ze, zf⟩ := b3_ qf) | ((with_reducible refine gate_callee (f := 52) rfl ?_); refine gL_ (some 27) Tryd.func52 #[.agg #[.slice qi ((rd_T27 l0_1 qa).f0).length c229_0, .int .i64 ((rd_T27 l0_1 qa).f1), .bool ((rd_T27 l0_1 qa).f2)]] ?_; (with_reducible refine (impl_IsAtom.calls k2 _ _ ((rd_T27 l0_1 qa).f0) ((rd_T27 l0_1 qa).f1) ((rd_T27 l0_1 qa).f2) true _ ?side1 ?side2 A14.out).mono ?_); (case side1 => exact Kd.C_below qj.out (bb_ HB)); (case side2 => exact qk.out); rintro e zG ⟨rfl, hb⟩; refine ⟨_, rfl, ?_⟩; replace qb := kF_ qb hb; replace qf := kP_ (cs' := #[.slice qi ((rd_T27 l0_1 qa).f0).length c229_0, .int .i64 ((rd_T27 l0_1 qa).f1), .bool ((rd_T27 l0_1 qa).f2)]) qf hb; replace HB := bS_ HB hb; clear hb; obtain ⟨zg, zh, zi, zj, zk, zl⟩ := b3_ qf; obtain ⟨zm, zn, zo, zp⟩ := b2_ qb))
     go_roundg k2
     case measure => have := HJ1.out; have := HK2.out; omega
     case rel => exact ⟨(wrap64 (qa + 1)), (by first | rfl | (simp; done) | (simp [*]; done)), H', ⟨by have := HJ1.out; have := HK2.out; omega⟩, ⟨kf_ qb⟩, ⟨bb_ HB⟩⟩

/-! ### impl_IsRegion: function 76 -/
mutual
def impl_IsRegion.j0 : Nat → Bool → Int → List (S41) → Option (Bool)
 | 0, _, _, _ => none
 | k + 1, x18, x233000, x233001 => if x18 = true then (some false) else (impl_IsRegion.l0 k x233001 (x233001.length : Int) 0 x233000 x233001)
def impl_IsRegion.l0 : Nat → List (S41) → Int → Int → Int → List (S41) → Option (Bool)
 | 0, _, _, _, _, _ => none
 | k + 1, x20, x21, x22, x233000, x233001 => if x22 < x21 then (if 0 ≤ x22 then (if x22 < (x20.length : Int) then ((impl_IsCell.f k ((rd_T41 x20 x22).f0) ((rd_T41 x20 x22).f1)).bind fun qz => (if qz = true then (if ((rd_T41 x20 x22).f0) = x233000 then (impl_IsRegion.l0 k x20 x21 (wrap64 (x22 + 1)) x233000 x233001) else (some false)) else (some false))) else (none)) else (none)) else (some true)
end
def impl_IsRegion.f (k : Nat) (a0_0 : Int) (l0_1 : List (S41)) : Option (Bool) := if a0_0 < 0 then (impl_IsRegion.j0 k true a0_0 l0_1) else (if a0_0 > 4 then (impl_IsRegion.j0 k true a0_0 l0_1) else (impl_IsRegion.j0 k (decide ((l0_1.length : Int) > 12)) a0_0 l0_1))
theorem impl_IsRegion.mono_l : ∀ k, (∀ y0 y1 y2, LeO (impl_IsRegion.j0 k y0 y1 y2) (impl_IsRegion.j0 (k + 1) y0 y1 y2)) ∧ (∀ y0 y1 y2 y3 y4, LeO (impl_IsRegion.l0 k y0 y1 y2 y3 y4) (impl_IsRegion.l0 (k + 1) y0 y1 y2 y3 y4))
 | 0 => ⟨fun _ _ _ r h => by simp [impl_IsRegion.j0] at h, fun _ _ _ _ _ r h => by simp [impl_IsRegion.l0] at h⟩
 | k + 1 => by
  obtain ⟨ih0, ih1⟩ := impl_IsRegion.mono_l k
  refine ⟨?_, ?_⟩ <;> (intros; first | unfold impl_IsRegion.j0 | unfold impl_IsRegion.l0)
  all_goals
   repeat' first
   | (with_reducible exact ih0 _ _ _)
   | (with_reducible exact ih1 _ _ _ _ _)
   | (with_reducible exact impl_IsCell.mono _ _ _)
   | (with_reducible exact LeO.refl _)
   | (with_reducible exact LeO.none _)
   | (with_reducible refine LeO.ite ?_ ?_)
   | (with_reducible refine LeO.bind ?_ (fun _ => ?_))
   | exact ih0 _ _ _
   | exact ih1 _ _ _ _ _
   | exact impl_IsCell.mono _ _ _
   | exact LeO.none _
   | refine LeO.ite ?_ ?_
   | refine LeO.bind ?_ (fun _ => ?_)
theorem impl_IsRegion.mono : ∀ a0 a1 k, LeO (impl_IsRegion.f k a0 a1) (impl_IsRegion.f (k + 1) a0 a1) := by
 intro a0 a1 k
 obtain ⟨ih0, ih1⟩ := impl_IsRegion.mono_l k
 unfold impl_IsRegion.f
 repeat' first
   | (with_reducible exact ih0 _ _ _)
   | (with_reducible exact ih1 _ _ _ _ _)
   | (with_reducible exact impl_IsCell.mono _ _ _)
   | (with_reducible exact LeO.refl _)
   | (with_reducible exact LeO.none _)
   | (with_reducible refine LeO.ite ?_ ?_)
   | (with_reducible refine LeO.bind ?_ (fun _ => ?_))
   | exact ih0 _ _ _
   | exact ih1 _ _ _ _ _
   | exact impl_IsCell.mono _ _ _
   | exact LeO.none _
   | refine LeO.ite ?_ ?_
   | refine LeO.bind ?_ (fun _ => ?_)
set_option maxHeartbeats 8000000 in
set_option maxRecDepth 100000 in
theorem impl_IsRegion.calls (k : Nat) (a0_0 : Int) (A0_1 : Option Addr) (c0_1 : Nat) (l0_1 : List (S41)) (r : Bool) (w : World) (hr0_1 : Kd.C k41 w A0_1 l0_1.length l0_1) (hc0_1 : l0_1.length ≤ c0_1) (h : impl_IsRegion.f k a0_0 l0_1 = some r) :
  Calls Tryd.prog 76 #[.agg #[.int .i64 a0_0, .slice A0_1 l0_1.length c0_1]] w fun e w' => e = .returned (.bool r) ∧ Below w.heap.size w w' := by
 have hu57 := Tryd.underlying57
 have hu41 := Tryd.underlying41
 have qm := Aside0.mk hr0_1
 have zf := Aside0.mk hc0_1
 clear hr0_1 hc0_1
 have HB := Aside0.mk (Below.refl w.heap.size w)
 have H : (if a0_0 < 0 then (impl_IsRegion.j0 k true a0_0 l0_1) else (if a0_0 > 4 then (impl_IsRegion.j0 k true a0_0 l0_1) else (impl_IsRegion.j0 k (decide ((l0_1.length : Int) > 12)) a0_0 l0_1))) = some r := h
 clear h
 have HC2 := Aside0.mk H
 clear H
 go_enter Tryd.func76, Tryd.ntmps76
 go_upto_region 1 with (first | ((with_reducible refine gate_dst (N := 1) rfl ?_); (try (refine gate_guard (by rfl) ?_; dsimp only)); refine bx_ (cs := #[.int .i64 a0_0, .slice A0_1 l0_1.length c0_1]) (t := 57) ?_; intro qE hg w3 hbox hb; have qb := Aside0.mk (hbox); have zg := hz_ HB hg; have zh := hz_ HB hg; replace HB := bS_ HB hb; clear hb hbox hg))
 (try simp only [Act.put, List.setIfInBounds_toArray, List.set_cons_zero, List.set_cons_succ])
 go_cut [18] (fun v18 wc => ∃ (kq : Nat) (ql : Bool), v18 = .bool ql ∧ Aside0 (impl_IsRegion.j0 kq ql a0_0 l0_1 = some r) ∧ Aside0 (kq ≤ k) ∧ Aside0 (wc.heap[qE]? = some (.cells #[.int .i64 a0_0, (.slice A0_1 l0_1.length c0_1)] 57 (0, 0))) ∧ Aside0 (Below w.heap.size w wc))
 case first =>
  have H := HC2.out
  clear HC2
  by_cases c4 : a0_0 < 0
  ·
   rw [if_pos c4] at H
   have qk : decide (a0_0 < 0) = true := decide_eq_true c4
   clear c4
   (first | rw [qk] | (simp only [i64_w, i32_w]; rw [qk]) | skip)
   have H' := Aside0.mk H
   clear H
   obtain ⟨qn, qo, qp, qq⟩ := b2_ qb
   go_wp2
   go_meet
   case rel => exact ⟨_, (true), (by first | rfl | (simp; done) | (simp [*]; done)), H', ⟨by first | omega | exact Nat.le_refl _⟩, ⟨kf_ qb⟩, ⟨bb_ HB⟩⟩
  rw [if_neg c4] at H
  have qk : decide (a0_0 < 0) = false := decide_eq_false c4
  clear c4
  (first | rw [qk] | (simp only [i64_w, i32_w]; rw [qk]) | skip)
  by_cases c6 : a0_0 > 4
  ·
   rw [if_pos c6] at H
   have qJ : decide (4 < a0_0) = true := decide_eq_true c6
   clear c6
   have H' := Aside0.mk H
   clear H
   obtain ⟨qr, qs, qt, qu⟩ := b2_ qb
   go_wp2
   go_meet
   case rel => exact ⟨_, (true), (by first | rfl | (simp; done) | (simp [*]; done)), H', ⟨by first | omega | exact Nat.le_refl _⟩, ⟨kf_ qb⟩, ⟨bb_ HB⟩⟩
  rw [if_neg c6] at H
  have qJ : decide (4 < a0_0) = false := decide_eq_false c6
  clear c6
  have H' := Aside0.mk H
  clear H
  obtain ⟨qv, qw, qx, qy⟩ := b2_ qb
  go_wp2
  go_meet
  case rel => exact ⟨_, (decide ((l0_1.length : Int) > 12)), (by first | rfl | (simp; done) | (simp [*]; done)), H', ⟨by first | omega | exact Nat.le_refl _⟩, ⟨kf_ qb⟩, ⟨bb_ HB⟩⟩
 case rest =>
  clear HC2
  try clear p2
  try clear c4
  try clear qk
  try clear c6
  try clear qJ
  try clear c7
  try clear qn
  try clear qo
  try clear qr
  try clear qs
  try clear qv
  try clear qw
  try clear qp
  try clear qq
  try clear qt
  try clear qu
  try clear qx
  try clear qy
  obtain ⟨kq, ql, rfl, HA, HJ1, qb, HB⟩ := hcut
  cases kq with
  | zero => exact absurd HA.out (by simp [impl_IsRegion.j0])
  | succ kj1 =>
   have H := HA.out
   clear HA
   simp only [impl_IsRegion.j0] at H
   by_cases c9 : ql = true
   ·
    subst c9
    have H1 : (some false) = some r := by rw [if_pos rfl] at H; exact H
    clear H
    have H := H1
    clear H1
    obtain rfl := Option.some.inj H
    go_wp2
    go_ret
    exact ⟨by first | rfl | (simp [errW_none, errW_some] <;> rfl) | (simp [*, errW_none, errW_some] <;> rfl), bb_ HB⟩
   replace c9 := Bool.eq_false_iff.mpr c9
   subst c9
   have H1 : (impl_IsRegion.l0 kj1 l0_1 (l0_1.length : Int) 0 a0_0 l0_1) = some r := by rw [if_neg (show ¬ (false = true) by decide)] at H; exact H
   clear H
   have H := H1
   clear H1
   have H' := Aside0.mk H
   clear H
   obtain ⟨qA, qB, qC, qD⟩ := b2_ qb
   go_wp2
   go_loopg [22] kj1 (fun kq v22 w' => ∃ (qa : Int), v22 = .int .i64 qa ∧ Aside0 (impl_IsRegion.l0 kq l0_1 (l0_1.length : Int) qa a0_0 l0_1 = some r) ∧ Aside0 (kq ≤ kj1) ∧ Aside0 (w'.heap[qE]? = some (.cells #[.int .i64 a0_0, (.slice A0_1 l0_1.length c0_1)] 57 (0, 0))) ∧ Aside0 (Below w.heap.size w w'))
   case atStart => exact ⟨(0), (by first | rfl | (simp; done) | (simp [*]; done)), H', ⟨Nat.le_refl _⟩, ⟨kf_ qb⟩, ⟨bb_ HB⟩⟩
   case round =>
    clear H'
    try clear p2
    try clear c4
    try clear qk
    try clear c6
    try clear qJ
    try clear c7
    try clear c9
    try clear qA
    try clear qB
    try clear qn
    try clear qo
    try clear qr
    try clear qs
    try clear qv
    try clear qw
    try clear qC
    try clear qD
    try clear qp
    try clear qq
    try clear qt
    try clear qu
    try clear qx
    try clear qy
    try clear p2
    obtain ⟨qa, rfl, HA, HK2, qb, HB⟩ := hrel
    cases gk with
    | zero => exact absurd HA.out (by simp [impl_IsRegion.l0])
    | succ k2 =>
     have H := HA.out
     clear HA
     simp only [impl_IsRegion.l0] at H
     by_cases c11 : qa < (l0_1.length : Int)
     rotate_left
     ·
      rw [if_neg c11] at H
      have qK : decide (qa < (l0_1.length : Int)) = false := decide_eq_false c11
      clear c11
      obtain rfl := Option.some.inj H
      go_wp2
      go_ret
      exact ⟨by first | rfl | (simp [errW_none, errW_some] <;> rfl) | (simp [*, errW_none, errW_some] <;> rfl), bb_ HB⟩
     rw [if_pos c11] at H
     have qK : decide (qa < (l0_1.length : Int)) = true := decide_eq_true c11
     clear c11
     by_cases c12 : 0 ≤ qa
     rotate_left
     ·
      rw [if_neg c12] at H
      exact absurd H (by simp)
     rw [if_pos c12] at H
     have zi : decide (0 ≤ qa) = true := decide_eq_true c12
     clear c12
     by_cases c13 : qa < (l0_1.length : Int)
     rotate_left
     ·
      rw [if_neg c13] at H
      exact absurd H (by simp)
     rw [if_pos c13] at H
     have zj : decide (qa < (l0_1.length : Int)) = true := decide_eq_true c13
     clear c13
     replace H := Option.bind_eq_some_iff.mp H
     obtain ⟨qz, A140, H⟩ := H
     replace H : (if qz = true then (if ((rd_T41 l0_1 qa).f0) = a0_0 then (impl_IsRegion.l0 k2 l0_1 (l0_1.length : Int) (wrap64 (qa + 1)) a0_0 l0_1) else (some false)) else (some false)) = some r := H
     have A14 := Aside0.mk A140
     clear A140
     by_cases c15 : qz = true
     rotate_left
     ·
      replace c15 := Bool.eq_false_iff.mpr c15
      subst c15
      have H1 : (some false) = some r := by rw [if_neg (show ¬ (false = true) by decide)] at H; exact H
      clear H
      have H := H1
      clear H1
      obtain rfl := Option.some.inj H
      have p233 : 0 ≤ (qa : Int) := of_decide_eq_true (by first | (with_reducible assumption) | assumption)
      have q233 : qa < (l0_1.length : Int) := of_decide_eq_true (by first | (with_reducible assumption) | assumption)
      obtain ⟨qF, qh, c233_1, e233, qc, qd, hl233_1, hi233_1⟩ := at_T41 qm.out qa p233 q233
      cases e233
      replace qc := (HB.out.cell (World.block_lt_of_cell? w _ qc)).trans qc
      replace qd := (HB.out.cell (World.block_lt_of_cell? w _ qd)).trans qd
      have qi := Aside0.mk hi233_1
      have qj := Aside0.mk hl233_1
      clear hi233_1 hl233_1
      replace p233 := eq_true p233
      replace q233 := eq_true q233
      go_wp2_with (first | ((with_reducible refine gate_dst (N := 4) rfl ?_); (try (refine gate_guard (by rfl) ?_; dsimp only)); refine bx_ (cs := #[.int .i64 0, .slice none 0 0]) (t := 41) ?_; intro qG hg zq hbox hb; have qe := Aside0.mk (hbox); have qH := hz_ HB hg; have qI := hz_ HB hg; replace HB := bS_ HB hb; have qf := nL_ qb hg; have qg := nG_ qb hg; replace qb := kB_ qb hb; clear hb hbox hg; have zk := qg.out; have zl := qf.out; obtain ⟨qN, qO, qP, qQ⟩ := b2_ qe) | ((with_reducible refine gate_callee (f := 66) rfl ?_); refine gL_ (some 27) Tryd.func66 #[.agg #[.int .i64 ((rd_T41 l0_1 qa).f0), .slice qh ((rd_T41 l0_1 qa).f1).length c233_1]] ?_; (with_reducible refine (impl_IsCell.calls k2 ((rd_T41 l0_1 qa).f0) _ _ ((rd_T41 l0_1 qa).f1) false _ ?side1 ?side2 A14.out).mono ?_); (case side1 => exact Kd.C_below qi.out (bb_ HB)); (case side2 => exact qj.out); rintro e zr ⟨rfl, hb⟩; refine ⟨_, rfl, ?_⟩; replace qb := kF_ qb hb; replace qe := kP_ (cs' := #[.int .i64 ((rd_T41 l0_1 qa).f0), .slice qh ((rd_T41 l0_1 qa).f1).length c233_1]) qe hb; replace HB := bS_ HB hb; clear hb))
      go_ret
      exact ⟨by first | rfl | (simp [errW_none, errW_some] <;> rfl) | (simp [*, errW_none, errW_some] <;> rfl), bb_ HB⟩
     subst c15
     have H1 : (if ((rd_T41 l0_1 qa).f0) = a0_0 then (impl_IsRegion.l0 k2 l0_1 (l0_1.length : Int) (wrap64 (qa + 1)) a0_0 l0_1) else (some false)) = some r := by rw [if_pos rfl] at H; exact H
     clear H
     have H := H1
     clear H1
     by_cases c16 : ((rd_T41 l0_1 qa).f0) = a0_0
     rotate_left
     ·
      rw [if_neg c16] at H
      have qL : (((rd_T41 l0_1 qa).f0) == a0_0) = false := beq_eq_false_iff_ne.mpr c16
      have qM : (((rd_T41 l0_1 qa).f0) != a0_0) = true := bne_iff_ne.mpr c16
      obtain rfl := Option.some.inj H
      have p233 : 0 ≤ (qa : Int) := of_decide_eq_true (by first | (with_reducible assumption) | assumption)
      have q233 : qa < (l0_1.length : Int) := of_decide_eq_true (by first | (with_reducible assumption) | assumption)
      obtain ⟨qF, qh, c233_1, e233, qc, qd, hl233_1, hi233_1⟩ := at_T41 qm.out qa p233 q233
      cases e233
      replace qc := (HB.out.cell (World.block_lt_of_cell? w _ qc)).trans qc
      replace qd := (HB.out.cell (World.block_lt_of_cell? w _ qd)).trans qd
      have qi := Aside0.mk hi233_1
      have qj := Aside0.mk hl233_1
      clear hi233_1 hl233_1
      replace p233 := eq_true p233
      replace q233 := eq_true q233
      go_wp2_with (first | ((with_reducible refine gate_dst (N := 4) rfl ?_); (try (refine gate_guard (by rfl) ?_; dsimp only)); refine bx_ (cs := #[.int .i64 0, .slice none 0 0]) (t := 41) ?_; intro qG hg zs hbox hb; have qe := Aside0.mk (hbox); have qH := hz_ HB hg; have qI := hz_ HB hg; replace HB := bS_ HB hb; have qf := nL_ qb hg; have qg := nG_ qb hg; replace qb := kB_ qb hb; clear hb hbox hg; have zm := qg.out; have zn := qf.out; obtain ⟨qR, qS, qT, qU⟩ := b2_ qe) | ((with_reducible refine gate_callee (f := 66) rfl ?_); refine gL_ (some 27) Tryd.func66 #[.agg #[.int .i64 ((rd_T41 l0_1 qa).f0), .slice qh ((rd_T41 l0_1 qa).f1).length c233_1]] ?_; (with_reducible refine (impl_IsCell.calls k2 ((rd_T41 l0_1 qa).f0) _ _ ((rd_T41 l0_1 qa).f1) true _ ?side1 ?side2 A14.out).mono ?_); (case side1 => exact Kd.C_below qi.out (bb_ HB)); (case side2 => exact qj.out); rintro e zt ⟨rfl, hb⟩; refine ⟨_, rfl, ?_⟩; replace qb := kF_ qb hb; replace qe := kP_ (cs' := #[.int .i64 ((rd_T41 l0_1 qa).f0), .slice qh ((rd_T41 l0_1 qa).f1).length c233_1]) qe hb; replace HB := bS_ HB hb; clear hb; obtain ⟨qV, qW, qX, qY⟩ := b2_ qe; obtain ⟨qZ, q0, q1, q2⟩ := b2_ qb))
      go_ret
      exact ⟨by first | rfl | (simp [errW_none, errW_some] <;> rfl) | (simp [*, errW_none, errW_some] <;> rfl), bb_ HB⟩
     rw [if_pos c16] at H
     have qL : (((rd_T41 l0_1 qa).f0) == a0_0) = true := beq_iff_eq.mpr c16
     have qM : (((rd_T41 l0_1 qa).f0) != a0_0) = false := bne_eq_false_iff_eq.mpr c16
     clear c16
     have H' := Aside0.mk H
     clear H
     have p233 : 0 ≤ (qa : Int) := of_decide_eq_true (by first | (with_reducible assumption) | assumption)
     have q233 : qa < (l0_1.length : Int) := of_decide_eq_true (by first | (with_reducible assumption) | assumption)
     obtain ⟨qF, qh, c233_1, e233, qc, qd, hl233_1, hi233_1⟩ := at_T41 qm.out qa p233 q233
     cases e233
     replace qc := (HB.out.cell (World.block_lt_of_cell? w _ qc)).trans qc
     replace qd := (HB.out.cell (World.block_lt_of_cell? w _ qd)).trans qd
     have qi := Aside0.mk hi233_1
     have qj := Aside0.mk hl233_1
     clear hi233_1 hl233_1
     replace p233 := eq_true p233
     replace q233 := eq_true q233
     go_wp2_with (first | ((with_reducible refine gate_dst (N := 4) rfl ?_); (try (refine gate_guard (by rfl) ?_; dsimp only)); refine bx_ (cs := #[.int .i64 0, .slice none 0 0]) (t := 41) ?_; intro qG hg zu hbox hb; have qe := Aside0.mk (hbox); have qH := hz_ HB hg; have qI := hz_ HB hg; replace HB := bS_ HB hb; have qf := nL_ qb hg; have qg := nG_ qb hg; replace qb := kB_ qb hb; clear hb hbox hg; have zo := qg.out; have zp := qf.out; obtain ⟨q3, q4, q5, q6⟩ := b2_ qe) | ((with_reducible refine gate_callee (f := 66) rfl ?_); refine gL_ (some 27) Tryd.func66 #[.agg #[.int .i64 ((rd_T41 l0_1 qa).f0), .slice qh ((rd_T41 l0_1 qa).f1).length c233_1]] ?_; (with_reducible refine (impl_IsCell.calls k2 ((rd_T41 l0_1 qa).f0) _ _ ((rd_T41 l0_1 qa).f1) true _ ?side1 ?side2 A14.out).mono ?_); (case side1 => exact Kd.C_below qi.out (bb_ HB)); (case side2 => exact qj.out); rintro e zv ⟨rfl, hb⟩; refine ⟨_, rfl, ?_⟩; replace qb := kF_ qb hb; replace qe := kP_ (cs' := #[.int .i64 ((rd_T41 l0_1 qa).f0), .slice qh ((rd_T41 l0_1 qa).f1).length c233_1]) qe hb; replace HB := bS_ HB hb; clear hb; obtain ⟨q7, q8, q9, za⟩ := b2_ qe; obtain ⟨zb, zc, zd, ze⟩ := b2_ qb))
     go_roundg k2
     case measure => have := HJ1.out; have := HK2.out; omega
     case rel => exact ⟨(wrap64 (qa + 1)), (by first | rfl | (simp; done) | (simp [*]; done)), H', ⟨by have := HJ1.out; have := HK2.out; omega⟩, ⟨kf_ qb⟩, ⟨bb_ HB⟩⟩

/-! ### impl_FormatRegion: function 29 -/

def FR.go (k : Nat) : List (S41) → List UInt8 → Option (List UInt8)
 | [], acc => some acc
 | c :: cs, acc => (impl_bracesOf.f k c.f0 c.f1).bind fun t => if acc.length ≤ 900000 ∧ t.size ≤ 3000 then FR.go k cs (acc ++ t.data.toList) else none
def impl_FormatRegion.f (k : Nat) (a0_0 : Int) (l0_1 : List (S41)) : Option (ByteArray) := (impl_IsRegion.f k a0_0 l0_1).bind fun t => if t = true then (if l0_1.length ≤ 12 then (impl_FormatInt.f a0_0).bind fun u => if u.size ≤ 100 then (FR.go k l0_1 (u.data.toList ++ [91])).bind fun acc => if acc.length ≤ 950000 then some ⟨(acc ++ [93]).toArray⟩ else none else none else none) else some ⟨#[]⟩
theorem FR.go_mono (k : Nat) : ∀ (l : List (S41)) (acc : List UInt8), LeO (FR.go k l acc) (FR.go (k + 1) l acc)
 | [], acc => LeO.refl _
 | c :: cs, acc => LeO.bind (impl_bracesOf.mono _ _ k) (fun t => LeO.ite (FR.go_mono k cs _) (LeO.none _))
theorem impl_FormatRegion.mono : ∀ a0_0 l0_1 k, LeO (impl_FormatRegion.f k a0_0 l0_1) (impl_FormatRegion.f (k + 1) a0_0 l0_1) := fun a l k => LeO.bind (impl_IsRegion.mono a l k) (fun _ => LeO.ite (LeO.ite (LeO.bind (LeO.refl _) (fun _ => LeO.ite (LeO.bind (FR.go_mono k l _) (fun _ => LeO.refl _)) (LeO.none _))) (LeO.none _)) (LeO.refl _))
/-- What is carried: the builder, what was there. -/
structure FR.St (w : World) (B : Nat) (acc : List UInt8) (W : World) : Prop where
 wB : w.heap.size ≤ B
 bl : Bl B B acc W
 lt : B < W.heap.size
 bw : Below w.heap.size w W
theorem FR.St.on {w : World} {B : Nat} {acc acc' : List UInt8} {W W' : World} (h : FR.St w B acc W) (hb : Bl B B acc' W') (hw : Below B W W') : FR.St w B acc' W' :=
 ⟨h.wB, hb, Nat.lt_of_lt_of_le h.lt hw.size, h.bw.trans (hw.mono h.wB)⟩
theorem FR.St.grown {w : World} {B : Nat} {acc : List UInt8} {W W' : World} (h : FR.St w B acc W) (hw : Below W.heap.size W W') : FR.St w B acc W' :=
 h.on (h.bl.below hw) (hw.mono (Nat.le_of_lt h.lt))
theorem FR.St.start {w W : World} (h : Aside0 (Below w.heap.size w W)) : FR.St w W.heap.size [] (W.alloc (.cells #[.pointer none, .slice none 0 0] 87)) :=
 ⟨below_size h.out, Bl.new W, by simp, below_alloc h.out _⟩
set_option maxHeartbeats 8000000 in
set_option maxRecDepth 100000 in
theorem impl_FormatRegion.calls (k : Nat) (a0_0 : Int) (A0_1 : Option Addr) (c0_1 : Nat) (l0_1 : List (S41)) (r : ByteArray) (w : World) (hL : LaidW w) (hr0_1 : Kd.C k41 w A0_1 l0_1.length l0_1) (hc0_1 : l0_1.length ≤ c0_1) (h : impl_FormatRegion.f k a0_0 l0_1 = some r) :
  Calls Tryd.prog 29 #[.agg #[.int .i64 a0_0, .slice A0_1 l0_1.length c0_1]] w fun e w' => e = .returned (.string r) ∧ Below w.heap.size w w' := by
 have HL_ := Aside0.mk hL
 have HR0 := Aside0.mk hr0_1
 have HC0 := Aside0.mk hc0_1
 clear hL hr0_1 hc0_1
 have hu57 := Tryd.underlying57
 have hu41 := Tryd.underlying41
 unfold impl_FormatRegion.f at h
 obtain ⟨t, hA, h⟩ := Option.bind_eq_some_iff.mp h
 have HA := Aside0.mk hA
 have H := Aside0.mk h
 clear hA h
 cases t with
 | false =>
  obtain rfl := Option.some.inj H.out
  go_enter Tryd.func29, Tryd.ntmps29
  go_wp2_with (first | ((with_reducible refine gate_dst (N := 1) rfl ?_); refine bx_ (cs := #[.int .i64 a0_0, .slice A0_1 l0_1.length c0_1]) (t := 57) ?_; intro g hg w1 hbox hb; have HX := Aside0.mk hbox; have HB := Aside0.mk hb; obtain ⟨e0, e1, e2, e3⟩ := b2_ HX; clear hbox hg hb) | (go_at_call 76; refine (impl_IsRegion.calls k a0_0 A0_1 c0_1 l0_1 _ _ (Kd.C_below HR0.out HB.out) HC0.out HA.out).mono ?_; rintro e w2 ⟨rfl, hb2⟩; replace HX := kB_ HX hb2; replace HB := bS_ HB hb2; clear hb2 e0 e1 e2 e3; have e0 := fun o => (b2_ (Aside0.mk (blk_alloc HX.out o))).1; have e1 := fun o => (b2_ (Aside0.mk (blk_alloc HX.out o))).2.1))
  go_ret
  exact ⟨rfl, HB.out⟩
 | true =>
  have H1 := H.out
  clear H
  rw [if_pos rfl] at H1
  by_cases h12 : l0_1.length ≤ 12
  rotate_left
  ·
   rw [if_neg h12] at H1; exact absurd H1 (by simp)
  rw [if_pos h12] at H1
  obtain ⟨u, hu, H1⟩ := Option.bind_eq_some_iff.mp H1
  have HU := Aside0.mk hu
  clear hu
  by_cases hus : u.size ≤ 100
  rotate_left
  ·
   rw [if_neg hus] at H1; exact absurd H1 (by simp)
  rw [if_pos hus] at H1
  obtain ⟨fa, hgo, hfin⟩ := Option.bind_eq_some_iff.mp H1
  have HGO := Aside0.mk hgo
  have HFIN := Aside0.mk hfin
  have H12 := Aside0.mk h12
  have HUS := Aside0.mk hus
  clear H1 hgo hfin h12 hus
  go_enter Tryd.func29, Tryd.ntmps29
  have hz : (u ++ (⟨#[91]⟩ : ByteArray)).size ≤ 101 := by have := HUS.out; rw [ByteArray.size_append]; show u.size + 1 ≤ 101; omega
  have eu : (u ++ (⟨#[91]⟩ : ByteArray)).data.toList = u.data.toList ++ [91] := by simp [ByteArray.data_append]
  have HZ := Aside0.mk hz
  have EU := Aside0.mk eu
  clear hz eu
  have hc0 := eq_true (show u.size + 1 ≤ 9223372036854775807 by have := HUS.out; omega)
  have hc2 := eq_false (show ¬ 9223372036854775807 < u.size + 1 by have := HUS.out; omega)
  go_wp2_with (first | ((with_reducible refine gate_dst (N := 1) rfl ?_); refine bx_ (cs := #[.int .i64 a0_0, .slice A0_1 l0_1.length c0_1]) (t := 57) ?_; intro g hg w1 hbox hb; have HX := Aside0.mk hbox; have HB := Aside0.mk hb; obtain ⟨e0, e1, e2, e3⟩ := b2_ HX; clear hbox hg hb) | (go_at_call 76; refine (impl_IsRegion.calls k a0_0 A0_1 c0_1 l0_1 _ _ (Kd.C_below HR0.out HB.out) HC0.out HA.out).mono ?_; rintro e w2 ⟨rfl, hb2⟩; replace HX := kB_ HX hb2; replace HB := bS_ HB hb2; clear hb2 e0 e1 e2 e3; have e0 := fun o => (b2_ (Aside0.mk (blk_alloc HX.out o))).1; have e1 := fun o => (b2_ (Aside0.mk (blk_alloc HX.out o))).2.1) | (go_at_call 56; refine (impl_FormatInt.calls a0_0 u _ (laid_ HL_ HB) HU.out).mono ?_; rintro e W1 ⟨rfl, hw_⟩; have HS := (FR.St.start HB).grown hw_; have hgB := Aside0.mk (blk_lt HX.out); replace HX := Aside0.mk (blk_below (blk_alloc HX.out _) hw_); clear hw_ e0 e1; obtain ⟨e0, e1, e2, e3⟩ := b2_ HX) | (go_at_call 55; refine (Bl.str _ HS.bl (by simp) (by have := HZ.out; omega) (Nat.le_of_lt HS.lt)).mono ?_; rintro e W2 ⟨rfl, hb_, hw_⟩; replace HX := Aside0.mk ((hw_.block _ hgB.out).trans HX.out); replace HS := HS.on hb_ hw_; clear hb_ hw_ e0 e1 e2 e3; obtain ⟨e0, e1, e2, e3⟩ := b2_ HX))
  have HS1 : FR.St w w2.heap.size (u.data.toList ++ [91]) W2 := by have h_ := HS; rw [EU.out] at h_; exact h_
  clear HS e0 e1 e2 e3 HX HB hgB hc0 hc2 HZ EU HUS HU
  generalize w2.heap.size = B at HS1 ⊢
  obtain ⟨K, hK⟩ : ∃ K, K = l0_1.length + 1 := ⟨_, rfl⟩
  have HK0 := Aside0.mk hK
  clear hK
  go_loopg [17] K (fun kq v17 wc => ∃ (acc : List UInt8) (x : Int), v17 = .int .i64 x ∧ Aside0 (0 ≤ x) ∧ Aside0 (x ≤ (l0_1.length : Int)) ∧ Aside0 (FR.go k (l0_1.drop x.toNat) acc = some fa) ∧ Aside0 (x.toNat + kq = l0_1.length + 1) ∧ FR.St w B acc wc)
  case atStart => exact ⟨_, 0, rfl, ⟨by omega⟩, ⟨by omega⟩, HGO, ⟨by have := HK0.out; simp; omega⟩, HS1⟩
  case round =>
   clear HS1 HGO
   obtain ⟨acc, x, rfl, qa, qb, HGO, HK1, HS⟩ := hrel
   cases gk with
   | zero => have := HK1.out; have := qb.out; have := qa.out; omega
   | succ k1 =>
   by_cases hi : x < (l0_1.length : Int)
   rotate_left
   ·
    have hlt : decide (x < (l0_1.length : Int)) = false := decide_eq_false hi
    have HG1 := HGO.out
    rw [List.drop_eq_nil_of_le (by have := qa.out; omega), FR.go] at HG1
    obtain rfl : acc = fa := Option.some.inj HG1
    have hf := HFIN.out
    clear HG1 HGO HFIN
    split at hf
    rotate_left
    ·
     exact absurd hf (by simp)
    rename_i hlen
    obtain rfl := Option.some.inj hf
    have HLEN := Aside0.mk hlen
    clear hf hlen
    go_wp2_with (first | (go_at_call 54; refine (Bl.byteI _ 93 (by rfl) HS.bl (by have := HLEN.out; omega) (Nat.le_of_lt HS.lt)).mono ?_; rintro e W1 ⟨rfl, hb_, hw_⟩; replace HS := HS.on hb_ hw_; clear hb_ hw_) | (go_at_call 57; refine (Bl.out HS.bl (Nat.le_of_lt HS.lt)).mono ?_; rintro e W1 ⟨rfl, HO⟩))
    go_ret
    exact ⟨by first | rfl | (simp; done) | (simp; rfl), HS.bw.trans (HO.mono HS.wB)⟩
   have hlt : decide (x < (l0_1.length : Int)) = true := decide_eq_true hi
   have hx0 := qa.out
   have hn : x.toNat < l0_1.length := by omega
   obtain ⟨ad, A1, c1, e1, g0, g1, gl, gi⟩ := at_T41 HR0.out x hx0 hi
   cases e1
   replace g0 := (HS.bw.cell (World.block_lt_of_cell? w _ g0)).trans g0
   replace g1 := (HS.bw.cell (World.block_lt_of_cell? w _ g1)).trans g1
   have HRi := Aside0.mk gi
   have HCi := Aside0.mk gl
   clear gi gl
   have hrd : rd_T41 l0_1 x = l0_1[x.toNat] := by simp [rd_T41, List.getD_eq_getElem?_getD, hn]
   have HG1 := HGO.out
   rw [List.drop_eq_getElem_cons hn, FR.go, ← hrd] at HG1
   clear HGO hrd hn
   obtain ⟨t, hbr, hgo⟩ := Option.bind_eq_some_iff.mp HG1
   have HBR := Aside0.mk hbr
   clear HG1 hbr
   by_cases hc : acc.length ≤ 900000 ∧ t.size ≤ 3000
   rotate_left
   ·
    rw [if_neg hc] at hgo; exact absurd hgo (by simp)
   rw [if_pos hc] at hgo
   have HGO := Aside0.mk hgo
   have HC := Aside0.mk hc
   clear hgo hc
   have hwr : wrap64 (x + 1) = x + 1 := by unfold wrap64; have := H12.out; omega
   have p1 : (0 ≤ x) = True := eq_true hx0
   have q1 : (x < (l0_1.length : Int)) = True := eq_true hi
   go_wp2_with (first | ((with_reducible refine gate_dst (N := 5) rfl ?_); refine bx_ (cs := #[.int .i64 0, .slice none 0 0]) (t := 41) ?_; intro g2 hg2 w5 hbox2 hb5; have HB5 := Aside0.mk hb5; have HG5 := Aside0.mk (Nat.le_of_eq hg2.symm); have HW5 := Aside0.mk (below_step HS.bw hb5); have HWG := Aside0.mk (Nat.le_trans (below_size HS.bw) HG5.out); obtain ⟨f0, f1, f2, f3⟩ := b2_ (Aside0.mk hbox2); clear hbox2 hg2 hb5) | (go_at_call 67; refine (impl_bracesOf.calls k _ _ _ _ t _ (laid_ HL_ HW5) (cb_ HRi HW5) HCi.out HBR.out).mono ?_; rintro e W6 ⟨rfl, hb6⟩; replace HS := HS.grown (bs_ HB5 hb6); clear hb6 HB5 HG5 HW5 HWG f0 f1 f2 f3) | (go_at_call 55; refine (Bl.str _ HS.bl (by have := HC.out; omega) (by have := HC.out; omega) (Nat.le_of_lt HS.lt)).mono ?_; rintro e W7 ⟨rfl, hb_, hw_⟩; replace HS := HS.on hb_ hw_; clear hb_ hw_))
   go_roundg k1
   case measure => have := HK1.out; omega
   case rel =>
    have e : (x + 1).toNat = x.toNat + 1 := by omega
    exact ⟨_, x + 1, by first | rfl | (simp [hwr]; done), ⟨by omega⟩, ⟨by omega⟩, ⟨by rw [e]; exact HGO.out⟩, ⟨by have := HK1.out; omega⟩, HS⟩

/-! ### laws_eqIntS: function 58 -/
def laws_eqIntS.l0 : Nat → List Int → List Int → Int → Option (Bool)
 | 0, _, _, _ => none
 | k + 1, x0, x1, x5 => if x5 < (x0.length : Int) then (if 0 ≤ x5 then (if x5 < (x1.length : Int) then (if (rd x0 x5) = (rd x1 x5) then (laws_eqIntS.l0 k x0 x1 (wrap64 (x5 + 1))) else (some false)) else (none)) else (none)) else (some true)
def laws_eqIntS.f (k : Nat) (l0 : List Int) (l1 : List Int) : Option (Bool) := if (l0.length : Int) = (l1.length : Int) then (laws_eqIntS.l0 k l0 l1 0) else (some false)
theorem laws_eqIntS.mono_l : ∀ k, (∀ y0 y1 y2, LeO (laws_eqIntS.l0 k y0 y1 y2) (laws_eqIntS.l0 (k + 1) y0 y1 y2))
 | 0 => fun _ _ _ r h => by simp [laws_eqIntS.l0] at h
 | k + 1 => by
  have ih0 := laws_eqIntS.mono_l k
  ·
   intro y0 y1 y2
   unfold laws_eqIntS.l0
   repeat' first
   | (with_reducible exact ih0 _ _ _)
   | (with_reducible exact LeO.refl _)
   | (with_reducible exact LeO.none _)
   | (with_reducible refine LeO.ite ?_ ?_)
   | (with_reducible refine LeO.bind ?_ (fun _ => ?_))
   | exact ih0 _ _ _
   | exact LeO.none _
   | refine LeO.ite ?_ ?_
   | refine LeO.bind ?_ (fun _ => ?_)
theorem laws_eqIntS.mono : ∀ a0 a1 k, LeO (laws_eqIntS.f k a0 a1) (laws_eqIntS.f (k + 1) a0 a1) := by
 intro a0 a1 k
 have ih0 := laws_eqIntS.mono_l k
 unfold laws_eqIntS.f
 repeat' first
   | (with_reducible exact ih0 _ _ _)
   | (with_reducible exact LeO.refl _)
   | (with_reducible exact LeO.none _)
   | (with_reducible refine LeO.ite ?_ ?_)
   | (with_reducible refine LeO.bind ?_ (fun _ => ?_))
   | exact ih0 _ _ _
   | exact LeO.none _
   | refine LeO.ite ?_ ?_
   | refine LeO.bind ?_ (fun _ => ?_)
set_option maxHeartbeats 8000000 in
set_option maxRecDepth 100000 in
theorem laws_eqIntS.calls (k : Nat) (A0 : Option Addr) (c0 : Nat) (l0 : List Int) (A1 : Option Addr) (c1 : Nat) (l1 : List Int) (r : Bool) (w : World) (hr0 : Kd.C (Kd.int .i64) w A0 l0.length l0) (hc0 : l0.length ≤ c0) (hr1 : Kd.C (Kd.int .i64) w A1 l1.length l1) (hc1 : l1.length ≤ c1) (h : laws_eqIntS.f k l0 l1 = some r) :
  Calls Tryd.prog 58 #[.slice A0 l0.length c0, .slice A1 l1.length c1] w fun e w' => e = .returned (.bool r) ∧ Drawn0 w w' := by
 have HR0 := Aside0.mk hr0
 have HC0 := Aside0.mk hc0
 clear hr0 hc0
 have HR1 := Aside0.mk hr1
 have HC1 := Aside0.mk hc1
 clear hr1 hc1
 have H : (if (l0.length : Int) = (l1.length : Int) then (laws_eqIntS.l0 k l0 l1 0) else (some false)) = some r := h
 clear h
 by_cases c3 : (l0.length : Int) = (l1.length : Int)
 rotate_left
 ·
  rw [if_neg c3] at H
  have qd : ((l0.length : Int) == (l1.length : Int)) = false := beq_eq_false_iff_ne.mpr c3
  have qe : ((l0.length : Int) != (l1.length : Int)) = true := bne_iff_ne.mpr c3
  have qf : (l0.length == l1.length) = false := by first | simpa using c3 | (simp at c3 ⊢; omega)
  obtain rfl := Option.some.inj H
  go_enter Tryd.func58, Tryd.ntmps58
  go_wp2
  repeat (go_quiet (fail); try go_wp2)
  go_ret
  exact ⟨by first | rfl | (simp; done) | (simp [*]; done), by repeat (first | exact Drawn0.refl _ | apply Drawn0.step)⟩
 rw [if_pos c3] at H
 have qd : ((l0.length : Int) == (l1.length : Int)) = true := beq_iff_eq.mpr c3
 have qe : ((l0.length : Int) != (l1.length : Int)) = false := bne_eq_false_iff_eq.mpr c3
 have qf : (l0.length == l1.length) = true := by first | simpa using c3 | (simp at c3 ⊢; omega)
 clear c3
 have H' := Aside0.mk H
 clear H
 go_enter Tryd.func58, Tryd.ntmps58
 go_wp2
 repeat (go_quiet (fail); try go_wp2)
 go_loopg [5] k (fun kq v5 w' => ∃ (qa : Int), v5 = .int .i64 qa ∧ Aside0 (laws_eqIntS.l0 kq l0 l1 qa = some r) ∧ Aside0 (kq ≤ k) ∧ Drawn0 w w')
 case atStart => exact ⟨(0), (by first | rfl | (simp; done) | (simp [*]; done)), H', ⟨Nat.le_refl _⟩, by repeat (first | exact Drawn0.refl _ | apply Drawn0.step)⟩
 case round =>
  clear H'
  try clear c1
  try clear p2
  try clear c3
  try clear qd
  try clear qe
  try clear qf
  obtain ⟨qa, rfl, HA, HK1, ⟨m1, rfl⟩⟩ := hrel
  cases gk with
  | zero => exact absurd HA.out (by simp [laws_eqIntS.l0])
  | succ k1 =>
   have H := HA.out
   clear HA
   simp only [laws_eqIntS.l0] at H
   by_cases c4 : qa < (l0.length : Int)
   rotate_left
   ·
    rw [if_neg c4] at H
    have qi : decide (qa < (l0.length : Int)) = false := decide_eq_false c4
    clear c4
    obtain rfl := Option.some.inj H
    go_wp2
    repeat (go_quiet (fail); try go_wp2)
    go_ret
    exact ⟨by first | rfl | (simp; done) | (simp [*]; done), by repeat (first | exact Drawn0.refl _ | apply Drawn0.step)⟩
   rw [if_pos c4] at H
   have qi : decide (qa < (l0.length : Int)) = true := decide_eq_true c4
   clear c4
   by_cases c5 : 0 ≤ qa
   rotate_left
   ·
    rw [if_neg c5] at H
    exact absurd H (by simp)
   rw [if_pos c5] at H
   have ql : decide (0 ≤ qa) = true := decide_eq_true c5
   clear c5
   by_cases c6 : qa < (l1.length : Int)
   rotate_left
   ·
    rw [if_neg c6] at H
    exact absurd H (by simp)
   rw [if_pos c6] at H
   have qm : decide (qa < (l1.length : Int)) = true := decide_eq_true c6
   clear c6
   by_cases c7 : (rd l0 qa) = (rd l1 qa)
   rotate_left
   ·
    rw [if_neg c7] at H
    have qj : ((rd l0 qa) == (rd l1 qa)) = false := beq_eq_false_iff_ne.mpr c7
    have qk : ((rd l0 qa) != (rd l1 qa)) = true := bne_iff_ne.mpr c7
    obtain rfl := Option.some.inj H
    have p236 : 0 ≤ (qa : Int) := of_decide_eq_true (by first | (with_reducible assumption) | assumption)
    have q236 : qa < (l0.length : Int) := of_decide_eq_true (by first | (with_reducible assumption) | assumption)
    obtain ⟨qg, e236, qb⟩ := Kd.at_int HR0.out qa p236 q236
    cases e236
    replace p236 := eq_true p236
    replace q236 := eq_true q236
    have p237 : 0 ≤ (qa : Int) := of_decide_eq_true (by first | (with_reducible assumption) | assumption)
    have q237 : qa < (l1.length : Int) := of_decide_eq_true (by first | (with_reducible assumption) | assumption)
    obtain ⟨qh, e237, qc⟩ := Kd.at_int HR1.out qa p237 q237
    cases e237
    replace p237 := eq_true p237
    replace q237 := eq_true q237
    go_wp2
    repeat (go_quiet (fail); try go_wp2)
    go_ret
    exact ⟨by first | rfl | (simp; done) | (simp [*]; done), by repeat (first | exact Drawn0.refl _ | apply Drawn0.step)⟩
   rw [if_pos c7] at H
   have qj : ((rd l0 qa) == (rd l1 qa)) = true := beq_iff_eq.mpr c7
   have qk : ((rd l0 qa) != (rd l1 qa)) = false := bne_eq_false_iff_eq.mpr c7
   clear c7
   have H' := Aside0.mk H
   clear H
   have p236 : 0 ≤ (qa : Int) := of_decide_eq_true (by first | (with_reducible assumption) | assumption)
   have q236 : qa < (l0.length : Int) := of_decide_eq_true (by first | (with_reducible assumption) | assumption)
   obtain ⟨qg, e236, qb⟩ := Kd.at_int HR0.out qa p236 q236
   cases e236
   replace p236 := eq_true p236
   replace q236 := eq_true q236
   have p237 : 0 ≤ (qa : Int) := of_decide_eq_true (by first | (with_reducible assumption) | assumption)
   have q237 : qa < (l1.length : Int) := of_decide_eq_true (by first | (with_reducible assumption) | assumption)
   obtain ⟨qh, e237, qc⟩ := Kd.at_int HR1.out qa p237 q237
   cases e237
   replace p237 := eq_true p237
   replace q237 := eq_true q237
   go_wp2
   repeat (go_quiet (fail); try go_wp2)
   go_roundg k1
   case measure => have := HK1.out; omega
   case rel => exact ⟨(wrap64 (qa + 1)), (by first | rfl | (simp; done) | (simp [*]; done)), H', ⟨by have := HK1.out; omega⟩, by repeat (first | exact Drawn0.refl _ | apply Drawn0.step)⟩

/-! ### laws_eqAtom: function 15 -/
def laws_eqAtom.f (k : Nat) (l0_0 : List Int) (a0_1 : Int) (a0_2 : Bool) (l1_0 : List Int) (a1_1 : Int) (a1_2 : Bool) : Option (Bool) := (laws_eqIntS.f k l0_0 l1_0).bind fun qi => (if qi = true then (if a0_1 = a1_1 then (if (a0_2 != a1_2) = true then (some false) else (some true)) else (some false)) else (some false))
theorem laws_eqAtom.mono : ∀ a0 a1 a2 a3 a4 a5 k, LeO (laws_eqAtom.f k a0 a1 a2 a3 a4 a5) (laws_eqAtom.f (k + 1) a0 a1 a2 a3 a4 a5) := by
 intro a0 a1 a2 a3 a4 a5 k
 unfold laws_eqAtom.f
 repeat' first
   | (with_reducible exact laws_eqIntS.mono _ _ _)
   | (with_reducible exact LeO.refl _)
   | (with_reducible exact LeO.none _)
   | (with_reducible refine LeO.ite ?_ ?_)
   | (with_reducible refine LeO.bind ?_ (fun _ => ?_))
   | exact laws_eqIntS.mono _ _ _
   | exact LeO.none _
   | refine LeO.ite ?_ ?_
   | refine LeO.bind ?_ (fun _ => ?_)
set_option maxHeartbeats 8000000 in
set_option maxRecDepth 100000 in
theorem laws_eqAtom.calls (k : Nat) (A0_0 : Option Addr) (c0_0 : Nat) (l0_0 : List Int) (a0_1 : Int) (a0_2 : Bool) (A1_0 : Option Addr) (c1_0 : Nat) (l1_0 : List Int) (a1_1 : Int) (a1_2 : Bool) (r : Bool) (w : World) (hr0_0 : Kd.C (Kd.int .i64) w A0_0 l0_0.length l0_0) (hc0_0 : l0_0.length ≤ c0_0) (hr1_0 : Kd.C (Kd.int .i64) w A1_0 l1_0.length l1_0) (hc1_0 : l1_0.length ≤ c1_0) (h : laws_eqAtom.f k l0_0 a0_1 a0_2 l1_0 a1_1 a1_2 = some r) :
  Calls Tryd.prog 15 #[.agg #[.slice A0_0 l0_0.length c0_0, .int .i64 a0_1, .bool a0_2], .agg #[.slice A1_0 l1_0.length c1_0, .int .i64 a1_1, .bool a1_2]] w fun e w' => e = .returned (.bool r) ∧ Below w.heap.size w w' := by
 have hu27 := Tryd.underlying27
 have qe := Aside0.mk hr0_0
 have qf := Aside0.mk hc0_0
 clear hr0_0 hc0_0
 have qg := Aside0.mk hr1_0
 have qh := Aside0.mk hc1_0
 clear hr1_0 hc1_0
 have HB := Aside0.mk (Below.refl w.heap.size w)
 have H : ((laws_eqIntS.f k l0_0 l1_0).bind fun qi => (if qi = true then (if a0_1 = a1_1 then (if (a0_2 != a1_2) = true then (some false) else (some true)) else (some false)) else (some false))) = some r := h
 clear h
 replace H := Option.bind_eq_some_iff.mp H
 obtain ⟨qi, A30, H⟩ := H
 replace H : (if qi = true then (if a0_1 = a1_1 then (if (a0_2 != a1_2) = true then (some false) else (some true)) else (some false)) else (some false)) = some r := H
 have A3 := Aside0.mk A30
 clear A30
 by_cases c4 : qi = true
 rotate_left
 ·
  replace c4 := Bool.eq_false_iff.mpr c4
  subst c4
  have H1 : (some false) = some r := by rw [if_neg (show ¬ (false = true) by decide)] at H; exact H
  clear H
  have H := H1
  clear H1
  obtain rfl := Option.some.inj H
  go_enter Tryd.func15, Tryd.ntmps15
  go_wp2_with (first | ((with_reducible refine gate_dst (N := 2) rfl ?_); refine bx_ (cs := #[.slice A0_0 l0_0.length c0_0, .int .i64 a0_1, .bool a0_2]) (t := 27) ?_; intro qj hg zp hbox hb; have qa := Aside0.mk (hbox); have qk := hz_ HB hg; have ql := hz_ HB hg; replace HB := bS_ HB hb; clear hb hbox hg) | ((with_reducible refine gate_dst (N := 3) rfl ?_); refine bx_ (cs := #[.slice A1_0 l1_0.length c1_0, .int .i64 a1_1, .bool a1_2]) (t := 27) ?_; intro qm hg zq hbox hb; have qd := Aside0.mk (hbox); have qn := hz_ HB hg; have qo := hz_ HB hg; replace HB := bS_ HB hb; have qb := nL_ qa hg; have qc := nG_ qa hg; replace qa := kB_ qa hb; clear hb hbox hg; have zg := qb.out; have zh := qc.out; obtain ⟨qp, qq, qr, qs, qt, qu⟩ := b3_ qa; obtain ⟨qv, qw, qx, qy, qz, qA⟩ := b3_ qd) | ((with_reducible refine gate_callee (f := 58) rfl ?_); refine gL_ (some 9) Tryd.func58 #[.slice A0_0 l0_0.length c0_0, .slice A1_0 l1_0.length c1_0] ?_; (with_reducible refine (laws_eqIntS.calls k _ _ l0_0 _ _ l1_0 false _ ?side1 ?side2 ?side3 ?side4 A3.out).mono ?_); (case side1 => exact cb_ qe HB); (case side2 => exact qf.out); (case side3 => exact cb_ qg HB); (case side4 => exact qh.out); rintro e w' ⟨rfl, ⟨nd, rfl⟩⟩; refine ⟨_, rfl, ?_⟩))
  go_ret
  exact ⟨by first | rfl | (simp [errW_none, errW_some] <;> rfl) | (simp [*, errW_none, errW_some] <;> rfl), bb_ HB⟩
 subst c4
 have H1 : (if a0_1 = a1_1 then (if (a0_2 != a1_2) = true then (some false) else (some true)) else (some false)) = some r := by rw [if_pos rfl] at H; exact H
 clear H
 have H := H1
 clear H1
 by_cases c5 : a0_1 = a1_1
 rotate_left
 ·
  rw [if_neg c5] at H
  have zb : (a0_1 == a1_1) = false := beq_eq_false_iff_ne.mpr c5
  have zc : (a0_1 != a1_1) = true := bne_iff_ne.mpr c5
  obtain rfl := Option.some.inj H
  go_enter Tryd.func15, Tryd.ntmps15
  go_wp2_with (first | ((with_reducible refine gate_dst (N := 2) rfl ?_); refine bx_ (cs := #[.slice A0_0 l0_0.length c0_0, .int .i64 a0_1, .bool a0_2]) (t := 27) ?_; intro qj hg zr hbox hb; have qa := Aside0.mk (hbox); have qk := hz_ HB hg; have ql := hz_ HB hg; replace HB := bS_ HB hb; clear hb hbox hg) | ((with_reducible refine gate_dst (N := 3) rfl ?_); refine bx_ (cs := #[.slice A1_0 l1_0.length c1_0, .int .i64 a1_1, .bool a1_2]) (t := 27) ?_; intro qm hg zs hbox hb; have qd := Aside0.mk (hbox); have qn := hz_ HB hg; have qo := hz_ HB hg; replace HB := bS_ HB hb; have qb := nL_ qa hg; have qc := nG_ qa hg; replace qa := kB_ qa hb; clear hb hbox hg; have zi := qb.out; have zj := qc.out; obtain ⟨qB, qC, qD, qE, qF, qG⟩ := b3_ qa; obtain ⟨qH, qI, qJ, qK, qL, qM⟩ := b3_ qd) | ((with_reducible refine gate_callee (f := 58) rfl ?_); refine gL_ (some 9) Tryd.func58 #[.slice A0_0 l0_0.length c0_0, .slice A1_0 l1_0.length c1_0] ?_; (with_reducible refine (laws_eqIntS.calls k _ _ l0_0 _ _ l1_0 true _ ?side1 ?side2 ?side3 ?side4 A3.out).mono ?_); (case side1 => exact cb_ qe HB); (case side2 => exact qf.out); (case side3 => exact cb_ qg HB); (case side4 => exact qh.out); rintro e w' ⟨rfl, ⟨nd, rfl⟩⟩; refine ⟨_, rfl, ?_⟩))
  go_ret
  exact ⟨by first | rfl | (simp [errW_none, errW_some] <;> rfl) | (simp [*, errW_none, errW_some] <;> rfl), bb_ HB⟩
 rw [if_pos c5] at H
 have zb : (a0_1 == a1_1) = true := beq_iff_eq.mpr c5
 have zc : (a0_1 != a1_1) = false := bne_eq_false_iff_eq.mpr c5
 clear c5
 by_cases c6 : (a0_2 != a1_2) = true
 rotate_left
 ·
  rw [if_neg c6] at H
  have zd : (a0_2 != a1_2) = false := by simpa using c6
  (try (have ze : decide (a0_2 = a1_2) = true := by simpa using c6))
  (try (have zf : (a0_2 == a1_2) = true := by simpa using c6))
  clear c6
  obtain rfl := Option.some.inj H
  go_enter Tryd.func15, Tryd.ntmps15
  go_wp2_with (first | ((with_reducible refine gate_dst (N := 2) rfl ?_); refine bx_ (cs := #[.slice A0_0 l0_0.length c0_0, .int .i64 a0_1, .bool a0_2]) (t := 27) ?_; intro qj hg zt hbox hb; have qa := Aside0.mk (hbox); have qk := hz_ HB hg; have ql := hz_ HB hg; replace HB := bS_ HB hb; clear hb hbox hg) | ((with_reducible refine gate_dst (N := 3) rfl ?_); refine bx_ (cs := #[.slice A1_0 l1_0.length c1_0, .int .i64 a1_1, .bool a1_2]) (t := 27) ?_; intro qm hg zu hbox hb; have qd := Aside0.mk (hbox); have qn := hz_ HB hg; have qo := hz_ HB hg; replace HB := bS_ HB hb; have qb := nL_ qa hg; have qc := nG_ qa hg; replace qa := kB_ qa hb; clear hb hbox hg; have zk := qb.out; have zl := qc.out; obtain ⟨qN, qO, qP, qQ, qR, qS⟩ := b3_ qa; obtain ⟨qT, qU, qV, qW, qX, qY⟩ := b3_ qd) | ((with_reducible refine gate_callee (f := 58) rfl ?_); refine gL_ (some 9) Tryd.func58 #[.slice A0_0 l0_0.length c0_0, .slice A1_0 l1_0.length c1_0] ?_; (with_reducible refine (laws_eqIntS.calls k _ _ l0_0 _ _ l1_0 true _ ?side1 ?side2 ?side3 ?side4 A3.out).mono ?_); (case side1 => exact cb_ qe HB); (case side2 => exact qf.out); (case side3 => exact cb_ qg HB); (case side4 => exact qh.out); rintro e w' ⟨rfl, ⟨nd, rfl⟩⟩; refine ⟨_, rfl, ?_⟩))
  go_ret
  exact ⟨by first | rfl | (simp [errW_none, errW_some] <;> rfl) | (simp [*, errW_none, errW_some] <;> rfl), bb_ HB⟩
 rw [if_pos c6] at H
 have zd : (a0_2 != a1_2) = true := c6
 (try (have ze : decide (a0_2 = a1_2) = false := by simpa using c6))
 (try (have zf : (a0_2 == a1_2) = false := by simpa using c6))
 (try (have zm : ¬ (a0_2 = a1_2) := by simpa using c6))
 clear c6
 obtain rfl := Option.some.inj H
 go_enter Tryd.func15, Tryd.ntmps15
 go_wp2_with (first | ((with_reducible refine gate_dst (N := 2) rfl ?_); refine bx_ (cs := #[.slice A0_0 l0_0.length c0_0, .int .i64 a0_1, .bool a0_2]) (t := 27) ?_; intro qj hg w7 hbox hb; have qa := Aside0.mk (hbox); have qk := hz_ HB hg; have ql := hz_ HB hg; replace HB := bS_ HB hb; clear hb hbox hg) | ((with_reducible refine gate_dst (N := 3) rfl ?_); refine bx_ (cs := #[.slice A1_0 l1_0.length c1_0, .int .i64 a1_1, .bool a1_2]) (t := 27) ?_; intro qm hg w8 hbox hb; have qd := Aside0.mk (hbox); have qn := hz_ HB hg; have qo := hz_ HB hg; replace HB := bS_ HB hb; have qb := nL_ qa hg; have qc := nG_ qa hg; replace qa := kB_ qa hb; clear hb hbox hg; have zn := qb.out; have zo := qc.out; obtain ⟨qZ, q0, q1, q2, q3, q4⟩ := b3_ qa; obtain ⟨q5, q6, q7, q8, q9, za⟩ := b3_ qd) | ((with_reducible refine gate_callee (f := 58) rfl ?_); refine gL_ (some 9) Tryd.func58 #[.slice A0_0 l0_0.length c0_0, .slice A1_0 l1_0.length c1_0] ?_; (with_reducible refine (laws_eqIntS.calls k _ _ l0_0 _ _ l1_0 true _ ?side1 ?side2 ?side3 ?side4 A3.out).mono ?_); (case side1 => exact cb_ qe HB); (case side2 => exact qf.out); (case side3 => exact cb_ qg HB); (case side4 => exact qh.out); rintro e w' ⟨rfl, ⟨nd, rfl⟩⟩; refine ⟨_, rfl, ?_⟩))
 go_ret
 exact ⟨by first | rfl | (simp [errW_none, errW_some] <;> rfl) | (simp [*, errW_none, errW_some] <;> rfl), bb_ HB⟩

/-! ### laws_eqAtomS: function 68 -/
def laws_eqAtomS.l0 : Nat → List (S27) → List (S27) → Int → Option (Bool)
 | 0, _, _, _ => none
 | k + 1, x0, x1, x5 => if x5 < (x0.length : Int) then (if 0 ≤ x5 then (if x5 < (x1.length : Int) then ((laws_eqAtom.f k ((rd_T27 x0 x5).f0) ((rd_T27 x0 x5).f1) ((rd_T27 x0 x5).f2) ((rd_T27 x1 x5).f0) ((rd_T27 x1 x5).f1) ((rd_T27 x1 x5).f2)).bind fun qp => (if qp = true then (laws_eqAtomS.l0 k x0 x1 (wrap64 (x5 + 1))) else (some false))) else (none)) else (none)) else (some true)
def laws_eqAtomS.f (k : Nat) (l0 : List (S27)) (l1 : List (S27)) : Option (Bool) := if (l0.length : Int) = (l1.length : Int) then (laws_eqAtomS.l0 k l0 l1 0) else (some false)
theorem laws_eqAtomS.mono_l : ∀ k, (∀ y0 y1 y2, LeO (laws_eqAtomS.l0 k y0 y1 y2) (laws_eqAtomS.l0 (k + 1) y0 y1 y2))
 | 0 => fun _ _ _ r h => by simp [laws_eqAtomS.l0] at h
 | k + 1 => by
  have ih0 := laws_eqAtomS.mono_l k
  ·
   intro y0 y1 y2
   unfold laws_eqAtomS.l0
   repeat' first
   | (with_reducible exact ih0 _ _ _)
   | (with_reducible exact laws_eqAtom.mono _ _ _ _ _ _ _)
   | (with_reducible exact LeO.refl _)
   | (with_reducible exact LeO.none _)
   | (with_reducible refine LeO.ite ?_ ?_)
   | (with_reducible refine LeO.bind ?_ (fun _ => ?_))
   | exact ih0 _ _ _
   | exact laws_eqAtom.mono _ _ _ _ _ _ _
   | exact LeO.none _
   | refine LeO.ite ?_ ?_
   | refine LeO.bind ?_ (fun _ => ?_)
theorem laws_eqAtomS.mono : ∀ a0 a1 k, LeO (laws_eqAtomS.f k a0 a1) (laws_eqAtomS.f (k + 1) a0 a1) := by
 intro a0 a1 k
 have ih0 := laws_eqAtomS.mono_l k
 unfold laws_eqAtomS.f
 repeat' first
   | (with_reducible exact ih0 _ _ _)
   | (with_reducible exact laws_eqAtom.mono _ _ _ _ _ _ _)
   | (with_reducible exact LeO.refl _)
   | (with_reducible exact LeO.none _)
   | (with_reducible refine LeO.ite ?_ ?_)
   | (with_reducible refine LeO.bind ?_ (fun _ => ?_))
   | exact ih0 _ _ _
   | exact laws_eqAtom.mono _ _ _ _ _ _ _
   | exact LeO.none _
   | refine LeO.ite ?_ ?_
   | refine LeO.bind ?_ (fun _ => ?_)
def laws_eqAtomS.T6 : Bool × List (List Nat × List Nat) := (true, [([], []), ([], []), ([0, 1], [0, 1]), ([2], [2]), ([], []), ([], []), ([4, 5], [4, 5]), ([6], [6]), ([3, 7], [3, 7]), ([8], [8])])
def laws_eqAtomS.B6 : List Nat := [0, 0, 3, 7, 0, 0, 48, 112, 255, 511]
theorem laws_eqAtomS.tab6 : rtab .any (opsOf Tryd.f68 6) = laws_eqAtomS.T6 := by kernel_rfl
theorem laws_eqAtomS.bits6 : waitsOk laws_eqAtomS.T6.2 laws_eqAtomS.B6 = true := by kernel_rfl
set_option maxHeartbeats 8000000 in
set_option maxRecDepth 100000 in
theorem laws_eqAtomS.calls (k : Nat) (A0 : Option Addr) (c0 : Nat) (l0 : List (S27)) (A1 : Option Addr) (c1 : Nat) (l1 : List (S27)) (r : Bool) (w : World) (hr0 : Kd.C k27 w A0 l0.length l0) (hc0 : l0.length ≤ c0) (hr1 : Kd.C k27 w A1 l1.length l1) (hc1 : l1.length ≤ c1) (h : laws_eqAtomS.f k l0 l1 = some r) :
  Calls Tryd.prog 68 #[.slice A0 l0.length c0, .slice A1 l1.length c1] w fun e w' => e = .returned (.bool r) ∧ Below w.heap.size w w' := by
 have hu27 := Tryd.underlying27
 have HR0 := Aside0.mk hr0
 have HC0 := Aside0.mk hc0
 clear hr0 hc0
 have HR1 := Aside0.mk hr1
 have HC1 := Aside0.mk hc1
 clear hr1 hc1
 have HB := Aside0.mk (Below.refl w.heap.size w)
 have H : (if (l0.length : Int) = (l1.length : Int) then (laws_eqAtomS.l0 k l0 l1 0) else (some false)) = some r := h
 clear h
 by_cases c3 : (l0.length : Int) = (l1.length : Int)
 rotate_left
 ·
  rw [if_neg c3] at H
  have qq : ((l0.length : Int) == (l1.length : Int)) = false := beq_eq_false_iff_ne.mpr c3
  have qr : ((l0.length : Int) != (l1.length : Int)) = true := bne_iff_ne.mpr c3
  have qs : (l0.length == l1.length) = false := by first | simpa using c3 | (simp at c3 ⊢; omega)
  obtain rfl := Option.some.inj H
  go_enter Tryd.func68, Tryd.ntmps68
  go_wp2
  go_ret
  exact ⟨by first | rfl | (simp [errW_none, errW_some] <;> rfl) | (simp [*, errW_none, errW_some] <;> rfl), bb_ HB⟩
 rw [if_pos c3] at H
 have qq : ((l0.length : Int) == (l1.length : Int)) = true := beq_iff_eq.mpr c3
 have qr : ((l0.length : Int) != (l1.length : Int)) = false := bne_eq_false_iff_eq.mpr c3
 have qs : (l0.length == l1.length) = true := by first | simpa using c3 | (simp at c3 ⊢; omega)
 clear c3
 have H' := Aside0.mk H
 clear H
 go_enter Tryd.func68, Tryd.ntmps68
 go_wp2
 go_loopg [5] k (fun kq v5 w' => ∃ (qa : Int), v5 = .int .i64 qa ∧ Aside0 (laws_eqAtomS.l0 kq l0 l1 qa = some r) ∧ Aside0 (kq ≤ k) ∧ Aside0 (Below w.heap.size w w'))
 case atStart => exact ⟨(0), (by first | rfl | (simp; done) | (simp [*]; done)), H', ⟨Nat.le_refl _⟩, ⟨bb_ HB⟩⟩
 case round =>
  clear H'
  try clear c1
  try clear p2
  try clear c3
  try clear qq
  try clear qr
  try clear qs
  obtain ⟨qa, rfl, HA, HK1, HB⟩ := hrel
  cases gk with
  | zero => exact absurd HA.out (by simp [laws_eqAtomS.l0])
  | succ k1 =>
   have H := HA.out
   clear HA
   simp only [laws_eqAtomS.l0] at H
   by_cases c4 : qa < (l0.length : Int)
   rotate_left
   ·
    rw [if_neg c4] at H
    have qt : decide (qa < (l0.length : Int)) = false := decide_eq_false c4
    clear c4
    obtain rfl := Option.some.inj H
    go_wp2
    go_ret
    exact ⟨by first | rfl | (simp [errW_none, errW_some] <;> rfl) | (simp [*, errW_none, errW_some] <;> rfl), bb_ HB⟩
   rw [if_pos c4] at H
   have qt : decide (qa < (l0.length : Int)) = true := decide_eq_true c4
   clear c4
   by_cases c5 : 0 ≤ qa
   rotate_left
   ·
    rw [if_neg c5] at H
    exact absurd H (by simp)
   rw [if_pos c5] at H
   have qu : decide (0 ≤ qa) = true := decide_eq_true c5
   clear c5
   by_cases c6 : qa < (l1.length : Int)
   rotate_left
   ·
    rw [if_neg c6] at H
    exact absurd H (by simp)
   rw [if_pos c6] at H
   have qv : decide (qa < (l1.length : Int)) = true := decide_eq_true c6
   clear c6
   replace H := Option.bind_eq_some_iff.mp H
   obtain ⟨qp, A70, H⟩ := H
   replace H : (if qp = true then (laws_eqAtomS.l0 k1 l0 l1 (wrap64 (qa + 1))) else (some false)) = some r := H
   have A7 := Aside0.mk A70
   clear A70
   by_cases c8 : qp = true
   rotate_left
   ·
    replace c8 := Bool.eq_false_iff.mpr c8
    subst c8
    have H1 : (some false) = some r := by rw [if_neg (show ¬ (false = true) by decide)] at H; exact H
    clear H
    have H := H1
    clear H1
    obtain rfl := Option.some.inj H
    try go_wp2
    replace HB := Aside0.mk (below_drew1 HB.out)
    have p241 : 0 ≤ (qa : Int) := of_decide_eq_true (by first | (with_reducible assumption) | assumption)
    have q241 : qa < (l0.length : Int) := of_decide_eq_true (by first | (with_reducible assumption) | assumption)
    obtain ⟨qh, ql, c241_0, e241, qb, qc, qd, hl241_0, hi241_0⟩ := at_T27 HR0.out qa p241 q241
    have hw241_2 := qd
    have hw241_1 := qc
    have hw241_0 := qb
    cases e241
    replace qb := (HB.out.cell (World.block_lt_of_cell? w _ qb)).trans qb
    replace qc := (HB.out.cell (World.block_lt_of_cell? w _ qc)).trans qc
    replace qd := (HB.out.cell (World.block_lt_of_cell? w _ qd)).trans qd
    have qj := Aside0.mk hi241_0
    have qn := Aside0.mk hl241_0
    clear hi241_0 hl241_0
    replace p241 := eq_true p241
    replace q241 := eq_true q241
    have p242 : 0 ≤ (qa : Int) := of_decide_eq_true (by first | (with_reducible assumption) | assumption)
    have q242 : qa < (l1.length : Int) := of_decide_eq_true (by first | (with_reducible assumption) | assumption)
    obtain ⟨qi, qm, c242_0, e242, qe, qf, qg, hl242_0, hi242_0⟩ := at_T27 HR1.out qa p242 q242
    have hw242_2 := qg
    have hw242_1 := qf
    have hw242_0 := qe
    cases e242
    replace qe := (HB.out.cell (World.block_lt_of_cell? w _ qe)).trans qe
    replace qf := (HB.out.cell (World.block_lt_of_cell? w _ qf)).trans qf
    replace qg := (HB.out.cell (World.block_lt_of_cell? w _ qg)).trans qg
    have qk := Aside0.mk hi242_0
    have qo := Aside0.mk hl242_0
    clear hi242_0 hl242_0
    replace p242 := eq_true p242
    replace q242 := eq_true q242
    refine start_ (n := 10) (S := fun w' => w'.cell? (qh.add ((qa).toNat * 3)) = some (.slice ql ((rd_T27 l0 qa).f0).length c241_0) ∧ w'.cell? ⟨(qh.add ((qa).toNat * 3)).block, (qh.add ((qa).toNat * 3)).off + 1, none⟩ = some (.int .i64 ((rd_T27 l0 qa).f1)) ∧ w'.cell? ⟨(qh.add ((qa).toNat * 3)).block, (qh.add ((qa).toNat * 3)).off + 2, none⟩ = some (.bool ((rd_T27 l0 qa).f2)) ∧ w'.cell? (qi.add ((qa).toNat * 3)) = some (.slice qm ((rd_T27 l1 qa).f0).length c242_0) ∧ w'.cell? ⟨(qi.add ((qa).toNat * 3)).block, (qi.add ((qa).toNat * 3)).off + 1, none⟩ = some (.int .i64 ((rd_T27 l1 qa).f1)) ∧ w'.cell? ⟨(qi.add ((qa).toNat * 3)).block, (qi.add ((qa).toNat * 3)).off + 2, none⟩ = some (.bool ((rd_T27 l1 qa).f2))) (ds := []) #[false, false, false, false, false, false, false, false, false, false] (by kernel_rfl) rfl rfl ⟨((HB.out.cell (World.block_lt_of_cell? w _ hw241_0)).trans hw241_0), ((HB.out.cell (World.block_lt_of_cell? w _ hw241_1)).trans hw241_1), ((HB.out.cell (World.block_lt_of_cell? w _ hw241_2)).trans hw241_2), ((HB.out.cell (World.block_lt_of_cell? w _ hw242_0)).trans hw242_0), ((HB.out.cell (World.block_lt_of_cell? w _ hw242_1)).trans hw242_1), ((HB.out.cell (World.block_lt_of_cell? w _ hw242_2)).trans hw242_2)⟩ (fun hHeld => ?_); refine with_tabW laws_eqAtomS.tab6 laws_eqAtomS.bits6 (fun HT_ HW_ => ?_)
    generalize wr.drew = qw at HB qj qk qb qc qd qe qf qg hHeld ⊢
    refine pX_ 0 (some 17) #[true, false, false, false, false, false, false, false, false, false] HT_ ?_
    refine pX_ 1 (some 18) #[true, true, false, false, false, false, false, false, false, false] HT_ ?_
    refine pX_ 2 (some 19) #[true, true, true, false, false, false, false, false, false, false] HT_ ?_
    refine pX_ 4 (some 21) #[true, true, true, false, true, false, false, false, false, false] HT_ ?_
    refine pX_ 5 (some 22) #[true, true, true, false, true, true, false, false, false, false] HT_ ?_
    refine pX_ 6 (some 23) #[true, true, true, false, true, true, true, false, false, false] HT_ ?_
    refine take_ (i := 3) (N := some 20) (v := ?_) (a' := ?_) #[true, true, true, true, true, true, true, false, false, false] rfl rfl (take_ofW HT_.out HW_.out (by kernel_rfl)) (fun _ _ _ h => h) (Or.inl ⟨by rfl, ?_⟩) hHeld ?_ ?_
    rotate_left
    ·
     rintro w' ⟨s0, s1, s2, s3, s4, s5⟩
     go_simp
     with_reducible rfl
    rotate_left
    ·
     simp only [Act.put, List.setIfInBounds_toArray, List.set_cons_zero, List.set_cons_succ, i64_w, i32_w]
     rfl
    refine take_ (i := 7) (N := some 24) (v := ?_) (a' := ?_) #[true, true, true, true, true, true, true, true, false, false] rfl rfl (take_ofW HT_.out HW_.out (by kernel_rfl)) (fun _ _ _ h => h) (Or.inl ⟨by rfl, ?_⟩) hHeld ?_ ?_
    rotate_left
    ·
     rintro w' ⟨s0, s1, s2, s3, s4, s5⟩
     go_simp
     with_reducible rfl
    rotate_left
    ·
     simp only [Act.put, List.setIfInBounds_toArray, List.set_cons_zero, List.set_cons_succ, i64_w, i32_w]
     rfl
    refine one_ (i := 8) (N := some 25) #[true, true, true, true, true, true, true, true, true, false] rfl rfl (one_of HT_.out (by kernel_rfl)) (by decide) (fun K hK => ?_)
    refine goes_ Tryd.func15 (by kernel_rfl) rfl #[.agg #[.slice ql ((rd_T27 l0 qa).f0).length c241_0, .int .i64 ((rd_T27 l0 qa).f1), .bool ((rd_T27 l0 qa).f2)], .agg #[.slice qm ((rd_T27 l1 qa).f0).length c242_0, .int .i64 ((rd_T27 l1 qa).f1), .bool ((rd_T27 l1 qa).f2)]] (by rfl) rfl rfl (by (try simp only [List.map_toArray, List.map_cons, List.map_nil]); first | done | rfl | (simp only [List.length_drop, List.length_take]; rfl)) ?_
    with_reducible refine (laws_eqAtom.calls k1 _ _ ((rd_T27 l0 qa).f0) ((rd_T27 l0 qa).f1) ((rd_T27 l0 qa).f2) _ _ ((rd_T27 l1 qa).f0) ((rd_T27 l1 qa).f1) ((rd_T27 l1 qa).f2) false _ ?side1 ?side2 ?side3 ?side4 A7.out).mono ?_
    (case side1 => exact cb_ qj HB)
    (case side2 => exact qn.out)
    (case side3 => exact cb_ qk HB)
    (case side4 => exact qo.out)
    rintro e qx ⟨rfl, hb⟩
    refine ⟨_, rfl, ?_⟩
    replace HB := bS_ HB hb; (try clear hb); (try clear hb2); (try clear hk); (try clear hi)
    refine hK.out _ _ ⟨((HB.out.cell (World.block_lt_of_cell? w _ hw241_0)).trans hw241_0), ((HB.out.cell (World.block_lt_of_cell? w _ hw241_1)).trans hw241_1), ((HB.out.cell (World.block_lt_of_cell? w _ hw241_2)).trans hw241_2), ((HB.out.cell (World.block_lt_of_cell? w _ hw242_0)).trans hw242_0), ((HB.out.cell (World.block_lt_of_cell? w _ hw242_1)).trans hw242_1), ((HB.out.cell (World.block_lt_of_cell? w _ hw242_2)).trans hw242_2)⟩ (fun hHeld => ?_)
    clear hK K
    refine norm_ (a' := ?_) ?_ ?_
    rotate_left
    ·
     show Act.put _ (some 25) _ = _
     simp only [Act.put, List.setIfInBounds_toArray, List.set_cons_zero, List.set_cons_succ, i64_w, i32_w]
     rfl
    refine pX_ 9 (some 26) #[true, true, true, true, true, true, true, true, true, true] HT_ ?_
    refine done_ (done_of HT_.out (by kernel_rfl)) ?_
    try go_wp2
    go_ret
    exact ⟨by first | rfl | (simp [errW_none, errW_some] <;> rfl) | (simp [*, errW_none, errW_some] <;> rfl), bb_ HB⟩
   subst c8
   have H1 : (laws_eqAtomS.l0 k1 l0 l1 (wrap64 (qa + 1))) = some r := by rw [if_pos rfl] at H; exact H
   clear H
   have H := H1
   clear H1
   have H' := Aside0.mk H
   clear H
   try go_wp2
   replace HB := Aside0.mk (below_drew1 HB.out)
   have p241 : 0 ≤ (qa : Int) := of_decide_eq_true (by first | (with_reducible assumption) | assumption)
   have q241 : qa < (l0.length : Int) := of_decide_eq_true (by first | (with_reducible assumption) | assumption)
   obtain ⟨qh, ql, c241_0, e241, qb, qc, qd, hl241_0, hi241_0⟩ := at_T27 HR0.out qa p241 q241
   have hw241_2 := qd
   have hw241_1 := qc
   have hw241_0 := qb
   cases e241
   replace qb := (HB.out.cell (World.block_lt_of_cell? w _ qb)).trans qb
   replace qc := (HB.out.cell (World.block_lt_of_cell? w _ qc)).trans qc
   replace qd := (HB.out.cell (World.block_lt_of_cell? w _ qd)).trans qd
   have qj := Aside0.mk hi241_0
   have qn := Aside0.mk hl241_0
   clear hi241_0 hl241_0
   replace p241 := eq_true p241
   replace q241 := eq_true q241
   have p242 : 0 ≤ (qa : Int) := of_decide_eq_true (by first | (with_reducible assumption) | assumption)
   have q242 : qa < (l1.length : Int) := of_decide_eq_true (by first | (with_reducible assumption) | assumption)
   obtain ⟨qi, qm, c242_0, e242, qe, qf, qg, hl242_0, hi242_0⟩ := at_T27 HR1.out qa p242 q242
   have hw242_2 := qg
   have hw242_1 := qf
   have hw242_0 := qe
   cases e242
   replace qe := (HB.out.cell (World.block_lt_of_cell? w _ qe)).trans qe
   replace qf := (HB.out.cell (World.block_lt_of_cell? w _ qf)).trans qf
   replace qg := (HB.out.cell (World.block_lt_of_cell? w _ qg)).trans qg
   have qk := Aside0.mk hi242_0
   have qo := Aside0.mk hl242_0
   clear hi242_0 hl242_0
   replace p242 := eq_true p242
   replace q242 := eq_true q242
   refine start_ (n := 10) (S := fun w' => w'.cell? (qh.add ((qa).toNat * 3)) = some (.slice ql ((rd_T27 l0 qa).f0).length c241_0) ∧ w'.cell? ⟨(qh.add ((qa).toNat * 3)).block, (qh.add ((qa).toNat * 3)).off + 1, none⟩ = some (.int .i64 ((rd_T27 l0 qa).f1)) ∧ w'.cell? ⟨(qh.add ((qa).toNat * 3)).block, (qh.add ((qa).toNat * 3)).off + 2, none⟩ = some (.bool ((rd_T27 l0 qa).f2)) ∧ w'.cell? (qi.add ((qa).toNat * 3)) = some (.slice qm ((rd_T27 l1 qa).f0).length c242_0) ∧ w'.cell? ⟨(qi.add ((qa).toNat * 3)).block, (qi.add ((qa).toNat * 3)).off + 1, none⟩ = some (.int .i64 ((rd_T27 l1 qa).f1)) ∧ w'.cell? ⟨(qi.add ((qa).toNat * 3)).block, (qi.add ((qa).toNat * 3)).off + 2, none⟩ = some (.bool ((rd_T27 l1 qa).f2))) (ds := []) #[false, false, false, false, false, false, false, false, false, false] (by kernel_rfl) rfl rfl ⟨((HB.out.cell (World.block_lt_of_cell? w _ hw241_0)).trans hw241_0), ((HB.out.cell (World.block_lt_of_cell? w _ hw241_1)).trans hw241_1), ((HB.out.cell (World.block_lt_of_cell? w _ hw241_2)).trans hw241_2), ((HB.out.cell (World.block_lt_of_cell? w _ hw242_0)).trans hw242_0), ((HB.out.cell (World.block_lt_of_cell? w _ hw242_1)).trans hw242_1), ((HB.out.cell (World.block_lt_of_cell? w _ hw242_2)).trans hw242_2)⟩ (fun hHeld => ?_); refine with_tabW laws_eqAtomS.tab6 laws_eqAtomS.bits6 (fun HT_ HW_ => ?_)
   generalize wr.drew = w9 at HB qj qk qb qc qd qe qf qg hHeld ⊢
   refine pX_ 0 (some 17) #[true, false, false, false, false, false, false, false, false, false] HT_ ?_
   refine pX_ 1 (some 18) #[true, true, false, false, false, false, false, false, false, false] HT_ ?_
   refine pX_ 2 (some 19) #[true, true, true, false, false, false, false, false, false, false] HT_ ?_
   refine pX_ 4 (some 21) #[true, true, true, false, true, false, false, false, false, false] HT_ ?_
   refine pX_ 5 (some 22) #[true, true, true, false, true, true, false, false, false, false] HT_ ?_
   refine pX_ 6 (some 23) #[true, true, true, false, true, true, true, false, false, false] HT_ ?_
   refine take_ (i := 3) (N := some 20) (v := ?_) (a' := ?_) #[true, true, true, true, true, true, true, false, false, false] rfl rfl (take_ofW HT_.out HW_.out (by kernel_rfl)) (fun _ _ _ h => h) (Or.inl ⟨by rfl, ?_⟩) hHeld ?_ ?_
   rotate_left
   ·
    rintro w' ⟨s0, s1, s2, s3, s4, s5⟩
    go_simp
    with_reducible rfl
   rotate_left
   ·
    simp only [Act.put, List.setIfInBounds_toArray, List.set_cons_zero, List.set_cons_succ, i64_w, i32_w]
    rfl
   refine take_ (i := 7) (N := some 24) (v := ?_) (a' := ?_) #[true, true, true, true, true, true, true, true, false, false] rfl rfl (take_ofW HT_.out HW_.out (by kernel_rfl)) (fun _ _ _ h => h) (Or.inl ⟨by rfl, ?_⟩) hHeld ?_ ?_
   rotate_left
   ·
    rintro w' ⟨s0, s1, s2, s3, s4, s5⟩
    go_simp
    with_reducible rfl
   rotate_left
   ·
    simp only [Act.put, List.setIfInBounds_toArray, List.set_cons_zero, List.set_cons_succ, i64_w, i32_w]
    rfl
   refine one_ (i := 8) (N := some 25) #[true, true, true, true, true, true, true, true, true, false] rfl rfl (one_of HT_.out (by kernel_rfl)) (by decide) (fun K hK => ?_)
   refine goes_ Tryd.func15 (by kernel_rfl) rfl #[.agg #[.slice ql ((rd_T27 l0 qa).f0).length c241_0, .int .i64 ((rd_T27 l0 qa).f1), .bool ((rd_T27 l0 qa).f2)], .agg #[.slice qm ((rd_T27 l1 qa).f0).length c242_0, .int .i64 ((rd_T27 l1 qa).f1), .bool ((rd_T27 l1 qa).f2)]] (by rfl) rfl rfl (by (try simp only [List.map_toArray, List.map_cons, List.map_nil]); first | done | rfl | (simp only [List.length_drop, List.length_take]; rfl)) ?_
   with_reducible refine (laws_eqAtom.calls k1 _ _ ((rd_T27 l0 qa).f0) ((rd_T27 l0 qa).f1) ((rd_T27 l0 qa).f2) _ _ ((rd_T27 l1 qa).f0) ((rd_T27 l1 qa).f1) ((rd_T27 l1 qa).f2) true _ ?side1 ?side2 ?side3 ?side4 A7.out).mono ?_
   (case side1 => exact cb_ qj HB)
   (case side2 => exact qn.out)
   (case side3 => exact cb_ qk HB)
   (case side4 => exact qo.out)
   rintro e qy ⟨rfl, hb⟩
   refine ⟨_, rfl, ?_⟩
   replace HB := bS_ HB hb; (try clear hb); (try clear hb2); (try clear hk); (try clear hi)
   refine hK.out _ _ ⟨((HB.out.cell (World.block_lt_of_cell? w _ hw241_0)).trans hw241_0), ((HB.out.cell (World.block_lt_of_cell? w _ hw241_1)).trans hw241_1), ((HB.out.cell (World.block_lt_of_cell? w _ hw241_2)).trans hw241_2), ((HB.out.cell (World.block_lt_of_cell? w _ hw242_0)).trans hw242_0), ((HB.out.cell (World.block_lt_of_cell? w _ hw242_1)).trans hw242_1), ((HB.out.cell (World.block_lt_of_cell? w _ hw242_2)).trans hw242_2)⟩ (fun hHeld => ?_)
   clear hK K
   refine norm_ (a' := ?_) ?_ ?_
   rotate_left
   ·
    show Act.put _ (some 25) _ = _
    simp only [Act.put, List.setIfInBounds_toArray, List.set_cons_zero, List.set_cons_succ, i64_w, i32_w]
    rfl
   refine pX_ 9 (some 26) #[true, true, true, true, true, true, true, true, true, true] HT_ ?_
   refine done_ (done_of HT_.out (by kernel_rfl)) ?_
   try go_wp2
   go_roundg k1
   case measure => have := HK1.out; omega
   case rel => exact ⟨(wrap64 (qa + 1)), (by first | rfl | (simp; done) | (simp [*]; done)), H', ⟨by have := HK1.out; omega⟩, ⟨bb_ HB⟩⟩

/-! ### laws_eqCell: function 22 -/
def laws_eqCell.f (k : Nat) (a0_0 : Int) (l0_1 : List (S27)) (a1_0 : Int) (l1_1 : List (S27)) : Option (Bool) := if a0_0 = a1_0 then ((laws_eqAtomS.f k l0_1 l1_1).bind fun qe => (if qe = true then (some true) else (some false))) else (some false)
theorem laws_eqCell.mono : ∀ a0 a1 a2 a3 k, LeO (laws_eqCell.f k a0 a1 a2 a3) (laws_eqCell.f (k + 1) a0 a1 a2 a3) := by
 intro a0 a1 a2 a3 k
 unfold laws_eqCell.f
 repeat' first
   | (with_reducible exact laws_eqAtomS.mono _ _ _)
   | (with_reducible exact LeO.refl _)
   | (with_reducible exact LeO.none _)
   | (with_reducible refine LeO.ite ?_ ?_)
   | (with_reducible refine LeO.bind ?_ (fun _ => ?_))
   | exact laws_eqAtomS.mono _ _ _
   | exact LeO.none _
   | refine LeO.ite ?_ ?_
   | refine LeO.bind ?_ (fun _ => ?_)
set_option maxHeartbeats 8000000 in
set_option maxRecDepth 100000 in
theorem laws_eqCell.calls (k : Nat) (a0_0 : Int) (A0_1 : Option Addr) (c0_1 : Nat) (l0_1 : List (S27)) (a1_0 : Int) (A1_1 : Option Addr) (c1_1 : Nat) (l1_1 : List (S27)) (r : Bool) (w : World) (hr0_1 : Kd.C k27 w A0_1 l0_1.length l0_1) (hc0_1 : l0_1.length ≤ c0_1) (hr1_1 : Kd.C k27 w A1_1 l1_1.length l1_1) (hc1_1 : l1_1.length ≤ c1_1) (h : laws_eqCell.f k a0_0 l0_1 a1_0 l1_1 = some r) :
  Calls Tryd.prog 22 #[.agg #[.int .i64 a0_0, .slice A0_1 l0_1.length c0_1], .agg #[.int .i64 a1_0, .slice A1_1 l1_1.length c1_1]] w fun e w' => e = .returned (.bool r) ∧ Below w.heap.size w w' := by
 have hu41 := Tryd.underlying41
 have qf := Aside0.mk hr0_1
 have qg := Aside0.mk hc0_1
 clear hr0_1 hc0_1
 have qh := Aside0.mk hr1_1
 have qi := Aside0.mk hc1_1
 clear hr1_1 hc1_1
 have HB := Aside0.mk (Below.refl w.heap.size w)
 have H : (if a0_0 = a1_0 then ((laws_eqAtomS.f k l0_1 l1_1).bind fun qe => (if qe = true then (some true) else (some false))) else (some false)) = some r := h
 clear h
 by_cases c3 : a0_0 = a1_0
 rotate_left
 ·
  rw [if_neg c3] at H
  have qJ : (a0_0 == a1_0) = false := beq_eq_false_iff_ne.mpr c3
  have qK : (a0_0 != a1_0) = true := bne_iff_ne.mpr c3
  obtain rfl := Option.some.inj H
  go_enter Tryd.func22, Tryd.ntmps22
  go_wp2_with (first | ((with_reducible refine gate_dst (N := 2) rfl ?_); refine bx_ (cs := #[.int .i64 a0_0, .slice A0_1 l0_1.length c0_1]) (t := 41) ?_; intro qj hg qV hbox hb; have qa := Aside0.mk (hbox); have qk := hz_ HB hg; have ql := hz_ HB hg; replace HB := bS_ HB hb; clear hb hbox hg) | ((with_reducible refine gate_dst (N := 3) rfl ?_); refine bx_ (cs := #[.int .i64 a1_0, .slice A1_1 l1_1.length c1_1]) (t := 41) ?_; intro qm hg qW hbox hb; have qd := Aside0.mk (hbox); have qn := hz_ HB hg; have qo := hz_ HB hg; replace HB := bS_ HB hb; have qb := nL_ qa hg; have qc := nG_ qa hg; replace qa := kB_ qa hb; clear hb hbox hg; have qP := qb.out; have qQ := qc.out; obtain ⟨qp, qq, qr, qs⟩ := b2_ qa; obtain ⟨qt, qu, qv, qw⟩ := b2_ qd))
  go_ret
  exact ⟨by first | rfl | (simp [errW_none, errW_some] <;> rfl) | (simp [*, errW_none, errW_some] <;> rfl), bb_ HB⟩
 rw [if_pos c3] at H
 have qJ : (a0_0 == a1_0) = true := beq_iff_eq.mpr c3
 have qK : (a0_0 != a1_0) = false := bne_eq_false_iff_eq.mpr c3
 clear c3
 replace H := Option.bind_eq_some_iff.mp H
 obtain ⟨qe, A40, H⟩ := H
 replace H : (if qe = true then (some true) else (some false)) = some r := H
 have A4 := Aside0.mk A40
 clear A40
 by_cases c5 : qe = true
 ·
  subst c5
  have H1 : (some true) = some r := by rw [if_pos rfl] at H; exact H
  clear H
  have H := H1
  clear H1
  obtain rfl := Option.some.inj H
  go_enter Tryd.func22, Tryd.ntmps22
  go_wp2_with (first | ((with_reducible refine gate_dst (N := 2) rfl ?_); refine bx_ (cs := #[.int .i64 a0_0, .slice A0_1 l0_1.length c0_1]) (t := 41) ?_; intro qj hg w6 hbox hb; have qa := Aside0.mk (hbox); have qk := hz_ HB hg; have ql := hz_ HB hg; replace HB := bS_ HB hb; clear hb hbox hg) | ((with_reducible refine gate_dst (N := 3) rfl ?_); refine bx_ (cs := #[.int .i64 a1_0, .slice A1_1 l1_1.length c1_1]) (t := 41) ?_; intro qm hg w7 hbox hb; have qd := Aside0.mk (hbox); have qn := hz_ HB hg; have qo := hz_ HB hg; replace HB := bS_ HB hb; have qb := nL_ qa hg; have qc := nG_ qa hg; replace qa := kB_ qa hb; clear hb hbox hg; have qT := qb.out; have qU := qc.out; obtain ⟨qL, qM, qN, qO⟩ := b2_ qa; obtain ⟨qx, qy, qz, qA⟩ := b2_ qd) | ((with_reducible refine gate_callee (f := 68) rfl ?_); refine gL_ (some 14) Tryd.func68 #[.slice A0_1 l0_1.length c0_1, .slice A1_1 l1_1.length c1_1] ?_; (with_reducible refine (laws_eqAtomS.calls k _ _ l0_1 _ _ l1_1 true _ ?side1 ?side2 ?side3 ?side4 A4.out).mono ?_); (case side1 => exact cb_ qf HB); (case side2 => exact qg.out); (case side3 => exact cb_ qh HB); (case side4 => exact qi.out); rintro e qX ⟨rfl, hb⟩; refine ⟨_, rfl, ?_⟩; replace qa := kB_ qa hb; replace qd := kB_ qd hb; replace HB := bS_ HB hb; clear hb))
  go_ret
  exact ⟨by first | rfl | (simp [errW_none, errW_some] <;> rfl) | (simp [*, errW_none, errW_some] <;> rfl), bb_ HB⟩
 replace c5 := Bool.eq_false_iff.mpr c5
 subst c5
 have H1 : (some false) = some r := by rw [if_neg (show ¬ (false = true) by decide)] at H; exact H
 clear H
 have H := H1
 clear H1
 obtain rfl := Option.some.inj H
 go_enter Tryd.func22, Tryd.ntmps22
 go_wp2_with (first | ((with_reducible refine gate_dst (N := 2) rfl ?_); refine bx_ (cs := #[.int .i64 a0_0, .slice A0_1 l0_1.length c0_1]) (t := 41) ?_; intro qj hg qY hbox hb; have qa := Aside0.mk (hbox); have qk := hz_ HB hg; have ql := hz_ HB hg; replace HB := bS_ HB hb; clear hb hbox hg) | ((with_reducible refine gate_dst (N := 3) rfl ?_); refine bx_ (cs := #[.int .i64 a1_0, .slice A1_1 l1_1.length c1_1]) (t := 41) ?_; intro qm hg qZ hbox hb; have qd := Aside0.mk (hbox); have qn := hz_ HB hg; have qo := hz_ HB hg; replace HB := bS_ HB hb; have qb := nL_ qa hg; have qc := nG_ qa hg; replace qa := kB_ qa hb; clear hb hbox hg; have qR := qb.out; have qS := qc.out; obtain ⟨qB, qC, qD, qE⟩ := b2_ qa; obtain ⟨qF, qG, qH, qI⟩ := b2_ qd) | ((with_reducible refine gate_callee (f := 68) rfl ?_); refine gL_ (some 14) Tryd.func68 #[.slice A0_1 l0_1.length c0_1, .slice A1_1 l1_1.length c1_1] ?_; (with_reducible refine (laws_eqAtomS.calls k _ _ l0_1 _ _ l1_1 false _ ?side1 ?side2 ?side3 ?side4 A4.out).mono ?_); (case side1 => exact cb_ qf HB); (case side2 => exact qg.out); (case side3 => exact cb_ qh HB); (case side4 => exact qi.out); rintro e q0 ⟨rfl, hb⟩; refine ⟨_, rfl, ?_⟩; replace qa := kB_ qa hb; replace qd := kB_ qd hb; replace HB := bS_ HB hb; clear hb))
 go_ret
 exact ⟨by first | rfl | (simp [errW_none, errW_some] <;> rfl) | (simp [*, errW_none, errW_some] <;> rfl), bb_ HB⟩

/-! ### laws_eqCellS: function 77 -/
def laws_eqCellS.l0 : Nat → List (S41) → List (S41) → Int → Option (Bool)
 | 0, _, _, _ => none
 | k + 1, x0, x1, x5 => if x5 < (x0.length : Int) then (if 0 ≤ x5 then (if x5 < (x1.length : Int) then ((laws_eqCell.f k ((rd_T41 x0 x5).f0) ((rd_T41 x0 x5).f1) ((rd_T41 x1 x5).f0) ((rd_T41 x1 x5).f1)).bind fun qn => (if qn = true then (laws_eqCellS.l0 k x0 x1 (wrap64 (x5 + 1))) else (some false))) else (none)) else (none)) else (some true)
def laws_eqCellS.f (k : Nat) (l0 : List (S41)) (l1 : List (S41)) : Option (Bool) := if (l0.length : Int) = (l1.length : Int) then (laws_eqCellS.l0 k l0 l1 0) else (some false)
theorem laws_eqCellS.mono_l : ∀ k, (∀ y0 y1 y2, LeO (laws_eqCellS.l0 k y0 y1 y2) (laws_eqCellS.l0 (k + 1) y0 y1 y2))
 | 0 => fun _ _ _ r h => by simp [laws_eqCellS.l0] at h
 | k + 1 => by
  have ih0 := laws_eqCellS.mono_l k
  ·
   intro y0 y1 y2
   unfold laws_eqCellS.l0
   repeat' first
   | (with_reducible exact ih0 _ _ _)
   | (with_reducible exact laws_eqCell.mono _ _ _ _ _)
   | (with_reducible exact LeO.refl _)
   | (with_reducible exact LeO.none _)
   | (with_reducible refine LeO.ite ?_ ?_)
   | (with_reducible refine LeO.bind ?_ (fun _ => ?_))
   | exact ih0 _ _ _
   | exact laws_eqCell.mono _ _ _ _ _
   | exact LeO.none _
   | refine LeO.ite ?_ ?_
   | refine LeO.bind ?_ (fun _ => ?_)
theorem laws_eqCellS.mono : ∀ a0 a1 k, LeO (laws_eqCellS.f k a0 a1) (laws_eqCellS.f (k + 1) a0 a1) := by
 intro a0 a1 k
 have ih0 := laws_eqCellS.mono_l k
 unfold laws_eqCellS.f
 repeat' first
   | (with_reducible exact ih0 _ _ _)
   | (with_reducible exact laws_eqCell.mono _ _ _ _ _)
   | (with_reducible exact LeO.refl _)
   | (with_reducible exact LeO.none _)
   | (with_reducible refine LeO.ite ?_ ?_)
   | (with_reducible refine LeO.bind ?_ (fun _ => ?_))
   | exact ih0 _ _ _
   | exact laws_eqCell.mono _ _ _ _ _
   | exact LeO.none _
   | refine LeO.ite ?_ ?_
   | refine LeO.bind ?_ (fun _ => ?_)
def laws_eqCellS.T6 : Bool × List (List Nat × List Nat) := (true, [([], []), ([], []), ([0, 1], [0, 1]), ([2], [2]), ([], []), ([], []), ([4, 5], [4, 5]), ([6], [6]), ([3, 7], [3, 7]), ([8], [8])])
def laws_eqCellS.B6 : List Nat := [0, 0, 3, 7, 0, 0, 48, 112, 255, 511]
theorem laws_eqCellS.tab6 : rtab .any (opsOf Tryd.f77 6) = laws_eqCellS.T6 := by kernel_rfl
theorem laws_eqCellS.bits6 : waitsOk laws_eqCellS.T6.2 laws_eqCellS.B6 = true := by kernel_rfl
set_option maxHeartbeats 8000000 in
set_option maxRecDepth 100000 in
theorem laws_eqCellS.calls (k : Nat) (A0 : Option Addr) (c0 : Nat) (l0 : List (S41)) (A1 : Option Addr) (c1 : Nat) (l1 : List (S41)) (r : Bool) (w : World) (hr0 : Kd.C k41 w A0 l0.length l0) (hc0 : l0.length ≤ c0) (hr1 : Kd.C k41 w A1 l1.length l1) (hc1 : l1.length ≤ c1) (h : laws_eqCellS.f k l0 l1 = some r) :
  Calls Tryd.prog 77 #[.slice A0 l0.length c0, .slice A1 l1.length c1] w fun e w' => e = .returned (.bool r) ∧ Below w.heap.size w w' := by
 have hu41 := Tryd.underlying41
 have HR0 := Aside0.mk hr0
 have HC0 := Aside0.mk hc0
 clear hr0 hc0
 have HR1 := Aside0.mk hr1
 have HC1 := Aside0.mk hc1
 clear hr1 hc1
 have HB := Aside0.mk (Below.refl w.heap.size w)
 have H : (if (l0.length : Int) = (l1.length : Int) then (laws_eqCellS.l0 k l0 l1 0) else (some false)) = some r := h
 clear h
 by_cases c3 : (l0.length : Int) = (l1.length : Int)
 rotate_left
 ·
  rw [if_neg c3] at H
  have qo : ((l0.length : Int) == (l1.length : Int)) = false := beq_eq_false_iff_ne.mpr c3
  have qp : ((l0.length : Int) != (l1.length : Int)) = true := bne_iff_ne.mpr c3
  have qq : (l0.length == l1.length) = false := by first | simpa using c3 | (simp at c3 ⊢; omega)
  obtain rfl := Option.some.inj H
  go_enter Tryd.func77, Tryd.ntmps77
  go_wp2
  go_ret
  exact ⟨by first | rfl | (simp [errW_none, errW_some] <;> rfl) | (simp [*, errW_none, errW_some] <;> rfl), bb_ HB⟩
 rw [if_pos c3] at H
 have qo : ((l0.length : Int) == (l1.length : Int)) = true := beq_iff_eq.mpr c3
 have qp : ((l0.length : Int) != (l1.length : Int)) = false := bne_eq_false_iff_eq.mpr c3
 have qq : (l0.length == l1.length) = true := by first | simpa using c3 | (simp at c3 ⊢; omega)
 clear c3
 have H' := Aside0.mk H
 clear H
 go_enter Tryd.func77, Tryd.ntmps77
 go_wp2
 go_loopg [5] k (fun kq v5 w' => ∃ (qa : Int), v5 = .int .i64 qa ∧ Aside0 (laws_eqCellS.l0 kq l0 l1 qa = some r) ∧ Aside0 (kq ≤ k) ∧ Aside0 (Below w.heap.size w w'))
 case atStart => exact ⟨(0), (by first | rfl | (simp; done) | (simp [*]; done)), H', ⟨Nat.le_refl _⟩, ⟨bb_ HB⟩⟩
 case round =>
  clear H'
  try clear c1
  try clear p2
  try clear c3
  try clear qo
  try clear qp
  try clear qq
  obtain ⟨qa, rfl, HA, HK1, HB⟩ := hrel
  cases gk with
  | zero => exact absurd HA.out (by simp [laws_eqCellS.l0])
  | succ k1 =>
   have H := HA.out
   clear HA
   simp only [laws_eqCellS.l0] at H
   by_cases c4 : qa < (l0.length : Int)
   rotate_left
   ·
    rw [if_neg c4] at H
    have qr : decide (qa < (l0.length : Int)) = false := decide_eq_false c4
    clear c4
    obtain rfl := Option.some.inj H
    go_wp2
    go_ret
    exact ⟨by first | rfl | (simp [errW_none, errW_some] <;> rfl) | (simp [*, errW_none, errW_some] <;> rfl), bb_ HB⟩
   rw [if_pos c4] at H
   have qr : decide (qa < (l0.length : Int)) = true := decide_eq_true c4
   clear c4
   by_cases c5 : 0 ≤ qa
   rotate_left
   ·
    rw [if_neg c5] at H
    exact absurd H (by simp)
   rw [if_pos c5] at H
   have qs : decide (0 ≤ qa) = true := decide_eq_true c5
   clear c5
   by_cases c6 : qa < (l1.length : Int)
   rotate_left
   ·
    rw [if_neg c6] at H
    exact absurd H (by simp)
   rw [if_pos c6] at H
   have qt : decide (qa < (l1.length : Int)) = true := decide_eq_true c6
   clear c6
   replace H := Option.bind_eq_some_iff.mp H
   obtain ⟨qn, A70, H⟩ := H
   replace H : (if qn = true then (laws_eqCellS.l0 k1 l0 l1 (wrap64 (qa + 1))) else (some false)) = some r := H
   have A7 := Aside0.mk A70
   clear A70
   by_cases c8 : qn = true
   rotate_left
   ·
    replace c8 := Bool.eq_false_iff.mpr c8
    subst c8
    have H1 : (some false) = some r := by rw [if_neg (show ¬ (false = true) by decide)] at H; exact H
    clear H
    have H := H1
    clear H1
    obtain rfl := Option.some.inj H
    try go_wp2
    replace HB := Aside0.mk (below_drew1 HB.out)
    have p247 : 0 ≤ (qa : Int) := of_decide_eq_true (by first | (with_reducible assumption) | assumption)
    have q247 : qa < (l0.length : Int) := of_decide_eq_true (by first | (with_reducible assumption) | assumption)
    obtain ⟨qh, qi, c247_1, e247, qb, qc, hl247_1, hi247_1⟩ := at_T41 HR0.out qa p247 q247
    have hw247_1 := qc
    have hw247_0 := qb
    cases e247
    replace qb := (HB.out.cell (World.block_lt_of_cell? w _ qb)).trans qb
    replace qc := (HB.out.cell (World.block_lt_of_cell? w _ qc)).trans qc
    have qf := Aside0.mk hi247_1
    have ql := Aside0.mk hl247_1
    clear hi247_1 hl247_1
    replace p247 := eq_true p247
    replace q247 := eq_true q247
    have p248 : 0 ≤ (qa : Int) := of_decide_eq_true (by first | (with_reducible assumption) | assumption)
    have q248 : qa < (l1.length : Int) := of_decide_eq_true (by first | (with_reducible assumption) | assumption)
    obtain ⟨qj, qk, c248_1, e248, qd, qe, hl248_1, hi248_1⟩ := at_T41 HR1.out qa p248 q248
    have hw248_1 := qe
    have hw248_0 := qd
    cases e248
    replace qd := (HB.out.cell (World.block_lt_of_cell? w _ qd)).trans qd
    replace qe := (HB.out.cell (World.block_lt_of_cell? w _ qe)).trans qe
    have qg := Aside0.mk hi248_1
    have qm := Aside0.mk hl248_1
    clear hi248_1 hl248_1
    replace p248 := eq_true p248
    replace q248 := eq_true q248
    refine start_ (n := 10) (S := fun w' => w'.cell? (qh.add ((qa).toNat * 2)) = some (.int .i64 ((rd_T41 l0 qa).f0)) ∧ w'.cell? ⟨(qh.add ((qa).toNat * 2)).block, (qh.add ((qa).toNat * 2)).off + 1, none⟩ = some (.slice qi ((rd_T41 l0 qa).f1).length c247_1) ∧ w'.cell? (qj.add ((qa).toNat * 2)) = some (.int .i64 ((rd_T41 l1 qa).f0)) ∧ w'.cell? ⟨(qj.add ((qa).toNat * 2)).block, (qj.add ((qa).toNat * 2)).off + 1, none⟩ = some (.slice qk ((rd_T41 l1 qa).f1).length c248_1)) (ds := []) #[false, false, false, false, false, false, false, false, false, false] (by kernel_rfl) rfl rfl ⟨((HB.out.cell (World.block_lt_of_cell? w _ hw247_0)).trans hw247_0), ((HB.out.cell (World.block_lt_of_cell? w _ hw247_1)).trans hw247_1), ((HB.out.cell (World.block_lt_of_cell? w _ hw248_0)).trans hw248_0), ((HB.out.cell (World.block_lt_of_cell? w _ hw248_1)).trans hw248_1)⟩ (fun hHeld => ?_); refine with_tabW laws_eqCellS.tab6 laws_eqCellS.bits6 (fun HT_ HW_ => ?_)
    generalize wr.drew = qu at HB qf qg qb qc qd qe hHeld ⊢
    refine pX_ 0 (some 17) #[true, false, false, false, false, false, false, false, false, false] HT_ ?_
    refine pX_ 1 (some 18) #[true, true, false, false, false, false, false, false, false, false] HT_ ?_
    refine pX_ 2 (some 19) #[true, true, true, false, false, false, false, false, false, false] HT_ ?_
    refine pX_ 4 (some 21) #[true, true, true, false, true, false, false, false, false, false] HT_ ?_
    refine pX_ 5 (some 22) #[true, true, true, false, true, true, false, false, false, false] HT_ ?_
    refine pX_ 6 (some 23) #[true, true, true, false, true, true, true, false, false, false] HT_ ?_
    refine take_ (i := 3) (N := some 20) (v := ?_) (a' := ?_) #[true, true, true, true, true, true, true, false, false, false] rfl rfl (take_ofW HT_.out HW_.out (by kernel_rfl)) (fun _ _ _ h => h) (Or.inl ⟨by rfl, ?_⟩) hHeld ?_ ?_
    rotate_left
    ·
     rintro w' ⟨s0, s1, s2, s3⟩
     go_simp
     with_reducible rfl
    rotate_left
    ·
     simp only [Act.put, List.setIfInBounds_toArray, List.set_cons_zero, List.set_cons_succ, i64_w, i32_w]
     rfl
    refine take_ (i := 7) (N := some 24) (v := ?_) (a' := ?_) #[true, true, true, true, true, true, true, true, false, false] rfl rfl (take_ofW HT_.out HW_.out (by kernel_rfl)) (fun _ _ _ h => h) (Or.inl ⟨by rfl, ?_⟩) hHeld ?_ ?_
    rotate_left
    ·
     rintro w' ⟨s0, s1, s2, s3⟩
     go_simp
     with_reducible rfl
    rotate_left
    ·
     simp only [Act.put, List.setIfInBounds_toArray, List.set_cons_zero, List.set_cons_succ, i64_w, i32_w]
     rfl
    refine one_ (i := 8) (N := some 25) #[true, true, true, true, true, true, true, true, true, false] rfl rfl (one_of HT_.out (by kernel_rfl)) (by decide) (fun K hK => ?_)
    refine goes_ Tryd.func22 (by kernel_rfl) rfl #[.agg #[.int .i64 ((rd_T41 l0 qa).f0), .slice qi ((rd_T41 l0 qa).f1).length c247_1], .agg #[.int .i64 ((rd_T41 l1 qa).f0), .slice qk ((rd_T41 l1 qa).f1).length c248_1]] (by rfl) rfl rfl (by (try simp only [List.map_toArray, List.map_cons, List.map_nil]); first | done | rfl | (simp only [List.length_drop, List.length_take]; rfl)) ?_
    with_reducible refine (laws_eqCell.calls k1 ((rd_T41 l0 qa).f0) _ _ ((rd_T41 l0 qa).f1) ((rd_T41 l1 qa).f0) _ _ ((rd_T41 l1 qa).f1) false _ ?side1 ?side2 ?side3 ?side4 A7.out).mono ?_
    (case side1 => exact cb_ qf HB)
    (case side2 => exact ql.out)
    (case side3 => exact cb_ qg HB)
    (case side4 => exact qm.out)
    rintro e qv ⟨rfl, hb⟩
    refine ⟨_, rfl, ?_⟩
    replace HB := bS_ HB hb; (try clear hb); (try clear hb2); (try clear hk); (try clear hi)
    refine hK.out _ _ ⟨((HB.out.cell (World.block_lt_of_cell? w _ hw247_0)).trans hw247_0), ((HB.out.cell (World.block_lt_of_cell? w _ hw247_1)).trans hw247_1), ((HB.out.cell (World.block_lt_of_cell? w _ hw248_0)).trans hw248_0), ((HB.out.cell (World.block_lt_of_cell? w _ hw248_1)).trans hw248_1)⟩ (fun hHeld => ?_)
    clear hK K
    refine norm_ (a' := ?_) ?_ ?_
    rotate_left
    ·
     show Act.put _ (some 25) _ = _
     simp only [Act.put, List.setIfInBounds_toArray, List.set_cons_zero, List.set_cons_succ, i64_w, i32_w]
     rfl
    refine pX_ 9 (some 26) #[true, true, true, true, true, true, true, true, true, true] HT_ ?_
    refine done_ (done_of HT_.out (by kernel_rfl)) ?_
    try go_wp2
    go_ret
    exact ⟨by first | rfl | (simp [errW_none, errW_some] <;> rfl) | (simp [*, errW_none, errW_some] <;> rfl), bb_ HB⟩
   subst c8
   have H1 : (laws_eqCellS.l0 k1 l0 l1 (wrap64 (qa + 1))) = some r := by rw [if_pos rfl] at H; exact H
   clear H
   have H := H1
   clear H1
   have H' := Aside0.mk H
   clear H
   try go_wp2
   replace HB := Aside0.mk (below_drew1 HB.out)
   have p247 : 0 ≤ (qa : Int) := of_decide_eq_true (by first | (with_reducible assumption) | assumption)
   have q247 : qa < (l0.length : Int) := of_decide_eq_true (by first | (with_reducible assumption) | assumption)
   obtain ⟨qh, qi, c247_1, e247, qb, qc, hl247_1, hi247_1⟩ := at_T41 HR0.out qa p247 q247
   have hw247_1 := qc
   have hw247_0 := qb
   cases e247
   replace qb := (HB.out.cell (World.block_lt_of_cell? w _ qb)).trans qb
   replace qc := (HB.out.cell (World.block_lt_of_cell? w _ qc)).trans qc
   have qf := Aside0.mk hi247_1
   have ql := Aside0.mk hl247_1
   clear hi247_1 hl247_1
   replace p247 := eq_true p247
   replace q247 := eq_true q247
   have p248 : 0 ≤ (qa : Int) := of_decide_eq_true (by first | (with_reducible assumption) | assumption)
   have q248 : qa < (l1.length : Int) := of_decide_eq_true (by first | (with_reducible assumption) | assumption)
   obtain ⟨qj, qk, c248_1, e248, qd, qe, hl248_1, hi248_1⟩ := at_T41 HR1.out qa p248 q248
   have hw248_1 := qe
   have hw248_0 := qd
   cases e248
   replace qd := (HB.out.cell (World.block_lt_of_cell? w _ qd)).trans qd
   replace qe := (HB.out.cell (World.block_lt_of_cell? w _ qe)).trans qe
   have qg := Aside0.mk hi248_1
   have qm := Aside0.mk hl248_1
   clear hi248_1 hl248_1
   replace p248 := eq_true p248
   replace q248 := eq_true q248
   refine start_ (n := 10) (S := fun w' => w'.cell? (qh.add ((qa).toNat * 2)) = some (.int .i64 ((rd_T41 l0 qa).f0)) ∧ w'.cell? ⟨(qh.add ((qa).toNat * 2)).block, (qh.add ((qa).toNat * 2)).off + 1, none⟩ = some (.slice qi ((rd_T41 l0 qa).f1).length c247_1) ∧ w'.cell? (qj.add ((qa).toNat * 2)) = some (.int .i64 ((rd_T41 l1 qa).f0)) ∧ w'.cell? ⟨(qj.add ((qa).toNat * 2)).block, (qj.add ((qa).toNat * 2)).off + 1, none⟩ = some (.slice qk ((rd_T41 l1 qa).f1).length c248_1)) (ds := []) #[false, false, false, false, false, false, false, false, false, false] (by kernel_rfl) rfl rfl ⟨((HB.out.cell (World.block_lt_of_cell? w _ hw247_0)).trans hw247_0), ((HB.out.cell (World.block_lt_of_cell? w _ hw247_1)).trans hw247_1), ((HB.out.cell (World.block_lt_of_cell? w _ hw248_0)).trans hw248_0), ((HB.out.cell (World.block_lt_of_cell? w _ hw248_1)).trans hw248_1)⟩ (fun hHeld => ?_); refine with_tabW laws_eqCellS.tab6 laws_eqCellS.bits6 (fun HT_ HW_ => ?_)
   generalize wr.drew = w9 at HB qf qg qb qc qd qe hHeld ⊢
   refine pX_ 0 (some 17) #[true, false, false, false, false, false, false, false, false, false] HT_ ?_
   refine pX_ 1 (some 18) #[true, true, false, false, false, false, false, false, false, false] HT_ ?_
   refine pX_ 2 (some 19) #[true, true, true, false, false, false, false, false, false, false] HT_ ?_
   refine pX_ 4 (some 21) #[true, true, true, false, true, false, false, false, false, false] HT_ ?_
   refine pX_ 5 (some 22) #[true, true, true, false, true, true, false, false, false, false] HT_ ?_
   refine pX_ 6 (some 23) #[true, true, true, false, true, true, true, false, false, false] HT_ ?_
   refine take_ (i := 3) (N := some 20) (v := ?_) (a' := ?_) #[true, true, true, true, true, true, true, false, false, false] rfl rfl (take_ofW HT_.out HW_.out (by kernel_rfl)) (fun _ _ _ h => h) (Or.inl ⟨by rfl, ?_⟩) hHeld ?_ ?_
   rotate_left
   ·
    rintro w' ⟨s0, s1, s2, s3⟩
    go_simp
    with_reducible rfl
   rotate_left
   ·
    simp only [Act.put, List.setIfInBounds_toArray, List.set_cons_zero, List.set_cons_succ, i64_w, i32_w]
    rfl
   refine take_ (i := 7) (N := some 24) (v := ?_) (a' := ?_) #[true, true, true, true, true, true, true, true, false, false] rfl rfl (take_ofW HT_.out HW_.out (by kernel_rfl)) (fun _ _ _ h => h) (Or.inl ⟨by rfl, ?_⟩) hHeld ?_ ?_
   rotate_left
   ·
    rintro w' ⟨s0, s1, s2, s3⟩
    go_simp
    with_reducible rfl
   rotate_left
   ·
    simp only [Act.put, List.setIfInBounds_toArray, List.set_cons_zero, List.set_cons_succ, i64_w, i32_w]
    rfl
   refine one_ (i := 8) (N := some 25) #[true, true, true, true, true, true, true, true, true, false] rfl rfl (one_of HT_.out (by kernel_rfl)) (by decide) (fun K hK => ?_)
   refine goes_ Tryd.func22 (by kernel_rfl) rfl #[.agg #[.int .i64 ((rd_T41 l0 qa).f0), .slice qi ((rd_T41 l0 qa).f1).length c247_1], .agg #[.int .i64 ((rd_T41 l1 qa).f0), .slice qk ((rd_T41 l1 qa).f1).length c248_1]] (by rfl) rfl rfl (by (try simp only [List.map_toArray, List.map_cons, List.map_nil]); first | done | rfl | (simp only [List.length_drop, List.length_take]; rfl)) ?_
   with_reducible refine (laws_eqCell.calls k1 ((rd_T41 l0 qa).f0) _ _ ((rd_T41 l0 qa).f1) ((rd_T41 l1 qa).f0) _ _ ((rd_T41 l1 qa).f1) true _ ?side1 ?side2 ?side3 ?side4 A7.out).mono ?_
   (case side1 => exact cb_ qf HB)
   (case side2 => exact ql.out)
   (case side3 => exact cb_ qg HB)
   (case side4 => exact qm.out)
   rintro e qw ⟨rfl, hb⟩
   refine ⟨_, rfl, ?_⟩
   replace HB := bS_ HB hb; (try clear hb); (try clear hb2); (try clear hk); (try clear hi)
   refine hK.out _ _ ⟨((HB.out.cell (World.block_lt_of_cell? w _ hw247_0)).trans hw247_0), ((HB.out.cell (World.block_lt_of_cell? w _ hw247_1)).trans hw247_1), ((HB.out.cell (World.block_lt_of_cell? w _ hw248_0)).trans hw248_0), ((HB.out.cell (World.block_lt_of_cell? w _ hw248_1)).trans hw248_1)⟩ (fun hHeld => ?_)
   clear hK K
   refine norm_ (a' := ?_) ?_ ?_
   rotate_left
   ·
    show Act.put _ (some 25) _ = _
    simp only [Act.put, List.setIfInBounds_toArray, List.set_cons_zero, List.set_cons_succ, i64_w, i32_w]
    rfl
   refine pX_ 9 (some 26) #[true, true, true, true, true, true, true, true, true, true] HT_ ?_
   refine done_ (done_of HT_.out (by kernel_rfl)) ?_
   try go_wp2
   go_roundg k1
   case measure => have := HK1.out; omega
   case rel => exact ⟨(wrap64 (qa + 1)), (by first | rfl | (simp; done) | (simp [*]; done)), H', ⟨by have := HK1.out; omega⟩, ⟨bb_ HB⟩⟩

/-! ### laws_eqRegion: function 30 -/
def laws_eqRegion.f (k : Nat) (a0_0 : Int) (l0_1 : List (S41)) (a1_0 : Int) (l1_1 : List (S41)) : Option (Bool) := if a0_0 = a1_0 then ((laws_eqCellS.f k l0_1 l1_1).bind fun qe => (if qe = true then (some true) else (some false))) else (some false)
theorem laws_eqRegion.mono : ∀ a0 a1 a2 a3 k, LeO (laws_eqRegion.f k a0 a1 a2 a3) (laws_eqRegion.f (k + 1) a0 a1 a2 a3) := by
 intro a0 a1 a2 a3 k
 unfold laws_eqRegion.f
 repeat' first
   | (with_reducible exact laws_eqCellS.mono _ _ _)
   | (with_reducible exact LeO.refl _)
   | (with_reducible exact LeO.none _)
   | (with_reducible refine LeO.ite ?_ ?_)
   | (with_reducible refine LeO.bind ?_ (fun _ => ?_))
   | exact laws_eqCellS.mono _ _ _
   | exact LeO.none _
   | refine LeO.ite ?_ ?_
   | refine LeO.bind ?_ (fun _ => ?_)
set_option maxHeartbeats 8000000 in
set_option maxRecDepth 100000 in
theorem laws_eqRegion.calls (k : Nat) (a0_0 : Int) (A0_1 : Option Addr) (c0_1 : Nat) (l0_1 : List (S41)) (a1_0 : Int) (A1_1 : Option Addr) (c1_1 : Nat) (l1_1 : List (S41)) (r : Bool) (w : World) (hr0_1 : Kd.C k41 w A0_1 l0_1.length l0_1) (hc0_1 : l0_1.length ≤ c0_1) (hr1_1 : Kd.C k41 w A1_1 l1_1.length l1_1) (hc1_1 : l1_1.length ≤ c1_1) (h : laws_eqRegion.f k a0_0 l0_1 a1_0 l1_1 = some r) :
  Calls Tryd.prog 30 #[.agg #[.int .i64 a0_0, .slice A0_1 l0_1.length c0_1], .agg #[.int .i64 a1_0, .slice A1_1 l1_1.length c1_1]] w fun e w' => e = .returned (.bool r) ∧ Below w.heap.size w w' := by
 have hu57 := Tryd.underlying57
 have qf := Aside0.mk hr0_1
 have qg := Aside0.mk hc0_1
 clear hr0_1 hc0_1
 have qh := Aside0.mk hr1_1
 have qi := Aside0.mk hc1_1
 clear hr1_1 hc1_1
 have HB := Aside0.mk (Below.refl w.heap.size w)
 have H : (if a0_0 = a1_0 then ((laws_eqCellS.f k l0_1 l1_1).bind fun qe => (if qe = true then (some true) else (some false))) else (some false)) = some r := h
 clear h
 by_cases c3 : a0_0 = a1_0
 rotate_left
 ·
  rw [if_neg c3] at H
  have qJ : (a0_0 == a1_0) = false := beq_eq_false_iff_ne.mpr c3
  have qK : (a0_0 != a1_0) = true := bne_iff_ne.mpr c3
  obtain rfl := Option.some.inj H
  go_enter Tryd.func30, Tryd.ntmps30
  go_wp2_with (first | ((with_reducible refine gate_dst (N := 2) rfl ?_); refine bx_ (cs := #[.int .i64 a0_0, .slice A0_1 l0_1.length c0_1]) (t := 57) ?_; intro qj hg qV hbox hb; have qa := Aside0.mk (hbox); have qk := hz_ HB hg; have ql := hz_ HB hg; replace HB := bS_ HB hb; clear hb hbox hg) | ((with_reducible refine gate_dst (N := 3) rfl ?_); refine bx_ (cs := #[.int .i64 a1_0, .slice A1_1 l1_1.length c1_1]) (t := 57) ?_; intro qm hg qW hbox hb; have qd := Aside0.mk (hbox); have qn := hz_ HB hg; have qo := hz_ HB hg; replace HB := bS_ HB hb; have qb := nL_ qa hg; have qc := nG_ qa hg; replace qa := kB_ qa hb; clear hb hbox hg; have qP := qb.out; have qQ := qc.out; obtain ⟨qp, qq, qr, qs⟩ := b2_ qa; obtain ⟨qt, qu, qv, qw⟩ := b2_ qd))
  go_ret
  exact ⟨by first | rfl | (simp [errW_none, errW_some] <;> rfl) | (simp [*, errW_none, errW_some] <;> rfl), bb_ HB⟩
 rw [if_pos c3] at H
 have qJ : (a0_0 == a1_0) = true := beq_iff_eq.mpr c3
 have qK : (a0_0 != a1_0) = false := bne_eq_false_iff_eq.mpr c3
 clear c3
 replace H := Option.bind_eq_some_iff.mp H
 obtain ⟨qe, A40, H⟩ := H
 replace H : (if qe = true then (some true) else (some false)) = some r := H
 have A4 := Aside0.mk A40
 clear A40
 by_cases c5 : qe = true
 ·
  subst c5
  have H1 : (some true) = some r := by rw [if_pos rfl] at H; exact H
  clear H
  have H := H1
  clear H1
  obtain rfl := Option.some.inj H
  go_enter Tryd.func30, Tryd.ntmps30
  go_wp2_with (first | ((with_reducible refine gate_dst (N := 2) rfl ?_); refine bx_ (cs := #[.int .i64 a0_0, .slice A0_1 l0_1.length c0_1]) (t := 57) ?_; intro qj hg w6 hbox hb; have qa := Aside0.mk (hbox); have qk := hz_ HB hg; have ql := hz_ HB hg; replace HB := bS_ HB hb; clear hb hbox hg) | ((with_reducible refine gate_dst (N := 3) rfl ?_); refine bx_ (cs := #[.int .i64 a1_0, .slice A1_1 l1_1.length c1_1]) (t := 57) ?_; intro qm hg w7 hbox hb; have qd := Aside0.mk (hbox); have qn := hz_ HB hg; have qo := hz_ HB hg; replace HB := bS_ HB hb; have qb := nL_ qa hg; have qc := nG_ qa hg; replace qa := kB_ qa hb; clear hb hbox hg; have qT := qb.out; have qU := qc.out; obtain ⟨qL, qM, qN, qO⟩ := b2_ qa; obtain ⟨qx, qy, qz, qA⟩ := b2_ qd) | ((with_reducible refine gate_callee (f := 77) rfl ?_); refine gL_ (some 14) Tryd.func77 #[.slice A0_1 l0_1.length c0_1, .slice A1_1 l1_1.length c1_1] ?_; (with_reducible refine (laws_eqCellS.calls k _ _ l0_1 _ _ l1_1 true _ ?side1 ?side2 ?side3 ?side4 A4.out).mono ?_); (case side1 => exact cb_ qf HB); (case side2 => exact qg.out); (case side3 => exact cb_ qh HB); (case side4 => exact qi.out); rintro e qX ⟨rfl, hb⟩; refine ⟨_, rfl, ?_⟩; replace qa := kB_ qa hb; replace qd := kB_ qd hb; replace HB := bS_ HB hb; clear hb))
  go_ret
  exact ⟨by first | rfl | (simp [errW_none, errW_some] <;> rfl) | (simp [*, errW_none, errW_some] <;> rfl), bb_ HB⟩
 replace c5 := Bool.eq_false_iff.mpr c5
 subst c5
 have H1 : (some false) = some r := by rw [if_neg (show ¬ (false = true) by decide)] at H; exact H
 clear H
 have H := H1
 clear H1
 obtain rfl := Option.some.inj H
 go_enter Tryd.func30, Tryd.ntmps30
 go_wp2_with (first | ((with_reducible refine gate_dst (N := 2) rfl ?_); refine bx_ (cs := #[.int .i64 a0_0, .slice A0_1 l0_1.length c0_1]) (t := 57) ?_; intro qj hg qY hbox hb; have qa := Aside0.mk (hbox); have qk := hz_ HB hg; have ql := hz_ HB hg; replace HB := bS_ HB hb; clear hb hbox hg) | ((with_reducible refine gate_dst (N := 3) rfl ?_); refine bx_ (cs := #[.int .i64 a1_0, .slice A1_1 l1_1.length c1_1]) (t := 57) ?_; intro qm hg qZ hbox hb; have qd := Aside0.mk (hbox); have qn := hz_ HB hg; have qo := hz_ HB hg; replace HB := bS_ HB hb; have qb := nL_ qa hg; have qc := nG_ qa hg; replace qa := kB_ qa hb; clear hb hbox hg; have qR := qb.out; have qS := qc.out; obtain ⟨qB, qC, qD, qE⟩ := b2_ qa; obtain ⟨qF, qG, qH, qI⟩ := b2_ qd) | ((with_reducible refine gate_callee (f := 77) rfl ?_); refine gL_ (some 14) Tryd.func77 #[.slice A0_1 l0_1.length c0_1, .slice A1_1 l1_1.length c1_1] ?_; (with_reducible refine (laws_eqCellS.calls k _ _ l0_1 _ _ l1_1 false _ ?side1 ?side2 ?side3 ?side4 A4.out).mono ?_); (case side1 => exact cb_ qf HB); (case side2 => exact qg.out); (case side3 => exact cb_ qh HB); (case side4 => exact qi.out); rintro e q0 ⟨rfl, hb⟩; refine ⟨_, rfl, ?_⟩; replace qa := kB_ qa hb; replace qd := kB_ qd hb; replace HB := bS_ HB hb; clear hb))
 go_ret
 exact ⟨by first | rfl | (simp [errW_none, errW_some] <;> rfl) | (simp [*, errW_none, errW_some] <;> rfl), bb_ HB⟩

/-! ### laws_FnExactFormatRegion: function 7 -/
def laws_FnExactFormatRegion.f (k : Nat) (a0_0 : Int) (l0_1 : List (S36)) : Option (Bool) := (laws_szRegion.f k a0_0 l0_1 1048576).bind fun qr => (if qr < 0 then (some true) else ((laws_toRegion.f k a0_0 l0_1).bind fun qq => ((spec_FormatRegion.f k qq.1 qq.2).bind fun ql => ((laws_toRegion.f k a0_0 l0_1).bind fun qe => ((impl_FormatRegion.f k qe.1 qe.2).bind fun qi => (if qi.toList = ql.toList then ((laws_toRegion.f k a0_0 l0_1).bind fun qf => ((laws_eqRegion.f k qe.1 qe.2 qf.1 qf.2).bind fun qo => (if qo = true then (some true) else (some false)))) else (some false)))))))
theorem laws_FnExactFormatRegion.mono : ∀ a0 a1 k, LeO (laws_FnExactFormatRegion.f k a0 a1) (laws_FnExactFormatRegion.f (k + 1) a0 a1) := by
 intro a0 a1 k
 unfold laws_FnExactFormatRegion.f
 repeat' first
   | (with_reducible exact impl_FormatRegion.mono _ _ _)
   | (with_reducible exact laws_eqRegion.mono _ _ _ _ _)
   | (with_reducible exact laws_szRegion.mono _ _ _ _)
   | (with_reducible exact laws_toRegion.mono _ _ _)
   | (with_reducible exact spec_FormatRegion.mono _ _ _)
   | (with_reducible exact LeO.refl _)
   | (with_reducible exact LeO.none _)
   | (with_reducible refine LeO.ite ?_ ?_)
   | (with_reducible refine LeO.bind ?_ (fun _ => ?_))
   | exact impl_FormatRegion.mono _ _ _
   | exact laws_eqRegion.mono _ _ _ _ _
   | exact laws_szRegion.mono _ _ _ _
   | exact laws_toRegion.mono _ _ _
   | exact spec_FormatRegion.mono _ _ _
   | exact LeO.none _
   | refine LeO.ite ?_ ?_
   | refine LeO.bind ?_ (fun _ => ?_)
set_option maxHeartbeats 8000000 in
set_option maxRecDepth 100000 in
theorem laws_FnExactFormatRegion.calls (k : Nat) (a0_0 : Int) (A0_1 : Option Addr) (c0_1 : Nat) (l0_1 : List (S36)) (r : Bool) (w : World) (hL : LaidW w) (hr0_1 : Kd.C k36 w A0_1 l0_1.length l0_1) (hc0_1 : l0_1.length ≤ c0_1) (h : laws_FnExactFormatRegion.f k a0_0 l0_1 = some r) :
  Calls Tryd.prog 7 #[.agg #[.int .i64 a0_0, .slice A0_1 l0_1.length c0_1]] w fun e w' => e = .returned (.bool r) ∧ Below w.heap.size w w' := by
 have HL_ := Aside0.mk hL
 clear hL
 have hu52 := Tryd.underlying52
 have hu57 := Tryd.underlying57
 have qm := Aside0.mk hr0_1
 have qn := Aside0.mk hc0_1
 clear hr0_1 hc0_1
 have HB := Aside0.mk (Below.refl w.heap.size w)
 have H : ((laws_szRegion.f k a0_0 l0_1 1048576).bind fun qr => (if qr < 0 then (some true) else ((laws_toRegion.f k a0_0 l0_1).bind fun qq => ((spec_FormatRegion.f k qq.1 qq.2).bind fun ql => ((laws_toRegion.f k a0_0 l0_1).bind fun qe => ((impl_FormatRegion.f k qe.1 qe.2).bind fun qi => (if qi.toList = ql.toList then ((laws_toRegion.f k a0_0 l0_1).bind fun qf => ((laws_eqRegion.f k qe.1 qe.2 qf.1 qf.2).bind fun qo => (if qo = true then (some true) else (some false)))) else (some false)))))))) = some r := h
 clear h
 replace H := Option.bind_eq_some_iff.mp H
 obtain ⟨qr, A20, H⟩ := H
 replace H : (if qr < 0 then (some true) else ((laws_toRegion.f k a0_0 l0_1).bind fun qq => ((spec_FormatRegion.f k qq.1 qq.2).bind fun ql => ((laws_toRegion.f k a0_0 l0_1).bind fun qe => ((impl_FormatRegion.f k qe.1 qe.2).bind fun qi => (if qi.toList = ql.toList then ((laws_toRegion.f k a0_0 l0_1).bind fun qf => ((laws_eqRegion.f k qe.1 qe.2 qf.1 qf.2).bind fun qo => (if qo = true then (some true) else (some false)))) else (some false))))))) = some r := H
 have A2 := Aside0.mk A20
 clear A20
 by_cases c3 : qr < 0
 ·
  rw [if_pos c3] at H
  have zy : decide (qr < 0) = true := decide_eq_true c3
  clear c3
  obtain rfl := Option.some.inj H
  go_enter Tryd.func7, Tryd.ntmps7
  go_wp2_with (first | ((with_reducible refine gate_dst (N := 1) rfl ?_); refine bx_ (cs := #[.int .i64 a0_0, .slice A0_1 l0_1.length c0_1]) (t := 52) ?_; intro qs hg w4 hbox hb; have qa := Aside0.mk (hbox); have qy := hz_ HB hg; have qz := hz_ HB hg; replace HB := bS_ HB hb; clear hb hbox hg; obtain ⟨zz, zA, zB, zC⟩ := b2_ qa) | ((with_reducible refine gate_callee (f := 26) rfl ?_); refine gL_ (some 9) Tryd.func26 #[.agg #[.int .i64 a0_0, .slice A0_1 l0_1.length c0_1], .int .i64 1048576] ?_; (with_reducible refine (laws_szRegion.calls k a0_0 _ _ l0_1 1048576 qr _ ?side1 ?side2 A2.out).mono ?_); (case side1 => exact cb_ qm HB); (case side2 => exact qn.out); rintro e w6 ⟨rfl, hb⟩; refine ⟨_, rfl, ?_⟩; replace qa := kB_ qa hb; replace HB := bS_ HB hb; clear hb))
  go_ret
  exact ⟨by first | rfl | (simp [errW_none, errW_some] <;> rfl) | (simp [*, errW_none, errW_some] <;> rfl), bb_ HB⟩
 rw [if_neg c3] at H
 have zy : decide (qr < 0) = false := decide_eq_false c3
 clear c3
 replace H := Option.bind_eq_some_iff.mp H
 obtain ⟨⟨qt, qu⟩, A70, H⟩ := H
 replace H : ((spec_FormatRegion.f k qt qu).bind fun ql => ((laws_toRegion.f k a0_0 l0_1).bind fun qe => ((impl_FormatRegion.f k qe.1 qe.2).bind fun qi => (if qi.toList = ql.toList then ((laws_toRegion.f k a0_0 l0_1).bind fun qf => ((laws_eqRegion.f k qe.1 qe.2 qf.1 qf.2).bind fun qo => (if qo = true then (some true) else (some false)))) else (some false))))) = some r := H
 have A7 := Aside0.mk A70
 clear A70
 replace H := Option.bind_eq_some_iff.mp H
 obtain ⟨ql, A80, H⟩ := H
 replace H : ((laws_toRegion.f k a0_0 l0_1).bind fun qe => ((impl_FormatRegion.f k qe.1 qe.2).bind fun qi => (if qi.toList = ql.toList then ((laws_toRegion.f k a0_0 l0_1).bind fun qf => ((laws_eqRegion.f k qe.1 qe.2 qf.1 qf.2).bind fun qo => (if qo = true then (some true) else (some false)))) else (some false)))) = some r := H
 have A8 := Aside0.mk A80
 clear A80
 replace H := Option.bind_eq_some_iff.mp H
 obtain ⟨⟨qg, qh⟩, A90, H⟩ := H
 replace H : ((impl_FormatRegion.f k qg qh).bind fun qi => (if qi.toList = ql.toList then ((laws_toRegion.f k a0_0 l0_1).bind fun qf => ((laws_eqRegion.f k qg qh qf.1 qf.2).bind fun qo => (if qo = true then (some true) else (some false)))) else (some false))) = some r := H
 have A9 := Aside0.mk A90
 clear A90
 replace H := Option.bind_eq_some_iff.mp H
 obtain ⟨qi, A100, H⟩ := H
 replace H : (if qi.toList = ql.toList then ((laws_toRegion.f k a0_0 l0_1).bind fun qf => ((laws_eqRegion.f k qg qh qf.1 qf.2).bind fun qo => (if qo = true then (some true) else (some false)))) else (some false)) = some r := H
 have A10 := Aside0.mk A100
 clear A100
 by_cases c11 : qi.toList = ql.toList
 rotate_left
 ·
  rw [if_neg c11] at H
  have qG : (qi.toList == ql.toList) = false := beq_eq_false_iff_ne.mpr c11
  have qH : (qi.toList != ql.toList) = true := bne_iff_ne.mpr c11
  obtain rfl := Option.some.inj H
  go_enter Tryd.func7, Tryd.ntmps7
  go_wp2_with (first | ((with_reducible refine gate_dst (N := 1) rfl ?_); refine bx_ (cs := #[.int .i64 a0_0, .slice A0_1 l0_1.length c0_1]) (t := 52) ?_; intro qs hg zW hbox hb; have qa := Aside0.mk (hbox); have qy := hz_ HB hg; have qz := hz_ HB hg; replace HB := bS_ HB hb; clear hb hbox hg; obtain ⟨qM, qN, qO, qP⟩ := b2_ qa) | ((with_reducible refine gate_callee (f := 26) rfl ?_); refine gL_ (some 9) Tryd.func26 #[.agg #[.int .i64 a0_0, .slice A0_1 l0_1.length c0_1], .int .i64 1048576] ?_; (with_reducible refine (laws_szRegion.calls k a0_0 _ _ l0_1 1048576 qr _ ?side1 ?side2 A2.out).mono ?_); (case side1 => exact cb_ qm HB); (case side2 => exact qn.out); rintro e zX ⟨rfl, hb⟩; refine ⟨_, rfl, ?_⟩; replace qa := kB_ qa hb; replace HB := bS_ HB hb; clear hb; obtain ⟨qQ, qR, qS, qT⟩ := b2_ qa) | ((with_reducible refine gate_callee (f := 28) rfl ?_); refine gL_ (some 13) Tryd.func28 #[.agg #[.int .i64 a0_0, .slice A0_1 l0_1.length c0_1]] ?_; (with_reducible refine (laws_toRegion.calls k a0_0 _ _ l0_1 qt qu _ ?side1 ?side2 A7.out).mono ?_); (case side1 => exact cb_ qm HB); (case side2 => exact qn.out); rintro e zY ⟨qI, rfl, ho0, hb⟩; refine ⟨_, rfl, ?_⟩; have qb := Aside0.mk (Kd.R_lower ho0 (bz_ HB)); replace qa := kB_ qa hb; replace HB := bS_ HB hb; clear hb ho0; obtain ⟨zD, zE, eo56⟩ := Kd.R_slice qb.out; subst eo56) | ((with_reducible refine gate_callee (f := 27) rfl ?_); refine gL_ (some 14) Tryd.func27 #[.agg #[.int .i64 qt, .slice zD qu.length zE]] ?_; (with_reducible refine (spec_FormatRegion.calls k qt _ _ qu ql _ ?side1 ?side2 A8.out).mono ?_); (case side1 => exact cr_ qb); (case side2 => exact (Kd.R_reads' qb.out).2.1); rintro e zZ ⟨rfl, hb⟩; refine ⟨_, rfl, ?_⟩; replace qb := rB_ qb hb; replace qa := kB_ qa hb; replace HB := bS_ HB hb; clear hb; obtain ⟨qU, qV, qW, qX⟩ := b2_ qa) | ((with_reducible refine gate_callee (f := 28) rfl ?_); refine gL_ (some 16) Tryd.func28 #[.agg #[.int .i64 a0_0, .slice A0_1 l0_1.length c0_1]] ?_; (with_reducible refine (laws_toRegion.calls k a0_0 _ _ l0_1 qg qh _ ?side1 ?side2 A9.out).mono ?_); (case side1 => exact cb_ qm HB); (case side2 => exact qn.out); rintro e z0 ⟨qJ, rfl, ho0, hb⟩; refine ⟨_, rfl, ?_⟩; have qd := Aside0.mk (Kd.R_lower (Kd.R_new' ho0 (Kd.R_lt (rm_ qb))) (bz_ HB)); replace qb := Aside0.mk (Kd.R_elder' (rm_ qb) (Kd.R_base ho0) hb); replace qa := kB_ qa hb; replace HB := bS_ HB hb; clear hb ho0) | ((with_reducible refine gate_dst (N := 5) rfl ?_); refine bx_ (cs := #[.int .i64 0, .slice none 0 0]) (t := 57) ?_; intro qv hg z1 hbox hb; replace qb := rB_ qb hb; replace qd := rB_ qd hb; have qc := Aside0.mk (hbox); have qE := hz_ HB hg; have qF := hz_ HB hg; replace HB := bS_ HB hb; have qj := nL_ qa hg; have qk := nG_ qa hg; replace qa := kB_ qa hb; clear hb hbox hg; have zO := qk.out; have zP := qj.out; obtain ⟨qY, qZ, q0, q1⟩ := b2_ qc; obtain ⟨qK, qL, eo63⟩ := Kd.R_slice qd.out; subst eo63) | ((with_reducible refine gate_callee (f := 29) rfl ?_); refine gL_ (some 18) Tryd.func29 #[.agg #[.int .i64 qg, .slice qK qh.length qL]] ?_; (with_reducible refine (impl_FormatRegion.calls (hL := laid_ HL_ HB) k qg _ _ qh qi _ ?side1 ?side2 A10.out).mono ?_); (case side1 => exact cg_ qd qc); (case side2 => exact (Kd.R_reads' qd.out).2.1); rintro e z2 ⟨rfl, hb⟩; refine ⟨_, rfl, ?_⟩; replace qb := rG_ qb qc hb; replace qd := rG_ qd qc hb; replace qa := kF_ qa hb; replace qc := kP_ (cs' := #[.int .i64 qg, .slice qK qh.length qL]) qc hb; replace HB := bS_ HB hb; clear hb))
  go_ret
  exact ⟨by first | rfl | (simp [errW_none, errW_some] <;> rfl) | (simp [*, errW_none, errW_some] <;> rfl), bb_ HB⟩
 rw [if_pos c11] at H
 have qG : (qi.toList == ql.toList) = true := beq_iff_eq.mpr c11
 have qH : (qi.toList != ql.toList) = false := bne_eq_false_iff_eq.mpr c11
 clear c11
 replace H := Option.bind_eq_some_iff.mp H
 obtain ⟨⟨qw, qx⟩, A120, H⟩ := H
 replace H : ((laws_eqRegion.f k qg qh qw qx).bind fun qo => (if qo = true then (some true) else (some false))) = some r := H
 have A12 := Aside0.mk A120
 clear A120
 replace H := Option.bind_eq_some_iff.mp H
 obtain ⟨qo, A130, H⟩ := H
 replace H : (if qo = true then (some true) else (some false)) = some r := H
 have A13 := Aside0.mk A130
 clear A130
 by_cases c14 : qo = true
 ·
  subst c14
  have H1 : (some true) = some r := by rw [if_pos rfl] at H; exact H
  clear H
  have H := H1
  clear H1
  obtain rfl := Option.some.inj H
  go_enter Tryd.func7, Tryd.ntmps7
  try go_wp2_with (first | ((with_reducible refine gate_dst (N := 1) rfl ?_); refine bx_ (cs := #[.int .i64 a0_0, .slice A0_1 l0_1.length c0_1]) (t := 52) ?_; intro qs hg z3 hbox hb; have qa := Aside0.mk (hbox); have qy := hz_ HB hg; have qz := hz_ HB hg; replace HB := bS_ HB hb; clear hb hbox hg; obtain ⟨q2, q3, q4, q5⟩ := b2_ qa) | ((with_reducible refine gate_callee (f := 26) rfl ?_); refine gL_ (some 9) Tryd.func26 #[.agg #[.int .i64 a0_0, .slice A0_1 l0_1.length c0_1], .int .i64 1048576] ?_; (with_reducible refine (laws_szRegion.calls k a0_0 _ _ l0_1 1048576 qr _ ?side1 ?side2 A2.out).mono ?_); (case side1 => exact cb_ qm HB); (case side2 => exact qn.out); rintro e z4 ⟨rfl, hb⟩; refine ⟨_, rfl, ?_⟩; replace qa := kB_ qa hb; replace HB := bS_ HB hb; clear hb; obtain ⟨q6, q7, q8, q9⟩ := b2_ qa) | ((with_reducible refine gate_callee (f := 28) rfl ?_); refine gL_ (some 13) Tryd.func28 #[.agg #[.int .i64 a0_0, .slice A0_1 l0_1.length c0_1]] ?_; (with_reducible refine (laws_toRegion.calls k a0_0 _ _ l0_1 qt qu _ ?side1 ?side2 A7.out).mono ?_); (case side1 => exact cb_ qm HB); (case side2 => exact qn.out); rintro e z5 ⟨qI, rfl, ho0, hb⟩; refine ⟨_, rfl, ?_⟩; have qb := Aside0.mk (Kd.R_lower ho0 (bz_ HB)); replace qa := kB_ qa hb; replace HB := bS_ HB hb; clear hb ho0; obtain ⟨zF, zG, eo20⟩ := Kd.R_slice qb.out; subst eo20) | ((with_reducible refine gate_callee (f := 27) rfl ?_); refine gL_ (some 14) Tryd.func27 #[.agg #[.int .i64 qt, .slice zF qu.length zG]] ?_; (with_reducible refine (spec_FormatRegion.calls k qt _ _ qu ql _ ?side1 ?side2 A8.out).mono ?_); (case side1 => exact cr_ qb); (case side2 => exact (Kd.R_reads' qb.out).2.1); rintro e z6 ⟨rfl, hb⟩; refine ⟨_, rfl, ?_⟩; replace qb := rB_ qb hb; replace qa := kB_ qa hb; replace HB := bS_ HB hb; clear hb; obtain ⟨za, zb, zc, zd⟩ := b2_ qa) | ((with_reducible refine gate_callee (f := 28) rfl ?_); refine gL_ (some 16) Tryd.func28 #[.agg #[.int .i64 a0_0, .slice A0_1 l0_1.length c0_1]] ?_; (with_reducible refine (laws_toRegion.calls k a0_0 _ _ l0_1 qg qh _ ?side1 ?side2 A9.out).mono ?_); (case side1 => exact cb_ qm HB); (case side2 => exact qn.out); rintro e z7 ⟨qJ, rfl, ho0, hb⟩; refine ⟨_, rfl, ?_⟩; have qd := Aside0.mk (Kd.R_lower (Kd.R_new' ho0 (Kd.R_lt (rm_ qb))) (bz_ HB)); replace qb := Aside0.mk (Kd.R_elder' (rm_ qb) (Kd.R_base ho0) hb); replace qa := kB_ qa hb; replace HB := bS_ HB hb; clear hb ho0) | ((with_reducible refine gate_dst (N := 5) rfl ?_); refine bx_ (cs := #[.int .i64 0, .slice none 0 0]) (t := 57) ?_; intro qv hg z8 hbox hb; replace qb := rB_ qb hb; replace qd := rB_ qd hb; have qc := Aside0.mk (hbox); have qE := hz_ HB hg; have qF := hz_ HB hg; replace HB := bS_ HB hb; have qj := nL_ qa hg; have qk := nG_ qa hg; replace qa := kB_ qa hb; clear hb hbox hg; have zQ := qk.out; have zR := qj.out; obtain ⟨ze, zf, zg, zh⟩ := b2_ qc; obtain ⟨qA, qB, eo27⟩ := Kd.R_slice qd.out; subst eo27) | ((with_reducible refine gate_callee (f := 29) rfl ?_); refine gL_ (some 18) Tryd.func29 #[.agg #[.int .i64 qg, .slice qA qh.length qB]] ?_; (with_reducible refine (impl_FormatRegion.calls (hL := laid_ HL_ HB) k qg _ _ qh qi _ ?side1 ?side2 A10.out).mono ?_); (case side1 => exact cg_ qd qc); (case side2 => exact (Kd.R_reads' qd.out).2.1); rintro e zU ⟨rfl, hb⟩; refine ⟨_, rfl, ?_⟩; replace qb := rG_ qb qc hb; replace qd := rG_ qd qc hb; replace qa := kF_ qa hb; replace qc := kP_ (cs' := #[.int .i64 qg, .slice qA qh.length qB]) qc hb; replace HB := bS_ HB hb; clear hb))
  replace qb := Aside0.mk (Kd.R_drew qb.out); replace qd := Aside0.mk (Kd.R_drew qd.out); replace qa := Aside0.mk (blk_drew qa.out); replace qc := Aside0.mk (blk_drew qc.out); replace HB := Aside0.mk (below_drew1 HB.out)
  refine start_ (n := 5) (S := fun w' => w'.cell? ⟨qv, 0, none⟩ = some (.int .i64 qg) ∧ w'.cell? ⟨qv, 1, none⟩ = some (.slice qA qh.length qB) ∧ w'.cell? ⟨qs, 0, none⟩ = some (.int .i64 a0_0) ∧ w'.cell? ⟨qs, 1, none⟩ = some (.slice A0_1 l0_1.length c0_1)) (ds := []) #[false, false, false, false, false] (by kernel_rfl) rfl rfl ⟨bc_ qc 0, bc_ qc 1, bc_ qa 0, bc_ qa 1⟩ (fun hHeld => ?_)
  generalize zU.drew = z9 at qb qd qa qc HB hHeld ⊢
  refine take_ (i := 0) (N := some 22) (v := ?_) (a' := ?_) #[true, false, false, false, false] rfl rfl (by kernel_rfl) (fun _ _ _ h => h) (Or.inl ⟨by rfl, ?_⟩) hHeld ?_ ?_
  rotate_left
  ·
   rintro w' ⟨s0, s1, s2, s3⟩
   go_simp
   with_reducible rfl
  rotate_left
  ·
   simp only [Act.put, List.setIfInBounds_toArray, List.set_cons_zero, List.set_cons_succ, i64_w, i32_w]
   rfl
  refine take_ (i := 1) (N := some 23) (v := ?_) (a' := ?_) #[true, true, false, false, false] rfl rfl (by kernel_rfl) (fun _ _ _ h => h) (Or.inl ⟨by rfl, ?_⟩) hHeld ?_ ?_
  rotate_left
  ·
   rintro w' ⟨s0, s1, s2, s3⟩
   go_simp
   with_reducible rfl
  rotate_left
  ·
   simp only [Act.put, List.setIfInBounds_toArray, List.set_cons_zero, List.set_cons_succ, i64_w, i32_w]
   rfl
  refine one_ (i := 2) (N := some 24) #[true, true, true, false, false] rfl rfl (by kernel_rfl) (by decide) (fun K hK => ?_)
  refine goes_ Tryd.func28 (by kernel_rfl) rfl #[.agg #[.int .i64 a0_0, .slice A0_1 l0_1.length c0_1]] (by rfl) rfl rfl (by (try simp only [List.map_toArray, List.map_cons, List.map_nil]); first | done | rfl | (simp only [List.length_drop, List.length_take]; rfl)) ?_
  with_reducible refine (laws_toRegion.calls k a0_0 _ _ l0_1 qw qx _ ?side1 ?side2 A12.out).mono ?_
  (case side1 => exact cb_ qm HB)
  (case side2 => exact qn.out)
  rintro e ja ⟨zH, rfl, ho0, hb⟩
  refine ⟨_, rfl, ?_⟩
  have qp := Aside0.mk (Kd.R_lower (Kd.R_new' (Kd.R_new' ho0 (Kd.R_lt (rm_ qb))) (Kd.R_lt (rm_ qd))) (bz_ HB)); replace qb := Aside0.mk (Kd.R_elder' (rm_ qb) (Kd.R_base ho0) hb); replace qd := Aside0.mk (Kd.R_elder' (rm_ qd) (Kd.R_base ho0) hb); replace qa := kB_ qa hb; replace qc := kB_ qc hb; replace HB := bS_ HB hb; (try clear hb); (try clear hb2); (try clear hk); (try clear hi); (try clear ho0)
  obtain ⟨zI, zJ, eo31⟩ := Kd.R_slice qp.out
  (first | subst eo31 | (injection eo31 with f1_ f2_ f3_; have f4_ := f1_.symm; have f5_ := f3_.symm; clear f1_ f2_ f3_; subst f4_; subst f5_))
  refine hK.out _ _ ⟨bc_ qc 0, bc_ qc 1, bc_ qa 0, bc_ qa 1⟩ (fun hHeld => ?_)
  clear hK K
  refine norm_ (a' := ?_) ?_ ?_
  rotate_left
  ·
   show Act.put _ (some 24) _ = _
   simp only [Act.put, List.setIfInBounds_toArray, List.set_cons_zero, List.set_cons_succ, i64_w, i32_w]
   rfl
  refine one_ (i := 3) (N := some 25) #[true, true, true, true, false] rfl rfl (by kernel_rfl) (by decide) (fun K hK => ?_)
  refine goes_ Tryd.func30 (by kernel_rfl) rfl #[.agg #[.int .i64 qg, .slice qA qh.length qB], .agg #[.int .i64 qw, .slice zI qx.length zJ]] (by rfl) rfl rfl (by (try simp only [List.map_toArray, List.map_cons, List.map_nil]); first | done | rfl | (simp only [List.length_drop, List.length_take]; rfl)) ?_
  with_reducible refine (laws_eqRegion.calls k qg _ _ qh qw _ _ qx true _ ?side1 ?side2 ?side3 ?side4 A13.out).mono ?_
  (case side1 => exact cr_ qd)
  (case side2 => exact (Kd.R_reads' qd.out).2.1)
  (case side3 => exact cr_ qp)
  (case side4 => exact (Kd.R_reads' qp.out).2.1)
  rintro e jb ⟨rfl, hb⟩
  refine ⟨_, rfl, ?_⟩
  replace qb := rB_ qb hb; replace qd := rB_ qd hb; replace qp := rB_ qp hb; replace qa := kB_ qa hb; replace qc := kB_ qc hb; replace HB := bS_ HB hb; (try clear hb); (try clear hb2); (try clear hk); (try clear hi)
  refine hK.out _ _ ⟨bc_ qc 0, bc_ qc 1, bc_ qa 0, bc_ qa 1⟩ (fun hHeld => ?_)
  clear hK K
  refine norm_ (a' := ?_) ?_ ?_
  rotate_left
  ·
   show Act.put _ (some 25) _ = _
   simp only [Act.put, List.setIfInBounds_toArray, List.set_cons_zero, List.set_cons_succ, i64_w, i32_w]
   rfl
  refine pure_ (i := 4) (N := some 26) (v := ?_) (a' := ?_) #[true, true, true, true, true] rfl rfl (by kernel_rfl) (fun _ _ _ h => h) (Or.inl ⟨by rfl, ?_⟩) ?_ ?_
  rotate_left
  ·
   intro w'
   go_simp
   with_reducible rfl
  rotate_left
  ·
   simp only [Act.put, List.setIfInBounds_toArray, List.set_cons_zero, List.set_cons_succ, i64_w, i32_w]
   rfl
  refine done_ (by kernel_rfl) ?_
  try go_wp2
  go_ret
  exact ⟨by first | rfl | (simp [errW_none, errW_some] <;> rfl) | (simp [*, errW_none, errW_some] <;> rfl), bb_ HB⟩
 replace c14 := Bool.eq_false_iff.mpr c14
 subst c14
 have H1 : (some false) = some r := by rw [if_neg (show ¬ (false = true) by decide)] at H; exact H
 clear H
 have H := H1
 clear H1
 obtain rfl := Option.some.inj H
 go_enter Tryd.func7, Tryd.ntmps7
 try go_wp2_with (first | ((with_reducible refine gate_dst (N := 1) rfl ?_); refine bx_ (cs := #[.int .i64 a0_0, .slice A0_1 l0_1.length c0_1]) (t := 52) ?_; intro qs hg jc hbox hb; have qa := Aside0.mk (hbox); have qy := hz_ HB hg; have qz := hz_ HB hg; replace HB := bS_ HB hb; clear hb hbox hg; obtain ⟨zi, zj, zk, zl⟩ := b2_ qa) | ((with_reducible refine gate_callee (f := 26) rfl ?_); refine gL_ (some 9) Tryd.func26 #[.agg #[.int .i64 a0_0, .slice A0_1 l0_1.length c0_1], .int .i64 1048576] ?_; (with_reducible refine (laws_szRegion.calls k a0_0 _ _ l0_1 1048576 qr _ ?side1 ?side2 A2.out).mono ?_); (case side1 => exact cb_ qm HB); (case side2 => exact qn.out); rintro e jd ⟨rfl, hb⟩; refine ⟨_, rfl, ?_⟩; replace qa := kB_ qa hb; replace HB := bS_ HB hb; clear hb; obtain ⟨zm, zn, zo, zp⟩ := b2_ qa) | ((with_reducible refine gate_callee (f := 28) rfl ?_); refine gL_ (some 13) Tryd.func28 #[.agg #[.int .i64 a0_0, .slice A0_1 l0_1.length c0_1]] ?_; (with_reducible refine (laws_toRegion.calls k a0_0 _ _ l0_1 qt qu _ ?side1 ?side2 A7.out).mono ?_); (case side1 => exact cb_ qm HB); (case side2 => exact qn.out); rintro e je ⟨qI, rfl, ho0, hb⟩; refine ⟨_, rfl, ?_⟩; have qb := Aside0.mk (Kd.R_lower ho0 (bz_ HB)); replace qa := kB_ qa hb; replace HB := bS_ HB hb; clear hb ho0; obtain ⟨zK, zL, eo38⟩ := Kd.R_slice qb.out; subst eo38) | ((with_reducible refine gate_callee (f := 27) rfl ?_); refine gL_ (some 14) Tryd.func27 #[.agg #[.int .i64 qt, .slice zK qu.length zL]] ?_; (with_reducible refine (spec_FormatRegion.calls k qt _ _ qu ql _ ?side1 ?side2 A8.out).mono ?_); (case side1 => exact cr_ qb); (case side2 => exact (Kd.R_reads' qb.out).2.1); rintro e jf ⟨rfl, hb⟩; refine ⟨_, rfl, ?_⟩; replace qb := rB_ qb hb; replace qa := kB_ qa hb; replace HB := bS_ HB hb; clear hb; obtain ⟨zq, zr, zs, zt⟩ := b2_ qa) | ((with_reducible refine gate_callee (f := 28) rfl ?_); refine gL_ (some 16) Tryd.func28 #[.agg #[.int .i64 a0_0, .slice A0_1 l0_1.length c0_1]] ?_; (with_reducible refine (laws_toRegion.calls k a0_0 _ _ l0_1 qg qh _ ?side1 ?side2 A9.out).mono ?_); (case side1 => exact cb_ qm HB); (case side2 => exact qn.out); rintro e jg ⟨qJ, rfl, ho0, hb⟩; refine ⟨_, rfl, ?_⟩; have qd := Aside0.mk (Kd.R_lower (Kd.R_new' ho0 (Kd.R_lt (rm_ qb))) (bz_ HB)); replace qb := Aside0.mk (Kd.R_elder' (rm_ qb) (Kd.R_base ho0) hb); replace qa := kB_ qa hb; replace HB := bS_ HB hb; clear hb ho0) | ((with_reducible refine gate_dst (N := 5) rfl ?_); refine bx_ (cs := #[.int .i64 0, .slice none 0 0]) (t := 57) ?_; intro qv hg jh hbox hb; replace qb := rB_ qb hb; replace qd := rB_ qd hb; have qc := Aside0.mk (hbox); have qE := hz_ HB hg; have qF := hz_ HB hg; replace HB := bS_ HB hb; have qj := nL_ qa hg; have qk := nG_ qa hg; replace qa := kB_ qa hb; clear hb hbox hg; have zS := qk.out; have zT := qj.out; obtain ⟨zu, zv, zw, zx⟩ := b2_ qc; obtain ⟨qC, qD, eo45⟩ := Kd.R_slice qd.out; subst eo45) | ((with_reducible refine gate_callee (f := 29) rfl ?_); refine gL_ (some 18) Tryd.func29 #[.agg #[.int .i64 qg, .slice qC qh.length qD]] ?_; (with_reducible refine (impl_FormatRegion.calls (hL := laid_ HL_ HB) k qg _ _ qh qi _ ?side1 ?side2 A10.out).mono ?_); (case side1 => exact cg_ qd qc); (case side2 => exact (Kd.R_reads' qd.out).2.1); rintro e zV ⟨rfl, hb⟩; refine ⟨_, rfl, ?_⟩; replace qb := rG_ qb qc hb; replace qd := rG_ qd qc hb; replace qa := kF_ qa hb; replace qc := kP_ (cs' := #[.int .i64 qg, .slice qC qh.length qD]) qc hb; replace HB := bS_ HB hb; clear hb))
 replace qb := Aside0.mk (Kd.R_drew qb.out); replace qd := Aside0.mk (Kd.R_drew qd.out); replace qa := Aside0.mk (blk_drew qa.out); replace qc := Aside0.mk (blk_drew qc.out); replace HB := Aside0.mk (below_drew1 HB.out)
 refine start_ (n := 5) (S := fun w' => w'.cell? ⟨qv, 0, none⟩ = some (.int .i64 qg) ∧ w'.cell? ⟨qv, 1, none⟩ = some (.slice qC qh.length qD) ∧ w'.cell? ⟨qs, 0, none⟩ = some (.int .i64 a0_0) ∧ w'.cell? ⟨qs, 1, none⟩ = some (.slice A0_1 l0_1.length c0_1)) (ds := []) #[false, false, false, false, false] (by kernel_rfl) rfl rfl ⟨bc_ qc 0, bc_ qc 1, bc_ qa 0, bc_ qa 1⟩ (fun hHeld => ?_)
 generalize zV.drew = ji at qb qd qa qc HB hHeld ⊢
 refine take_ (i := 0) (N := some 22) (v := ?_) (a' := ?_) #[true, false, false, false, false] rfl rfl (by kernel_rfl) (fun _ _ _ h => h) (Or.inl ⟨by rfl, ?_⟩) hHeld ?_ ?_
 rotate_left
 ·
  rintro w' ⟨s0, s1, s2, s3⟩
  go_simp
  with_reducible rfl
 rotate_left
 ·
  simp only [Act.put, List.setIfInBounds_toArray, List.set_cons_zero, List.set_cons_succ, i64_w, i32_w]
  rfl
 refine take_ (i := 1) (N := some 23) (v := ?_) (a' := ?_) #[true, true, false, false, false] rfl rfl (by kernel_rfl) (fun _ _ _ h => h) (Or.inl ⟨by rfl, ?_⟩) hHeld ?_ ?_
 rotate_left
 ·
  rintro w' ⟨s0, s1, s2, s3⟩
  go_simp
  with_reducible rfl
 rotate_left
 ·
  simp only [Act.put, List.setIfInBounds_toArray, List.set_cons_zero, List.set_cons_succ, i64_w, i32_w]
  rfl
 refine one_ (i := 2) (N := some 24) #[true, true, true, false, false] rfl rfl (by kernel_rfl) (by decide) (fun K hK => ?_)
 refine goes_ Tryd.func28 (by kernel_rfl) rfl #[.agg #[.int .i64 a0_0, .slice A0_1 l0_1.length c0_1]] (by rfl) rfl rfl (by (try simp only [List.map_toArray, List.map_cons, List.map_nil]); first | done | rfl | (simp only [List.length_drop, List.length_take]; rfl)) ?_
 with_reducible refine (laws_toRegion.calls k a0_0 _ _ l0_1 qw qx _ ?side1 ?side2 A12.out).mono ?_
 (case side1 => exact cb_ qm HB)
 (case side2 => exact qn.out)
 rintro e jj ⟨zH, rfl, ho0, hb⟩
 refine ⟨_, rfl, ?_⟩
 have qp := Aside0.mk (Kd.R_lower (Kd.R_new' (Kd.R_new' ho0 (Kd.R_lt (rm_ qb))) (Kd.R_lt (rm_ qd))) (bz_ HB)); replace qb := Aside0.mk (Kd.R_elder' (rm_ qb) (Kd.R_base ho0) hb); replace qd := Aside0.mk (Kd.R_elder' (rm_ qd) (Kd.R_base ho0) hb); replace qa := kB_ qa hb; replace qc := kB_ qc hb; replace HB := bS_ HB hb; (try clear hb); (try clear hb2); (try clear hk); (try clear hi); (try clear ho0)
 obtain ⟨zM, zN, eo49⟩ := Kd.R_slice qp.out
 (first | subst eo49 | (injection eo49 with f1_ f2_ f3_; have f4_ := f1_.symm; have f5_ := f3_.symm; clear f1_ f2_ f3_; subst f4_; subst f5_))
 refine hK.out _ _ ⟨bc_ qc 0, bc_ qc 1, bc_ qa 0, bc_ qa 1⟩ (fun hHeld => ?_)
 clear hK K
 refine norm_ (a' := ?_) ?_ ?_
 rotate_left
 ·
  show Act.put _ (some 24) _ = _
  simp only [Act.put, List.setIfInBounds_toArray, List.set_cons_zero, List.set_cons_succ, i64_w, i32_w]
  rfl
 refine one_ (i := 3) (N := some 25) #[true, true, true, true, false] rfl rfl (by kernel_rfl) (by decide) (fun K hK => ?_)
 refine goes_ Tryd.func30 (by kernel_rfl) rfl #[.agg #[.int .i64 qg, .slice qC qh.length qD], .agg #[.int .i64 qw, .slice zM qx.length zN]] (by rfl) rfl rfl (by (try simp only [List.map_toArray, List.map_cons, List.map_nil]); first | done | rfl | (simp only [List.length_drop, List.length_take]; rfl)) ?_
 with_reducible refine (laws_eqRegion.calls k qg _ _ qh qw _ _ qx false _ ?side1 ?side2 ?side3 ?side4 A13.out).mono ?_
 (case side1 => exact cr_ qd)
 (case side2 => exact (Kd.R_reads' qd.out).2.1)
 (case side3 => exact cr_ qp)
 (case side4 => exact (Kd.R_reads' qp.out).2.1)
 rintro e jk ⟨rfl, hb⟩
 refine ⟨_, rfl, ?_⟩
 replace qb := rB_ qb hb; replace qd := rB_ qd hb; replace qp := rB_ qp hb; replace qa := kB_ qa hb; replace qc := kB_ qc hb; replace HB := bS_ HB hb; (try clear hb); (try clear hb2); (try clear hk); (try clear hi)
 refine hK.out _ _ ⟨bc_ qc 0, bc_ qc 1, bc_ qa 0, bc_ qa 1⟩ (fun hHeld => ?_)
 clear hK K
 refine norm_ (a' := ?_) ?_ ?_
 rotate_left
 ·
  show Act.put _ (some 25) _ = _
  simp only [Act.put, List.setIfInBounds_toArray, List.set_cons_zero, List.set_cons_succ, i64_w, i32_w]
  rfl
 refine pure_ (i := 4) (N := some 26) (v := ?_) (a' := ?_) #[true, true, true, true, true] rfl rfl (by kernel_rfl) (fun _ _ _ h => h) (Or.inl ⟨by rfl, ?_⟩) ?_ ?_
 rotate_left
 ·
  intro w'
  go_simp
  with_reducible rfl
 rotate_left
 ·
  simp only [Act.put, List.setIfInBounds_toArray, List.set_cons_zero, List.set_cons_succ, i64_w, i32_w]
  rfl
 refine done_ (by kernel_rfl) ?_
 try go_wp2
 go_ret
 exact ⟨by first | rfl | (simp [errW_none, errW_some] <;> rfl) | (simp [*, errW_none, errW_some] <;> rfl), bb_ HB⟩

end Go.Proofs.YtohoibekddhneaaDoor.PFnExactFormatRegion
