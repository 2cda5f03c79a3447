/- The functions that the law FnAtoms reaches, each as a Lean function with the same answers, and the proof that the call comes to exactly these: turned by program out of the printed texts. No condition but those that each theorem names. -/
import Derived.Test.YtohoibekddhneaaDoorQFnAtomsx0
namespace Go.Proofs.YtohoibekddhneaaDoor.PFnAtoms
open Go.RowKit Go.Proofs.YtohoibekddhneaaDoorW.PrintWords Go.Proofs.YtohoibekddhneaaDoorW.PrintLast Go.Proofs.YtohoibekddhneaaDoorW.PrintMore
attribute [local go_sem] max2_int min2_int max_two min_two max_three min_three max_four min_four   -- for this text's walks alone
set_option linter.unusedVariables false
set_option linter.unusedSimpArgs false

/-! ### impl_IsNumber: function 61 -/
def impl_IsNumber.f (a0 : Int) : Option (Bool) := if a0 ≥ (-400000000) then (some (decide (a0 ≤ 400000000))) else (some false)
set_option maxHeartbeats 8000000 in
set_option maxRecDepth 100000 in
theorem impl_IsNumber.calls (a0 : Int) (r : Bool) (w : World) (h : impl_IsNumber.f a0 = some r) :
  Calls Tryd.prog 61 #[.int .i64 a0] w fun e w' => e = .returned (.bool r) ∧ Drawn0 w w' := by
 have H : (if a0 ≥ (-400000000) then (some (decide (a0 ≤ 400000000))) else (some false)) = some r := h
 clear h
 by_cases c2 : a0 ≥ (-400000000)
 ·
  rw [if_pos c2] at H
  have qa : decide ((-400000000) ≤ a0) = true := decide_eq_true c2
  clear c2
  obtain rfl := Option.some.inj H
  go_enter Tryd.func61, Tryd.ntmps61
  go_wp2
  go_ret
  exact ⟨by first | rfl | (simp; done) | (simp [*]; done), by repeat (first | exact Drawn0.refl _ | apply Drawn0.step)⟩
 rw [if_neg c2] at H
 have qa : decide ((-400000000) ≤ a0) = false := decide_eq_false c2
 clear c2
 obtain rfl := Option.some.inj H
 go_enter Tryd.func61, Tryd.ntmps61
 go_wp2
 go_ret
 exact ⟨by first | rfl | (simp; done) | (simp [*]; done), by repeat (first | exact Drawn0.refl _ | apply Drawn0.step)⟩

/-! ### impl_absolute: function 110 -/
def impl_absolute.f (a0 : Int) : Option (Int) := if a0 < 0 then (some (wrap64 (-a0))) else (some a0)
set_option maxHeartbeats 8000000 in
set_option maxRecDepth 100000 in
theorem impl_absolute.calls (a0 : Int) (r : Int) (w : World) (h : impl_absolute.f a0 = some r) :
  Calls Tryd.prog 110 #[.int .i64 a0] w fun e w' => e = .returned (.int .i64 r) ∧ Drawn0 w w' := by
 have H : (if a0 < 0 then (some (wrap64 (-a0))) else (some a0)) = some r := h
 clear h
 by_cases c2 : a0 < 0
 ·
  rw [if_pos c2] at H
  have qa : decide (a0 < 0) = true := decide_eq_true c2
  clear c2
  obtain rfl := Option.some.inj H
  go_enter Tryd.func110, Tryd.ntmps110
  go_wp2
  go_ret
  exact ⟨by first | rfl | (simp; done) | (simp [*]; done), by repeat (first | exact Drawn0.refl _ | apply Drawn0.step)⟩
 rw [if_neg c2] at H
 have qa : decide (a0 < 0) = false := decide_eq_false c2
 clear c2
 obtain rfl := Option.some.inj H
 go_enter Tryd.func110, Tryd.ntmps110
 go_wp2
 go_ret
 exact ⟨by first | rfl | (simp; done) | (simp [*]; done), by repeat (first | exact Drawn0.refl _ | apply Drawn0.step)⟩

/-! ### impl_commonDivisor: function 92 -/
def impl_commonDivisor.l0 : Nat → Int → Int → Option (Int)
 | 0, _, _ => none
 | k + 1, x0, x1 => if x1 = 0 then (some x0) else (impl_commonDivisor.l0 k x1 (Int.tmod x0 x1))
def impl_commonDivisor.f (k : Nat) (a0 : Int) (a1 : Int) : Option (Int) := (impl_absolute.f a0).bind fun qb => ((impl_absolute.f a1).bind fun qa => (impl_commonDivisor.l0 k qb qa))
theorem impl_commonDivisor.mono_l : ∀ k, (∀ y0 y1, LeO (impl_commonDivisor.l0 k y0 y1) (impl_commonDivisor.l0 (k + 1) y0 y1))
 | 0 => fun _ _ r h => by simp [impl_commonDivisor.l0] at h
 | k + 1 => by
  have ih0 := impl_commonDivisor.mono_l k
  ·
   intro y0 y1
   unfold impl_commonDivisor.l0
   repeat' first
   | (with_reducible exact ih0 _ _)
   | (with_reducible exact LeO.refl _)
   | (with_reducible exact LeO.none _)
   | (with_reducible refine LeO.ite ?_ ?_)
   | (with_reducible refine LeO.bind ?_ (fun _ => ?_))
   | exact ih0 _ _
   | exact LeO.none _
   | refine LeO.ite ?_ ?_
   | refine LeO.bind ?_ (fun _ => ?_)
theorem impl_commonDivisor.mono : ∀ a0 a1 k, LeO (impl_commonDivisor.f k a0 a1) (impl_commonDivisor.f (k + 1) a0 a1) := by
 intro a0 a1 k
 have ih0 := impl_commonDivisor.mono_l k
 unfold impl_commonDivisor.f
 repeat' first
   | (with_reducible exact ih0 _ _)
   | (with_reducible exact LeO.refl _)
   | (with_reducible exact LeO.none _)
   | (with_reducible refine LeO.ite ?_ ?_)
   | (with_reducible refine LeO.bind ?_ (fun _ => ?_))
   | exact ih0 _ _
   | exact LeO.none _
   | refine LeO.ite ?_ ?_
   | refine LeO.bind ?_ (fun _ => ?_)
set_option maxHeartbeats 8000000 in
set_option maxRecDepth 100000 in
theorem impl_commonDivisor.calls (k : Nat) (a0 : Int) (a1 : Int) (r : Int) (w : World) (h : impl_commonDivisor.f k a0 a1 = some r) :
  Calls Tryd.prog 92 #[.int .i64 a0, .int .i64 a1] w fun e w' => e = .returned (.int .i64 r) ∧ Drawn0 w w' := by
 have H : ((impl_absolute.f a0).bind fun qb => ((impl_absolute.f a1).bind fun qa => (impl_commonDivisor.l0 k qb qa))) = some r := h
 clear h
 replace H := Option.bind_eq_some_iff.mp H
 obtain ⟨qb, A30, H⟩ := H
 replace H : ((impl_absolute.f a1).bind fun qa => (impl_commonDivisor.l0 k qb qa)) = some r := H
 have A3 := Aside0.mk A30
 clear A30
 replace H := Option.bind_eq_some_iff.mp H
 obtain ⟨qa, A40, H⟩ := H
 replace H : (impl_commonDivisor.l0 k qb qa) = some r := H
 have A4 := Aside0.mk A40
 clear A40
 have H' := Aside0.mk H
 clear H
 go_enter Tryd.func92, Tryd.ntmps92
 go_wp2_with (first | (go_at_call 110; (with_reducible refine (impl_absolute.calls a0 qb _ A3.out).mono ?_); rintro e w' ⟨rfl, ⟨nd, rfl⟩⟩; (try first | exact ⟨rfl, _, World.drewN_drewN _ _ _⟩ | exact ⟨rfl, _, Eq.trans (World.drewN_drewN _ _ _) (congrArg (World.drewN _) (Nat.add_assoc _ _ _))⟩)) | (go_at_call 110; (with_reducible refine (impl_absolute.calls a1 qa _ A4.out).mono ?_); rintro e w' ⟨rfl, ⟨nd, rfl⟩⟩; (try first | exact ⟨rfl, _, World.drewN_drewN _ _ _⟩ | exact ⟨rfl, _, Eq.trans (World.drewN_drewN _ _ _) (congrArg (World.drewN _) (Nat.add_assoc _ _ _))⟩)))
 repeat (go_quiet (first | (go_at_call 110; (with_reducible refine (impl_absolute.calls a0 qb _ A3.out).mono ?_); rintro e w' ⟨rfl, ⟨nd, rfl⟩⟩; (try first | exact ⟨rfl, _, World.drewN_drewN _ _ _⟩ | exact ⟨rfl, _, Eq.trans (World.drewN_drewN _ _ _) (congrArg (World.drewN _) (Nat.add_assoc _ _ _))⟩)) | (go_at_call 110; (with_reducible refine (impl_absolute.calls a1 qa _ A4.out).mono ?_); rintro e w' ⟨rfl, ⟨nd, rfl⟩⟩; (try first | exact ⟨rfl, _, World.drewN_drewN _ _ _⟩ | exact ⟨rfl, _, Eq.trans (World.drewN_drewN _ _ _) (congrArg (World.drewN _) (Nat.add_assoc _ _ _))⟩))); try go_wp2_with (first | (go_at_call 110; (with_reducible refine (impl_absolute.calls a0 qb _ A3.out).mono ?_); rintro e w' ⟨rfl, ⟨nd, rfl⟩⟩; (try first | exact ⟨rfl, _, World.drewN_drewN _ _ _⟩ | exact ⟨rfl, _, Eq.trans (World.drewN_drewN _ _ _) (congrArg (World.drewN _) (Nat.add_assoc _ _ _))⟩)) | (go_at_call 110; (with_reducible refine (impl_absolute.calls a1 qa _ A4.out).mono ?_); rintro e w' ⟨rfl, ⟨nd, rfl⟩⟩; (try first | exact ⟨rfl, _, World.drewN_drewN _ _ _⟩ | exact ⟨rfl, _, Eq.trans (World.drewN_drewN _ _ _) (congrArg (World.drewN _) (Nat.add_assoc _ _ _))⟩))))
 go_loopg [0, 1] k (fun kq v0 v1 w' => ∃ (qd : Int) (qc : Int), v0 = .int .i64 qd ∧ v1 = .int .i64 qc ∧ Aside0 (impl_commonDivisor.l0 kq qd qc = some r) ∧ Aside0 (kq ≤ k) ∧ Drawn0 w w')
 case atStart => exact ⟨(qb), (qa), (by first | rfl | (simp; done) | (simp [*]; done)), (by first | rfl | (simp; done) | (simp [*]; done)), H', ⟨Nat.le_refl _⟩, by repeat (first | exact Drawn0.refl _ | apply Drawn0.step)⟩
 case round =>
  clear H'
  try clear p2
  obtain ⟨qd, qc, rfl, rfl, HA, HK1, ⟨m1, rfl⟩⟩ := hrel
  cases gk with
  | zero => exact absurd HA.out (by simp [impl_commonDivisor.l0])
  | succ k1 =>
   have H := HA.out
   clear HA
   simp only [impl_commonDivisor.l0] at H
   by_cases c5 : qc = 0
   ·
    rw [if_pos c5] at H
    have qe : (qc == 0) = true := beq_iff_eq.mpr c5
    have qf : (qc != 0) = false := bne_eq_false_iff_eq.mpr c5
    clear c5
    obtain rfl := Option.some.inj H
    go_wp2
    repeat (go_quiet (fail); try go_wp2)
    go_ret
    exact ⟨by first | rfl | (simp; done) | (simp [*]; done), by repeat (first | exact Drawn0.refl _ | apply Drawn0.step)⟩
   rw [if_neg c5] at H
   have qe : (qc == 0) = false := beq_eq_false_iff_ne.mpr c5
   have qf : (qc != 0) = true := bne_iff_ne.mpr c5
   have H' := Aside0.mk H
   clear H
   go_wp2
   repeat (go_quiet (fail); try go_wp2)
   go_roundg k1
   case measure => have := HK1.out; omega
   case rel => exact ⟨(qc), (Int.tmod qd qc), (by first | rfl | (simp; done) | (simp [*]; done)), (by first | rfl | (simp; done) | (simp [*]; done)), H', ⟨by have := HK1.out; omega⟩, by repeat (first | exact Drawn0.refl _ | apply Drawn0.step)⟩

/-! ### impl_divisorOf: function 93 -/
def impl_divisorOf.l0 : Nat → Int → List Int → Int → Int → Option (Int)
 | 0, _, _, _, _ => none
 | k + 1, x3, x6, x7, x8 => if x8 < x7 then (if 0 ≤ x8 then (if x8 < (x6.length : Int) then ((impl_commonDivisor.f k x3 (rd x6 x8)).bind fun qb => (impl_divisorOf.l0 k qb x6 x7 (wrap64 (x8 + 1)))) else (none)) else (none)) else (some x3)
def impl_divisorOf.f (k : Nat) (l0 : List Int) : Option (Int) := impl_divisorOf.l0 k 0 l0 (l0.length : Int) 0
theorem impl_divisorOf.mono_l : ∀ k, (∀ y0 y1 y2 y3, LeO (impl_divisorOf.l0 k y0 y1 y2 y3) (impl_divisorOf.l0 (k + 1) y0 y1 y2 y3))
 | 0 => fun _ _ _ _ r h => by simp [impl_divisorOf.l0] at h
 | k + 1 => by
  have ih0 := impl_divisorOf.mono_l k
  ·
   intro y0 y1 y2 y3
   unfold impl_divisorOf.l0
   repeat' first
   | (with_reducible exact ih0 _ _ _ _)
   | (with_reducible exact impl_commonDivisor.mono _ _ _)
   | (with_reducible exact LeO.refl _)
   | (with_reducible exact LeO.none _)
   | (with_reducible refine LeO.ite ?_ ?_)
   | (with_reducible refine LeO.bind ?_ (fun _ => ?_))
   | exact ih0 _ _ _ _
   | exact impl_commonDivisor.mono _ _ _
   | exact LeO.none _
   | refine LeO.ite ?_ ?_
   | refine LeO.bind ?_ (fun _ => ?_)
theorem impl_divisorOf.mono : ∀ a0 k, LeO (impl_divisorOf.f k a0) (impl_divisorOf.f (k + 1) a0) := by
 intro a0 k
 have ih0 := impl_divisorOf.mono_l k
 unfold impl_divisorOf.f
 repeat' first
   | (with_reducible exact ih0 _ _ _ _)
   | (with_reducible exact impl_commonDivisor.mono _ _ _)
   | (with_reducible exact LeO.refl _)
   | (with_reducible exact LeO.none _)
   | (with_reducible refine LeO.ite ?_ ?_)
   | (with_reducible refine LeO.bind ?_ (fun _ => ?_))
   | exact ih0 _ _ _ _
   | exact impl_commonDivisor.mono _ _ _
   | exact LeO.none _
   | refine LeO.ite ?_ ?_
   | refine LeO.bind ?_ (fun _ => ?_)
set_option maxHeartbeats 8000000 in
set_option maxRecDepth 100000 in
theorem impl_divisorOf.calls (k : Nat) (A0 : Option Addr) (c0 : Nat) (l0 : List Int) (r : Int) (w : World) (hr0 : Kd.C (Kd.int .i64) w A0 l0.length l0) (hc0 : l0.length ≤ c0) (h : impl_divisorOf.f k l0 = some r) :
  Calls Tryd.prog 93 #[.slice A0 l0.length c0] w fun e w' => e = .returned (.int .i64 r) ∧ Drawn0 w w' := by
 have HR0 := Aside0.mk hr0
 have HC0 := Aside0.mk hc0
 clear hr0 hc0
 have H : (impl_divisorOf.l0 k 0 l0 (l0.length : Int) 0) = some r := h
 clear h
 have H' := Aside0.mk H
 clear H
 go_enter Tryd.func93, Tryd.ntmps93
 go_wp2
 go_loopg [3, 8] k (fun kq v3 v8 w' => ∃ (qc : Int) (qa : Int), v3 = .int .i64 qc ∧ v8 = .int .i64 qa ∧ Aside0 (impl_divisorOf.l0 kq qc l0 (l0.length : Int) qa = some r) ∧ Aside0 (kq ≤ k) ∧ Drawn0 w w')
 case atStart => exact ⟨(0), (0), (by first | rfl | (simp; done) | (simp [*]; done)), (by first | rfl | (simp; done) | (simp [*]; done)), H', ⟨Nat.le_refl _⟩, by repeat (first | exact Drawn0.refl _ | apply Drawn0.step)⟩
 case round =>
  clear H'
  obtain ⟨qc, qa, rfl, rfl, HA, HK1, ⟨m1, rfl⟩⟩ := hrel
  cases gk with
  | zero => exact absurd HA.out (by simp [impl_divisorOf.l0])
  | succ k1 =>
   have H := HA.out
   clear HA
   simp only [impl_divisorOf.l0] at H
   by_cases c2 : qa < (l0.length : Int)
   rotate_left
   ·
    rw [if_neg c2] at H
    have qe : decide (qa < (l0.length : Int)) = false := decide_eq_false c2
    clear c2
    obtain rfl := Option.some.inj H
    go_wp2
    go_ret
    exact ⟨by first | rfl | (simp; done) | (simp [*]; done), by repeat (first | exact Drawn0.refl _ | apply Drawn0.step)⟩
   rw [if_pos c2] at H
   have qe : decide (qa < (l0.length : Int)) = true := decide_eq_true c2
   clear c2
   by_cases c3 : 0 ≤ qa
   rotate_left
   ·
    rw [if_neg c3] at H
    exact absurd H (by simp)
   rw [if_pos c3] at H
   have qg : decide (0 ≤ qa) = true := decide_eq_true c3
   clear c3
   by_cases c4 : qa < (l0.length : Int)
   rotate_left
   ·
    rw [if_neg c4] at H
    exact absurd H (by simp)
   rw [if_pos c4] at H
   have qh : decide (qa < (l0.length : Int)) = true := decide_eq_true c4
   clear c4
   replace H := Option.bind_eq_some_iff.mp H
   obtain ⟨qb, A50, H⟩ := H
   replace H : (impl_divisorOf.l0 k1 qb l0 (l0.length : Int) (wrap64 (qa + 1))) = some r := H
   have A5 := Aside0.mk A50
   clear A50
   have H' := Aside0.mk H
   clear H
   have p103 : 0 ≤ (qa : Int) := of_decide_eq_true (by first | (with_reducible assumption) | assumption)
   have q103 : qa < (l0.length : Int) := of_decide_eq_true (by first | (with_reducible assumption) | assumption)
   obtain ⟨qf, e103, qd⟩ := Kd.at_int HR0.out qa p103 q103
   cases e103
   replace p103 := eq_true p103
   replace q103 := eq_true q103
   go_wp2_with (first | ((with_reducible refine gate_callee (f := 92) rfl ?_); refine gL_ (some 14) Tryd.func92 #[.int .i64 qc, .int .i64 (rd l0 qa)] ?_; (with_reducible refine (impl_commonDivisor.calls k1 qc (rd l0 qa) qb _ A5.out).mono ?_); rintro e w' ⟨rfl, ⟨nd, rfl⟩⟩; refine ⟨_, rfl, ?_⟩))
   go_roundg k1
   case measure => have := HK1.out; omega
   case rel => exact ⟨(qb), (wrap64 (qa + 1)), (by first | rfl | (simp; done) | (simp [*]; done)), (by first | rfl | (simp; done) | (simp [*]; done)), H', ⟨by have := HK1.out; omega⟩, by repeat (first | exact Drawn0.refl _ | apply Drawn0.step)⟩

/-! ### impl_IsAtom: function 52 -/
mutual
def impl_IsAtom.j0 : Nat → Bool → List Int → Int → Bool → Option (Bool)
 | 0, _, _, _, _ => none
 | k + 1, x14, x106000, x106001, x106002 => if x14 = true then (some false) else (impl_IsAtom.l0 k x106000 (x106000.length : Int) 0 x106000 x106001 x106002)
def impl_IsAtom.l0 : Nat → List Int → Int → Int → List Int → Int → Bool → Option (Bool)
 | 0, _, _, _, _, _, _ => none
 | k + 1, x16, x17, x18, x106000, x106001, x106002 => if x18 < x17 then (if 0 ≤ x18 then (if x18 < (x16.length : Int) then ((impl_IsNumber.f (rd x16 x18)).bind fun qx => (if qx = true then (impl_IsAtom.l0 k x16 x17 (wrap64 (x18 + 1)) x106000 x106001 x106002) else (some false))) else (none)) else (none)) else ((impl_divisorOf.f k x106000).bind fun qd => ((impl_commonDivisor.f k qd x106001).bind fun qf => (some (decide (qf ≤ 1)))))
end
def impl_IsAtom.f (k : Nat) (l0_0 : List Int) (a0_1 : Int) (a0_2 : Bool) : Option (Bool) := if (l0_0.length : Int) > 4 then (impl_IsAtom.j0 k true l0_0 a0_1 a0_2) else ((impl_IsNumber.f a0_1).bind fun qe => (impl_IsAtom.j0 k (!qe) l0_0 a0_1 a0_2))
theorem impl_IsAtom.mono_l : ∀ k, (∀ y0 y1 y2 y3, LeO (impl_IsAtom.j0 k y0 y1 y2 y3) (impl_IsAtom.j0 (k + 1) y0 y1 y2 y3)) ∧ (∀ y0 y1 y2 y3 y4 y5, LeO (impl_IsAtom.l0 k y0 y1 y2 y3 y4 y5) (impl_IsAtom.l0 (k + 1) y0 y1 y2 y3 y4 y5))
 | 0 => ⟨fun _ _ _ _ r h => by simp [impl_IsAtom.j0] at h, fun _ _ _ _ _ _ r h => by simp [impl_IsAtom.l0] at h⟩
 | k + 1 => by
  obtain ⟨ih0, ih1⟩ := impl_IsAtom.mono_l k
  refine ⟨?_, ?_⟩ <;> (intros; first | unfold impl_IsAtom.j0 | unfold impl_IsAtom.l0)
  all_goals
   repeat' first
   | (with_reducible exact ih0 _ _ _ _)
   | (with_reducible exact ih1 _ _ _ _ _ _)
   | (with_reducible exact impl_commonDivisor.mono _ _ _)
   | (with_reducible exact impl_divisorOf.mono _ _)
   | (with_reducible exact LeO.refl _)
   | (with_reducible exact LeO.none _)
   | (with_reducible refine LeO.ite ?_ ?_)
   | (with_reducible refine LeO.bind ?_ (fun _ => ?_))
   | exact ih0 _ _ _ _
   | exact ih1 _ _ _ _ _ _
   | exact impl_commonDivisor.mono _ _ _
   | exact impl_divisorOf.mono _ _
   | exact LeO.none _
   | refine LeO.ite ?_ ?_
   | refine LeO.bind ?_ (fun _ => ?_)
theorem impl_IsAtom.mono : ∀ a0 a1 a2 k, LeO (impl_IsAtom.f k a0 a1 a2) (impl_IsAtom.f (k + 1) a0 a1 a2) := by
 intro a0 a1 a2 k
 obtain ⟨ih0, ih1⟩ := impl_IsAtom.mono_l k
 unfold impl_IsAtom.f
 repeat' first
   | (with_reducible exact ih0 _ _ _ _)
   | (with_reducible exact ih1 _ _ _ _ _ _)
   | (with_reducible exact impl_commonDivisor.mono _ _ _)
   | (with_reducible exact impl_divisorOf.mono _ _)
   | (with_reducible exact LeO.refl _)
   | (with_reducible exact LeO.none _)
   | (with_reducible refine LeO.ite ?_ ?_)
   | (with_reducible refine LeO.bind ?_ (fun _ => ?_))
   | exact ih0 _ _ _ _
   | exact ih1 _ _ _ _ _ _
   | exact impl_commonDivisor.mono _ _ _
   | exact impl_divisorOf.mono _ _
   | exact LeO.none _
   | refine LeO.ite ?_ ?_
   | refine LeO.bind ?_ (fun _ => ?_)
set_option maxHeartbeats 8000000 in
set_option maxRecDepth 100000 in
theorem impl_IsAtom.calls (k : Nat) (A0_0 : Option Addr) (c0_0 : Nat) (l0_0 : List Int) (a0_1 : Int) (a0_2 : Bool) (r : Bool) (w : World) (hr0_0 : Kd.C (Kd.int .i64) w A0_0 l0_0.length l0_0) (hc0_0 : l0_0.length ≤ c0_0) (h : impl_IsAtom.f k l0_0 a0_1 a0_2 = some r) :
  Calls Tryd.prog 52 #[.agg #[.slice A0_0 l0_0.length c0_0, .int .i64 a0_1, .bool a0_2]] w fun e w' => e = .returned (.bool r) ∧ Below w.heap.size w w' := by
 have hu27 := Tryd.underlying27
 have qg := Aside0.mk hr0_0
 have qk := Aside0.mk hc0_0
 clear hr0_0 hc0_0
 have HB := Aside0.mk (Below.refl w.heap.size w)
 have H : (if (l0_0.length : Int) > 4 then (impl_IsAtom.j0 k true l0_0 a0_1 a0_2) else ((impl_IsNumber.f a0_1).bind fun qe => (impl_IsAtom.j0 k (!qe) l0_0 a0_1 a0_2))) = some r := h
 clear h
 have HC2 := Aside0.mk H
 clear H
 go_enter Tryd.func52, Tryd.ntmps52
 go_upto_region 1 with (first | ((with_reducible refine gate_dst (N := 1) rfl ?_); refine bx_ (cs := #[.slice A0_0 l0_0.length c0_0, .int .i64 a0_1, .bool a0_2]) (t := 27) ?_; intro qi hg w3 hbox hb; have qc := Aside0.mk (hbox); have qy := hz_ HB hg; have qz := hz_ HB hg; replace HB := bS_ HB hb; clear hb hbox hg))
 repeat (go_quiet (first | ((with_reducible refine gate_dst (N := 1) rfl ?_); refine bx_ (cs := #[.slice A0_0 l0_0.length c0_0, .int .i64 a0_1, .bool a0_2]) (t := 27) ?_; intro qi hg w3 hbox hb; have qc := Aside0.mk (hbox); have qy := hz_ HB hg; have qz := hz_ HB hg; replace HB := bS_ HB hb; clear hb hbox hg)); go_upto_region 1 with (first | ((with_reducible refine gate_dst (N := 1) rfl ?_); refine bx_ (cs := #[.slice A0_0 l0_0.length c0_0, .int .i64 a0_1, .bool a0_2]) (t := 27) ?_; intro qi hg w3 hbox hb; have qc := Aside0.mk (hbox); have qy := hz_ HB hg; have qz := hz_ HB hg; replace HB := bS_ HB hb; clear hb hbox hg)))
 (try simp only [Act.put, List.setIfInBounds_toArray, List.set_cons_zero, List.set_cons_succ])
 go_cut [14] (fun v14 wc => ∃ (kq : Nat) (qj : Bool), v14 = .bool qj ∧ Aside0 (impl_IsAtom.j0 kq qj l0_0 a0_1 a0_2 = some r) ∧ Aside0 (kq ≤ k) ∧ Aside0 (wc.heap[qi]? = some (.cells #[(.slice A0_0 l0_0.length c0_0), .int .i64 a0_1, .bool a0_2] 27 (0, 0))) ∧ Aside0 (Below w.heap.size w wc))
 case first =>
  have H := HC2.out
  clear HC2
  by_cases c4 : (l0_0.length : Int) > 4
  ·
   rw [if_pos c4] at H
   have qh : decide (4 < (l0_0.length : Int)) = true := decide_eq_true c4
   have qA : decide (4 < l0_0.length) = true := decide_eq_true (by omega)
   clear c4
   (first | rw [qh] | (simp only [i64_w, i32_w]; rw [qh]) | skip)
   have H' := Aside0.mk H
   clear H
   obtain ⟨ql, qm, qn, qo, qp, qq⟩ := b3_ qc
   go_wp2
   repeat (go_quiet (fail); try go_wp2)
   go_meet
   case rel => exact ⟨_, (true), (by first | rfl | (simp; done) | (simp [*]; done)), H', ⟨by first | omega | exact Nat.le_refl _⟩, ⟨kf_ qc⟩, ⟨bb_ HB⟩⟩
  rw [if_neg c4] at H
  have qh : decide (4 < (l0_0.length : Int)) = false := decide_eq_false c4
  have qA : decide (4 < l0_0.length) = false := decide_eq_false (by omega)
  clear c4
  (first | rw [qh] | (simp only [i64_w, i32_w]; rw [qh]) | skip)
  replace H := Option.bind_eq_some_iff.mp H
  obtain ⟨qe, A60, H⟩ := H
  replace H : (impl_IsAtom.j0 k (!qe) l0_0 a0_1 a0_2) = some r := H
  have A6 := Aside0.mk A60
  clear A60
  have H' := Aside0.mk H
  clear H
  obtain ⟨qr, qs, qt, qu, qv, qw⟩ := b3_ qc
  go_wp2_with (first | (go_at_call 61; (with_reducible refine (impl_IsNumber.calls a0_1 qe _ A6.out).mono ?_); rintro e w' ⟨rfl, ⟨nd, rfl⟩⟩; (try first | exact ⟨rfl, _, World.drewN_drewN _ _ _⟩ | exact ⟨rfl, _, Eq.trans (World.drewN_drewN _ _ _) (congrArg (World.drewN _) (Nat.add_assoc _ _ _))⟩)))
  repeat (go_quiet (first | (go_at_call 61; (with_reducible refine (impl_IsNumber.calls a0_1 qe _ A6.out).mono ?_); rintro e w' ⟨rfl, ⟨nd, rfl⟩⟩; (try first | exact ⟨rfl, _, World.drewN_drewN _ _ _⟩ | exact ⟨rfl, _, Eq.trans (World.drewN_drewN _ _ _) (congrArg (World.drewN _) (Nat.add_assoc _ _ _))⟩))); try go_wp2_with (first | (go_at_call 61; (with_reducible refine (impl_IsNumber.calls a0_1 qe _ A6.out).mono ?_); rintro e w' ⟨rfl, ⟨nd, rfl⟩⟩; (try first | exact ⟨rfl, _, World.drewN_drewN _ _ _⟩ | exact ⟨rfl, _, Eq.trans (World.drewN_drewN _ _ _) (congrArg (World.drewN _) (Nat.add_assoc _ _ _))⟩))))
  go_meet
  case rel => exact ⟨_, (!qe), (by first | rfl | (simp; done) | (simp [*]; done)), H', ⟨by first | omega | exact Nat.le_refl _⟩, ⟨kf_ qc⟩, ⟨bb_ HB⟩⟩
 case rest =>
  clear HC2
  try clear p2
  try clear c4
  try clear qh
  try clear qA
  try clear c5
  try clear ql
  try clear qm
  try clear qn
  try clear qr
  try clear qs
  try clear qt
  try clear qo
  try clear qp
  try clear qq
  try clear qu
  try clear qv
  try clear qw
  obtain ⟨kq, qj, rfl, HA, HJ1, qc, HB⟩ := hcut
  cases kq with
  | zero => exact absurd HA.out (by simp [impl_IsAtom.j0])
  | succ kj1 =>
   have H := HA.out
   clear HA
   simp only [impl_IsAtom.j0] at H
   by_cases c8 : qj = true
   ·
    subst c8
    have H1 : (some false) = some r := by rw [if_pos rfl] at H; exact H
    clear H
    have H := H1
    clear H1
    obtain rfl := Option.some.inj H
    go_wp2
    repeat (go_quiet (fail); try go_wp2)
    go_ret
    exact ⟨by first | rfl | (simp [errW_none, errW_some] <;> rfl) | (simp [*, errW_none, errW_some] <;> rfl), bb_ HB⟩
   replace c8 := Bool.eq_false_iff.mpr c8
   subst c8
   have H1 : (impl_IsAtom.l0 kj1 l0_0 (l0_0.length : Int) 0 l0_0 a0_1 a0_2) = some r := by rw [if_neg (show ¬ (false = true) by decide)] at H; exact H
   clear H
   have H := H1
   clear H1
   have H' := Aside0.mk H
   clear H
   obtain ⟨qB, qC, qD, qE, qF, qG⟩ := b3_ qc
   go_wp2
   repeat (go_quiet (fail); try go_wp2)
   go_loopg [18] kj1 (fun kq v18 w' => ∃ (qa : Int), v18 = .int .i64 qa ∧ Aside0 (impl_IsAtom.l0 kq l0_0 (l0_0.length : Int) qa l0_0 a0_1 a0_2 = some r) ∧ Aside0 (kq ≤ kj1) ∧ Aside0 (w'.heap[qi]? = some (.cells #[(.slice A0_0 l0_0.length c0_0), .int .i64 a0_1, .bool a0_2] 27 (0, 0))) ∧ Aside0 (Below w.heap.size w w'))
   case atStart => exact ⟨(0), (by first | rfl | (simp; done) | (simp [*]; done)), H', ⟨Nat.le_refl _⟩, ⟨kf_ qc⟩, ⟨bb_ HB⟩⟩
   case round =>
    clear H'
    try clear p2
    try clear c4
    try clear qh
    try clear qA
    try clear c5
    try clear c8
    try clear ql
    try clear qm
    try clear qn
    try clear qr
    try clear qs
    try clear qt
    try clear qB
    try clear qC
    try clear qD
    try clear qo
    try clear qp
    try clear qq
    try clear qu
    try clear qv
    try clear qw
    try clear qE
    try clear qF
    try clear qG
    try clear p2
    obtain ⟨qa, rfl, HA, HK2, qc, HB⟩ := hrel
    cases gk with
    | zero => exact absurd HA.out (by simp [impl_IsAtom.l0])
    | succ k2 =>
     have H := HA.out
     clear HA
     simp only [impl_IsAtom.l0] at H
     by_cases c10 : qa < (l0_0.length : Int)
     rotate_left
     ·
      rw [if_neg c10] at H
      have qH : decide (qa < (l0_0.length : Int)) = false := decide_eq_false c10
      clear c10
      replace H := Option.bind_eq_some_iff.mp H
      obtain ⟨qd, A150, H⟩ := H
      replace H : ((impl_commonDivisor.f k2 qd a0_1).bind fun qf => (some (decide (qf ≤ 1)))) = some r := H
      have A15 := Aside0.mk A150
      clear A150
      replace H := Option.bind_eq_some_iff.mp H
      obtain ⟨qf, A160, H⟩ := H
      replace H : (some (decide (qf ≤ 1))) = some r := H
      have A16 := Aside0.mk A160
      clear A160
      obtain rfl := Option.some.inj H
      obtain ⟨qJ, qK, qL, qM, qN, qO⟩ := b3_ qc
      go_wp2_with (first | (go_at_call 93; (with_reducible refine (impl_divisorOf.calls k2 _ _ l0_0 qd _ ?side1 ?side2 A15.out).mono ?_); (case side1 => exact cb_ qg HB); (case side2 => exact qk.out); rintro e w' ⟨rfl, ⟨nd, rfl⟩⟩; (try first | exact ⟨rfl, _, World.drewN_drewN _ _ _⟩ | exact ⟨rfl, _, Eq.trans (World.drewN_drewN _ _ _) (congrArg (World.drewN _) (Nat.add_assoc _ _ _))⟩)) | (go_at_call 92; (with_reducible refine (impl_commonDivisor.calls k2 qd a0_1 qf _ A16.out).mono ?_); rintro e w' ⟨rfl, ⟨nd, rfl⟩⟩; (try first | exact ⟨rfl, _, World.drewN_drewN _ _ _⟩ | exact ⟨rfl, _, Eq.trans (World.drewN_drewN _ _ _) (congrArg (World.drewN _) (Nat.add_assoc _ _ _))⟩)))
      repeat (go_quiet (first | (go_at_call 93; (with_reducible refine (impl_divisorOf.calls k2 _ _ l0_0 qd _ ?side1 ?side2 A15.out).mono ?_); (case side1 => exact cb_ qg HB); (case side2 => exact qk.out); rintro e w' ⟨rfl, ⟨nd, rfl⟩⟩; (try first | exact ⟨rfl, _, World.drewN_drewN _ _ _⟩ | exact ⟨rfl, _, Eq.trans (World.drewN_drewN _ _ _) (congrArg (World.drewN _) (Nat.add_assoc _ _ _))⟩)) | (go_at_call 92; (with_reducible refine (impl_commonDivisor.calls k2 qd a0_1 qf _ A16.out).mono ?_); rintro e w' ⟨rfl, ⟨nd, rfl⟩⟩; (try first | exact ⟨rfl, _, World.drewN_drewN _ _ _⟩ | exact ⟨rfl, _, Eq.trans (World.drewN_drewN _ _ _) (congrArg (World.drewN _) (Nat.add_assoc _ _ _))⟩))); try go_wp2_with (first | (go_at_call 93; (with_reducible refine (impl_divisorOf.calls k2 _ _ l0_0 qd _ ?side1 ?side2 A15.out).mono ?_); (case side1 => exact cb_ qg HB); (case side2 => exact qk.out); rintro e w' ⟨rfl, ⟨nd, rfl⟩⟩; (try first | exact ⟨rfl, _, World.drewN_drewN _ _ _⟩ | exact ⟨rfl, _, Eq.trans (World.drewN_drewN _ _ _) (congrArg (World.drewN _) (Nat.add_assoc _ _ _))⟩)) | (go_at_call 92; (with_reducible refine (impl_commonDivisor.calls k2 qd a0_1 qf _ A16.out).mono ?_); rintro e w' ⟨rfl, ⟨nd, rfl⟩⟩; (try first | exact ⟨rfl, _, World.drewN_drewN _ _ _⟩ | exact ⟨rfl, _, Eq.trans (World.drewN_drewN _ _ _) (congrArg (World.drewN _) (Nat.add_assoc _ _ _))⟩))))
      go_ret
      exact ⟨by first | rfl | (simp [errW_none, errW_some] <;> rfl) | (simp [*, errW_none, errW_some] <;> rfl), bb_ HB⟩
     rw [if_pos c10] at H
     have qH : decide (qa < (l0_0.length : Int)) = true := decide_eq_true c10
     clear c10
     by_cases c11 : 0 ≤ qa
     rotate_left
     ·
      rw [if_neg c11] at H
      exact absurd H (by simp)
     rw [if_pos c11] at H
     have qP : decide (0 ≤ qa) = true := decide_eq_true c11
     clear c11
     by_cases c12 : qa < (l0_0.length : Int)
     rotate_left
     ·
      rw [if_neg c12] at H
      exact absurd H (by simp)
     rw [if_pos c12] at H
     have qQ : decide (qa < (l0_0.length : Int)) = true := decide_eq_true c12
     clear c12
     replace H := Option.bind_eq_some_iff.mp H
     obtain ⟨qx, A130, H⟩ := H
     replace H : (if qx = true then (impl_IsAtom.l0 k2 l0_0 (l0_0.length : Int) (wrap64 (qa + 1)) l0_0 a0_1 a0_2) else (some false)) = some r := H
     have A13 := Aside0.mk A130
     clear A130
     by_cases c14 : qx = true
     rotate_left
     ·
      replace c14 := Bool.eq_false_iff.mpr c14
      subst c14
      have H1 : (some false) = some r := by rw [if_neg (show ¬ (false = true) by decide)] at H; exact H
      clear H
      have H := H1
      clear H1
      obtain rfl := Option.some.inj H
      have p107 : 0 ≤ (qa : Int) := of_decide_eq_true (by first | (with_reducible assumption) | assumption)
      have q107 : qa < (l0_0.length : Int) := of_decide_eq_true (by first | (with_reducible assumption) | assumption)
      obtain ⟨qI, e107, qb⟩ := Kd.at_int qg.out qa p107 q107
      cases e107
      replace qb := (HB.out.cell (World.block_lt_of_cell? w _ qb)).trans qb
      replace p107 := eq_true p107
      replace q107 := eq_true q107
      go_wp2_with (first | (go_at_call 61; (with_reducible refine (impl_IsNumber.calls (rd l0_0 qa) false _ A13.out).mono ?_); rintro e w' ⟨rfl, ⟨nd, rfl⟩⟩; (try first | exact ⟨rfl, _, World.drewN_drewN _ _ _⟩ | exact ⟨rfl, _, Eq.trans (World.drewN_drewN _ _ _) (congrArg (World.drewN _) (Nat.add_assoc _ _ _))⟩)))
      repeat (go_quiet (first | (go_at_call 61; (with_reducible refine (impl_IsNumber.calls (rd l0_0 qa) false _ A13.out).mono ?_); rintro e w' ⟨rfl, ⟨nd, rfl⟩⟩; (try first | exact ⟨rfl, _, World.drewN_drewN _ _ _⟩ | exact ⟨rfl, _, Eq.trans (World.drewN_drewN _ _ _) (congrArg (World.drewN _) (Nat.add_assoc _ _ _))⟩))); try go_wp2_with (first | (go_at_call 61; (with_reducible refine (impl_IsNumber.calls (rd l0_0 qa) false _ A13.out).mono ?_); rintro e w' ⟨rfl, ⟨nd, rfl⟩⟩; (try first | exact ⟨rfl, _, World.drewN_drewN _ _ _⟩ | exact ⟨rfl, _, Eq.trans (World.drewN_drewN _ _ _) (congrArg (World.drewN _) (Nat.add_assoc _ _ _))⟩))))
      go_ret
      exact ⟨by first | rfl | (simp [errW_none, errW_some] <;> rfl) | (simp [*, errW_none, errW_some] <;> rfl), bb_ HB⟩
     subst c14
     have H1 : (impl_IsAtom.l0 k2 l0_0 (l0_0.length : Int) (wrap64 (qa + 1)) l0_0 a0_1 a0_2) = some r := by rw [if_pos rfl] at H; exact H
     clear H
     have H := H1
     clear H1
     have H' := Aside0.mk H
     clear H
     have p107 : 0 ≤ (qa : Int) := of_decide_eq_true (by first | (with_reducible assumption) | assumption)
     have q107 : qa < (l0_0.length : Int) := of_decide_eq_true (by first | (with_reducible assumption) | assumption)
     obtain ⟨qI, e107, qb⟩ := Kd.at_int qg.out qa p107 q107
     cases e107
     replace qb := (HB.out.cell (World.block_lt_of_cell? w _ qb)).trans qb
     replace p107 := eq_true p107
     replace q107 := eq_true q107
     go_wp2_with (first | (go_at_call 61; (with_reducible refine (impl_IsNumber.calls (rd l0_0 qa) true _ A13.out).mono ?_); rintro e w' ⟨rfl, ⟨nd, rfl⟩⟩; (try first | exact ⟨rfl, _, World.drewN_drewN _ _ _⟩ | exact ⟨rfl, _, Eq.trans (World.drewN_drewN _ _ _) (congrArg (World.drewN _) (Nat.add_assoc _ _ _))⟩)))
     repeat (go_quiet (first | (go_at_call 61; (with_reducible refine (impl_IsNumber.calls (rd l0_0 qa) true _ A13.out).mono ?_); rintro e w' ⟨rfl, ⟨nd, rfl⟩⟩; (try first | exact ⟨rfl, _, World.drewN_drewN _ _ _⟩ | exact ⟨rfl, _, Eq.trans (World.drewN_drewN _ _ _) (congrArg (World.drewN _) (Nat.add_assoc _ _ _))⟩))); try go_wp2_with (first | (go_at_call 61; (with_reducible refine (impl_IsNumber.calls (rd l0_0 qa) true _ A13.out).mono ?_); rintro e w' ⟨rfl, ⟨nd, rfl⟩⟩; (try first | exact ⟨rfl, _, World.drewN_drewN _ _ _⟩ | exact ⟨rfl, _, Eq.trans (World.drewN_drewN _ _ _) (congrArg (World.drewN _) (Nat.add_assoc _ _ _))⟩))))
     go_roundg k2
     case measure => have := HJ1.out; have := HK2.out; omega
     case rel => exact ⟨(wrap64 (qa + 1)), (by first | rfl | (simp; done) | (simp [*]; done)), H', ⟨by have := HJ1.out; have := HK2.out; omega⟩, ⟨kf_ qc⟩, ⟨bb_ HB⟩⟩

-- NOT PRINTED: function 53 (strings_Builder_Len)

-- NOT PRINTED: function 111 (abi_NoEscape)

-- NOT PRINTED: function 94 (strings_Builder_copyCheck)

-- NOT PRINTED: function 54 (strings_Builder_WriteByte)

-- NOT PRINTED: function 55 (strings_Builder_WriteString)

/-! ### strconv_Itoa: function 95 -/
def ErrW (w : World) (n : String) : Prop := ∃ tp p, w.var? Tryd.prog n = some #[.iface tp p]
theorem errW_ {w W : World} {n : String} (h : ErrW w n) (hb : Below w.heap.size w W) : ErrW W n := by
 obtain ⟨tp, p, h⟩ := h
 refine ⟨tp, p, ?_⟩
 unfold World.var? at *
 cases hg : Tryd.prog.globalNamed n with
 | none => simp [hg] at h
 | some g =>
  simp only [hg, Option.bind_some] at h ⊢
  have hlt : g < w.heap.size := by
   rcases Nat.lt_or_ge g w.heap.size with h' | h'
   ·
    exact h'
   ·
    rw [Array.getElem?_eq_none h'] at h; simp at h
  rw [hb.block g hlt]
  exact h
class LaidW (w : World) : Prop where
 out : Lib.TabIs Tryd.prog w "internal/strconv.uint64pow10" .u64 Lib.pow10Tab
 syn : ErrW w "strconv.ErrSyntax"
 rng : ErrW w "strconv.ErrRange"
def strconv_Itoa.f (a0 : Int) : Option (ByteArray) := if -9223372036854775808 ≤ a0 ∧ a0 ≤ 9223372036854775807 then some ⟨(Lib.itoa a0).toArray⟩ else none
theorem strconv_Itoa.calls (a0 : Int) (r : ByteArray) (w : World) (hL : LaidW w) (h : strconv_Itoa.f a0 = some r) :
  Calls Tryd.prog 95 #[.int .i64 a0] w fun e w' => e = .returned (.string r) ∧ Below w.heap.size w w' := by
 unfold strconv_Itoa.f at h
 split at h
 rotate_left
 ·
  exact absurd h (by simp)
 rename_i hb
 obtain rfl := Option.some.inj h
 refine (Tryd.strconv_Itoa a0 hb.1 hb.2 w hL.out).mono ?_
 rintro e w' ⟨rfl, k, os, rfl⟩
 exact ⟨rfl, Lib.below_grow _ _ (Nat.le_refl _) k os⟩

theorem laid_ {w W W2 : World} (hL : Aside0 (LaidW w)) (h : Aside0 (Below w.heap.size w W)) [k : Lts w W W2] : LaidW W2 := ⟨Lib.tabBelow_of_tabIs hL.out.out W2 (bb_ h), errW_ hL.out.syn (bb_ h), errW_ hL.out.rng (bb_ h)⟩

/-! ### impl_FormatInt: function 56 -/
def impl_FormatInt.f (a0 : Int) : Option (ByteArray) := (strconv_Itoa.f a0).bind fun qa => (some qa)
set_option maxHeartbeats 8000000 in
set_option maxRecDepth 100000 in
theorem impl_FormatInt.calls (a0 : Int) (r : ByteArray) (w : World) (hL : LaidW w) (h : impl_FormatInt.f a0 = some r) :
  Calls Tryd.prog 56 #[.int .i64 a0] w fun e w' => e = .returned (.string r) ∧ Below w.heap.size w w' := by
 have HL_ := Aside0.mk hL
 clear hL
 have HB := Aside0.mk (Below.refl w.heap.size w)
 have H : ((strconv_Itoa.f a0).bind fun qa => (some qa)) = some r := h
 clear h
 replace H := Option.bind_eq_some_iff.mp H
 obtain ⟨qa, A20, H⟩ := H
 replace H : (some qa) = some r := H
 have A2 := Aside0.mk A20
 clear A20
 obtain rfl := Option.some.inj H
 go_enter Tryd.func56, Tryd.ntmps56
 go_wp2_with (first | ((with_reducible refine gate_callee (f := 95) rfl ?_); refine gL_ (some 4) Tryd.func95 #[.int .i64 a0] ?_; (with_reducible refine (strconv_Itoa.calls (hL := laid_ HL_ HB) a0 qa _ A2.out).mono ?_); rintro e w3 ⟨rfl, hb⟩; refine ⟨_, rfl, ?_⟩; replace HB := bS_ HB hb; clear hb))
 go_ret
 exact ⟨by first | rfl | (simp [errW_none, errW_some] <;> rfl) | (simp [*, errW_none, errW_some] <;> rfl), bb_ HB⟩

-- NOT PRINTED: function 57 (strings_Builder_String)

/-! ### impl_FormatAtom: function 14 -/
set_option maxHeartbeats 4000000 in
set_option maxRecDepth 100000 in
theorem Bld.used (b : Nat) (w : World) (h0 : w.cell? ⟨b, 0, none⟩ = some (.pointer (some ⟨b, 0, none⟩))) :
  Calls Tryd.prog 94 #[.pointer (some ⟨b, 0, none⟩)] w fun e w' => e = .returned (.tuple #[]) ∧ w' = w := by
 obtain ⟨j, hj, _⟩ := Option.map_eq_some_iff.1 (show (Tryd.prog.info? 87).map (·.size) = some 2 by kernel_rfl)
 have u1 := run_underlying Tryd.underlying85
 have u2 := run_underlying Tryd.underlying87
 go_enter Tryd.func94, Tryd.ntmps94
 go_wp2
 rw [Lib.run_neq_ptr_same w _ Tryd.underlying85 hj]
 go_wp2
 go_end0
 exact ⟨rfl, rfl⟩
set_option maxHeartbeats 4000000 in
set_option maxRecDepth 100000 in
theorem Bld.fresh (b : Nat) (w : World) (h0 : w.cell? ⟨b, 0, none⟩ = some (.pointer none)) (hsh : w.shape? b = some (87, 2)) (hfz : w.frozen? ⟨b, 0, none⟩ = false) :
  Calls Tryd.prog 94 #[.pointer (some ⟨b, 0, none⟩)] w fun e w' => e = .returned (.tuple #[]) ∧ w' = w.setCell ⟨b, 0, none⟩ (.pointer (some ⟨b, 0, none⟩)) := by
 obtain ⟨j, hj, hjs⟩ := Option.map_eq_some_iff.1 (show (Tryd.prog.info? 87).map (·.size) = some 2 by kernel_rfl)
 have u1 := run_underlying Tryd.underlying85
 have u2 := run_underlying Tryd.underlying87
 have u3 := run_underlying Tryd.underlying129
 go_enter Tryd.func94, Tryd.ntmps94
 go_wp2
 rw [Lib.run_to_unsafe w ⟨b, 0, none⟩ Tryd.underlying85 Tryd.underlying129 hj (by rw [hjs]; decide) hsh (Nat.zero_lt_succ 1)]
 simp only [Result.andThen]
 rw [Oper.upon_value]
 go_wp2
 rw [run_callFunc_extern Tryd.func111 (by kernel_rfl) (by kernel_rfl) (by kernel_rfl) (e := Extern.AbiNoEscape.same) (by kernel_rfl)]
 rw [Lib.run_noEscape]
 simp only [Result.andThen]
 rw [Oper.upon_value]
 go_wp2
 rw [Lib.run_from_unsafe w ⟨b, 0, none⟩ Tryd.underlying129 Tryd.underlying85 hj hsh (by kernel_rfl)]
 simp only [Result.andThen]
 rw [Oper.upon_value]
 go_wp2
 go_end0
 exact ⟨rfl, rfl⟩
set_option maxHeartbeats 4000000 in
set_option maxRecDepth 100000 in
theorem Bld.check (B b : Nat) (bs : List Value) (w : World) (h : Lib.IsBuilder 87 5 B b bs w) :
  Calls Tryd.prog 94 #[.pointer (some ⟨b, 0, none⟩)] w fun e w' => e = .returned (.tuple #[]) ∧ (Lib.BuilderAt 87 5 B b (.pointer (some ⟨b, 0, none⟩)) bs w' ∧ Below B w w') := by
 cases h with
 | inl h =>
  refine (Bld.fresh b w h.cell0 h.shape h.frozen0).mono ?_
  rintro e w' ⟨rfl, rfl⟩
  exact ⟨rfl, h.used _, (Below.refl B w).setCell (p := ⟨b, 0, none⟩) h.1 _⟩
 | inr h =>
  refine (Bld.used b w h.cell0).mono ?_
  rintro e w' ⟨rfl, rfl⟩
  exact ⟨rfl, h, Below.refl B _⟩
set_option maxHeartbeats 4000000 in
set_option maxRecDepth 100000 in
theorem Bld.here {B b : Nat} {p v : Value} {w : World} (h : w.heap[b]? = some (.cells #[p, v] 87 (0, 0))) : b < w.heap.size := (Array.getElem?_eq_some_iff.1 h).1
set_option maxHeartbeats 4000000 in
set_option maxRecDepth 100000 in
theorem Bld.writeByte (B b : Nat) (bs : List Value) (c : Int) (w : World) (h : Lib.IsBuilder 87 5 B b bs w) (hlen : bs.length + 1 ≤ 140737488355328) (hBw : B ≤ w.heap.size) :
  Calls Tryd.prog 54 #[.pointer (some ⟨b, 0, none⟩), .int .u8 c] w fun e w' => e = .returned .nilIface ∧ (Lib.IsBuilder 87 5 B b (bs ++ [.int .u8 c]) w' ∧ Below B w w') := by
 obtain ⟨i0, hi, hz0, hz1, hz2⟩ := info_parts (show (Tryd.prog.info? 5).map (fun i => (i.zero, i.size, i.bytes)) = some (some (.int .u8 0), 1, 1) by kernel_rfl)
 have u1 := run_underlying Tryd.underlying85
 have u2 := run_underlying Tryd.underlying87
 have u3 := run_underlying Tryd.underlying61
 go_enter Tryd.func54, Tryd.ntmps54
 go_wp2_with (go_at_call 94; refine (Bld.check B b bs _ h).mono ?_)
 rintro e w1 ⟨rfl, ⟨hB, v, hbk, hown, hne⟩, hb1⟩
 have hs1 := hb1.size
 have c0 : w1.cell? ⟨b, 0, none⟩ = some (.pointer (some ⟨b, 0, none⟩)) := by rw [Lib.cell_of_heap hbk]; rfl
 have c1 : w1.cell? ⟨b, 1, none⟩ = some v := by rw [Lib.cell_of_heap hbk]; rfl
 go_wp2_with (at_builtin; refine wpList_append_own _ rfl _ _ 61 rfl B 5 i0 (.int .u8 0) 1 1 Tryd.underlying61 hi hz0 hz1 hz2 rfl (by decide) _ _ _ rfl (hown.alloc _) ⟨w1.heap.size, 0, none⟩ 1 1 [.int .u8 c] rfl rfl ?c1 ?c2 ?c3 ?c4 ?c5 ?_)
 case c1 =>
  intro j u hj
  match j, hj with
  | 0, hj => simp at hj; subst hj; simp [Addr.add]
 case c2 => intro u hu; simp at hu; subst hu; rfl
 case c3 => unfold maxLen; omega
 case c4 => omega
 case c5 => simp; omega
 intro v' w2 hown' hgrow _
 have hlt : b < w1.heap.size := Bld.here (B := B) hbk
 have hb2 : w2.heap[b]? = some (.cells #[.pointer (some ⟨b, 0, none⟩), v] 87 (0, 0)) := by
  rw [hgrow.block b (by simp; omega) (fun e => hne e.symm), Lib.alloc_old w1 _ b hlt]
  exact hbk
 have d0 : w2.cell? ⟨b, 0, none⟩ = some (.pointer (some ⟨b, 0, none⟩)) := by rw [Lib.cell_of_heap hb2]; rfl
 have d1 : w2.cell? ⟨b, 1, none⟩ = some v := by rw [Lib.cell_of_heap hb2]; rfl
 have f1 : w2.frozen? ⟨b, 1, none⟩ = false := Lib.frozen_of_heap hb2 1
 obtain ⟨g, cap, rfl⟩ : ∃ g cap, v' = .slice (some ⟨g, 0, none⟩) (bs.length + 1) cap := by
  rcases hown'.2 with ⟨_, h0⟩ | ⟨g, cap, cur, hv, _⟩
  ·
   omega
  ·
   exact ⟨g, cap, hv⟩
 go_wp2
 go_ret
 refine ⟨rfl, .inr ?_, ?_⟩
 ·
  exact Lib.BuilderAt.put (T := 87) (e := 5) hB hb2 (bs' := bs ++ [.int .u8 c]) (by simpa using hown') (by decide)
 exact ((hb1.alloc (by omega) _).grown hgrow (by simp; omega) (fun k hk => (hown.lt k hk).1)).setCell (p := ⟨b, 1, none⟩) hB _
set_option maxHeartbeats 4000000 in
set_option maxRecDepth 100000 in
theorem Bld.writeString (B b : Nat) (bs : List Value) (s : ByteArray) (w : World) (h : Lib.IsBuilder 87 5 B b bs w) (hlen : bs.length + s.size ≤ 140737488355328) (hBw : B ≤ w.heap.size) :
  Calls Tryd.prog 55 #[.pointer (some ⟨b, 0, none⟩), .string s] w fun e w' => e = .returned (.tuple #[.int .i64 s.size, .nilIface]) ∧ (Lib.IsBuilder 87 5 B b (bs ++ Lib.strCells s) w' ∧ Below B w w') := by
 obtain ⟨i0, hi, hz0, hz1, hz2⟩ := info_parts (show (Tryd.prog.info? 5).map (fun i => (i.zero, i.size, i.bytes)) = some (some (.int .u8 0), 1, 1) by kernel_rfl)
 have u1 := run_underlying Tryd.underlying85
 have u2 := run_underlying Tryd.underlying87
 have u3 := run_underlying Tryd.underlying61
 go_enter Tryd.func55, Tryd.ntmps55
 go_wp2_with (go_at_call 94; refine (Bld.check B b bs _ h).mono ?_)
 rintro e w1 ⟨rfl, ⟨hB, v, hbk, hown, hne⟩, hb1⟩
 have hs1 := hb1.size
 have c0 : w1.cell? ⟨b, 0, none⟩ = some (.pointer (some ⟨b, 0, none⟩)) := by rw [Lib.cell_of_heap hbk]; rfl
 have c1 : w1.cell? ⟨b, 1, none⟩ = some v := by rw [Lib.cell_of_heap hbk]; rfl
 go_wp2_with (at_builtin; refine Lib.wpList_append_own_string _ rfl _ _ 61 9 rfl B 5 i0 Tryd.underlying61 Tryd.underlying9 hi hz0 hz1 hz2 _ _ _ rfl hown s rfl ?c3 ?c4 ?c5 ?_)
 case c3 => unfold maxLen; omega
 case c4 => omega
 case c5 => omega
 intro v' w2 hown' hgrow _
 have hlt : b < w1.heap.size := Bld.here (B := B) hbk
 have hb2 : w2.heap[b]? = some (.cells #[.pointer (some ⟨b, 0, none⟩), v] 87 (0, 0)) := by
  rw [hgrow.block b hlt (fun e => hne e.symm)]
  exact hbk
 have d0 : w2.cell? ⟨b, 0, none⟩ = some (.pointer (some ⟨b, 0, none⟩)) := by rw [Lib.cell_of_heap hb2]; rfl
 have d1 : w2.cell? ⟨b, 1, none⟩ = some v := by rw [Lib.cell_of_heap hb2]; rfl
 have f1 : w2.frozen? ⟨b, 1, none⟩ = false := Lib.frozen_of_heap hb2 1
 obtain ⟨ao, n', cap, rfl⟩ : ∃ ao n' cap, v' = .slice ao n' cap := by
  rcases hown'.2 with ⟨hv, _⟩ | ⟨g, cap, cur, hv, _⟩
  ·
   exact ⟨_, _, _, hv⟩
  ·
   exact ⟨_, _, _, hv⟩
 go_wp2
 go_ret2
 refine ⟨rfl, .inr ?_, ?_⟩
 rotate_left
 ·
  exact (hb1.grown hgrow (by omega) (fun k hk => (hown.lt k hk).1)).setCell (p := ⟨b, 1, none⟩) hB _
 exact Lib.BuilderAt.put (T := 87) (e := 5) hB hb2 (bs' := bs ++ Lib.strCells s) (by simpa [Lib.strCells_length] using hown') (by decide)
/-- The builder in block b (one of the blocks from B on) holds these bytes. -/
def Bl (B b : Nat) (acc : List UInt8) (w : World) : Prop := Lib.IsBuilder 87 5 B b (Lib.byteCells acc) w
theorem Bl.below {B b : Nat} {acc : List UInt8} {W W' : World} (h : Bl B b acc W) (hb : Below W.heap.size W W') : Bl B b acc W' := by
 have k : ∀ p, Lib.BuilderAt 87 5 B b p (Lib.byteCells acc) W → Lib.BuilderAt 87 5 B b p (Lib.byteCells acc) W' := by
  intro p h
  have hlt := h.lt
  obtain ⟨hB, v, hv, hown, hne⟩ := h
  exact ⟨hB, v, (hb.block b hlt).trans hv, hown.kept (row := none) ⟨hb.os, hb.tape, hb.output, hb.size, fun k hk _ => hb.block k hk⟩ (Classical.em _), hne⟩
 exact Or.imp (k _) (k _) h
theorem Bl.new (w : World) : Bl w.heap.size w.heap.size [] (w.alloc (.cells #[.pointer none, .slice none 0 0] 87)) := Lib.fresh_isBuilder _ _ w
theorem Bl.len {B b : Nat} {acc : List UInt8} {w : World} (h : Bl B b acc w) :
  Calls Tryd.prog 53 #[.pointer (some ⟨b, 0, none⟩)] w fun e w' => e = .returned (.int .i64 (acc.length : Int)) ∧ w' = w := by
 have := Tryd.Builder_Len B b _ w h
 rwa [Lib.byteCells_length] at this
theorem Bl.byte {B b : Nat} {acc : List UInt8} {w : World} (c : UInt8) (h : Bl B b acc w) (hl : acc.length ≤ 1000000) (hB : B ≤ w.heap.size) :
  Calls Tryd.prog 54 #[.pointer (some ⟨b, 0, none⟩), .int .u8 (c.toNat : Int)] w fun e w' => e = .returned .nilIface ∧ Bl B b (acc ++ [c]) w' ∧ Below B w w' := by
 refine (Bld.writeByte B b _ (c.toNat : Int) w h (by rw [Lib.byteCells_length]; omega) hB).mono ?_
 rintro e w' ⟨rfl, h1, h2⟩
 refine ⟨rfl, ?_, h2⟩
 unfold Bl
 rw [Lib.byteCells_append]
 exact h1
theorem Bl.byteI {B b : Nat} {acc : List UInt8} {w : World} (x : Int) (c : UInt8) (hx : (c.toNat : Int) = x) (h : Bl B b acc w) (hl : acc.length ≤ 1000000) (hB : B ≤ w.heap.size) :
  Calls Tryd.prog 54 #[.pointer (some ⟨b, 0, none⟩), .int .u8 x] w fun e w' => e = .returned .nilIface ∧ Bl B b (acc ++ [c]) w' ∧ Below B w w' := by
 subst hx
 exact Bl.byte c h hl hB
theorem Bl.str {B b : Nat} {acc : List UInt8} {w : World} (s : ByteArray) (h : Bl B b acc w) (hl : acc.length ≤ 1000000) (hs : s.size ≤ 1000000) (hB : B ≤ w.heap.size) :
  Calls Tryd.prog 55 #[.pointer (some ⟨b, 0, none⟩), .string s] w fun e w' => e = .returned (.tuple #[.int .i64 s.size, .nilIface]) ∧ Bl B b (acc ++ s.data.toList) w' ∧ Below B w w' := by
 refine (Bld.writeString B b _ s w h (by rw [Lib.byteCells_length]; omega) hB).mono ?_
 rintro e w' ⟨rfl, h1, h2⟩
 refine ⟨rfl, ?_, h2⟩
 unfold Bl
 rw [Lib.byteCells_append]
 exact h1
theorem Bl.out {B b : Nat} {acc : List UInt8} {w : World} (h : Bl B b acc w) (hB : B ≤ w.heap.size) :
  Calls Tryd.prog 57 #[.pointer (some ⟨b, 0, none⟩)] w fun e w' => e = .returned (.string ⟨acc.toArray⟩) ∧ Below B w w' := by
 refine (Tryd.Builder_String_any B b acc w h hB).mono ?_
 rintro e w' h
 exact h

def FA.nm (i : Nat) : UInt8 := if i = 0 then 120 else if i = 1 then 121 else if i = 2 then 122 else 116
def FA.plus (acc : List UInt8) (n : Int) : List UInt8 := if 0 < n ∧ 0 < acc.length then acc ++ [43] else acc
def FA.tail (acc : List UInt8) (s : Bool) : Option ByteArray := if acc.length ≤ 900000 then some ⟨(acc ++ (if s then [60, 48] else [60, 61, 48])).toArray⟩ else none
def FA.fin (acc : List UInt8) (c : Int) (s : Bool) : Option ByteArray := if c = 0 ∧ 0 < acc.length then FA.tail acc s else (impl_FormatInt.f c).bind fun t => if acc.length ≤ 800000 ∧ t.size ≤ 100 then FA.tail (FA.plus acc c ++ t.data.toList) s else none
def FA.step (acc : List UInt8) (i : Nat) (n : Int) : Option (List UInt8) := if n = 0 then some acc else if acc.length ≤ 700000 then (if n = 1 then some (FA.plus acc n ++ [FA.nm i]) else if n = -1 then some (FA.plus acc n ++ [45] ++ [FA.nm i]) else (impl_FormatInt.f n).bind fun t => if t.size ≤ 100 then some (FA.plus acc n ++ t.data.toList ++ [FA.nm i]) else none) else none
def FA.go : List Int → Nat → List UInt8 → Option (List UInt8)
 | [], _, acc => some acc
 | n :: ns, i, acc => (FA.step acc i n).bind fun a => FA.go ns (i + 1) a
def impl_FormatAtom.f (k : Nat) (l0_0 : List Int) (a0_1 : Int) (a0_2 : Bool) : Option (ByteArray) := (impl_IsAtom.f k l0_0 a0_1 a0_2).bind fun t => if t = true then (if l0_0.length ≤ 4 then (FA.go l0_0 0 []).bind fun acc => FA.fin acc a0_1 a0_2 else none) else some ⟨#[]⟩
theorem impl_FormatAtom.mono : ∀ l0_0 a0_1 a0_2 k, LeO (impl_FormatAtom.f k l0_0 a0_1 a0_2) (impl_FormatAtom.f (k + 1) l0_0 a0_1 a0_2) := fun l c s k => LeO.bind (impl_IsAtom.mono l c s k) (fun _ => LeO.refl _)
theorem FA.nm_get : ∀ (i : Nat) (h : i < 4), (⟨#[120, 121, 122, 116]⟩ : ByteArray)[i]'h = FA.nm i
 | 0, _ => rfl | 1, _ => rfl | 2, _ => rfl | 3, _ => rfl
 | n + 4, h => by omega
theorem FA.plus_len (acc : List UInt8) (n : Int) : (FA.plus acc n).length ≤ acc.length + 1 := by unfold FA.plus; split <;> simp
theorem FA.cell {W : World} {g : Nat} {A : Option Addr} {n c : Nat} {x : Int} {s : Bool} (h : W.heap[g]? = some (.cells #[.slice A n c, .int .i64 x, .bool s] 27 (0, 0))) :
  W.cell? ⟨g, 0, none⟩ = some (.slice A n c) ∧ W.cell? ⟨g, 1, none⟩ = some (.int .i64 x) ∧ W.cell? ⟨g, 2, none⟩ = some (.bool s) := by
 refine ⟨?_, ?_, ?_⟩ <;> (rw [Lib.cell_of_heap h]; rfl)
/-- What is carried: the box of the parameter, the builder, the frame. -/
structure FA.St (w : World) (g B : Nat) (A : Option Addr) (n c0 : Nat) (x : Int) (s : Bool) (acc : List UInt8) (W : World) : Prop where
 gB : g < B
 wg : w.heap.size ≤ g
 box : W.heap[g]? = some (.cells #[.slice A n c0, .int .i64 x, .bool s] 27 (0, 0))
 bl : Bl B B acc W
 lt : B < W.heap.size
 bw : Below w.heap.size w W
theorem FA.St.on {w : World} {g B : Nat} {A : Option Addr} {n c0 : Nat} {x : Int} {s : Bool} {acc acc' : List UInt8} {W W' : World} (h : FA.St w g B A n c0 x s acc W) (hb : Bl B B acc' W') (hw : Below B W W') : FA.St w g B A n c0 x s acc' W' :=
 ⟨h.gB, h.wg, (hw.block _ h.gB).trans h.box, hb, Nat.lt_of_lt_of_le h.lt hw.size, h.bw.trans (hw.mono (Nat.le_trans h.wg (Nat.le_of_lt h.gB)))⟩
theorem FA.St.grown {w : World} {g B : Nat} {A : Option Addr} {n c0 : Nat} {x : Int} {s : Bool} {acc : List UInt8} {W W' : World} (h : FA.St w g B A n c0 x s acc W) (hw : Below W.heap.size W W') : FA.St w g B A n c0 x s acc W' :=
 h.on (h.bl.below hw) (hw.mono (Nat.le_of_lt h.lt))
set_option maxHeartbeats 8000000 in
set_option maxRecDepth 100000 in
theorem impl_FormatAtom.calls (k : Nat) (A0_0 : Option Addr) (c0_0 : Nat) (l0_0 : List Int) (a0_1 : Int) (a0_2 : Bool) (r : ByteArray) (w : World) (hL : LaidW w) (hr0_0 : Kd.C (Kd.int .i64) w A0_0 l0_0.length l0_0) (hc0_0 : l0_0.length ≤ c0_0) (h : impl_FormatAtom.f k l0_0 a0_1 a0_2 = some r) :
  Calls Tryd.prog 14 #[.agg #[.slice A0_0 l0_0.length c0_0, .int .i64 a0_1, .bool a0_2]] w fun e w' => e = .returned (.string r) ∧ Below w.heap.size w w' := by
 have HL_ := Aside0.mk hL
 have HR0 := Aside0.mk hr0_0
 have HC0 := Aside0.mk hc0_0
 clear hL hr0_0 hc0_0
 have hu27 := Tryd.underlying27
 unfold impl_FormatAtom.f at h
 obtain ⟨t, hA, h⟩ := Option.bind_eq_some_iff.mp h
 have HA := Aside0.mk hA
 have H := Aside0.mk h
 clear hA h
 cases t with
 | false =>
  obtain rfl := Option.some.inj H.out
  go_enter Tryd.func14, Tryd.ntmps14
  go_wp2_with (first | ((with_reducible refine gate_dst (N := 1) rfl ?_); refine bx_ (cs := #[.slice A0_0 l0_0.length c0_0, .int .i64 a0_1, .bool a0_2]) (t := 27) ?_; intro g hg w1 hbox hb; have HX := Aside0.mk hbox; have HG := Aside0.mk hg; have HB := Aside0.mk hb; obtain ⟨e0, e1, e2⟩ := FA.cell hbox; clear hbox hg hb) | (go_at_call 52; refine (impl_IsAtom.calls k A0_0 c0_0 l0_0 a0_1 a0_2 _ _ (Kd.C_below HR0.out HB.out) HC0.out HA.out).mono ?_; rintro e w2 ⟨rfl, hb2⟩; replace HX := Aside0.mk (blk_below HX.out hb2); replace HB := Aside0.mk (below_step HB.out hb2); clear hb2 e0 e1 e2; have hgw := (Array.getElem?_eq_some_iff.1 HX.out).1; have e0 := fun o => (FA.cell ((Lib.alloc_old w2 o g hgw).trans HX.out)).1))
  go_ret
  exact ⟨rfl, HB.out⟩
 | true =>
  have H1 := H.out
  clear H
  rw [if_pos rfl] at H1
  by_cases h4 : l0_0.length ≤ 4
  rotate_left
  ·
   rw [if_neg h4] at H1; exact absurd H1 (by simp)
  rw [if_pos h4] at H1
  obtain ⟨fa, hgo, hfin⟩ := Option.bind_eq_some_iff.mp H1
  have HGO := Aside0.mk hgo
  have HFIN := Aside0.mk hfin
  have H4 := Aside0.mk h4
  clear H1 hgo hfin h4
  go_enter Tryd.func14, Tryd.ntmps14
  go_wp2_with (first | ((with_reducible refine gate_dst (N := 1) rfl ?_); refine bx_ (cs := #[.slice A0_0 l0_0.length c0_0, .int .i64 a0_1, .bool a0_2]) (t := 27) ?_; intro g hg w1 hbox hb; have HX := Aside0.mk hbox; have HG := Aside0.mk hg; have HB := Aside0.mk hb; obtain ⟨e0, e1, e2⟩ := FA.cell hbox; clear hbox hg hb) | (go_at_call 52; refine (impl_IsAtom.calls k A0_0 c0_0 l0_0 a0_1 a0_2 _ _ (Kd.C_below HR0.out HB.out) HC0.out HA.out).mono ?_; rintro e w2 ⟨rfl, hb2⟩; replace HX := Aside0.mk (blk_below HX.out hb2); replace HB := Aside0.mk (below_step HB.out hb2); clear hb2 e0 e1 e2; have hgw := (Array.getElem?_eq_some_iff.1 HX.out).1; have e0 := fun o => (FA.cell ((Lib.alloc_old w2 o g hgw).trans HX.out)).1))
  have HS : FA.St w g w2.heap.size A0_0 l0_0.length c0_0 a0_1 a0_2 [] (w2.alloc (.cells #[.pointer none, .slice none 0 0] 87)) := ⟨hgw, by rw [HG.out]; exact Nat.le_refl _, (Lib.alloc_old w2 _ g hgw).trans HX.out, Bl.new w2, by simp, below_alloc HB.out _⟩
  clear e0 hgw HX HG HB
  generalize w2.heap.size = B at HS ⊢
  generalize w2.alloc (.cells #[.pointer none, .slice none 0 0] 87) = W at HS ⊢
  obtain ⟨K, hK⟩ : ∃ K, K = l0_0.length + 1 := ⟨_, rfl⟩
  have HK0 := Aside0.mk hK
  clear hK
  go_loopg [12] K (fun kq v12 wc => ∃ (acc : List UInt8) (i : Nat), v12 = .int .i64 (i : Int) ∧ Aside0 (FA.go (l0_0.drop i) i acc = some fa) ∧ Aside0 (i + kq = l0_0.length + 1) ∧ Aside0 (i ≤ l0_0.length) ∧ FA.St w g B A0_0 l0_0.length c0_0 a0_1 a0_2 acc wc)
  case atStart => exact ⟨[], 0, rfl, by rw [List.drop_zero]; exact HGO, ⟨by have := HK0.out; omega⟩, ⟨Nat.zero_le _⟩, HS⟩
  case round =>
   clear HS HGO
   obtain ⟨acc, i, rfl, HGO, HK1, HI, HS⟩ := hrel
   cases gk with
   | zero => have := HK1.out; have := HI.out; omega
   | succ k1 =>
   obtain ⟨e0, e1, e2⟩ := FA.cell HS.box
   by_cases hi : i < l0_0.length
   ·
    have hlt : decide ((i : Int) < (l0_0.length : Int)) = true := by simpa using hi
    obtain ⟨qf, e242, qd⟩ := Kd.at_int (Kd.C_below HR0.out HS.bw) (i : Int) (by omega) (by omega)
    cases e242
    rw [Int.toNat_natCast] at qd
    have hq := List.drop_eq_getElem_cons hi
    have hrd : rd l0_0 (i : Int) = l0_0[i] := by simp [rd, List.getD_eq_getElem?_getD, hi]
    have HG1 := HGO.out
    rw [hq, FA.go, ← hrd] at HG1
    clear hq HGO
    generalize rd l0_0 (i : Int) = n at qd HG1 hrd
    clear hrd
    obtain ⟨a1, hst, hgo⟩ := Option.bind_eq_some_iff.mp HG1
    have HGO := Aside0.mk hgo
    clear HG1 hgo
    have h4 := H4.out
    have hwr : wrap64 ((i : Int) + 1) = ((i + 1 : Nat) : Int) := by unfold wrap64; omega
    have i0 : (0 ≤ (i : Int)) = True := eq_true (by omega)
    have i4 : ((i : Int) < 4) = True := eq_true (by omega)
    unfold FA.step at hst
    by_cases c0 : n = 0
    ·
     rw [if_pos c0] at hst
     obtain rfl := Option.some.inj hst
     have c0b : (n == 0) = true := beq_iff_eq.mpr c0
     clear c0 hst
     go_wp2
     go_roundg k1
     case measure => have := HK1.out; omega
     case rel => exact ⟨acc, i + 1, by first | rfl | (simp [hwr]; done), HGO, ⟨by have := HK1.out; omega⟩, ⟨by omega⟩, HS⟩
    rw [if_neg c0] at hst
    have c0b : (n == 0) = false := beq_eq_false_iff_ne.mpr c0
    by_cases cl : acc.length ≤ 700000
    rotate_left
    ·
     rw [if_neg cl] at hst; exact absurd hst (by simp)
    rw [if_pos cl] at hst
    by_cases c1 : n = 1
    ·
     rw [if_pos c1] at hst
     have c1b : (n == 1) = true := beq_iff_eq.mpr c1
     have cg : decide (0 < n) = true := decide_eq_true (by omega)
     by_cases ca : 0 < acc.length
     rotate_left
     ·
      have cab : decide ((0 : Int) < (acc.length : Int)) = false := decide_eq_false (by omega)
      have cac : decide (0 < acc.length) = false := decide_eq_false ca
      have ep : FA.plus acc n = acc := by unfold FA.plus; rw [if_neg (by omega)]
      go_wp2_with (first | (go_at_call 53; refine (Bl.len HS.bl).mono ?_; rintro e W1 ⟨rfl, rfl⟩) | (go_at_call 54; refine (Bl.byteI _ _ rfl HS.bl (by first | omega | (simp; omega)) (Nat.le_of_lt HS.lt)).mono ?_; rintro e W1 ⟨rfl, hb_, hw_⟩; replace HS := HS.on hb_ hw_; clear hb_ hw_ e0 e1 e2; obtain ⟨e0, e1, e2⟩ := FA.cell HS.box))
      go_roundg k1
      case measure => have := HK1.out; omega
      case rel =>
       obtain rfl := Option.some.inj hst
       refine ⟨_, i + 1, by first | rfl | simp, HGO, ⟨by have := HK1.out; omega⟩, ⟨by omega⟩, ?_⟩
       rw [ep, ← FA.nm_get i (by omega)]
       exact HS
     have cab : decide ((0 : Int) < (acc.length : Int)) = true := decide_eq_true (by omega)
     have cac : decide (0 < acc.length) = true := decide_eq_true ca
     have ep : FA.plus acc n = acc ++ [43] := by unfold FA.plus; rw [if_pos ⟨by omega, ca⟩]
     go_wp2_with (first | (go_at_call 53; refine (Bl.len HS.bl).mono ?_; rintro e W1 ⟨rfl, rfl⟩) | (go_at_call 54; refine (Bl.byteI _ 43 (by rfl) HS.bl (by first | omega | (simp; omega)) (Nat.le_of_lt HS.lt)).mono ?_; rintro e W1 ⟨rfl, hb_, hw_⟩; replace HS := HS.on hb_ hw_; clear hb_ hw_ e0 e1 e2; obtain ⟨e0, e1, e2⟩ := FA.cell HS.box) | (go_at_call 54; refine (Bl.byteI _ _ rfl HS.bl (by first | omega | (simp; omega)) (Nat.le_of_lt HS.lt)).mono ?_; rintro e W1 ⟨rfl, hb_, hw_⟩; replace HS := HS.on hb_ hw_; clear hb_ hw_ e0 e1 e2; obtain ⟨e0, e1, e2⟩ := FA.cell HS.box))
     go_roundg k1
     case measure => have := HK1.out; omega
     case rel =>
      obtain rfl := Option.some.inj hst
      refine ⟨_, i + 1, by first | rfl | simp, HGO, ⟨by have := HK1.out; omega⟩, ⟨by omega⟩, ?_⟩
      rw [ep, ← FA.nm_get i (by omega)]
      exact HS
    rw [if_neg c1] at hst
    have c1b : (n == 1) = false := beq_eq_false_iff_ne.mpr c1
    by_cases c2 : n = -1
    ·
     rw [if_pos c2] at hst
     have c2b : (n == -1) = true := beq_iff_eq.mpr c2
     have cg : decide (0 < n) = false := decide_eq_false (by omega)
     have ep : FA.plus acc n = acc := by unfold FA.plus; rw [if_neg (by omega)]
     go_wp2_with (first | (go_at_call 54; refine (Bl.byteI _ 45 (by rfl) HS.bl (by first | omega | (simp; omega)) (Nat.le_of_lt HS.lt)).mono ?_; rintro e W1 ⟨rfl, hb_, hw_⟩; replace HS := HS.on hb_ hw_; clear hb_ hw_ e0 e1 e2; obtain ⟨e0, e1, e2⟩ := FA.cell HS.box) | (go_at_call 54; refine (Bl.byteI _ _ rfl HS.bl (by first | omega | (simp; omega)) (Nat.le_of_lt HS.lt)).mono ?_; rintro e W1 ⟨rfl, hb_, hw_⟩; replace HS := HS.on hb_ hw_; clear hb_ hw_ e0 e1 e2; obtain ⟨e0, e1, e2⟩ := FA.cell HS.box))
     go_roundg k1
     case measure => have := HK1.out; omega
     case rel =>
      obtain rfl := Option.some.inj hst
      refine ⟨_, i + 1, by first | rfl | simp, HGO, ⟨by have := HK1.out; omega⟩, ⟨by omega⟩, ?_⟩
      rw [ep, ← FA.nm_get i (by omega)]
      exact HS
    rw [if_neg c2] at hst
    have c2b : (n == -1) = false := beq_eq_false_iff_ne.mpr c2
    obtain ⟨tt, hfi, hst⟩ := Option.bind_eq_some_iff.mp hst
    have HFI := Aside0.mk hfi
    clear hfi
    by_cases ct : tt.size ≤ 100
    rotate_left
    ·
     rw [if_neg ct] at hst; exact absurd hst (by simp)
    rw [if_pos ct] at hst
    by_cases cp : 0 < n
    rotate_left
    ·
     have cg : decide (0 < n) = false := decide_eq_false (by omega)
     have ep : FA.plus acc n = acc := by unfold FA.plus; rw [if_neg (by omega)]
     go_wp2_with (first | (go_at_call 56; refine (impl_FormatInt.calls n tt _ (laid_ HL_ (Aside0.mk HS.bw)) HFI.out).mono ?_; rintro e W1 ⟨rfl, hw_⟩; replace HS := HS.grown hw_; clear hw_ e0 e1 e2; obtain ⟨e0, e1, e2⟩ := FA.cell HS.box) | (go_at_call 55; refine (Bl.str tt HS.bl (by first | omega | (simp; omega)) (by first | omega | decide) (Nat.le_of_lt HS.lt)).mono ?_; rintro e W1 ⟨rfl, hb_, hw_⟩; replace HS := HS.on hb_ hw_; clear hb_ hw_ e0 e1 e2; obtain ⟨e0, e1, e2⟩ := FA.cell HS.box) | (go_at_call 54; refine (Bl.byteI _ _ rfl HS.bl (by first | omega | (simp; omega)) (Nat.le_of_lt HS.lt)).mono ?_; rintro e W1 ⟨rfl, hb_, hw_⟩; replace HS := HS.on hb_ hw_; clear hb_ hw_ e0 e1 e2; obtain ⟨e0, e1, e2⟩ := FA.cell HS.box))
     go_roundg k1
     case measure => have := HK1.out; omega
     case rel =>
      obtain rfl := Option.some.inj hst
      refine ⟨_, i + 1, by first | rfl | simp, HGO, ⟨by have := HK1.out; omega⟩, ⟨by omega⟩, ?_⟩
      rw [ep, ← FA.nm_get i (by omega)]
      exact HS
    have cg : decide (0 < n) = true := decide_eq_true (by omega)
    by_cases ca : 0 < acc.length
    rotate_left
    ·
     have cab : decide ((0 : Int) < (acc.length : Int)) = false := decide_eq_false (by omega)
     have cac : decide (0 < acc.length) = false := decide_eq_false ca
     have ep : FA.plus acc n = acc := by unfold FA.plus; rw [if_neg (by omega)]
     go_wp2_with (first | (go_at_call 53; refine (Bl.len HS.bl).mono ?_; rintro e W1 ⟨rfl, rfl⟩) | (go_at_call 56; refine (impl_FormatInt.calls n tt _ (laid_ HL_ (Aside0.mk HS.bw)) HFI.out).mono ?_; rintro e W1 ⟨rfl, hw_⟩; replace HS := HS.grown hw_; clear hw_ e0 e1 e2; obtain ⟨e0, e1, e2⟩ := FA.cell HS.box) | (go_at_call 55; refine (Bl.str tt HS.bl (by first | omega | (simp; omega)) (by first | omega | decide) (Nat.le_of_lt HS.lt)).mono ?_; rintro e W1 ⟨rfl, hb_, hw_⟩; replace HS := HS.on hb_ hw_; clear hb_ hw_ e0 e1 e2; obtain ⟨e0, e1, e2⟩ := FA.cell HS.box) | (go_at_call 54; refine (Bl.byteI _ _ rfl HS.bl (by first | omega | (simp; omega)) (Nat.le_of_lt HS.lt)).mono ?_; rintro e W1 ⟨rfl, hb_, hw_⟩; replace HS := HS.on hb_ hw_; clear hb_ hw_ e0 e1 e2; obtain ⟨e0, e1, e2⟩ := FA.cell HS.box))
     go_roundg k1
     case measure => have := HK1.out; omega
     case rel =>
      obtain rfl := Option.some.inj hst
      refine ⟨_, i + 1, by first | rfl | simp, HGO, ⟨by have := HK1.out; omega⟩, ⟨by omega⟩, ?_⟩
      rw [ep, ← FA.nm_get i (by omega)]
      exact HS
    have cab : decide ((0 : Int) < (acc.length : Int)) = true := decide_eq_true (by omega)
    have cac : decide (0 < acc.length) = true := decide_eq_true ca
    have ep : FA.plus acc n = acc ++ [43] := by unfold FA.plus; rw [if_pos ⟨by omega, ca⟩]
    go_wp2_with (first | (go_at_call 53; refine (Bl.len HS.bl).mono ?_; rintro e W1 ⟨rfl, rfl⟩) | (go_at_call 54; refine (Bl.byteI _ 43 (by rfl) HS.bl (by first | omega | (simp; omega)) (Nat.le_of_lt HS.lt)).mono ?_; rintro e W1 ⟨rfl, hb_, hw_⟩; replace HS := HS.on hb_ hw_; clear hb_ hw_ e0 e1 e2; obtain ⟨e0, e1, e2⟩ := FA.cell HS.box) | (go_at_call 56; refine (impl_FormatInt.calls n tt _ (laid_ HL_ (Aside0.mk HS.bw)) HFI.out).mono ?_; rintro e W1 ⟨rfl, hw_⟩; replace HS := HS.grown hw_; clear hw_ e0 e1 e2; obtain ⟨e0, e1, e2⟩ := FA.cell HS.box) | (go_at_call 55; refine (Bl.str tt HS.bl (by first | omega | (simp; omega)) (by first | omega | decide) (Nat.le_of_lt HS.lt)).mono ?_; rintro e W1 ⟨rfl, hb_, hw_⟩; replace HS := HS.on hb_ hw_; clear hb_ hw_ e0 e1 e2; obtain ⟨e0, e1, e2⟩ := FA.cell HS.box) | (go_at_call 54; refine (Bl.byteI _ _ rfl HS.bl (by first | omega | (simp; omega)) (Nat.le_of_lt HS.lt)).mono ?_; rintro e W1 ⟨rfl, hb_, hw_⟩; replace HS := HS.on hb_ hw_; clear hb_ hw_ e0 e1 e2; obtain ⟨e0, e1, e2⟩ := FA.cell HS.box))
    go_roundg k1
    case measure => have := HK1.out; omega
    case rel =>
     obtain rfl := Option.some.inj hst
     refine ⟨_, i + 1, by first | rfl | simp, HGO, ⟨by have := HK1.out; omega⟩, ⟨by omega⟩, ?_⟩
     rw [ep, ← FA.nm_get i (by omega)]
     exact HS
   have hie : i = l0_0.length := by have := HI.out; omega
   have hlt : decide ((i : Int) < (l0_0.length : Int)) = false := by simpa using hi
   have HG1 := HGO.out
   rw [List.drop_eq_nil_of_le (by omega), FA.go] at HG1
   obtain rfl : acc = fa := Option.some.inj HG1
   have hf := HFIN.out
   clear HG1 HGO HFIN hi
   unfold FA.fin at hf
   by_cases c0 : a0_1 = 0 ∧ 0 < acc.length
   ·
    rw [if_pos c0] at hf
    obtain ⟨rfl, ca⟩ := c0
    have cab : ((acc.length : Int) == 0) = false := beq_eq_false_iff_ne.mpr (by omega)
    unfold FA.tail at hf
    split at hf
    case isFalse => exact absurd hf (by simp)
    case isTrue hlen =>
    obtain rfl := Option.some.inj hf
    cases a0_2
    rotate_left
    ·
     go_wp2_with (first | (go_at_call 53; refine (Bl.len HS.bl).mono ?_; rintro e W1 ⟨rfl, rfl⟩) | (go_at_call 55; refine (Bl.str _ HS.bl (by first | omega | (simp; omega)) (by first | omega | decide) (Nat.le_of_lt HS.lt)).mono ?_; rintro e W1 ⟨rfl, hb_, hw_⟩; replace HS := HS.on hb_ hw_; clear hb_ hw_ e0 e1 e2; obtain ⟨e0, e1, e2⟩ := FA.cell HS.box) | (go_at_call 57; refine (Bl.out HS.bl (Nat.le_of_lt HS.lt)).mono ?_; rintro e W1 ⟨rfl, HO⟩))
     go_ret
     exact ⟨by first | rfl | (simp; done) | (simp; rfl), HS.bw.trans (HO.mono (Nat.le_trans HS.wg (Nat.le_of_lt HS.gB)))⟩
    go_wp2_with (first | (go_at_call 53; refine (Bl.len HS.bl).mono ?_; rintro e W1 ⟨rfl, rfl⟩) | (go_at_call 55; refine (Bl.str _ HS.bl (by first | omega | (simp; omega)) (by first | omega | decide) (Nat.le_of_lt HS.lt)).mono ?_; rintro e W1 ⟨rfl, hb_, hw_⟩; replace HS := HS.on hb_ hw_; clear hb_ hw_ e0 e1 e2; obtain ⟨e0, e1, e2⟩ := FA.cell HS.box) | (go_at_call 57; refine (Bl.out HS.bl (Nat.le_of_lt HS.lt)).mono ?_; rintro e W1 ⟨rfl, HO⟩))
    go_ret
    exact ⟨by first | rfl | (simp; done) | (simp; rfl), HS.bw.trans (HO.mono (Nat.le_trans HS.wg (Nat.le_of_lt HS.gB)))⟩
   rw [if_neg c0] at hf
   obtain ⟨tt, hfi, hg⟩ := Option.bind_eq_some_iff.mp hf
   clear hf
   have hf := hg
   clear hg
   have HFI := Aside0.mk hfi
   clear hfi
   split at hf
   case isFalse => exact absurd hf (by simp)
   case isTrue hct =>
   obtain ⟨hl8, ct⟩ := hct
   by_cases cz : a0_1 = 0
   ·
    have ca : acc.length = 0 := by omega
    have cab : ((acc.length : Int) == 0) = true := beq_iff_eq.mpr (by omega)
    have ep : FA.plus acc a0_1 = acc := by unfold FA.plus; rw [if_neg (by omega)]
    rw [ep] at hf
    subst cz
    unfold FA.tail at hf
    split at hf
    case isFalse => exact absurd hf (by simp)
    case isTrue hlen =>
    obtain rfl := Option.some.inj hf
    cases a0_2
    rotate_left
    ·
     go_wp2_with (first | (go_at_call 53; refine (Bl.len HS.bl).mono ?_; rintro e W1 ⟨rfl, rfl⟩) | (go_at_call 56; refine (impl_FormatInt.calls _ tt _ (laid_ HL_ (Aside0.mk HS.bw)) HFI.out).mono ?_; rintro e W1 ⟨rfl, hw_⟩; replace HS := HS.grown hw_; clear hw_ e0 e1 e2; obtain ⟨e0, e1, e2⟩ := FA.cell HS.box) | (go_at_call 55; refine (Bl.str _ HS.bl (by first | omega | (simp; omega)) (by first | omega | decide) (Nat.le_of_lt HS.lt)).mono ?_; rintro e W1 ⟨rfl, hb_, hw_⟩; replace HS := HS.on hb_ hw_; clear hb_ hw_ e0 e1 e2; obtain ⟨e0, e1, e2⟩ := FA.cell HS.box) | (go_at_call 57; refine (Bl.out HS.bl (Nat.le_of_lt HS.lt)).mono ?_; rintro e W1 ⟨rfl, HO⟩))
     go_ret
     exact ⟨by first | rfl | (simp; done) | (simp; rfl), HS.bw.trans (HO.mono (Nat.le_trans HS.wg (Nat.le_of_lt HS.gB)))⟩
    go_wp2_with (first | (go_at_call 53; refine (Bl.len HS.bl).mono ?_; rintro e W1 ⟨rfl, rfl⟩) | (go_at_call 56; refine (impl_FormatInt.calls _ tt _ (laid_ HL_ (Aside0.mk HS.bw)) HFI.out).mono ?_; rintro e W1 ⟨rfl, hw_⟩; replace HS := HS.grown hw_; clear hw_ e0 e1 e2; obtain ⟨e0, e1, e2⟩ := FA.cell HS.box) | (go_at_call 55; refine (Bl.str _ HS.bl (by first | omega | (simp; omega)) (by first | omega | decide) (Nat.le_of_lt HS.lt)).mono ?_; rintro e W1 ⟨rfl, hb_, hw_⟩; replace HS := HS.on hb_ hw_; clear hb_ hw_ e0 e1 e2; obtain ⟨e0, e1, e2⟩ := FA.cell HS.box) | (go_at_call 57; refine (Bl.out HS.bl (Nat.le_of_lt HS.lt)).mono ?_; rintro e W1 ⟨rfl, HO⟩))
    go_ret
    exact ⟨by first | rfl | (simp; done) | (simp; rfl), HS.bw.trans (HO.mono (Nat.le_trans HS.wg (Nat.le_of_lt HS.gB)))⟩
   have czb : (a0_1 == 0) = false := beq_eq_false_iff_ne.mpr cz
   by_cases cg : 0 < a0_1
   rotate_left
   ·
    have cgb : decide (0 < a0_1) = false := decide_eq_false cg
    have ep : FA.plus acc a0_1 = acc := by unfold FA.plus; rw [if_neg (by omega)]
    rw [ep] at hf
    unfold FA.tail at hf
    split at hf
    case isFalse => exact absurd hf (by simp)
    case isTrue hlen =>
    obtain rfl := Option.some.inj hf
    cases a0_2
    rotate_left
    ·
     go_wp2_with (first | (go_at_call 56; refine (impl_FormatInt.calls _ tt _ (laid_ HL_ (Aside0.mk HS.bw)) HFI.out).mono ?_; rintro e W1 ⟨rfl, hw_⟩; replace HS := HS.grown hw_; clear hw_ e0 e1 e2; obtain ⟨e0, e1, e2⟩ := FA.cell HS.box) | (go_at_call 55; refine (Bl.str _ HS.bl (by first | omega | (simp; omega)) (by first | omega | decide) (Nat.le_of_lt HS.lt)).mono ?_; rintro e W1 ⟨rfl, hb_, hw_⟩; replace HS := HS.on hb_ hw_; clear hb_ hw_ e0 e1 e2; obtain ⟨e0, e1, e2⟩ := FA.cell HS.box) | (go_at_call 57; refine (Bl.out HS.bl (Nat.le_of_lt HS.lt)).mono ?_; rintro e W1 ⟨rfl, HO⟩))
     go_ret
     exact ⟨by first | rfl | (simp; done) | (simp; rfl), HS.bw.trans (HO.mono (Nat.le_trans HS.wg (Nat.le_of_lt HS.gB)))⟩
    go_wp2_with (first | (go_at_call 56; refine (impl_FormatInt.calls _ tt _ (laid_ HL_ (Aside0.mk HS.bw)) HFI.out).mono ?_; rintro e W1 ⟨rfl, hw_⟩; replace HS := HS.grown hw_; clear hw_ e0 e1 e2; obtain ⟨e0, e1, e2⟩ := FA.cell HS.box) | (go_at_call 55; refine (Bl.str _ HS.bl (by first | omega | (simp; omega)) (by first | omega | decide) (Nat.le_of_lt HS.lt)).mono ?_; rintro e W1 ⟨rfl, hb_, hw_⟩; replace HS := HS.on hb_ hw_; clear hb_ hw_ e0 e1 e2; obtain ⟨e0, e1, e2⟩ := FA.cell HS.box) | (go_at_call 57; refine (Bl.out HS.bl (Nat.le_of_lt HS.lt)).mono ?_; rintro e W1 ⟨rfl, HO⟩))
    go_ret
    exact ⟨by first | rfl | (simp; done) | (simp; rfl), HS.bw.trans (HO.mono (Nat.le_trans HS.wg (Nat.le_of_lt HS.gB)))⟩
   have cgb : decide (0 < a0_1) = true := decide_eq_true cg
   by_cases ca : 0 < acc.length
   rotate_left
   ·
    have cab : decide ((0 : Int) < (acc.length : Int)) = false := decide_eq_false (by omega)
    have ep : FA.plus acc a0_1 = acc := by unfold FA.plus; rw [if_neg (by omega)]
    rw [ep] at hf
    unfold FA.tail at hf
    split at hf
    case isFalse => exact absurd hf (by simp)
    case isTrue hlen =>
    obtain rfl := Option.some.inj hf
    cases a0_2
    rotate_left
    ·
     go_wp2_with (first | (go_at_call 53; refine (Bl.len HS.bl).mono ?_; rintro e W1 ⟨rfl, rfl⟩) | (go_at_call 56; refine (impl_FormatInt.calls _ tt _ (laid_ HL_ (Aside0.mk HS.bw)) HFI.out).mono ?_; rintro e W1 ⟨rfl, hw_⟩; replace HS := HS.grown hw_; clear hw_ e0 e1 e2; obtain ⟨e0, e1, e2⟩ := FA.cell HS.box) | (go_at_call 55; refine (Bl.str _ HS.bl (by first | omega | (simp; omega)) (by first | omega | decide) (Nat.le_of_lt HS.lt)).mono ?_; rintro e W1 ⟨rfl, hb_, hw_⟩; replace HS := HS.on hb_ hw_; clear hb_ hw_ e0 e1 e2; obtain ⟨e0, e1, e2⟩ := FA.cell HS.box) | (go_at_call 57; refine (Bl.out HS.bl (Nat.le_of_lt HS.lt)).mono ?_; rintro e W1 ⟨rfl, HO⟩))
     go_ret
     exact ⟨by first | rfl | (simp; done) | (simp; rfl), HS.bw.trans (HO.mono (Nat.le_trans HS.wg (Nat.le_of_lt HS.gB)))⟩
    go_wp2_with (first | (go_at_call 53; refine (Bl.len HS.bl).mono ?_; rintro e W1 ⟨rfl, rfl⟩) | (go_at_call 56; refine (impl_FormatInt.calls _ tt _ (laid_ HL_ (Aside0.mk HS.bw)) HFI.out).mono ?_; rintro e W1 ⟨rfl, hw_⟩; replace HS := HS.grown hw_; clear hw_ e0 e1 e2; obtain ⟨e0, e1, e2⟩ := FA.cell HS.box) | (go_at_call 55; refine (Bl.str _ HS.bl (by first | omega | (simp; omega)) (by first | omega | decide) (Nat.le_of_lt HS.lt)).mono ?_; rintro e W1 ⟨rfl, hb_, hw_⟩; replace HS := HS.on hb_ hw_; clear hb_ hw_ e0 e1 e2; obtain ⟨e0, e1, e2⟩ := FA.cell HS.box) | (go_at_call 57; refine (Bl.out HS.bl (Nat.le_of_lt HS.lt)).mono ?_; rintro e W1 ⟨rfl, HO⟩))
    go_ret
    exact ⟨by first | rfl | (simp; done) | (simp; rfl), HS.bw.trans (HO.mono (Nat.le_trans HS.wg (Nat.le_of_lt HS.gB)))⟩
   have cab : decide ((0 : Int) < (acc.length : Int)) = true := decide_eq_true (by omega)
   have ep : FA.plus acc a0_1 = acc ++ [43] := by unfold FA.plus; rw [if_pos ⟨cg, ca⟩]
   rw [ep] at hf
   unfold FA.tail at hf
   split at hf
   case isFalse => exact absurd hf (by simp)
   case isTrue hlen =>
   obtain rfl := Option.some.inj hf
   cases a0_2
   rotate_left
   ·
    go_wp2_with (first | (go_at_call 53; refine (Bl.len HS.bl).mono ?_; rintro e W1 ⟨rfl, rfl⟩) | (go_at_call 54; refine (Bl.byteI _ 43 (by rfl) HS.bl (by first | omega | (simp; omega)) (Nat.le_of_lt HS.lt)).mono ?_; rintro e W1 ⟨rfl, hb_, hw_⟩; replace HS := HS.on hb_ hw_; clear hb_ hw_ e0 e1 e2; obtain ⟨e0, e1, e2⟩ := FA.cell HS.box) | (go_at_call 56; refine (impl_FormatInt.calls _ tt _ (laid_ HL_ (Aside0.mk HS.bw)) HFI.out).mono ?_; rintro e W1 ⟨rfl, hw_⟩; replace HS := HS.grown hw_; clear hw_ e0 e1 e2; obtain ⟨e0, e1, e2⟩ := FA.cell HS.box) | (go_at_call 55; refine (Bl.str _ HS.bl (by first | omega | (simp; omega)) (by first | omega | decide) (Nat.le_of_lt HS.lt)).mono ?_; rintro e W1 ⟨rfl, hb_, hw_⟩; replace HS := HS.on hb_ hw_; clear hb_ hw_ e0 e1 e2; obtain ⟨e0, e1, e2⟩ := FA.cell HS.box) | (go_at_call 57; refine (Bl.out HS.bl (Nat.le_of_lt HS.lt)).mono ?_; rintro e W1 ⟨rfl, HO⟩))
    go_ret
    exact ⟨by first | rfl | (simp; done) | (simp; rfl), HS.bw.trans (HO.mono (Nat.le_trans HS.wg (Nat.le_of_lt HS.gB)))⟩
   go_wp2_with (first | (go_at_call 53; refine (Bl.len HS.bl).mono ?_; rintro e W1 ⟨rfl, rfl⟩) | (go_at_call 54; refine (Bl.byteI _ 43 (by rfl) HS.bl (by first | omega | (simp; omega)) (Nat.le_of_lt HS.lt)).mono ?_; rintro e W1 ⟨rfl, hb_, hw_⟩; replace HS := HS.on hb_ hw_; clear hb_ hw_ e0 e1 e2; obtain ⟨e0, e1, e2⟩ := FA.cell HS.box) | (go_at_call 56; refine (impl_FormatInt.calls _ tt _ (laid_ HL_ (Aside0.mk HS.bw)) HFI.out).mono ?_; rintro e W1 ⟨rfl, hw_⟩; replace HS := HS.grown hw_; clear hw_ e0 e1 e2; obtain ⟨e0, e1, e2⟩ := FA.cell HS.box) | (go_at_call 55; refine (Bl.str _ HS.bl (by first | omega | (simp; omega)) (by first | omega | decide) (Nat.le_of_lt HS.lt)).mono ?_; rintro e W1 ⟨rfl, hb_, hw_⟩; replace HS := HS.on hb_ hw_; clear hb_ hw_ e0 e1 e2; obtain ⟨e0, e1, e2⟩ := FA.cell HS.box) | (go_at_call 57; refine (Bl.out HS.bl (Nat.le_of_lt HS.lt)).mono ?_; rintro e W1 ⟨rfl, HO⟩))
   go_ret
   exact ⟨by first | rfl | (simp; done) | (simp; rfl), HS.bw.trans (HO.mono (Nat.le_trans HS.wg (Nat.le_of_lt HS.gB)))⟩

/-! ### laws_big: function 31 -/
def laws_big.f (l0 : List Int) : Option (Bool) := some (decide ((l0.length : Int) > 1048576))
set_option maxHeartbeats 8000000 in
set_option maxRecDepth 100000 in
theorem laws_big.calls (A0 : Option Addr) (c0 : Nat) (l0 : List Int) (r : Bool) (w : World) (hr0 : Kd.C (Kd.int .u8) w A0 l0.length l0) (hc0 : l0.length ≤ c0) (h : laws_big.f l0 = some r) :
  Calls Tryd.prog 31 #[.slice A0 l0.length c0] w fun e w' => e = .returned (.bool r) ∧ Drawn0 w w' := by
 have HR0 := Aside0.mk hr0
 have HC0 := Aside0.mk hc0
 clear hr0 hc0
 have H : (some (decide ((l0.length : Int) > 1048576))) = some r := h
 clear h
 obtain rfl := Option.some.inj H
 go_enter Tryd.func31, Tryd.ntmps31
 go_wp2
 go_ret
 exact ⟨by first | rfl | (simp; done) | (simp [*]; done), by repeat (first | exact Drawn0.refl _ | apply Drawn0.step)⟩

/-! ### strings_CutSuffix: function 82 -/
def strings_CutSuffix.f (a0 : ByteArray) (a1 : ByteArray) : Option (ByteArray × Bool) := if a0.size ≤ 9223372036854775807 then some (⟨(Lib.trimSuffix a0.data.toList a1.data.toList).toArray⟩, Lib.hasSuffix a0.data.toList a1.data.toList) else none
theorem strings_CutSuffix.calls (a0 : ByteArray) (a1 : ByteArray) (r1 : ByteArray) (r2 : Bool) (w : World) (h : strings_CutSuffix.f a0 a1 = some (r1, r2)) :
  Calls Tryd.prog 82 #[.string a0, .string a1] w fun e w' => e = .returned (.tuple #[.string r1, .bool r2]) ∧ Drawn0 w w' := by
 unfold strings_CutSuffix.f at h
 split at h
 rotate_left
 ·
  exact absurd h (by simp)
 rename_i hb
 obtain ⟨rfl, rfl⟩ := Prod.mk.inj (Option.some.inj h)
 exact (Tryd.strings_CutSuffix a0 a1 w hb).mono fun e w' ⟨he, hw⟩ => ⟨he, hw ▸ Drawn0.refl _⟩

/-! ### impl_ParseInt: function 17 -/
def impl_ParseInt.f (a0 : ByteArray) : Option (Int × Bool) := if a0.size ≤ 281474976710656 then (match Lib.atoiAll a0.data.toList with
 | .ok v => (impl_IsNumber.f v).bind fun t => if t = true then (impl_FormatInt.f v).bind fun u => if u.toList = a0.toList then some (v, true) else some (0, false) else some (0, false)
 | _ => some (0, false)) else none
theorem below_bytes (w : World) (e : TypeId) (s : ByteArray) : Below w.heap.size w (Lib.bytesWorld w e s) := by
 unfold Lib.bytesWorld World.freeze
 rw [if_neg (by decide)]
 refine ⟨rfl, rfl, rfl, ?_, fun k hk => ?_⟩
 ·
  show w.heap.size ≤ ((w.heap.push _).modify _ _).size
  rw [Array.size_modify, Array.size_push]; omega
 show ((w.heap.push _).modify w.heap.size _)[k]? = _
 rw [Array.getElem?_modify, if_neg (by omega), Array.getElem?_push, if_neg (by omega)]
set_option maxHeartbeats 4000000 in
set_option maxRecDepth 100000 in
theorem impl_ParseInt.calls (a0 : ByteArray) (r1 : Int) (r2 : Bool) (w : World) (hL : LaidW w) (h : impl_ParseInt.f a0 = some (r1, r2)) :
  Calls Tryd.prog 17 #[.string a0] w fun e w' => e = .returned (.tuple #[.int .i64 r1, .bool r2]) ∧ Below w.heap.size w w' := by
 unfold impl_ParseInt.f at h
 split at h
 case isFalse => cases h
 case isTrue hs =>
 have HL_ := Aside0.mk hL
 obtain ⟨ts, ps, hsyn⟩ := hL.syn
 obtain ⟨tr, pr, hrng⟩ := hL.rng
 clear hL
 cases hA : Lib.atoiAll a0.data.toList with
 | «syntax» =>
  rw [hA] at h
  obtain ⟨rfl, rfl⟩ := Prod.mk.inj (Option.some.inj h)
  have hc := Tryd.strconv_Atoi_syntax_var a0 hs hA ts ps w hsyn
  clear hA h
  go_enter Tryd.func17, Tryd.ntmps17
  go_wp2_with (go_at_call 60; refine hc.mono ?_; rintro e W1 ⟨M, rfl, _, _, hb⟩; have HB := Aside0.mk hb; clear hb)
  go_ret2
  exact ⟨rfl, HB.out⟩
 | range =>
  rw [hA] at h
  obtain ⟨rfl, rfl⟩ := Prod.mk.inj (Option.some.inj h)
  have hc := Tryd.strconv_Atoi_range_var a0 hs hA tr pr w hrng
  clear hA h
  go_enter Tryd.func17, Tryd.ntmps17
  go_wp2_with (go_at_call 60; refine hc.mono ?_; rintro e W1 ⟨M, rfl, _, _, hb⟩; have HB := Aside0.mk hb; clear hb)
  go_ret2
  exact ⟨rfl, HB.out⟩
 | ok v =>
  rw [hA] at h
  have h2 : ((impl_IsNumber.f v).bind fun t => if t = true then (impl_FormatInt.f v).bind fun u => if u.toList = a0.toList then some (v, true) else some (0, false) else some (0, false)) = some (r1, r2) := h
  clear h
  have hc0 := Tryd.strconv_Atoi_ok a0 (by omega) v hA w
  have hc : Calls Tryd.prog 60 #[.string a0] w fun e w' => e = .returned (.tuple #[.int .i64 v, .nilIface]) ∧ Below w.heap.size w w' := hc0.mono fun e w' hh => ⟨hh.1, by
   rcases hh.2 with rfl | ⟨t, rfl⟩
   ·
    exact Below.refl _ _
   ·
    exact below_bytes w _ t⟩
  clear hA hc0
  obtain ⟨t, ht, h3⟩ := Option.bind_eq_some_iff.mp h2
  clear h2
  have HT := Aside0.mk ht
  clear ht
  cases t with
  | false =>
   obtain ⟨rfl, rfl⟩ := Prod.mk.inj (Option.some.inj h3)
   clear h3
   go_enter Tryd.func17, Tryd.ntmps17
   go_wp2_with (first | (go_at_call 60; refine hc.mono ?_; rintro e W1 ⟨rfl, hb⟩; have HB := Aside0.mk hb; clear hb) | (go_at_call 61; refine (impl_IsNumber.calls v false _ HT.out).mono ?_; rintro e W2 ⟨rfl, ⟨n2, rfl⟩⟩))
   go_ret2
   exact ⟨rfl, by first | exact HB.out | exact bb_ HB⟩
  | true =>
   rw [if_pos rfl] at h3
   obtain ⟨u, hu, h4⟩ := Option.bind_eq_some_iff.mp h3
   have HU := Aside0.mk hu
   clear h3 hu
   by_cases he : u.toList = a0.toList
   ·
    rw [if_pos he] at h4
    obtain ⟨rfl, rfl⟩ := Prod.mk.inj (Option.some.inj h4)
    have hue : u = a0 := by rw [ByteArray.toList_eq, ByteArray.toList_eq] at he; exact ByteArray.ext (Array.toList_inj.1 he)
    subst hue
    clear h4 he
    go_enter Tryd.func17, Tryd.ntmps17
    go_wp2_with (first | (go_at_call 60; refine hc.mono ?_; rintro e W1 ⟨rfl, hb⟩; have HB := Aside0.mk hb; clear hb) | (go_at_call 61; refine (impl_IsNumber.calls _ true _ HT.out).mono ?_; rintro e W2 ⟨rfl, ⟨n2, rfl⟩⟩) | (go_at_call 56; refine (impl_FormatInt.calls _ _ _ (laid_ HL_ HB) HU.out).mono ?_; rintro e W3 ⟨rfl, hb3⟩; have HB3 := bS_ HB hb3; clear hb3))
    go_ret2
    exact ⟨rfl, by first | exact HB3.out | exact bb_ HB3⟩
   rw [if_neg he] at h4
   obtain ⟨rfl, rfl⟩ := Prod.mk.inj (Option.some.inj h4)
   have hne : (u.toList == a0.toList) = false := beq_eq_false_iff_ne.mpr he
   have hne2 : u ≠ a0 := fun e => he (by rw [e])
   have hne3 : (u.data == a0.data) = false := beq_eq_false_iff_ne.mpr (fun e => hne2 (ByteArray.ext e))
   clear h4
   go_enter Tryd.func17, Tryd.ntmps17
   go_wp2_with (first | (go_at_call 60; refine hc.mono ?_; rintro e W1 ⟨rfl, hb⟩; have HB := Aside0.mk hb; clear hb) | (go_at_call 61; refine (impl_IsNumber.calls _ true _ HT.out).mono ?_; rintro e W2 ⟨rfl, ⟨n2, rfl⟩⟩) | (go_at_call 56; refine (impl_FormatInt.calls _ _ _ (laid_ HL_ HB) HU.out).mono ?_; rintro e W3 ⟨rfl, hb3⟩; have HB3 := bS_ HB hb3; clear hb3))
   go_ret2
   exact ⟨rfl, by first | exact HB3.out | exact bb_ HB3⟩

/-! ### strings_TrimPrefix: function 105 -/
def strings_TrimPrefix.f (a0 : ByteArray) (a1 : ByteArray) : Option ByteArray := some ⟨(Lib.trimPrefix a0.data.toList a1.data.toList).toArray⟩
theorem strings_TrimPrefix.calls (a0 : ByteArray) (a1 : ByteArray) (r : ByteArray) (w : World) (h : strings_TrimPrefix.f a0 a1 = some r) :
  Calls Tryd.prog 105 #[.string a0, .string a1] w fun e w' => e = .returned (.string r) ∧ Drawn0 w w' := by
 obtain rfl := Option.some.inj h
 exact (Tryd.strings_TrimPrefix a0 a1 w).mono fun e w' ⟨he, hw⟩ => ⟨he, hw ▸ Drawn0.refl _⟩

-- NOT PRINTED: function 135 (bytealg_IndexByteString)

-- NOT PRINTED: function 124 (stringslite_IndexByte)

/-! ### strings_IndexByte: function 106 -/
def strings_IndexByte.f (a0 : ByteArray) (a1 : Int) : Option Int := some (Lib.indexByte a0.data.toList a1.toNat.toUInt8)
theorem strings_IndexByte.calls (a0 : ByteArray) (a1 : Int) (r : Int) (w : World) (h : strings_IndexByte.f a0 a1 = some r) :
  Calls Tryd.prog 106 #[.string a0, .int .u8 a1] w fun e w' => e = .returned (.int .i64 r) ∧ Drawn0 w w' := by
 obtain rfl := Option.some.inj h
 exact (Tryd.strings_IndexByte a0 a1 w).mono fun e w' ⟨he, hw⟩ => ⟨he, hw ▸ Drawn0.refl _⟩

/-! ### impl_readTerm: function 83 -/
mutual
def impl_readTerm.j0 : Nat → ByteArray → Int → Bool → Option (Int × Int × ByteArray × Bool)
 | 0, _, _, _ => none
 | k + 1, x0, x6, x27 => if x27 = true then (impl_readTerm.j1 k x0 (wrap64 (x6 + 1))) else (impl_readTerm.j1 k x0 x6)
def impl_readTerm.j1 : Nat → ByteArray → Int → Option (Int × Int × ByteArray × Bool)
 | 0, _, _ => none
 | k + 1, x0, x6 => impl_readTerm.l0 k x0 x6
def impl_readTerm.j3 : Nat → ByteArray → Int → Option (Int × Int × ByteArray × Bool)
 | 0, _, _ => none
 | k + 1, x0, x6 => if 0 ≤ x6 then (if x6 ≤ (x0.size : Int) then ((strings_TrimPrefix.f (x0.extract 0 (x6 : Int).toNat) (⟨#[43]⟩ : ByteArray)).bind fun qa => (if x6 < (x0.size : Int) then ((strings_IndexByte.f (⟨#[120, 121, 122, 116]⟩ : ByteArray) (bt x0 x6)).bind fun qk => (impl_readTerm.j4 k x0 x6 qa qk)) else (impl_readTerm.j4 k x0 x6 qa (-1)))) else (none)) else (none)
def impl_readTerm.j4 : Nat → ByteArray → Int → ByteArray → Int → Option (Int × Int × ByteArray × Bool)
 | 0, _, _, _, _ => none
 | k + 1, x0, x6, x7, x8 => if 0 ≤ x6 then (if x6 ≤ (x0.size : Int) then (if x8 ≥ 0 then (if 0 ≤ (wrap64 (x6 + 1)) then (if (wrap64 (x6 + 1)) ≤ (x0.size : Int) then (if x7.toList = ([] : List UInt8) then (if x7.size + 1 ≤ 9223372036854775807 then ((impl_ParseInt.f (x7 ++ (⟨#[49]⟩ : ByteArray))).bind fun qh => (some (qh.1, x8, x0.extract ((wrap64 (x6 + 1)) : Int).toNat x0.size, qh.2))) else (none)) else (if x7.toList = ([45] : List UInt8) then (if x7.size + 1 ≤ 9223372036854775807 then ((impl_ParseInt.f (x7 ++ (⟨#[49]⟩ : ByteArray))).bind fun qi => (some (qi.1, x8, x0.extract ((wrap64 (x6 + 1)) : Int).toNat x0.size, qi.2))) else (none)) else ((impl_ParseInt.f x7).bind fun qj => (some (qj.1, x8, x0.extract ((wrap64 (x6 + 1)) : Int).toNat x0.size, qj.2))))) else (none)) else (none)) else ((impl_ParseInt.f x7).bind fun qs => (some (qs.1, x8, x0.extract (x6 : Int).toNat x0.size, qs.2)))) else (none)) else (none)
def impl_readTerm.l0 : Nat → ByteArray → Int → Option (Int × Int × ByteArray × Bool)
 | 0, _, _ => none
 | k + 1, x0, x6 => if x6 < (x0.size : Int) then (if 0 ≤ x6 then (if (bt x0 x6) ≥ 48 then (if (bt x0 x6) ≤ 57 then (impl_readTerm.l0 k x0 (wrap64 (x6 + 1))) else (impl_readTerm.j3 k x0 x6)) else (impl_readTerm.j3 k x0 x6)) else (none)) else (impl_readTerm.j3 k x0 x6)
end
def impl_readTerm.f (k : Nat) (a0 : ByteArray) : Option (Int × Int × ByteArray × Bool) := if 0 < (a0.size : Int) then (if (bt a0 0) = 43 then (impl_readTerm.j0 k a0 0 true) else (impl_readTerm.j0 k a0 0 ((bt a0 0) == 45))) else (impl_readTerm.j0 k a0 0 false)
theorem impl_readTerm.mono_l : ∀ k, (∀ y0 y1 y2, LeO (impl_readTerm.j0 k y0 y1 y2) (impl_readTerm.j0 (k + 1) y0 y1 y2)) ∧ (∀ y0 y1, LeO (impl_readTerm.j1 k y0 y1) (impl_readTerm.j1 (k + 1) y0 y1)) ∧ (∀ y0 y1, LeO (impl_readTerm.j3 k y0 y1) (impl_readTerm.j3 (k + 1) y0 y1)) ∧ (∀ y0 y1 y2 y3, LeO (impl_readTerm.j4 k y0 y1 y2 y3) (impl_readTerm.j4 (k + 1) y0 y1 y2 y3)) ∧ (∀ y0 y1, LeO (impl_readTerm.l0 k y0 y1) (impl_readTerm.l0 (k + 1) y0 y1))
 | 0 => ⟨fun _ _ _ r h => by simp [impl_readTerm.j0] at h, fun _ _ r h => by simp [impl_readTerm.j1] at h, fun _ _ r h => by simp [impl_readTerm.j3] at h, fun _ _ _ _ r h => by simp [impl_readTerm.j4] at h, fun _ _ r h => by simp [impl_readTerm.l0] at h⟩
 | k + 1 => by
  obtain ⟨ih0, ih1, ih2, ih3, ih4⟩ := impl_readTerm.mono_l k
  refine ⟨?_, ?_, ?_, ?_, ?_⟩ <;> (intros; first | unfold impl_readTerm.j0 | unfold impl_readTerm.j1 | unfold impl_readTerm.j3 | unfold impl_readTerm.j4 | unfold impl_readTerm.l0)
  all_goals
   repeat' first
   | (with_reducible exact ih0 _ _ _)
   | (with_reducible exact ih1 _ _)
   | (with_reducible exact ih2 _ _)
   | (with_reducible exact ih3 _ _ _ _)
   | (with_reducible exact ih4 _ _)
   | (with_reducible exact LeO.refl _)
   | (with_reducible exact LeO.none _)
   | (with_reducible refine LeO.ite ?_ ?_)
   | (with_reducible refine LeO.bind ?_ (fun _ => ?_))
   | exact ih0 _ _ _
   | exact ih1 _ _
   | exact ih2 _ _
   | exact ih3 _ _ _ _
   | exact ih4 _ _
   | exact LeO.none _
   | refine LeO.ite ?_ ?_
   | refine LeO.bind ?_ (fun _ => ?_)
theorem impl_readTerm.mono : ∀ a0 k, LeO (impl_readTerm.f k a0) (impl_readTerm.f (k + 1) a0) := by
 intro a0 k
 obtain ⟨ih0, ih1, ih2, ih3, ih4⟩ := impl_readTerm.mono_l k
 unfold impl_readTerm.f
 repeat' first
   | (with_reducible exact ih0 _ _ _)
   | (with_reducible exact ih1 _ _)
   | (with_reducible exact ih2 _ _)
   | (with_reducible exact ih3 _ _ _ _)
   | (with_reducible exact ih4 _ _)
   | (with_reducible exact LeO.refl _)
   | (with_reducible exact LeO.none _)
   | (with_reducible refine LeO.ite ?_ ?_)
   | (with_reducible refine LeO.bind ?_ (fun _ => ?_))
   | exact ih0 _ _ _
   | exact ih1 _ _
   | exact ih2 _ _
   | exact ih3 _ _ _ _
   | exact ih4 _ _
   | exact LeO.none _
   | refine LeO.ite ?_ ?_
   | refine LeO.bind ?_ (fun _ => ?_)
set_option maxHeartbeats 8000000 in
set_option maxRecDepth 100000 in
theorem impl_readTerm.calls (k : Nat) (a0 : ByteArray) (r1 : Int) (r2 : Int) (r3 : ByteArray) (r4 : Bool) (w : World) (hL : LaidW w) (h : impl_readTerm.f k a0 = some (r1, r2, r3, r4)) :
  Calls Tryd.prog 83 #[.string a0] w fun e w' => e = .returned (.tuple #[.int .i64 r1, .int .i64 r2, .string r3, .bool r4]) ∧ Below w.heap.size w w' := by
 have HL_ := Aside0.mk hL
 clear hL
 have HB := Aside0.mk (Below.refl w.heap.size w)
 have H : (if 0 < (a0.size : Int) then (if (bt a0 0) = 43 then (impl_readTerm.j0 k a0 0 true) else (impl_readTerm.j0 k a0 0 ((bt a0 0) == 45))) else (impl_readTerm.j0 k a0 0 false)) = some (r1, r2, r3, r4) := h
 clear h
 have HC2 := Aside0.mk H
 clear H
 go_enter Tryd.func83, Tryd.ntmps83
 go_upto_region 2 with (fail)
 go_cut [27] (fun v27 wc => ∃ (kq : Nat) (ql : Bool), v27 = .bool ql ∧ Aside0 (impl_readTerm.j0 kq a0 0 ql = some (r1, r2, r3, r4)) ∧ Aside0 (kq ≤ k) ∧ Aside0 (Below w.heap.size w wc))
 case first =>
  have H := HC2.out
  clear HC2
  by_cases c3 : 0 < (a0.size : Int)
  rotate_left
  ·
   rw [if_neg c3] at H
   have qf : decide (0 < (a0.size : Int)) = false := decide_eq_false c3
   have qm : decide (0 < a0.size) = false := decide_eq_false (by omega)
   clear c3
   (first | rw [qf] | (simp only [i64_w, i32_w]; rw [qf]) | skip)
   have H' := Aside0.mk H
   clear H
   go_wp2
   go_meet
   case rel => exact ⟨_, (false), (by first | rfl | (simp; done) | (simp [*]; done) | (simp [wrap64]; done)), H', ⟨by first | omega | exact Nat.le_refl _⟩, ⟨bb_ HB⟩⟩
  rw [if_pos c3] at H
  have qf : decide (0 < (a0.size : Int)) = true := decide_eq_true c3
  have qm : decide (0 < a0.size) = true := decide_eq_true (by omega)
  clear c3
  (first | rw [qf] | (simp only [i64_w, i32_w]; rw [qf]) | skip)
  by_cases c5 : (bt a0 0) = 43
  ·
   rw [if_pos c5] at H
   have qn : ((bt a0 0) == 43) = true := beq_iff_eq.mpr c5
   have qo : ((bt a0 0) != 43) = false := bne_eq_false_iff_eq.mpr c5
   clear c5
   have H' := Aside0.mk H
   clear H
   have p4 : 0 ≤ (0 : Int) := (by omega)
   have q4 : 0 < a0.size := (by have : (0 : Int) < (a0.size : Int) := of_decide_eq_true (by first | (with_reducible assumption) | assumption); omega)
   have hx4 : ∀ h : 0 < a0.size, ((a0[0]'h).toNat : Int) = bt a0 0 := bt_at a0 0
   clear p4
   have qi4 : (0 < (a0.size : Int)) = True := eq_true (of_decide_eq_true (by first | (with_reducible assumption) | assumption))
   replace q4 := eq_true q4
   go_wp2
   go_meet
   case rel => exact ⟨_, (true), (by first | rfl | (simp; done) | (simp [*]; done) | (simp [wrap64]; done)), H', ⟨by first | omega | exact Nat.le_refl _⟩, ⟨bb_ HB⟩⟩
  rw [if_neg c5] at H
  have qn : ((bt a0 0) == 43) = false := beq_eq_false_iff_ne.mpr c5
  have qo : ((bt a0 0) != 43) = true := bne_iff_ne.mpr c5
  have H' := Aside0.mk H
  clear H
  have p4 : 0 ≤ (0 : Int) := (by omega)
  have q4 : 0 < a0.size := (by have : (0 : Int) < (a0.size : Int) := of_decide_eq_true (by first | (with_reducible assumption) | assumption); omega)
  have hx4 : ∀ h : 0 < a0.size, ((a0[0]'h).toNat : Int) = bt a0 0 := bt_at a0 0
  clear p4
  have qi4 : (0 < (a0.size : Int)) = True := eq_true (of_decide_eq_true (by first | (with_reducible assumption) | assumption))
  replace q4 := eq_true q4
  have p6 : 0 ≤ (0 : Int) := (by omega)
  have q6 : 0 < a0.size := (by have : (0 : Int) < (a0.size : Int) := of_decide_eq_true (by first | (with_reducible assumption) | assumption); omega)
  have hx6 : ∀ h : 0 < a0.size, ((a0[0]'h).toNat : Int) = bt a0 0 := bt_at a0 0
  clear p6
  have qi6 : (0 < (a0.size : Int)) = True := eq_true (of_decide_eq_true (by first | (with_reducible assumption) | assumption))
  replace q6 := eq_true q6
  go_wp2
  go_meet
  case rel => exact ⟨_, (((bt a0 0) == 45)), (by first | rfl | (simp; done) | (simp [*]; done) | (simp [wrap64]; done)), H', ⟨by first | omega | exact Nat.le_refl _⟩, ⟨bb_ HB⟩⟩
 case rest =>
  clear HC2
  try clear p2
  try clear c3
  try clear qf
  try clear qm
  try clear p4
  try clear q4
  try clear hx4
  try clear qi4
  try clear c5
  try clear qn
  try clear qo
  try clear p6
  try clear q6
  try clear hx6
  try clear qi6
  try clear p4
  try clear p6
  try clear q4
  try clear q6
  obtain ⟨kq, ql, rfl, HA, HJ1, HB⟩ := hcut
  cases kq with
  | zero => exact absurd HA.out (by simp [impl_readTerm.j0])
  | succ kj1 =>
   have H := HA.out
   clear HA
   simp only [impl_readTerm.j0] at H
   have HC7 := Aside0.mk H
   clear H
   go_upto_if 27 with (fail)
   go_cut [6] (fun v6 wc => ∃ (kq : Nat) (qr : Int), v6 = .int .i64 qr ∧ Aside0 (impl_readTerm.j1 kq a0 qr = some (r1, r2, r3, r4)) ∧ Aside0 (kq ≤ kj1) ∧ Aside0 (Below w.heap.size w wc))
   case first =>
    have H := HC7.out
    clear HC7
    by_cases c8 : ql = true
    ·
     subst c8
     have H1 : (impl_readTerm.j1 kj1 a0 (wrap64 (0 + 1))) = some (r1, r2, r3, r4) := by rw [if_pos rfl] at H; exact H
     clear H
     have H := H1
     clear H1
     have H' := Aside0.mk H
     clear H
     go_wp2
     go_meet
     case rel => exact ⟨_, (wrap64 (0 + 1)), (by first | rfl | (simp; done) | (simp [*]; done) | (simp [wrap64]; done)), H', ⟨by have := HJ1.out; first | omega | exact Nat.le_refl _⟩, ⟨bb_ HB⟩⟩
    replace c8 := Bool.eq_false_iff.mpr c8
    subst c8
    have H1 : (impl_readTerm.j1 kj1 a0 0) = some (r1, r2, r3, r4) := by rw [if_neg (show ¬ (false = true) by decide)] at H; exact H
    clear H
    have H := H1
    clear H1
    have H' := Aside0.mk H
    clear H
    go_wp2
    go_meet
    case rel => exact ⟨_, (0), (by first | rfl | (simp; done) | (simp [*]; done) | (simp [wrap64]; done)), H', ⟨by have := HJ1.out; first | omega | exact Nat.le_refl _⟩, ⟨bb_ HB⟩⟩
   case rest =>
    clear HC7
    try clear p2
    try clear c3
    try clear qf
    try clear qm
    try clear p4
    try clear q4
    try clear hx4
    try clear qi4
    try clear c5
    try clear qn
    try clear qo
    try clear p6
    try clear q6
    try clear hx6
    try clear qi6
    try clear c8
    try clear p2
    try clear p4
    try clear p6
    try clear q4
    try clear q6
    obtain ⟨kq, qr, rfl, HA, HJ6, HB⟩ := hcut
    cases kq with
    | zero => exact absurd HA.out (by simp [impl_readTerm.j1])
    | succ kj6 =>
     have H := HA.out
     clear HA
     simp only [impl_readTerm.j1] at H
     have HC9 := Aside0.mk H
     clear H
     go_upto_block 0 with (fail)
     go_cut [6] (fun v6 wc => ∃ (kq : Nat) (qc : Int), v6 = .int .i64 qc ∧ Aside0 (impl_readTerm.j3 kq a0 qc = some (r1, r2, r3, r4)) ∧ Aside0 (kq ≤ kj6) ∧ Aside0 (Below w.heap.size w wc))
     case first =>
      have H := HC9.out
      clear HC9
      have H' := Aside0.mk H
      clear H
      go_wp2
      go_loopg [6] kj6 (fun kq v6 w' => ∃ (qb : Int), v6 = .int .i64 qb ∧ Aside0 (impl_readTerm.l0 kq a0 qb = some (r1, r2, r3, r4)) ∧ Aside0 (kq ≤ kj6) ∧ Aside0 (Below w.heap.size w w'))
      case atStart => exact ⟨(qr), (by first | rfl | (simp; done) | (simp [*]; done) | (simp [wrap64]; done)), H', ⟨Nat.le_refl _⟩, ⟨bb_ HB⟩⟩
      case round =>
       clear H'
       try clear p2
       try clear c3
       try clear qf
       try clear qm
       try clear p4
       try clear q4
       try clear hx4
       try clear qi4
       try clear c5
       try clear qn
       try clear qo
       try clear p6
       try clear q6
       try clear hx6
       try clear qi6
       try clear c8
       try clear p2
       try clear p4
       try clear p6
       try clear q4
       try clear q6
       obtain ⟨qb, rfl, HA, HK3, HB⟩ := hrel
       cases gk with
       | zero => exact absurd HA.out (by simp [impl_readTerm.l0])
       | succ k3 =>
        have H := HA.out
        clear HA
        simp only [impl_readTerm.l0] at H
        by_cases c10 : qb < (a0.size : Int)
        rotate_left
        ·
         rw [if_neg c10] at H
         have qe : decide (qb < (a0.size : Int)) = false := decide_eq_false c10
         clear c10
         (first | rw [qe] | (simp only [i64_w, i32_w]; rw [qe]) | skip)
         have H' := Aside0.mk H
         clear H
         go_wp2
         go_meet
         case rel => exact ⟨_, (qb), (by first | rfl | (simp; done) | (simp [*]; done) | (simp [wrap64]; done)), H', ⟨by have := HJ1.out; have := HJ6.out; have := HK3.out; first | omega | exact Nat.le_refl _⟩, ⟨bb_ HB⟩⟩
        rw [if_pos c10] at H
        have qe : decide (qb < (a0.size : Int)) = true := decide_eq_true c10
        clear c10
        (first | rw [qe] | (simp only [i64_w, i32_w]; rw [qe]) | skip)
        by_cases c11 : 0 ≤ qb
        rotate_left
        ·
         rw [if_neg c11] at H
         exact absurd H (by simp)
        rw [if_pos c11] at H
        have qt : decide (0 ≤ qb) = true := decide_eq_true c11
        clear c11
        by_cases c13 : (bt a0 qb) ≥ 48
        rotate_left
        ·
         rw [if_neg c13] at H
         have qp : decide (48 ≤ (bt a0 qb)) = false := decide_eq_false c13
         clear c13
         have H' := Aside0.mk H
         clear H
         have p12 : 0 ≤ (qb : Int) := of_decide_eq_true (by first | (with_reducible assumption) | assumption)
         have q12 : qb < (a0.size : Int) := of_decide_eq_true (by first | (with_reducible assumption) | assumption)
         have hx12 := bt_at a0 qb
         replace p12 := eq_true p12
         replace q12 := eq_true q12
         go_wp2
         go_meet
         case rel => exact ⟨_, (qb), (by first | rfl | (simp; done) | (simp [*]; done) | (simp [wrap64]; done)), H', ⟨by have := HJ1.out; have := HJ6.out; have := HK3.out; first | omega | exact Nat.le_refl _⟩, ⟨bb_ HB⟩⟩
        rw [if_pos c13] at H
        have qp : decide (48 ≤ (bt a0 qb)) = true := decide_eq_true c13
        clear c13
        by_cases c15 : (bt a0 qb) ≤ 57
        rotate_left
        ·
         rw [if_neg c15] at H
         have qq : decide ((bt a0 qb) ≤ 57) = false := decide_eq_false c15
         clear c15
         have H' := Aside0.mk H
         clear H
         have p12 : 0 ≤ (qb : Int) := of_decide_eq_true (by first | (with_reducible assumption) | assumption)
         have q12 : qb < (a0.size : Int) := of_decide_eq_true (by first | (with_reducible assumption) | assumption)
         have hx12 := bt_at a0 qb
         replace p12 := eq_true p12
         replace q12 := eq_true q12
         have p14 : 0 ≤ (qb : Int) := of_decide_eq_true (by first | (with_reducible assumption) | assumption)
         have q14 : qb < (a0.size : Int) := of_decide_eq_true (by first | (with_reducible assumption) | assumption)
         have hx14 := bt_at a0 qb
         replace p14 := eq_true p14
         replace q14 := eq_true q14
         go_wp2
         go_meet
         case rel => exact ⟨_, (qb), (by first | rfl | (simp; done) | (simp [*]; done) | (simp [wrap64]; done)), H', ⟨by have := HJ1.out; have := HJ6.out; have := HK3.out; first | omega | exact Nat.le_refl _⟩, ⟨bb_ HB⟩⟩
        rw [if_pos c15] at H
        have qq : decide ((bt a0 qb) ≤ 57) = true := decide_eq_true c15
        clear c15
        have H' := Aside0.mk H
        clear H
        have p12 : 0 ≤ (qb : Int) := of_decide_eq_true (by first | (with_reducible assumption) | assumption)
        have q12 : qb < (a0.size : Int) := of_decide_eq_true (by first | (with_reducible assumption) | assumption)
        have hx12 := bt_at a0 qb
        replace p12 := eq_true p12
        replace q12 := eq_true q12
        have p14 : 0 ≤ (qb : Int) := of_decide_eq_true (by first | (with_reducible assumption) | assumption)
        have q14 : qb < (a0.size : Int) := of_decide_eq_true (by first | (with_reducible assumption) | assumption)
        have hx14 := bt_at a0 qb
        replace p14 := eq_true p14
        replace q14 := eq_true q14
        go_wp2
        go_roundg k3
        case measure => have := HJ1.out; have := HJ6.out; have := HK3.out; omega
        case rel => exact ⟨(wrap64 (qb + 1)), (by first | rfl | (simp; done) | (simp [*]; done) | (simp [wrap64]; done)), H', ⟨by have := HJ1.out; have := HJ6.out; have := HK3.out; omega⟩, ⟨bb_ HB⟩⟩
     case rest =>
      clear HC9
      try clear c1
      try clear p1
      try clear q1
      try clear hx1
      try clear p2
      try clear c3
      try clear qf
      try clear qm
      try clear p4
      try clear q4
      try clear hx4
      try clear qi4
      try clear c5
      try clear qn
      try clear qo
      try clear p6
      try clear q6
      try clear hx6
      try clear qi6
      try clear c8
      try clear c10
      try clear qe
      try clear c11
      try clear qt
      try clear p12
      try clear q12
      try clear hx12
      try clear c13
      try clear qp
      try clear p14
      try clear q14
      try clear hx14
      try clear c15
      try clear qq
      try clear p12
      try clear p14
      try clear p2
      try clear p4
      try clear p6
      try clear q12
      try clear q14
      try clear q4
      try clear q6
      obtain ⟨kq, qc, rfl, HA, HJ8, HB⟩ := hcut
      cases kq with
      | zero => exact absurd HA.out (by simp [impl_readTerm.j3])
      | succ kj8 =>
       have H := HA.out
       clear HA
       simp only [impl_readTerm.j3] at H
       by_cases c16 : 0 ≤ qc
       rotate_left
       ·
        rw [if_neg c16] at H
        exact absurd H (by simp)
       rw [if_pos c16] at H
       have qu := eq_true c16
       have qv : decide (0 ≤ qc) = true := decide_eq_true c16
       clear c16
       by_cases c17 : qc ≤ (a0.size : Int)
       rotate_left
       ·
        rw [if_neg c17] at H
        exact absurd H (by simp)
       rw [if_pos c17] at H
       have qw := eq_true c17
       have qx : decide (qc ≤ (a0.size : Int)) = true := decide_eq_true c17
       clear c17
       replace H := Option.bind_eq_some_iff.mp H
       obtain ⟨qa, A180, H⟩ := H
       replace H : (if qc < (a0.size : Int) then ((strings_IndexByte.f (⟨#[120, 121, 122, 116]⟩ : ByteArray) (bt a0 qc)).bind fun qk => (impl_readTerm.j4 kj8 a0 qc qa qk)) else (impl_readTerm.j4 kj8 a0 qc qa (-1))) = some (r1, r2, r3, r4) := H
       have A18 := Aside0.mk A180
       clear A180
       have HC19 := Aside0.mk H
       clear H
       go_upto_if 55 with (first | ((with_reducible refine gate_callee (f := 105) rfl ?_); refine gL_ (some 51) Tryd.func105 #[.string (a0.extract 0 (qc : Int).toNat), .string (⟨#[43]⟩ : ByteArray)] ?_; (with_reducible refine (strings_TrimPrefix.calls (a0.extract 0 (qc : Int).toNat) (⟨#[43]⟩ : ByteArray) qa _ A18.out).mono ?_); rintro e w' ⟨rfl, ⟨nd, rfl⟩⟩; refine ⟨_, rfl, ?_⟩))
       (try simp only [Act.put, List.setIfInBounds_toArray, List.set_cons_zero, List.set_cons_succ])
       go_cut [8] (fun v8 wc => ∃ (kq : Nat) (qd : Int), v8 = .int .i64 qd ∧ Aside0 (impl_readTerm.j4 kq a0 qc qa qd = some (r1, r2, r3, r4)) ∧ Aside0 (kq ≤ kj8) ∧ Aside0 (Below w.heap.size w wc))
       case first =>
        have H := HC19.out
        clear HC19
        by_cases c20 : qc < (a0.size : Int)
        rotate_left
        ·
         rw [if_neg c20] at H
         have qg : decide (qc < (a0.size : Int)) = false := decide_eq_false c20
         clear c20
         (first | rw [qg] | (simp only [i64_w, i32_w]; rw [qg]) | skip)
         have H' := Aside0.mk H
         clear H
         go_wp2
         go_meet
         case rel => exact ⟨_, ((-1)), (by first | rfl | (simp; done) | (simp [*]; done) | (simp [wrap64]; done)), H', ⟨by have := HJ1.out; have := HJ6.out; have := HJ8.out; first | omega | exact Nat.le_refl _⟩, ⟨bb_ HB⟩⟩
        rw [if_pos c20] at H
        have qg : decide (qc < (a0.size : Int)) = true := decide_eq_true c20
        clear c20
        (first | rw [qg] | (simp only [i64_w, i32_w]; rw [qg]) | skip)
        replace H := Option.bind_eq_some_iff.mp H
        obtain ⟨qk, A220, H⟩ := H
        replace H : (impl_readTerm.j4 kj8 a0 qc qa qk) = some (r1, r2, r3, r4) := H
        have A22 := Aside0.mk A220
        clear A220
        have H' := Aside0.mk H
        clear H
        have p21 : 0 ≤ (qc : Int) := of_decide_eq_true (by first | (with_reducible assumption) | assumption)
        have q21 : qc < (a0.size : Int) := of_decide_eq_true (by first | (with_reducible assumption) | assumption)
        have hx21 := bt_at a0 qc
        replace p21 := eq_true p21
        replace q21 := eq_true q21
        go_wp2_with (first | ((with_reducible refine gate_callee (f := 106) rfl ?_); refine gL_ (some 59) Tryd.func106 #[.string (⟨#[120, 121, 122, 116]⟩ : ByteArray), .int .u8 (bt a0 qc)] ?_; (with_reducible refine (strings_IndexByte.calls (⟨#[120, 121, 122, 116]⟩ : ByteArray) (bt a0 qc) qk _ A22.out).mono ?_); rintro e w' ⟨rfl, ⟨nd, rfl⟩⟩; refine ⟨_, rfl, ?_⟩))
        go_meet
        case rel => exact ⟨_, (qk), (by first | rfl | (simp; done) | (simp [*]; done) | (simp [wrap64]; done)), H', ⟨by have := HJ1.out; have := HJ6.out; have := HJ8.out; first | omega | exact Nat.le_refl _⟩, ⟨bb_ HB⟩⟩
       case rest =>
        clear HC19
        try clear c1
        try clear p1
        try clear q1
        try clear hx1
        try clear c2
        try clear p2
        try clear q2
        try clear hx2
        try clear c3
        try clear qf
        try clear qm
        try clear p4
        try clear q4
        try clear hx4
        try clear qi4
        try clear c5
        try clear qn
        try clear qo
        try clear p6
        try clear q6
        try clear hx6
        try clear qi6
        try clear c8
        try clear c10
        try clear qe
        try clear c11
        try clear qt
        try clear p12
        try clear q12
        try clear hx12
        try clear c13
        try clear qp
        try clear p14
        try clear q14
        try clear hx14
        try clear c15
        try clear qq
        try clear c16
        try clear qu
        try clear qv
        try clear c17
        try clear qw
        try clear qx
        try clear c20
        try clear qg
        try clear p21
        try clear q21
        try clear hx21
        try clear p1
        try clear p12
        try clear p14
        try clear p2
        try clear p21
        try clear p4
        try clear p6
        try clear q1
        try clear q12
        try clear q14
        try clear q21
        try clear q4
        try clear q6
        obtain ⟨kq, qd, rfl, HA, HJ18, HB⟩ := hcut
        cases kq with
        | zero => exact absurd HA.out (by simp [impl_readTerm.j4])
        | succ kj18 =>
         have H := HA.out
         clear HA
         simp only [impl_readTerm.j4] at H
         by_cases c23 : 0 ≤ qc
         rotate_left
         ·
          rw [if_neg c23] at H
          exact absurd H (by simp)
         rw [if_pos c23] at H
         have qL := eq_true c23
         have qM : decide (0 ≤ qc) = true := decide_eq_true c23
         clear c23
         by_cases c24 : qc ≤ (a0.size : Int)
         rotate_left
         ·
          rw [if_neg c24] at H
          exact absurd H (by simp)
         rw [if_pos c24] at H
         have qN := eq_true c24
         have qO : decide (qc ≤ (a0.size : Int)) = true := decide_eq_true c24
         clear c24
         by_cases c25 : qd ≥ 0
         rotate_left
         ·
          rw [if_neg c25] at H
          have qy : decide (0 ≤ qd) = false := decide_eq_false c25
          clear c25
          replace H := Option.bind_eq_some_iff.mp H
          obtain ⟨⟨qz, qA⟩, A390, H⟩ := H
          replace H : (some (qz, qd, a0.extract (qc : Int).toNat a0.size, qA)) = some (r1, r2, r3, r4) := H
          have A39 := Aside0.mk A390
          clear A390
          simp only [Option.some.injEq, Prod.mk.injEq] at H
          obtain ⟨rfl, rfl, rfl, rfl⟩ := H
          go_wp2_with (first | ((with_reducible refine gate_callee (f := 17) rfl ?_); refine gL_ (some 79) Tryd.func17 #[.string qa] ?_; (with_reducible refine (impl_ParseInt.calls (hL := laid_ HL_ HB) qa qz qA _ A39.out).mono ?_); rintro e qZ ⟨rfl, hb⟩; refine ⟨_, rfl, ?_⟩; replace HB := bS_ HB hb; clear hb))
          refine bodyPost_ret (results_list (rs := [.tmp 2, .tmp 3, .tmp 4, .tmp 5]) rfl (by simp) (.tmp (.tmp (.tmp (.tmp .nil))))) rfl ?_
          exact ⟨by first | rfl | (simp [errW_none, errW_some] <;> rfl) | (simp [*, errW_none, errW_some] <;> rfl), bb_ HB⟩
         rw [if_pos c25] at H
         have qy : decide (0 ≤ qd) = true := decide_eq_true c25
         clear c25
         obtain ⟨ji26, hji26⟩ : ∃ j_ : Int, (wrap64 (qc + 1)) = j_ := ⟨_, rfl⟩
         replace H : (if 0 ≤ (ji26) then (if (ji26) ≤ (a0.size : Int) then (if qa.toList = ([] : List UInt8) then (if qa.size + 1 ≤ 9223372036854775807 then ((impl_ParseInt.f (qa ++ (⟨#[49]⟩ : ByteArray))).bind fun qh => (some (qh.1, qd, a0.extract ((ji26) : Int).toNat a0.size, qh.2))) else (none)) else (if qa.toList = ([45] : List UInt8) then (if qa.size + 1 ≤ 9223372036854775807 then ((impl_ParseInt.f (qa ++ (⟨#[49]⟩ : ByteArray))).bind fun qi => (some (qi.1, qd, a0.extract ((ji26) : Int).toNat a0.size, qi.2))) else (none)) else ((impl_ParseInt.f qa).bind fun qj => (some (qj.1, qd, a0.extract ((ji26) : Int).toNat a0.size, qj.2))))) else (none)) else (none)) = some (r1, r2, r3, r4) := by first | (rw [hji26] at H; exact H) | (simp only [hji26] at H ⊢; exact H)
         have hji26w : (IntKind.i64.wrap (qc + 1)) = ji26 := (i64_w _).trans hji26
         by_cases c27 : 0 ≤ (ji26)
         rotate_left
         ·
          rw [if_neg c27] at H
          exact absurd H (by simp)
         rw [if_pos c27] at H
         have qP := eq_true c27
         have qQ : decide (0 ≤ (ji26)) = true := decide_eq_true c27
         clear c27
         by_cases c28 : (ji26) ≤ (a0.size : Int)
         rotate_left
         ·
          rw [if_neg c28] at H
          exact absurd H (by simp)
         rw [if_pos c28] at H
         have qR := eq_true c28
         have qS : decide ((ji26) ≤ (a0.size : Int)) = true := decide_eq_true c28
         clear c28
         by_cases c29 : qa.toList = ([] : List UInt8)
         ·
          rw [if_pos c29] at H
          have qB : (qa.toList == ([] : List UInt8)) = true := beq_iff_eq.mpr c29
          have qC : (qa.toList != ([] : List UInt8)) = false := bne_eq_false_iff_eq.mpr c29
          clear c29
          by_cases c30 : qa.size + 1 ≤ 9223372036854775807
          rotate_left
          ·
           rw [if_neg c30] at H
           exact absurd H (by simp)
          rw [if_pos c30] at H
          have qT := eq_true c30
          have qU : decide (qa.size + 1 ≤ 9223372036854775807) = true := decide_eq_true c30
          try have qV : (9223372036854775807 < qa.size + 1) = False := eq_false (Nat.not_lt.2 c30)
          replace H := Option.bind_eq_some_iff.mp H
          obtain ⟨⟨qD, qE⟩, A310, H⟩ := H
          replace H : (some (qD, qd, a0.extract ((ji26) : Int).toNat a0.size, qE)) = some (r1, r2, r3, r4) := H
          have A31 := Aside0.mk A310
          clear A310
          simp only [Option.some.injEq, Prod.mk.injEq] at H
          obtain ⟨rfl, rfl, rfl, rfl⟩ := H
          go_wp2_with (first | ((with_reducible refine gate_callee (f := 17) rfl ?_); refine gL_ (some 79) Tryd.func17 #[.string (qa ++ (⟨#[49]⟩ : ByteArray))] ?_; (with_reducible refine (impl_ParseInt.calls (hL := laid_ HL_ HB) (qa ++ (⟨#[49]⟩ : ByteArray)) qD qE _ A31.out).mono ?_); rintro e q0 ⟨rfl, hb⟩; refine ⟨_, rfl, ?_⟩; replace HB := bS_ HB hb; clear hb))
          refine bodyPost_ret (results_list (rs := [.tmp 2, .tmp 3, .tmp 4, .tmp 5]) rfl (by simp) (.tmp (.tmp (.tmp (.tmp .nil))))) rfl ?_
          exact ⟨by first | rfl | (simp [errW_none, errW_some] <;> rfl) | (simp only [← hji26]; first | rfl | (simp [errW_none, errW_some] <;> rfl)) | (simp [*, errW_none, errW_some] <;> rfl), bb_ HB⟩
         rw [if_neg c29] at H
         have qB : (qa.toList == ([] : List UInt8)) = false := beq_eq_false_iff_ne.mpr c29
         have qC : (qa.toList != ([] : List UInt8)) = true := bne_iff_ne.mpr c29
         by_cases c33 : qa.toList = ([45] : List UInt8)
         rotate_left
         ·
          rw [if_neg c33] at H
          have qF : (qa.toList == ([45] : List UInt8)) = false := beq_eq_false_iff_ne.mpr c33
          have qG : (qa.toList != ([45] : List UInt8)) = true := bne_iff_ne.mpr c33
          replace H := Option.bind_eq_some_iff.mp H
          obtain ⟨⟨qH, qI⟩, A370, H⟩ := H
          replace H : (some (qH, qd, a0.extract ((ji26) : Int).toNat a0.size, qI)) = some (r1, r2, r3, r4) := H
          have A37 := Aside0.mk A370
          clear A370
          simp only [Option.some.injEq, Prod.mk.injEq] at H
          obtain ⟨rfl, rfl, rfl, rfl⟩ := H
          go_wp2_with (first | ((with_reducible refine gate_callee (f := 17) rfl ?_); refine gL_ (some 79) Tryd.func17 #[.string qa] ?_; (with_reducible refine (impl_ParseInt.calls (hL := laid_ HL_ HB) qa qH qI _ A37.out).mono ?_); rintro e q3 ⟨rfl, hb⟩; refine ⟨_, rfl, ?_⟩; replace HB := bS_ HB hb; clear hb))
          refine bodyPost_ret (results_list (rs := [.tmp 2, .tmp 3, .tmp 4, .tmp 5]) rfl (by simp) (.tmp (.tmp (.tmp (.tmp .nil))))) rfl ?_
          exact ⟨by first | rfl | (simp [errW_none, errW_some] <;> rfl) | (simp only [← hji26]; first | rfl | (simp [errW_none, errW_some] <;> rfl)) | (simp [*, errW_none, errW_some] <;> rfl), bb_ HB⟩
         rw [if_pos c33] at H
         have qF : (qa.toList == ([45] : List UInt8)) = true := beq_iff_eq.mpr c33
         have qG : (qa.toList != ([45] : List UInt8)) = false := bne_eq_false_iff_eq.mpr c33
         clear c33
         by_cases c34 : qa.size + 1 ≤ 9223372036854775807
         rotate_left
         ·
          rw [if_neg c34] at H
          exact absurd H (by simp)
         rw [if_pos c34] at H
         have qW := eq_true c34
         have qX : decide (qa.size + 1 ≤ 9223372036854775807) = true := decide_eq_true c34
         try have qY : (9223372036854775807 < qa.size + 1) = False := eq_false (Nat.not_lt.2 c34)
         replace H := Option.bind_eq_some_iff.mp H
         obtain ⟨⟨qJ, qK⟩, A350, H⟩ := H
         replace H : (some (qJ, qd, a0.extract ((ji26) : Int).toNat a0.size, qK)) = some (r1, r2, r3, r4) := H
         have A35 := Aside0.mk A350
         clear A350
         simp only [Option.some.injEq, Prod.mk.injEq] at H
         obtain ⟨rfl, rfl, rfl, rfl⟩ := H
         go_wp2_with (first | ((with_reducible refine gate_callee (f := 17) rfl ?_); refine gL_ (some 79) Tryd.func17 #[.string (qa ++ (⟨#[49]⟩ : ByteArray))] ?_; (with_reducible refine (impl_ParseInt.calls (hL := laid_ HL_ HB) (qa ++ (⟨#[49]⟩ : ByteArray)) qJ qK _ A35.out).mono ?_); rintro e q5 ⟨rfl, hb⟩; refine ⟨_, rfl, ?_⟩; replace HB := bS_ HB hb; clear hb))
         refine bodyPost_ret (results_list (rs := [.tmp 2, .tmp 3, .tmp 4, .tmp 5]) rfl (by simp) (.tmp (.tmp (.tmp (.tmp .nil))))) rfl ?_
         exact ⟨by first | rfl | (simp [errW_none, errW_some] <;> rfl) | (simp only [← hji26]; first | rfl | (simp [errW_none, errW_some] <;> rfl)) | (simp [*, errW_none, errW_some] <;> rfl), bb_ HB⟩

/-! ### impl_ParseAtom: function 41 -/
mutual
def impl_ParseAtom.j0 : Nat → ByteArray → Int → Bool → Option (List Int × Int × Bool × Bool)
 | 0, _, _, _ => none
 | k + 1, x0, x1, x25 => if x25 = true then (some (([] : List Int), 0, false, false)) else (if 0 ≤ x1 then (if (x1 : Int).toNat ≤ 35184372088832 then ((some (List.replicate (x1 : Int).toNat 0 : List Int)).bind fun y159 => ((strings_CutSuffix.f x0 (⟨#[60, 48]⟩ : ByteArray)).bind fun ql => (if ql.2 = true then (impl_ParseAtom.j1 k x0 x1 ql.1 ql.2 y159 0 false) else ((strings_CutSuffix.f x0 (⟨#[60, 61, 48]⟩ : ByteArray)).bind fun qm => (if qm.2 = true then (impl_ParseAtom.j1 k x0 x1 qm.1 ql.2 y159 0 false) else (some (([] : List Int), 0, false, false))))))) else (none)) else (none))
def impl_ParseAtom.j1 : Nat → ByteArray → Int → ByteArray → Bool → List Int → Int → Bool → Option (List Int × Int × Bool × Bool)
 | 0, _, _, _, _, _, _, _ => none
 | k + 1, x0, x1, x7, x8, x163000, x163001, x163002 => impl_ParseAtom.l0 k x0 x1 x7 x163000 x163001 x8
def impl_ParseAtom.l0 : Nat → ByteArray → Int → ByteArray → List Int → Int → Bool → Option (List Int × Int × Bool × Bool)
 | 0, _, _, _, _, _, _ => none
 | k + 1, x0, x1, x7, x163000, x163001, x163002 => if x7.toList = ([] : List UInt8) then ((impl_FormatAtom.f k x163000 x163001 x163002).bind fun qu => (if qu.toList = x0.toList then (some (x163000, x163001, x163002, true)) else (some (([] : List Int), 0, false, false)))) else ((impl_readTerm.f k x7).bind fun qs => (if qs.2.2.2 = true then (impl_ParseAtom.j3 k x0 x1 qs.1 qs.2.1 qs.2.2.1 (decide (qs.2.1 ≥ x1)) x163000 x163001 x163002) else (impl_ParseAtom.j3 k x0 x1 qs.1 qs.2.1 qs.2.2.1 true x163000 x163001 x163002)))
def impl_ParseAtom.j3 : Nat → ByteArray → Int → Int → Int → ByteArray → Bool → List Int → Int → Bool → Option (List Int × Int × Bool × Bool)
 | 0, _, _, _, _, _, _, _, _, _ => none
 | k + 1, x0, x1, x11, x12, x13, x63, x163000, x163001, x163002 => if x63 = true then (some (([] : List Int), 0, false, false)) else (if x12 ≥ 0 then (if 0 ≤ x12 then (if x12 < (x163000.length : Int) then (impl_ParseAtom.l0 k x0 x1 x13 (x163000.set (x12 : Int).toNat x11) x163001 x163002) else (none)) else (none)) else (impl_ParseAtom.l0 k x0 x1 x13 x163000 x11 x163002))
end
def impl_ParseAtom.f (k : Nat) (a0 : ByteArray) (a1 : Int) : Option (List Int × Int × Bool × Bool) := if a1 < 0 then (impl_ParseAtom.j0 k a0 a1 true) else (if a1 > 4 then (impl_ParseAtom.j0 k a0 a1 true) else (impl_ParseAtom.j0 k a0 a1 (decide ((a0.size : Int) > 80))))
theorem impl_ParseAtom.mono_l : ∀ k, (∀ y0 y1 y2, LeO (impl_ParseAtom.j0 k y0 y1 y2) (impl_ParseAtom.j0 (k + 1) y0 y1 y2)) ∧ (∀ y0 y1 y2 y3 y4 y5 y6, LeO (impl_ParseAtom.j1 k y0 y1 y2 y3 y4 y5 y6) (impl_ParseAtom.j1 (k + 1) y0 y1 y2 y3 y4 y5 y6)) ∧ (∀ y0 y1 y2 y3 y4 y5, LeO (impl_ParseAtom.l0 k y0 y1 y2 y3 y4 y5) (impl_ParseAtom.l0 (k + 1) y0 y1 y2 y3 y4 y5)) ∧ (∀ y0 y1 y2 y3 y4 y5 y6 y7 y8, LeO (impl_ParseAtom.j3 k y0 y1 y2 y3 y4 y5 y6 y7 y8) (impl_ParseAtom.j3 (k + 1) y0 y1 y2 y3 y4 y5 y6 y7 y8))
 | 0 => ⟨fun _ _ _ r h => by simp [impl_ParseAtom.j0] at h, fun _ _ _ _ _ _ _ r h => by simp [impl_ParseAtom.j1] at h, fun _ _ _ _ _ _ r h => by simp [impl_ParseAtom.l0] at h, fun _ _ _ _ _ _ _ _ _ r h => by simp [impl_ParseAtom.j3] at h⟩
 | k + 1 => by
  obtain ⟨ih0, ih1, ih2, ih3⟩ := impl_ParseAtom.mono_l k
  refine ⟨?_, ?_, ?_, ?_⟩ <;> (intros; first | unfold impl_ParseAtom.j0 | unfold impl_ParseAtom.j1 | unfold impl_ParseAtom.l0 | unfold impl_ParseAtom.j3)
  all_goals
   repeat' first
   | (with_reducible exact ih0 _ _ _)
   | (with_reducible exact ih1 _ _ _ _ _ _ _)
   | (with_reducible exact ih2 _ _ _ _ _ _)
   | (with_reducible exact ih3 _ _ _ _ _ _ _ _ _)
   | (with_reducible exact impl_FormatAtom.mono _ _ _ _)
   | (with_reducible exact impl_readTerm.mono _ _)
   | (with_reducible exact LeO.refl _)
   | (with_reducible exact LeO.none _)
   | (with_reducible refine LeO.ite ?_ ?_)
   | (with_reducible refine LeO.bind ?_ (fun _ => ?_))
   | exact ih0 _ _ _
   | exact ih1 _ _ _ _ _ _ _
   | exact ih2 _ _ _ _ _ _
   | exact ih3 _ _ _ _ _ _ _ _ _
   | exact impl_FormatAtom.mono _ _ _ _
   | exact impl_readTerm.mono _ _
   | exact LeO.none _
   | refine LeO.ite ?_ ?_
   | refine LeO.bind ?_ (fun _ => ?_)
theorem impl_ParseAtom.mono : ∀ a0 a1 k, LeO (impl_ParseAtom.f k a0 a1) (impl_ParseAtom.f (k + 1) a0 a1) := by
 intro a0 a1 k
 obtain ⟨ih0, ih1, ih2, ih3⟩ := impl_ParseAtom.mono_l k
 unfold impl_ParseAtom.f
 repeat' first
   | (with_reducible exact ih0 _ _ _)
   | (with_reducible exact ih1 _ _ _ _ _ _ _)
   | (with_reducible exact ih2 _ _ _ _ _ _)
   | (with_reducible exact ih3 _ _ _ _ _ _ _ _ _)
   | (with_reducible exact impl_FormatAtom.mono _ _ _ _)
   | (with_reducible exact impl_readTerm.mono _ _)
   | (with_reducible exact LeO.refl _)
   | (with_reducible exact LeO.none _)
   | (with_reducible refine LeO.ite ?_ ?_)
   | (with_reducible refine LeO.bind ?_ (fun _ => ?_))
   | exact ih0 _ _ _
   | exact ih1 _ _ _ _ _ _ _
   | exact ih2 _ _ _ _ _ _
   | exact ih3 _ _ _ _ _ _ _ _ _
   | exact impl_FormatAtom.mono _ _ _ _
   | exact impl_readTerm.mono _ _
   | exact LeO.none _
   | refine LeO.ite ?_ ?_
   | refine LeO.bind ?_ (fun _ => ?_)
set_option maxHeartbeats 8000000 in
set_option maxRecDepth 100000 in
theorem impl_ParseAtom.calls (k : Nat) (a0 : ByteArray) (a1 : Int) (r1 : List Int) (r2 : Int) (r3 : Bool) (r4 : Bool) (w : World) (hL : LaidW w) (h : impl_ParseAtom.f k a0 a1 = some (r1, r2, r3, r4)) :
  Calls Tryd.prog 41 #[.string a0, .int .i64 a1] w fun e w' => ∃ v0_ : Value, e = .returned (.tuple #[.agg #[v0_, .int .i64 r2, .bool r3], .bool r4]) ∧ Kd.R (Kd.int .i64) 3 w' w.heap.size (fun _ => True) v0_ r1 ∧ Below w.heap.size w w' := by
 have HL_ := Aside0.mk hL
 clear hL
 have hu27 := Tryd.underlying27
 have HB := Aside0.mk (Below.refl w.heap.size w)
 have H : (if a1 < 0 then (impl_ParseAtom.j0 k a0 a1 true) else (if a1 > 4 then (impl_ParseAtom.j0 k a0 a1 true) else (impl_ParseAtom.j0 k a0 a1 (decide ((a0.size : Int) > 80))))) = some (r1, r2, r3, r4) := h
 clear h
 have HC3 := Aside0.mk H
 clear H
 go_enter Tryd.func41, Tryd.ntmps41
 go_upto_region 1 with (first | ((with_reducible refine gate_dst (N := 4) rfl ?_); (try (refine gate_guard (by rfl) ?_; dsimp only)); refine bx_ (cs := #[.slice none 0 0, .int .i64 0, .bool false]) (t := 27) ?_; intro qn hg w4 hbox hb; have qd := Aside0.mk (hbox); have jb := hz_ HB hg; have jc := hz_ HB hg; replace HB := bS_ HB hb; clear hb hbox hg))
 (try simp only [Act.put, List.setIfInBounds_toArray, List.set_cons_zero, List.set_cons_succ])
 go_cut [25] (fun v25 wc => ∃ (kq : Nat) (qT : Bool), v25 = .bool qT ∧ Aside0 (impl_ParseAtom.j0 kq a0 a1 qT = some (r1, r2, r3, r4)) ∧ Aside0 (kq ≤ k) ∧ Aside0 (wc.heap[qn]? = some (.cells #[(.slice none 0 0), .int .i64 0, .bool false] 27 (0, 0))) ∧ Aside0 (Below w.heap.size w wc))
 case first =>
  have H := HC3.out
  clear HC3
  by_cases c5 : a1 < 0
  ·
   rw [if_pos c5] at H
   have qy : decide (a1 < 0) = true := decide_eq_true c5
   clear c5
   (first | rw [qy] | (simp only [i64_w, i32_w]; rw [qy]) | skip)
   have H' := Aside0.mk H
   clear H
   go_wp2
   go_meet
   case rel => exact ⟨_, (true), (by first | rfl | (simp; done) | (simp [*]; done)), H', ⟨by first | omega | exact Nat.le_refl _⟩, ⟨kf_ qd⟩, ⟨bb_ HB⟩⟩
  rw [if_neg c5] at H
  have qy : decide (a1 < 0) = false := decide_eq_false c5
  clear c5
  (first | rw [qy] | (simp only [i64_w, i32_w]; rw [qy]) | skip)
  by_cases c6 : a1 > 4
  ·
   rw [if_pos c6] at H
   have q1 : decide (4 < a1) = true := decide_eq_true c6
   clear c6
   have H' := Aside0.mk H
   clear H
   go_wp2
   go_meet
   case rel => exact ⟨_, (true), (by first | rfl | (simp; done) | (simp [*]; done)), H', ⟨by first | omega | exact Nat.le_refl _⟩, ⟨kf_ qd⟩, ⟨bb_ HB⟩⟩
  rw [if_neg c6] at H
  have q1 : decide (4 < a1) = false := decide_eq_false c6
  clear c6
  have H' := Aside0.mk H
  clear H
  go_wp2
  go_meet
  case rel => exact ⟨_, (decide ((a0.size : Int) > 80)), (by first | rfl | (simp; done) | (simp [*]; done)), H', ⟨by first | omega | exact Nat.le_refl _⟩, ⟨kf_ qd⟩, ⟨bb_ HB⟩⟩
 case rest =>
  clear HC3
  try clear p2
  try clear c4
  try clear c5
  try clear qy
  try clear c6
  try clear q1
  obtain ⟨kq, qT, rfl, HA, HJ2, qd, HB⟩ := hcut
  cases kq with
  | zero => exact absurd HA.out (by simp [impl_ParseAtom.j0])
  | succ kj2 =>
   have H := HA.out
   clear HA
   simp only [impl_ParseAtom.j0] at H
   by_cases c7 : qT = true
   ·
    subst c7
    have H1 : (some (([] : List Int), 0, false, false)) = some (r1, r2, r3, r4) := by rw [if_pos rfl] at H; exact H
    clear H
    have H := H1
    clear H1
    simp only [Option.some.injEq, Prod.mk.injEq] at H
    obtain ⟨rfl, rfl, rfl, rfl⟩ := H
    obtain ⟨qN, qO, qP, qQ, qR, qS⟩ := b3_ qd
    go_wp2
    refine bodyPost_ret (results_ct rfl _ _ qn 27 #[.slice none 0 0, .int .i64 0, .bool false] (0, 0) _ rfl (by (with_reducible repeat (first | refine blk_drewN ?_ _ | refine blk_drew ?_ | refine blk_alloc ?_ _)); refine blk_put (cs := #[.slice none 0 0, .int .i64 0, .bool false]) ?_ 2 _ rfl; (with_reducible repeat (first | refine blk_drewN ?_ _ | refine blk_drew ?_ | refine blk_alloc ?_ _)); refine blk_put (cs := #[.slice none 0 0, .int .i64 0, .bool false]) ?_ 1 _ rfl; (with_reducible repeat (first | refine blk_drewN ?_ _ | refine blk_drew ?_ | refine blk_alloc ?_ _)); refine blk_put (cs := #[.slice none 0 0, .int .i64 0, .bool false]) ?_ 0 _ rfl; (with_reducible repeat (first | refine blk_drewN ?_ _ | refine blk_drew ?_ | refine blk_alloc ?_ _)); exact qd.out) Tryd.underlying27 rfl (by kernel_rfl)) rfl ?_
    exact ⟨_, by first | rfl | (simp [errW_none, errW_some] <;> rfl) | (simp [*, errW_none, errW_some] <;> rfl), by first | exact Kd.R_nil _ _ _ _ _ | exact Kd.N_nil _ _ _ _ _ | exact Kd.V_nil _ _ _ _ _ | exact Kd.Q_nil _ _ _ _ _ | exact Kd.S_nil _ _ _ _ _, bb_ HB⟩
   replace c7 := Bool.eq_false_iff.mpr c7
   subst c7
   have H1 : (if 0 ≤ a1 then (if (a1 : Int).toNat ≤ 35184372088832 then ((some (List.replicate (a1 : Int).toNat 0 : List Int)).bind fun y159 => ((strings_CutSuffix.f a0 (⟨#[60, 48]⟩ : ByteArray)).bind fun ql => (if ql.2 = true then (impl_ParseAtom.j1 kj2 a0 a1 ql.1 ql.2 y159 0 false) else ((strings_CutSuffix.f a0 (⟨#[60, 61, 48]⟩ : ByteArray)).bind fun qm => (if qm.2 = true then (impl_ParseAtom.j1 kj2 a0 a1 qm.1 ql.2 y159 0 false) else (some (([] : List Int), 0, false, false))))))) else (none)) else (none)) = some (r1, r2, r3, r4) := by rw [if_neg (show ¬ (false = true) by decide)] at H; exact H
   clear H
   have H := H1
   clear H1
   by_cases c9 : 0 ≤ a1
   rotate_left
   ·
    rw [if_neg c9] at H
    exact absurd H (by simp)
   rw [if_pos c9] at H
   have zG := eq_true c9
   have zH : decide (0 ≤ a1) = true := decide_eq_true c9
   clear c9
   by_cases c10 : (a1 : Int).toNat ≤ 35184372088832
   rotate_left
   ·
    rw [if_neg c10] at H
    exact absurd H (by simp)
   rw [if_pos c10] at H
   have q2 := eq_true c10
   have q3 : decide ((a1 : Int).toNat ≤ 35184372088832) = true := decide_eq_true c10
   clear c10
   obtain ⟨y159, hy159⟩ : ∃ y_ : List Int, y_ = (List.replicate (a1 : Int).toNat 0) := ⟨_, rfl⟩
   replace H : ((strings_CutSuffix.f a0 (⟨#[60, 48]⟩ : ByteArray)).bind fun ql => (if ql.2 = true then (impl_ParseAtom.j1 kj2 a0 a1 ql.1 ql.2 y159 0 false) else ((strings_CutSuffix.f a0 (⟨#[60, 61, 48]⟩ : ByteArray)).bind fun qm => (if qm.2 = true then (impl_ParseAtom.j1 kj2 a0 a1 qm.1 ql.2 y159 0 false) else (some (([] : List Int), 0, false, false)))))) = some (r1, r2, r3, r4) := by first | (rw [hy159]; with_reducible exact H) | (have H2_ := (Option.bind_some _ _).symm.trans H; rw [hy159]; with_reducible exact H2_) | (have H2_ := (Option.bind_some _ _).symm.trans H; with_reducible exact H2_) | with_reducible exact H | (rw [hy159]; exact H) | exact H
   have Ny159 := Aside0.mk hy159
   clear hy159
   replace H := Option.bind_eq_some_iff.mp H
   obtain ⟨⟨q7, qj⟩, A110, H⟩ := H
   replace H : (if qj = true then (impl_ParseAtom.j1 kj2 a0 a1 q7 qj y159 0 false) else ((strings_CutSuffix.f a0 (⟨#[60, 61, 48]⟩ : ByteArray)).bind fun qm => (if qm.2 = true then (impl_ParseAtom.j1 kj2 a0 a1 qm.1 qj y159 0 false) else (some (([] : List Int), 0, false, false))))) = some (r1, r2, r3, r4) := H
   have A11 := Aside0.mk A110
   clear A110
   have HC12 := Aside0.mk H
   clear H
   go_upto_if 36 with (first | ((with_reducible refine gate_dst (N := 28) rfl ?_); (try (refine gate_guard (by rfl) ?_; dsimp only)); refine Kd.R_make (Kd.int .i64) _ 3 rfl (N := 28) rfl 22 _ _ rfl a1 rfl rfl Tryd.underlying22 (.int .i64 0) 8 info3 rfl (by decide) (by omega) 0 (ok := fun _ => True) (okp := fun _ => True) rfl (fun _ hk => hk) trivial (of_decide_eq_true (by first | (with_reducible assumption) | assumption)) (Nat.le_trans (Nat.mul_le_mul_right _ (of_decide_eq_true (by first | (with_reducible assumption) | assumption) : a1.toNat ≤ 35184372088832)) (by omega)) (Below.refl _ _) (Nat.le_refl _) ?_; intro jx jz ho14 hb hg_ hnew_; clear hg_ hnew_; (first | rw [← Ny159.out] at ho14 | (simp only [Int.reduceToNat] at ho14; rw [← Ny159.out] at ho14)); have qM := Aside0.mk (Kd.R_lower ho14 (bz_ HB)); replace qd := kB_ qd hb; replace HB := bS_ HB hb; clear hb ho14; obtain ⟨qv, qw, eo15⟩ := Kd.R_slice qM.out; subst eo15) | ((with_reducible refine gate_dst (N := 6) rfl ?_); (try (refine gate_guard (by rfl) ?_; dsimp only)); refine bx_ (cs := #[.slice none 0 0, .int .i64 0, .bool false]) (t := 27) ?_; intro qo hg jA hbox hb; replace qM := rB_ qM hb; have qf := Aside0.mk (hbox); have jd := hz_ HB hg; have je := hz_ HB hg; replace HB := bS_ HB hb; have qh := nL_ qd hg; have qi := nG_ qd hg; replace qd := kB_ qd hb; clear hb hbox hg; have jf := qi.out; have jg := qh.out; obtain ⟨qz, qA, qB, qC, qD, qE⟩ := b3_ qf) | ((with_reducible refine gate_callee (f := 82) rfl ?_); refine gL_ (some 32) Tryd.func82 #[.string a0, .string (⟨#[60, 48]⟩ : ByteArray)] ?_; (with_reducible refine (strings_CutSuffix.calls a0 (⟨#[60, 48]⟩ : ByteArray) q7 qj _ A11.out).mono ?_); rintro e w' ⟨rfl, ⟨nd, rfl⟩⟩; refine ⟨_, rfl, ?_⟩))
   (try simp only [Act.put, List.setIfInBounds_toArray, List.set_cons_zero, List.set_cons_succ])
   go_cut [7] (fun v7 wc => ∃ (kq : Nat) (qU : ByteArray) (qp : Int) (qq : Bool), v7 = .string qU ∧ Aside0 (impl_ParseAtom.j1 kq a0 a1 qU qj y159 0 false = some (r1, r2, r3, r4)) ∧ Aside0 (kq ≤ kj2) ∧ Aside0 (Kd.R (Kd.int .i64) 3 wc w.heap.size (fun _ => True) (.slice qv y159.length qw) y159) ∧ Aside0 (wc.heap[qn]? = some (.cells #[(.slice none 0 0), .int .i64 qp, .bool qq] 27 (0, 0))) ∧ Aside0 (wc.heap[qo]? = some (.cells #[(.slice qv y159.length qw), .int .i64 0, .bool false] 27 (0, 0))) ∧ Aside0 (Below w.heap.size w wc))
   case first =>
    have H := HC12.out
    clear HC12
    by_cases c19 : qj = true
    ·
     subst c19
     have H1 : (impl_ParseAtom.j1 kj2 a0 a1 q7 true y159 0 false) = some (r1, r2, r3, r4) := by rw [if_pos rfl] at H; exact H
     clear H
     have H := H1
     clear H1
     have H' := Aside0.mk H
     clear H
     go_wp2
     go_meet
     case rel => exact ⟨_, (q7), (0), (false), (by first | rfl | (simp; done) | (simp [*]; done)), H', ⟨by have := HJ2.out; first | omega | exact Nat.le_refl _⟩, ⟨by (with_reducible repeat (first | apply Kd.R_alloc | apply Kd.R_drewN | apply Kd.R_drew)); exact Kd.R_mono (Kd.R_far (p := ⟨qo, 2, none⟩) (Kd.R_far (p := ⟨qo, 1, none⟩) (Kd.R_far (p := ⟨qo, 0, none⟩) (Kd.R_types qM.out qf.out (by decide)) (fun _ hk => hk.2) (.slice qv y159.length qw)) (fun _ hk => hk.2) (.int .i64 0)) (fun _ hk => hk.2) (.bool false)) (fun _ hk => trivial)⟩, ⟨kf_ qd⟩, ⟨by (with_reducible repeat (first | refine blk_drewN ?_ _ | refine blk_drew ?_ | refine blk_alloc ?_ _)); refine blk_put (cs := #[.slice qv y159.length qw, .int .i64 0, .bool false]) ?_ 2 _ rfl; (with_reducible repeat (first | refine blk_drewN ?_ _ | refine blk_drew ?_ | refine blk_alloc ?_ _)); refine blk_put (cs := #[.slice qv y159.length qw, .int .i64 0, .bool false]) ?_ 1 _ rfl; (with_reducible repeat (first | refine blk_drewN ?_ _ | refine blk_drew ?_ | refine blk_alloc ?_ _)); refine blk_put (cs := #[.slice none 0 0, .int .i64 0, .bool false]) ?_ 0 _ rfl; (with_reducible repeat (first | refine blk_drewN ?_ _ | refine blk_drew ?_ | refine blk_alloc ?_ _)); exact qf.out⟩, ⟨bb_ HB⟩⟩
    replace c19 := Bool.eq_false_iff.mpr c19
    subst c19
    have H1 : ((strings_CutSuffix.f a0 (⟨#[60, 61, 48]⟩ : ByteArray)).bind fun qm => (if qm.2 = true then (impl_ParseAtom.j1 kj2 a0 a1 qm.1 false y159 0 false) else (some (([] : List Int), 0, false, false)))) = some (r1, r2, r3, r4) := by rw [if_neg (show ¬ (false = true) by decide)] at H; exact H
    clear H
    have H := H1
    clear H1
    replace H := Option.bind_eq_some_iff.mp H
    obtain ⟨⟨q4, zL⟩, A200, H⟩ := H
    replace H : (if zL = true then (impl_ParseAtom.j1 kj2 a0 a1 q4 false y159 0 false) else (some (([] : List Int), 0, false, false))) = some (r1, r2, r3, r4) := H
    have A20 := Aside0.mk A200
    clear A200
    by_cases c21 : zL = true
    ·
     subst c21
     have H1 : (impl_ParseAtom.j1 kj2 a0 a1 q4 false y159 0 false) = some (r1, r2, r3, r4) := by rw [if_pos rfl] at H; exact H
     clear H
     have H := H1
     clear H1
     have H' := Aside0.mk H
     clear H
     go_wp2_with (first | ((with_reducible refine gate_callee (f := 82) rfl ?_); refine gL_ (some 39) Tryd.func82 #[.string a0, .string (⟨#[60, 61, 48]⟩ : ByteArray)] ?_; (with_reducible refine (strings_CutSuffix.calls a0 (⟨#[60, 61, 48]⟩ : ByteArray) q4 true _ A20.out).mono ?_); rintro e w' ⟨rfl, ⟨nd, rfl⟩⟩; refine ⟨_, rfl, ?_⟩))
     go_meet
     case rel => exact ⟨_, (q4), (0), (false), (by first | rfl | (simp; done) | (simp [*]; done)), H', ⟨by have := HJ2.out; first | omega | exact Nat.le_refl _⟩, ⟨by (with_reducible repeat (first | apply Kd.R_alloc | apply Kd.R_drewN | apply Kd.R_drew)); exact Kd.R_mono (Kd.R_far (p := ⟨qo, 2, none⟩) (Kd.R_far (p := ⟨qo, 1, none⟩) (Kd.R_far (p := ⟨qo, 0, none⟩) (Kd.R_types qM.out qf.out (by decide)) (fun _ hk => hk.2) (.slice qv y159.length qw)) (fun _ hk => hk.2) (.int .i64 0)) (fun _ hk => hk.2) (.bool false)) (fun _ hk => trivial)⟩, ⟨kf_ qd⟩, ⟨by (with_reducible repeat (first | refine blk_drewN ?_ _ | refine blk_drew ?_ | refine blk_alloc ?_ _)); refine blk_put (cs := #[.slice qv y159.length qw, .int .i64 0, .bool false]) ?_ 2 _ rfl; (with_reducible repeat (first | refine blk_drewN ?_ _ | refine blk_drew ?_ | refine blk_alloc ?_ _)); refine blk_put (cs := #[.slice qv y159.length qw, .int .i64 0, .bool false]) ?_ 1 _ rfl; (with_reducible repeat (first | refine blk_drewN ?_ _ | refine blk_drew ?_ | refine blk_alloc ?_ _)); refine blk_put (cs := #[.slice none 0 0, .int .i64 0, .bool false]) ?_ 0 _ rfl; (with_reducible repeat (first | refine blk_drewN ?_ _ | refine blk_drew ?_ | refine blk_alloc ?_ _)); exact qf.out⟩, ⟨bb_ HB⟩⟩
    replace c21 := Bool.eq_false_iff.mpr c21
    subst c21
    have H1 : (some (([] : List Int), 0, false, false)) = some (r1, r2, r3, r4) := by rw [if_neg (show ¬ (false = true) by decide)] at H; exact H
    clear H
    have H := H1
    clear H1
    simp only [Option.some.injEq, Prod.mk.injEq] at H
    obtain ⟨rfl, rfl, rfl, rfl⟩ := H
    go_wp2_with (first | ((with_reducible refine gate_callee (f := 82) rfl ?_); refine gL_ (some 39) Tryd.func82 #[.string a0, .string (⟨#[60, 61, 48]⟩ : ByteArray)] ?_; (with_reducible refine (strings_CutSuffix.calls a0 (⟨#[60, 61, 48]⟩ : ByteArray) q4 false _ A20.out).mono ?_); rintro e w' ⟨rfl, ⟨nd, rfl⟩⟩; refine ⟨_, rfl, ?_⟩; have jh := qh.out; have ji := qi.out; obtain ⟨qF, qG, qH, qI, qJ, qK⟩ := b3_ qd))
    refine bodyPost_ret (results_ct rfl _ _ qn 27 #[.slice none 0 0, .int .i64 0, .bool false] (0, 0) _ rfl (by (with_reducible repeat (first | refine blk_drewN ?_ _ | refine blk_drew ?_ | refine blk_alloc ?_ _)); refine blk_put (cs := #[.slice none 0 0, .int .i64 0, .bool false]) ?_ 2 _ rfl; (with_reducible repeat (first | refine blk_drewN ?_ _ | refine blk_drew ?_ | refine blk_alloc ?_ _)); refine blk_put (cs := #[.slice none 0 0, .int .i64 0, .bool false]) ?_ 1 _ rfl; (with_reducible repeat (first | refine blk_drewN ?_ _ | refine blk_drew ?_ | refine blk_alloc ?_ _)); refine blk_put (cs := #[.slice none 0 0, .int .i64 0, .bool false]) ?_ 0 _ rfl; (with_reducible repeat (first | refine blk_drewN ?_ _ | refine blk_drew ?_ | refine blk_alloc ?_ _)); refine blk_far ?_ qh.out _; (with_reducible repeat (first | refine blk_drewN ?_ _ | refine blk_drew ?_ | refine blk_alloc ?_ _)); refine blk_far ?_ qh.out _; (with_reducible repeat (first | refine blk_drewN ?_ _ | refine blk_drew ?_ | refine blk_alloc ?_ _)); refine blk_far ?_ qh.out _; (with_reducible repeat (first | refine blk_drewN ?_ _ | refine blk_drew ?_ | refine blk_alloc ?_ _)); exact qd.out) Tryd.underlying27 rfl (by kernel_rfl)) rfl ?_
    exact ⟨_, by first | rfl | (simp [errW_none, errW_some] <;> rfl) | (simp [*, errW_none, errW_some] <;> rfl), by first | exact Kd.R_nil _ _ _ _ _ | exact Kd.N_nil _ _ _ _ _ | exact Kd.V_nil _ _ _ _ _ | exact Kd.Q_nil _ _ _ _ _ | exact Kd.S_nil _ _ _ _ _, bb_ HB⟩
   case rest =>
    clear HC12
    try clear c1
    try clear c2
    try clear p2
    try clear c4
    try clear c5
    try clear qy
    try clear c6
    try clear q1
    try clear c7
    try clear c8
    try clear c9
    try clear zG
    try clear zH
    try clear c10
    try clear q2
    try clear q3
    try clear c17
    try clear c19
    try clear c21
    try clear c22
    try clear qz
    try clear qA
    try clear qB
    try clear qF
    try clear qG
    try clear qH
    try clear qN
    try clear qO
    try clear qP
    try clear qC
    try clear qD
    try clear qE
    try clear qI
    try clear qJ
    try clear qK
    try clear qQ
    try clear qR
    try clear qS
    try clear p2
    obtain ⟨kq, qU, qp, qq, rfl, HA, HJ11, qb, qd, qf, HB⟩ := hcut
    cases kq with
    | zero => exact absurd HA.out (by simp [impl_ParseAtom.j1])
    | succ kj11 =>
     have H := HA.out
     clear HA
     simp only [impl_ParseAtom.j1] at H
     have H' := Aside0.mk H
     clear H
     have jj := qi.out
     have jk := qh.out
     obtain ⟨qV, qW, qX, qY, qZ, q0⟩ := b3_ qf
     go_wp2
     go_loopg [7] kj11 (fun kq v7 w' => ∃ (qx : ByteArray) (qg : Int) (qe : Bool) (qa : List Int) (qc : Int) (u163000 : Value), v7 = .string qx ∧ Aside0 (impl_ParseAtom.l0 kq a0 a1 qx qa qc qj = some (r1, r2, r3, r4)) ∧ Aside0 (kq ≤ kj11) ∧ Aside0 (Kd.R (Kd.int .i64) 3 w' w.heap.size (fun _ => True) u163000 qa) ∧ Aside0 (w'.heap[qn]? = some (.cells #[(.slice none 0 0), .int .i64 qg, .bool qe] 27 (0, 0))) ∧ Aside0 (w'.heap[qo]? = some (.cells #[u163000, .int .i64 qc, .bool qj] 27 (0, 0))) ∧ Aside0 (Below w.heap.size w w'))
     case atStart => exact ⟨(qU), (qp), (qq), (y159), (0), (.slice qv y159.length qw), (by first | rfl | (simp; done) | (simp [*]; done)), H', ⟨Nat.le_refl _⟩, ⟨by (with_reducible repeat (first | apply Kd.R_alloc | apply Kd.R_drewN | apply Kd.R_drew)); exact Kd.R_mono (Kd.R_far (p := ⟨qo, 2, none⟩) (Kd.R_types qb.out qf.out (by decide)) (fun _ hk => hk.2) (.bool qj)) (fun _ hk => trivial)⟩, ⟨kf_ qd⟩, ⟨by (with_reducible repeat (first | refine blk_drewN ?_ _ | refine blk_drew ?_ | refine blk_alloc ?_ _)); refine blk_put (cs := #[.slice qv y159.length qw, .int .i64 0, .bool false]) ?_ 2 _ rfl; (with_reducible repeat (first | refine blk_drewN ?_ _ | refine blk_drew ?_ | refine blk_alloc ?_ _)); exact qf.out⟩, ⟨bb_ HB⟩⟩
     case round =>
      clear H'
      try clear c1
      try clear c2
      try clear p2
      try clear c4
      try clear c5
      try clear qy
      try clear c6
      try clear q1
      try clear c7
      try clear c8
      try clear c9
      try clear zG
      try clear zH
      try clear c10
      try clear q2
      try clear q3
      try clear c17
      try clear c19
      try clear c21
      try clear c22
      try clear c24
      try clear qz
      try clear qA
      try clear qB
      try clear qF
      try clear qG
      try clear qH
      try clear qV
      try clear qW
      try clear qX
      try clear qN
      try clear qO
      try clear qP
      try clear qC
      try clear qD
      try clear qE
      try clear qI
      try clear qJ
      try clear qK
      try clear qY
      try clear qZ
      try clear q0
      try clear qQ
      try clear qR
      try clear qS
      try clear p2
      obtain ⟨qx, qg, qe, qa, qc, u163000, rfl, HA, HK3, qb, qd, qf, HB⟩ := hrel
      cases gk with
      | zero => exact absurd HA.out (by simp [impl_ParseAtom.l0])
      | succ k3 =>
       have H := HA.out
       clear HA
       simp only [impl_ParseAtom.l0] at H
       by_cases c26 : qx.toList = ([] : List UInt8)
       ·
        rw [if_pos c26] at H
        have zC : (qx.toList == ([] : List UInt8)) = true := beq_iff_eq.mpr c26
        have zD : (qx.toList != ([] : List UInt8)) = false := bne_eq_false_iff_eq.mpr c26
        clear c26
        replace H := Option.bind_eq_some_iff.mp H
        obtain ⟨qu, A270, H⟩ := H
        replace H : (if qu.toList = a0.toList then (some (qa, qc, qj, true)) else (some (([] : List Int), 0, false, false))) = some (r1, r2, r3, r4) := H
        have A27 := Aside0.mk A270
        clear A270
        by_cases c28 : qu.toList = a0.toList
        rotate_left
        ·
         rw [if_neg c28] at H
         have zE : (qu.toList == a0.toList) = false := beq_eq_false_iff_ne.mpr c28
         have zF : (qu.toList != a0.toList) = true := bne_iff_ne.mpr c28
         simp only [Option.some.injEq, Prod.mk.injEq] at H
         obtain ⟨rfl, rfl, rfl, rfl⟩ := H
         have jl := qi.out
         have jm := qh.out
         obtain ⟨q8, q9, za, zb, zc, zd⟩ := b3_ qf
         obtain ⟨z6, z7, eo37⟩ := Kd.R_slice qb.out
         subst eo37
         go_wp2_with (first | ((with_reducible refine gate_callee (f := 14) rfl ?_); refine gL_ (some 76) Tryd.func14 #[.agg #[.slice z6 qa.length z7, .int .i64 qc, .bool qj]] ?_; (with_reducible refine (impl_FormatAtom.calls (hL := laid_ HL_ HB) k3 _ _ qa qc qj qu _ ?side1 ?side2 A27.out).mono ?_); (case side1 => exact cr_ qb); (case side2 => exact (Kd.R_reads' qb.out).2.1); rintro e jB ⟨rfl, hb⟩; refine ⟨_, rfl, ?_⟩; replace qb := rB_ qb hb; replace qd := kB_ qd hb; replace qf := kB_ qf hb; replace HB := bS_ HB hb; clear hb; obtain ⟨ze, zf, zg, zh, zi, zj⟩ := b3_ qd))
         refine bodyPost_ret (results_ct rfl _ _ qn 27 #[.slice none 0 0, .int .i64 0, .bool false] (0, 0) _ rfl (by (with_reducible repeat (first | refine blk_drewN ?_ _ | refine blk_drew ?_ | refine blk_alloc ?_ _)); refine blk_put (cs := #[.slice none 0 0, .int .i64 0, .bool qe]) ?_ 2 _ rfl; (with_reducible repeat (first | refine blk_drewN ?_ _ | refine blk_drew ?_ | refine blk_alloc ?_ _)); refine blk_put (cs := #[.slice none 0 0, .int .i64 qg, .bool qe]) ?_ 1 _ rfl; (with_reducible repeat (first | refine blk_drewN ?_ _ | refine blk_drew ?_ | refine blk_alloc ?_ _)); refine blk_put (cs := #[.slice none 0 0, .int .i64 qg, .bool qe]) ?_ 0 _ rfl; (with_reducible repeat (first | refine blk_drewN ?_ _ | refine blk_drew ?_ | refine blk_alloc ?_ _)); exact qd.out) Tryd.underlying27 rfl (by kernel_rfl)) rfl ?_
         exact ⟨_, by first | rfl | (simp [errW_none, errW_some] <;> rfl) | (simp [*, errW_none, errW_some] <;> rfl), by first | exact Kd.R_nil _ _ _ _ _ | exact Kd.N_nil _ _ _ _ _ | exact Kd.V_nil _ _ _ _ _ | exact Kd.Q_nil _ _ _ _ _ | exact Kd.S_nil _ _ _ _ _, bb_ HB⟩
        rw [if_pos c28] at H
        have zE : (qu.toList == a0.toList) = true := beq_iff_eq.mpr c28
        have zF : (qu.toList != a0.toList) = false := bne_eq_false_iff_eq.mpr c28
        clear c28
        simp only [Option.some.injEq, Prod.mk.injEq] at H
        obtain ⟨rfl, rfl, rfl, rfl⟩ := H
        have jn := qi.out
        have jo := qh.out
        obtain ⟨zk, zl, zm, zn, zo, zp⟩ := b3_ qf
        obtain ⟨q5, q6, eo31⟩ := Kd.R_slice qb.out
        subst eo31
        go_wp2_with (first | ((with_reducible refine gate_callee (f := 14) rfl ?_); refine gL_ (some 76) Tryd.func14 #[.agg #[.slice q5 qa.length q6, .int .i64 qc, .bool qj]] ?_; (with_reducible refine (impl_FormatAtom.calls (hL := laid_ HL_ HB) k3 _ _ qa qc qj qu _ ?side1 ?side2 A27.out).mono ?_); (case side1 => exact cr_ qb); (case side2 => exact (Kd.R_reads' qb.out).2.1); rintro e jC ⟨rfl, hb⟩; refine ⟨_, rfl, ?_⟩; replace qb := rB_ qb hb; replace qd := kB_ qd hb; replace qf := kB_ qf hb; replace HB := bS_ HB hb; clear hb; obtain ⟨zq, zr, zs, zt, zu, zv⟩ := b3_ qf; obtain ⟨zw, zx, zy, zz, zA, zB⟩ := b3_ qd))
        refine bodyPost_ret (results_ct rfl _ _ qn 27 #[.slice q5 qa.length q6, .int .i64 qc, .bool qj] (0, 0) _ rfl (by (with_reducible repeat (first | refine blk_drewN ?_ _ | refine blk_drew ?_ | refine blk_alloc ?_ _)); refine blk_put (cs := #[.slice q5 qa.length q6, .int .i64 qc, .bool qe]) ?_ 2 _ rfl; (with_reducible repeat (first | refine blk_drewN ?_ _ | refine blk_drew ?_ | refine blk_alloc ?_ _)); refine blk_put (cs := #[.slice q5 qa.length q6, .int .i64 qg, .bool qe]) ?_ 1 _ rfl; (with_reducible repeat (first | refine blk_drewN ?_ _ | refine blk_drew ?_ | refine blk_alloc ?_ _)); refine blk_put (cs := #[.slice none 0 0, .int .i64 qg, .bool qe]) ?_ 0 _ rfl; (with_reducible repeat (first | refine blk_drewN ?_ _ | refine blk_drew ?_ | refine blk_alloc ?_ _)); exact qd.out) Tryd.underlying27 rfl (by kernel_rfl)) rfl ?_
        exact ⟨_, by first | rfl | (simp [errW_none, errW_some] <;> rfl) | (simp [*, errW_none, errW_some] <;> rfl), by (with_reducible repeat (first | apply Kd.R_alloc | apply Kd.R_drewN | apply Kd.R_drew)); exact Kd.R_mono (Kd.R_far (p := ⟨qn, 2, none⟩) (Kd.R_far (p := ⟨qn, 1, none⟩) (Kd.R_far (p := ⟨qn, 0, none⟩) (Kd.R_types qb.out qd.out (by decide)) (fun _ hk => hk.2) (.slice q5 qa.length q6)) (fun _ hk => hk.2) (.int .i64 qc)) (fun _ hk => hk.2) (.bool qj)) (fun _ hk => trivial), bb_ HB⟩
       rw [if_neg c26] at H
       have zC : (qx.toList == ([] : List UInt8)) = false := beq_eq_false_iff_ne.mpr c26
       have zD : (qx.toList != ([] : List UInt8)) = true := bne_iff_ne.mpr c26
       replace H := Option.bind_eq_some_iff.mp H
       obtain ⟨⟨qr, qk, qt, zI⟩, A400, H⟩ := H
       replace H : (if zI = true then (impl_ParseAtom.j3 k3 a0 a1 qr qk qt (decide (qk ≥ a1)) qa qc qj) else (impl_ParseAtom.j3 k3 a0 a1 qr qk qt true qa qc qj)) = some (r1, r2, r3, r4) := H
       have A40 := Aside0.mk A400
       clear A400
       have HC41 := Aside0.mk H
       clear H
       go_upto_region 13 with (first | ((with_reducible refine gate_callee (f := 83) rfl ?_); refine gL_ (some 52) Tryd.func83 #[.string qx] ?_; (with_reducible refine (impl_readTerm.calls (hL := laid_ HL_ HB) k3 qx qr qk qt zI _ A40.out).mono ?_); rintro e jD ⟨rfl, hb⟩; refine ⟨_, rfl, ?_⟩; replace qb := rB_ qb hb; replace qd := kB_ qd hb; replace qf := kB_ qf hb; replace HB := bS_ HB hb; clear hb))
       (try simp only [Act.put, List.setIfInBounds_toArray, List.set_cons_zero, List.set_cons_succ])
       go_cut [63] (fun v63 wc => ∃ (kq : Nat) (qL : Bool), v63 = .bool qL ∧ Aside0 (impl_ParseAtom.j3 kq a0 a1 qr qk qt qL qa qc qj = some (r1, r2, r3, r4)) ∧ Aside0 (kq ≤ k3) ∧ Aside0 (Kd.R (Kd.int .i64) 3 wc w.heap.size (fun _ => True) u163000 qa) ∧ Aside0 (wc.heap[qn]? = some (.cells #[(.slice none 0 0), .int .i64 qg, .bool qe] 27 (0, 0))) ∧ Aside0 (wc.heap[qo]? = some (.cells #[u163000, .int .i64 qc, .bool qj] 27 (0, 0))) ∧ Aside0 (Below w.heap.size w wc))
       case first =>
        have H := HC41.out
        clear HC41
        by_cases c43 : zI = true
        ·
         subst c43
         have H1 : (impl_ParseAtom.j3 k3 a0 a1 qr qk qt (decide (qk ≥ a1)) qa qc qj) = some (r1, r2, r3, r4) := by rw [if_pos rfl] at H; exact H
         clear H
         have H := H1
         clear H1
         have H' := Aside0.mk H
         clear H
         go_wp2
         go_meet
         case rel => exact ⟨_, (decide (qk ≥ a1)), (by first | rfl | (simp; done) | (simp [*]; done)), H', ⟨by have := HJ2.out; have := HJ11.out; have := HK3.out; first | omega | exact Nat.le_refl _⟩, ⟨by (with_reducible repeat (first | apply Kd.R_alloc | apply Kd.R_drewN | apply Kd.R_drew)); exact qb.out⟩, ⟨kf_ qd⟩, ⟨kf_ qf⟩, ⟨bb_ HB⟩⟩
        replace c43 := Bool.eq_false_iff.mpr c43
        subst c43
        have H1 : (impl_ParseAtom.j3 k3 a0 a1 qr qk qt true qa qc qj) = some (r1, r2, r3, r4) := by rw [if_neg (show ¬ (false = true) by decide)] at H; exact H
        clear H
        have H := H1
        clear H1
        have H' := Aside0.mk H
        clear H
        go_wp2
        go_meet
        case rel => exact ⟨_, (true), (by first | rfl | (simp; done) | (simp [*]; done)), H', ⟨by have := HJ2.out; have := HJ11.out; have := HK3.out; first | omega | exact Nat.le_refl _⟩, ⟨by (with_reducible repeat (first | apply Kd.R_alloc | apply Kd.R_drewN | apply Kd.R_drew)); exact qb.out⟩, ⟨kf_ qd⟩, ⟨kf_ qf⟩, ⟨bb_ HB⟩⟩
       case rest =>
        clear HC41
        try clear c1
        try clear c2
        try clear p2
        try clear c3
        try clear c4
        try clear c5
        try clear qy
        try clear c6
        try clear q1
        try clear c7
        try clear c8
        try clear c9
        try clear zG
        try clear zH
        try clear c10
        try clear q2
        try clear q3
        try clear c14
        try clear c17
        try clear c19
        try clear c21
        try clear c22
        try clear c24
        try clear c26
        try clear zC
        try clear zD
        try clear c28
        try clear zE
        try clear zF
        try clear c29
        try clear c35
        try clear c41
        try clear c43
        try clear qz
        try clear qA
        try clear qB
        try clear qF
        try clear qG
        try clear qH
        try clear qV
        try clear qW
        try clear qX
        try clear zk
        try clear zl
        try clear zm
        try clear zq
        try clear zr
        try clear zs
        try clear zw
        try clear zx
        try clear zy
        try clear q8
        try clear q9
        try clear za
        try clear ze
        try clear zf
        try clear zg
        try clear qN
        try clear qO
        try clear qP
        try clear qC
        try clear qD
        try clear qE
        try clear qI
        try clear qJ
        try clear qK
        try clear qY
        try clear qZ
        try clear q0
        try clear zn
        try clear zo
        try clear zp
        try clear zt
        try clear zu
        try clear zv
        try clear zz
        try clear zA
        try clear zB
        try clear zb
        try clear zc
        try clear zd
        try clear zh
        try clear zi
        try clear zj
        try clear qQ
        try clear qR
        try clear qS
        try clear p2
        obtain ⟨kq, qL, rfl, HA, HJ40, qb, qd, qf, HB⟩ := hcut
        cases kq with
        | zero => exact absurd HA.out (by simp [impl_ParseAtom.j3])
        | succ kj40 =>
         have H := HA.out
         clear HA
         simp only [impl_ParseAtom.j3] at H
         by_cases c44 : qL = true
         ·
          subst c44
          have H1 : (some (([] : List Int), 0, false, false)) = some (r1, r2, r3, r4) := by rw [if_pos rfl] at H; exact H
          clear H
          have H := H1
          clear H1
          simp only [Option.some.injEq, Prod.mk.injEq] at H
          obtain ⟨rfl, rfl, rfl, rfl⟩ := H
          have jp := qh.out
          have jq := qi.out
          obtain ⟨zO, zP, zQ, zR, zS, zT⟩ := b3_ qd
          go_wp2
          refine bodyPost_ret (results_ct rfl _ _ qn 27 #[.slice none 0 0, .int .i64 0, .bool false] (0, 0) _ rfl (by (with_reducible repeat (first | refine blk_drewN ?_ _ | refine blk_drew ?_ | refine blk_alloc ?_ _)); refine blk_put (cs := #[.slice none 0 0, .int .i64 0, .bool qe]) ?_ 2 _ rfl; (with_reducible repeat (first | refine blk_drewN ?_ _ | refine blk_drew ?_ | refine blk_alloc ?_ _)); refine blk_put (cs := #[.slice none 0 0, .int .i64 qg, .bool qe]) ?_ 1 _ rfl; (with_reducible repeat (first | refine blk_drewN ?_ _ | refine blk_drew ?_ | refine blk_alloc ?_ _)); refine blk_put (cs := #[.slice none 0 0, .int .i64 qg, .bool qe]) ?_ 0 _ rfl; (with_reducible repeat (first | refine blk_drewN ?_ _ | refine blk_drew ?_ | refine blk_alloc ?_ _)); exact qd.out) Tryd.underlying27 rfl (by kernel_rfl)) rfl ?_
          exact ⟨_, by first | rfl | (simp [errW_none, errW_some] <;> rfl) | (simp [*, errW_none, errW_some] <;> rfl), by first | exact Kd.R_nil _ _ _ _ _ | exact Kd.N_nil _ _ _ _ _ | exact Kd.V_nil _ _ _ _ _ | exact Kd.Q_nil _ _ _ _ _ | exact Kd.S_nil _ _ _ _ _, bb_ HB⟩
         replace c44 := Bool.eq_false_iff.mpr c44
         subst c44
         have H1 : (if qk ≥ 0 then (if 0 ≤ qk then (if qk < (qa.length : Int) then (impl_ParseAtom.l0 kj40 a0 a1 qt (qa.set (qk : Int).toNat qr) qc qj) else (none)) else (none)) else (impl_ParseAtom.l0 kj40 a0 a1 qt qa qr qj)) = some (r1, r2, r3, r4) := by rw [if_neg (show ¬ (false = true) by decide)] at H; exact H
         clear H
         have H := H1
         clear H1
         by_cases c47 : qk ≥ 0
         rotate_left
         ·
          rw [if_neg c47] at H
          have zM : decide (0 ≤ qk) = false := decide_eq_false c47
          clear c47
          have H' := Aside0.mk H
          clear H
          have jr := qi.out
          have js := qh.out
          obtain ⟨zU, zV, zW, zX, zY, zZ⟩ := b3_ qf
          go_wp2
          go_roundg kj40
          case measure => have := HJ2.out; have := HJ11.out; have := HK3.out; have := HJ40.out; omega
          case rel => exact ⟨(qt), (qg), (qe), (qa), (qr), (u163000), (by first | rfl | (simp; done) | (simp [*]; done)), H', ⟨by have := HJ2.out; have := HJ11.out; have := HK3.out; have := HJ40.out; omega⟩, ⟨by (with_reducible repeat (first | apply Kd.R_alloc | apply Kd.R_drewN | apply Kd.R_drew)); exact Kd.R_mono (Kd.R_far (p := ⟨qo, 1, none⟩) (Kd.R_types qb.out qf.out (by decide)) (fun _ hk => hk.2) (.int .i64 qr)) (fun _ hk => trivial)⟩, ⟨kf_ qd⟩, ⟨by (with_reducible repeat (first | refine blk_drewN ?_ _ | refine blk_drew ?_ | refine blk_alloc ?_ _)); refine blk_put (cs := #[u163000, .int .i64 qc, .bool qj]) ?_ 1 _ rfl; (with_reducible repeat (first | refine blk_drewN ?_ _ | refine blk_drew ?_ | refine blk_alloc ?_ _)); exact qf.out⟩, ⟨bb_ HB⟩⟩
         rw [if_pos c47] at H
         have zM : decide (0 ≤ qk) = true := decide_eq_true c47
         clear c47
         by_cases c48 : 0 ≤ qk
         rotate_left
         ·
          rw [if_neg c48] at H
          exact absurd H (by simp)
         rw [if_pos c48] at H
         have jt : decide (0 ≤ qk) = true := decide_eq_true c48
         clear c48
         by_cases c49 : qk < (qa.length : Int)
         rotate_left
         ·
          rw [if_neg c49] at H
          exact absurd H (by simp)
         rw [if_pos c49] at H
         have ju : decide (qk < (qa.length : Int)) = true := decide_eq_true c49
         clear c49
         obtain ⟨y172, hy172⟩ : ∃ y_ : List Int, y_ = (qa.set (qk : Int).toNat qr) := ⟨_, rfl⟩
         replace H : (impl_ParseAtom.l0 kj40 a0 a1 qt y172 qc qj) = some (r1, r2, r3, r4) := by first | (rw [hy172]; with_reducible exact H) | (have H2_ := (Option.bind_some _ _).symm.trans H; rw [hy172]; with_reducible exact H2_) | (have H2_ := (Option.bind_some _ _).symm.trans H; with_reducible exact H2_) | with_reducible exact H | (rw [hy172]; exact H) | exact H
         have Ny172 := Aside0.mk hy172
         clear hy172
         have H' := Aside0.mk H
         clear H
         have jv := qi.out
         have jw := qh.out
         obtain ⟨z0, z1, z2, z3, z4, z5⟩ := b3_ qf
         have p50 : 0 ≤ (qk : Int) := of_decide_eq_true (by first | (with_reducible assumption) | assumption)
         have q50 : (qk : Int) < ((qa.length : Int) : Int) := of_decide_eq_true (by first | (with_reducible assumption) | assumption)
         obtain ⟨go50, zJ, eo50, zN, gl50, cl50, HG50⟩ := Kd.R_form qb.out (by omega)
         (first | cases eo50 | (injection eo50 with ea_ en_ ec_; (first | subst ea_ | (injection ea_ with ea_; subst ea_)); subst ec_; clear en_))
         have z8 := Aside0.mk zN
         have jy := Aside0.mk HG50
         clear zN gl50 HG50
         obtain ⟨z9, hf50_0⟩ := Kd.R_celln 0 qb.out (qk : Int) p50 q50
         replace p50 := eq_true p50
         replace q50 := eq_true q50
         have zK := Kd.R_putg qb.out (qk : Int) qr
         go_wp2_with (first | ((with_reducible refine gate_store (t := 3) (p := 71) rfl ?_); refine store_event (t := 3) (p := 71) (v := ?vo_w54) (w1 := (wc.setCell ⟨go50, (qk : Int).toNat, none⟩ (.int .i64 qr))) ?hg ?ho ?hn ?hr ?_; (case ho => rfl); (case hg => rfl); (case hn => rfl); (case hr => first | (go_simp; done) | (go_simp; rfl)); intro ja hw; have hg : wc.grownBy ja (some go50) := (by rw [hw]; exact zK.2); have hp_ : Kd.R (Kd.int .i64) 3 ja w.heap.size (fun _ => True) (.slice (some ⟨go50, 0, none⟩) qa.length zJ) y172 := (by rw [hw, Ny172.out]; exact zK.1); clear zK; replace qd := Aside0.mk (blk_grown (g := qn) (o := .cells #[.slice none 0 0, .int .i64 qg, .bool qe] 27 (0, 0)) (kf_ qd) hg (Kd.R_ne qb.out qd.out (by decide))); replace qf := Aside0.mk (blk_grown (g := qo) (o := .cells #[.slice (some ⟨go50, 0, none⟩) qa.length zJ, .int .i64 qc, .bool qj] 27 (0, 0)) (kf_ qf) hg (Kd.R_ne qb.out qf.out (by decide))); replace qb := Aside0.mk (hp_); replace HB := Aside0.mk ((by rw [hw]; exact below_set (HB.out) z8.out : Below w.heap.size w ja)); clear hg hw hp_))
         go_roundg kj40
         case measure => have := HJ2.out; have := HJ11.out; have := HK3.out; have := HJ40.out; omega
         case rel => exact ⟨(qt), (qg), (qe), (y172), (qc), (.slice (some ⟨go50, 0, none⟩) qa.length zJ), (by first | rfl | (simp; done) | (simp [*]; done)), H', ⟨by have := HJ2.out; have := HJ11.out; have := HK3.out; have := HJ40.out; omega⟩, ⟨by (with_reducible repeat (first | apply Kd.R_alloc | apply Kd.R_drewN | apply Kd.R_drew)); exact qb.out⟩, ⟨kf_ qd⟩, ⟨kf_ qf⟩, ⟨bb_ HB⟩⟩

/-- A state of type 139 at block g of W; what its slices lead to came in by w0. -/
def IsS139 (w0 W : World) (g : Nat) (f0 : List Int) (f1 : Int) (f2 : Int) : Prop := ∃ A0 c0, W.heap[g]? = some (.cells #[.slice A0 f0.length c0, .int .i64 f1, .int .i64 f2] 139 (0, 0)) ∧ w0.heap.size ≤ g ∧ Kd.C (Kd.int .u8) w0 A0 f0.length f0
theorem IsS139.grown {w0 W : World} {g : Nat} {f0 : List Int} {f1 : Int} {f2 : Int} {W1 : World} {row : Option Nat} (h : IsS139 w0 W g f0 f1 f2) (hw : W.grownBy W1 row) (hne : some g ≠ row) : IsS139 w0 W1 g f0 f1 f2 := by
 obtain ⟨A0, c0, hb, hg, hr0⟩ := h
 exact ⟨A0, c0, blk_grown hb hw hne, hg, hr0⟩
theorem IsS139.own_neN {w0 W : World} {g : Nat} {f0 : List Int} {f1 : Int} {f2 : Int} {α : Type} {d : Kd α} {e : Nat} {base : Nat} {ok : Nat → Prop} {v : Value} {xs : List α} (h : IsS139 w0 W g f0 f1 f2) (ho : Kd.N d e W base ok v xs) (ht : e ≠ 139) : some g ≠ v.ownBlock := by
 obtain ⟨A0, c0, hb, hg, hr0⟩ := h
 exact Kd.N_ne ho hb ht
theorem IsS139.fresh {w0 W : World} {g : Nat} {f0 : List Int} {f1 : Int} {f2 : Int} (h : IsS139 w0 W g f0 f1 f2) : ∀ k, W.heap.size ≤ k → k ≠ g := by
 obtain ⟨A0, c0, hb, hg, hr0⟩ := h
 exact Kd.freshB hb
theorem IsS139.kept {w0 W : World} {g : Nat} {f0 : List Int} {f1 : Int} {f2 : Int} {W1 : World} {S : Nat → Prop} (h : IsS139 w0 W g f0 f1 f2) (hk : Kept W W1 S) (hne : ¬ S g) : IsS139 w0 W1 g f0 f1 f2 := by
 obtain ⟨A0, c0, hb, hg, hr0⟩ := h
 exact ⟨A0, c0, blk_kept hb hk hne, hg, hr0⟩
theorem IsS139.below {w0 W : World} {g : Nat} {f0 : List Int} {f1 : Int} {f2 : Int} {W1 : World} (h : IsS139 w0 W g f0 f1 f2) (hw : Below W.heap.size W W1) : IsS139 w0 W1 g f0 f1 f2 := h.grown (grown_of_below hw none) (by simp)
theorem IsS139.alloc {w0 W : World} {g : Nat} {f0 : List Int} {f1 : Int} {f2 : Int} (h : IsS139 w0 W g f0 f1 f2) (o : Obj) : IsS139 w0 (W.alloc o) g f0 f1 f2 := h.below (below_alloc (Below.refl _ _) o)
theorem IsS139.drewN {w0 W : World} {g : Nat} {f0 : List Int} {f1 : Int} {f2 : Int} (h : IsS139 w0 W g f0 f1 f2) (m : Nat) : IsS139 w0 (W.drewN m) g f0 f1 f2 := h
theorem IsS139.drew {w0 W : World} {g : Nat} {f0 : List Int} {f1 : Int} {f2 : Int} (h : IsS139 w0 W g f0 f1 f2) : IsS139 w0 W.drew g f0 f1 f2 := h
theorem IsS139.at_ {w0 W : World} {g : Nat} {f0 : List Int} {f1 : Int} {f2 : Int} {w' : World} {m : Nat} (hq : W.drewN m = w') (h : IsS139 w0 W g f0 f1 f2) : IsS139 w0 w' g f0 f1 f2 := by subst hq; exact IsS139.drewN h m
theorem IsS139.apart {w0 W : World} {g : Nat} {f0 : List Int} {f1 : Int} {f2 : Int} {α : Type} {d : Kd α} {e : Nat} {base : Nat} {ok : Nat → Prop} {v : Value} {xs : List α} (h : IsS139 w0 W g f0 f1 f2) (ho : d.R e W base ok v xs) (ht : ∀ q, q ∈ e :: d.E → q ≠ 139) : d.R e W base (fun k => ok k ∧ k ≠ g) v xs := by
 obtain ⟨A0, c0, hb, hg, hr0⟩ := h
 exact Kd.R_types ho hb ht
theorem IsS139.own_ne {w0 W : World} {g : Nat} {f0 : List Int} {f1 : Int} {f2 : Int} {α : Type} {d : Kd α} {e : Nat} {base : Nat} {ok : Nat → Prop} {v : Value} {xs : List α} (h : IsS139 w0 W g f0 f1 f2) (ho : d.R e W base ok v xs) (ht : e ≠ 139) : some g ≠ v.ownBlock := by
 obtain ⟨A0, c0, hb, hg, hr0⟩ := h
 exact Kd.R_ne ho hb ht
theorem IsS139.apartQ {w0 W : World} {g : Nat} {f0 : List Int} {f1 : Int} {f2 : Int} {α : Type} {d : Kd α} {e : Nat} {base : Nat} {ok : Nat → Prop} {v : Value} {xs : List α} (h : IsS139 w0 W g f0 f1 f2) (ho : d.Q e W base ok v xs) (ht : ∀ q, q ∈ e :: d.E → q ≠ 139) : d.Q e W base (fun k => ok k ∧ k ≠ g) v xs := by
 obtain ⟨A0, c0, hb, hg, hr0⟩ := h
 exact Kd.Q_types ho hb ht
theorem IsS139.own_neQ {w0 W : World} {g : Nat} {f0 : List Int} {f1 : Int} {f2 : Int} {α : Type} {d : Kd α} {e : Nat} {base : Nat} {ok : Nat → Prop} {v : Value} {xs : List α} (h : IsS139 w0 W g f0 f1 f2) (ho : d.Q e W base ok v xs) (ht : e ≠ 139) : some g ≠ v.ownBlock := by
 obtain ⟨A0, c0, hb, hg, hr0⟩ := h
 exact Kd.Q_ne ho hb ht
theorem IsS139.apartS {w0 W : World} {g : Nat} {f0 : List Int} {f1 : Int} {f2 : Int} {α : Type} {d : Kd α} {e : Nat} {base : Nat} {ok : Nat → Prop} {v : Value} {xs : List α} (h : IsS139 w0 W g f0 f1 f2) (ho : d.S e W base ok v xs) (ht : ∀ q, q ∈ e :: d.E → q ≠ 139) : d.S e W base (fun k => ok k ∧ k ≠ g) v xs := by
 obtain ⟨A0, c0, hb, hg, hr0⟩ := h
 exact Kd.S_types ho hb ht
theorem IsS139.own_neS {w0 W : World} {g : Nat} {f0 : List Int} {f1 : Int} {f2 : Int} {α : Type} {d : Kd α} {e : Nat} {base : Nat} {ok : Nat → Prop} {v : Value} {xs : List α} (h : IsS139 w0 W g f0 f1 f2) (ho : d.S e W base ok v xs) (ht : e ≠ 139) : some g ≠ v.ownBlock := by
 obtain ⟨A0, c0, hb, hg, hr0⟩ := h
 exact Kd.S_ne ho hb ht
theorem IsS139.lt {w0 W : World} {g : Nat} {f0 : List Int} {f1 : Int} {f2 : Int} (h : IsS139 w0 W g f0 f1 f2) : g < W.heap.size := by
 obtain ⟨A0, c0, hb, hg, hr0⟩ := h
 exact blk_lt hb
theorem IsS139.ge {w0 W : World} {g : Nat} {f0 : List Int} {f1 : Int} {f2 : Int} (h : IsS139 w0 W g f0 f1 f2) : w0.heap.size ≤ g := by
 obtain ⟨A0, c0, hb, hg, hr0⟩ := h
 exact hg
theorem IsS139.ne_blk {w0 W : World} {g : Nat} {f0 : List Int} {f1 : Int} {f2 : Int} {a : Nat} {cs : Array Value} {t : TypeId} {fr : Nat × Nat} (h : IsS139 w0 W g f0 f1 f2) (hb2 : W.heap[a]? = some (.cells cs t fr)) (ht : t ≠ 139) : g ≠ a := by
 obtain ⟨A0, c0, hb, hg, hr0⟩ := h
 rintro rfl
 rw [hb] at hb2
 injection hb2 with hb2
 injection hb2 with _ ht2
 exact ht ht2.symm
theorem IsS139.far {w0 W : World} {g : Nat} {f0 : List Int} {f1 : Int} {f2 : Int} {p : Addr} (h : IsS139 w0 W g f0 f1 f2) (hne : g ≠ p.block) (u : Value) : IsS139 w0 (W.setCell p u) g f0 f1 f2 := by
 obtain ⟨A0, c0, hb, hg, hr0⟩ := h
 exact ⟨A0, c0, blk_far hb hne u, hg, hr0⟩
theorem cellS139_0 {W : World} {g : Nat} {A0 : Option Addr} {c0 : Nat} {f0 : List Int} {f1 : Int} {f2 : Int} (h : W.heap[g]? = some (.cells #[.slice A0 f0.length c0, .int .i64 f1, .int .i64 f2] 139 (0, 0))) : W.cell? ⟨g, 0, none⟩ = some (.slice A0 f0.length c0) := (blk_cell h 0).trans rfl
theorem cellS139_1 {W : World} {g : Nat} {A0 : Option Addr} {c0 : Nat} {f0 : List Int} {f1 : Int} {f2 : Int} (h : W.heap[g]? = some (.cells #[.slice A0 f0.length c0, .int .i64 f1, .int .i64 f2] 139 (0, 0))) : W.cell? ⟨g, 1, none⟩ = some (.int .i64 f1) := (blk_cell h 1).trans rfl
theorem IsS139.set_1 {w0 W : World} {g : Nat} {f0 : List Int} {f1 : Int} {f2 : Int} (h : IsS139 w0 W g f0 f1 f2) (x : Int) : IsS139 w0 (W.setCell ⟨g, 1, none⟩ (.int .i64 x)) g f0 x f2 := by
 obtain ⟨A0, c0, hb, hg, hr0⟩ := h
 exact ⟨A0, c0, by simpa using blk_set hb 1 (.int .i64 x), hg, hr0⟩
theorem cellS139_2 {W : World} {g : Nat} {A0 : Option Addr} {c0 : Nat} {f0 : List Int} {f1 : Int} {f2 : Int} (h : W.heap[g]? = some (.cells #[.slice A0 f0.length c0, .int .i64 f1, .int .i64 f2] 139 (0, 0))) : W.cell? ⟨g, 2, none⟩ = some (.int .i64 f2) := (blk_cell h 2).trans rfl
theorem IsS139.set_2 {w0 W : World} {g : Nat} {f0 : List Int} {f1 : Int} {f2 : Int} (h : IsS139 w0 W g f0 f1 f2) (x : Int) : IsS139 w0 (W.setCell ⟨g, 2, none⟩ (.int .i64 x)) g f0 f1 x := by
 obtain ⟨A0, c0, hb, hg, hr0⟩ := h
 exact ⟨A0, c0, by simpa using blk_set hb 2 (.int .i64 x), hg, hr0⟩
theorem IsS139.new (w0 W : World) (A0 : Option Addr) (c0 : Nat) (f0 : List Int) (f1 : Int) (f2 : Int) (hB : Below w0.heap.size w0 W) (hr0 : Kd.C (Kd.int .u8) w0 A0 f0.length f0) : IsS139 w0 (W.alloc (.cells #[.slice A0 f0.length c0, .int .i64 f1, .int .i64 f2] 139)) W.heap.size f0 f1 f2 := ⟨A0, c0, by simpa using heap_alloc_new W _, hB.size, hr0⟩

/-! ### spec_l1New: function 101 -/
def spec_l1New.l0 : Nat → List Int → Int → Int → Option (List Int × Int × Int)
 | 0, _, _, _ => none
 | k + 1, x0, x3, x4 => if x4 < (x0.length : Int) then (if x4 < 4000 then (if 0 ≤ x4 then (spec_l1New.l0 k x0 (Go.bits .and .i64 (wrap64 ((wrap64 ((wrap64 (x3 * 131)) + (wrap64 (rd x0 x4)))) + 7)) 1073741823) (wrap64 (x4 + 1))) else (none)) else (some (x0, 0, x3))) else (some (x0, 0, x3))
def spec_l1New.f (k : Nat) (l0 : List Int) : Option (List Int × Int × Int) := spec_l1New.l0 k l0 (wrap64 (10101 + (l0.length : Int))) 0
theorem spec_l1New.mono_l : ∀ k, (∀ y0 y1 y2, LeO (spec_l1New.l0 k y0 y1 y2) (spec_l1New.l0 (k + 1) y0 y1 y2))
 | 0 => fun _ _ _ r h => by simp [spec_l1New.l0] at h
 | k + 1 => by
  have ih0 := spec_l1New.mono_l k
  ·
   intro y0 y1 y2
   unfold spec_l1New.l0
   repeat' first
   | (with_reducible exact ih0 _ _ _)
   | (with_reducible exact LeO.refl _)
   | (with_reducible exact LeO.none _)
   | (with_reducible refine LeO.ite ?_ ?_)
   | (with_reducible refine LeO.bind ?_ (fun _ => ?_))
   | exact ih0 _ _ _
   | exact LeO.none _
   | refine LeO.ite ?_ ?_
   | refine LeO.bind ?_ (fun _ => ?_)
theorem spec_l1New.mono : ∀ a0 k, LeO (spec_l1New.f k a0) (spec_l1New.f (k + 1) a0) := by
 intro a0 k
 have ih0 := spec_l1New.mono_l k
 unfold spec_l1New.f
 repeat' first
   | (with_reducible exact ih0 _ _ _)
   | (with_reducible exact LeO.refl _)
   | (with_reducible exact LeO.none _)
   | (with_reducible refine LeO.ite ?_ ?_)
   | (with_reducible refine LeO.bind ?_ (fun _ => ?_))
   | exact ih0 _ _ _
   | exact LeO.none _
   | refine LeO.ite ?_ ?_
   | refine LeO.bind ?_ (fun _ => ?_)
set_option maxHeartbeats 8000000 in
set_option maxRecDepth 100000 in
theorem spec_l1New.calls (k : Nat) (A0 : Option Addr) (c0 : Nat) (l0 : List Int) (r1 : List Int) (r2 : Int) (r3 : Int) (w0 w : World) (hB : Below w0.heap.size w0 w) (hr0 : Kd.C (Kd.int .u8) w0 A0 l0.length l0) (hc0 : l0.length ≤ c0) (h : spec_l1New.f k l0 = some (r1, r2, r3)) :
  Calls Tryd.prog 101 #[.slice A0 l0.length c0] w fun e w' => ∃ g_ : Nat, e = .returned (.pointer (some ⟨g_, 0, none⟩)) ∧ IsS139 w0 w' g_ r1 r2 r3 ∧ Below w0.heap.size w0 w' ∧ Below w.heap.size w w' := by
 have hu139 := Tryd.underlying139
 have HR0 := Aside0.mk hr0
 have HC0 := Aside0.mk hc0
 clear hr0 hc0
 have HBW := Aside0.mk (Below.refl w.heap.size w)
 have HW0 := Aside0.mk hB.size
 have HB := Aside0.mk hB
 clear hB
 have H : (spec_l1New.l0 k l0 (wrap64 (10101 + (l0.length : Int))) 0) = some (r1, r2, r3) := h
 clear h
 have H' := Aside0.mk H
 clear H
 go_enter Tryd.func101, Tryd.ntmps101
 go_wp2
 go_loopg [3, 4] k (fun kq v3 v4 w' => ∃ (qb : Int) (qa : Int), v3 = .int .i64 qb ∧ v4 = .int .i64 qa ∧ Aside0 (spec_l1New.l0 kq l0 qb qa = some (r1, r2, r3)) ∧ Aside0 (kq ≤ k) ∧ Aside0 (Below w0.heap.size w0 w') ∧ Aside0 (Below w.heap.size w w'))
 case atStart => exact ⟨(wrap64 (10101 + (l0.length : Int))), (0), (by first | rfl | (simp; done) | (simp [*]; done)), (by first | rfl | (simp; done) | (simp [*]; done)), H', ⟨Nat.le_refl _⟩, ⟨bb_ HB⟩, ⟨bb_ HBW⟩⟩
 case round =>
  clear H'
  try clear c1
  obtain ⟨qb, qa, rfl, rfl, HA, HK1, HB, HBW⟩ := hrel
  cases gk with
  | zero => exact absurd HA.out (by simp [spec_l1New.l0])
  | succ k1 =>
   have H := HA.out
   clear HA
   simp only [spec_l1New.l0] at H
   by_cases c2 : qa < (l0.length : Int)
   rotate_left
   ·
    rw [if_neg c2] at H
    have qj : decide (qa < (l0.length : Int)) = false := decide_eq_false c2
    clear c2
    simp only [Option.some.injEq, Prod.mk.injEq] at H
    obtain ⟨rfl, rfl, rfl⟩ := H
    go_wp2_with (first | ((with_reducible refine gate_dst (N := 31) rfl ?_); refine bx_ (cs := #[.slice A0 l0.length c0, .int .i64 0, .int .i64 qb]) (t := 139) ?_; intro qd hg w6 hbox hb; replace HB := bS_ HB hb; have qf := Aside0.mk (hbox); have ql := hz_ HBW hg; have qg := Aside0.mk ((Nat.le_trans HW0.out (by rw [hg]; exact (bz_ HBW) : w.heap.size ≤ qd) : w0.heap.size ≤ qd)); replace HBW := Aside0.mk (below_step HBW.out hb); clear hb hbox hg))
    go_ret
    exact ⟨_, rfl, (show IsS139 w0 _ qd l0 0 qb from ⟨_, _, by (with_reducible repeat (first | refine blk_drewN ?_ _ | refine blk_drew ?_ | refine blk_alloc ?_ _)); exact qf.out, qg.out, HR0.out⟩), bb_ HB, bb_ HBW⟩
   rw [if_pos c2] at H
   have qj : decide (qa < (l0.length : Int)) = true := decide_eq_true c2
   clear c2
   by_cases c3 : qa < 4000
   rotate_left
   ·
    rw [if_neg c3] at H
    have qk : decide (qa < 4000) = false := decide_eq_false c3
    clear c3
    simp only [Option.some.injEq, Prod.mk.injEq] at H
    obtain ⟨rfl, rfl, rfl⟩ := H
    go_wp2_with (first | ((with_reducible refine gate_dst (N := 31) rfl ?_); refine bx_ (cs := #[.slice A0 l0.length c0, .int .i64 0, .int .i64 qb]) (t := 139) ?_; intro qe hg w5 hbox hb; replace HB := bS_ HB hb; have qh := Aside0.mk (hbox); have qm := hz_ HBW hg; have qi := Aside0.mk ((Nat.le_trans HW0.out (by rw [hg]; exact (bz_ HBW) : w.heap.size ≤ qe) : w0.heap.size ≤ qe)); replace HBW := Aside0.mk (below_step HBW.out hb); clear hb hbox hg))
    go_ret
    exact ⟨_, rfl, (show IsS139 w0 _ qe l0 0 qb from ⟨_, _, by (with_reducible repeat (first | refine blk_drewN ?_ _ | refine blk_drew ?_ | refine blk_alloc ?_ _)); exact qh.out, qi.out, HR0.out⟩), bb_ HB, bb_ HBW⟩
   rw [if_pos c3] at H
   have qk : decide (qa < 4000) = true := decide_eq_true c3
   clear c3
   by_cases c4 : 0 ≤ qa
   rotate_left
   ·
    rw [if_neg c4] at H
    exact absurd H (by simp)
   rw [if_pos c4] at H
   have qo : decide (0 ≤ qa) = true := decide_eq_true c4
   clear c4
   have H' := Aside0.mk H
   clear H
   have p173 : 0 ≤ (qa : Int) := of_decide_eq_true (by first | (with_reducible assumption) | assumption)
   have q173 : qa < (l0.length : Int) := of_decide_eq_true (by first | (with_reducible assumption) | assumption)
   obtain ⟨qn, e173, qc⟩ := Kd.at_int HR0.out qa p173 q173
   cases e173
   replace qc := pw_cell_below HB.out qc
   replace p173 := eq_true p173
   replace q173 := eq_true q173
   go_wp2
   go_roundg k1
   case measure => have := HK1.out; omega
   case rel => exact ⟨(Go.bits .and .i64 (wrap64 ((wrap64 ((wrap64 (qb * 131)) + (wrap64 (rd l0 qa)))) + 7)) 1073741823), (wrap64 (qa + 1)), (by first | rfl | (simp; done) | (simp [*]; done)), (by first | rfl | (simp; done) | (simp [*]; done)), H', ⟨by have := HK1.out; omega⟩, ⟨bb_ HB⟩, ⟨bb_ HBW⟩⟩

/-! ### spec_l1Byte: function 133 -/
def spec_l1Byte.f (s0_0 : List Int) (s0_1 : Int) (s0_2 : Int) : Option (Int × Int × Int) := if s0_1 < (s0_0.length : Int) then (if 0 ≤ s0_1 then (some (Go.bits .and .i64 (wrap64 ((Go.bits .and .i64 (Go.bits .xor .i64 ((wrap64 ((wrap64 (s0_2 * 6364136223846793005)) + 1442695040888963407)) / 8589934592) ((wrap64 ((wrap64 (s0_2 * 6364136223846793005)) + 1442695040888963407)) / 35184372088832)) 255) + (wrap64 (rd s0_0 s0_1)))) 255, wrap64 (s0_1 + 1), wrap64 ((wrap64 (s0_2 * 6364136223846793005)) + 1442695040888963407))) else (none)) else (some (Go.bits .and .i64 (Go.bits .xor .i64 ((wrap64 ((wrap64 (s0_2 * 6364136223846793005)) + 1442695040888963407)) / 8589934592) ((wrap64 ((wrap64 (s0_2 * 6364136223846793005)) + 1442695040888963407)) / 35184372088832)) 255, s0_1, wrap64 ((wrap64 (s0_2 * 6364136223846793005)) + 1442695040888963407)))
set_option maxHeartbeats 8000000 in
set_option maxRecDepth 100000 in
theorem spec_l1Byte.calls (g : Nat) (s0_0 : List Int) (s0_1 : Int) (s0_2 : Int) (r1 : Int) (r2 : Int) (r3 : Int) (w0 w : World) (hI : IsS139 w0 w g s0_0 s0_1 s0_2) (hB : Below w0.heap.size w0 w) (h : spec_l1Byte.f s0_0 s0_1 s0_2 = some (r1, r2, r3)) :
  Calls Tryd.prog 133 #[.pointer (some ⟨g, 0, none⟩)] w fun e w' => e = .returned (.int .i64 r1) ∧ IsS139 w0 w' g s0_0 r2 r3 ∧ Below w0.heap.size w0 w' ∧ KeepBut w w' g none := by
 have HI0 := Aside0.mk hI
 have HK := Aside0.mk (KeepBut.refl w g none)
 have HL := Aside0.mk hB.size
 clear hI
 have HW0 := Aside0.mk hB.size
 have HB := Aside0.mk hB
 clear hB
 have H : (if s0_1 < (s0_0.length : Int) then (if 0 ≤ s0_1 then (some (Go.bits .and .i64 (wrap64 ((Go.bits .and .i64 (Go.bits .xor .i64 ((wrap64 ((wrap64 (s0_2 * 6364136223846793005)) + 1442695040888963407)) / 8589934592) ((wrap64 ((wrap64 (s0_2 * 6364136223846793005)) + 1442695040888963407)) / 35184372088832)) 255) + (wrap64 (rd s0_0 s0_1)))) 255, wrap64 (s0_1 + 1), wrap64 ((wrap64 (s0_2 * 6364136223846793005)) + 1442695040888963407))) else (none)) else (some (Go.bits .and .i64 (Go.bits .xor .i64 ((wrap64 ((wrap64 (s0_2 * 6364136223846793005)) + 1442695040888963407)) / 8589934592) ((wrap64 ((wrap64 (s0_2 * 6364136223846793005)) + 1442695040888963407)) / 35184372088832)) 255, s0_1, wrap64 ((wrap64 (s0_2 * 6364136223846793005)) + 1442695040888963407)))) = some (r1, r2, r3) := h
 clear h
 by_cases c2 : s0_1 < (s0_0.length : Int)
 rotate_left
 ·
  rw [if_neg c2] at H
  have qc : decide (s0_1 < (s0_0.length : Int)) = false := decide_eq_false c2
  clear c2
  simp only [Option.some.injEq, Prod.mk.injEq] at H
  obtain ⟨rfl, rfl, rfl⟩ := H
  obtain ⟨ASz5_0, cSz5_0, HGz5, hgz5, HSz5_0⟩ := HI0.out
  have qd := cellS139_0 HGz5
  have qe := cellS139_1 HGz5
  have qf := cellS139_2 HGz5
  have qg := blk_frozen HGz5 1
  have qh := blk_frozen HGz5 2
  clear HGz5 hgz5
  go_enter Tryd.func133, Tryd.ntmps133
  go_wp2
  repeat (go_quiet (fail); try go_wp2)
  go_ret
  exact ⟨by first | rfl | (simp [errW_none, errW_some] <;> rfl) | (simp [*, errW_none, errW_some] <;> rfl), by repeat (first | (with_reducible first | exact HI0.out | apply IsS139.alloc | apply IsS139.drewN | apply IsS139.drew | apply IsS139.set_1 | apply IsS139.set_2) | exact HI0.out), by repeat (first | (with_reducible first | exact HB.out | apply below_alloc | apply pw_below_drewN | apply below_drew1 | refine below_set ?_ (IsS139.ge HI0.out)) | exact HB.out), by repeat (first | (with_reducible first | exact HK.out | apply KeepBut.set_ | apply keep_drewN | apply keep_drew | apply keep_alloc) | exact HK.out)⟩
 rw [if_pos c2] at H
 have qc : decide (s0_1 < (s0_0.length : Int)) = true := decide_eq_true c2
 clear c2
 by_cases c3 : 0 ≤ s0_1
 rotate_left
 ·
  rw [if_neg c3] at H
  exact absurd H (by simp)
 rw [if_pos c3] at H
 have qn : decide (0 ≤ s0_1) = true := decide_eq_true c3
 clear c3
 simp only [Option.some.injEq, Prod.mk.injEq] at H
 obtain ⟨rfl, rfl, rfl⟩ := H
 obtain ⟨ASz4_0, cSz4_0, HGz4, hgz4, HSz4_0⟩ := HI0.out
 have qi := cellS139_0 HGz4
 have qj := cellS139_1 HGz4
 have qk := cellS139_2 HGz4
 have ql := blk_frozen HGz4 1
 have qm := blk_frozen HGz4 2
 clear HGz4 hgz4
 have p176 : 0 ≤ (s0_1 : Int) := of_decide_eq_true (by first | (with_reducible assumption) | assumption)
 have q176 : s0_1 < (s0_0.length : Int) := of_decide_eq_true (by first | (with_reducible assumption) | assumption)
 obtain ⟨qb, e176, qa⟩ := Kd.at_int HSz4_0 s0_1 p176 q176
 cases e176
 have hn176_0 : qb.block ≠ g := Nat.ne_of_lt (Nat.lt_of_lt_of_le (by have := World.block_lt_of_cell? _ _ qa; first | rwa [add_block] at this | exact this) (IsS139.ge HI0.out))
 replace qa := pw_cell_below HB.out qa
 replace qa := (cell_far (p := ⟨g, 2, none⟩) (by first | (rw [add_block]; exact hn176_0) | (show (Addr.add _ _).block ≠ _; rw [add_block]; exact hn176_0) | exact hn176_0) (.int .i64 (wrap64 ((wrap64 (s0_2 * 6364136223846793005)) + 1442695040888963407)))).trans qa
 (try have hy176_0 := fun (n_ : Nat) => (show (((w.drewN n_).setCell ⟨g, 2, none⟩ (.int .i64 (wrap64 ((wrap64 (s0_2 * 6364136223846793005)) + 1442695040888963407))))).cell? _ = some _ from qa))
 clear hn176_0
 replace p176 := eq_true p176
 replace q176 := eq_true q176
 go_enter Tryd.func133, Tryd.ntmps133
 go_wp2
 repeat (go_quiet (fail); try go_wp2)
 go_ret
 exact ⟨by first | rfl | (simp [errW_none, errW_some] <;> rfl) | (simp [*, errW_none, errW_some] <;> rfl), by repeat (first | (with_reducible first | exact HI0.out | apply IsS139.alloc | apply IsS139.drewN | apply IsS139.drew | apply IsS139.set_1 | apply IsS139.set_2) | exact HI0.out), by repeat (first | (with_reducible first | exact HB.out | apply below_alloc | apply pw_below_drewN | apply below_drew1 | refine below_set ?_ (IsS139.ge HI0.out)) | exact HB.out), by repeat (first | (with_reducible first | exact HK.out | apply KeepBut.set_ | apply keep_drewN | apply keep_drew | apply keep_alloc) | exact HK.out)⟩

/-! ### spec_l1Below: function 119 -/
def spec_l1Below.f (s0_0 : List Int) (s0_1 : Int) (s0_2 : Int) (a1 : Int) : Option (Int × Int × Int) := if a1 ≤ 0 then (some (0, s0_1, s0_2)) else (if a1 ≤ 256 then ((spec_l1Byte.f s0_0 s0_1 s0_2).bind fun qd => (if a1 = 0 then (none) else (some (Int.tmod qd.1 a1, qd.2.1, qd.2.2)))) else ((spec_l1Byte.f s0_0 s0_1 s0_2).bind fun qe => ((spec_l1Byte.f s0_0 qe.2.1 qe.2.2).bind fun qc => ((spec_l1Byte.f s0_0 qc.2.1 qc.2.2).bind fun qb => ((spec_l1Byte.f s0_0 qb.2.1 qb.2.2).bind fun qa => (if a1 = 0 then (none) else (some (Int.tmod (wrap64 ((wrap64 ((wrap64 ((wrap64 (qe.1 * 16777216)) + (wrap64 (qc.1 * 65536)))) + (wrap64 (qb.1 * 256)))) + qa.1)) a1, qa.2.1, qa.2.2))))))))
set_option maxHeartbeats 8000000 in
set_option maxRecDepth 100000 in
theorem spec_l1Below.calls (g : Nat) (s0_0 : List Int) (s0_1 : Int) (s0_2 : Int) (a1 : Int) (r1 : Int) (r2 : Int) (r3 : Int) (w0 w : World) (hI : IsS139 w0 w g s0_0 s0_1 s0_2) (hB : Below w0.heap.size w0 w) (h : spec_l1Below.f s0_0 s0_1 s0_2 a1 = some (r1, r2, r3)) :
  Calls Tryd.prog 119 #[.pointer (some ⟨g, 0, none⟩), .int .i64 a1] w fun e w' => e = .returned (.int .i64 r1) ∧ IsS139 w0 w' g s0_0 r2 r3 ∧ Below w0.heap.size w0 w' ∧ KeepBut w w' g none := by
 have HI0 := Aside0.mk hI
 have HK := Aside0.mk (KeepBut.refl w g none)
 have HL := Aside0.mk hB.size
 clear hI
 have HW0 := Aside0.mk hB.size
 have HB := Aside0.mk hB
 clear hB
 have H : (if a1 ≤ 0 then (some (0, s0_1, s0_2)) else (if a1 ≤ 256 then ((spec_l1Byte.f s0_0 s0_1 s0_2).bind fun qd => (if a1 = 0 then (none) else (some (Int.tmod qd.1 a1, qd.2.1, qd.2.2)))) else ((spec_l1Byte.f s0_0 s0_1 s0_2).bind fun qe => ((spec_l1Byte.f s0_0 qe.2.1 qe.2.2).bind fun qc => ((spec_l1Byte.f s0_0 qc.2.1 qc.2.2).bind fun qb => ((spec_l1Byte.f s0_0 qb.2.1 qb.2.2).bind fun qa => (if a1 = 0 then (none) else (some (Int.tmod (wrap64 ((wrap64 ((wrap64 ((wrap64 (qe.1 * 16777216)) + (wrap64 (qc.1 * 65536)))) + (wrap64 (qb.1 * 256)))) + qa.1)) a1, qa.2.1, qa.2.2))))))))) = some (r1, r2, r3) := h
 clear h
 by_cases c3 : a1 ≤ 0
 ·
  rw [if_pos c3] at H
  have qu : decide (a1 ≤ 0) = true := decide_eq_true c3
  clear c3
  simp only [Option.some.injEq, Prod.mk.injEq] at H
  obtain ⟨rfl, rfl, rfl⟩ := H
  go_enter Tryd.func119, Tryd.ntmps119
  go_wp2
  go_ret
  exact ⟨by first | rfl | (simp [errW_none, errW_some] <;> rfl) | (simp [*, errW_none, errW_some] <;> rfl), by repeat (first | (with_reducible first | exact HI0.out | apply IsS139.alloc | apply IsS139.drewN | apply IsS139.drew | apply IsS139.set_1 | apply IsS139.set_2) | exact HI0.out), by repeat (first | (with_reducible first | exact HB.out | apply below_alloc | apply pw_below_drewN | apply below_drew1 | refine below_set ?_ (IsS139.ge HI0.out)) | exact HB.out), by repeat (first | (with_reducible first | exact HK.out | apply KeepBut.set_ | apply keep_drewN | apply keep_drew | apply keep_alloc) | exact HK.out)⟩
 rw [if_neg c3] at H
 have qu : decide (a1 ≤ 0) = false := decide_eq_false c3
 clear c3
 by_cases c4 : a1 ≤ 256
 ·
  rw [if_pos c4] at H
  have qv : decide (a1 ≤ 256) = true := decide_eq_true c4
  clear c4
  replace H := Option.bind_eq_some_iff.mp H
  obtain ⟨⟨qo, qp, qq⟩, A50, H⟩ := H
  replace H : (if a1 = 0 then (none) else (some (Int.tmod qo a1, qp, qq))) = some (r1, r2, r3) := H
  have A5 := Aside0.mk A50
  clear A50
  by_cases c6 : a1 = 0
  ·
   rw [if_pos c6] at H
   exact absurd H (by simp)
  rw [if_neg c6] at H
  have qy : (a1 == 0) = false := beq_eq_false_iff_ne.mpr c6
  have qz : (a1 != 0) = true := bne_iff_ne.mpr c6
  simp only [Option.some.injEq, Prod.mk.injEq] at H
  obtain ⟨rfl, rfl, rfl⟩ := H
  go_enter Tryd.func119, Tryd.ntmps119
  go_wp2_with (first | ((with_reducible refine gate_callee (f := 133) rfl ?_); refine gL_ (some 14) Tryd.func133 #[.pointer (some ⟨g, 0, none⟩)] ?_; (with_reducible refine (spec_l1Byte.calls g s0_0 s0_1 s0_2 qo qp qq w0 _ ?side1 ?side2 A5.out).mono ?_); (case side1 => repeat (first | (with_reducible first | exact HI0.out | apply IsS139.alloc | apply IsS139.drewN | apply IsS139.drew | apply IsS139.set_1 | apply IsS139.set_2) | exact HI0.out)); (case side2 => repeat (first | (with_reducible first | exact HB.out | apply below_alloc | apply pw_below_drewN | apply below_drew1 | refine below_set ?_ (IsS139.ge HI0.out)) | exact HB.out)); rintro e w7 ⟨rfl, hi, hb, hk⟩; refine ⟨_, rfl, ?_⟩; replace HK := Aside0.mk (KeepBut.trans (by repeat (first | (with_reducible first | exact HK.out | apply KeepBut.set_ | apply keep_drewN | apply keep_drew | apply keep_alloc) | exact HK.out)) hk (.inl rfl)); replace HB := Aside0.mk (hb); replace HI0 := Aside0.mk (hi); clear hb hk hi))
  go_ret
  exact ⟨by first | rfl | (simp [errW_none, errW_some] <;> rfl) | (simp [*, errW_none, errW_some] <;> rfl), by repeat (first | (with_reducible first | exact HI0.out | apply IsS139.alloc | apply IsS139.drewN | apply IsS139.drew | apply IsS139.set_1 | apply IsS139.set_2) | exact HI0.out), by repeat (first | (with_reducible first | exact HB.out | apply below_alloc | apply pw_below_drewN | apply below_drew1 | refine below_set ?_ (IsS139.ge HI0.out)) | exact HB.out), by repeat (first | (with_reducible first | exact HK.out | apply KeepBut.set_ | apply keep_drewN | apply keep_drew | apply keep_alloc) | exact HK.out)⟩
 rw [if_neg c4] at H
 have qv : decide (a1 ≤ 256) = false := decide_eq_false c4
 clear c4
 replace H := Option.bind_eq_some_iff.mp H
 obtain ⟨⟨qf, qh, qi⟩, A80, H⟩ := H
 replace H : ((spec_l1Byte.f s0_0 qh qi).bind fun qc => ((spec_l1Byte.f s0_0 qc.2.1 qc.2.2).bind fun qb => ((spec_l1Byte.f s0_0 qb.2.1 qb.2.2).bind fun qa => (if a1 = 0 then (none) else (some (Int.tmod (wrap64 ((wrap64 ((wrap64 ((wrap64 (qf * 16777216)) + (wrap64 (qc.1 * 65536)))) + (wrap64 (qb.1 * 256)))) + qa.1)) a1, qa.2.1, qa.2.2)))))) = some (r1, r2, r3) := H
 have A8 := Aside0.mk A80
 clear A80
 replace H := Option.bind_eq_some_iff.mp H
 obtain ⟨⟨qg, qj, qk⟩, A90, H⟩ := H
 replace H : ((spec_l1Byte.f s0_0 qj qk).bind fun qb => ((spec_l1Byte.f s0_0 qb.2.1 qb.2.2).bind fun qa => (if a1 = 0 then (none) else (some (Int.tmod (wrap64 ((wrap64 ((wrap64 ((wrap64 (qf * 16777216)) + (wrap64 (qg * 65536)))) + (wrap64 (qb.1 * 256)))) + qa.1)) a1, qa.2.1, qa.2.2))))) = some (r1, r2, r3) := H
 have A9 := Aside0.mk A90
 clear A90
 replace H := Option.bind_eq_some_iff.mp H
 obtain ⟨⟨ql, qm, qn⟩, A100, H⟩ := H
 replace H : ((spec_l1Byte.f s0_0 qm qn).bind fun qa => (if a1 = 0 then (none) else (some (Int.tmod (wrap64 ((wrap64 ((wrap64 ((wrap64 (qf * 16777216)) + (wrap64 (qg * 65536)))) + (wrap64 (ql * 256)))) + qa.1)) a1, qa.2.1, qa.2.2)))) = some (r1, r2, r3) := H
 have A10 := Aside0.mk A100
 clear A100
 replace H := Option.bind_eq_some_iff.mp H
 obtain ⟨⟨qr, qs, qt⟩, A110, H⟩ := H
 replace H : (if a1 = 0 then (none) else (some (Int.tmod (wrap64 ((wrap64 ((wrap64 ((wrap64 (qf * 16777216)) + (wrap64 (qg * 65536)))) + (wrap64 (ql * 256)))) + qr)) a1, qs, qt))) = some (r1, r2, r3) := H
 have A11 := Aside0.mk A110
 clear A110
 by_cases c12 : a1 = 0
 ·
  rw [if_pos c12] at H
  exact absurd H (by simp)
 rw [if_neg c12] at H
 have qw : (a1 == 0) = false := beq_eq_false_iff_ne.mpr c12
 have qx : (a1 != 0) = true := bne_iff_ne.mpr c12
 simp only [Option.some.injEq, Prod.mk.injEq] at H
 obtain ⟨rfl, rfl, rfl⟩ := H
 go_enter Tryd.func119, Tryd.ntmps119
 go_wp2_with (first | ((with_reducible refine gate_callee (f := 133) rfl ?_); refine gL_ (some 18) Tryd.func133 #[.pointer (some ⟨g, 0, none⟩)] ?_; (with_reducible refine (spec_l1Byte.calls g s0_0 s0_1 s0_2 qf qh qi w0 _ ?side1 ?side2 A8.out).mono ?_); (case side1 => repeat (first | (with_reducible first | exact HI0.out | apply IsS139.alloc | apply IsS139.drewN | apply IsS139.drew | apply IsS139.set_1 | apply IsS139.set_2) | exact HI0.out)); (case side2 => repeat (first | (with_reducible first | exact HB.out | apply below_alloc | apply pw_below_drewN | apply below_drew1 | refine below_set ?_ (IsS139.ge HI0.out)) | exact HB.out)); rintro e qA ⟨rfl, hi, hb, hk⟩; refine ⟨_, rfl, ?_⟩; replace HK := Aside0.mk (KeepBut.trans (by repeat (first | (with_reducible first | exact HK.out | apply KeepBut.set_ | apply keep_drewN | apply keep_drew | apply keep_alloc) | exact HK.out)) hk (.inl rfl)); replace HB := Aside0.mk (hb); replace HI0 := Aside0.mk (hi); clear hb hk hi) | ((with_reducible refine gate_callee (f := 133) rfl ?_); refine gL_ (some 20) Tryd.func133 #[.pointer (some ⟨g, 0, none⟩)] ?_; (with_reducible refine (spec_l1Byte.calls g s0_0 qh qi qg qj qk w0 _ ?side1 ?side2 A9.out).mono ?_); (case side1 => repeat (first | (with_reducible first | exact HI0.out | apply IsS139.alloc | apply IsS139.drewN | apply IsS139.drew | apply IsS139.set_1 | apply IsS139.set_2) | exact HI0.out)); (case side2 => repeat (first | (with_reducible first | exact HB.out | apply below_alloc | apply pw_below_drewN | apply below_drew1 | refine below_set ?_ (IsS139.ge HI0.out)) | exact HB.out)); rintro e qB ⟨rfl, hi, hb, hk⟩; refine ⟨_, rfl, ?_⟩; replace HK := Aside0.mk (KeepBut.trans (by repeat (first | (with_reducible first | exact HK.out | apply KeepBut.set_ | apply keep_drewN | apply keep_drew | apply keep_alloc) | exact HK.out)) hk (.inl rfl)); replace HB := Aside0.mk (hb); replace HI0 := Aside0.mk (hi); clear hb hk hi) | ((with_reducible refine gate_callee (f := 133) rfl ?_); refine gL_ (some 22) Tryd.func133 #[.pointer (some ⟨g, 0, none⟩)] ?_; (with_reducible refine (spec_l1Byte.calls g s0_0 qj qk ql qm qn w0 _ ?side1 ?side2 A10.out).mono ?_); (case side1 => repeat (first | (with_reducible first | exact HI0.out | apply IsS139.alloc | apply IsS139.drewN | apply IsS139.drew | apply IsS139.set_1 | apply IsS139.set_2) | exact HI0.out)); (case side2 => repeat (first | (with_reducible first | exact HB.out | apply below_alloc | apply pw_below_drewN | apply below_drew1 | refine below_set ?_ (IsS139.ge HI0.out)) | exact HB.out)); rintro e qC ⟨rfl, hi, hb, hk⟩; refine ⟨_, rfl, ?_⟩; replace HK := Aside0.mk (KeepBut.trans (by repeat (first | (with_reducible first | exact HK.out | apply KeepBut.set_ | apply keep_drewN | apply keep_drew | apply keep_alloc) | exact HK.out)) hk (.inl rfl)); replace HB := Aside0.mk (hb); replace HI0 := Aside0.mk (hi); clear hb hk hi) | ((with_reducible refine gate_callee (f := 133) rfl ?_); refine gL_ (some 24) Tryd.func133 #[.pointer (some ⟨g, 0, none⟩)] ?_; (with_reducible refine (spec_l1Byte.calls g s0_0 qm qn qr qs qt w0 _ ?side1 ?side2 A11.out).mono ?_); (case side1 => repeat (first | (with_reducible first | exact HI0.out | apply IsS139.alloc | apply IsS139.drewN | apply IsS139.drew | apply IsS139.set_1 | apply IsS139.set_2) | exact HI0.out)); (case side2 => repeat (first | (with_reducible first | exact HB.out | apply below_alloc | apply pw_below_drewN | apply below_drew1 | refine below_set ?_ (IsS139.ge HI0.out)) | exact HB.out)); rintro e qD ⟨rfl, hi, hb, hk⟩; refine ⟨_, rfl, ?_⟩; replace HK := Aside0.mk (KeepBut.trans (by repeat (first | (with_reducible first | exact HK.out | apply KeepBut.set_ | apply keep_drewN | apply keep_drew | apply keep_alloc) | exact HK.out)) hk (.inl rfl)); replace HB := Aside0.mk (hb); replace HI0 := Aside0.mk (hi); clear hb hk hi))
 go_ret
 exact ⟨by first | rfl | (simp [errW_none, errW_some] <;> rfl) | (simp [*, errW_none, errW_some] <;> rfl), by repeat (first | (with_reducible first | exact HI0.out | apply IsS139.alloc | apply IsS139.drewN | apply IsS139.drew | apply IsS139.set_1 | apply IsS139.set_2) | exact HI0.out), by repeat (first | (with_reducible first | exact HB.out | apply below_alloc | apply pw_below_drewN | apply below_drew1 | refine below_set ?_ (IsS139.ge HI0.out)) | exact HB.out), by repeat (first | (with_reducible first | exact HK.out | apply KeepBut.set_ | apply keep_drewN | apply keep_drew | apply keep_alloc) | exact HK.out)⟩

/-! ### spec_l1PickInt: function 121 -/
def spec_l1PickInt.f (s0_0 : List Int) (s0_1 : Int) (s0_2 : Int) (l1 : List Int) : Option (Int × Int × Int) := (spec_l1Below.f s0_0 s0_1 s0_2 (l1.length : Int)).bind fun qa => (if 0 ≤ qa.1 then (if qa.1 < (l1.length : Int) then (some (rd l1 qa.1, qa.2.1, qa.2.2)) else (none)) else (none))
set_option maxHeartbeats 8000000 in
set_option maxRecDepth 100000 in
theorem spec_l1PickInt.calls (g : Nat) (s0_0 : List Int) (s0_1 : Int) (s0_2 : Int) (A1 : Option Addr) (c1 : Nat) (l1 : List Int) (r1 : Int) (r2 : Int) (r3 : Int) (w0 w : World) (hI : IsS139 w0 w g s0_0 s0_1 s0_2) (hB : Below w0.heap.size w0 w) (hr1 : Kd.C (Kd.int .i64) w A1 l1.length l1) (hc1 : l1.length ≤ c1) (hf1 : ∀ ad, A1 = some ad → 0 < l1.length → ad.block ≠ g) (h : spec_l1PickInt.f s0_0 s0_1 s0_2 l1 = some (r1, r2, r3)) :
  Calls Tryd.prog 121 #[.pointer (some ⟨g, 0, none⟩), .slice A1 l1.length c1] w fun e w' => e = .returned (.int .i64 r1) ∧ IsS139 w0 w' g s0_0 r2 r3 ∧ Below w0.heap.size w0 w' ∧ KeepBut w w' g none := by
 have HR1 := Aside0.mk hr1
 have HC1 := Aside0.mk hc1
 clear hr1 hc1
 have HI0 := Aside0.mk hI
 have HK := Aside0.mk (KeepBut.refl w g none)
 have HL := Aside0.mk hB.size
 clear hI
 have HW0 := Aside0.mk hB.size
 have HB := Aside0.mk hB
 clear hB
 have H : ((spec_l1Below.f s0_0 s0_1 s0_2 (l1.length : Int)).bind fun qa => (if 0 ≤ qa.1 then (if qa.1 < (l1.length : Int) then (some (rd l1 qa.1, qa.2.1, qa.2.2)) else (none)) else (none))) = some (r1, r2, r3) := h
 clear h
 replace H := Option.bind_eq_some_iff.mp H
 obtain ⟨⟨qb, qd, qe⟩, A30, H⟩ := H
 replace H : (if 0 ≤ qb then (if qb < (l1.length : Int) then (some (rd l1 qb, qd, qe)) else (none)) else (none)) = some (r1, r2, r3) := H
 have A3 := Aside0.mk A30
 clear A30
 by_cases c4 : 0 ≤ qb
 rotate_left
 ·
  rw [if_neg c4] at H
  exact absurd H (by simp)
 rw [if_pos c4] at H
 have qg : decide (0 ≤ qb) = true := decide_eq_true c4
 clear c4
 by_cases c5 : qb < (l1.length : Int)
 rotate_left
 ·
  rw [if_neg c5] at H
  exact absurd H (by simp)
 rw [if_pos c5] at H
 have qh : decide (qb < (l1.length : Int)) = true := decide_eq_true c5
 clear c5
 simp only [Option.some.injEq, Prod.mk.injEq] at H
 obtain ⟨rfl, rfl, rfl⟩ := H
 go_enter Tryd.func121, Tryd.ntmps121
 go_wp2_with (first | ((with_reducible refine gate_callee (f := 119) rfl ?_); refine gL_ (some 9) Tryd.func119 #[.pointer (some ⟨g, 0, none⟩), .int .i64 (l1.length : Int)] ?_; (with_reducible refine (spec_l1Below.calls g s0_0 s0_1 s0_2 (l1.length : Int) qb qd qe w0 _ ?side1 ?side2 A3.out).mono ?_); (case side1 => repeat (first | (with_reducible first | exact HI0.out | apply IsS139.alloc | apply IsS139.drewN | apply IsS139.drew | apply IsS139.set_1 | apply IsS139.set_2) | exact HI0.out)); (case side2 => repeat (first | (with_reducible first | exact HB.out | apply below_alloc | apply pw_below_drewN | apply below_drew1 | refine below_set ?_ (IsS139.ge HI0.out)) | exact HB.out)); rintro e w6 ⟨rfl, hi, hb, hk⟩; refine ⟨_, rfl, ?_⟩; replace HK := Aside0.mk (KeepBut.trans (by repeat (first | (with_reducible first | exact HK.out | apply KeepBut.set_ | apply keep_drewN | apply keep_drew | apply keep_alloc) | exact HK.out)) hk (.inl rfl)); replace HB := Aside0.mk (hb); replace HI0 := Aside0.mk (hi); clear hb hk hi; have p195 : 0 ≤ (qb : Int) := of_decide_eq_true (by first | (with_reducible assumption) | assumption); have q195 : qb < (l1.length : Int) := of_decide_eq_true (by first | (with_reducible assumption) | assumption); obtain ⟨qf, e195, qc⟩ := Kd.at_int HR1.out qb p195 q195; cases e195; replace qc := keep_cell HK.out qc (by first | (rw [add_block]; exact hf1 _ rfl (by omega)) | exact hf1 _ rfl (by omega) | exact hf1 qf rfl (by omega)); replace p195 := eq_true p195; replace q195 := eq_true q195))
 go_ret
 exact ⟨by first | rfl | (simp [errW_none, errW_some] <;> rfl) | (simp [*, errW_none, errW_some] <;> rfl), by repeat (first | (with_reducible first | exact HI0.out | apply IsS139.alloc | apply IsS139.drewN | apply IsS139.drew | apply IsS139.set_1 | apply IsS139.set_2) | exact HI0.out), by repeat (first | (with_reducible first | exact HB.out | apply below_alloc | apply pw_below_drewN | apply below_drew1 | refine below_set ?_ (IsS139.ge HI0.out)) | exact HB.out), by repeat (first | (with_reducible first | exact HK.out | apply KeepBut.set_ | apply keep_drewN | apply keep_drew | apply keep_alloc) | exact HK.out)⟩

/-! ### spec_l1Odd: function 120 -/
def spec_l1Odd.f (s0_0 : List Int) (s0_1 : Int) (s0_2 : Int) : Option (Int × Int × Int) := (spec_l1PickInt.f s0_0 s0_1 s0_2 (([0, 1, (-1), 2, 400000000, (-400000000), 400000001, (-400000001), 399999999, 9223372036854775807, (-9223372036854775808)] : List Int))).bind fun qa => (some (qa.1, qa.2.1, qa.2.2))
set_option maxHeartbeats 8000000 in
set_option maxRecDepth 100000 in
theorem spec_l1Odd.calls (g : Nat) (s0_0 : List Int) (s0_1 : Int) (s0_2 : Int) (r1 : Int) (r2 : Int) (r3 : Int) (w0 w : World) (hI : IsS139 w0 w g s0_0 s0_1 s0_2) (hB : Below w0.heap.size w0 w) (h : spec_l1Odd.f s0_0 s0_1 s0_2 = some (r1, r2, r3)) :
  Calls Tryd.prog 120 #[.pointer (some ⟨g, 0, none⟩)] w fun e w' => e = .returned (.int .i64 r1) ∧ IsS139 w0 w' g s0_0 r2 r3 ∧ Below w0.heap.size w0 w' ∧ KeepBut w w' g none := by
 have HI0 := Aside0.mk hI
 have HK := Aside0.mk (KeepBut.refl w g none)
 have HL := Aside0.mk hB.size
 clear hI
 have HW0 := Aside0.mk hB.size
 have HB := Aside0.mk hB
 clear hB
 have H : ((spec_l1PickInt.f s0_0 s0_1 s0_2 (([0, 1, (-1), 2, 400000000, (-400000000), 400000001, (-400000001), 399999999, 9223372036854775807, (-9223372036854775808)] : List Int))).bind fun qa => (some (qa.1, qa.2.1, qa.2.2))) = some (r1, r2, r3) := h
 clear h
 obtain ⟨y196, hy196⟩ : ∃ y_ : List Int, y_ = (([0, 1, (-1), 2, 400000000, (-400000000), 400000001, (-400000001), 399999999, 9223372036854775807, (-9223372036854775808)] : List Int)) := ⟨_, rfl⟩
 replace H : ((spec_l1PickInt.f s0_0 s0_1 s0_2 y196).bind fun qa => (some (qa.1, qa.2.1, qa.2.2))) = some (r1, r2, r3) := by first | (rw [hy196]; with_reducible exact H) | (have H2_ := (Option.bind_some _ _).symm.trans H; rw [hy196]; with_reducible exact H2_) | (have H2_ := (Option.bind_some _ _).symm.trans H; with_reducible exact H2_) | with_reducible exact H | (rw [hy196]; exact H) | exact H
 have Ny196 := Aside0.mk hy196
 clear hy196
 replace H := Option.bind_eq_some_iff.mp H
 obtain ⟨⟨qc, qd, qe⟩, A20, H⟩ := H
 replace H : (some (qc, qd, qe)) = some (r1, r2, r3) := H
 have A2 := Aside0.mk A20
 clear A20
 simp only [Option.some.injEq, Prod.mk.injEq] at H
 obtain ⟨rfl, rfl, rfl⟩ := H
 go_enter Tryd.func120, Tryd.ntmps120
 go_wp2_with (first | ((with_reducible refine gate_dst (N := 4) rfl ?_); refine Kd.R_lit (Kd.int .i64) _ 3 ?hg (N := 4) ?hd (xs := ([0, 1, (-1), 2, 400000000, (-400000000), 400000001, (-400000001), 399999999, 9223372036854775807, (-9223372036854775808)] : List Int)) (inner := [.int .i64 0, .int .i64 1, .int .i64 (-1), .int .i64 2, .int .i64 400000000, .int .i64 (-400000000), .int .i64 400000001, .int .i64 (-400000001), .int .i64 399999999, .int .i64 9223372036854775807, .int .i64 (-9223372036854775808)]) (ok := fun _ => True) (okp := fun _ => True) ?hr ?hp (fun _ hk => hk) trivial (Below.refl _ _) (Nat.le_refl _) (by simp) ?_; (case hd => rfl); (case hg => rfl); (case hr => first | (go_simp; done) | (go_simp; rfl)); (case hp => exact (Reps.one (show Kd.M (Kd.int .i64) _ _ _ 0 [.int .i64 0] from rfl) (Reps.one (show Kd.M (Kd.int .i64) _ _ _ 1 [.int .i64 1] from rfl) (Reps.one (show Kd.M (Kd.int .i64) _ _ _ (-1) [.int .i64 (-1)] from rfl) (Reps.one (show Kd.M (Kd.int .i64) _ _ _ 2 [.int .i64 2] from rfl) (Reps.one (show Kd.M (Kd.int .i64) _ _ _ 400000000 [.int .i64 400000000] from rfl) (Reps.one (show Kd.M (Kd.int .i64) _ _ _ (-400000000) [.int .i64 (-400000000)] from rfl) (Reps.one (show Kd.M (Kd.int .i64) _ _ _ 400000001 [.int .i64 400000001] from rfl) (Reps.one (show Kd.M (Kd.int .i64) _ _ _ (-400000001) [.int .i64 (-400000001)] from rfl) (Reps.one (show Kd.M (Kd.int .i64) _ _ _ 399999999 [.int .i64 399999999] from rfl) (Reps.one (show Kd.M (Kd.int .i64) _ _ _ 9223372036854775807 [.int .i64 9223372036854775807] from rfl) (Reps.one (show Kd.M (Kd.int .i64) _ _ _ (-9223372036854775808) [.int .i64 (-9223372036854775808)] from rfl) (Reps.none _ _))))))))))))); intro qf w3 ho4 hb hg_ hnew_; clear hg_ hnew_; (first | rw [← Ny196.out] at ho4 | (simp only [Int.reduceToNat] at ho4; rw [← Ny196.out] at ho4)); have qb := Aside0.mk (Kd.R_lower ho4 (keep_size (w := w) (g := g) (row := none) (by repeat (first | (with_reducible first | exact HK.out | apply KeepBut.set_ | apply keep_drewN | apply keep_drew | apply keep_alloc) | exact HK.out)))); replace HK := Aside0.mk (KeepBut.trans (by repeat (first | (with_reducible first | exact HK.out | apply KeepBut.set_ | apply keep_drewN | apply keep_drew | apply keep_alloc) | exact HK.out)) (KeepBut.of_below hb g none) (.inl rfl)); replace HB := Aside0.mk (below_step (by repeat (first | (with_reducible first | exact HB.out | apply below_alloc | apply pw_below_drewN | apply below_drew1 | refine below_set ?_ (IsS139.ge HI0.out)) | exact HB.out)) hb); replace HI0 := Aside0.mk (IsS139.below (by repeat (first | (with_reducible first | exact HI0.out | apply IsS139.alloc | apply IsS139.drewN | apply IsS139.drew | apply IsS139.set_1 | apply IsS139.set_2) | exact HI0.out)) hb); clear hb ho4; obtain ⟨qg, qh, eo5⟩ := Kd.R_slice qb.out; subst eo5) | ((with_reducible refine gate_callee (f := 121) rfl ?_); refine gL_ (some 5) Tryd.func121 #[.pointer (some ⟨g, 0, none⟩), .slice qg y196.length qh] ?_; (with_reducible refine (spec_l1PickInt.calls g s0_0 s0_1 s0_2 _ _ y196 qc qd qe w0 _ ?side1 ?side2 ?side3 ?side4 ?side5 A2.out).mono ?_); (case side1 => repeat (first | (with_reducible first | exact HI0.out | apply IsS139.alloc | apply IsS139.drewN | apply IsS139.drew | apply IsS139.set_1 | apply IsS139.set_2) | exact HI0.out)); (case side2 => repeat (first | (with_reducible first | exact HB.out | apply below_alloc | apply pw_below_drewN | apply below_drew1 | refine below_set ?_ (IsS139.ge HI0.out)) | exact HB.out)); (case side3 => exact cr_ qb); (case side4 => exact (Kd.R_reads' qb.out).2.1); (case side5 => exact far_slice (IsS139.own_ne HI0.out qb.out (by decide))); rintro e w6 ⟨rfl, hi, hb, hk⟩; refine ⟨_, rfl, ?_⟩; replace qb := Aside0.mk (Kd.R_mono (Kd.R_keep (IsS139.apart (show IsS139 w0 _ g s0_0 s0_1 s0_2 from by repeat (first | (with_reducible first | exact HI0.out | apply IsS139.alloc | apply IsS139.drewN | apply IsS139.drew | apply IsS139.set_1 | apply IsS139.set_2) | exact HI0.out)) (rm_ qb) (by decide)) hk (fun _ h => h.2)) (fun _ h => h.1)); replace HK := Aside0.mk (KeepBut.trans (by repeat (first | (with_reducible first | exact HK.out | apply KeepBut.set_ | apply keep_drewN | apply keep_drew | apply keep_alloc) | exact HK.out)) hk (.inl rfl)); replace HB := Aside0.mk (hb); replace HI0 := Aside0.mk (hi); clear hb hk hi))
 go_ret
 exact ⟨by first | rfl | (simp [errW_none, errW_some] <;> rfl) | (simp [*, errW_none, errW_some] <;> rfl), by repeat (first | (with_reducible first | exact HI0.out | apply IsS139.alloc | apply IsS139.drewN | apply IsS139.drew | apply IsS139.set_1 | apply IsS139.set_2) | exact HI0.out), by repeat (first | (with_reducible first | exact HB.out | apply below_alloc | apply pw_below_drewN | apply below_drew1 | refine below_set ?_ (IsS139.ge HI0.out)) | exact HB.out), by repeat (first | (with_reducible first | exact HK.out | apply KeepBut.set_ | apply keep_drewN | apply keep_drew | apply keep_alloc) | exact HK.out)⟩

/-! ### spec_l2Spoil: function 125 -/
def spec_l2Spoil.f (s0_0 : List Int) (s0_1 : Int) (s0_2 : Int) (l1_0 : List Int) (a1_1 : Int) (a1_2 : Bool) : Option (List Int × Int × Bool × Int × Int) := (spec_l1Below.f s0_0 s0_1 s0_2 40).bind fun qi => (if qi.1 = 0 then ((spec_l1Odd.f s0_0 qi.2.1 qi.2.2).bind fun qr => (some (l1_0, qr.1, a1_2, qr.2.1, qr.2.2))) else (if qi.1 = 1 then (if l1_0.length < 17592186044416 then (some ((l1_0 ++ [2]), a1_1, a1_2, qi.2.1, qi.2.2)) else (none)) else (if qi.1 = 2 then (some (l1_0, wrap64 (2 * a1_1), a1_2, qi.2.1, qi.2.2)) else (some (l1_0, a1_1, a1_2, qi.2.1, qi.2.2)))))
set_option maxHeartbeats 8000000 in
set_option maxRecDepth 100000 in
theorem spec_l2Spoil.calls (g : Nat) (s0_0 : List Int) (s0_1 : Int) (s0_2 : Int) (P1_0_ : Nat → Prop) (u9000_ : Value) (l1_0 : List Int) (a1_1 : Int) (a1_2 : Bool) (r1 : List Int) (r2 : Int) (r3 : Bool) (r4 : Int) (r5 : Int) (w0 w : World) (hI : IsS139 w0 w g s0_0 s0_1 s0_2) (hB : Below w0.heap.size w0 w) (ho1_0 : Kd.R (Kd.int .i64) 3 w w0.heap.size P1_0_ u9000_ l1_0) (h : spec_l2Spoil.f s0_0 s0_1 s0_2 l1_0 a1_1 a1_2 = some (r1, r2, r3, r4, r5)) :
  Calls Tryd.prog 125 #[.pointer (some ⟨g, 0, none⟩), .agg #[u9000_, .int .i64 a1_1, .bool a1_2]] w fun e w' => ∃ v0_ : Value, e = .returned (.agg #[v0_, .int .i64 r2, .bool r3]) ∧ Kd.R (Kd.int .i64) 3 w' w0.heap.size (fun k_ => (P1_0_ k_ ∨ w.heap.size ≤ k_)) v0_ r1 ∧ IsS139 w0 w' g s0_0 r4 r5 ∧ Below w0.heap.size w0 w' ∧ Kept w w' (fun k_ => (P1_0_ k_) ∨ k_ = g) := by
 have hu27 := Tryd.underlying27
 have qd := Aside0.mk (show Kd.R (Kd.int .i64) 3 w w0.heap.size (fun k_ => (P1_0_ k_ ∨ w.heap.size ≤ k_)) u9000_ l1_0 from Kd.R_mono ho1_0 (fun k_ hk => (.inl hk)))
 have HI0 := Aside0.mk hI
 have HL := Aside0.mk hB.size
 clear hI
 have HK := Aside0.mk (Kept.refl w (fun k_ => (P1_0_ k_) ∨ k_ = g))
 have HW0 := Aside0.mk hB.size
 have HB := Aside0.mk hB
 clear hB
 have H : ((spec_l1Below.f s0_0 s0_1 s0_2 40).bind fun qi => (if qi.1 = 0 then ((spec_l1Odd.f s0_0 qi.2.1 qi.2.2).bind fun qr => (some (l1_0, qr.1, a1_2, qr.2.1, qr.2.2))) else (if qi.1 = 1 then (if l1_0.length < 17592186044416 then (some ((l1_0 ++ [2]), a1_1, a1_2, qi.2.1, qi.2.2)) else (none)) else (if qi.1 = 2 then (some (l1_0, wrap64 (2 * a1_1), a1_2, qi.2.1, qi.2.2)) else (some (l1_0, a1_1, a1_2, qi.2.1, qi.2.2)))))) = some (r1, r2, r3, r4, r5) := h
 clear h
 replace H := Option.bind_eq_some_iff.mp H
 obtain ⟨⟨qo, qs, qt⟩, A30, H⟩ := H
 replace H : (if qo = 0 then ((spec_l1Odd.f s0_0 qs qt).bind fun qr => (some (l1_0, qr.1, a1_2, qr.2.1, qr.2.2))) else (if qo = 1 then (if l1_0.length < 17592186044416 then (some ((l1_0 ++ [2]), a1_1, a1_2, qs, qt)) else (none)) else (if qo = 2 then (some (l1_0, wrap64 (2 * a1_1), a1_2, qs, qt)) else (some (l1_0, a1_1, a1_2, qs, qt))))) = some (r1, r2, r3, r4, r5) := H
 have A3 := Aside0.mk A30
 clear A30
 by_cases c4 : qo = 0
 ·
  rw [if_pos c4] at H
  have zE : (qo == 0) = true := beq_iff_eq.mpr c4
  have zF : (qo != 0) = false := bne_eq_false_iff_eq.mpr c4
  clear c4
  replace H := Option.bind_eq_some_iff.mp H
  obtain ⟨⟨qu, qG, qH⟩, A50, H⟩ := H
  replace H : (some (l1_0, qu, a1_2, qG, qH)) = some (r1, r2, r3, r4, r5) := H
  have A5 := Aside0.mk A50
  clear A50
  simp only [Option.some.injEq, Prod.mk.injEq] at H
  obtain ⟨rfl, rfl, rfl, rfl, rfl⟩ := H
  obtain ⟨qE, qF, eo6⟩ := Kd.R_slice qd.out
  subst eo6
  go_enter Tryd.func125, Tryd.ntmps125
  go_wp2_with (first | ((with_reducible refine gate_dst (N := 3) rfl ?_); refine bx_ (cs := #[.slice qE l1_0.length qF, .int .i64 a1_1, .bool a1_2]) (t := 27) ?_; intro qf hg w7 hbox hb; replace qd := rB_ qd hb; have qc := Aside0.mk (hbox); have qj := Aside0.mk ((by rw [hg]; exact (by first | exact HK.out.1 | exact (show Kept w _ (fun k_ => (P1_0_ k_) ∨ k_ = g) from by repeat (first | (with_reducible first | exact HK.out | apply Kept.alloc | apply Kept.drewN | apply Kept.drew | refine Kept.setCell ?_ (.inl (.inr rfl)) _) | exact HK.out)).1) : w.heap.size ≤ qf)); replace HK := Aside0.mk (Kept.below (S := (fun k_ => (P1_0_ k_) ∨ k_ = g)) (by repeat (first | (with_reducible first | exact HK.out | apply Kept.alloc | apply Kept.drewN | apply Kept.drew | refine Kept.setCell ?_ (.inl (.inr rfl)) _) | exact HK.out)) hb); have qk := Aside0.mk ((by rw [hg]; exact (below_size (by repeat (first | (with_reducible first | exact HB.out | apply below_alloc | apply pw_below_drewN | apply below_drew1 | refine below_set ?_ (IsS139.ge HI0.out)) | exact HB.out))) : w0.heap.size ≤ qf)); replace HB := Aside0.mk (below_step (by repeat (first | (with_reducible first | exact HB.out | apply below_alloc | apply pw_below_drewN | apply below_drew1 | refine below_set ?_ (IsS139.ge HI0.out)) | exact HB.out)) hb); have qa := Aside0.mk ((by rw [hg]; exact Nat.ne_of_lt (IsS139.lt (show IsS139 w0 _ g s0_0 s0_1 s0_2 from by repeat (first | (with_reducible first | exact HI0.out | apply IsS139.alloc | apply IsS139.drewN | apply IsS139.drew | apply IsS139.set_1 | apply IsS139.set_2) | exact HI0.out))) : g ≠ qf)); have ql := Aside0.mk ((by rw [hg]; exact Nat.ne_of_gt (IsS139.lt (show IsS139 w0 _ g s0_0 s0_1 s0_2 from by repeat (first | (with_reducible first | exact HI0.out | apply IsS139.alloc | apply IsS139.drewN | apply IsS139.drew | apply IsS139.set_1 | apply IsS139.set_2) | exact HI0.out))) : qf ≠ g)); replace HI0 := Aside0.mk (IsS139.below (by repeat (first | (with_reducible first | exact HI0.out | apply IsS139.alloc | apply IsS139.drewN | apply IsS139.drew | apply IsS139.set_1 | apply IsS139.set_2) | exact HI0.out)) hb); clear hb hbox hg) | ((with_reducible refine gate_dst (N := 4) rfl ?_); refine bx_ (cs := #[.slice none 0 0, .int .i64 0, .bool false]) (t := 27) ?_; intro qb hg w8 hbox hb; replace qd := rB_ qd hb; have qg := Aside0.mk (hbox); have qp := Aside0.mk ((by rw [hg]; exact (by first | exact HK.out.1 | exact (show Kept w _ (fun k_ => (P1_0_ k_) ∨ k_ = g) from by repeat (first | (with_reducible first | exact HK.out | apply Kept.alloc | apply Kept.drewN | apply Kept.drew | refine Kept.setCell ?_ (.inl (.inr rfl)) _ | refine Kept.setCell ?_ (.inr qj.out) _) | exact HK.out)).1) : w.heap.size ≤ qb)); replace HK := Aside0.mk (Kept.below (S := (fun k_ => (P1_0_ k_) ∨ k_ = g)) (by repeat (first | (with_reducible first | exact HK.out | apply Kept.alloc | apply Kept.drewN | apply Kept.drew | refine Kept.setCell ?_ (.inl (.inr rfl)) _ | refine Kept.setCell ?_ (.inr qj.out) _) | exact HK.out)) hb); have qq := Aside0.mk ((by rw [hg]; exact (below_size (by repeat (first | (with_reducible first | exact HB.out | apply below_alloc | apply pw_below_drewN | apply below_drew1 | refine below_set ?_ (IsS139.ge HI0.out) | refine below_set ?_ qk.out) | exact HB.out))) : w0.heap.size ≤ qb)); replace HB := Aside0.mk (below_step (by repeat (first | (with_reducible first | exact HB.out | apply below_alloc | apply pw_below_drewN | apply below_drew1 | refine below_set ?_ (IsS139.ge HI0.out) | refine below_set ?_ qk.out) | exact HB.out)) hb); have qn := nL_ qc hg; have qh := nG_ qc hg; replace qc := kB_ qc hb; have qe := Aside0.mk ((by rw [hg]; exact Nat.ne_of_lt (IsS139.lt (show IsS139 w0 _ g s0_0 s0_1 s0_2 from by repeat (first | (with_reducible first | exact HI0.out | apply IsS139.alloc | apply IsS139.drewN | apply IsS139.drew | apply IsS139.set_1 | apply IsS139.set_2 | refine IsS139.far ?_ qa.out _) | exact HI0.out))) : g ≠ qb)); have qm := Aside0.mk ((by rw [hg]; exact Nat.ne_of_gt (IsS139.lt (show IsS139 w0 _ g s0_0 s0_1 s0_2 from by repeat (first | (with_reducible first | exact HI0.out | apply IsS139.alloc | apply IsS139.drewN | apply IsS139.drew | apply IsS139.set_1 | apply IsS139.set_2 | refine IsS139.far ?_ qa.out _) | exact HI0.out))) : qb ≠ g)); replace HI0 := Aside0.mk (IsS139.below (by repeat (first | (with_reducible first | exact HI0.out | apply IsS139.alloc | apply IsS139.drewN | apply IsS139.drew | apply IsS139.set_1 | apply IsS139.set_2 | refine IsS139.far ?_ qa.out _) | exact HI0.out)) hb); clear hb hbox hg) | ((with_reducible refine gate_callee (f := 119) rfl ?_); refine gL_ (some 6) Tryd.func119 #[.pointer (some ⟨g, 0, none⟩), .int .i64 40] ?_; (with_reducible refine (spec_l1Below.calls g s0_0 s0_1 s0_2 40 qo qs qt w0 _ ?side1 ?side2 A3.out).mono ?_); (case side1 => repeat (first | (with_reducible first | exact HI0.out | apply IsS139.alloc | apply IsS139.drewN | apply IsS139.drew | apply IsS139.set_1 | apply IsS139.set_2 | refine IsS139.far ?_ qa.out _ | refine IsS139.far ?_ qe.out _) | exact HI0.out)); (case side2 => repeat (first | (with_reducible first | exact HB.out | apply below_alloc | apply pw_below_drewN | apply below_drew1 | refine below_set ?_ (IsS139.ge HI0.out) | refine below_set ?_ qk.out | refine below_set ?_ qq.out) | exact HB.out)); rintro e w9 ⟨rfl, hi, hb, hk⟩; refine ⟨_, rfl, ?_⟩; replace qd := Aside0.mk (Kd.R_mono (Kd.R_keep (IsS139.apart (show IsS139 w0 _ g s0_0 s0_1 s0_2 from by repeat (first | (with_reducible first | exact HI0.out | apply IsS139.alloc | apply IsS139.drewN | apply IsS139.drew | apply IsS139.set_1 | apply IsS139.set_2 | refine IsS139.far ?_ qa.out _ | refine IsS139.far ?_ qe.out _) | exact HI0.out)) (rm_ qd) (by decide)) hk (fun _ h => h.2)) (fun _ h => h.1)); replace qc := Aside0.mk (KeepBut.blk hk (g' := qf) (o := .cells #[.slice qE l1_0.length qF, .int .i64 a1_1, .bool a1_2] 27 (0, 0)) (kf_ qc) ql.out (by simp)); replace qg := Aside0.mk (KeepBut.blk hk (g' := qb) (o := .cells #[.slice none 0 0, .int .i64 0, .bool false] 27 (0, 0)) (kf_ qg) qm.out (by simp)); replace HK := Aside0.mk (Kept.of_keep (S := (fun k_ => (P1_0_ k_) ∨ k_ = g)) (by repeat (first | (with_reducible first | exact HK.out | apply Kept.alloc | apply Kept.drewN | apply Kept.drew | refine Kept.setCell ?_ (.inl (.inr rfl)) _ | refine Kept.setCell ?_ (.inr qj.out) _ | refine Kept.setCell ?_ (.inr qp.out) _) | exact HK.out)) hk (.inl (.inr rfl))); replace HB := Aside0.mk (hb); replace HI0 := Aside0.mk (hi); clear hb hk hi) | ((with_reducible refine gate_callee (f := 120) rfl ?_); refine gL_ (some 10) Tryd.func120 #[.pointer (some ⟨g, 0, none⟩)] ?_; (with_reducible refine (spec_l1Odd.calls g s0_0 qs qt qu qG qH w0 _ ?side1 ?side2 A5.out).mono ?_); (case side1 => repeat (first | (with_reducible first | exact HI0.out | apply IsS139.alloc | apply IsS139.drewN | apply IsS139.drew | apply IsS139.set_1 | apply IsS139.set_2 | refine IsS139.far ?_ qa.out _ | refine IsS139.far ?_ qe.out _) | exact HI0.out)); (case side2 => repeat (first | (with_reducible first | exact HB.out | apply below_alloc | apply pw_below_drewN | apply below_drew1 | refine below_set ?_ (IsS139.ge HI0.out) | refine below_set ?_ qk.out | refine below_set ?_ qq.out) | exact HB.out)); rintro e z5 ⟨rfl, hi, hb, hk⟩; refine ⟨_, rfl, ?_⟩; replace qd := Aside0.mk (Kd.R_mono (Kd.R_keep (IsS139.apart (show IsS139 w0 _ g s0_0 qs qt from by repeat (first | (with_reducible first | exact HI0.out | apply IsS139.alloc | apply IsS139.drewN | apply IsS139.drew | apply IsS139.set_1 | apply IsS139.set_2 | refine IsS139.far ?_ qa.out _ | refine IsS139.far ?_ qe.out _) | exact HI0.out)) (rm_ qd) (by decide)) hk (fun _ h => h.2)) (fun _ h => h.1)); replace qc := Aside0.mk (KeepBut.blk hk (g' := qf) (o := .cells #[.slice qE l1_0.length qF, .int .i64 a1_1, .bool a1_2] 27 (0, 0)) (kf_ qc) ql.out (by simp)); replace qg := Aside0.mk (KeepBut.blk hk (g' := qb) (o := .cells #[.slice none 0 0, .int .i64 0, .bool false] 27 (0, 0)) (kf_ qg) qm.out (by simp)); replace HK := Aside0.mk (Kept.of_keep (S := (fun k_ => (P1_0_ k_) ∨ k_ = g)) (by repeat (first | (with_reducible first | exact HK.out | apply Kept.alloc | apply Kept.drewN | apply Kept.drew | refine Kept.setCell ?_ (.inl (.inr rfl)) _ | refine Kept.setCell ?_ (.inr qj.out) _ | refine Kept.setCell ?_ (.inr qp.out) _) | exact HK.out)) hk (.inl (.inr rfl))); replace HB := Aside0.mk (hb); replace HI0 := Aside0.mk (hi); clear hb hk hi; have zG := qn.out; have zH := qh.out; have zI := ql.out; have zJ := qa.out; obtain ⟨qM, qN, qO, qP, qQ, qR⟩ := b3_ qc; have zK := qm.out; have zL := qe.out; obtain ⟨qS, qT, qU, qV, qW, qX⟩ := b3_ qg))
  refine bodyPost_ret (results_cell_row rfl _ _ qb 27 #[.slice qE l1_0.length qF, .int .i64 qu, .bool a1_2] (0, 0) _ rfl (by (with_reducible repeat (first | refine blk_drewN ?_ _ | refine blk_drew ?_ | refine blk_alloc ?_ _)); refine blk_put (cs := #[.slice qE l1_0.length qF, .int .i64 qu, .bool false]) ?_ 2 _ rfl; (with_reducible repeat (first | refine blk_drewN ?_ _ | refine blk_drew ?_ | refine blk_alloc ?_ _)); refine blk_put (cs := #[.slice qE l1_0.length qF, .int .i64 0, .bool false]) ?_ 1 _ rfl; (with_reducible repeat (first | refine blk_drewN ?_ _ | refine blk_drew ?_ | refine blk_alloc ?_ _)); refine blk_put (cs := #[.slice none 0 0, .int .i64 0, .bool false]) ?_ 0 _ rfl; (with_reducible repeat (first | refine blk_drewN ?_ _ | refine blk_drew ?_ | refine blk_alloc ?_ _)); refine blk_far ?_ qh.out _; (with_reducible repeat (first | refine blk_drewN ?_ _ | refine blk_drew ?_ | refine blk_alloc ?_ _)); exact qg.out) Tryd.underlying27 rfl (by kernel_rfl)) rfl ?_
  exact ⟨_, by first | rfl | (simp [errW_none, errW_some] <;> rfl) | (simp [*, errW_none, errW_some] <;> rfl), by (with_reducible repeat (first | apply Kd.R_alloc | apply Kd.R_drewN | apply Kd.R_drew)); exact Kd.R_mono (Kd.R_far (p := ⟨qb, 2, none⟩) (Kd.R_far (p := ⟨qb, 1, none⟩) (Kd.R_far (p := ⟨qb, 0, none⟩) (Kd.R_far (p := ⟨qf, 1, none⟩) (Kd.R_types (Kd.R_types qd.out qc.out (by decide)) qg.out (by decide)) (fun _ hk => hk.1.2) (.int .i64 qu)) (fun _ hk => hk.2) (.slice qE l1_0.length qF)) (fun _ hk => hk.2) (.int .i64 qu)) (fun _ hk => hk.2) (.bool a1_2)) (fun _ hk => hk.1.1), by repeat (first | (with_reducible first | exact HI0.out | apply IsS139.alloc | apply IsS139.drewN | apply IsS139.drew | apply IsS139.set_1 | apply IsS139.set_2 | refine IsS139.far ?_ qa.out _ | refine IsS139.far ?_ qe.out _) | exact HI0.out), by repeat (first | (with_reducible first | exact HB.out | apply below_alloc | apply pw_below_drewN | apply below_drew1 | refine below_set ?_ (IsS139.ge HI0.out) | refine below_set ?_ qk.out | refine below_set ?_ qq.out) | exact HB.out), by repeat (first | (with_reducible first | exact HK.out | apply Kept.alloc | apply Kept.drewN | apply Kept.drew | refine Kept.setCell ?_ (.inl (.inr rfl)) _ | refine Kept.setCell ?_ (.inr qj.out) _ | refine Kept.setCell ?_ (.inr qp.out) _) | exact HK.out)⟩
 rw [if_neg c4] at H
 have zE : (qo == 0) = false := beq_eq_false_iff_ne.mpr c4
 have zF : (qo != 0) = true := bne_iff_ne.mpr c4
 by_cases c16 : qo = 1
 ·
  rw [if_pos c16] at H
  have qI : (qo == 1) = true := beq_iff_eq.mpr c16
  have qJ : (qo != 1) = false := bne_eq_false_iff_eq.mpr c16
  clear c16
  by_cases c17 : l1_0.length < 17592186044416
  rotate_left
  ·
   rw [if_neg c17] at H
   exact absurd H (by simp)
  rw [if_pos c17] at H
  have LMc17 := Aside0.mk c17
  clear c17
  obtain ⟨y210, hy210⟩ : ∃ y_ : List Int, y_ = (l1_0 ++ [2]) := ⟨_, rfl⟩
  replace H : (some (y210, a1_1, a1_2, qs, qt)) = some (r1, r2, r3, r4, r5) := by first | (rw [hy210]; with_reducible exact H) | (have H2_ := (Option.bind_some _ _).symm.trans H; rw [hy210]; with_reducible exact H2_) | (have H2_ := (Option.bind_some _ _).symm.trans H; with_reducible exact H2_) | with_reducible exact H | (rw [hy210]; exact H) | exact H
  have Ny210 := Aside0.mk hy210
  clear hy210
  simp only [Option.some.injEq, Prod.mk.injEq] at H
  obtain ⟨rfl, rfl, rfl, rfl, rfl⟩ := H
  obtain ⟨qB, qC, eo18⟩ := Kd.R_slice qd.out
  subst eo18
  go_enter Tryd.func125, Tryd.ntmps125
  go_wp2_with (first | ((with_reducible refine gate_dst (N := 3) rfl ?_); refine bx_ (cs := #[.slice qB l1_0.length qC, .int .i64 a1_1, .bool a1_2]) (t := 27) ?_; intro qf hg z6 hbox hb; replace qd := rB_ qd hb; have qc := Aside0.mk (hbox); have qj := Aside0.mk ((by rw [hg]; exact (by first | exact HK.out.1 | exact (show Kept w _ (fun k_ => (P1_0_ k_) ∨ k_ = g) from by repeat (first | (with_reducible first | exact HK.out | apply Kept.alloc | apply Kept.drewN | apply Kept.drew | refine Kept.setCell ?_ (.inl (.inr rfl)) _) | exact HK.out)).1) : w.heap.size ≤ qf)); replace HK := Aside0.mk (Kept.below (S := (fun k_ => (P1_0_ k_) ∨ k_ = g)) (by repeat (first | (with_reducible first | exact HK.out | apply Kept.alloc | apply Kept.drewN | apply Kept.drew | refine Kept.setCell ?_ (.inl (.inr rfl)) _) | exact HK.out)) hb); have qk := Aside0.mk ((by rw [hg]; exact (below_size (by repeat (first | (with_reducible first | exact HB.out | apply below_alloc | apply pw_below_drewN | apply below_drew1 | refine below_set ?_ (IsS139.ge HI0.out)) | exact HB.out))) : w0.heap.size ≤ qf)); replace HB := Aside0.mk (below_step (by repeat (first | (with_reducible first | exact HB.out | apply below_alloc | apply pw_below_drewN | apply below_drew1 | refine below_set ?_ (IsS139.ge HI0.out)) | exact HB.out)) hb); have qa := Aside0.mk ((by rw [hg]; exact Nat.ne_of_lt (IsS139.lt (show IsS139 w0 _ g s0_0 s0_1 s0_2 from by repeat (first | (with_reducible first | exact HI0.out | apply IsS139.alloc | apply IsS139.drewN | apply IsS139.drew | apply IsS139.set_1 | apply IsS139.set_2) | exact HI0.out))) : g ≠ qf)); have ql := Aside0.mk ((by rw [hg]; exact Nat.ne_of_gt (IsS139.lt (show IsS139 w0 _ g s0_0 s0_1 s0_2 from by repeat (first | (with_reducible first | exact HI0.out | apply IsS139.alloc | apply IsS139.drewN | apply IsS139.drew | apply IsS139.set_1 | apply IsS139.set_2) | exact HI0.out))) : qf ≠ g)); replace HI0 := Aside0.mk (IsS139.below (by repeat (first | (with_reducible first | exact HI0.out | apply IsS139.alloc | apply IsS139.drewN | apply IsS139.drew | apply IsS139.set_1 | apply IsS139.set_2) | exact HI0.out)) hb); clear hb hbox hg) | ((with_reducible refine gate_dst (N := 4) rfl ?_); refine bx_ (cs := #[.slice none 0 0, .int .i64 0, .bool false]) (t := 27) ?_; intro qb hg z7 hbox hb; replace qd := rB_ qd hb; have qg := Aside0.mk (hbox); have qp := Aside0.mk ((by rw [hg]; exact (by first | exact HK.out.1 | exact (show Kept w _ (fun k_ => (P1_0_ k_) ∨ k_ = g) from by repeat (first | (with_reducible first | exact HK.out | apply Kept.alloc | apply Kept.drewN | apply Kept.drew | refine Kept.setCell ?_ (.inl (.inr rfl)) _ | refine Kept.setCell ?_ (.inr qj.out) _) | exact HK.out)).1) : w.heap.size ≤ qb)); replace HK := Aside0.mk (Kept.below (S := (fun k_ => (P1_0_ k_) ∨ k_ = g)) (by repeat (first | (with_reducible first | exact HK.out | apply Kept.alloc | apply Kept.drewN | apply Kept.drew | refine Kept.setCell ?_ (.inl (.inr rfl)) _ | refine Kept.setCell ?_ (.inr qj.out) _) | exact HK.out)) hb); have qq := Aside0.mk ((by rw [hg]; exact (below_size (by repeat (first | (with_reducible first | exact HB.out | apply below_alloc | apply pw_below_drewN | apply below_drew1 | refine below_set ?_ (IsS139.ge HI0.out) | refine below_set ?_ qk.out) | exact HB.out))) : w0.heap.size ≤ qb)); replace HB := Aside0.mk (below_step (by repeat (first | (with_reducible first | exact HB.out | apply below_alloc | apply pw_below_drewN | apply below_drew1 | refine below_set ?_ (IsS139.ge HI0.out) | refine below_set ?_ qk.out) | exact HB.out)) hb); have qn := nL_ qc hg; have qh := nG_ qc hg; replace qc := kB_ qc hb; have qe := Aside0.mk ((by rw [hg]; exact Nat.ne_of_lt (IsS139.lt (show IsS139 w0 _ g s0_0 s0_1 s0_2 from by repeat (first | (with_reducible first | exact HI0.out | apply IsS139.alloc | apply IsS139.drewN | apply IsS139.drew | apply IsS139.set_1 | apply IsS139.set_2 | refine IsS139.far ?_ qa.out _) | exact HI0.out))) : g ≠ qb)); have qm := Aside0.mk ((by rw [hg]; exact Nat.ne_of_gt (IsS139.lt (show IsS139 w0 _ g s0_0 s0_1 s0_2 from by repeat (first | (with_reducible first | exact HI0.out | apply IsS139.alloc | apply IsS139.drewN | apply IsS139.drew | apply IsS139.set_1 | apply IsS139.set_2 | refine IsS139.far ?_ qa.out _) | exact HI0.out))) : qb ≠ g)); replace HI0 := Aside0.mk (IsS139.below (by repeat (first | (with_reducible first | exact HI0.out | apply IsS139.alloc | apply IsS139.drewN | apply IsS139.drew | apply IsS139.set_1 | apply IsS139.set_2 | refine IsS139.far ?_ qa.out _) | exact HI0.out)) hb); clear hb hbox hg) | ((with_reducible refine gate_callee (f := 119) rfl ?_); refine gL_ (some 6) Tryd.func119 #[.pointer (some ⟨g, 0, none⟩), .int .i64 40] ?_; (with_reducible refine (spec_l1Below.calls g s0_0 s0_1 s0_2 40 qo qs qt w0 _ ?side1 ?side2 A3.out).mono ?_); (case side1 => repeat (first | (with_reducible first | exact HI0.out | apply IsS139.alloc | apply IsS139.drewN | apply IsS139.drew | apply IsS139.set_1 | apply IsS139.set_2 | refine IsS139.far ?_ qa.out _ | refine IsS139.far ?_ qe.out _) | exact HI0.out)); (case side2 => repeat (first | (with_reducible first | exact HB.out | apply below_alloc | apply pw_below_drewN | apply below_drew1 | refine below_set ?_ (IsS139.ge HI0.out) | refine below_set ?_ qk.out | refine below_set ?_ qq.out) | exact HB.out)); rintro e z8 ⟨rfl, hi, hb, hk⟩; refine ⟨_, rfl, ?_⟩; replace qd := Aside0.mk (Kd.R_mono (Kd.R_keep (IsS139.apart (show IsS139 w0 _ g s0_0 s0_1 s0_2 from by repeat (first | (with_reducible first | exact HI0.out | apply IsS139.alloc | apply IsS139.drewN | apply IsS139.drew | apply IsS139.set_1 | apply IsS139.set_2 | refine IsS139.far ?_ qa.out _ | refine IsS139.far ?_ qe.out _) | exact HI0.out)) (rm_ qd) (by decide)) hk (fun _ h => h.2)) (fun _ h => h.1)); replace qc := Aside0.mk (KeepBut.blk hk (g' := qf) (o := .cells #[.slice qB l1_0.length qC, .int .i64 a1_1, .bool a1_2] 27 (0, 0)) (kf_ qc) ql.out (by simp)); replace qg := Aside0.mk (KeepBut.blk hk (g' := qb) (o := .cells #[.slice none 0 0, .int .i64 0, .bool false] 27 (0, 0)) (kf_ qg) qm.out (by simp)); replace HK := Aside0.mk (Kept.of_keep (S := (fun k_ => (P1_0_ k_) ∨ k_ = g)) (by repeat (first | (with_reducible first | exact HK.out | apply Kept.alloc | apply Kept.drewN | apply Kept.drew | refine Kept.setCell ?_ (.inl (.inr rfl)) _ | refine Kept.setCell ?_ (.inr qj.out) _ | refine Kept.setCell ?_ (.inr qp.out) _) | exact HK.out)) hk (.inl (.inr rfl))); replace HB := Aside0.mk (hb); replace HI0 := Aside0.mk (hi); clear hb hk hi; have zM := qn.out; have zN := qh.out; have zO := ql.out; have zP := qa.out; obtain ⟨qY, qZ, q0, q1, q2, q3⟩ := b3_ qc) | ((with_reducible refine gate_builtin (b := .append) (xs := #[.tmp 15, .tmp 16]) rfl ?_); at_builtin; refine Kd.R_append (Kd.int .i64) (w0 := w0) w0.heap.size rfl (.tmp 15) (.tmp 16) 22 3 (.int .i64 0) 8 rfl Tryd.underlying22 info3 rfl (by decide) (by omega) (.slice qB l1_0.length qC) l1_0 2 [.int .i64 2] (fun k_ => (P1_0_ k_ ∨ w.heap.size ≤ k_)) (fun _ => False) rfl rfl ?aP (fun _ hk => hk.elim) ?aF ?aO ?aB ?aS ?aL ?_; (case aP => exact rfl); (case aB => exact (by repeat (first | (with_reducible first | exact HB.out | apply below_alloc | apply pw_below_drewN | apply below_drew1 | refine below_set ?_ (IsS139.ge HI0.out) | refine below_set ?_ qk.out | refine below_set ?_ qq.out) | exact HB.out))); (case aF => exact (fun k_ hk => (.inr (Nat.le_trans (by first | exact HK.out.1 | exact (show Kept w _ (fun k_ => (P1_0_ k_) ∨ k_ = g) from by repeat (first | (with_reducible first | exact HK.out | apply Kept.alloc | apply Kept.drewN | apply Kept.drew | refine Kept.setCell ?_ (.inl (.inr rfl)) _ | refine Kept.setCell ?_ (.inr qj.out) _ | refine Kept.setCell ?_ (.inr qp.out) _) | exact HK.out)).1) hk)))); (case aO => exact (rm_ qd)); (case aS => exact (below_size (by repeat (first | (with_reducible first | exact HB.out | apply below_alloc | apply pw_below_drewN | apply below_drew1 | refine below_set ?_ (IsS139.ge HI0.out) | refine below_set ?_ qk.out | refine below_set ?_ qq.out) | exact HB.out)))); (case aL => have := LMc17.out; omega); intro z4 z9 ho hb hg hat; rw [← Ny210.out] at ho; replace HI0 := Aside0.mk (IsS139.grown (by repeat (first | (with_reducible first | exact HI0.out | apply IsS139.alloc | apply IsS139.drewN | apply IsS139.drew | apply IsS139.set_1 | apply IsS139.set_2 | refine IsS139.far ?_ qa.out _ | refine IsS139.far ?_ qe.out _) | exact HI0.out)) hg (IsS139.own_ne HI0.out qd.out (by decide))); replace qc := Aside0.mk (blk_grown (g := qf) (o := .cells #[.slice qB l1_0.length qC, .int .i64 a1_1, .bool a1_2] 27 (0, 0)) (kf_ qc) hg (Kd.R_ne qd.out qc.out (by decide))); replace qg := Aside0.mk (blk_grown (g := qb) (o := .cells #[.slice none 0 0, .int .i64 0, .bool false] 27 (0, 0)) (kf_ qg) hg (Kd.R_ne qd.out qg.out (by decide))); replace HB := Aside0.mk (hb); replace HK := Aside0.mk (Kept.of_grown (S := (fun k_ => (P1_0_ k_) ∨ k_ = g)) hg (by repeat (first | (with_reducible first | exact HK.out | apply Kept.alloc | apply Kept.drewN | apply Kept.drew | refine Kept.setCell ?_ (.inl (.inr rfl)) _ | refine Kept.setCell ?_ (.inr qj.out) _ | refine Kept.setCell ?_ (.inr qp.out) _) | exact HK.out)) (fun k_ e_ => Or.imp_left Or.inl ((qd.out.1 k_ e_)))); have qD := Aside0.mk (ho); clear qd; clear ho hb hg hat; obtain ⟨qz, qA, eo26⟩ := Kd.R_slice qD.out; subst eo26; obtain ⟨q4, q5, q6, q7, q8, q9⟩ := b3_ qc; have zQ := qm.out; have zR := qe.out; obtain ⟨za, zb, zc, zd, ze, zf⟩ := b3_ qg))
  refine bodyPost_ret (results_cell_row rfl _ _ qb 27 #[.slice qz y210.length qA, .int .i64 a1_1, .bool a1_2] (0, 0) _ rfl (by (with_reducible repeat (first | refine blk_drewN ?_ _ | refine blk_drew ?_ | refine blk_alloc ?_ _)); refine blk_put (cs := #[.slice qz y210.length qA, .int .i64 a1_1, .bool false]) ?_ 2 _ rfl; (with_reducible repeat (first | refine blk_drewN ?_ _ | refine blk_drew ?_ | refine blk_alloc ?_ _)); refine blk_put (cs := #[.slice qz y210.length qA, .int .i64 0, .bool false]) ?_ 1 _ rfl; (with_reducible repeat (first | refine blk_drewN ?_ _ | refine blk_drew ?_ | refine blk_alloc ?_ _)); refine blk_put (cs := #[.slice none 0 0, .int .i64 0, .bool false]) ?_ 0 _ rfl; (with_reducible repeat (first | refine blk_drewN ?_ _ | refine blk_drew ?_ | refine blk_alloc ?_ _)); refine blk_far ?_ qh.out _; (with_reducible repeat (first | refine blk_drewN ?_ _ | refine blk_drew ?_ | refine blk_alloc ?_ _)); exact qg.out) Tryd.underlying27 rfl (by kernel_rfl)) rfl ?_
  exact ⟨_, by first | rfl | (simp [errW_none, errW_some] <;> rfl) | (simp [*, errW_none, errW_some] <;> rfl), by (with_reducible repeat (first | apply Kd.R_alloc | apply Kd.R_drewN | apply Kd.R_drew)); exact Kd.R_mono (Kd.R_far (p := ⟨qb, 2, none⟩) (Kd.R_far (p := ⟨qb, 1, none⟩) (Kd.R_far (p := ⟨qb, 0, none⟩) (Kd.R_far (p := ⟨qf, 0, none⟩) (Kd.R_types (Kd.R_types qD.out qc.out (by decide)) qg.out (by decide)) (fun _ hk => hk.1.2) (.slice qz y210.length qA)) (fun _ hk => hk.2) (.slice qz y210.length qA)) (fun _ hk => hk.2) (.int .i64 a1_1)) (fun _ hk => hk.2) (.bool a1_2)) (fun _ hk => hk.1.1), by repeat (first | (with_reducible first | exact HI0.out | apply IsS139.alloc | apply IsS139.drewN | apply IsS139.drew | apply IsS139.set_1 | apply IsS139.set_2 | refine IsS139.far ?_ qa.out _ | refine IsS139.far ?_ qe.out _) | exact HI0.out), by repeat (first | (with_reducible first | exact HB.out | apply below_alloc | apply pw_below_drewN | apply below_drew1 | refine below_set ?_ (IsS139.ge HI0.out) | refine below_set ?_ qk.out | refine below_set ?_ qq.out) | exact HB.out), by repeat (first | (with_reducible first | exact HK.out | apply Kept.alloc | apply Kept.drewN | apply Kept.drew | refine Kept.setCell ?_ (.inl (.inr rfl)) _ | refine Kept.setCell ?_ (.inr qj.out) _ | refine Kept.setCell ?_ (.inr qp.out) _) | exact HK.out)⟩
 rw [if_neg c16] at H
 have qI : (qo == 1) = false := beq_eq_false_iff_ne.mpr c16
 have qJ : (qo != 1) = true := bne_iff_ne.mpr c16
 by_cases c30 : qo = 2
 rotate_left
 ·
  rw [if_neg c30] at H
  have qK : (qo == 2) = false := beq_eq_false_iff_ne.mpr c30
  have qL : (qo != 2) = true := bne_iff_ne.mpr c30
  simp only [Option.some.injEq, Prod.mk.injEq] at H
  obtain ⟨rfl, rfl, rfl, rfl, rfl⟩ := H
  obtain ⟨qv, qw, eo40⟩ := Kd.R_slice qd.out
  subst eo40
  go_enter Tryd.func125, Tryd.ntmps125
  go_wp2_with (first | ((with_reducible refine gate_dst (N := 3) rfl ?_); refine bx_ (cs := #[.slice qv l1_0.length qw, .int .i64 a1_1, .bool a1_2]) (t := 27) ?_; intro qf hg ja hbox hb; replace qd := rB_ qd hb; have qc := Aside0.mk (hbox); have qj := Aside0.mk ((by rw [hg]; exact (by first | exact HK.out.1 | exact (show Kept w _ (fun k_ => (P1_0_ k_) ∨ k_ = g) from by repeat (first | (with_reducible first | exact HK.out | apply Kept.alloc | apply Kept.drewN | apply Kept.drew | refine Kept.setCell ?_ (.inl (.inr rfl)) _) | exact HK.out)).1) : w.heap.size ≤ qf)); replace HK := Aside0.mk (Kept.below (S := (fun k_ => (P1_0_ k_) ∨ k_ = g)) (by repeat (first | (with_reducible first | exact HK.out | apply Kept.alloc | apply Kept.drewN | apply Kept.drew | refine Kept.setCell ?_ (.inl (.inr rfl)) _) | exact HK.out)) hb); have qk := Aside0.mk ((by rw [hg]; exact (below_size (by repeat (first | (with_reducible first | exact HB.out | apply below_alloc | apply pw_below_drewN | apply below_drew1 | refine below_set ?_ (IsS139.ge HI0.out)) | exact HB.out))) : w0.heap.size ≤ qf)); replace HB := Aside0.mk (below_step (by repeat (first | (with_reducible first | exact HB.out | apply below_alloc | apply pw_below_drewN | apply below_drew1 | refine below_set ?_ (IsS139.ge HI0.out)) | exact HB.out)) hb); have qa := Aside0.mk ((by rw [hg]; exact Nat.ne_of_lt (IsS139.lt (show IsS139 w0 _ g s0_0 s0_1 s0_2 from by repeat (first | (with_reducible first | exact HI0.out | apply IsS139.alloc | apply IsS139.drewN | apply IsS139.drew | apply IsS139.set_1 | apply IsS139.set_2) | exact HI0.out))) : g ≠ qf)); have ql := Aside0.mk ((by rw [hg]; exact Nat.ne_of_gt (IsS139.lt (show IsS139 w0 _ g s0_0 s0_1 s0_2 from by repeat (first | (with_reducible first | exact HI0.out | apply IsS139.alloc | apply IsS139.drewN | apply IsS139.drew | apply IsS139.set_1 | apply IsS139.set_2) | exact HI0.out))) : qf ≠ g)); replace HI0 := Aside0.mk (IsS139.below (by repeat (first | (with_reducible first | exact HI0.out | apply IsS139.alloc | apply IsS139.drewN | apply IsS139.drew | apply IsS139.set_1 | apply IsS139.set_2) | exact HI0.out)) hb); clear hb hbox hg) | ((with_reducible refine gate_dst (N := 4) rfl ?_); refine bx_ (cs := #[.slice none 0 0, .int .i64 0, .bool false]) (t := 27) ?_; intro qb hg jb hbox hb; replace qd := rB_ qd hb; have qg := Aside0.mk (hbox); have qp := Aside0.mk ((by rw [hg]; exact (by first | exact HK.out.1 | exact (show Kept w _ (fun k_ => (P1_0_ k_) ∨ k_ = g) from by repeat (first | (with_reducible first | exact HK.out | apply Kept.alloc | apply Kept.drewN | apply Kept.drew | refine Kept.setCell ?_ (.inl (.inr rfl)) _ | refine Kept.setCell ?_ (.inr qj.out) _) | exact HK.out)).1) : w.heap.size ≤ qb)); replace HK := Aside0.mk (Kept.below (S := (fun k_ => (P1_0_ k_) ∨ k_ = g)) (by repeat (first | (with_reducible first | exact HK.out | apply Kept.alloc | apply Kept.drewN | apply Kept.drew | refine Kept.setCell ?_ (.inl (.inr rfl)) _ | refine Kept.setCell ?_ (.inr qj.out) _) | exact HK.out)) hb); have qq := Aside0.mk ((by rw [hg]; exact (below_size (by repeat (first | (with_reducible first | exact HB.out | apply below_alloc | apply pw_below_drewN | apply below_drew1 | refine below_set ?_ (IsS139.ge HI0.out) | refine below_set ?_ qk.out) | exact HB.out))) : w0.heap.size ≤ qb)); replace HB := Aside0.mk (below_step (by repeat (first | (with_reducible first | exact HB.out | apply below_alloc | apply pw_below_drewN | apply below_drew1 | refine below_set ?_ (IsS139.ge HI0.out) | refine below_set ?_ qk.out) | exact HB.out)) hb); have qn := nL_ qc hg; have qh := nG_ qc hg; replace qc := kB_ qc hb; have qe := Aside0.mk ((by rw [hg]; exact Nat.ne_of_lt (IsS139.lt (show IsS139 w0 _ g s0_0 s0_1 s0_2 from by repeat (first | (with_reducible first | exact HI0.out | apply IsS139.alloc | apply IsS139.drewN | apply IsS139.drew | apply IsS139.set_1 | apply IsS139.set_2 | refine IsS139.far ?_ qa.out _) | exact HI0.out))) : g ≠ qb)); have qm := Aside0.mk ((by rw [hg]; exact Nat.ne_of_gt (IsS139.lt (show IsS139 w0 _ g s0_0 s0_1 s0_2 from by repeat (first | (with_reducible first | exact HI0.out | apply IsS139.alloc | apply IsS139.drewN | apply IsS139.drew | apply IsS139.set_1 | apply IsS139.set_2 | refine IsS139.far ?_ qa.out _) | exact HI0.out))) : qb ≠ g)); replace HI0 := Aside0.mk (IsS139.below (by repeat (first | (with_reducible first | exact HI0.out | apply IsS139.alloc | apply IsS139.drewN | apply IsS139.drew | apply IsS139.set_1 | apply IsS139.set_2 | refine IsS139.far ?_ qa.out _) | exact HI0.out)) hb); clear hb hbox hg) | ((with_reducible refine gate_callee (f := 119) rfl ?_); refine gL_ (some 6) Tryd.func119 #[.pointer (some ⟨g, 0, none⟩), .int .i64 40] ?_; (with_reducible refine (spec_l1Below.calls g s0_0 s0_1 s0_2 40 qo qs qt w0 _ ?side1 ?side2 A3.out).mono ?_); (case side1 => repeat (first | (with_reducible first | exact HI0.out | apply IsS139.alloc | apply IsS139.drewN | apply IsS139.drew | apply IsS139.set_1 | apply IsS139.set_2 | refine IsS139.far ?_ qa.out _ | refine IsS139.far ?_ qe.out _) | exact HI0.out)); (case side2 => repeat (first | (with_reducible first | exact HB.out | apply below_alloc | apply pw_below_drewN | apply below_drew1 | refine below_set ?_ (IsS139.ge HI0.out) | refine below_set ?_ qk.out | refine below_set ?_ qq.out) | exact HB.out)); rintro e jc ⟨rfl, hi, hb, hk⟩; refine ⟨_, rfl, ?_⟩; replace qd := Aside0.mk (Kd.R_mono (Kd.R_keep (IsS139.apart (show IsS139 w0 _ g s0_0 s0_1 s0_2 from by repeat (first | (with_reducible first | exact HI0.out | apply IsS139.alloc | apply IsS139.drewN | apply IsS139.drew | apply IsS139.set_1 | apply IsS139.set_2 | refine IsS139.far ?_ qa.out _ | refine IsS139.far ?_ qe.out _) | exact HI0.out)) (rm_ qd) (by decide)) hk (fun _ h => h.2)) (fun _ h => h.1)); replace qc := Aside0.mk (KeepBut.blk hk (g' := qf) (o := .cells #[.slice qv l1_0.length qw, .int .i64 a1_1, .bool a1_2] 27 (0, 0)) (kf_ qc) ql.out (by simp)); replace qg := Aside0.mk (KeepBut.blk hk (g' := qb) (o := .cells #[.slice none 0 0, .int .i64 0, .bool false] 27 (0, 0)) (kf_ qg) qm.out (by simp)); replace HK := Aside0.mk (Kept.of_keep (S := (fun k_ => (P1_0_ k_) ∨ k_ = g)) (by repeat (first | (with_reducible first | exact HK.out | apply Kept.alloc | apply Kept.drewN | apply Kept.drew | refine Kept.setCell ?_ (.inl (.inr rfl)) _ | refine Kept.setCell ?_ (.inr qj.out) _ | refine Kept.setCell ?_ (.inr qp.out) _) | exact HK.out)) hk (.inl (.inr rfl))); replace HB := Aside0.mk (hb); replace HI0 := Aside0.mk (hi); clear hb hk hi; have zS := qn.out; have zT := qh.out; have zU := ql.out; have zV := qa.out; obtain ⟨zg, zh, zi, zj, zk, zl⟩ := b3_ qc; have zW := qm.out; have zX := qe.out; obtain ⟨zm, zn, zo, zp, zq, zr⟩ := b3_ qg))
  refine bodyPost_ret (results_cell_row rfl _ _ qb 27 #[.slice qv l1_0.length qw, .int .i64 a1_1, .bool a1_2] (0, 0) _ rfl (by (with_reducible repeat (first | refine blk_drewN ?_ _ | refine blk_drew ?_ | refine blk_alloc ?_ _)); refine blk_put (cs := #[.slice qv l1_0.length qw, .int .i64 a1_1, .bool false]) ?_ 2 _ rfl; (with_reducible repeat (first | refine blk_drewN ?_ _ | refine blk_drew ?_ | refine blk_alloc ?_ _)); refine blk_put (cs := #[.slice qv l1_0.length qw, .int .i64 0, .bool false]) ?_ 1 _ rfl; (with_reducible repeat (first | refine blk_drewN ?_ _ | refine blk_drew ?_ | refine blk_alloc ?_ _)); refine blk_put (cs := #[.slice none 0 0, .int .i64 0, .bool false]) ?_ 0 _ rfl; (with_reducible repeat (first | refine blk_drewN ?_ _ | refine blk_drew ?_ | refine blk_alloc ?_ _)); exact qg.out) Tryd.underlying27 rfl (by kernel_rfl)) rfl ?_
  exact ⟨_, by first | rfl | (simp [errW_none, errW_some] <;> rfl) | (simp [*, errW_none, errW_some] <;> rfl), by (with_reducible repeat (first | apply Kd.R_alloc | apply Kd.R_drewN | apply Kd.R_drew)); exact Kd.R_mono (Kd.R_far (p := ⟨qb, 2, none⟩) (Kd.R_far (p := ⟨qb, 1, none⟩) (Kd.R_far (p := ⟨qb, 0, none⟩) (Kd.R_types qd.out qg.out (by decide)) (fun _ hk => hk.2) (.slice qv l1_0.length qw)) (fun _ hk => hk.2) (.int .i64 a1_1)) (fun _ hk => hk.2) (.bool a1_2)) (fun _ hk => hk.1), by repeat (first | (with_reducible first | exact HI0.out | apply IsS139.alloc | apply IsS139.drewN | apply IsS139.drew | apply IsS139.set_1 | apply IsS139.set_2 | refine IsS139.far ?_ qa.out _ | refine IsS139.far ?_ qe.out _) | exact HI0.out), by repeat (first | (with_reducible first | exact HB.out | apply below_alloc | apply pw_below_drewN | apply below_drew1 | refine below_set ?_ (IsS139.ge HI0.out) | refine below_set ?_ qk.out | refine below_set ?_ qq.out) | exact HB.out), by repeat (first | (with_reducible first | exact HK.out | apply Kept.alloc | apply Kept.drewN | apply Kept.drew | refine Kept.setCell ?_ (.inl (.inr rfl)) _ | refine Kept.setCell ?_ (.inr qj.out) _ | refine Kept.setCell ?_ (.inr qp.out) _) | exact HK.out)⟩
 rw [if_pos c30] at H
 have qK : (qo == 2) = true := beq_iff_eq.mpr c30
 have qL : (qo != 2) = false := bne_eq_false_iff_eq.mpr c30
 clear c30
 simp only [Option.some.injEq, Prod.mk.injEq] at H
 obtain ⟨rfl, rfl, rfl, rfl, rfl⟩ := H
 obtain ⟨qx, qy, eo31⟩ := Kd.R_slice qd.out
 subst eo31
 go_enter Tryd.func125, Tryd.ntmps125
 go_wp2_with (first | ((with_reducible refine gate_dst (N := 3) rfl ?_); refine bx_ (cs := #[.slice qx l1_0.length qy, .int .i64 a1_1, .bool a1_2]) (t := 27) ?_; intro qf hg jd hbox hb; replace qd := rB_ qd hb; have qc := Aside0.mk (hbox); have qj := Aside0.mk ((by rw [hg]; exact (by first | exact HK.out.1 | exact (show Kept w _ (fun k_ => (P1_0_ k_) ∨ k_ = g) from by repeat (first | (with_reducible first | exact HK.out | apply Kept.alloc | apply Kept.drewN | apply Kept.drew | refine Kept.setCell ?_ (.inl (.inr rfl)) _) | exact HK.out)).1) : w.heap.size ≤ qf)); replace HK := Aside0.mk (Kept.below (S := (fun k_ => (P1_0_ k_) ∨ k_ = g)) (by repeat (first | (with_reducible first | exact HK.out | apply Kept.alloc | apply Kept.drewN | apply Kept.drew | refine Kept.setCell ?_ (.inl (.inr rfl)) _) | exact HK.out)) hb); have qk := Aside0.mk ((by rw [hg]; exact (below_size (by repeat (first | (with_reducible first | exact HB.out | apply below_alloc | apply pw_below_drewN | apply below_drew1 | refine below_set ?_ (IsS139.ge HI0.out)) | exact HB.out))) : w0.heap.size ≤ qf)); replace HB := Aside0.mk (below_step (by repeat (first | (with_reducible first | exact HB.out | apply below_alloc | apply pw_below_drewN | apply below_drew1 | refine below_set ?_ (IsS139.ge HI0.out)) | exact HB.out)) hb); have qa := Aside0.mk ((by rw [hg]; exact Nat.ne_of_lt (IsS139.lt (show IsS139 w0 _ g s0_0 s0_1 s0_2 from by repeat (first | (with_reducible first | exact HI0.out | apply IsS139.alloc | apply IsS139.drewN | apply IsS139.drew | apply IsS139.set_1 | apply IsS139.set_2) | exact HI0.out))) : g ≠ qf)); have ql := Aside0.mk ((by rw [hg]; exact Nat.ne_of_gt (IsS139.lt (show IsS139 w0 _ g s0_0 s0_1 s0_2 from by repeat (first | (with_reducible first | exact HI0.out | apply IsS139.alloc | apply IsS139.drewN | apply IsS139.drew | apply IsS139.set_1 | apply IsS139.set_2) | exact HI0.out))) : qf ≠ g)); replace HI0 := Aside0.mk (IsS139.below (by repeat (first | (with_reducible first | exact HI0.out | apply IsS139.alloc | apply IsS139.drewN | apply IsS139.drew | apply IsS139.set_1 | apply IsS139.set_2) | exact HI0.out)) hb); clear hb hbox hg) | ((with_reducible refine gate_dst (N := 4) rfl ?_); refine bx_ (cs := #[.slice none 0 0, .int .i64 0, .bool false]) (t := 27) ?_; intro qb hg je hbox hb; replace qd := rB_ qd hb; have qg := Aside0.mk (hbox); have qp := Aside0.mk ((by rw [hg]; exact (by first | exact HK.out.1 | exact (show Kept w _ (fun k_ => (P1_0_ k_) ∨ k_ = g) from by repeat (first | (with_reducible first | exact HK.out | apply Kept.alloc | apply Kept.drewN | apply Kept.drew | refine Kept.setCell ?_ (.inl (.inr rfl)) _ | refine Kept.setCell ?_ (.inr qj.out) _) | exact HK.out)).1) : w.heap.size ≤ qb)); replace HK := Aside0.mk (Kept.below (S := (fun k_ => (P1_0_ k_) ∨ k_ = g)) (by repeat (first | (with_reducible first | exact HK.out | apply Kept.alloc | apply Kept.drewN | apply Kept.drew | refine Kept.setCell ?_ (.inl (.inr rfl)) _ | refine Kept.setCell ?_ (.inr qj.out) _) | exact HK.out)) hb); have qq := Aside0.mk ((by rw [hg]; exact (below_size (by repeat (first | (with_reducible first | exact HB.out | apply below_alloc | apply pw_below_drewN | apply below_drew1 | refine below_set ?_ (IsS139.ge HI0.out) | refine below_set ?_ qk.out) | exact HB.out))) : w0.heap.size ≤ qb)); replace HB := Aside0.mk (below_step (by repeat (first | (with_reducible first | exact HB.out | apply below_alloc | apply pw_below_drewN | apply below_drew1 | refine below_set ?_ (IsS139.ge HI0.out) | refine below_set ?_ qk.out) | exact HB.out)) hb); have qn := nL_ qc hg; have qh := nG_ qc hg; replace qc := kB_ qc hb; have qe := Aside0.mk ((by rw [hg]; exact Nat.ne_of_lt (IsS139.lt (show IsS139 w0 _ g s0_0 s0_1 s0_2 from by repeat (first | (with_reducible first | exact HI0.out | apply IsS139.alloc | apply IsS139.drewN | apply IsS139.drew | apply IsS139.set_1 | apply IsS139.set_2 | refine IsS139.far ?_ qa.out _) | exact HI0.out))) : g ≠ qb)); have qm := Aside0.mk ((by rw [hg]; exact Nat.ne_of_gt (IsS139.lt (show IsS139 w0 _ g s0_0 s0_1 s0_2 from by repeat (first | (with_reducible first | exact HI0.out | apply IsS139.alloc | apply IsS139.drewN | apply IsS139.drew | apply IsS139.set_1 | apply IsS139.set_2 | refine IsS139.far ?_ qa.out _) | exact HI0.out))) : qb ≠ g)); replace HI0 := Aside0.mk (IsS139.below (by repeat (first | (with_reducible first | exact HI0.out | apply IsS139.alloc | apply IsS139.drewN | apply IsS139.drew | apply IsS139.set_1 | apply IsS139.set_2 | refine IsS139.far ?_ qa.out _) | exact HI0.out)) hb); clear hb hbox hg) | ((with_reducible refine gate_callee (f := 119) rfl ?_); refine gL_ (some 6) Tryd.func119 #[.pointer (some ⟨g, 0, none⟩), .int .i64 40] ?_; (with_reducible refine (spec_l1Below.calls g s0_0 s0_1 s0_2 40 qo qs qt w0 _ ?side1 ?side2 A3.out).mono ?_); (case side1 => repeat (first | (with_reducible first | exact HI0.out | apply IsS139.alloc | apply IsS139.drewN | apply IsS139.drew | apply IsS139.set_1 | apply IsS139.set_2 | refine IsS139.far ?_ qa.out _ | refine IsS139.far ?_ qe.out _) | exact HI0.out)); (case side2 => repeat (first | (with_reducible first | exact HB.out | apply below_alloc | apply pw_below_drewN | apply below_drew1 | refine below_set ?_ (IsS139.ge HI0.out) | refine below_set ?_ qk.out | refine below_set ?_ qq.out) | exact HB.out)); rintro e jf ⟨rfl, hi, hb, hk⟩; refine ⟨_, rfl, ?_⟩; replace qd := Aside0.mk (Kd.R_mono (Kd.R_keep (IsS139.apart (show IsS139 w0 _ g s0_0 s0_1 s0_2 from by repeat (first | (with_reducible first | exact HI0.out | apply IsS139.alloc | apply IsS139.drewN | apply IsS139.drew | apply IsS139.set_1 | apply IsS139.set_2 | refine IsS139.far ?_ qa.out _ | refine IsS139.far ?_ qe.out _) | exact HI0.out)) (rm_ qd) (by decide)) hk (fun _ h => h.2)) (fun _ h => h.1)); replace qc := Aside0.mk (KeepBut.blk hk (g' := qf) (o := .cells #[.slice qx l1_0.length qy, .int .i64 a1_1, .bool a1_2] 27 (0, 0)) (kf_ qc) ql.out (by simp)); replace qg := Aside0.mk (KeepBut.blk hk (g' := qb) (o := .cells #[.slice none 0 0, .int .i64 0, .bool false] 27 (0, 0)) (kf_ qg) qm.out (by simp)); replace HK := Aside0.mk (Kept.of_keep (S := (fun k_ => (P1_0_ k_) ∨ k_ = g)) (by repeat (first | (with_reducible first | exact HK.out | apply Kept.alloc | apply Kept.drewN | apply Kept.drew | refine Kept.setCell ?_ (.inl (.inr rfl)) _ | refine Kept.setCell ?_ (.inr qj.out) _ | refine Kept.setCell ?_ (.inr qp.out) _) | exact HK.out)) hk (.inl (.inr rfl))); replace HB := Aside0.mk (hb); replace HI0 := Aside0.mk (hi); clear hb hk hi; have zY := qn.out; have zZ := qh.out; have z0 := ql.out; have z1 := qa.out; obtain ⟨zs, zt, zu, zv, zw, zx⟩ := b3_ qc; have z2 := qm.out; have z3 := qe.out; obtain ⟨zy, zz, zA, zB, zC, zD⟩ := b3_ qg))
 refine bodyPost_ret (results_cell_row rfl _ _ qb 27 #[.slice qx l1_0.length qy, .int .i64 (wrap64 (2 * a1_1)), .bool a1_2] (0, 0) _ rfl (by (with_reducible repeat (first | refine blk_drewN ?_ _ | refine blk_drew ?_ | refine blk_alloc ?_ _)); refine blk_put (cs := #[.slice qx l1_0.length qy, .int .i64 (wrap64 (2 * a1_1)), .bool false]) ?_ 2 _ rfl; (with_reducible repeat (first | refine blk_drewN ?_ _ | refine blk_drew ?_ | refine blk_alloc ?_ _)); refine blk_put (cs := #[.slice qx l1_0.length qy, .int .i64 0, .bool false]) ?_ 1 _ rfl; (with_reducible repeat (first | refine blk_drewN ?_ _ | refine blk_drew ?_ | refine blk_alloc ?_ _)); refine blk_put (cs := #[.slice none 0 0, .int .i64 0, .bool false]) ?_ 0 _ rfl; (with_reducible repeat (first | refine blk_drewN ?_ _ | refine blk_drew ?_ | refine blk_alloc ?_ _)); refine blk_far ?_ qh.out _; (with_reducible repeat (first | refine blk_drewN ?_ _ | refine blk_drew ?_ | refine blk_alloc ?_ _)); exact qg.out) Tryd.underlying27 rfl (by kernel_rfl)) rfl ?_
 exact ⟨_, by first | rfl | (simp [errW_none, errW_some] <;> rfl) | (simp [*, errW_none, errW_some] <;> rfl), by (with_reducible repeat (first | apply Kd.R_alloc | apply Kd.R_drewN | apply Kd.R_drew)); exact Kd.R_mono (Kd.R_far (p := ⟨qb, 2, none⟩) (Kd.R_far (p := ⟨qb, 1, none⟩) (Kd.R_far (p := ⟨qb, 0, none⟩) (Kd.R_far (p := ⟨qf, 1, none⟩) (Kd.R_types (Kd.R_types qd.out qc.out (by decide)) qg.out (by decide)) (fun _ hk => hk.1.2) (.int .i64 (wrap64 (2 * a1_1)))) (fun _ hk => hk.2) (.slice qx l1_0.length qy)) (fun _ hk => hk.2) (.int .i64 (wrap64 (2 * a1_1)))) (fun _ hk => hk.2) (.bool a1_2)) (fun _ hk => hk.1.1), by repeat (first | (with_reducible first | exact HI0.out | apply IsS139.alloc | apply IsS139.drewN | apply IsS139.drew | apply IsS139.set_1 | apply IsS139.set_2 | refine IsS139.far ?_ qa.out _ | refine IsS139.far ?_ qe.out _) | exact HI0.out), by repeat (first | (with_reducible first | exact HB.out | apply below_alloc | apply pw_below_drewN | apply below_drew1 | refine below_set ?_ (IsS139.ge HI0.out) | refine below_set ?_ qk.out | refine below_set ?_ qq.out) | exact HB.out), by repeat (first | (with_reducible first | exact HK.out | apply Kept.alloc | apply Kept.drewN | apply Kept.drew | refine Kept.setCell ?_ (.inl (.inr rfl)) _ | refine Kept.setCell ?_ (.inr qj.out) _ | refine Kept.setCell ?_ (.inr qp.out) _) | exact HK.out)⟩

/-! ### spec_l1Once: function 127 -/
def spec_l1Once.f (s0_0 : List Int) (s0_1 : Int) (s0_2 : Int) (a1 : Int) : Option (Bool × Int × Int) := (spec_l1Below.f s0_0 s0_1 s0_2 a1).bind fun qa => (some ((qa.1 == 0), qa.2.1, qa.2.2))
set_option maxHeartbeats 8000000 in
set_option maxRecDepth 100000 in
theorem spec_l1Once.calls (g : Nat) (s0_0 : List Int) (s0_1 : Int) (s0_2 : Int) (a1 : Int) (r1 : Bool) (r2 : Int) (r3 : Int) (w0 w : World) (hI : IsS139 w0 w g s0_0 s0_1 s0_2) (hB : Below w0.heap.size w0 w) (h : spec_l1Once.f s0_0 s0_1 s0_2 a1 = some (r1, r2, r3)) :
  Calls Tryd.prog 127 #[.pointer (some ⟨g, 0, none⟩), .int .i64 a1] w fun e w' => e = .returned (.bool r1) ∧ IsS139 w0 w' g s0_0 r2 r3 ∧ Below w0.heap.size w0 w' ∧ KeepBut w w' g none := by
 have HI0 := Aside0.mk hI
 have HK := Aside0.mk (KeepBut.refl w g none)
 have HL := Aside0.mk hB.size
 clear hI
 have HW0 := Aside0.mk hB.size
 have HB := Aside0.mk hB
 clear hB
 have H : ((spec_l1Below.f s0_0 s0_1 s0_2 a1).bind fun qa => (some ((qa.1 == 0), qa.2.1, qa.2.2))) = some (r1, r2, r3) := h
 clear h
 replace H := Option.bind_eq_some_iff.mp H
 obtain ⟨⟨qb, qc, qd⟩, A30, H⟩ := H
 replace H : (some ((qb == 0), qc, qd)) = some (r1, r2, r3) := H
 have A3 := Aside0.mk A30
 clear A30
 simp only [Option.some.injEq, Prod.mk.injEq] at H
 obtain ⟨rfl, rfl, rfl⟩ := H
 go_enter Tryd.func127, Tryd.ntmps127
 go_wp2_with (first | ((with_reducible refine gate_callee (f := 119) rfl ?_); refine gL_ (some 7) Tryd.func119 #[.pointer (some ⟨g, 0, none⟩), .int .i64 a1] ?_; (with_reducible refine (spec_l1Below.calls g s0_0 s0_1 s0_2 a1 qb qc qd w0 _ ?side1 ?side2 A3.out).mono ?_); (case side1 => repeat (first | (with_reducible first | exact HI0.out | apply IsS139.alloc | apply IsS139.drewN | apply IsS139.drew | apply IsS139.set_1 | apply IsS139.set_2) | exact HI0.out)); (case side2 => repeat (first | (with_reducible first | exact HB.out | apply below_alloc | apply pw_below_drewN | apply below_drew1 | refine below_set ?_ (IsS139.ge HI0.out)) | exact HB.out)); rintro e w4 ⟨rfl, hi, hb, hk⟩; refine ⟨_, rfl, ?_⟩; replace HK := Aside0.mk (KeepBut.trans (by repeat (first | (with_reducible first | exact HK.out | apply KeepBut.set_ | apply keep_drewN | apply keep_drew | apply keep_alloc) | exact HK.out)) hk (.inl rfl)); replace HB := Aside0.mk (hb); replace HI0 := Aside0.mk (hi); clear hb hk hi))
 go_ret
 exact ⟨by first | rfl | (simp [errW_none, errW_some] <;> rfl) | (simp [*, errW_none, errW_some] <;> rfl), by repeat (first | (with_reducible first | exact HI0.out | apply IsS139.alloc | apply IsS139.drewN | apply IsS139.drew | apply IsS139.set_1 | apply IsS139.set_2) | exact HI0.out), by repeat (first | (with_reducible first | exact HB.out | apply below_alloc | apply pw_below_drewN | apply below_drew1 | refine below_set ?_ (IsS139.ge HI0.out)) | exact HB.out), by repeat (first | (with_reducible first | exact HK.out | apply KeepBut.set_ | apply keep_drewN | apply keep_drew | apply keep_alloc) | exact HK.out)⟩

/-! ### spec_l1In: function 80 -/
def spec_l1In.f (a0 : Int) (a1 : Int) (a2 : Int) : Option (Bool) := if a0 ≥ a1 then (some (decide (a0 ≤ a2))) else (some false)
set_option maxHeartbeats 8000000 in
set_option maxRecDepth 100000 in
theorem spec_l1In.calls (a0 : Int) (a1 : Int) (a2 : Int) (r : Bool) (w : World) (h : spec_l1In.f a0 a1 a2 = some r) :
  Calls Tryd.prog 80 #[.int .i64 a0, .int .i64 a1, .int .i64 a2] w fun e w' => e = .returned (.bool r) ∧ Drawn0 w w' := by
 have H : (if a0 ≥ a1 then (some (decide (a0 ≤ a2))) else (some false)) = some r := h
 clear h
 by_cases c4 : a0 ≥ a1
 ·
  rw [if_pos c4] at H
  have qa : decide (a1 ≤ a0) = true := decide_eq_true c4
  clear c4
  obtain rfl := Option.some.inj H
  go_enter Tryd.func80, Tryd.ntmps80
  go_wp2
  go_ret
  exact ⟨by first | rfl | (simp; done) | (simp [*]; done), by repeat (first | exact Drawn0.refl _ | apply Drawn0.step)⟩
 rw [if_neg c4] at H
 have qa : decide (a1 ≤ a0) = false := decide_eq_false c4
 clear c4
 obtain rfl := Option.some.inj H
 go_enter Tryd.func80, Tryd.ntmps80
 go_wp2
 go_ret
 exact ⟨by first | rfl | (simp; done) | (simp [*]; done), by repeat (first | exact Drawn0.refl _ | apply Drawn0.step)⟩

/-! ### spec_IsNumber: function 59 -/
def spec_IsNumber.f (a0 : Int) : Option (Bool) := (spec_l1In.f a0 (-400000000) 400000000).bind fun qa => (some qa)
set_option maxHeartbeats 8000000 in
set_option maxRecDepth 100000 in
theorem spec_IsNumber.calls (a0 : Int) (r : Bool) (w : World) (h : spec_IsNumber.f a0 = some r) :
  Calls Tryd.prog 59 #[.int .i64 a0] w fun e w' => e = .returned (.bool r) ∧ Drawn0 w w' := by
 have H : ((spec_l1In.f a0 (-400000000) 400000000).bind fun qa => (some qa)) = some r := h
 clear h
 replace H := Option.bind_eq_some_iff.mp H
 obtain ⟨qa, A20, H⟩ := H
 replace H : (some qa) = some r := H
 have A2 := Aside0.mk A20
 clear A20
 obtain rfl := Option.some.inj H
 go_enter Tryd.func59, Tryd.ntmps59
 go_wp2_with (first | ((with_reducible refine gate_callee (f := 80) rfl ?_); refine gL_ (some 4) Tryd.func80 #[.int .i64 a0, .int .i64 (-400000000), .int .i64 400000000] ?_; (with_reducible refine (spec_l1In.calls a0 (-400000000) 400000000 qa _ A2.out).mono ?_); rintro e w' ⟨rfl, ⟨nd, rfl⟩⟩; refine ⟨_, rfl, ?_⟩))
 go_ret
 exact ⟨by first | rfl | (simp; done) | (simp [*]; done), by repeat (first | exact Drawn0.refl _ | apply Drawn0.step)⟩

/-! ### spec_l1Abs: function 103 -/
def spec_l1Abs.f (a0 : Int) : Option (Int) := some (mx a0 (wrap64 (-a0)))
set_option maxHeartbeats 8000000 in
set_option maxRecDepth 100000 in
theorem spec_l1Abs.calls (a0 : Int) (r : Int) (w : World) (h : spec_l1Abs.f a0 = some r) :
  Calls Tryd.prog 103 #[.int .i64 a0] w fun e w' => e = .returned (.int .i64 r) ∧ Below w.heap.size w w' := by
 have HB := Aside0.mk (Below.refl w.heap.size w)
 have H : (some (mx a0 (wrap64 (-a0)))) = some r := h
 clear h
 obtain ⟨ji2, hji2⟩ : ∃ j_ : Int, (mx a0 (wrap64 (-a0))) = j_ := ⟨_, rfl⟩
 replace H : (some ji2) = some r := by first | (rw [hji2] at H; exact H) | (simp only [hji2] at H ⊢; exact H)
 have hji2_ : (if a0 < (wrap64 (-a0)) then (wrap64 (-a0)) else a0) = ji2 := hji2
 obtain rfl := Option.some.inj H
 go_enter Tryd.func103, Tryd.ntmps103
 go_wp2
 go_ret
 exact ⟨by first | rfl | (simp [errW_none, errW_some] <;> rfl) | (simp only [← hji2]; first | rfl | (simp [errW_none, errW_some] <;> rfl)) | (simp [*, errW_none, errW_some] <;> rfl), bb_ HB⟩

/-! ### spec_l2Gcd: function 87 -/
mutual
def spec_l2Gcd.l0 : Nat → List Int → Int → Int → Option (Int)
 | 0, _, _, _ => none
 | k + 1, x0, x5, x6 => if x6 < (x0.length : Int) then (if 0 ≤ x6 then ((spec_l1Abs.f (rd x0 x6)).bind fun qe => (spec_l2Gcd.l1 k x0 x5 x6 qe)) else (none)) else (some x5)
def spec_l2Gcd.l1 : Nat → List Int → Int → Int → Int → Option (Int)
 | 0, _, _, _, _ => none
 | k + 1, x0, x5, x6, x7 => if x7 = 0 then (spec_l2Gcd.l0 k x0 x5 (wrap64 (x6 + 1))) else (spec_l2Gcd.l1 k x0 x7 x6 (Int.tmod x5 x7))
end
def spec_l2Gcd.f (k : Nat) (l0 : List Int) (a1 : Int) : Option (Int) := (spec_l1Abs.f a1).bind fun qd => (spec_l2Gcd.l0 k l0 qd 0)
theorem spec_l2Gcd.mono_l : ∀ k, (∀ y0 y1 y2, LeO (spec_l2Gcd.l0 k y0 y1 y2) (spec_l2Gcd.l0 (k + 1) y0 y1 y2)) ∧ (∀ y0 y1 y2 y3, LeO (spec_l2Gcd.l1 k y0 y1 y2 y3) (spec_l2Gcd.l1 (k + 1) y0 y1 y2 y3))
 | 0 => ⟨fun _ _ _ r h => by simp [spec_l2Gcd.l0] at h, fun _ _ _ _ r h => by simp [spec_l2Gcd.l1] at h⟩
 | k + 1 => by
  obtain ⟨ih0, ih1⟩ := spec_l2Gcd.mono_l k
  refine ⟨?_, ?_⟩ <;> (intros; first | unfold spec_l2Gcd.l0 | unfold spec_l2Gcd.l1)
  all_goals
   repeat' first
   | (with_reducible exact ih0 _ _ _)
   | (with_reducible exact ih1 _ _ _ _)
   | (with_reducible exact LeO.refl _)
   | (with_reducible exact LeO.none _)
   | (with_reducible refine LeO.ite ?_ ?_)
   | (with_reducible refine LeO.bind ?_ (fun _ => ?_))
   | exact ih0 _ _ _
   | exact ih1 _ _ _ _
   | exact LeO.none _
   | refine LeO.ite ?_ ?_
   | refine LeO.bind ?_ (fun _ => ?_)
theorem spec_l2Gcd.mono : ∀ a0 a1 k, LeO (spec_l2Gcd.f k a0 a1) (spec_l2Gcd.f (k + 1) a0 a1) := by
 intro a0 a1 k
 obtain ⟨ih0, ih1⟩ := spec_l2Gcd.mono_l k
 unfold spec_l2Gcd.f
 repeat' first
   | (with_reducible exact ih0 _ _ _)
   | (with_reducible exact ih1 _ _ _ _)
   | (with_reducible exact LeO.refl _)
   | (with_reducible exact LeO.none _)
   | (with_reducible refine LeO.ite ?_ ?_)
   | (with_reducible refine LeO.bind ?_ (fun _ => ?_))
   | exact ih0 _ _ _
   | exact ih1 _ _ _ _
   | exact LeO.none _
   | refine LeO.ite ?_ ?_
   | refine LeO.bind ?_ (fun _ => ?_)
set_option maxHeartbeats 8000000 in
set_option maxRecDepth 100000 in
theorem spec_l2Gcd.calls (k : Nat) (A0 : Option Addr) (c0 : Nat) (l0 : List Int) (a1 : Int) (r : Int) (w : World) (hr0 : Kd.C (Kd.int .i64) w A0 l0.length l0) (hc0 : l0.length ≤ c0) (h : spec_l2Gcd.f k l0 a1 = some r) :
  Calls Tryd.prog 87 #[.slice A0 l0.length c0, .int .i64 a1] w fun e w' => e = .returned (.int .i64 r) ∧ Below w.heap.size w w' := by
 have HR0 := Aside0.mk hr0
 have HC0 := Aside0.mk hc0
 clear hr0 hc0
 have HB := Aside0.mk (Below.refl w.heap.size w)
 have H : ((spec_l1Abs.f a1).bind fun qd => (spec_l2Gcd.l0 k l0 qd 0)) = some r := h
 clear h
 replace H := Option.bind_eq_some_iff.mp H
 obtain ⟨qd, A30, H⟩ := H
 replace H : (spec_l2Gcd.l0 k l0 qd 0) = some r := H
 have A3 := Aside0.mk A30
 clear A30
 have H' := Aside0.mk H
 clear H
 go_enter Tryd.func87, Tryd.ntmps87
 go_wp2_with (first | (go_at_call 103; (with_reducible refine (spec_l1Abs.calls a1 qd _ A3.out).mono ?_); rintro e w4 ⟨rfl, hb⟩; replace HB := bS_ HB hb; clear hb))
 repeat (go_quiet (first | (go_at_call 103; (with_reducible refine (spec_l1Abs.calls a1 qd _ A3.out).mono ?_); rintro e w4 ⟨rfl, hb⟩; replace HB := bS_ HB hb; clear hb)); try go_wp2_with (first | (go_at_call 103; (with_reducible refine (spec_l1Abs.calls a1 qd _ A3.out).mono ?_); rintro e w4 ⟨rfl, hb⟩; replace HB := bS_ HB hb; clear hb)))
 go_loopg [5, 6] k (fun kq v5 v6 w' => ∃ (qf : Int) (qa : Int), v5 = .int .i64 qf ∧ v6 = .int .i64 qa ∧ Aside0 (spec_l2Gcd.l0 kq l0 qf qa = some r) ∧ Aside0 (kq ≤ k) ∧ Aside0 (Below w.heap.size w w'))
 case atStart => exact ⟨(qd), (0), (by first | rfl | (simp; done) | (simp [*]; done)), (by first | rfl | (simp; done) | (simp [*]; done)), H', ⟨Nat.le_refl _⟩, ⟨bb_ HB⟩⟩
 case round =>
  clear H'
  try clear p2
  obtain ⟨qf, qa, rfl, rfl, HA, HK1, HB⟩ := hrel
  cases gk with
  | zero => exact absurd HA.out (by simp [spec_l2Gcd.l0])
  | succ k1 =>
   have H := HA.out
   clear HA
   simp only [spec_l2Gcd.l0] at H
   by_cases c5 : qa < (l0.length : Int)
   rotate_left
   ·
    rw [if_neg c5] at H
    have qh : decide (qa < (l0.length : Int)) = false := decide_eq_false c5
    clear c5
    obtain rfl := Option.some.inj H
    go_wp2
    repeat (go_quiet (fail); try go_wp2)
    go_ret
    exact ⟨by first | rfl | (simp [errW_none, errW_some] <;> rfl) | (simp [*, errW_none, errW_some] <;> rfl), bb_ HB⟩
   rw [if_pos c5] at H
   have qh : decide (qa < (l0.length : Int)) = true := decide_eq_true c5
   clear c5
   by_cases c6 : 0 ≤ qa
   rotate_left
   ·
    rw [if_neg c6] at H
    exact absurd H (by simp)
   rw [if_pos c6] at H
   have qi : decide (0 ≤ qa) = true := decide_eq_true c6
   clear c6
   replace H := Option.bind_eq_some_iff.mp H
   obtain ⟨qe, A70, H⟩ := H
   replace H : (spec_l2Gcd.l1 k1 l0 qf qa qe) = some r := H
   have A7 := Aside0.mk A70
   clear A70
   have H' := Aside0.mk H
   clear H
   have p218 : 0 ≤ (qa : Int) := of_decide_eq_true (by first | (with_reducible assumption) | assumption)
   have q218 : qa < (l0.length : Int) := of_decide_eq_true (by first | (with_reducible assumption) | assumption)
   obtain ⟨ql, e218, qb⟩ := Kd.at_int HR0.out qa p218 q218
   cases e218
   replace qb := (HB.out.cell (World.block_lt_of_cell? w _ qb)).trans qb
   replace p218 := eq_true p218
   replace q218 := eq_true q218
   go_wp2_with (first | (go_at_call 103; (with_reducible refine (spec_l1Abs.calls (rd l0 qa) qe _ A7.out).mono ?_); rintro e w8 ⟨rfl, hb⟩; replace HB := bS_ HB hb; clear hb))
   repeat (go_quiet (first | (go_at_call 103; (with_reducible refine (spec_l1Abs.calls (rd l0 qa) qe _ A7.out).mono ?_); rintro e w8 ⟨rfl, hb⟩; replace HB := bS_ HB hb; clear hb)); try go_wp2_with (first | (go_at_call 103; (with_reducible refine (spec_l1Abs.calls (rd l0 qa) qe _ A7.out).mono ?_); rintro e w8 ⟨rfl, hb⟩; replace HB := bS_ HB hb; clear hb)))
   go_loopg [5, 7] k1 (fun kq v5 v7 w' => ∃ (qg : Int) (qc : Int), v5 = .int .i64 qg ∧ v7 = .int .i64 qc ∧ Aside0 (spec_l2Gcd.l1 kq l0 qg qa qc = some r) ∧ Aside0 (kq ≤ k1) ∧ Aside0 (Below w.heap.size w w'))
   case atStart => exact ⟨(qf), (qe), (by first | rfl | (simp; done) | (simp [*]; done)), (by first | rfl | (simp; done) | (simp [*]; done)), H', ⟨Nat.le_refl _⟩, ⟨bb_ HB⟩⟩
   case round =>
    clear H'
    try clear p2
    try clear q2
    try clear hx2
    try clear c5
    try clear qh
    try clear c6
    try clear qi
    try clear c8
    try clear qb
    try clear p2
    try clear p218
    try clear q218
    obtain ⟨qg, qc, rfl, rfl, HA, HK2, HB⟩ := hrel
    cases gk with
    | zero => exact absurd HA.out (by simp [spec_l2Gcd.l1])
    | succ k2 =>
     have H := HA.out
     clear HA
     simp only [spec_l2Gcd.l1] at H
     by_cases c9 : qc = 0
     rotate_left
     ·
      rw [if_neg c9] at H
      have qj : (qc == 0) = false := beq_eq_false_iff_ne.mpr c9
      have qk : (qc != 0) = true := bne_iff_ne.mpr c9
      have H' := Aside0.mk H
      clear H
      go_wp2
      repeat (go_quiet (fail); try go_wp2)
      go_roundg k2
      case measure => have := HK1.out; have := HK2.out; omega
      case rel => exact ⟨(qc), (Int.tmod qg qc), (by first | rfl | (simp; done) | (simp [*]; done)), (by first | rfl | (simp; done) | (simp [*]; done)), H', ⟨by have := HK1.out; have := HK2.out; omega⟩, ⟨bb_ HB⟩⟩
     rw [if_pos c9] at H
     have qj : (qc == 0) = true := beq_iff_eq.mpr c9
     have qk : (qc != 0) = false := bne_eq_false_iff_eq.mpr c9
     clear c9
     have H' := Aside0.mk H
     clear H
     go_wp2
     repeat (go_quiet (fail); try go_wp2)
     go_roundg k2
     case measure => have := HK1.out; have := HK2.out; omega
     case rel => exact ⟨(qg), (wrap64 (qa + 1)), (by first | rfl | (simp; done) | (simp [*]; done)), (by first | rfl | (simp; done) | (simp [*]; done)), H', ⟨by have := HK1.out; have := HK2.out; omega⟩, ⟨bb_ HB⟩⟩

/-! ### spec_IsAtom: function 46 -/
mutual
def spec_IsAtom.j0 : Nat → Bool → List Int → Int → Bool → Option (Bool)
 | 0, _, _, _, _ => none
 | k + 1, x13, x221000, x221001, x221002 => if x13 = true then (some false) else (spec_IsAtom.l0 k 0 x221000 x221001 x221002)
def spec_IsAtom.l0 : Nat → Int → List Int → Int → Bool → Option (Bool)
 | 0, _, _, _, _ => none
 | k + 1, x3, x221000, x221001, x221002 => if x3 < (x221000.length : Int) then (if 0 ≤ x3 then ((spec_IsNumber.f (rd x221000 x3)).bind fun qt => (if qt = true then (spec_IsAtom.l0 k (wrap64 (x3 + 1)) x221000 x221001 x221002) else (some false))) else (none)) else ((spec_l2Gcd.f k x221000 x221001).bind fun qu => (some (decide (qu ≤ 1))))
end
def spec_IsAtom.f (k : Nat) (l0_0 : List Int) (a0_1 : Int) (a0_2 : Bool) : Option (Bool) := if (l0_0.length : Int) > 4 then (spec_IsAtom.j0 k true l0_0 a0_1 a0_2) else ((spec_IsNumber.f a0_1).bind fun qd => (spec_IsAtom.j0 k (!qd) l0_0 a0_1 a0_2))
theorem spec_IsAtom.mono_l : ∀ k, (∀ y0 y1 y2 y3, LeO (spec_IsAtom.j0 k y0 y1 y2 y3) (spec_IsAtom.j0 (k + 1) y0 y1 y2 y3)) ∧ (∀ y0 y1 y2 y3, LeO (spec_IsAtom.l0 k y0 y1 y2 y3) (spec_IsAtom.l0 (k + 1) y0 y1 y2 y3))
 | 0 => ⟨fun _ _ _ _ r h => by simp [spec_IsAtom.j0] at h, fun _ _ _ _ r h => by simp [spec_IsAtom.l0] at h⟩
 | k + 1 => by
  obtain ⟨ih0, ih1⟩ := spec_IsAtom.mono_l k
  refine ⟨?_, ?_⟩ <;> (intros; first | unfold spec_IsAtom.j0 | unfold spec_IsAtom.l0)
  all_goals
   repeat' first
   | (with_reducible exact ih0 _ _ _ _)
   | (with_reducible exact ih1 _ _ _ _)
   | (with_reducible exact spec_l2Gcd.mono _ _ _)
   | (with_reducible exact LeO.refl _)
   | (with_reducible exact LeO.none _)
   | (with_reducible refine LeO.ite ?_ ?_)
   | (with_reducible refine LeO.bind ?_ (fun _ => ?_))
   | exact ih0 _ _ _ _
   | exact ih1 _ _ _ _
   | exact spec_l2Gcd.mono _ _ _
   | exact LeO.none _
   | refine LeO.ite ?_ ?_
   | refine LeO.bind ?_ (fun _ => ?_)
theorem spec_IsAtom.mono : ∀ a0 a1 a2 k, LeO (spec_IsAtom.f k a0 a1 a2) (spec_IsAtom.f (k + 1) a0 a1 a2) := by
 intro a0 a1 a2 k
 obtain ⟨ih0, ih1⟩ := spec_IsAtom.mono_l k
 unfold spec_IsAtom.f
 repeat' first
   | (with_reducible exact ih0 _ _ _ _)
   | (with_reducible exact ih1 _ _ _ _)
   | (with_reducible exact spec_l2Gcd.mono _ _ _)
   | (with_reducible exact LeO.refl _)
   | (with_reducible exact LeO.none _)
   | (with_reducible refine LeO.ite ?_ ?_)
   | (with_reducible refine LeO.bind ?_ (fun _ => ?_))
   | exact ih0 _ _ _ _
   | exact ih1 _ _ _ _
   | exact spec_l2Gcd.mono _ _ _
   | exact LeO.none _
   | refine LeO.ite ?_ ?_
   | refine LeO.bind ?_ (fun _ => ?_)
set_option maxHeartbeats 8000000 in
set_option maxRecDepth 100000 in
theorem spec_IsAtom.calls (k : Nat) (A0_0 : Option Addr) (c0_0 : Nat) (l0_0 : List Int) (a0_1 : Int) (a0_2 : Bool) (r : Bool) (w : World) (hr0_0 : Kd.C (Kd.int .i64) w A0_0 l0_0.length l0_0) (hc0_0 : l0_0.length ≤ c0_0) (h : spec_IsAtom.f k l0_0 a0_1 a0_2 = some r) :
  Calls Tryd.prog 46 #[.agg #[.slice A0_0 l0_0.length c0_0, .int .i64 a0_1, .bool a0_2]] w fun e w' => e = .returned (.bool r) ∧ Below w.heap.size w w' := by
 have hu27 := Tryd.underlying27
 have qg := Aside0.mk hr0_0
 have qx := Aside0.mk hc0_0
 clear hr0_0 hc0_0
 have HB := Aside0.mk (Below.refl w.heap.size w)
 have H : (if (l0_0.length : Int) > 4 then (spec_IsAtom.j0 k true l0_0 a0_1 a0_2) else ((spec_IsNumber.f a0_1).bind fun qd => (spec_IsAtom.j0 k (!qd) l0_0 a0_1 a0_2))) = some r := h
 clear h
 have HC2 := Aside0.mk H
 clear H
 go_enter Tryd.func46, Tryd.ntmps46
 go_upto_region 1 with (first | ((with_reducible refine gate_dst (N := 1) rfl ?_); refine bx_ (cs := #[.slice A0_0 l0_0.length c0_0, .int .i64 a0_1, .bool a0_2]) (t := 27) ?_; intro qv hg w3 hbox hb; have qb := Aside0.mk (hbox); have qS := hz_ HB hg; have qT := hz_ HB hg; replace HB := bS_ HB hb; clear hb hbox hg))
 (try simp only [Act.put, List.setIfInBounds_toArray, List.set_cons_zero, List.set_cons_succ])
 go_cut [13] (fun v13 wc => ∃ (kq : Nat) (qf : Bool), v13 = .bool qf ∧ Aside0 (spec_IsAtom.j0 kq qf l0_0 a0_1 a0_2 = some r) ∧ Aside0 (kq ≤ k) ∧ Aside0 (wc.heap[qv]? = some (.cells #[(.slice A0_0 l0_0.length c0_0), .int .i64 a0_1, .bool a0_2] 27 (0, 0))) ∧ Aside0 (Below w.heap.size w wc))
 case first =>
  have H := HC2.out
  clear HC2
  by_cases c4 : (l0_0.length : Int) > 4
  ·
   rw [if_pos c4] at H
   have qe : decide (4 < (l0_0.length : Int)) = true := decide_eq_true c4
   have qw : decide (4 < l0_0.length) = true := decide_eq_true (by omega)
   clear c4
   (first | rw [qe] | (simp only [i64_w, i32_w]; rw [qe]) | skip)
   have H' := Aside0.mk H
   clear H
   obtain ⟨qh, qi, qj, qk, ql, qm⟩ := b3_ qb
   go_wp2
   go_meet
   case rel => exact ⟨_, (true), (by first | rfl | (simp; done) | (simp [*]; done)), H', ⟨by first | omega | exact Nat.le_refl _⟩, ⟨kf_ qb⟩, ⟨bb_ HB⟩⟩
  rw [if_neg c4] at H
  have qe : decide (4 < (l0_0.length : Int)) = false := decide_eq_false c4
  have qw : decide (4 < l0_0.length) = false := decide_eq_false (by omega)
  clear c4
  (first | rw [qe] | (simp only [i64_w, i32_w]; rw [qe]) | skip)
  replace H := Option.bind_eq_some_iff.mp H
  obtain ⟨qd, A60, H⟩ := H
  replace H : (spec_IsAtom.j0 k (!qd) l0_0 a0_1 a0_2) = some r := H
  have A6 := Aside0.mk A60
  clear A60
  have H' := Aside0.mk H
  clear H
  obtain ⟨qn, qo, qp, qq, qr, qs⟩ := b3_ qb
  go_wp2_with (first | (go_at_call 59; (with_reducible refine (spec_IsNumber.calls a0_1 qd _ A6.out).mono ?_); rintro e w' ⟨rfl, ⟨nd, rfl⟩⟩))
  go_meet
  case rel => exact ⟨_, (!qd), (by first | rfl | (simp; done) | (simp [*]; done)), H', ⟨by first | omega | exact Nat.le_refl _⟩, ⟨kf_ qb⟩, ⟨bb_ HB⟩⟩
 case rest =>
  clear HC2
  try clear p2
  try clear c4
  try clear qe
  try clear qw
  try clear qh
  try clear qi
  try clear qj
  try clear qn
  try clear qo
  try clear qp
  try clear qk
  try clear ql
  try clear qm
  try clear qq
  try clear qr
  try clear qs
  obtain ⟨kq, qf, rfl, HA, HJ1, qb, HB⟩ := hcut
  cases kq with
  | zero => exact absurd HA.out (by simp [spec_IsAtom.j0])
  | succ kj1 =>
   have H := HA.out
   clear HA
   simp only [spec_IsAtom.j0] at H
   by_cases c8 : qf = true
   ·
    subst c8
    have H1 : (some false) = some r := by rw [if_pos rfl] at H; exact H
    clear H
    have H := H1
    clear H1
    obtain rfl := Option.some.inj H
    go_wp2
    go_ret
    exact ⟨by first | rfl | (simp [errW_none, errW_some] <;> rfl) | (simp [*, errW_none, errW_some] <;> rfl), bb_ HB⟩
   replace c8 := Bool.eq_false_iff.mpr c8
   subst c8
   have H1 : (spec_IsAtom.l0 kj1 0 l0_0 a0_1 a0_2) = some r := by rw [if_neg (show ¬ (false = true) by decide)] at H; exact H
   clear H
   have H := H1
   clear H1
   have H' := Aside0.mk H
   clear H
   go_wp2
   go_loopg [3] kj1 (fun kq v3 w' => ∃ (qa : Int), v3 = .int .i64 qa ∧ Aside0 (spec_IsAtom.l0 kq qa l0_0 a0_1 a0_2 = some r) ∧ Aside0 (kq ≤ kj1) ∧ Aside0 (w'.heap[qv]? = some (.cells #[(.slice A0_0 l0_0.length c0_0), .int .i64 a0_1, .bool a0_2] 27 (0, 0))) ∧ Aside0 (Below w.heap.size w w'))
   case atStart => exact ⟨(0), (by first | rfl | (simp; done) | (simp [*]; done)), H', ⟨Nat.le_refl _⟩, ⟨kf_ qb⟩, ⟨bb_ HB⟩⟩
   case round =>
    clear H'
    try clear p2
    try clear c4
    try clear qe
    try clear qw
    try clear c8
    try clear qh
    try clear qi
    try clear qj
    try clear qn
    try clear qo
    try clear qp
    try clear qk
    try clear ql
    try clear qm
    try clear qq
    try clear qr
    try clear qs
    try clear p2
    obtain ⟨qa, rfl, HA, HK2, qb, HB⟩ := hrel
    cases gk with
    | zero => exact absurd HA.out (by simp [spec_IsAtom.l0])
    | succ k2 =>
     have H := HA.out
     clear HA
     simp only [spec_IsAtom.l0] at H
     by_cases c9 : qa < (l0_0.length : Int)
     rotate_left
     ·
      rw [if_neg c9] at H
      have qR : decide (qa < (l0_0.length : Int)) = false := decide_eq_false c9
      clear c9
      replace H := Option.bind_eq_some_iff.mp H
      obtain ⟨qu, A150, H⟩ := H
      replace H : (some (decide (qu ≤ 1))) = some r := H
      have A15 := Aside0.mk A150
      clear A150
      obtain rfl := Option.some.inj H
      obtain ⟨qz, qA, qB, qC, qD, qE⟩ := b3_ qb
      go_wp2_with (first | ((with_reducible refine gate_callee (f := 87) rfl ?_); refine gL_ (some 32) Tryd.func87 #[.slice A0_0 l0_0.length c0_0, .int .i64 a0_1] ?_; (with_reducible refine (spec_l2Gcd.calls k2 _ _ l0_0 a0_1 qu _ ?side1 ?side2 A15.out).mono ?_); (case side1 => exact cb_ qg HB); (case side2 => exact qx.out); rintro e qV ⟨rfl, hb⟩; refine ⟨_, rfl, ?_⟩; replace qb := kB_ qb hb; replace HB := bS_ HB hb; clear hb))
      go_ret
      exact ⟨by first | rfl | (simp [errW_none, errW_some] <;> rfl) | (simp [*, errW_none, errW_some] <;> rfl), bb_ HB⟩
     rw [if_pos c9] at H
     have qR : decide (qa < (l0_0.length : Int)) = true := decide_eq_true c9
     clear c9
     by_cases c10 : 0 ≤ qa
     rotate_left
     ·
      rw [if_neg c10] at H
      exact absurd H (by simp)
     rw [if_pos c10] at H
     have qU : decide (0 ≤ qa) = true := decide_eq_true c10
     clear c10
     replace H := Option.bind_eq_some_iff.mp H
     obtain ⟨qt, A110, H⟩ := H
     replace H : (if qt = true then (spec_IsAtom.l0 k2 (wrap64 (qa + 1)) l0_0 a0_1 a0_2) else (some false)) = some r := H
     have A11 := Aside0.mk A110
     clear A110
     by_cases c12 : qt = true
     rotate_left
     ·
      replace c12 := Bool.eq_false_iff.mpr c12
      subst c12
      have H1 : (some false) = some r := by rw [if_neg (show ¬ (false = true) by decide)] at H; exact H
      clear H
      have H := H1
      clear H1
      obtain rfl := Option.some.inj H
      obtain ⟨qF, qG, qH, qI, qJ, qK⟩ := b3_ qb
      have p222 : 0 ≤ (qa : Int) := of_decide_eq_true (by first | (with_reducible assumption) | assumption)
      have q222 : qa < (l0_0.length : Int) := of_decide_eq_true (by first | (with_reducible assumption) | assumption)
      obtain ⟨qy, e222, qc⟩ := Kd.at_int qg.out qa p222 q222
      cases e222
      replace qc := (HB.out.cell (World.block_lt_of_cell? w _ qc)).trans qc
      replace p222 := eq_true p222
      replace q222 := eq_true q222
      go_wp2_with (first | ((with_reducible refine gate_callee (f := 59) rfl ?_); refine gL_ (some 26) Tryd.func59 #[.int .i64 (rd l0_0 qa)] ?_; (with_reducible refine (spec_IsNumber.calls (rd l0_0 qa) false _ A11.out).mono ?_); rintro e w' ⟨rfl, ⟨nd, rfl⟩⟩; refine ⟨_, rfl, ?_⟩))
      go_ret
      exact ⟨by first | rfl | (simp [errW_none, errW_some] <;> rfl) | (simp [*, errW_none, errW_some] <;> rfl), bb_ HB⟩
     subst c12
     have H1 : (spec_IsAtom.l0 k2 (wrap64 (qa + 1)) l0_0 a0_1 a0_2) = some r := by rw [if_pos rfl] at H; exact H
     clear H
     have H := H1
     clear H1
     have H' := Aside0.mk H
     clear H
     obtain ⟨qL, qM, qN, qO, qP, qQ⟩ := b3_ qb
     have p222 : 0 ≤ (qa : Int) := of_decide_eq_true (by first | (with_reducible assumption) | assumption)
     have q222 : qa < (l0_0.length : Int) := of_decide_eq_true (by first | (with_reducible assumption) | assumption)
     obtain ⟨qy, e222, qc⟩ := Kd.at_int qg.out qa p222 q222
     cases e222
     replace qc := (HB.out.cell (World.block_lt_of_cell? w _ qc)).trans qc
     replace p222 := eq_true p222
     replace q222 := eq_true q222
     go_wp2_with (first | ((with_reducible refine gate_callee (f := 59) rfl ?_); refine gL_ (some 26) Tryd.func59 #[.int .i64 (rd l0_0 qa)] ?_; (with_reducible refine (spec_IsNumber.calls (rd l0_0 qa) true _ A11.out).mono ?_); rintro e w' ⟨rfl, ⟨nd, rfl⟩⟩; refine ⟨_, rfl, ?_⟩))
     go_roundg k2
     case measure => have := HJ1.out; have := HK2.out; omega
     case rel => exact ⟨(wrap64 (qa + 1)), (by first | rfl | (simp; done) | (simp [*]; done)), H', ⟨by have := HJ1.out; have := HK2.out; omega⟩, ⟨kf_ qb⟩, ⟨bb_ HB⟩⟩

end Go.Proofs.YtohoibekddhneaaDoor.PFnAtoms
