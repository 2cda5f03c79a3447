/- The functions that the law FnExactHoldsAt reaches, each as a Lean function with the same answers, and the proof that the call comes to exactly these: turned by program out of the printed texts. No condition but those that each theorem names. -/
import Derived.Test.YtaijkhabcidagaaQFnExactHoldsAtx0
import Derived.Test.YtaijkhabcidagaaQFnExactHoldsAtx1
namespace Go.Proofs.Ytaijkhabcidagaa.PFnExactHoldsAt
open Go.RowKit Go.Proofs.YtaijkhabcidagaaW.PrintWords Go.Proofs.YtaijkhabcidagaaW.PrintLast Go.Proofs.YtaijkhabcidagaaW.PrintMore
attribute [local go_sem] max2_int min2_int max_two min_two max_three min_three max_four min_four   -- for this text's walks alone
set_option linter.unusedVariables false
set_option linter.unusedSimpArgs false

/-! ### impl_divisorOf: function 83 -/
def impl_divisorOf.l0 : Nat → Int → List Int → Int → Int → Option (Int)
 | 0, _, _, _, _ => none
 | k + 1, x3, x6, x7, x8 => if x8 < x7 then (if 0 ≤ x8 then (if x8 < (x6.length : Int) then ((impl_commonDivisor.f k x3 (rd x6 x8)).bind fun qb => (impl_divisorOf.l0 k qb x6 x7 (wrap64 (x8 + 1)))) else (none)) else (none)) else (some x3)
def impl_divisorOf.f (k : Nat) (l0 : List Int) : Option (Int) := impl_divisorOf.l0 k 0 l0 (l0.length : Int) 0
theorem impl_divisorOf.mono_l : ∀ k, (∀ y0 y1 y2 y3, LeO (impl_divisorOf.l0 k y0 y1 y2 y3) (impl_divisorOf.l0 (k + 1) y0 y1 y2 y3))
 | 0 => fun _ _ _ _ r h => by simp [impl_divisorOf.l0] at h
 | k + 1 => by
  have ih0 := impl_divisorOf.mono_l k
  ·
   intro y0 y1 y2 y3
   unfold impl_divisorOf.l0
   repeat' first
   | (with_reducible exact ih0 _ _ _ _)
   | (with_reducible exact impl_commonDivisor.mono _ _ _)
   | (with_reducible exact LeO.refl _)
   | (with_reducible exact LeO.none _)
   | (with_reducible refine LeO.ite ?_ ?_)
   | (with_reducible refine LeO.bind ?_ (fun _ => ?_))
   | exact ih0 _ _ _ _
   | exact impl_commonDivisor.mono _ _ _
   | exact LeO.none _
   | refine LeO.ite ?_ ?_
   | refine LeO.bind ?_ (fun _ => ?_)
theorem impl_divisorOf.mono : ∀ a0 k, LeO (impl_divisorOf.f k a0) (impl_divisorOf.f (k + 1) a0) := by
 intro a0 k
 have ih0 := impl_divisorOf.mono_l k
 unfold impl_divisorOf.f
 repeat' first
   | (with_reducible exact ih0 _ _ _ _)
   | (with_reducible exact impl_commonDivisor.mono _ _ _)
   | (with_reducible exact LeO.refl _)
   | (with_reducible exact LeO.none _)
   | (with_reducible refine LeO.ite ?_ ?_)
   | (with_reducible refine LeO.bind ?_ (fun _ => ?_))
   | exact ih0 _ _ _ _
   | exact impl_commonDivisor.mono _ _ _
   | exact LeO.none _
   | refine LeO.ite ?_ ?_
   | refine LeO.bind ?_ (fun _ => ?_)
set_option maxHeartbeats 8000000 in
set_option maxRecDepth 100000 in
theorem impl_divisorOf.calls (k : Nat) (A0 : Option Addr) (c0 : Nat) (l0 : List Int) (r : Int) (w : World) (hr0 : Kd.C (Kd.int .i64) w A0 l0.length l0) (hc0 : l0.length ≤ c0) (h : impl_divisorOf.f k l0 = some r) :
  Calls Try.prog 83 #[.slice A0 l0.length c0] w fun e w' => e = .returned (.int .i64 r) ∧ Drawn0 w w' := by
 have HR0 := Aside0.mk hr0
 have HC0 := Aside0.mk hc0
 clear hr0 hc0
 have H : (impl_divisorOf.l0 k 0 l0 (l0.length : Int) 0) = some r := h
 clear h
 have H' := Aside0.mk H
 clear H
 go_enter Try.func83, Try.ntmps83
 go_wp2
 go_loopg [3, 8] k (fun kq v3 v8 w' => ∃ (qc : Int) (qa : Int), v3 = .int .i64 qc ∧ v8 = .int .i64 qa ∧ Aside0 (impl_divisorOf.l0 kq qc l0 (l0.length : Int) qa = some r) ∧ Aside0 (kq ≤ k) ∧ Drawn0 w w')
 case atStart => exact ⟨(0), (0), (by first | rfl | (simp; done) | (simp [*]; done)), (by first | rfl | (simp; done) | (simp [*]; done)), H', ⟨Nat.le_refl _⟩, by repeat (first | exact Drawn0.refl _ | apply Drawn0.step)⟩
 case round =>
  clear H'
  obtain ⟨qc, qa, rfl, rfl, HA, HK1, ⟨m1, rfl⟩⟩ := hrel
  cases gk with
  | zero => exact absurd HA.out (by simp [impl_divisorOf.l0])
  | succ k1 =>
   have H := HA.out
   clear HA
   simp only [impl_divisorOf.l0] at H
   by_cases c2 : qa < (l0.length : Int)
   ·
    rw [if_pos c2] at H
    have qe : decide (qa < (l0.length : Int)) = true := decide_eq_true c2
    clear c2
    by_cases c3 : 0 ≤ qa
    ·
     rw [if_pos c3] at H
     have qg : decide (0 ≤ qa) = true := decide_eq_true c3
     clear c3
     by_cases c4 : qa < (l0.length : Int)
     ·
      rw [if_pos c4] at H
      have qh : decide (qa < (l0.length : Int)) = true := decide_eq_true c4
      clear c4
      replace H := Option.bind_eq_some_iff.mp H
      obtain ⟨qb, A50, H⟩ := H
      replace H : (impl_divisorOf.l0 k1 qb l0 (l0.length : Int) (wrap64 (qa + 1))) = some r := H
      have A5 := Aside0.mk A50
      clear A50
      have H' := Aside0.mk H
      clear H
      have p194 : 0 ≤ (qa : Int) := of_decide_eq_true (by first | (with_reducible assumption) | assumption)
      have q194 : qa < (l0.length : Int) := of_decide_eq_true (by first | (with_reducible assumption) | assumption)
      obtain ⟨qf, e194, qd⟩ := Kd.at_int HR0.out qa p194 q194
      cases e194
      replace p194 := eq_true p194
      replace q194 := eq_true q194
      go_wp2_with (first | ((with_reducible refine gate_callee (f := 82) rfl ?_); refine goesL_ (some 14) rfl rfl Try.func82 (by kernel_rfl) rfl #[.int .i64 qc, .int .i64 (rd l0 qa)] rfl (by (try simp only [List.map_toArray, List.map_cons, List.map_nil]); first | done | rfl | (simp only [List.length_drop, List.length_take]; rfl)) ?_; (with_reducible refine (impl_commonDivisor.calls k1 qc (rd l0 qa) qb _ A5.out).mono ?_); rintro e w' ⟨rfl, ⟨nd, rfl⟩⟩; refine ⟨_, rfl, ?_⟩))
      go_roundg k1
      case measure => have := HK1.out; omega
      case rel => exact ⟨(qb), (wrap64 (qa + 1)), (by first | rfl | (simp; done) | (simp [*]; done)), (by first | rfl | (simp; done) | (simp [*]; done)), H', ⟨by have := HK1.out; omega⟩, by repeat (first | exact Drawn0.refl _ | apply Drawn0.step)⟩
     ·
      rw [if_neg c4] at H
      exact absurd H (by simp)
    ·
     rw [if_neg c3] at H
     exact absurd H (by simp)
   ·
    rw [if_neg c2] at H
    have qe : decide (qa < (l0.length : Int)) = false := decide_eq_false c2
    clear c2
    obtain rfl := Option.some.inj H
    go_wp2
    go_ret
    exact ⟨by first | rfl | (simp; done) | (simp [*]; done), by repeat (first | exact Drawn0.refl _ | apply Drawn0.step)⟩

/-! ### impl_IsAtom: function 54 -/
mutual
def impl_IsAtom.j0 : Nat → Bool → List Int → Int → Bool → Option (Bool)
 | 0, _, _, _, _ => none
 | k + 1, x14, x197000, x197001, x197002 => if x14 = true then (some false) else (impl_IsAtom.l0 k x197000 (x197000.length : Int) 0 x197000 x197001 x197002)
def impl_IsAtom.l0 : Nat → List Int → Int → Int → List Int → Int → Bool → Option (Bool)
 | 0, _, _, _, _, _, _ => none
 | k + 1, x16, x17, x18, x197000, x197001, x197002 => if x18 < x17 then (if 0 ≤ x18 then (if x18 < (x16.length : Int) then ((impl_IsNumber.f (rd x16 x18)).bind fun qx => (if qx = true then (impl_IsAtom.l0 k x16 x17 (wrap64 (x18 + 1)) x197000 x197001 x197002) else (some false))) else (none)) else (none)) else ((impl_divisorOf.f k x197000).bind fun qe => ((impl_commonDivisor.f k qe x197001).bind fun qg => (some (decide (qg ≤ 1)))))
end
def impl_IsAtom.f (k : Nat) (l0_0 : List Int) (a0_1 : Int) (a0_2 : Bool) : Option (Bool) := if (l0_0.length : Int) > 4 then (impl_IsAtom.j0 k true l0_0 a0_1 a0_2) else ((impl_IsNumber.f a0_1).bind fun qf => (impl_IsAtom.j0 k (!qf) l0_0 a0_1 a0_2))
theorem impl_IsAtom.mono_l : ∀ k, (∀ y0 y1 y2 y3, LeO (impl_IsAtom.j0 k y0 y1 y2 y3) (impl_IsAtom.j0 (k + 1) y0 y1 y2 y3)) ∧ (∀ y0 y1 y2 y3 y4 y5, LeO (impl_IsAtom.l0 k y0 y1 y2 y3 y4 y5) (impl_IsAtom.l0 (k + 1) y0 y1 y2 y3 y4 y5))
 | 0 => ⟨fun _ _ _ _ r h => by simp [impl_IsAtom.j0] at h, fun _ _ _ _ _ _ r h => by simp [impl_IsAtom.l0] at h⟩
 | k + 1 => by
  obtain ⟨ih0, ih1⟩ := impl_IsAtom.mono_l k
  refine ⟨?_, ?_⟩
  ·
   intro y0 y1 y2 y3
   unfold impl_IsAtom.j0
   repeat' first
   | (with_reducible exact ih0 _ _ _ _)
   | (with_reducible exact ih1 _ _ _ _ _ _)
   | (with_reducible exact impl_commonDivisor.mono _ _ _)
   | (with_reducible exact impl_divisorOf.mono _ _)
   | (with_reducible exact LeO.refl _)
   | (with_reducible exact LeO.none _)
   | (with_reducible refine LeO.ite ?_ ?_)
   | (with_reducible refine LeO.bind ?_ (fun _ => ?_))
   | exact ih0 _ _ _ _
   | exact ih1 _ _ _ _ _ _
   | exact impl_commonDivisor.mono _ _ _
   | exact impl_divisorOf.mono _ _
   | exact LeO.none _
   | refine LeO.ite ?_ ?_
   | refine LeO.bind ?_ (fun _ => ?_)
  ·
   intro y0 y1 y2 y3 y4 y5
   unfold impl_IsAtom.l0
   repeat' first
   | (with_reducible exact ih0 _ _ _ _)
   | (with_reducible exact ih1 _ _ _ _ _ _)
   | (with_reducible exact impl_commonDivisor.mono _ _ _)
   | (with_reducible exact impl_divisorOf.mono _ _)
   | (with_reducible exact LeO.refl _)
   | (with_reducible exact LeO.none _)
   | (with_reducible refine LeO.ite ?_ ?_)
   | (with_reducible refine LeO.bind ?_ (fun _ => ?_))
   | exact ih0 _ _ _ _
   | exact ih1 _ _ _ _ _ _
   | exact impl_commonDivisor.mono _ _ _
   | exact impl_divisorOf.mono _ _
   | exact LeO.none _
   | refine LeO.ite ?_ ?_
   | refine LeO.bind ?_ (fun _ => ?_)
theorem impl_IsAtom.mono : ∀ a0 a1 a2 k, LeO (impl_IsAtom.f k a0 a1 a2) (impl_IsAtom.f (k + 1) a0 a1 a2) := by
 intro a0 a1 a2 k
 obtain ⟨ih0, ih1⟩ := impl_IsAtom.mono_l k
 unfold impl_IsAtom.f
 repeat' first
   | (with_reducible exact ih0 _ _ _ _)
   | (with_reducible exact ih1 _ _ _ _ _ _)
   | (with_reducible exact impl_commonDivisor.mono _ _ _)
   | (with_reducible exact impl_divisorOf.mono _ _)
   | (with_reducible exact LeO.refl _)
   | (with_reducible exact LeO.none _)
   | (with_reducible refine LeO.ite ?_ ?_)
   | (with_reducible refine LeO.bind ?_ (fun _ => ?_))
   | exact ih0 _ _ _ _
   | exact ih1 _ _ _ _ _ _
   | exact impl_commonDivisor.mono _ _ _
   | exact impl_divisorOf.mono _ _
   | exact LeO.none _
   | refine LeO.ite ?_ ?_
   | refine LeO.bind ?_ (fun _ => ?_)
set_option maxHeartbeats 8000000 in
set_option maxRecDepth 100000 in
theorem impl_IsAtom.calls (k : Nat) (A0_0 : Option Addr) (c0_0 : Nat) (l0_0 : List Int) (a0_1 : Int) (a0_2 : Bool) (r : Bool) (w : World) (hr0_0 : Kd.C (Kd.int .i64) w A0_0 l0_0.length l0_0) (hc0_0 : l0_0.length ≤ c0_0) (h : impl_IsAtom.f k l0_0 a0_1 a0_2 = some r) :
  Calls Try.prog 54 #[.agg #[.slice A0_0 l0_0.length c0_0, .int .i64 a0_1, .bool a0_2]] w fun e w' => e = .returned (.bool r) ∧ Below w.heap.size w w' := by
 have hu26 := Try.underlying26
 have qh := Aside0.mk hr0_0
 have qk := Aside0.mk hc0_0
 clear hr0_0 hc0_0
 have HB := Aside0.mk (Below.refl w.heap.size w)
 have H : (if (l0_0.length : Int) > 4 then (impl_IsAtom.j0 k true l0_0 a0_1 a0_2) else ((impl_IsNumber.f a0_1).bind fun qf => (impl_IsAtom.j0 k (!qf) l0_0 a0_1 a0_2))) = some r := h
 clear h
 have HC2 := Aside0.mk H
 clear H
 go_enter Try.func54, Try.ntmps54
 go_upto_region 1 with (first | ((with_reducible refine gate_dst (N := 1) rfl ?_); refine box_event ?hg (N := 1) ?hd (cs := #[.slice A0_0 l0_0.length c0_0, .int .i64 a0_1, .bool a0_2]) (t := 26) ?hr ?_; (case hd => rfl); (case hg => rfl); (case hr => first | (go_simp; done) | (go_simp; rfl)); intro qc hg w3 hbox hb; have qa := Aside0.mk (hbox); have qy := Aside0.mk ((by rw [hg]; exact (bz_ HB) : w.heap.size ≤ qc)); have qz := Aside0.mk ((by rw [hg]; exact (bz_ HB) : w.heap.size ≤ qc)); replace HB := bS_ HB hb; clear hb hbox hg))
 repeat (go_quiet (first | ((with_reducible refine gate_dst (N := 1) rfl ?_); refine box_event ?hg (N := 1) ?hd (cs := #[.slice A0_0 l0_0.length c0_0, .int .i64 a0_1, .bool a0_2]) (t := 26) ?hr ?_; (case hd => rfl); (case hg => rfl); (case hr => first | (go_simp; done) | (go_simp; rfl)); intro qc hg w3 hbox hb; have qa := Aside0.mk (hbox); have qy := Aside0.mk ((by rw [hg]; exact (bz_ HB) : w.heap.size ≤ qc)); have qz := Aside0.mk ((by rw [hg]; exact (bz_ HB) : w.heap.size ≤ qc)); replace HB := bS_ HB hb; clear hb hbox hg)); go_upto_region 1 with (first | ((with_reducible refine gate_dst (N := 1) rfl ?_); refine box_event ?hg (N := 1) ?hd (cs := #[.slice A0_0 l0_0.length c0_0, .int .i64 a0_1, .bool a0_2]) (t := 26) ?hr ?_; (case hd => rfl); (case hg => rfl); (case hr => first | (go_simp; done) | (go_simp; rfl)); intro qc hg w3 hbox hb; have qa := Aside0.mk (hbox); have qy := Aside0.mk ((by rw [hg]; exact (bz_ HB) : w.heap.size ≤ qc)); have qz := Aside0.mk ((by rw [hg]; exact (bz_ HB) : w.heap.size ≤ qc)); replace HB := bS_ HB hb; clear hb hbox hg)))
 (try simp only [Act.put, List.setIfInBounds_toArray, List.set_cons_zero, List.set_cons_succ])
 go_cut [14] (fun v14 wc => ∃ (kq : Nat) (qj : Bool), v14 = .bool qj ∧ Aside0 (impl_IsAtom.j0 kq qj l0_0 a0_1 a0_2 = some r) ∧ Aside0 (kq ≤ k) ∧ Aside0 (wc.heap[qc]? = some (.cells #[(.slice A0_0 l0_0.length c0_0), .int .i64 a0_1, .bool a0_2] 26 (0, 0))) ∧ Aside0 (Below w.heap.size w wc))
 case first =>
  have H := HC2.out
  clear HC2
  by_cases c4 : (l0_0.length : Int) > 4
  ·
   rw [if_pos c4] at H
   have qi : decide (4 < (l0_0.length : Int)) = true := decide_eq_true c4
   have qA : decide (4 < l0_0.length) = true := decide_eq_true (by omega)
   clear c4
   (first | rw [qi] | (simp only [i64_w, i32_w]; rw [qi]) | skip)
   have H' := Aside0.mk H
   clear H
   have ql : w3.cell? ⟨qc, 0, none⟩ = some (.slice A0_0 l0_0.length c0_0) := bc_ qa 0
   have qm : w3.cell? ⟨qc, 1, none⟩ = some (.int .i64 a0_1) := bc_ qa 1
   have qn : w3.cell? ⟨qc, 2, none⟩ = some (.bool a0_2) := bc_ qa 2
   have qo := blk_frozen qa.out 0
   have qp := blk_frozen qa.out 1
   have qq := blk_frozen qa.out 2
   go_wp2
   repeat (go_quiet (fail); try go_wp2)
   go_meet
   case rel => exact ⟨_, (true), (by first | rfl | (simp; done) | (simp [*]; done)), H', ⟨by first | omega | exact Nat.le_refl _⟩, ⟨kf_ qa⟩, ⟨bb_ HB⟩⟩
  ·
   rw [if_neg c4] at H
   have qi : decide (4 < (l0_0.length : Int)) = false := decide_eq_false c4
   have qA : decide (4 < l0_0.length) = false := decide_eq_false (by omega)
   clear c4
   (first | rw [qi] | (simp only [i64_w, i32_w]; rw [qi]) | skip)
   replace H := Option.bind_eq_some_iff.mp H
   obtain ⟨qf, A60, H⟩ := H
   replace H : (impl_IsAtom.j0 k (!qf) l0_0 a0_1 a0_2) = some r := H
   have A6 := Aside0.mk A60
   clear A60
   have H' := Aside0.mk H
   clear H
   have qr : w3.cell? ⟨qc, 0, none⟩ = some (.slice A0_0 l0_0.length c0_0) := bc_ qa 0
   have qs : w3.cell? ⟨qc, 1, none⟩ = some (.int .i64 a0_1) := bc_ qa 1
   have qt : w3.cell? ⟨qc, 2, none⟩ = some (.bool a0_2) := bc_ qa 2
   have qu := blk_frozen qa.out 0
   have qv := blk_frozen qa.out 1
   have qw := blk_frozen qa.out 2
   go_wp2_with (first | (go_at_call 58; (with_reducible refine (impl_IsNumber.calls a0_1 qf _ A6.out).mono ?_); rintro e w' ⟨rfl, ⟨nd, rfl⟩⟩; (try first | exact ⟨rfl, _, World.drewN_drewN _ _ _⟩ | exact ⟨rfl, _, Eq.trans (World.drewN_drewN _ _ _) (congrArg (World.drewN _) (Nat.add_assoc _ _ _))⟩)))
   repeat (go_quiet (first | (go_at_call 58; (with_reducible refine (impl_IsNumber.calls a0_1 qf _ A6.out).mono ?_); rintro e w' ⟨rfl, ⟨nd, rfl⟩⟩; (try first | exact ⟨rfl, _, World.drewN_drewN _ _ _⟩ | exact ⟨rfl, _, Eq.trans (World.drewN_drewN _ _ _) (congrArg (World.drewN _) (Nat.add_assoc _ _ _))⟩))); try go_wp2_with (first | (go_at_call 58; (with_reducible refine (impl_IsNumber.calls a0_1 qf _ A6.out).mono ?_); rintro e w' ⟨rfl, ⟨nd, rfl⟩⟩; (try first | exact ⟨rfl, _, World.drewN_drewN _ _ _⟩ | exact ⟨rfl, _, Eq.trans (World.drewN_drewN _ _ _) (congrArg (World.drewN _) (Nat.add_assoc _ _ _))⟩))))
   go_meet
   case rel => exact ⟨_, (!qf), (by first | rfl | (simp; done) | (simp [*]; done)), H', ⟨by first | omega | exact Nat.le_refl _⟩, ⟨kf_ qa⟩, ⟨bb_ HB⟩⟩
 case rest =>
  clear HC2
  try clear p2
  try clear c4
  try clear qi
  try clear qA
  try clear c5
  try clear ql
  try clear qm
  try clear qn
  try clear qr
  try clear qs
  try clear qt
  try clear qo
  try clear qp
  try clear qq
  try clear qu
  try clear qv
  try clear qw
  obtain ⟨kq, qj, rfl, HA, HJ1, qa, HB⟩ := hcut
  cases kq with
  | zero => exact absurd HA.out (by simp [impl_IsAtom.j0])
  | succ kj1 =>
   have H := HA.out
   clear HA
   simp only [impl_IsAtom.j0] at H
   by_cases c8 : qj = true
   ·
    subst c8
    have H1 : (some false) = some r := by rw [if_pos rfl] at H; exact H
    clear H
    have H := H1
    clear H1
    obtain rfl := Option.some.inj H
    go_wp2
    repeat (go_quiet (fail); try go_wp2)
    go_ret
    exact ⟨by first | rfl | (simp [errW_none, errW_some] <;> rfl) | (simp [*, errW_none, errW_some] <;> rfl), bb_ HB⟩
   ·
    replace c8 := Bool.eq_false_iff.mpr c8
    subst c8
    have H1 : (impl_IsAtom.l0 kj1 l0_0 (l0_0.length : Int) 0 l0_0 a0_1 a0_2) = some r := by rw [if_neg (show ¬ (false = true) by decide)] at H; exact H
    clear H
    have H := H1
    clear H1
    have H' := Aside0.mk H
    clear H
    have qB : wc.cell? ⟨qc, 0, none⟩ = some (.slice A0_0 l0_0.length c0_0) := bc_ qa 0
    have qC : wc.cell? ⟨qc, 1, none⟩ = some (.int .i64 a0_1) := bc_ qa 1
    have qD : wc.cell? ⟨qc, 2, none⟩ = some (.bool a0_2) := bc_ qa 2
    have qE := blk_frozen qa.out 0
    have qF := blk_frozen qa.out 1
    have qG := blk_frozen qa.out 2
    go_wp2
    repeat (go_quiet (fail); try go_wp2)
    go_loopg [18] kj1 (fun kq v18 w' => ∃ (qb : Int), v18 = .int .i64 qb ∧ Aside0 (impl_IsAtom.l0 kq l0_0 (l0_0.length : Int) qb l0_0 a0_1 a0_2 = some r) ∧ Aside0 (kq ≤ kj1) ∧ Aside0 (w'.heap[qc]? = some (.cells #[(.slice A0_0 l0_0.length c0_0), .int .i64 a0_1, .bool a0_2] 26 (0, 0))) ∧ Aside0 (Below w.heap.size w w'))
    case atStart => exact ⟨(0), (by first | rfl | (simp; done) | (simp [*]; done)), H', ⟨Nat.le_refl _⟩, ⟨kf_ qa⟩, ⟨bb_ HB⟩⟩
    case round =>
     clear H'
     try clear p2
     try clear c4
     try clear qi
     try clear qA
     try clear c5
     try clear c8
     try clear ql
     try clear qm
     try clear qn
     try clear qr
     try clear qs
     try clear qt
     try clear qB
     try clear qC
     try clear qD
     try clear qo
     try clear qp
     try clear qq
     try clear qu
     try clear qv
     try clear qw
     try clear qE
     try clear qF
     try clear qG
     try clear p2
     obtain ⟨qb, rfl, HA, HK2, qa, HB⟩ := hrel
     cases gk with
     | zero => exact absurd HA.out (by simp [impl_IsAtom.l0])
     | succ k2 =>
      have H := HA.out
      clear HA
      simp only [impl_IsAtom.l0] at H
      by_cases c10 : qb < (l0_0.length : Int)
      ·
       rw [if_pos c10] at H
       have qH : decide (qb < (l0_0.length : Int)) = true := decide_eq_true c10
       clear c10
       by_cases c11 : 0 ≤ qb
       ·
        rw [if_pos c11] at H
        have qP : decide (0 ≤ qb) = true := decide_eq_true c11
        clear c11
        by_cases c12 : qb < (l0_0.length : Int)
        ·
         rw [if_pos c12] at H
         have qQ : decide (qb < (l0_0.length : Int)) = true := decide_eq_true c12
         clear c12
         replace H := Option.bind_eq_some_iff.mp H
         obtain ⟨qx, A130, H⟩ := H
         replace H : (if qx = true then (impl_IsAtom.l0 k2 l0_0 (l0_0.length : Int) (wrap64 (qb + 1)) l0_0 a0_1 a0_2) else (some false)) = some r := H
         have A13 := Aside0.mk A130
         clear A130
         by_cases c14 : qx = true
         ·
          subst c14
          have H1 : (impl_IsAtom.l0 k2 l0_0 (l0_0.length : Int) (wrap64 (qb + 1)) l0_0 a0_1 a0_2) = some r := by rw [if_pos rfl] at H; exact H
          clear H
          have H := H1
          clear H1
          have H' := Aside0.mk H
          clear H
          have p198 : 0 ≤ (qb : Int) := of_decide_eq_true (by first | (with_reducible assumption) | assumption)
          have q198 : qb < (l0_0.length : Int) := of_decide_eq_true (by first | (with_reducible assumption) | assumption)
          obtain ⟨qI, e198, qd⟩ := Kd.at_int qh.out qb p198 q198
          cases e198
          replace qd := (HB.out.cell (World.block_lt_of_cell? w _ qd)).trans qd
          replace p198 := eq_true p198
          replace q198 := eq_true q198
          go_wp2_with (first | (go_at_call 58; (with_reducible refine (impl_IsNumber.calls (rd l0_0 qb) true _ A13.out).mono ?_); rintro e w' ⟨rfl, ⟨nd, rfl⟩⟩; (try first | exact ⟨rfl, _, World.drewN_drewN _ _ _⟩ | exact ⟨rfl, _, Eq.trans (World.drewN_drewN _ _ _) (congrArg (World.drewN _) (Nat.add_assoc _ _ _))⟩)))
          repeat (go_quiet (first | (go_at_call 58; (with_reducible refine (impl_IsNumber.calls (rd l0_0 qb) true _ A13.out).mono ?_); rintro e w' ⟨rfl, ⟨nd, rfl⟩⟩; (try first | exact ⟨rfl, _, World.drewN_drewN _ _ _⟩ | exact ⟨rfl, _, Eq.trans (World.drewN_drewN _ _ _) (congrArg (World.drewN _) (Nat.add_assoc _ _ _))⟩))); try go_wp2_with (first | (go_at_call 58; (with_reducible refine (impl_IsNumber.calls (rd l0_0 qb) true _ A13.out).mono ?_); rintro e w' ⟨rfl, ⟨nd, rfl⟩⟩; (try first | exact ⟨rfl, _, World.drewN_drewN _ _ _⟩ | exact ⟨rfl, _, Eq.trans (World.drewN_drewN _ _ _) (congrArg (World.drewN _) (Nat.add_assoc _ _ _))⟩))))
          go_roundg k2
          case measure => have := HJ1.out; have := HK2.out; omega
          case rel => exact ⟨(wrap64 (qb + 1)), (by first | rfl | (simp; done) | (simp [*]; done)), H', ⟨by have := HJ1.out; have := HK2.out; omega⟩, ⟨kf_ qa⟩, ⟨bb_ HB⟩⟩
         ·
          replace c14 := Bool.eq_false_iff.mpr c14
          subst c14
          have H1 : (some false) = some r := by rw [if_neg (show ¬ (false = true) by decide)] at H; exact H
          clear H
          have H := H1
          clear H1
          obtain rfl := Option.some.inj H
          have p198 : 0 ≤ (qb : Int) := of_decide_eq_true (by first | (with_reducible assumption) | assumption)
          have q198 : qb < (l0_0.length : Int) := of_decide_eq_true (by first | (with_reducible assumption) | assumption)
          obtain ⟨qI, e198, qd⟩ := Kd.at_int qh.out qb p198 q198
          cases e198
          replace qd := (HB.out.cell (World.block_lt_of_cell? w _ qd)).trans qd
          replace p198 := eq_true p198
          replace q198 := eq_true q198
          go_wp2_with (first | (go_at_call 58; (with_reducible refine (impl_IsNumber.calls (rd l0_0 qb) false _ A13.out).mono ?_); rintro e w' ⟨rfl, ⟨nd, rfl⟩⟩; (try first | exact ⟨rfl, _, World.drewN_drewN _ _ _⟩ | exact ⟨rfl, _, Eq.trans (World.drewN_drewN _ _ _) (congrArg (World.drewN _) (Nat.add_assoc _ _ _))⟩)))
          repeat (go_quiet (first | (go_at_call 58; (with_reducible refine (impl_IsNumber.calls (rd l0_0 qb) false _ A13.out).mono ?_); rintro e w' ⟨rfl, ⟨nd, rfl⟩⟩; (try first | exact ⟨rfl, _, World.drewN_drewN _ _ _⟩ | exact ⟨rfl, _, Eq.trans (World.drewN_drewN _ _ _) (congrArg (World.drewN _) (Nat.add_assoc _ _ _))⟩))); try go_wp2_with (first | (go_at_call 58; (with_reducible refine (impl_IsNumber.calls (rd l0_0 qb) false _ A13.out).mono ?_); rintro e w' ⟨rfl, ⟨nd, rfl⟩⟩; (try first | exact ⟨rfl, _, World.drewN_drewN _ _ _⟩ | exact ⟨rfl, _, Eq.trans (World.drewN_drewN _ _ _) (congrArg (World.drewN _) (Nat.add_assoc _ _ _))⟩))))
          go_ret
          exact ⟨by first | rfl | (simp [errW_none, errW_some] <;> rfl) | (simp [*, errW_none, errW_some] <;> rfl), bb_ HB⟩
        ·
         rw [if_neg c12] at H
         exact absurd H (by simp)
       ·
        rw [if_neg c11] at H
        exact absurd H (by simp)
      ·
       rw [if_neg c10] at H
       have qH : decide (qb < (l0_0.length : Int)) = false := decide_eq_false c10
       clear c10
       replace H := Option.bind_eq_some_iff.mp H
       obtain ⟨qe, A150, H⟩ := H
       replace H : ((impl_commonDivisor.f k2 qe a0_1).bind fun qg => (some (decide (qg ≤ 1)))) = some r := H
       have A15 := Aside0.mk A150
       clear A150
       replace H := Option.bind_eq_some_iff.mp H
       obtain ⟨qg, A160, H⟩ := H
       replace H : (some (decide (qg ≤ 1))) = some r := H
       have A16 := Aside0.mk A160
       clear A160
       obtain rfl := Option.some.inj H
       have qJ : wr.cell? ⟨qc, 0, none⟩ = some (.slice A0_0 l0_0.length c0_0) := bc_ qa 0
       have qK : wr.cell? ⟨qc, 1, none⟩ = some (.int .i64 a0_1) := bc_ qa 1
       have qL : wr.cell? ⟨qc, 2, none⟩ = some (.bool a0_2) := bc_ qa 2
       have qM := blk_frozen qa.out 0
       have qN := blk_frozen qa.out 1
       have qO := blk_frozen qa.out 2
       go_wp2_with (first | (go_at_call 83; (with_reducible refine (impl_divisorOf.calls k2 _ _ l0_0 qe _ ?side1 ?side2 A15.out).mono ?_); (case side1 => exact cb_ qh HB); (case side2 => exact qk.out); rintro e w' ⟨rfl, ⟨nd, rfl⟩⟩; (try first | exact ⟨rfl, _, World.drewN_drewN _ _ _⟩ | exact ⟨rfl, _, Eq.trans (World.drewN_drewN _ _ _) (congrArg (World.drewN _) (Nat.add_assoc _ _ _))⟩)) | (go_at_call 82; (with_reducible refine (impl_commonDivisor.calls k2 qe a0_1 qg _ A16.out).mono ?_); rintro e w' ⟨rfl, ⟨nd, rfl⟩⟩; (try first | exact ⟨rfl, _, World.drewN_drewN _ _ _⟩ | exact ⟨rfl, _, Eq.trans (World.drewN_drewN _ _ _) (congrArg (World.drewN _) (Nat.add_assoc _ _ _))⟩)))
       repeat (go_quiet (first | (go_at_call 83; (with_reducible refine (impl_divisorOf.calls k2 _ _ l0_0 qe _ ?side1 ?side2 A15.out).mono ?_); (case side1 => exact cb_ qh HB); (case side2 => exact qk.out); rintro e w' ⟨rfl, ⟨nd, rfl⟩⟩; (try first | exact ⟨rfl, _, World.drewN_drewN _ _ _⟩ | exact ⟨rfl, _, Eq.trans (World.drewN_drewN _ _ _) (congrArg (World.drewN _) (Nat.add_assoc _ _ _))⟩)) | (go_at_call 82; (with_reducible refine (impl_commonDivisor.calls k2 qe a0_1 qg _ A16.out).mono ?_); rintro e w' ⟨rfl, ⟨nd, rfl⟩⟩; (try first | exact ⟨rfl, _, World.drewN_drewN _ _ _⟩ | exact ⟨rfl, _, Eq.trans (World.drewN_drewN _ _ _) (congrArg (World.drewN _) (Nat.add_assoc _ _ _))⟩))); try go_wp2_with (first | (go_at_call 83; (with_reducible refine (impl_divisorOf.calls k2 _ _ l0_0 qe _ ?side1 ?side2 A15.out).mono ?_); (case side1 => exact cb_ qh HB); (case side2 => exact qk.out); rintro e w' ⟨rfl, ⟨nd, rfl⟩⟩; (try first | exact ⟨rfl, _, World.drewN_drewN _ _ _⟩ | exact ⟨rfl, _, Eq.trans (World.drewN_drewN _ _ _) (congrArg (World.drewN _) (Nat.add_assoc _ _ _))⟩)) | (go_at_call 82; (with_reducible refine (impl_commonDivisor.calls k2 qe a0_1 qg _ A16.out).mono ?_); rintro e w' ⟨rfl, ⟨nd, rfl⟩⟩; (try first | exact ⟨rfl, _, World.drewN_drewN _ _ _⟩ | exact ⟨rfl, _, Eq.trans (World.drewN_drewN _ _ _) (congrArg (World.drewN _) (Nat.add_assoc _ _ _))⟩))))
       go_ret
       exact ⟨by first | rfl | (simp [errW_none, errW_some] <;> rfl) | (simp [*, errW_none, errW_some] <;> rfl), bb_ HB⟩

/-! ### impl_GcdOf: function 86 -/
def impl_GcdOf.f (k : Nat) (a0 : Int) (a1 : Int) : Option (Int) := (impl_IsNumber.f a0).bind fun qc => (if qc = true then ((impl_IsNumber.f a1).bind fun qb => (if qb = true then ((impl_commonDivisor.f k a0 a1).bind fun qa => (some qa)) else (some 0))) else (some 0))
theorem impl_GcdOf.mono : ∀ a0 a1 k, LeO (impl_GcdOf.f k a0 a1) (impl_GcdOf.f (k + 1) a0 a1) := by
 intro a0 a1 k
 unfold impl_GcdOf.f
 repeat' first
   | (with_reducible exact impl_commonDivisor.mono _ _ _)
   | (with_reducible exact LeO.refl _)
   | (with_reducible exact LeO.none _)
   | (with_reducible refine LeO.ite ?_ ?_)
   | (with_reducible refine LeO.bind ?_ (fun _ => ?_))
   | exact impl_commonDivisor.mono _ _ _
   | exact LeO.none _
   | refine LeO.ite ?_ ?_
   | refine LeO.bind ?_ (fun _ => ?_)
set_option maxHeartbeats 8000000 in
set_option maxRecDepth 100000 in
theorem impl_GcdOf.calls (k : Nat) (a0 : Int) (a1 : Int) (r : Int) (w : World) (h : impl_GcdOf.f k a0 a1 = some r) :
  Calls Try.prog 86 #[.int .i64 a0, .int .i64 a1] w fun e w' => e = .returned (.int .i64 r) ∧ Drawn0 w w' := by
 have H : ((impl_IsNumber.f a0).bind fun qc => (if qc = true then ((impl_IsNumber.f a1).bind fun qb => (if qb = true then ((impl_commonDivisor.f k a0 a1).bind fun qa => (some qa)) else (some 0))) else (some 0))) = some r := h
 clear h
 replace H := Option.bind_eq_some_iff.mp H
 obtain ⟨qc, A30, H⟩ := H
 replace H : (if qc = true then ((impl_IsNumber.f a1).bind fun qb => (if qb = true then ((impl_commonDivisor.f k a0 a1).bind fun qa => (some qa)) else (some 0))) else (some 0)) = some r := H
 have A3 := Aside0.mk A30
 clear A30
 by_cases c4 : qc = true
 ·
  subst c4
  have H1 : ((impl_IsNumber.f a1).bind fun qb => (if qb = true then ((impl_commonDivisor.f k a0 a1).bind fun qa => (some qa)) else (some 0))) = some r := by rw [if_pos rfl] at H; exact H
  clear H
  have H := H1
  clear H1
  replace H := Option.bind_eq_some_iff.mp H
  obtain ⟨qb, A50, H⟩ := H
  replace H : (if qb = true then ((impl_commonDivisor.f k a0 a1).bind fun qa => (some qa)) else (some 0)) = some r := H
  have A5 := Aside0.mk A50
  clear A50
  by_cases c6 : qb = true
  ·
   subst c6
   have H1 : ((impl_commonDivisor.f k a0 a1).bind fun qa => (some qa)) = some r := by rw [if_pos rfl] at H; exact H
   clear H
   have H := H1
   clear H1
   replace H := Option.bind_eq_some_iff.mp H
   obtain ⟨qa, A70, H⟩ := H
   replace H : (some qa) = some r := H
   have A7 := Aside0.mk A70
   clear A70
   obtain rfl := Option.some.inj H
   go_enter Try.func86, Try.ntmps86
   go_wp2_with (first | ((with_reducible refine gate_callee (f := 58) rfl ?_); refine goesL_ (some 6) rfl rfl Try.func58 (by kernel_rfl) rfl #[.int .i64 a0] rfl (by (try simp only [List.map_toArray, List.map_cons, List.map_nil]); first | done | rfl | (simp only [List.length_drop, List.length_take]; rfl)) ?_; (with_reducible refine (impl_IsNumber.calls a0 true _ A3.out).mono ?_); rintro e w' ⟨rfl, ⟨nd, rfl⟩⟩; refine ⟨_, rfl, ?_⟩) | (go_at_call 58; (with_reducible refine (impl_IsNumber.calls a1 true _ A5.out).mono ?_); rintro e w' ⟨rfl, ⟨nd, rfl⟩⟩) | ((with_reducible refine gate_callee (f := 82) rfl ?_); refine goesL_ (some 15) rfl rfl Try.func82 (by kernel_rfl) rfl #[.int .i64 a0, .int .i64 a1] rfl (by (try simp only [List.map_toArray, List.map_cons, List.map_nil]); first | done | rfl | (simp only [List.length_drop, List.length_take]; rfl)) ?_; (with_reducible refine (impl_commonDivisor.calls k a0 a1 qa _ A7.out).mono ?_); rintro e w' ⟨rfl, ⟨nd, rfl⟩⟩; refine ⟨_, rfl, ?_⟩))
   go_ret
   exact ⟨by first | rfl | (simp; done) | (simp [*]; done), by repeat (first | exact Drawn0.refl _ | apply Drawn0.step)⟩
  ·
   replace c6 := Bool.eq_false_iff.mpr c6
   subst c6
   have H1 : (some 0) = some r := by rw [if_neg (show ¬ (false = true) by decide)] at H; exact H
   clear H
   have H := H1
   clear H1
   obtain rfl := Option.some.inj H
   go_enter Try.func86, Try.ntmps86
   go_wp2_with (first | ((with_reducible refine gate_callee (f := 58) rfl ?_); refine goesL_ (some 6) rfl rfl Try.func58 (by kernel_rfl) rfl #[.int .i64 a0] rfl (by (try simp only [List.map_toArray, List.map_cons, List.map_nil]); first | done | rfl | (simp only [List.length_drop, List.length_take]; rfl)) ?_; (with_reducible refine (impl_IsNumber.calls a0 true _ A3.out).mono ?_); rintro e w' ⟨rfl, ⟨nd, rfl⟩⟩; refine ⟨_, rfl, ?_⟩) | (go_at_call 58; (with_reducible refine (impl_IsNumber.calls a1 false _ A5.out).mono ?_); rintro e w' ⟨rfl, ⟨nd, rfl⟩⟩))
   go_ret
   exact ⟨by first | rfl | (simp; done) | (simp [*]; done), by repeat (first | exact Drawn0.refl _ | apply Drawn0.step)⟩
 ·
  replace c4 := Bool.eq_false_iff.mpr c4
  subst c4
  have H1 : (some 0) = some r := by rw [if_neg (show ¬ (false = true) by decide)] at H; exact H
  clear H
  have H := H1
  clear H1
  obtain rfl := Option.some.inj H
  go_enter Try.func86, Try.ntmps86
  go_wp2_with (first | ((with_reducible refine gate_callee (f := 58) rfl ?_); refine goesL_ (some 6) rfl rfl Try.func58 (by kernel_rfl) rfl #[.int .i64 a0] rfl (by (try simp only [List.map_toArray, List.map_cons, List.map_nil]); first | done | rfl | (simp only [List.length_drop, List.length_take]; rfl)) ?_; (with_reducible refine (impl_IsNumber.calls a0 false _ A3.out).mono ?_); rintro e w' ⟨rfl, ⟨nd, rfl⟩⟩; refine ⟨_, rfl, ?_⟩))
  go_ret
  exact ⟨by first | rfl | (simp; done) | (simp [*]; done), by repeat (first | exact Drawn0.refl _ | apply Drawn0.step)⟩

/-! ### impl_IsRatio: function 70 -/
def impl_IsRatio.f (k : Nat) (a0_0 : Int) (a0_1 : Int) : Option (Bool) := if a0_1 ≥ 1 then (if a0_1 ≤ 400000000 then ((impl_IsNumber.f a0_0).bind fun qd => (if qd = true then ((impl_GcdOf.f k a0_0 a0_1).bind fun qc => (some (qc == 1))) else (some false))) else (some false)) else (some false)
theorem impl_IsRatio.mono : ∀ a0 a1 k, LeO (impl_IsRatio.f k a0 a1) (impl_IsRatio.f (k + 1) a0 a1) := by
 intro a0 a1 k
 unfold impl_IsRatio.f
 repeat' first
   | (with_reducible exact impl_GcdOf.mono _ _ _)
   | (with_reducible exact LeO.refl _)
   | (with_reducible exact LeO.none _)
   | (with_reducible refine LeO.ite ?_ ?_)
   | (with_reducible refine LeO.bind ?_ (fun _ => ?_))
   | exact impl_GcdOf.mono _ _ _
   | exact LeO.none _
   | refine LeO.ite ?_ ?_
   | refine LeO.bind ?_ (fun _ => ?_)
set_option maxHeartbeats 8000000 in
set_option maxRecDepth 100000 in
theorem impl_IsRatio.calls (k : Nat) (a0_0 : Int) (a0_1 : Int) (r : Bool) (w : World) (h : impl_IsRatio.f k a0_0 a0_1 = some r) :
  Calls Try.prog 70 #[.agg #[.int .i64 a0_0, .int .i64 a0_1]] w fun e w' => e = .returned (.bool r) ∧ Below w.heap.size w w' := by
 have hu56 := Try.underlying56
 have HB := Aside0.mk (Below.refl w.heap.size w)
 have H : (if a0_1 ≥ 1 then (if a0_1 ≤ 400000000 then ((impl_IsNumber.f a0_0).bind fun qd => (if qd = true then ((impl_GcdOf.f k a0_0 a0_1).bind fun qc => (some (qc == 1))) else (some false))) else (some false)) else (some false)) = some r := h
 clear h
 by_cases c2 : a0_1 ≥ 1
 ·
  rw [if_pos c2] at H
  have qs : decide (1 ≤ a0_1) = true := decide_eq_true c2
  clear c2
  by_cases c3 : a0_1 ≤ 400000000
  ·
   rw [if_pos c3] at H
   have qt : decide (a0_1 ≤ 400000000) = true := decide_eq_true c3
   clear c3
   replace H := Option.bind_eq_some_iff.mp H
   obtain ⟨qd, A40, H⟩ := H
   replace H : (if qd = true then ((impl_GcdOf.f k a0_0 a0_1).bind fun qc => (some (qc == 1))) else (some false)) = some r := H
   have A4 := Aside0.mk A40
   clear A40
   by_cases c5 : qd = true
   ·
    subst c5
    have H1 : ((impl_GcdOf.f k a0_0 a0_1).bind fun qc => (some (qc == 1))) = some r := by rw [if_pos rfl] at H; exact H
    clear H
    have H := H1
    clear H1
    replace H := Option.bind_eq_some_iff.mp H
    obtain ⟨qc, A60, H⟩ := H
    replace H : (some (qc == 1)) = some r := H
    have A6 := Aside0.mk A60
    clear A60
    obtain rfl := Option.some.inj H
    go_enter Try.func70, Try.ntmps70
    go_wp2_with (first | ((with_reducible refine gate_dst (N := 1) rfl ?_); refine box_event ?hg (N := 1) ?hd (cs := #[.int .i64 a0_0, .int .i64 a0_1]) (t := 56) ?hr ?_; (case hd => rfl); (case hg => rfl); (case hr => first | (go_simp; done) | (go_simp; rfl)); intro qa hg w7 hbox hb; have qb := Aside0.mk (hbox); have qe := Aside0.mk ((by rw [hg]; exact (bz_ HB) : w.heap.size ≤ qa)); have qf := Aside0.mk ((by rw [hg]; exact (bz_ HB) : w.heap.size ≤ qa)); replace HB := bS_ HB hb; clear hb hbox hg; have qu : w7.cell? ⟨qa, 0, none⟩ = some (.int .i64 a0_0) := bc_ qb 0; have qv : w7.cell? ⟨qa, 1, none⟩ = some (.int .i64 a0_1) := bc_ qb 1; have qw := blk_frozen qb.out 0; have qx := blk_frozen qb.out 1) | (go_at_call 58; (with_reducible refine (impl_IsNumber.calls a0_0 true _ A4.out).mono ?_); rintro e w' ⟨rfl, ⟨nd, rfl⟩⟩) | (go_at_call 86; (with_reducible refine (impl_GcdOf.calls k a0_0 a0_1 qc _ A6.out).mono ?_); rintro e w' ⟨rfl, ⟨nd, rfl⟩⟩))
    go_ret
    exact ⟨by first | rfl | (simp [errW_none, errW_some] <;> rfl) | (simp [*, errW_none, errW_some] <;> rfl), bb_ HB⟩
   ·
    replace c5 := Bool.eq_false_iff.mpr c5
    subst c5
    have H1 : (some false) = some r := by rw [if_neg (show ¬ (false = true) by decide)] at H; exact H
    clear H
    have H := H1
    clear H1
    obtain rfl := Option.some.inj H
    go_enter Try.func70, Try.ntmps70
    go_wp2_with (first | ((with_reducible refine gate_dst (N := 1) rfl ?_); refine box_event ?hg (N := 1) ?hd (cs := #[.int .i64 a0_0, .int .i64 a0_1]) (t := 56) ?hr ?_; (case hd => rfl); (case hg => rfl); (case hr => first | (go_simp; done) | (go_simp; rfl)); intro qa hg w9 hbox hb; have qb := Aside0.mk (hbox); have qe := Aside0.mk ((by rw [hg]; exact (bz_ HB) : w.heap.size ≤ qa)); have qf := Aside0.mk ((by rw [hg]; exact (bz_ HB) : w.heap.size ≤ qa)); replace HB := bS_ HB hb; clear hb hbox hg; have qg : w9.cell? ⟨qa, 0, none⟩ = some (.int .i64 a0_0) := bc_ qb 0; have qh : w9.cell? ⟨qa, 1, none⟩ = some (.int .i64 a0_1) := bc_ qb 1; have qi := blk_frozen qb.out 0; have qj := blk_frozen qb.out 1) | (go_at_call 58; (with_reducible refine (impl_IsNumber.calls a0_0 false _ A4.out).mono ?_); rintro e w' ⟨rfl, ⟨nd, rfl⟩⟩))
    go_ret
    exact ⟨by first | rfl | (simp [errW_none, errW_some] <;> rfl) | (simp [*, errW_none, errW_some] <;> rfl), bb_ HB⟩
  ·
   rw [if_neg c3] at H
   have qt : decide (a0_1 ≤ 400000000) = false := decide_eq_false c3
   clear c3
   obtain rfl := Option.some.inj H
   go_enter Try.func70, Try.ntmps70
   go_wp2_with (first | ((with_reducible refine gate_dst (N := 1) rfl ?_); refine box_event ?hg (N := 1) ?hd (cs := #[.int .i64 a0_0, .int .i64 a0_1]) (t := 56) ?hr ?_; (case hd => rfl); (case hg => rfl); (case hr => first | (go_simp; done) | (go_simp; rfl)); intro qa hg qy hbox hb; have qb := Aside0.mk (hbox); have qe := Aside0.mk ((by rw [hg]; exact (bz_ HB) : w.heap.size ≤ qa)); have qf := Aside0.mk ((by rw [hg]; exact (bz_ HB) : w.heap.size ≤ qa)); replace HB := bS_ HB hb; clear hb hbox hg; have qk : qy.cell? ⟨qa, 0, none⟩ = some (.int .i64 a0_0) := bc_ qb 0; have ql : qy.cell? ⟨qa, 1, none⟩ = some (.int .i64 a0_1) := bc_ qb 1; have qm := blk_frozen qb.out 0; have qn := blk_frozen qb.out 1))
   go_ret
   exact ⟨by first | rfl | (simp [errW_none, errW_some] <;> rfl) | (simp [*, errW_none, errW_some] <;> rfl), bb_ HB⟩
 ·
  rw [if_neg c2] at H
  have qs : decide (1 ≤ a0_1) = false := decide_eq_false c2
  clear c2
  obtain rfl := Option.some.inj H
  go_enter Try.func70, Try.ntmps70
  go_wp2_with (first | ((with_reducible refine gate_dst (N := 1) rfl ?_); refine box_event ?hg (N := 1) ?hd (cs := #[.int .i64 a0_0, .int .i64 a0_1]) (t := 56) ?hr ?_; (case hd => rfl); (case hg => rfl); (case hr => first | (go_simp; done) | (go_simp; rfl)); intro qa hg qz hbox hb; have qb := Aside0.mk (hbox); have qe := Aside0.mk ((by rw [hg]; exact (bz_ HB) : w.heap.size ≤ qa)); have qf := Aside0.mk ((by rw [hg]; exact (bz_ HB) : w.heap.size ≤ qa)); replace HB := bS_ HB hb; clear hb hbox hg; have qo : qz.cell? ⟨qa, 0, none⟩ = some (.int .i64 a0_0) := bc_ qb 0; have qp : qz.cell? ⟨qa, 1, none⟩ = some (.int .i64 a0_1) := bc_ qb 1; have qq := blk_frozen qb.out 0; have qr := blk_frozen qb.out 1))
  go_ret
  exact ⟨by first | rfl | (simp [errW_none, errW_some] <;> rfl) | (simp [*, errW_none, errW_some] <;> rfl), bb_ HB⟩

/-! ### impl_IsPoint: function 78 -/
def impl_IsPoint.l0 : Nat → List (S56) → Int → Int → Option (Bool)
 | 0, _, _, _ => none
 | k + 1, x11, x12, x13 => if x13 < x12 then (if 0 ≤ x13 then (if x13 < (x11.length : Int) then ((impl_IsRatio.f k ((rd_T56 x11 x13).f0) ((rd_T56 x11 x13).f1)).bind fun qf => (if qf = true then (impl_IsPoint.l0 k x11 x12 (wrap64 (x13 + 1))) else (some false))) else (none)) else (none)) else (some true)
def impl_IsPoint.f (k : Nat) (l0 : List (S56)) (a1 : Int) : Option (Bool) := if (l0.length : Int) = a1 then (impl_IsPoint.l0 k l0 (l0.length : Int) 0) else (some false)
theorem impl_IsPoint.mono_l : ∀ k, (∀ y0 y1 y2, LeO (impl_IsPoint.l0 k y0 y1 y2) (impl_IsPoint.l0 (k + 1) y0 y1 y2))
 | 0 => fun _ _ _ r h => by simp [impl_IsPoint.l0] at h
 | k + 1 => by
  have ih0 := impl_IsPoint.mono_l k
  ·
   intro y0 y1 y2
   unfold impl_IsPoint.l0
   repeat' first
   | (with_reducible exact ih0 _ _ _)
   | (with_reducible exact impl_IsRatio.mono _ _ _)
   | (with_reducible exact LeO.refl _)
   | (with_reducible exact LeO.none _)
   | (with_reducible refine LeO.ite ?_ ?_)
   | (with_reducible refine LeO.bind ?_ (fun _ => ?_))
   | exact ih0 _ _ _
   | exact impl_IsRatio.mono _ _ _
   | exact LeO.none _
   | refine LeO.ite ?_ ?_
   | refine LeO.bind ?_ (fun _ => ?_)
theorem impl_IsPoint.mono : ∀ a0 a1 k, LeO (impl_IsPoint.f k a0 a1) (impl_IsPoint.f (k + 1) a0 a1) := by
 intro a0 a1 k
 have ih0 := impl_IsPoint.mono_l k
 unfold impl_IsPoint.f
 repeat' first
   | (with_reducible exact ih0 _ _ _)
   | (with_reducible exact impl_IsRatio.mono _ _ _)
   | (with_reducible exact LeO.refl _)
   | (with_reducible exact LeO.none _)
   | (with_reducible refine LeO.ite ?_ ?_)
   | (with_reducible refine LeO.bind ?_ (fun _ => ?_))
   | exact ih0 _ _ _
   | exact impl_IsRatio.mono _ _ _
   | exact LeO.none _
   | refine LeO.ite ?_ ?_
   | refine LeO.bind ?_ (fun _ => ?_)
set_option maxHeartbeats 8000000 in
set_option maxRecDepth 100000 in
theorem impl_IsPoint.calls (k : Nat) (A0 : Option Addr) (c0 : Nat) (l0 : List (S56)) (a1 : Int) (r : Bool) (w : World) (hr0 : Kd.C k56 w A0 l0.length l0) (hc0 : l0.length ≤ c0) (h : impl_IsPoint.f k l0 a1 = some r) :
  Calls Try.prog 78 #[.slice A0 l0.length c0, .int .i64 a1] w fun e w' => e = .returned (.bool r) ∧ Below w.heap.size w w' := by
 have hu56 := Try.underlying56
 have HR0 := Aside0.mk hr0
 have HC0 := Aside0.mk hc0
 clear hr0 hc0
 have HB := Aside0.mk (Below.refl w.heap.size w)
 have H : (if (l0.length : Int) = a1 then (impl_IsPoint.l0 k l0 (l0.length : Int) 0) else (some false)) = some r := h
 clear h
 by_cases c3 : (l0.length : Int) = a1
 ·
  rw [if_pos c3] at H
  have qg : ((l0.length : Int) == a1) = true := beq_iff_eq.mpr c3
  have qh : ((l0.length : Int) != a1) = false := bne_eq_false_iff_eq.mpr c3
  clear c3
  have H' := Aside0.mk H
  clear H
  go_enter Try.func78, Try.ntmps78
  go_wp2
  go_loopg [13] k (fun kq v13 w' => ∃ (qa : Int), v13 = .int .i64 qa ∧ Aside0 (impl_IsPoint.l0 kq l0 (l0.length : Int) qa = some r) ∧ Aside0 (kq ≤ k) ∧ Aside0 (Below w.heap.size w w'))
  case atStart => exact ⟨(0), (by first | rfl | (simp; done) | (simp [*]; done)), H', ⟨Nat.le_refl _⟩, ⟨bb_ HB⟩⟩
  case round =>
   clear H'
   try clear p2
   try clear c3
   try clear qg
   try clear qh
   obtain ⟨qa, rfl, HA, HK1, HB⟩ := hrel
   cases gk with
   | zero => exact absurd HA.out (by simp [impl_IsPoint.l0])
   | succ k1 =>
    have H := HA.out
    clear HA
    simp only [impl_IsPoint.l0] at H
    by_cases c4 : qa < (l0.length : Int)
    ·
     rw [if_pos c4] at H
     have qt : decide (qa < (l0.length : Int)) = true := decide_eq_true c4
     clear c4
     by_cases c5 : 0 ≤ qa
     ·
      rw [if_pos c5] at H
      have qv : decide (0 ≤ qa) = true := decide_eq_true c5
      clear c5
      by_cases c6 : qa < (l0.length : Int)
      ·
       rw [if_pos c6] at H
       have qw : decide (qa < (l0.length : Int)) = true := decide_eq_true c6
       clear c6
       replace H := Option.bind_eq_some_iff.mp H
       obtain ⟨qf, A70, H⟩ := H
       replace H : (if qf = true then (impl_IsPoint.l0 k1 l0 (l0.length : Int) (wrap64 (qa + 1))) else (some false)) = some r := H
       have A7 := Aside0.mk A70
       clear A70
       by_cases c8 : qf = true
       ·
        subst c8
        have H1 : (impl_IsPoint.l0 k1 l0 (l0.length : Int) (wrap64 (qa + 1))) = some r := by rw [if_pos rfl] at H; exact H
        clear H
        have H := H1
        clear H1
        have H' := Aside0.mk H
        clear H
        have p208 : 0 ≤ (qa : Int) := of_decide_eq_true (by first | (with_reducible assumption) | assumption)
        have q208 : qa < (l0.length : Int) := of_decide_eq_true (by first | (with_reducible assumption) | assumption)
        obtain ⟨qi, e208, qc, qd⟩ := at_T56 HR0.out qa p208 q208
        cases e208
        replace qc := (HB.out.cell (World.block_lt_of_cell? w _ qc)).trans qc
        replace qd := (HB.out.cell (World.block_lt_of_cell? w _ qd)).trans qd
        replace p208 := eq_true p208
        replace q208 := eq_true q208
        go_wp2_with (first | ((with_reducible refine gate_dst (N := 6) rfl ?_); refine box_event ?hg (N := 6) ?hd (cs := #[.int .i64 0, .int .i64 0]) (t := 56) ?hr ?_; (case hd => rfl); (case hg => rfl); (case hr => first | (go_simp; done) | (go_simp; rfl)); intro qe hg w9 hbox hb; have qb := Aside0.mk (hbox); have qj := Aside0.mk ((by rw [hg]; exact (bz_ HB) : w.heap.size ≤ qe)); have qk := Aside0.mk ((by rw [hg]; exact (bz_ HB) : w.heap.size ≤ qe)); replace HB := bS_ HB hb; clear hb hbox hg; have ql : w9.cell? ⟨qe, 0, none⟩ = some (.int .i64 0) := bc_ qb 0; have qm : w9.cell? ⟨qe, 1, none⟩ = some (.int .i64 0) := bc_ qb 1; have qn := blk_frozen qb.out 0; have qo := blk_frozen qb.out 1) | ((with_reducible refine gate_callee (f := 70) rfl ?_); refine goesL_ (some 18) rfl rfl Try.func70 (by kernel_rfl) rfl #[.agg #[.int .i64 ((rd_T56 l0 qa).f0), .int .i64 ((rd_T56 l0 qa).f1)]] rfl (by (try simp only [List.map_toArray, List.map_cons, List.map_nil]); first | done | rfl | (simp only [List.length_drop, List.length_take]; rfl)) ?_; (with_reducible refine (impl_IsRatio.calls k1 ((rd_T56 l0 qa).f0) ((rd_T56 l0 qa).f1) true _ A7.out).mono ?_); rintro e qx ⟨rfl, hb⟩; refine ⟨_, rfl, ?_⟩; replace qb := Aside0.mk (blk_below (g := qe) (o := .cells #[.int .i64 ((rd_T56 l0 qa).f0), .int .i64 ((rd_T56 l0 qa).f1)] 56 (0, 0)) (by (with_reducible repeat (first | refine blk_drewN ?_ _ | refine blk_drew ?_ | refine blk_alloc ?_ _)); refine blk_put (cs := #[.int .i64 ((rd_T56 l0 qa).f0), .int .i64 0]) ?_ 1 _ rfl; (with_reducible repeat (first | refine blk_drewN ?_ _ | refine blk_drew ?_ | refine blk_alloc ?_ _)); refine blk_put (cs := #[.int .i64 0, .int .i64 0]) ?_ 0 _ rfl; (with_reducible repeat (first | refine blk_drewN ?_ _ | refine blk_drew ?_ | refine blk_alloc ?_ _)); exact qb.out) hb); replace HB := bS_ HB hb; (try clear hb); (try clear hb2); (try clear hk); (try clear hi)))
        go_roundg k1
        case measure => have := HK1.out; omega
        case rel => exact ⟨(wrap64 (qa + 1)), (by first | rfl | (simp; done) | (simp [*]; done)), H', ⟨by have := HK1.out; omega⟩, ⟨bb_ HB⟩⟩
       ·
        replace c8 := Bool.eq_false_iff.mpr c8
        subst c8
        have H1 : (some false) = some r := by rw [if_neg (show ¬ (false = true) by decide)] at H; exact H
        clear H
        have H := H1
        clear H1
        obtain rfl := Option.some.inj H
        have p208 : 0 ≤ (qa : Int) := of_decide_eq_true (by first | (with_reducible assumption) | assumption)
        have q208 : qa < (l0.length : Int) := of_decide_eq_true (by first | (with_reducible assumption) | assumption)
        obtain ⟨qi, e208, qc, qd⟩ := at_T56 HR0.out qa p208 q208
        cases e208
        replace qc := (HB.out.cell (World.block_lt_of_cell? w _ qc)).trans qc
        replace qd := (HB.out.cell (World.block_lt_of_cell? w _ qd)).trans qd
        replace p208 := eq_true p208
        replace q208 := eq_true q208
        go_wp2_with (first | ((with_reducible refine gate_dst (N := 6) rfl ?_); refine box_event ?hg (N := 6) ?hd (cs := #[.int .i64 0, .int .i64 0]) (t := 56) ?hr ?_; (case hd => rfl); (case hg => rfl); (case hr => first | (go_simp; done) | (go_simp; rfl)); intro qe hg qu hbox hb; have qb := Aside0.mk (hbox); have qj := Aside0.mk ((by rw [hg]; exact (bz_ HB) : w.heap.size ≤ qe)); have qk := Aside0.mk ((by rw [hg]; exact (bz_ HB) : w.heap.size ≤ qe)); replace HB := bS_ HB hb; clear hb hbox hg; have qp : qu.cell? ⟨qe, 0, none⟩ = some (.int .i64 0) := bc_ qb 0; have qq : qu.cell? ⟨qe, 1, none⟩ = some (.int .i64 0) := bc_ qb 1; have qr := blk_frozen qb.out 0; have qs := blk_frozen qb.out 1) | ((with_reducible refine gate_callee (f := 70) rfl ?_); refine goesL_ (some 18) rfl rfl Try.func70 (by kernel_rfl) rfl #[.agg #[.int .i64 ((rd_T56 l0 qa).f0), .int .i64 ((rd_T56 l0 qa).f1)]] rfl (by (try simp only [List.map_toArray, List.map_cons, List.map_nil]); first | done | rfl | (simp only [List.length_drop, List.length_take]; rfl)) ?_; (with_reducible refine (impl_IsRatio.calls k1 ((rd_T56 l0 qa).f0) ((rd_T56 l0 qa).f1) false _ A7.out).mono ?_); rintro e qy ⟨rfl, hb⟩; refine ⟨_, rfl, ?_⟩; replace qb := Aside0.mk (blk_below (g := qe) (o := .cells #[.int .i64 ((rd_T56 l0 qa).f0), .int .i64 ((rd_T56 l0 qa).f1)] 56 (0, 0)) (by (with_reducible repeat (first | refine blk_drewN ?_ _ | refine blk_drew ?_ | refine blk_alloc ?_ _)); refine blk_put (cs := #[.int .i64 ((rd_T56 l0 qa).f0), .int .i64 0]) ?_ 1 _ rfl; (with_reducible repeat (first | refine blk_drewN ?_ _ | refine blk_drew ?_ | refine blk_alloc ?_ _)); refine blk_put (cs := #[.int .i64 0, .int .i64 0]) ?_ 0 _ rfl; (with_reducible repeat (first | refine blk_drewN ?_ _ | refine blk_drew ?_ | refine blk_alloc ?_ _)); exact qb.out) hb); replace HB := bS_ HB hb; (try clear hb); (try clear hb2); (try clear hk); (try clear hi)))
        go_ret
        exact ⟨by first | rfl | (simp [errW_none, errW_some] <;> rfl) | (simp [*, errW_none, errW_some] <;> rfl), bb_ HB⟩
      ·
       rw [if_neg c6] at H
       exact absurd H (by simp)
     ·
      rw [if_neg c5] at H
      exact absurd H (by simp)
    ·
     rw [if_neg c4] at H
     have qt : decide (qa < (l0.length : Int)) = false := decide_eq_false c4
     clear c4
     obtain rfl := Option.some.inj H
     go_wp2
     go_ret
     exact ⟨by first | rfl | (simp [errW_none, errW_some] <;> rfl) | (simp [*, errW_none, errW_some] <;> rfl), bb_ HB⟩
 ·
  rw [if_neg c3] at H
  have qg : ((l0.length : Int) == a1) = false := beq_eq_false_iff_ne.mpr c3
  have qh : ((l0.length : Int) != a1) = true := bne_iff_ne.mpr c3
  obtain rfl := Option.some.inj H
  go_enter Try.func78, Try.ntmps78
  go_wp2
  go_ret
  exact ⟨by first | rfl | (simp [errW_none, errW_some] <;> rfl) | (simp [*, errW_none, errW_some] <;> rfl), bb_ HB⟩

/-! ### impl_reducedRatio: function 88 -/
def impl_reducedRatio.j0 : Nat → Int → Int → Option (Int × Int)
 | 0, _, _ => none
 | k + 1, x0, x1 => (impl_commonDivisor.f k x0 x1).bind fun qb => (if qb = 0 then (none) else ((impl_IsRatio.f k (wrap64 (Int.tdiv x0 qb)) (wrap64 (Int.tdiv x1 qb))).bind fun qj => (if qj = true then (some (wrap64 (Int.tdiv x0 qb), wrap64 (Int.tdiv x1 qb))) else (some (0, 0)))))
def impl_reducedRatio.f (k : Nat) (a0 : Int) (a1 : Int) : Option (Int × Int) := if a1 = 0 then (some (0, 0)) else (if a1 < 0 then (impl_reducedRatio.j0 k (wrap64 (-a0)) (wrap64 (-a1))) else (impl_reducedRatio.j0 k a0 a1))
theorem impl_reducedRatio.mono_l : ∀ k, (∀ y0 y1, LeO (impl_reducedRatio.j0 k y0 y1) (impl_reducedRatio.j0 (k + 1) y0 y1))
 | 0 => fun _ _ r h => by simp [impl_reducedRatio.j0] at h
 | k + 1 => by
  have ih0 := impl_reducedRatio.mono_l k
  ·
   intro y0 y1
   unfold impl_reducedRatio.j0
   repeat' first
   | (with_reducible exact ih0 _ _)
   | (with_reducible exact impl_IsRatio.mono _ _ _)
   | (with_reducible exact impl_commonDivisor.mono _ _ _)
   | (with_reducible exact LeO.refl _)
   | (with_reducible exact LeO.none _)
   | (with_reducible refine LeO.ite ?_ ?_)
   | (with_reducible refine LeO.bind ?_ (fun _ => ?_))
   | exact ih0 _ _
   | exact impl_IsRatio.mono _ _ _
   | exact impl_commonDivisor.mono _ _ _
   | exact LeO.none _
   | refine LeO.ite ?_ ?_
   | refine LeO.bind ?_ (fun _ => ?_)
theorem impl_reducedRatio.mono : ∀ a0 a1 k, LeO (impl_reducedRatio.f k a0 a1) (impl_reducedRatio.f (k + 1) a0 a1) := by
 intro a0 a1 k
 have ih0 := impl_reducedRatio.mono_l k
 unfold impl_reducedRatio.f
 repeat' first
   | (with_reducible exact ih0 _ _)
   | (with_reducible exact impl_IsRatio.mono _ _ _)
   | (with_reducible exact impl_commonDivisor.mono _ _ _)
   | (with_reducible exact LeO.refl _)
   | (with_reducible exact LeO.none _)
   | (with_reducible refine LeO.ite ?_ ?_)
   | (with_reducible refine LeO.bind ?_ (fun _ => ?_))
   | exact ih0 _ _
   | exact impl_IsRatio.mono _ _ _
   | exact impl_commonDivisor.mono _ _ _
   | exact LeO.none _
   | refine LeO.ite ?_ ?_
   | refine LeO.bind ?_ (fun _ => ?_)
def impl_reducedRatio.T6 : Bool × List (List Nat × List Nat) := (true, [([], []), ([], []), ([0, 1], [0, 1]), ([], []), ([], []), ([3, 4], [3, 4]), ([2, 5], [2, 5]), ([], []), ([7, 6, 0, 1, 2, 3, 4, 5, 6, 7], [6, 7])])
def impl_reducedRatio.B6 : List Nat := [0, 0, 3, 0, 0, 24, 63, 0, 255]
theorem impl_reducedRatio.tab6 : rtab .any (opsOf Try.f88 6) = impl_reducedRatio.T6 := by kernel_rfl
theorem impl_reducedRatio.bits6 : waitsOk impl_reducedRatio.T6.2 impl_reducedRatio.B6 = true := by kernel_rfl
set_option maxHeartbeats 8000000 in
set_option maxRecDepth 100000 in
theorem impl_reducedRatio.calls (k : Nat) (a0 : Int) (a1 : Int) (r1 : Int) (r2 : Int) (w : World) (h : impl_reducedRatio.f k a0 a1 = some (r1, r2)) :
  Calls Try.prog 88 #[.int .i64 a0, .int .i64 a1] w fun e w' => e = .returned (.agg #[.int .i64 r1, .int .i64 r2]) ∧ Below w.heap.size w w' := by
 have hu56 := Try.underlying56
 have HB := Aside0.mk (Below.refl w.heap.size w)
 have H : (if a1 = 0 then (some (0, 0)) else (if a1 < 0 then (impl_reducedRatio.j0 k (wrap64 (-a0)) (wrap64 (-a1))) else (impl_reducedRatio.j0 k a0 a1))) = some (r1, r2) := h
 clear h
 by_cases c3 : a1 = 0
 ·
  rw [if_pos c3] at H
  have qp : (a1 == 0) = true := beq_iff_eq.mpr c3
  have qq : (a1 != 0) = false := bne_eq_false_iff_eq.mpr c3
  clear c3
  simp only [Option.some.injEq, Prod.mk.injEq] at H
  obtain ⟨rfl, rfl⟩ := H
  go_enter Try.func88, Try.ntmps88
  go_wp2_with (first | ((with_reducible refine gate_dst (N := 4) rfl ?_); refine box_event ?hg (N := 4) ?hd (cs := #[.int .i64 0, .int .i64 0]) (t := 56) ?hr ?_; (case hd => rfl); (case hg => rfl); (case hr => first | (go_simp; done) | (go_simp; rfl)); intro qd hg w4 hbox hb; have qa := Aside0.mk (hbox); have qr := Aside0.mk ((by rw [hg]; exact (bz_ HB) : w.heap.size ≤ qd)); have qs := Aside0.mk ((by rw [hg]; exact (bz_ HB) : w.heap.size ≤ qd)); replace HB := bS_ HB hb; clear hb hbox hg; have ql : w4.cell? ⟨qd, 0, none⟩ = some (.int .i64 0) := bc_ qa 0; have qm : w4.cell? ⟨qd, 1, none⟩ = some (.int .i64 0) := bc_ qa 1; have qn := blk_frozen qa.out 0; have qo := blk_frozen qa.out 1))
  refine bodyPost_ret (results_cell_row rfl _ _ qd 56 #[.int .i64 0, .int .i64 0] (0, 0) _ rfl (by (with_reducible repeat (first | refine blk_drewN ?_ _ | refine blk_drew ?_ | refine blk_alloc ?_ _)); refine blk_put (cs := #[.int .i64 0, .int .i64 0]) ?_ 1 _ rfl; (with_reducible repeat (first | refine blk_drewN ?_ _ | refine blk_drew ?_ | refine blk_alloc ?_ _)); refine blk_put (cs := #[.int .i64 0, .int .i64 0]) ?_ 0 _ rfl; (with_reducible repeat (first | refine blk_drewN ?_ _ | refine blk_drew ?_ | refine blk_alloc ?_ _)); exact qa.out) Try.underlying56 rfl (by kernel_rfl)) rfl ?_
  exact ⟨by first | rfl | (simp [errW_none, errW_some] <;> rfl) | (simp [*, errW_none, errW_some] <;> rfl), bb_ HB⟩
 ·
  rw [if_neg c3] at H
  have qp : (a1 == 0) = false := beq_eq_false_iff_ne.mpr c3
  have qq : (a1 != 0) = true := bne_iff_ne.mpr c3
  have HC6 := Aside0.mk H
  clear H
  go_enter Try.func88, Try.ntmps88
  go_upto_if 11 with (first | ((with_reducible refine gate_dst (N := 4) rfl ?_); refine box_event ?hg (N := 4) ?hd (cs := #[.int .i64 0, .int .i64 0]) (t := 56) ?hr ?_; (case hd => rfl); (case hg => rfl); (case hr => first | (go_simp; done) | (go_simp; rfl)); intro qd hg w7 hbox hb; have qa := Aside0.mk (hbox); have qr := Aside0.mk ((by rw [hg]; exact (bz_ HB) : w.heap.size ≤ qd)); have qs := Aside0.mk ((by rw [hg]; exact (bz_ HB) : w.heap.size ≤ qd)); replace HB := bS_ HB hb; clear hb hbox hg))
  (try simp only [Act.put, List.setIfInBounds_toArray, List.set_cons_zero, List.set_cons_succ])
  go_cut [0, 1] (fun v0 v1 wc => ∃ (kq : Nat) (qh : Int) (qi : Int), v0 = .int .i64 qh ∧ v1 = .int .i64 qi ∧ Aside0 (impl_reducedRatio.j0 kq qh qi = some (r1, r2)) ∧ Aside0 (kq ≤ k) ∧ Aside0 (wc.heap[qd]? = some (.cells #[.int .i64 0, .int .i64 0] 56 (0, 0))) ∧ Aside0 (Below w.heap.size w wc))
  case first =>
   have H := HC6.out
   clear HC6
   by_cases c8 : a1 < 0
   ·
    rw [if_pos c8] at H
    have qk : decide (a1 < 0) = true := decide_eq_true c8
    clear c8
    (first | rw [qk] | (simp only [i64_w, i32_w]; rw [qk]) | skip)
    have H' := Aside0.mk H
    clear H
    go_wp2
    go_meet
    case rel => exact ⟨_, (wrap64 (-a0)), (wrap64 (-a1)), (by first | rfl | (simp; done) | (simp [*]; done)), (by first | rfl | (simp; done) | (simp [*]; done)), H', ⟨by first | omega | exact Nat.le_refl _⟩, ⟨kf_ qa⟩, ⟨bb_ HB⟩⟩
   ·
    rw [if_neg c8] at H
    have qk : decide (a1 < 0) = false := decide_eq_false c8
    clear c8
    (first | rw [qk] | (simp only [i64_w, i32_w]; rw [qk]) | skip)
    have H' := Aside0.mk H
    clear H
    go_wp2
    go_meet
    case rel => exact ⟨_, (a0), (a1), (by first | rfl | (simp; done) | (simp [*]; done)), (by first | rfl | (simp; done) | (simp [*]; done)), H', ⟨by first | omega | exact Nat.le_refl _⟩, ⟨kf_ qa⟩, ⟨bb_ HB⟩⟩
  case rest =>
   clear HC6
   try clear p2
   try clear c3
   try clear qp
   try clear qq
   try clear p6
   try clear c8
   try clear qk
   try clear ql
   try clear qm
   try clear qn
   try clear qo
   obtain ⟨kq, qh, qi, rfl, rfl, HA, HJ5, qa, HB⟩ := hcut
   cases kq with
   | zero => exact absurd HA.out (by simp [impl_reducedRatio.j0])
   | succ kj5 =>
    have H := HA.out
    clear HA
    simp only [impl_reducedRatio.j0] at H
    replace H := Option.bind_eq_some_iff.mp H
    obtain ⟨qb, A90, H⟩ := H
    replace H : (if qb = 0 then (none) else ((impl_IsRatio.f kj5 (wrap64 (Int.tdiv qh qb)) (wrap64 (Int.tdiv qi qb))).bind fun qj => (if qj = true then (some (wrap64 (Int.tdiv qh qb), wrap64 (Int.tdiv qi qb))) else (some (0, 0))))) = some (r1, r2) := H
    have A9 := Aside0.mk A90
    clear A90
    by_cases c10 : qb = 0
    ·
     rw [if_pos c10] at H
     exact absurd H (by simp)
    ·
     rw [if_neg c10] at H
     have qS : (qb == 0) = false := beq_eq_false_iff_ne.mpr c10
     have qT : (qb != 0) = true := bne_iff_ne.mpr c10
     replace H := Option.bind_eq_some_iff.mp H
     obtain ⟨qj, A110, H⟩ := H
     replace H : (if qj = true then (some (wrap64 (Int.tdiv qh qb), wrap64 (Int.tdiv qi qb))) else (some (0, 0))) = some (r1, r2) := H
     have A11 := Aside0.mk A110
     clear A110
     by_cases c12 : qj = true
     ·
      subst c12
      have H1 : (some (wrap64 (Int.tdiv qh qb), wrap64 (Int.tdiv qi qb))) = some (r1, r2) := by rw [if_pos rfl] at H; exact H
      clear H
      have H := H1
      clear H1
      simp only [Option.some.injEq, Prod.mk.injEq] at H
      obtain ⟨rfl, rfl⟩ := H
      try go_wp2_with (first | ((with_reducible refine gate_callee (f := 82) rfl ?_); refine goesL_ (some 18) rfl rfl Try.func82 (by kernel_rfl) rfl #[.int .i64 qh, .int .i64 qi] rfl (by (try simp only [List.map_toArray, List.map_cons, List.map_nil]); first | done | rfl | (simp only [List.length_drop, List.length_take]; rfl)) ?_; (with_reducible refine (impl_commonDivisor.calls kj5 qh qi qb _ A9.out).mono ?_); rintro e w' ⟨rfl, ⟨nd, rfl⟩⟩; refine ⟨_, rfl, ?_⟩; (try (rw [drewN_self wc]; generalize hq_ : World.drewN wc _ = wc; have n0_ : Aside0 (wc.heap[qd]? = some (.cells #[.int .i64 0, .int .i64 0] 56 (0, 0))) := ⟨by rw [← hq_]; exact (kf_ qa)⟩; have n1_ : Aside0 (Below w.heap.size w wc) := ⟨by rw [← hq_]; exact (bb_ HB)⟩; clear qa HB hq_; have qa := n0_; have HB := n1_; clear n0_ n1_))))
      replace qa := Aside0.mk (blk_drew qa.out); replace HB := Aside0.mk (below_drew1 HB.out)
      refine start_ (n := 9) (S := fun w' => True) (ds := []) #[false, false, false, false, false, false, false, false, false] (by kernel_rfl) rfl rfl trivial (fun hHeld => ?_); refine with_tabW impl_reducedRatio.tab6 impl_reducedRatio.bits6 (fun HT_ HW_ => ?_)
      generalize wc.drew = qZ at qa HB hHeld ⊢
      refine pure_ (i := 0) (N := some 19) (v := ?_) (a' := ?_) #[true, false, false, false, false, false, false, false, false] rfl rfl (any_of HT_.out (by kernel_rfl)) (fun _ _ _ h => h) (Or.inl ⟨by rfl, ?_⟩) ?_ ?_
      rotate_left
      ·
       intro w'
       go_simp
       with_reducible rfl
      rotate_left
      ·
       simp only [Act.put, List.setIfInBounds_toArray, List.set_cons_zero, List.set_cons_succ, i64_w, i32_w]
       rfl
      refine pure_ (i := 1) (N := some 20) (v := ?_) (a' := ?_) #[true, true, false, false, false, false, false, false, false] rfl rfl (any_of HT_.out (by kernel_rfl)) (fun _ _ _ h => h) (Or.inl ⟨by rfl, ?_⟩) ?_ ?_
      rotate_left
      ·
       intro w'
       go_simp
       with_reducible rfl
      rotate_left
      ·
       simp only [Act.put, List.setIfInBounds_toArray, List.set_cons_zero, List.set_cons_succ, i64_w, i32_w]
       rfl
      refine pure_ (i := 2) (N := some 21) (v := ?_) (a' := ?_) #[true, true, true, false, false, false, false, false, false] rfl rfl (any_of HT_.out (by kernel_rfl)) (fun _ _ _ h => h) (Or.inl ⟨by rfl, ?_⟩) ?_ ?_
      rotate_left
      ·
       intro w'
       go_simp
       with_reducible rfl
      rotate_left
      ·
       simp only [Act.put, List.setIfInBounds_toArray, List.set_cons_zero, List.set_cons_succ, i64_w, i32_w]
       rfl
      refine pure_ (i := 3) (N := some 22) (v := ?_) (a' := ?_) #[true, true, true, true, false, false, false, false, false] rfl rfl (any_of HT_.out (by kernel_rfl)) (fun _ _ _ h => h) (Or.inl ⟨by rfl, ?_⟩) ?_ ?_
      rotate_left
      ·
       intro w'
       go_simp
       with_reducible rfl
      rotate_left
      ·
       simp only [Act.put, List.setIfInBounds_toArray, List.set_cons_zero, List.set_cons_succ, i64_w, i32_w]
       rfl
      refine pure_ (i := 4) (N := some 23) (v := ?_) (a' := ?_) #[true, true, true, true, true, false, false, false, false] rfl rfl (any_of HT_.out (by kernel_rfl)) (fun _ _ _ h => h) (Or.inl ⟨by rfl, ?_⟩) ?_ ?_
      rotate_left
      ·
       intro w'
       go_simp
       with_reducible rfl
      rotate_left
      ·
       simp only [Act.put, List.setIfInBounds_toArray, List.set_cons_zero, List.set_cons_succ, i64_w, i32_w]
       rfl
      refine pure_ (i := 5) (N := some 24) (v := ?_) (a' := ?_) #[true, true, true, true, true, true, false, false, false] rfl rfl (any_of HT_.out (by kernel_rfl)) (fun _ _ _ h => h) (Or.inl ⟨by rfl, ?_⟩) ?_ ?_
      rotate_left
      ·
       intro w'
       go_simp
       with_reducible rfl
      rotate_left
      ·
       simp only [Act.put, List.setIfInBounds_toArray, List.set_cons_zero, List.set_cons_succ, i64_w, i32_w]
       rfl
      refine pure_ (i := 6) (N := some 25) (v := ?_) (a' := ?_) #[true, true, true, true, true, true, true, false, false] rfl rfl (any_of HT_.out (by kernel_rfl)) (fun _ _ _ h => h) (Or.inl ⟨by rfl, ?_⟩) ?_ ?_
      rotate_left
      ·
       intro w'
       go_simp
       with_reducible rfl
      rotate_left
      ·
       simp only [Act.put, List.setIfInBounds_toArray, List.set_cons_zero, List.set_cons_succ, i64_w, i32_w]
       rfl
      refine one_ (i := 7) (N := some 6) #[true, true, true, true, true, true, true, true, false] rfl rfl (one_of HT_.out (by kernel_rfl)) (by decide) (fun K hK => ?_)
      refine box_step ?hg (N := 6) ?hd (cs := #[.int .i64 0, .int .i64 0]) (t := 56) ?hr ?_; (case hd => rfl); (case hg => rfl); (case hr => first | (go_simp; done) | (go_simp; rfl))
      intro qe hg qv hbox hb
      have qc := Aside0.mk (hbox); have qt := Aside0.mk ((by rw [hg]; exact (bz_ HB) : w.heap.size ≤ qe)); have qu := Aside0.mk ((by rw [hg]; exact (bz_ HB) : w.heap.size ≤ qe)); replace HB := bS_ HB hb; have qf := Aside0.mk ((nl_ qa hg : qd ≠ qe)); have qg := Aside0.mk ((ng_ qa hg : qe ≠ qd)); replace qa := kB_ qa hb; clear hb hbox hg
      refine hK.out _ _ trivial (fun hHeld => ?_)
      clear hK K
      refine norm_ (a' := ?_) ?_ ?_
      rotate_left
      ·
       show Act.put _ (some 6) _ = _
       simp only [Act.put, List.setIfInBounds_toArray, List.set_cons_zero, List.set_cons_succ, i64_w, i32_w]
       rfl
      refine one_ (i := 8) (N := none) #[true, true, true, true, true, true, true, true, true] rfl rfl (one_of HT_.out (by kernel_rfl)) (by decide) (fun K hK => ?_)
      have hs15 : qv.cell? ⟨qe, 0, none⟩ = some (.int .i64 0) := bc_ qc 0
      have hfs15 := blk_frozen qc.out 0
      have hns15_0 := qf.out
      have hms15_0 := qg.out
      have hs16 : qv.cell? ⟨qe, 1, none⟩ = some (.int .i64 0) := bc_ qc 1
      have hfs16 := blk_frozen qc.out 1
      have hns16_0 := qf.out
      have hms16_0 := qg.out
      refine skip_ (w1 := ?_) (by rfl) rfl ?_ ?_
      rotate_left
      ·
       go_simp
       rfl
      refine hK.out _ _ trivial (fun hHeld => ?_)
      clear hK K
      refine done_ (done_of HT_.out (by kernel_rfl)) ?_
      have qU := qg.out
      have qV := qf.out
      have qw : qv.cell? ⟨qe, 0, none⟩ = some (.int .i64 0) := bc_ qc 0
      have qx : qv.cell? ⟨qe, 1, none⟩ = some (.int .i64 0) := bc_ qc 1
      have qy := blk_frozen qc.out 0
      have qz := blk_frozen qc.out 1
      try go_wp2_with (first | ((with_reducible refine gate_callee (f := 70) rfl ?_); refine goesL_ (some 27) rfl rfl Try.func70 (by kernel_rfl) rfl #[.agg #[.int .i64 (wrap64 (Int.tdiv qh qb)), .int .i64 (wrap64 (Int.tdiv qi qb))]] rfl (by (try simp only [List.map_toArray, List.map_cons, List.map_nil]); first | done | rfl | (simp only [List.length_drop, List.length_take]; rfl)) ?_; (with_reducible refine (impl_IsRatio.calls kj5 (wrap64 (Int.tdiv qh qb)) (wrap64 (Int.tdiv qi qb)) true _ A11.out).mono ?_); rintro e qA ⟨rfl, hb⟩; refine ⟨_, rfl, ?_⟩; replace qa := Aside0.mk (blk_below (g := qd) (o := .cells #[.int .i64 0, .int .i64 0] 56 (0, 0)) (kf_ qa) hb); replace qc := Aside0.mk (blk_below (g := qe) (o := .cells #[.int .i64 (wrap64 (Int.tdiv qh qb)), .int .i64 (wrap64 (Int.tdiv qi qb))] 56 (0, 0)) (by (with_reducible repeat (first | refine blk_drewN ?_ _ | refine blk_drew ?_ | refine blk_alloc ?_ _)); refine blk_put (cs := #[.int .i64 (wrap64 (Int.tdiv qh qb)), .int .i64 0]) ?_ 1 _ rfl; (with_reducible repeat (first | refine blk_drewN ?_ _ | refine blk_drew ?_ | refine blk_alloc ?_ _)); refine blk_put (cs := #[.int .i64 0, .int .i64 0]) ?_ 0 _ rfl; (with_reducible repeat (first | refine blk_drewN ?_ _ | refine blk_drew ?_ | refine blk_alloc ?_ _)); exact qc.out) hb); replace HB := bS_ HB hb; (try clear hb); (try clear hb2); (try clear hk); (try clear hi); have qB : qA.cell? ⟨qe, 0, none⟩ = some (.int .i64 (wrap64 (Int.tdiv qh qb))) := bc_ qc 0; have qC : qA.cell? ⟨qe, 1, none⟩ = some (.int .i64 (wrap64 (Int.tdiv qi qb))) := bc_ qc 1; have qD := blk_frozen qc.out 0; have qE := blk_frozen qc.out 1; have qF : qA.cell? ⟨qd, 0, none⟩ = some (.int .i64 0) := bc_ qa 0; have qG : qA.cell? ⟨qd, 1, none⟩ = some (.int .i64 0) := bc_ qa 1; have qH := blk_frozen qa.out 0; have qI := blk_frozen qa.out 1))
      refine bodyPost_ret (results_cell_row rfl _ _ qd 56 #[.int .i64 (wrap64 (Int.tdiv qh qb)), .int .i64 (wrap64 (Int.tdiv qi qb))] (0, 0) _ rfl (by (with_reducible repeat (first | refine blk_drewN ?_ _ | refine blk_drew ?_ | refine blk_alloc ?_ _)); refine blk_put (cs := #[.int .i64 (wrap64 (Int.tdiv qh qb)), .int .i64 0]) ?_ 1 _ rfl; (with_reducible repeat (first | refine blk_drewN ?_ _ | refine blk_drew ?_ | refine blk_alloc ?_ _)); refine blk_put (cs := #[.int .i64 0, .int .i64 0]) ?_ 0 _ rfl; (with_reducible repeat (first | refine blk_drewN ?_ _ | refine blk_drew ?_ | refine blk_alloc ?_ _)); exact qa.out) Try.underlying56 rfl (by kernel_rfl)) rfl ?_
      exact ⟨by first | rfl | (simp [errW_none, errW_some] <;> rfl) | (simp [*, errW_none, errW_some] <;> rfl), bb_ HB⟩
     ·
      replace c12 := Bool.eq_false_iff.mpr c12
      subst c12
      have H1 : (some (0, 0)) = some (r1, r2) := by rw [if_neg (show ¬ (false = true) by decide)] at H; exact H
      clear H
      have H := H1
      clear H1
      simp only [Option.some.injEq, Prod.mk.injEq] at H
      obtain ⟨rfl, rfl⟩ := H
      try go_wp2_with (first | ((with_reducible refine gate_callee (f := 82) rfl ?_); refine goesL_ (some 18) rfl rfl Try.func82 (by kernel_rfl) rfl #[.int .i64 qh, .int .i64 qi] rfl (by (try simp only [List.map_toArray, List.map_cons, List.map_nil]); first | done | rfl | (simp only [List.length_drop, List.length_take]; rfl)) ?_; (with_reducible refine (impl_commonDivisor.calls kj5 qh qi qb _ A9.out).mono ?_); rintro e w' ⟨rfl, ⟨nd, rfl⟩⟩; refine ⟨_, rfl, ?_⟩; (try (rw [drewN_self wc]; generalize hq_ : World.drewN wc _ = wc; have n0_ : Aside0 (wc.heap[qd]? = some (.cells #[.int .i64 0, .int .i64 0] 56 (0, 0))) := ⟨by rw [← hq_]; exact (kf_ qa)⟩; have n1_ : Aside0 (Below w.heap.size w wc) := ⟨by rw [← hq_]; exact (bb_ HB)⟩; clear qa HB hq_; have qa := n0_; have HB := n1_; clear n0_ n1_))))
      replace qa := Aside0.mk (blk_drew qa.out); replace HB := Aside0.mk (below_drew1 HB.out)
      refine start_ (n := 9) (S := fun w' => True) (ds := []) #[false, false, false, false, false, false, false, false, false] (by kernel_rfl) rfl rfl trivial (fun hHeld => ?_); refine with_tabW impl_reducedRatio.tab6 impl_reducedRatio.bits6 (fun HT_ HW_ => ?_)
      generalize wc.drew = q0 at qa HB hHeld ⊢
      refine pure_ (i := 0) (N := some 19) (v := ?_) (a' := ?_) #[true, false, false, false, false, false, false, false, false] rfl rfl (any_of HT_.out (by kernel_rfl)) (fun _ _ _ h => h) (Or.inl ⟨by rfl, ?_⟩) ?_ ?_
      rotate_left
      ·
       intro w'
       go_simp
       with_reducible rfl
      rotate_left
      ·
       simp only [Act.put, List.setIfInBounds_toArray, List.set_cons_zero, List.set_cons_succ, i64_w, i32_w]
       rfl
      refine pure_ (i := 1) (N := some 20) (v := ?_) (a' := ?_) #[true, true, false, false, false, false, false, false, false] rfl rfl (any_of HT_.out (by kernel_rfl)) (fun _ _ _ h => h) (Or.inl ⟨by rfl, ?_⟩) ?_ ?_
      rotate_left
      ·
       intro w'
       go_simp
       with_reducible rfl
      rotate_left
      ·
       simp only [Act.put, List.setIfInBounds_toArray, List.set_cons_zero, List.set_cons_succ, i64_w, i32_w]
       rfl
      refine pure_ (i := 2) (N := some 21) (v := ?_) (a' := ?_) #[true, true, true, false, false, false, false, false, false] rfl rfl (any_of HT_.out (by kernel_rfl)) (fun _ _ _ h => h) (Or.inl ⟨by rfl, ?_⟩) ?_ ?_
      rotate_left
      ·
       intro w'
       go_simp
       with_reducible rfl
      rotate_left
      ·
       simp only [Act.put, List.setIfInBounds_toArray, List.set_cons_zero, List.set_cons_succ, i64_w, i32_w]
       rfl
      refine pure_ (i := 3) (N := some 22) (v := ?_) (a' := ?_) #[true, true, true, true, false, false, false, false, false] rfl rfl (any_of HT_.out (by kernel_rfl)) (fun _ _ _ h => h) (Or.inl ⟨by rfl, ?_⟩) ?_ ?_
      rotate_left
      ·
       intro w'
       go_simp
       with_reducible rfl
      rotate_left
      ·
       simp only [Act.put, List.setIfInBounds_toArray, List.set_cons_zero, List.set_cons_succ, i64_w, i32_w]
       rfl
      refine pure_ (i := 4) (N := some 23) (v := ?_) (a' := ?_) #[true, true, true, true, true, false, false, false, false] rfl rfl (any_of HT_.out (by kernel_rfl)) (fun _ _ _ h => h) (Or.inl ⟨by rfl, ?_⟩) ?_ ?_
      rotate_left
      ·
       intro w'
       go_simp
       with_reducible rfl
      rotate_left
      ·
       simp only [Act.put, List.setIfInBounds_toArray, List.set_cons_zero, List.set_cons_succ, i64_w, i32_w]
       rfl
      refine pure_ (i := 5) (N := some 24) (v := ?_) (a' := ?_) #[true, true, true, true, true, true, false, false, false] rfl rfl (any_of HT_.out (by kernel_rfl)) (fun _ _ _ h => h) (Or.inl ⟨by rfl, ?_⟩) ?_ ?_
      rotate_left
      ·
       intro w'
       go_simp
       with_reducible rfl
      rotate_left
      ·
       simp only [Act.put, List.setIfInBounds_toArray, List.set_cons_zero, List.set_cons_succ, i64_w, i32_w]
       rfl
      refine pure_ (i := 6) (N := some 25) (v := ?_) (a' := ?_) #[true, true, true, true, true, true, true, false, false] rfl rfl (any_of HT_.out (by kernel_rfl)) (fun _ _ _ h => h) (Or.inl ⟨by rfl, ?_⟩) ?_ ?_
      rotate_left
      ·
       intro w'
       go_simp
       with_reducible rfl
      rotate_left
      ·
       simp only [Act.put, List.setIfInBounds_toArray, List.set_cons_zero, List.set_cons_succ, i64_w, i32_w]
       rfl
      refine one_ (i := 7) (N := some 6) #[true, true, true, true, true, true, true, true, false] rfl rfl (one_of HT_.out (by kernel_rfl)) (by decide) (fun K hK => ?_)
      refine box_step ?hg (N := 6) ?hd (cs := #[.int .i64 0, .int .i64 0]) (t := 56) ?hr ?_; (case hd => rfl); (case hg => rfl); (case hr => first | (go_simp; done) | (go_simp; rfl))
      intro qe hg qJ hbox hb
      have qc := Aside0.mk (hbox); have qt := Aside0.mk ((by rw [hg]; exact (bz_ HB) : w.heap.size ≤ qe)); have qu := Aside0.mk ((by rw [hg]; exact (bz_ HB) : w.heap.size ≤ qe)); replace HB := bS_ HB hb; have qf := Aside0.mk ((nl_ qa hg : qd ≠ qe)); have qg := Aside0.mk ((ng_ qa hg : qe ≠ qd)); replace qa := kB_ qa hb; clear hb hbox hg
      refine hK.out _ _ trivial (fun hHeld => ?_)
      clear hK K
      refine norm_ (a' := ?_) ?_ ?_
      rotate_left
      ·
       show Act.put _ (some 6) _ = _
       simp only [Act.put, List.setIfInBounds_toArray, List.set_cons_zero, List.set_cons_succ, i64_w, i32_w]
       rfl
      refine one_ (i := 8) (N := none) #[true, true, true, true, true, true, true, true, true] rfl rfl (one_of HT_.out (by kernel_rfl)) (by decide) (fun K hK => ?_)
      have hs24 : qJ.cell? ⟨qe, 0, none⟩ = some (.int .i64 0) := bc_ qc 0
      have hfs24 := blk_frozen qc.out 0
      have hns24_0 := qf.out
      have hms24_0 := qg.out
      have hs25 : qJ.cell? ⟨qe, 1, none⟩ = some (.int .i64 0) := bc_ qc 1
      have hfs25 := blk_frozen qc.out 1
      have hns25_0 := qf.out
      have hms25_0 := qg.out
      refine skip_ (w1 := ?_) (by rfl) rfl ?_ ?_
      rotate_left
      ·
       go_simp
       rfl
      refine hK.out _ _ trivial (fun hHeld => ?_)
      clear hK K
      refine done_ (done_of HT_.out (by kernel_rfl)) ?_
      have qW := qg.out
      have qX := qf.out
      have qK : qJ.cell? ⟨qe, 0, none⟩ = some (.int .i64 0) := bc_ qc 0
      have qL : qJ.cell? ⟨qe, 1, none⟩ = some (.int .i64 0) := bc_ qc 1
      have qM := blk_frozen qc.out 0
      have qN := blk_frozen qc.out 1
      try go_wp2_with (first | ((with_reducible refine gate_callee (f := 70) rfl ?_); refine goesL_ (some 27) rfl rfl Try.func70 (by kernel_rfl) rfl #[.agg #[.int .i64 (wrap64 (Int.tdiv qh qb)), .int .i64 (wrap64 (Int.tdiv qi qb))]] rfl (by (try simp only [List.map_toArray, List.map_cons, List.map_nil]); first | done | rfl | (simp only [List.length_drop, List.length_take]; rfl)) ?_; (with_reducible refine (impl_IsRatio.calls kj5 (wrap64 (Int.tdiv qh qb)) (wrap64 (Int.tdiv qi qb)) false _ A11.out).mono ?_); rintro e qY ⟨rfl, hb⟩; refine ⟨_, rfl, ?_⟩; replace qa := Aside0.mk (blk_below (g := qd) (o := .cells #[.int .i64 0, .int .i64 0] 56 (0, 0)) (kf_ qa) hb); replace qc := Aside0.mk (blk_below (g := qe) (o := .cells #[.int .i64 (wrap64 (Int.tdiv qh qb)), .int .i64 (wrap64 (Int.tdiv qi qb))] 56 (0, 0)) (by (with_reducible repeat (first | refine blk_drewN ?_ _ | refine blk_drew ?_ | refine blk_alloc ?_ _)); refine blk_put (cs := #[.int .i64 (wrap64 (Int.tdiv qh qb)), .int .i64 0]) ?_ 1 _ rfl; (with_reducible repeat (first | refine blk_drewN ?_ _ | refine blk_drew ?_ | refine blk_alloc ?_ _)); refine blk_put (cs := #[.int .i64 0, .int .i64 0]) ?_ 0 _ rfl; (with_reducible repeat (first | refine blk_drewN ?_ _ | refine blk_drew ?_ | refine blk_alloc ?_ _)); exact qc.out) hb); replace HB := bS_ HB hb; (try clear hb); (try clear hb2); (try clear hk); (try clear hi); have qO : qY.cell? ⟨qd, 0, none⟩ = some (.int .i64 0) := bc_ qa 0; have qP : qY.cell? ⟨qd, 1, none⟩ = some (.int .i64 0) := bc_ qa 1; have qQ := blk_frozen qa.out 0; have qR := blk_frozen qa.out 1))
      refine bodyPost_ret (results_cell_row rfl _ _ qd 56 #[.int .i64 0, .int .i64 0] (0, 0) _ rfl (by (with_reducible repeat (first | refine blk_drewN ?_ _ | refine blk_drew ?_ | refine blk_alloc ?_ _)); refine blk_put (cs := #[.int .i64 0, .int .i64 0]) ?_ 1 _ rfl; (with_reducible repeat (first | refine blk_drewN ?_ _ | refine blk_drew ?_ | refine blk_alloc ?_ _)); refine blk_put (cs := #[.int .i64 0, .int .i64 0]) ?_ 0 _ rfl; (with_reducible repeat (first | refine blk_drewN ?_ _ | refine blk_drew ?_ | refine blk_alloc ?_ _)); exact qa.out) Try.underlying56 rfl (by kernel_rfl)) rfl ?_
      exact ⟨by first | rfl | (simp [errW_none, errW_some] <;> rfl) | (simp [*, errW_none, errW_some] <;> rfl), bb_ HB⟩

/-! ### impl_AddRatios: function 79 -/
def impl_AddRatios.f (k : Nat) (a0_0 : Int) (a0_1 : Int) (a1_0 : Int) (a1_1 : Int) : Option (Int × Int) := (impl_IsRatio.f k a0_0 a0_1).bind fun qo => (if qo = true then ((impl_IsRatio.f k a1_0 a1_1).bind fun qn => (if qn = true then ((impl_reducedRatio.f k (wrap64 ((wrap64 (a0_0 * a1_1)) + (wrap64 (a1_0 * a0_1)))) (wrap64 (a0_1 * a1_1))).bind fun qg => (some (qg.1, qg.2))) else (some (0, 0)))) else (some (0, 0)))
theorem impl_AddRatios.mono : ∀ a0 a1 a2 a3 k, LeO (impl_AddRatios.f k a0 a1 a2 a3) (impl_AddRatios.f (k + 1) a0 a1 a2 a3) := by
 intro a0 a1 a2 a3 k
 unfold impl_AddRatios.f
 repeat' first
   | (with_reducible exact impl_IsRatio.mono _ _ _)
   | (with_reducible exact impl_reducedRatio.mono _ _ _)
   | (with_reducible exact LeO.refl _)
   | (with_reducible exact LeO.none _)
   | (with_reducible refine LeO.ite ?_ ?_)
   | (with_reducible refine LeO.bind ?_ (fun _ => ?_))
   | exact impl_IsRatio.mono _ _ _
   | exact impl_reducedRatio.mono _ _ _
   | exact LeO.none _
   | refine LeO.ite ?_ ?_
   | refine LeO.bind ?_ (fun _ => ?_)
set_option maxHeartbeats 8000000 in
set_option maxRecDepth 100000 in
theorem impl_AddRatios.calls (k : Nat) (a0_0 : Int) (a0_1 : Int) (a1_0 : Int) (a1_1 : Int) (r1 : Int) (r2 : Int) (w : World) (h : impl_AddRatios.f k a0_0 a0_1 a1_0 a1_1 = some (r1, r2)) :
  Calls Try.prog 79 #[.agg #[.int .i64 a0_0, .int .i64 a0_1], .agg #[.int .i64 a1_0, .int .i64 a1_1]] w fun e w' => e = .returned (.agg #[.int .i64 r1, .int .i64 r2]) ∧ Below w.heap.size w w' := by
 have hu56 := Try.underlying56
 have HB := Aside0.mk (Below.refl w.heap.size w)
 have H : ((impl_IsRatio.f k a0_0 a0_1).bind fun qo => (if qo = true then ((impl_IsRatio.f k a1_0 a1_1).bind fun qn => (if qn = true then ((impl_reducedRatio.f k (wrap64 ((wrap64 (a0_0 * a1_1)) + (wrap64 (a1_0 * a0_1)))) (wrap64 (a0_1 * a1_1))).bind fun qg => (some (qg.1, qg.2))) else (some (0, 0)))) else (some (0, 0)))) = some (r1, r2) := h
 clear h
 replace H := Option.bind_eq_some_iff.mp H
 obtain ⟨qo, A30, H⟩ := H
 replace H : (if qo = true then ((impl_IsRatio.f k a1_0 a1_1).bind fun qn => (if qn = true then ((impl_reducedRatio.f k (wrap64 ((wrap64 (a0_0 * a1_1)) + (wrap64 (a1_0 * a0_1)))) (wrap64 (a0_1 * a1_1))).bind fun qg => (some (qg.1, qg.2))) else (some (0, 0)))) else (some (0, 0))) = some (r1, r2) := H
 have A3 := Aside0.mk A30
 clear A30
 by_cases c4 : qo = true
 ·
  subst c4
  have H1 : ((impl_IsRatio.f k a1_0 a1_1).bind fun qn => (if qn = true then ((impl_reducedRatio.f k (wrap64 ((wrap64 (a0_0 * a1_1)) + (wrap64 (a1_0 * a0_1)))) (wrap64 (a0_1 * a1_1))).bind fun qg => (some (qg.1, qg.2))) else (some (0, 0)))) = some (r1, r2) := by rw [if_pos rfl] at H; exact H
  clear H
  have H := H1
  clear H1
  replace H := Option.bind_eq_some_iff.mp H
  obtain ⟨qn, A50, H⟩ := H
  replace H : (if qn = true then ((impl_reducedRatio.f k (wrap64 ((wrap64 (a0_0 * a1_1)) + (wrap64 (a1_0 * a0_1)))) (wrap64 (a0_1 * a1_1))).bind fun qg => (some (qg.1, qg.2))) else (some (0, 0))) = some (r1, r2) := H
  have A5 := Aside0.mk A50
  clear A50
  by_cases c6 : qn = true
  ·
   subst c6
   have H1 : ((impl_reducedRatio.f k (wrap64 ((wrap64 (a0_0 * a1_1)) + (wrap64 (a1_0 * a0_1)))) (wrap64 (a0_1 * a1_1))).bind fun qg => (some (qg.1, qg.2))) = some (r1, r2) := by rw [if_pos rfl] at H; exact H
   clear H
   have H := H1
   clear H1
   replace H := Option.bind_eq_some_iff.mp H
   obtain ⟨⟨qp, qw⟩, A70, H⟩ := H
   replace H : (some (qp, qw)) = some (r1, r2) := H
   have A7 := Aside0.mk A70
   clear A70
   simp only [Option.some.injEq, Prod.mk.injEq] at H
   obtain ⟨rfl, rfl⟩ := H
   go_enter Try.func79, Try.ntmps79
   go_wp2_with (first | ((with_reducible refine gate_dst (N := 2) rfl ?_); refine box_event ?hg (N := 2) ?hd (cs := #[.int .i64 a0_0, .int .i64 a0_1]) (t := 56) ?hr ?_; (case hd => rfl); (case hg => rfl); (case hr => first | (go_simp; done) | (go_simp; rfl)); intro qe hg w8 hbox hb; have qa := Aside0.mk (hbox); have qq := Aside0.mk ((by rw [hg]; exact (bz_ HB) : w.heap.size ≤ qe)); have qr := Aside0.mk ((by rw [hg]; exact (bz_ HB) : w.heap.size ≤ qe)); replace HB := bS_ HB hb; clear hb hbox hg) | ((with_reducible refine gate_dst (N := 3) rfl ?_); refine box_event ?hg (N := 3) ?hd (cs := #[.int .i64 a1_0, .int .i64 a1_1]) (t := 56) ?hr ?_; (case hd => rfl); (case hg => rfl); (case hr => first | (go_simp; done) | (go_simp; rfl)); intro qf hg w9 hbox hb; have qb := Aside0.mk (hbox); have qs := Aside0.mk ((by rw [hg]; exact (bz_ HB) : w.heap.size ≤ qf)); have qt := Aside0.mk ((by rw [hg]; exact (bz_ HB) : w.heap.size ≤ qf)); replace HB := bS_ HB hb; have qh := Aside0.mk ((nl_ qa hg : qe ≠ qf)); have qi := Aside0.mk ((ng_ qa hg : qf ≠ qe)); replace qa := kB_ qa hb; clear hb hbox hg) | ((with_reducible refine gate_dst (N := 4) rfl ?_); refine box_event ?hg (N := 4) ?hd (cs := #[.int .i64 0, .int .i64 0]) (t := 56) ?hr ?_; (case hd => rfl); (case hg => rfl); (case hr => first | (go_simp; done) | (go_simp; rfl)); intro qc hg zc hbox hb; have qd := Aside0.mk (hbox); have qu := Aside0.mk ((by rw [hg]; exact (bz_ HB) : w.heap.size ≤ qc)); have qv := Aside0.mk ((by rw [hg]; exact (bz_ HB) : w.heap.size ≤ qc)); replace HB := bS_ HB hb; have qj := Aside0.mk ((nl_ qa hg : qe ≠ qc)); have qk := Aside0.mk ((ng_ qa hg : qc ≠ qe)); replace qa := kB_ qa hb; have ql := Aside0.mk ((nl_ qb hg : qf ≠ qc)); have qm := Aside0.mk ((ng_ qb hg : qc ≠ qf)); replace qb := kB_ qb hb; clear hb hbox hg; have zd := qh.out; have ze := qi.out; have zf := qj.out; have zg := qk.out; have qx : zc.cell? ⟨qe, 0, none⟩ = some (.int .i64 a0_0) := bc_ qa 0; have qy : zc.cell? ⟨qe, 1, none⟩ = some (.int .i64 a0_1) := bc_ qa 1; have qz := blk_frozen qa.out 0; have qA := blk_frozen qa.out 1) | ((with_reducible refine gate_callee (f := 70) rfl ?_); refine goesL_ (some 6) rfl rfl Try.func70 (by kernel_rfl) rfl #[.agg #[.int .i64 a0_0, .int .i64 a0_1]] rfl (by (try simp only [List.map_toArray, List.map_cons, List.map_nil]); first | done | rfl | (simp only [List.length_drop, List.length_take]; rfl)) ?_; (with_reducible refine (impl_IsRatio.calls k a0_0 a0_1 true _ A3.out).mono ?_); rintro e zh ⟨rfl, hb⟩; refine ⟨_, rfl, ?_⟩; replace qa := kB_ qa hb; replace qb := kB_ qb hb; replace qd := kB_ qd hb; replace HB := bS_ HB hb; (try clear hb); (try clear hb2); (try clear hk); (try clear hi); have zi := ql.out; have zj := qm.out; have qB : zh.cell? ⟨qf, 0, none⟩ = some (.int .i64 a1_0) := bc_ qb 0; have qC : zh.cell? ⟨qf, 1, none⟩ = some (.int .i64 a1_1) := bc_ qb 1; have qD := blk_frozen qb.out 0; have qE := blk_frozen qb.out 1) | (go_at_call 70; (with_reducible refine (impl_IsRatio.calls k a1_0 a1_1 true _ A5.out).mono ?_); rintro e qF ⟨rfl, hb⟩; replace qa := kB_ qa hb; replace qb := kB_ qb hb; replace qd := kB_ qd hb; replace HB := bS_ HB hb; (try clear hb); (try clear hb2); (try clear hk); (try clear hi); have qG : qF.cell? ⟨qe, 0, none⟩ = some (.int .i64 a0_0) := bc_ qa 0; have qH : qF.cell? ⟨qe, 1, none⟩ = some (.int .i64 a0_1) := bc_ qa 1; have qI := blk_frozen qa.out 0; have qJ := blk_frozen qa.out 1; have qK : qF.cell? ⟨qf, 0, none⟩ = some (.int .i64 a1_0) := bc_ qb 0; have qL : qF.cell? ⟨qf, 1, none⟩ = some (.int .i64 a1_1) := bc_ qb 1; have qM := blk_frozen qb.out 0; have qN := blk_frozen qb.out 1) | ((with_reducible refine gate_callee (f := 88) rfl ?_); refine goesL_ (some 30) rfl rfl Try.func88 (by kernel_rfl) rfl #[.int .i64 (wrap64 ((wrap64 (a0_0 * a1_1)) + (wrap64 (a1_0 * a0_1)))), .int .i64 (wrap64 (a0_1 * a1_1))] rfl (by (try simp only [List.map_toArray, List.map_cons, List.map_nil]); first | done | rfl | (simp only [List.length_drop, List.length_take]; rfl)) ?_; (with_reducible refine (impl_reducedRatio.calls k (wrap64 ((wrap64 (a0_0 * a1_1)) + (wrap64 (a1_0 * a0_1)))) (wrap64 (a0_1 * a1_1)) qp qw _ A7.out).mono ?_); rintro e zk ⟨rfl, hb⟩; refine ⟨_, rfl, ?_⟩; replace qa := kB_ qa hb; replace qb := kB_ qb hb; replace qd := kB_ qd hb; replace HB := bS_ HB hb; (try clear hb); (try clear hb2); (try clear hk); (try clear hi); have qO : zk.cell? ⟨qc, 0, none⟩ = some (.int .i64 0) := bc_ qd 0; have qP : zk.cell? ⟨qc, 1, none⟩ = some (.int .i64 0) := bc_ qd 1; have qQ := blk_frozen qd.out 0; have qR := blk_frozen qd.out 1))
   refine bodyPost_ret (results_cell_row rfl _ _ qc 56 #[.int .i64 qp, .int .i64 qw] (0, 0) _ rfl (by (with_reducible repeat (first | refine blk_drewN ?_ _ | refine blk_drew ?_ | refine blk_alloc ?_ _)); refine blk_put (cs := #[.int .i64 qp, .int .i64 0]) ?_ 1 _ rfl; (with_reducible repeat (first | refine blk_drewN ?_ _ | refine blk_drew ?_ | refine blk_alloc ?_ _)); refine blk_put (cs := #[.int .i64 0, .int .i64 0]) ?_ 0 _ rfl; (with_reducible repeat (first | refine blk_drewN ?_ _ | refine blk_drew ?_ | refine blk_alloc ?_ _)); exact qd.out) Try.underlying56 rfl (by kernel_rfl)) rfl ?_
   exact ⟨by first | rfl | (simp [errW_none, errW_some] <;> rfl) | (simp [*, errW_none, errW_some] <;> rfl), bb_ HB⟩
  ·
   replace c6 := Bool.eq_false_iff.mpr c6
   subst c6
   have H1 : (some (0, 0)) = some (r1, r2) := by rw [if_neg (show ¬ (false = true) by decide)] at H; exact H
   clear H
   have H := H1
   clear H1
   simp only [Option.some.injEq, Prod.mk.injEq] at H
   obtain ⟨rfl, rfl⟩ := H
   go_enter Try.func79, Try.ntmps79
   go_wp2_with (first | ((with_reducible refine gate_dst (N := 2) rfl ?_); refine box_event ?hg (N := 2) ?hd (cs := #[.int .i64 a0_0, .int .i64 a0_1]) (t := 56) ?hr ?_; (case hd => rfl); (case hg => rfl); (case hr => first | (go_simp; done) | (go_simp; rfl)); intro qe hg zC hbox hb; have qa := Aside0.mk (hbox); have qq := Aside0.mk ((by rw [hg]; exact (bz_ HB) : w.heap.size ≤ qe)); have qr := Aside0.mk ((by rw [hg]; exact (bz_ HB) : w.heap.size ≤ qe)); replace HB := bS_ HB hb; clear hb hbox hg) | ((with_reducible refine gate_dst (N := 3) rfl ?_); refine box_event ?hg (N := 3) ?hd (cs := #[.int .i64 a1_0, .int .i64 a1_1]) (t := 56) ?hr ?_; (case hd => rfl); (case hg => rfl); (case hr => first | (go_simp; done) | (go_simp; rfl)); intro qf hg zD hbox hb; have qb := Aside0.mk (hbox); have qs := Aside0.mk ((by rw [hg]; exact (bz_ HB) : w.heap.size ≤ qf)); have qt := Aside0.mk ((by rw [hg]; exact (bz_ HB) : w.heap.size ≤ qf)); replace HB := bS_ HB hb; have qh := Aside0.mk ((nl_ qa hg : qe ≠ qf)); have qi := Aside0.mk ((ng_ qa hg : qf ≠ qe)); replace qa := kB_ qa hb; clear hb hbox hg) | ((with_reducible refine gate_dst (N := 4) rfl ?_); refine box_event ?hg (N := 4) ?hd (cs := #[.int .i64 0, .int .i64 0]) (t := 56) ?hr ?_; (case hd => rfl); (case hg => rfl); (case hr => first | (go_simp; done) | (go_simp; rfl)); intro qc hg zl hbox hb; have qd := Aside0.mk (hbox); have qu := Aside0.mk ((by rw [hg]; exact (bz_ HB) : w.heap.size ≤ qc)); have qv := Aside0.mk ((by rw [hg]; exact (bz_ HB) : w.heap.size ≤ qc)); replace HB := bS_ HB hb; have qj := Aside0.mk ((nl_ qa hg : qe ≠ qc)); have qk := Aside0.mk ((ng_ qa hg : qc ≠ qe)); replace qa := kB_ qa hb; have ql := Aside0.mk ((nl_ qb hg : qf ≠ qc)); have qm := Aside0.mk ((ng_ qb hg : qc ≠ qf)); replace qb := kB_ qb hb; clear hb hbox hg; have zm := qh.out; have zn := qi.out; have zo := qj.out; have zp := qk.out; have qS : zl.cell? ⟨qe, 0, none⟩ = some (.int .i64 a0_0) := bc_ qa 0; have qT : zl.cell? ⟨qe, 1, none⟩ = some (.int .i64 a0_1) := bc_ qa 1; have qU := blk_frozen qa.out 0; have qV := blk_frozen qa.out 1) | ((with_reducible refine gate_callee (f := 70) rfl ?_); refine goesL_ (some 6) rfl rfl Try.func70 (by kernel_rfl) rfl #[.agg #[.int .i64 a0_0, .int .i64 a0_1]] rfl (by (try simp only [List.map_toArray, List.map_cons, List.map_nil]); first | done | rfl | (simp only [List.length_drop, List.length_take]; rfl)) ?_; (with_reducible refine (impl_IsRatio.calls k a0_0 a0_1 true _ A3.out).mono ?_); rintro e zq ⟨rfl, hb⟩; refine ⟨_, rfl, ?_⟩; replace qa := kB_ qa hb; replace qb := kB_ qb hb; replace qd := kB_ qd hb; replace HB := bS_ HB hb; (try clear hb); (try clear hb2); (try clear hk); (try clear hi); have zr := ql.out; have zs := qm.out; have qW : zq.cell? ⟨qf, 0, none⟩ = some (.int .i64 a1_0) := bc_ qb 0; have qX : zq.cell? ⟨qf, 1, none⟩ = some (.int .i64 a1_1) := bc_ qb 1; have qY := blk_frozen qb.out 0; have qZ := blk_frozen qb.out 1) | (go_at_call 70; (with_reducible refine (impl_IsRatio.calls k a1_0 a1_1 false _ A5.out).mono ?_); rintro e zt ⟨rfl, hb⟩; replace qa := kB_ qa hb; replace qb := kB_ qb hb; replace qd := kB_ qd hb; replace HB := bS_ HB hb; (try clear hb); (try clear hb2); (try clear hk); (try clear hi); have q0 : zt.cell? ⟨qc, 0, none⟩ = some (.int .i64 0) := bc_ qd 0; have q1 : zt.cell? ⟨qc, 1, none⟩ = some (.int .i64 0) := bc_ qd 1; have q2 := blk_frozen qd.out 0; have q3 := blk_frozen qd.out 1))
   refine bodyPost_ret (results_cell_row rfl _ _ qc 56 #[.int .i64 0, .int .i64 0] (0, 0) _ rfl (by (with_reducible repeat (first | refine blk_drewN ?_ _ | refine blk_drew ?_ | refine blk_alloc ?_ _)); refine blk_put (cs := #[.int .i64 0, .int .i64 0]) ?_ 1 _ rfl; (with_reducible repeat (first | refine blk_drewN ?_ _ | refine blk_drew ?_ | refine blk_alloc ?_ _)); refine blk_put (cs := #[.int .i64 0, .int .i64 0]) ?_ 0 _ rfl; (with_reducible repeat (first | refine blk_drewN ?_ _ | refine blk_drew ?_ | refine blk_alloc ?_ _)); exact qd.out) Try.underlying56 rfl (by kernel_rfl)) rfl ?_
   exact ⟨by first | rfl | (simp [errW_none, errW_some] <;> rfl) | (simp [*, errW_none, errW_some] <;> rfl), bb_ HB⟩
 ·
  replace c4 := Bool.eq_false_iff.mpr c4
  subst c4
  have H1 : (some (0, 0)) = some (r1, r2) := by rw [if_neg (show ¬ (false = true) by decide)] at H; exact H
  clear H
  have H := H1
  clear H1
  simp only [Option.some.injEq, Prod.mk.injEq] at H
  obtain ⟨rfl, rfl⟩ := H
  go_enter Try.func79, Try.ntmps79
  go_wp2_with (first | ((with_reducible refine gate_dst (N := 2) rfl ?_); refine box_event ?hg (N := 2) ?hd (cs := #[.int .i64 a0_0, .int .i64 a0_1]) (t := 56) ?hr ?_; (case hd => rfl); (case hg => rfl); (case hr => first | (go_simp; done) | (go_simp; rfl)); intro qe hg zE hbox hb; have qa := Aside0.mk (hbox); have qq := Aside0.mk ((by rw [hg]; exact (bz_ HB) : w.heap.size ≤ qe)); have qr := Aside0.mk ((by rw [hg]; exact (bz_ HB) : w.heap.size ≤ qe)); replace HB := bS_ HB hb; clear hb hbox hg) | ((with_reducible refine gate_dst (N := 3) rfl ?_); refine box_event ?hg (N := 3) ?hd (cs := #[.int .i64 a1_0, .int .i64 a1_1]) (t := 56) ?hr ?_; (case hd => rfl); (case hg => rfl); (case hr => first | (go_simp; done) | (go_simp; rfl)); intro qf hg zF hbox hb; have qb := Aside0.mk (hbox); have qs := Aside0.mk ((by rw [hg]; exact (bz_ HB) : w.heap.size ≤ qf)); have qt := Aside0.mk ((by rw [hg]; exact (bz_ HB) : w.heap.size ≤ qf)); replace HB := bS_ HB hb; have qh := Aside0.mk ((nl_ qa hg : qe ≠ qf)); have qi := Aside0.mk ((ng_ qa hg : qf ≠ qe)); replace qa := kB_ qa hb; clear hb hbox hg) | ((with_reducible refine gate_dst (N := 4) rfl ?_); refine box_event ?hg (N := 4) ?hd (cs := #[.int .i64 0, .int .i64 0]) (t := 56) ?hr ?_; (case hd => rfl); (case hg => rfl); (case hr => first | (go_simp; done) | (go_simp; rfl)); intro qc hg zu hbox hb; have qd := Aside0.mk (hbox); have qu := Aside0.mk ((by rw [hg]; exact (bz_ HB) : w.heap.size ≤ qc)); have qv := Aside0.mk ((by rw [hg]; exact (bz_ HB) : w.heap.size ≤ qc)); replace HB := bS_ HB hb; have qj := Aside0.mk ((nl_ qa hg : qe ≠ qc)); have qk := Aside0.mk ((ng_ qa hg : qc ≠ qe)); replace qa := kB_ qa hb; have ql := Aside0.mk ((nl_ qb hg : qf ≠ qc)); have qm := Aside0.mk ((ng_ qb hg : qc ≠ qf)); replace qb := kB_ qb hb; clear hb hbox hg; have zv := qh.out; have zw := qi.out; have zx := qj.out; have zy := qk.out; have q4 : zu.cell? ⟨qe, 0, none⟩ = some (.int .i64 a0_0) := bc_ qa 0; have q5 : zu.cell? ⟨qe, 1, none⟩ = some (.int .i64 a0_1) := bc_ qa 1; have q6 := blk_frozen qa.out 0; have q7 := blk_frozen qa.out 1) | ((with_reducible refine gate_callee (f := 70) rfl ?_); refine goesL_ (some 6) rfl rfl Try.func70 (by kernel_rfl) rfl #[.agg #[.int .i64 a0_0, .int .i64 a0_1]] rfl (by (try simp only [List.map_toArray, List.map_cons, List.map_nil]); first | done | rfl | (simp only [List.length_drop, List.length_take]; rfl)) ?_; (with_reducible refine (impl_IsRatio.calls k a0_0 a0_1 false _ A3.out).mono ?_); rintro e zz ⟨rfl, hb⟩; refine ⟨_, rfl, ?_⟩; replace qa := kB_ qa hb; replace qb := kB_ qb hb; replace qd := kB_ qd hb; replace HB := bS_ HB hb; (try clear hb); (try clear hb2); (try clear hk); (try clear hi); have zA := qm.out; have zB := ql.out; have q8 : zz.cell? ⟨qc, 0, none⟩ = some (.int .i64 0) := bc_ qd 0; have q9 : zz.cell? ⟨qc, 1, none⟩ = some (.int .i64 0) := bc_ qd 1; have za := blk_frozen qd.out 0; have zb := blk_frozen qd.out 1))
  refine bodyPost_ret (results_cell_row rfl _ _ qc 56 #[.int .i64 0, .int .i64 0] (0, 0) _ rfl (by (with_reducible repeat (first | refine blk_drewN ?_ _ | refine blk_drew ?_ | refine blk_alloc ?_ _)); refine blk_put (cs := #[.int .i64 0, .int .i64 0]) ?_ 1 _ rfl; (with_reducible repeat (first | refine blk_drewN ?_ _ | refine blk_drew ?_ | refine blk_alloc ?_ _)); refine blk_put (cs := #[.int .i64 0, .int .i64 0]) ?_ 0 _ rfl; (with_reducible repeat (first | refine blk_drewN ?_ _ | refine blk_drew ?_ | refine blk_alloc ?_ _)); exact qd.out) Try.underlying56 rfl (by kernel_rfl)) rfl ?_
  exact ⟨by first | rfl | (simp [errW_none, errW_some] <;> rfl) | (simp [*, errW_none, errW_some] <;> rfl), bb_ HB⟩

/-! ### impl_MultiplyRatios: function 80 -/
def impl_MultiplyRatios.f (k : Nat) (a0_0 : Int) (a0_1 : Int) (a1_0 : Int) (a1_1 : Int) : Option (Int × Int) := (impl_IsRatio.f k a0_0 a0_1).bind fun qo => (if qo = true then ((impl_IsRatio.f k a1_0 a1_1).bind fun qn => (if qn = true then ((impl_reducedRatio.f k (wrap64 (a0_0 * a1_0)) (wrap64 (a0_1 * a1_1))).bind fun qg => (some (qg.1, qg.2))) else (some (0, 0)))) else (some (0, 0)))
theorem impl_MultiplyRatios.mono : ∀ a0 a1 a2 a3 k, LeO (impl_MultiplyRatios.f k a0 a1 a2 a3) (impl_MultiplyRatios.f (k + 1) a0 a1 a2 a3) := by
 intro a0 a1 a2 a3 k
 unfold impl_MultiplyRatios.f
 repeat' first
   | (with_reducible exact impl_IsRatio.mono _ _ _)
   | (with_reducible exact impl_reducedRatio.mono _ _ _)
   | (with_reducible exact LeO.refl _)
   | (with_reducible exact LeO.none _)
   | (with_reducible refine LeO.ite ?_ ?_)
   | (with_reducible refine LeO.bind ?_ (fun _ => ?_))
   | exact impl_IsRatio.mono _ _ _
   | exact impl_reducedRatio.mono _ _ _
   | exact LeO.none _
   | refine LeO.ite ?_ ?_
   | refine LeO.bind ?_ (fun _ => ?_)
set_option maxHeartbeats 8000000 in
set_option maxRecDepth 100000 in
theorem impl_MultiplyRatios.calls (k : Nat) (a0_0 : Int) (a0_1 : Int) (a1_0 : Int) (a1_1 : Int) (r1 : Int) (r2 : Int) (w : World) (h : impl_MultiplyRatios.f k a0_0 a0_1 a1_0 a1_1 = some (r1, r2)) :
  Calls Try.prog 80 #[.agg #[.int .i64 a0_0, .int .i64 a0_1], .agg #[.int .i64 a1_0, .int .i64 a1_1]] w fun e w' => e = .returned (.agg #[.int .i64 r1, .int .i64 r2]) ∧ Below w.heap.size w w' := by
 have hu56 := Try.underlying56
 have HB := Aside0.mk (Below.refl w.heap.size w)
 have H : ((impl_IsRatio.f k a0_0 a0_1).bind fun qo => (if qo = true then ((impl_IsRatio.f k a1_0 a1_1).bind fun qn => (if qn = true then ((impl_reducedRatio.f k (wrap64 (a0_0 * a1_0)) (wrap64 (a0_1 * a1_1))).bind fun qg => (some (qg.1, qg.2))) else (some (0, 0)))) else (some (0, 0)))) = some (r1, r2) := h
 clear h
 replace H := Option.bind_eq_some_iff.mp H
 obtain ⟨qo, A30, H⟩ := H
 replace H : (if qo = true then ((impl_IsRatio.f k a1_0 a1_1).bind fun qn => (if qn = true then ((impl_reducedRatio.f k (wrap64 (a0_0 * a1_0)) (wrap64 (a0_1 * a1_1))).bind fun qg => (some (qg.1, qg.2))) else (some (0, 0)))) else (some (0, 0))) = some (r1, r2) := H
 have A3 := Aside0.mk A30
 clear A30
 by_cases c4 : qo = true
 ·
  subst c4
  have H1 : ((impl_IsRatio.f k a1_0 a1_1).bind fun qn => (if qn = true then ((impl_reducedRatio.f k (wrap64 (a0_0 * a1_0)) (wrap64 (a0_1 * a1_1))).bind fun qg => (some (qg.1, qg.2))) else (some (0, 0)))) = some (r1, r2) := by rw [if_pos rfl] at H; exact H
  clear H
  have H := H1
  clear H1
  replace H := Option.bind_eq_some_iff.mp H
  obtain ⟨qn, A50, H⟩ := H
  replace H : (if qn = true then ((impl_reducedRatio.f k (wrap64 (a0_0 * a1_0)) (wrap64 (a0_1 * a1_1))).bind fun qg => (some (qg.1, qg.2))) else (some (0, 0))) = some (r1, r2) := H
  have A5 := Aside0.mk A50
  clear A50
  by_cases c6 : qn = true
  ·
   subst c6
   have H1 : ((impl_reducedRatio.f k (wrap64 (a0_0 * a1_0)) (wrap64 (a0_1 * a1_1))).bind fun qg => (some (qg.1, qg.2))) = some (r1, r2) := by rw [if_pos rfl] at H; exact H
   clear H
   have H := H1
   clear H1
   replace H := Option.bind_eq_some_iff.mp H
   obtain ⟨⟨qp, qw⟩, A70, H⟩ := H
   replace H : (some (qp, qw)) = some (r1, r2) := H
   have A7 := Aside0.mk A70
   clear A70
   simp only [Option.some.injEq, Prod.mk.injEq] at H
   obtain ⟨rfl, rfl⟩ := H
   go_enter Try.func80, Try.ntmps80
   go_wp2_with (first | ((with_reducible refine gate_dst (N := 2) rfl ?_); refine box_event ?hg (N := 2) ?hd (cs := #[.int .i64 a0_0, .int .i64 a0_1]) (t := 56) ?hr ?_; (case hd => rfl); (case hg => rfl); (case hr => first | (go_simp; done) | (go_simp; rfl)); intro qe hg w8 hbox hb; have qa := Aside0.mk (hbox); have qq := Aside0.mk ((by rw [hg]; exact (bz_ HB) : w.heap.size ≤ qe)); have qr := Aside0.mk ((by rw [hg]; exact (bz_ HB) : w.heap.size ≤ qe)); replace HB := bS_ HB hb; clear hb hbox hg) | ((with_reducible refine gate_dst (N := 3) rfl ?_); refine box_event ?hg (N := 3) ?hd (cs := #[.int .i64 a1_0, .int .i64 a1_1]) (t := 56) ?hr ?_; (case hd => rfl); (case hg => rfl); (case hr => first | (go_simp; done) | (go_simp; rfl)); intro qf hg w9 hbox hb; have qb := Aside0.mk (hbox); have qs := Aside0.mk ((by rw [hg]; exact (bz_ HB) : w.heap.size ≤ qf)); have qt := Aside0.mk ((by rw [hg]; exact (bz_ HB) : w.heap.size ≤ qf)); replace HB := bS_ HB hb; have qh := Aside0.mk ((nl_ qa hg : qe ≠ qf)); have qi := Aside0.mk ((ng_ qa hg : qf ≠ qe)); replace qa := kB_ qa hb; clear hb hbox hg) | ((with_reducible refine gate_dst (N := 4) rfl ?_); refine box_event ?hg (N := 4) ?hd (cs := #[.int .i64 0, .int .i64 0]) (t := 56) ?hr ?_; (case hd => rfl); (case hg => rfl); (case hr => first | (go_simp; done) | (go_simp; rfl)); intro qc hg zc hbox hb; have qd := Aside0.mk (hbox); have qu := Aside0.mk ((by rw [hg]; exact (bz_ HB) : w.heap.size ≤ qc)); have qv := Aside0.mk ((by rw [hg]; exact (bz_ HB) : w.heap.size ≤ qc)); replace HB := bS_ HB hb; have qj := Aside0.mk ((nl_ qa hg : qe ≠ qc)); have qk := Aside0.mk ((ng_ qa hg : qc ≠ qe)); replace qa := kB_ qa hb; have ql := Aside0.mk ((nl_ qb hg : qf ≠ qc)); have qm := Aside0.mk ((ng_ qb hg : qc ≠ qf)); replace qb := kB_ qb hb; clear hb hbox hg; have zd := qh.out; have ze := qi.out; have zf := qj.out; have zg := qk.out; have qx : zc.cell? ⟨qe, 0, none⟩ = some (.int .i64 a0_0) := bc_ qa 0; have qy : zc.cell? ⟨qe, 1, none⟩ = some (.int .i64 a0_1) := bc_ qa 1; have qz := blk_frozen qa.out 0; have qA := blk_frozen qa.out 1) | ((with_reducible refine gate_callee (f := 70) rfl ?_); refine goesL_ (some 6) rfl rfl Try.func70 (by kernel_rfl) rfl #[.agg #[.int .i64 a0_0, .int .i64 a0_1]] rfl (by (try simp only [List.map_toArray, List.map_cons, List.map_nil]); first | done | rfl | (simp only [List.length_drop, List.length_take]; rfl)) ?_; (with_reducible refine (impl_IsRatio.calls k a0_0 a0_1 true _ A3.out).mono ?_); rintro e zh ⟨rfl, hb⟩; refine ⟨_, rfl, ?_⟩; replace qa := kB_ qa hb; replace qb := kB_ qb hb; replace qd := kB_ qd hb; replace HB := bS_ HB hb; (try clear hb); (try clear hb2); (try clear hk); (try clear hi); have zi := ql.out; have zj := qm.out; have qB : zh.cell? ⟨qf, 0, none⟩ = some (.int .i64 a1_0) := bc_ qb 0; have qC : zh.cell? ⟨qf, 1, none⟩ = some (.int .i64 a1_1) := bc_ qb 1; have qD := blk_frozen qb.out 0; have qE := blk_frozen qb.out 1) | (go_at_call 70; (with_reducible refine (impl_IsRatio.calls k a1_0 a1_1 true _ A5.out).mono ?_); rintro e qF ⟨rfl, hb⟩; replace qa := kB_ qa hb; replace qb := kB_ qb hb; replace qd := kB_ qd hb; replace HB := bS_ HB hb; (try clear hb); (try clear hb2); (try clear hk); (try clear hi); have qG : qF.cell? ⟨qe, 0, none⟩ = some (.int .i64 a0_0) := bc_ qa 0; have qH : qF.cell? ⟨qe, 1, none⟩ = some (.int .i64 a0_1) := bc_ qa 1; have qI := blk_frozen qa.out 0; have qJ := blk_frozen qa.out 1; have qK : qF.cell? ⟨qf, 0, none⟩ = some (.int .i64 a1_0) := bc_ qb 0; have qL : qF.cell? ⟨qf, 1, none⟩ = some (.int .i64 a1_1) := bc_ qb 1; have qM := blk_frozen qb.out 0; have qN := blk_frozen qb.out 1) | ((with_reducible refine gate_callee (f := 88) rfl ?_); refine goesL_ (some 24) rfl rfl Try.func88 (by kernel_rfl) rfl #[.int .i64 (wrap64 (a0_0 * a1_0)), .int .i64 (wrap64 (a0_1 * a1_1))] rfl (by (try simp only [List.map_toArray, List.map_cons, List.map_nil]); first | done | rfl | (simp only [List.length_drop, List.length_take]; rfl)) ?_; (with_reducible refine (impl_reducedRatio.calls k (wrap64 (a0_0 * a1_0)) (wrap64 (a0_1 * a1_1)) qp qw _ A7.out).mono ?_); rintro e zk ⟨rfl, hb⟩; refine ⟨_, rfl, ?_⟩; replace qa := kB_ qa hb; replace qb := kB_ qb hb; replace qd := kB_ qd hb; replace HB := bS_ HB hb; (try clear hb); (try clear hb2); (try clear hk); (try clear hi); have qO : zk.cell? ⟨qc, 0, none⟩ = some (.int .i64 0) := bc_ qd 0; have qP : zk.cell? ⟨qc, 1, none⟩ = some (.int .i64 0) := bc_ qd 1; have qQ := blk_frozen qd.out 0; have qR := blk_frozen qd.out 1))
   refine bodyPost_ret (results_cell_row rfl _ _ qc 56 #[.int .i64 qp, .int .i64 qw] (0, 0) _ rfl (by (with_reducible repeat (first | refine blk_drewN ?_ _ | refine blk_drew ?_ | refine blk_alloc ?_ _)); refine blk_put (cs := #[.int .i64 qp, .int .i64 0]) ?_ 1 _ rfl; (with_reducible repeat (first | refine blk_drewN ?_ _ | refine blk_drew ?_ | refine blk_alloc ?_ _)); refine blk_put (cs := #[.int .i64 0, .int .i64 0]) ?_ 0 _ rfl; (with_reducible repeat (first | refine blk_drewN ?_ _ | refine blk_drew ?_ | refine blk_alloc ?_ _)); exact qd.out) Try.underlying56 rfl (by kernel_rfl)) rfl ?_
   exact ⟨by first | rfl | (simp [errW_none, errW_some] <;> rfl) | (simp [*, errW_none, errW_some] <;> rfl), bb_ HB⟩
  ·
   replace c6 := Bool.eq_false_iff.mpr c6
   subst c6
   have H1 : (some (0, 0)) = some (r1, r2) := by rw [if_neg (show ¬ (false = true) by decide)] at H; exact H
   clear H
   have H := H1
   clear H1
   simp only [Option.some.injEq, Prod.mk.injEq] at H
   obtain ⟨rfl, rfl⟩ := H
   go_enter Try.func80, Try.ntmps80
   go_wp2_with (first | ((with_reducible refine gate_dst (N := 2) rfl ?_); refine box_event ?hg (N := 2) ?hd (cs := #[.int .i64 a0_0, .int .i64 a0_1]) (t := 56) ?hr ?_; (case hd => rfl); (case hg => rfl); (case hr => first | (go_simp; done) | (go_simp; rfl)); intro qe hg zC hbox hb; have qa := Aside0.mk (hbox); have qq := Aside0.mk ((by rw [hg]; exact (bz_ HB) : w.heap.size ≤ qe)); have qr := Aside0.mk ((by rw [hg]; exact (bz_ HB) : w.heap.size ≤ qe)); replace HB := bS_ HB hb; clear hb hbox hg) | ((with_reducible refine gate_dst (N := 3) rfl ?_); refine box_event ?hg (N := 3) ?hd (cs := #[.int .i64 a1_0, .int .i64 a1_1]) (t := 56) ?hr ?_; (case hd => rfl); (case hg => rfl); (case hr => first | (go_simp; done) | (go_simp; rfl)); intro qf hg zD hbox hb; have qb := Aside0.mk (hbox); have qs := Aside0.mk ((by rw [hg]; exact (bz_ HB) : w.heap.size ≤ qf)); have qt := Aside0.mk ((by rw [hg]; exact (bz_ HB) : w.heap.size ≤ qf)); replace HB := bS_ HB hb; have qh := Aside0.mk ((nl_ qa hg : qe ≠ qf)); have qi := Aside0.mk ((ng_ qa hg : qf ≠ qe)); replace qa := kB_ qa hb; clear hb hbox hg) | ((with_reducible refine gate_dst (N := 4) rfl ?_); refine box_event ?hg (N := 4) ?hd (cs := #[.int .i64 0, .int .i64 0]) (t := 56) ?hr ?_; (case hd => rfl); (case hg => rfl); (case hr => first | (go_simp; done) | (go_simp; rfl)); intro qc hg zl hbox hb; have qd := Aside0.mk (hbox); have qu := Aside0.mk ((by rw [hg]; exact (bz_ HB) : w.heap.size ≤ qc)); have qv := Aside0.mk ((by rw [hg]; exact (bz_ HB) : w.heap.size ≤ qc)); replace HB := bS_ HB hb; have qj := Aside0.mk ((nl_ qa hg : qe ≠ qc)); have qk := Aside0.mk ((ng_ qa hg : qc ≠ qe)); replace qa := kB_ qa hb; have ql := Aside0.mk ((nl_ qb hg : qf ≠ qc)); have qm := Aside0.mk ((ng_ qb hg : qc ≠ qf)); replace qb := kB_ qb hb; clear hb hbox hg; have zm := qh.out; have zn := qi.out; have zo := qj.out; have zp := qk.out; have qS : zl.cell? ⟨qe, 0, none⟩ = some (.int .i64 a0_0) := bc_ qa 0; have qT : zl.cell? ⟨qe, 1, none⟩ = some (.int .i64 a0_1) := bc_ qa 1; have qU := blk_frozen qa.out 0; have qV := blk_frozen qa.out 1) | ((with_reducible refine gate_callee (f := 70) rfl ?_); refine goesL_ (some 6) rfl rfl Try.func70 (by kernel_rfl) rfl #[.agg #[.int .i64 a0_0, .int .i64 a0_1]] rfl (by (try simp only [List.map_toArray, List.map_cons, List.map_nil]); first | done | rfl | (simp only [List.length_drop, List.length_take]; rfl)) ?_; (with_reducible refine (impl_IsRatio.calls k a0_0 a0_1 true _ A3.out).mono ?_); rintro e zq ⟨rfl, hb⟩; refine ⟨_, rfl, ?_⟩; replace qa := kB_ qa hb; replace qb := kB_ qb hb; replace qd := kB_ qd hb; replace HB := bS_ HB hb; (try clear hb); (try clear hb2); (try clear hk); (try clear hi); have zr := ql.out; have zs := qm.out; have qW : zq.cell? ⟨qf, 0, none⟩ = some (.int .i64 a1_0) := bc_ qb 0; have qX : zq.cell? ⟨qf, 1, none⟩ = some (.int .i64 a1_1) := bc_ qb 1; have qY := blk_frozen qb.out 0; have qZ := blk_frozen qb.out 1) | (go_at_call 70; (with_reducible refine (impl_IsRatio.calls k a1_0 a1_1 false _ A5.out).mono ?_); rintro e zt ⟨rfl, hb⟩; replace qa := kB_ qa hb; replace qb := kB_ qb hb; replace qd := kB_ qd hb; replace HB := bS_ HB hb; (try clear hb); (try clear hb2); (try clear hk); (try clear hi); have q0 : zt.cell? ⟨qc, 0, none⟩ = some (.int .i64 0) := bc_ qd 0; have q1 : zt.cell? ⟨qc, 1, none⟩ = some (.int .i64 0) := bc_ qd 1; have q2 := blk_frozen qd.out 0; have q3 := blk_frozen qd.out 1))
   refine bodyPost_ret (results_cell_row rfl _ _ qc 56 #[.int .i64 0, .int .i64 0] (0, 0) _ rfl (by (with_reducible repeat (first | refine blk_drewN ?_ _ | refine blk_drew ?_ | refine blk_alloc ?_ _)); refine blk_put (cs := #[.int .i64 0, .int .i64 0]) ?_ 1 _ rfl; (with_reducible repeat (first | refine blk_drewN ?_ _ | refine blk_drew ?_ | refine blk_alloc ?_ _)); refine blk_put (cs := #[.int .i64 0, .int .i64 0]) ?_ 0 _ rfl; (with_reducible repeat (first | refine blk_drewN ?_ _ | refine blk_drew ?_ | refine blk_alloc ?_ _)); exact qd.out) Try.underlying56 rfl (by kernel_rfl)) rfl ?_
   exact ⟨by first | rfl | (simp [errW_none, errW_some] <;> rfl) | (simp [*, errW_none, errW_some] <;> rfl), bb_ HB⟩
 ·
  replace c4 := Bool.eq_false_iff.mpr c4
  subst c4
  have H1 : (some (0, 0)) = some (r1, r2) := by rw [if_neg (show ¬ (false = true) by decide)] at H; exact H
  clear H
  have H := H1
  clear H1
  simp only [Option.some.injEq, Prod.mk.injEq] at H
  obtain ⟨rfl, rfl⟩ := H
  go_enter Try.func80, Try.ntmps80
  go_wp2_with (first | ((with_reducible refine gate_dst (N := 2) rfl ?_); refine box_event ?hg (N := 2) ?hd (cs := #[.int .i64 a0_0, .int .i64 a0_1]) (t := 56) ?hr ?_; (case hd => rfl); (case hg => rfl); (case hr => first | (go_simp; done) | (go_simp; rfl)); intro qe hg zE hbox hb; have qa := Aside0.mk (hbox); have qq := Aside0.mk ((by rw [hg]; exact (bz_ HB) : w.heap.size ≤ qe)); have qr := Aside0.mk ((by rw [hg]; exact (bz_ HB) : w.heap.size ≤ qe)); replace HB := bS_ HB hb; clear hb hbox hg) | ((with_reducible refine gate_dst (N := 3) rfl ?_); refine box_event ?hg (N := 3) ?hd (cs := #[.int .i64 a1_0, .int .i64 a1_1]) (t := 56) ?hr ?_; (case hd => rfl); (case hg => rfl); (case hr => first | (go_simp; done) | (go_simp; rfl)); intro qf hg zF hbox hb; have qb := Aside0.mk (hbox); have qs := Aside0.mk ((by rw [hg]; exact (bz_ HB) : w.heap.size ≤ qf)); have qt := Aside0.mk ((by rw [hg]; exact (bz_ HB) : w.heap.size ≤ qf)); replace HB := bS_ HB hb; have qh := Aside0.mk ((nl_ qa hg : qe ≠ qf)); have qi := Aside0.mk ((ng_ qa hg : qf ≠ qe)); replace qa := kB_ qa hb; clear hb hbox hg) | ((with_reducible refine gate_dst (N := 4) rfl ?_); refine box_event ?hg (N := 4) ?hd (cs := #[.int .i64 0, .int .i64 0]) (t := 56) ?hr ?_; (case hd => rfl); (case hg => rfl); (case hr => first | (go_simp; done) | (go_simp; rfl)); intro qc hg zu hbox hb; have qd := Aside0.mk (hbox); have qu := Aside0.mk ((by rw [hg]; exact (bz_ HB) : w.heap.size ≤ qc)); have qv := Aside0.mk ((by rw [hg]; exact (bz_ HB) : w.heap.size ≤ qc)); replace HB := bS_ HB hb; have qj := Aside0.mk ((nl_ qa hg : qe ≠ qc)); have qk := Aside0.mk ((ng_ qa hg : qc ≠ qe)); replace qa := kB_ qa hb; have ql := Aside0.mk ((nl_ qb hg : qf ≠ qc)); have qm := Aside0.mk ((ng_ qb hg : qc ≠ qf)); replace qb := kB_ qb hb; clear hb hbox hg; have zv := qh.out; have zw := qi.out; have zx := qj.out; have zy := qk.out; have q4 : zu.cell? ⟨qe, 0, none⟩ = some (.int .i64 a0_0) := bc_ qa 0; have q5 : zu.cell? ⟨qe, 1, none⟩ = some (.int .i64 a0_1) := bc_ qa 1; have q6 := blk_frozen qa.out 0; have q7 := blk_frozen qa.out 1) | ((with_reducible refine gate_callee (f := 70) rfl ?_); refine goesL_ (some 6) rfl rfl Try.func70 (by kernel_rfl) rfl #[.agg #[.int .i64 a0_0, .int .i64 a0_1]] rfl (by (try simp only [List.map_toArray, List.map_cons, List.map_nil]); first | done | rfl | (simp only [List.length_drop, List.length_take]; rfl)) ?_; (with_reducible refine (impl_IsRatio.calls k a0_0 a0_1 false _ A3.out).mono ?_); rintro e zz ⟨rfl, hb⟩; refine ⟨_, rfl, ?_⟩; replace qa := kB_ qa hb; replace qb := kB_ qb hb; replace qd := kB_ qd hb; replace HB := bS_ HB hb; (try clear hb); (try clear hb2); (try clear hk); (try clear hi); have zA := qm.out; have zB := ql.out; have q8 : zz.cell? ⟨qc, 0, none⟩ = some (.int .i64 0) := bc_ qd 0; have q9 : zz.cell? ⟨qc, 1, none⟩ = some (.int .i64 0) := bc_ qd 1; have za := blk_frozen qd.out 0; have zb := blk_frozen qd.out 1))
  refine bodyPost_ret (results_cell_row rfl _ _ qc 56 #[.int .i64 0, .int .i64 0] (0, 0) _ rfl (by (with_reducible repeat (first | refine blk_drewN ?_ _ | refine blk_drew ?_ | refine blk_alloc ?_ _)); refine blk_put (cs := #[.int .i64 0, .int .i64 0]) ?_ 1 _ rfl; (with_reducible repeat (first | refine blk_drewN ?_ _ | refine blk_drew ?_ | refine blk_alloc ?_ _)); refine blk_put (cs := #[.int .i64 0, .int .i64 0]) ?_ 0 _ rfl; (with_reducible repeat (first | refine blk_drewN ?_ _ | refine blk_drew ?_ | refine blk_alloc ?_ _)); exact qd.out) Try.underlying56 rfl (by kernel_rfl)) rfl ?_
  exact ⟨by first | rfl | (simp [errW_none, errW_some] <;> rfl) | (simp [*, errW_none, errW_some] <;> rfl), bb_ HB⟩

/-! ### impl_ValueOf: function 47 -/
mutual
def impl_ValueOf.j0 : Nat → List (S56) → Bool → List Int → Int → Bool → Option (Int × Int × Bool)
 | 0, _, _, _, _, _ => none
 | k + 1, x1, x19, x230000, x230001, x230002 => if x19 = true then (some (0, 0, false)) else (impl_ValueOf.l0 k x1 x230000 (x230000.length : Int) 0 x230001 1)
def impl_ValueOf.l0 : Nat → List (S56) → List Int → Int → Int → Int → Int → Option (Int × Int × Bool)
 | 0, _, _, _, _, _, _ => none
 | k + 1, x1, x25, x26, x27, x234000, x234001 => if x27 < x26 then (if 0 ≤ x27 then (if x27 < (x25.length : Int) then (if x27 < (x1.length : Int) then ((impl_MultiplyRatios.f k (rd x25 x27) 1 ((rd_T56 x1 x27).f0) ((rd_T56 x1 x27).f1)).bind fun ze => ((impl_AddRatios.f k x234000 x234001 ze.1 ze.2).bind fun qt => (impl_ValueOf.l0 k x1 x25 x26 (wrap64 (x27 + 1)) qt.1 qt.2))) else (none)) else (none)) else (none)) else ((impl_IsRatio.f k x234000 x234001).bind fun qQ => (some (x234000, x234001, qQ)))
end
def impl_ValueOf.f (k : Nat) (l0_0 : List Int) (a0_1 : Int) (a0_2 : Bool) (l1 : List (S56)) : Option (Int × Int × Bool) := (impl_IsAtom.f k l0_0 a0_1 a0_2).bind fun qN => (if qN = true then ((impl_IsPoint.f k l1 (l0_0.length : Int)).bind fun qr => (impl_ValueOf.j0 k l1 (!qr) l0_0 a0_1 a0_2)) else (impl_ValueOf.j0 k l1 true l0_0 a0_1 a0_2))
theorem impl_ValueOf.mono_l : ∀ k, (∀ y0 y1 y2 y3 y4, LeO (impl_ValueOf.j0 k y0 y1 y2 y3 y4) (impl_ValueOf.j0 (k + 1) y0 y1 y2 y3 y4)) ∧ (∀ y0 y1 y2 y3 y4 y5, LeO (impl_ValueOf.l0 k y0 y1 y2 y3 y4 y5) (impl_ValueOf.l0 (k + 1) y0 y1 y2 y3 y4 y5))
 | 0 => ⟨fun _ _ _ _ _ r h => by simp [impl_ValueOf.j0] at h, fun _ _ _ _ _ _ r h => by simp [impl_ValueOf.l0] at h⟩
 | k + 1 => by
  obtain ⟨ih0, ih1⟩ := impl_ValueOf.mono_l k
  refine ⟨?_, ?_⟩
  ·
   intro y0 y1 y2 y3 y4
   unfold impl_ValueOf.j0
   repeat' first
   | (with_reducible exact ih0 _ _ _ _ _)
   | (with_reducible exact ih1 _ _ _ _ _ _)
   | (with_reducible exact impl_AddRatios.mono _ _ _ _ _)
   | (with_reducible exact impl_IsAtom.mono _ _ _ _)
   | (with_reducible exact impl_IsPoint.mono _ _ _)
   | (with_reducible exact impl_IsRatio.mono _ _ _)
   | (with_reducible exact impl_MultiplyRatios.mono _ _ _ _ _)
   | (with_reducible exact LeO.refl _)
   | (with_reducible exact LeO.none _)
   | (with_reducible refine LeO.ite ?_ ?_)
   | (with_reducible refine LeO.bind ?_ (fun _ => ?_))
   | exact ih0 _ _ _ _ _
   | exact ih1 _ _ _ _ _ _
   | exact impl_AddRatios.mono _ _ _ _ _
   | exact impl_IsAtom.mono _ _ _ _
   | exact impl_IsPoint.mono _ _ _
   | exact impl_IsRatio.mono _ _ _
   | exact impl_MultiplyRatios.mono _ _ _ _ _
   | exact LeO.none _
   | refine LeO.ite ?_ ?_
   | refine LeO.bind ?_ (fun _ => ?_)
  ·
   intro y0 y1 y2 y3 y4 y5
   unfold impl_ValueOf.l0
   repeat' first
   | (with_reducible exact ih0 _ _ _ _ _)
   | (with_reducible exact ih1 _ _ _ _ _ _)
   | (with_reducible exact impl_AddRatios.mono _ _ _ _ _)
   | (with_reducible exact impl_IsAtom.mono _ _ _ _)
   | (with_reducible exact impl_IsPoint.mono _ _ _)
   | (with_reducible exact impl_IsRatio.mono _ _ _)
   | (with_reducible exact impl_MultiplyRatios.mono _ _ _ _ _)
   | (with_reducible exact LeO.refl _)
   | (with_reducible exact LeO.none _)
   | (with_reducible refine LeO.ite ?_ ?_)
   | (with_reducible refine LeO.bind ?_ (fun _ => ?_))
   | exact ih0 _ _ _ _ _
   | exact ih1 _ _ _ _ _ _
   | exact impl_AddRatios.mono _ _ _ _ _
   | exact impl_IsAtom.mono _ _ _ _
   | exact impl_IsPoint.mono _ _ _
   | exact impl_IsRatio.mono _ _ _
   | exact impl_MultiplyRatios.mono _ _ _ _ _
   | exact LeO.none _
   | refine LeO.ite ?_ ?_
   | refine LeO.bind ?_ (fun _ => ?_)
theorem impl_ValueOf.mono : ∀ a0 a1 a2 a3 k, LeO (impl_ValueOf.f k a0 a1 a2 a3) (impl_ValueOf.f (k + 1) a0 a1 a2 a3) := by
 intro a0 a1 a2 a3 k
 obtain ⟨ih0, ih1⟩ := impl_ValueOf.mono_l k
 unfold impl_ValueOf.f
 repeat' first
   | (with_reducible exact ih0 _ _ _ _ _)
   | (with_reducible exact ih1 _ _ _ _ _ _)
   | (with_reducible exact impl_AddRatios.mono _ _ _ _ _)
   | (with_reducible exact impl_IsAtom.mono _ _ _ _)
   | (with_reducible exact impl_IsPoint.mono _ _ _)
   | (with_reducible exact impl_IsRatio.mono _ _ _)
   | (with_reducible exact impl_MultiplyRatios.mono _ _ _ _ _)
   | (with_reducible exact LeO.refl _)
   | (with_reducible exact LeO.none _)
   | (with_reducible refine LeO.ite ?_ ?_)
   | (with_reducible refine LeO.bind ?_ (fun _ => ?_))
   | exact ih0 _ _ _ _ _
   | exact ih1 _ _ _ _ _ _
   | exact impl_AddRatios.mono _ _ _ _ _
   | exact impl_IsAtom.mono _ _ _ _
   | exact impl_IsPoint.mono _ _ _
   | exact impl_IsRatio.mono _ _ _
   | exact impl_MultiplyRatios.mono _ _ _ _ _
   | exact LeO.none _
   | refine LeO.ite ?_ ?_
   | refine LeO.bind ?_ (fun _ => ?_)
def impl_ValueOf.T7 : Bool × List (List Nat × List Nat) := (true, [([], []), ([], []), ([1], [1]), ([], []), ([], []), ([3, 4], [3, 4]), ([5], [5]), ([2, 6], [2, 6]), ([0, 7, 7], [0, 7]), ([8, 8, 0, 1, 2, 3, 4, 5, 6, 7, 8], [8])])
def impl_ValueOf.B7 : List Nat := [0, 0, 2, 0, 0, 24, 56, 126, 255, 511]
theorem impl_ValueOf.tab7 : rtab .any (opsOf Try.f47 7) = impl_ValueOf.T7 := by kernel_rfl
theorem impl_ValueOf.bits7 : waitsOk impl_ValueOf.T7.2 impl_ValueOf.B7 = true := by kernel_rfl
set_option maxHeartbeats 8000000 in
set_option maxRecDepth 100000 in
theorem impl_ValueOf.calls (k : Nat) (A0_0 : Option Addr) (c0_0 : Nat) (l0_0 : List Int) (a0_1 : Int) (a0_2 : Bool) (A1 : Option Addr) (c1 : Nat) (l1 : List (S56)) (r1 : Int) (r2 : Int) (r3 : Bool) (w : World) (hr0_0 : Kd.C (Kd.int .i64) w A0_0 l0_0.length l0_0) (hc0_0 : l0_0.length ≤ c0_0) (hr1 : Kd.C k56 w A1 l1.length l1) (hc1 : l1.length ≤ c1) (h : impl_ValueOf.f k l0_0 a0_1 a0_2 l1 = some (r1, r2, r3)) :
  Calls Try.prog 47 #[.agg #[.slice A0_0 l0_0.length c0_0, .int .i64 a0_1, .bool a0_2], .slice A1 l1.length c1] w fun e w' => e = .returned (.tuple #[.agg #[.int .i64 r1, .int .i64 r2], .bool r3]) ∧ Below w.heap.size w w' := by
 have hu26 := Try.underlying26
 have hu56 := Try.underlying56
 have qO := Aside0.mk hr0_0
 have zf := Aside0.mk hc0_0
 clear hr0_0 hc0_0
 have HR1 := Aside0.mk hr1
 have HC1 := Aside0.mk hc1
 clear hr1 hc1
 have HB := Aside0.mk (Below.refl w.heap.size w)
 have H : ((impl_IsAtom.f k l0_0 a0_1 a0_2).bind fun qN => (if qN = true then ((impl_IsPoint.f k l1 (l0_0.length : Int)).bind fun qr => (impl_ValueOf.j0 k l1 (!qr) l0_0 a0_1 a0_2)) else (impl_ValueOf.j0 k l1 true l0_0 a0_1 a0_2))) = some (r1, r2, r3) := h
 clear h
 have HC3 := Aside0.mk H
 clear H
 go_enter Try.func47, Try.ntmps47
 go_upto_region 1 with (first | ((with_reducible refine gate_dst (N := 2) rfl ?_); (try (refine gate_guard (by rfl) ?_; dsimp only)); refine box_event ?hg (N := 2) ?hd (cs := #[.slice A0_0 l0_0.length c0_0, .int .i64 a0_1, .bool a0_2]) (t := 26) ?hr ?_; (case hd => rfl); (case hg => rfl); (case hr => first | (go_simp; done) | (go_simp; rfl)); intro qg hg w4 hbox hb; have qa := Aside0.mk (hbox); have zk := Aside0.mk ((by rw [hg]; exact (bz_ HB) : w.heap.size ≤ qg)); have zl := Aside0.mk ((by rw [hg]; exact (bz_ HB) : w.heap.size ≤ qg)); replace HB := bS_ HB hb; clear hb hbox hg) | ((with_reducible refine gate_dst (N := 4) rfl ?_); (try (refine gate_guard (by rfl) ?_; dsimp only)); refine box_event ?hg (N := 4) ?hd (cs := #[.int .i64 0, .int .i64 0]) (t := 56) ?hr ?_; (case hd => rfl); (case hg => rfl); (case hr => first | (go_simp; done) | (go_simp; rfl)); intro qi hg w5 hbox hb; have qb := Aside0.mk (hbox); have zm := Aside0.mk ((by rw [hg]; exact (bz_ HB) : w.heap.size ≤ qi)); have zn := Aside0.mk ((by rw [hg]; exact (bz_ HB) : w.heap.size ≤ qi)); replace HB := bS_ HB hb; have qj := Aside0.mk ((nl_ qa hg : qg ≠ qi)); have qk := Aside0.mk ((ng_ qa hg : qi ≠ qg)); replace qa := kB_ qa hb; clear hb hbox hg))
 (try simp only [Act.put, List.setIfInBounds_toArray, List.set_cons_zero, List.set_cons_succ])
 go_cut [19] (fun v19 wc => ∃ (kq : Nat) (qu : Bool), v19 = .bool qu ∧ Aside0 (impl_ValueOf.j0 kq l1 qu l0_0 a0_1 a0_2 = some (r1, r2, r3)) ∧ Aside0 (kq ≤ k) ∧ Aside0 (wc.heap[qg]? = some (.cells #[(.slice A0_0 l0_0.length c0_0), .int .i64 a0_1, .bool a0_2] 26 (0, 0))) ∧ Aside0 (wc.heap[qi]? = some (.cells #[.int .i64 0, .int .i64 0] 56 (0, 0))) ∧ Aside0 (Below w.heap.size w wc))
 case first =>
  have H := HC3.out
  clear HC3
  replace H := Option.bind_eq_some_iff.mp H
  obtain ⟨qN, A60, H⟩ := H
  replace H : (if qN = true then ((impl_IsPoint.f k l1 (l0_0.length : Int)).bind fun qr => (impl_ValueOf.j0 k l1 (!qr) l0_0 a0_1 a0_2)) else (impl_ValueOf.j0 k l1 true l0_0 a0_1 a0_2)) = some (r1, r2, r3) := H
  have A6 := Aside0.mk A60
  clear A60
  by_cases c7 : qN = true
  ·
   subst c7
   have H1 : ((impl_IsPoint.f k l1 (l0_0.length : Int)).bind fun qr => (impl_ValueOf.j0 k l1 (!qr) l0_0 a0_1 a0_2)) = some (r1, r2, r3) := by rw [if_pos rfl] at H; exact H
   clear H
   have H := H1
   clear H1
   replace H := Option.bind_eq_some_iff.mp H
   obtain ⟨qr, A80, H⟩ := H
   replace H : (impl_ValueOf.j0 k l1 (!qr) l0_0 a0_1 a0_2) = some (r1, r2, r3) := H
   have A8 := Aside0.mk A80
   clear A80
   have H' := Aside0.mk H
   clear H
   have zG := qj.out
   have zH := qk.out
   have qv : w5.cell? ⟨qg, 0, none⟩ = some (.slice A0_0 l0_0.length c0_0) := bc_ qa 0
   have qw : w5.cell? ⟨qg, 1, none⟩ = some (.int .i64 a0_1) := bc_ qa 1
   have qx : w5.cell? ⟨qg, 2, none⟩ = some (.bool a0_2) := bc_ qa 2
   have qy := blk_frozen qa.out 0
   have qz := blk_frozen qa.out 1
   have qA := blk_frozen qa.out 2
   go_wp2_with (first | ((with_reducible refine gate_callee (f := 54) rfl ?_); refine goesL_ (some 10) rfl rfl Try.func54 (by kernel_rfl) rfl #[.agg #[.slice A0_0 l0_0.length c0_0, .int .i64 a0_1, .bool a0_2]] rfl (by (try simp only [List.map_toArray, List.map_cons, List.map_nil]); first | done | rfl | (simp only [List.length_drop, List.length_take]; rfl)) ?_; (with_reducible refine (impl_IsAtom.calls k _ _ l0_0 a0_1 a0_2 true _ ?side1 ?side2 A6.out).mono ?_); (case side1 => exact cb_ qO HB); (case side2 => exact zf.out); rintro e zj ⟨rfl, hb⟩; refine ⟨_, rfl, ?_⟩; replace qa := kB_ qa hb; replace qb := kB_ qb hb; replace HB := bS_ HB hb; (try clear hb); (try clear hb2); (try clear hk); (try clear hi); have qB : zj.cell? ⟨qg, 0, none⟩ = some (.slice A0_0 l0_0.length c0_0) := bc_ qa 0; have qC : zj.cell? ⟨qg, 1, none⟩ = some (.int .i64 a0_1) := bc_ qa 1; have qD : zj.cell? ⟨qg, 2, none⟩ = some (.bool a0_2) := bc_ qa 2; have qE := blk_frozen qa.out 0; have qF := blk_frozen qa.out 1; have qG := blk_frozen qa.out 2) | (go_at_call 78; (with_reducible refine (impl_IsPoint.calls k _ _ l1 (l0_0.length : Int) qr _ ?side1 ?side2 A8.out).mono ?_); (case side1 => exact cb_ HR1 HB); (case side2 => exact HC1.out); rintro e zI ⟨rfl, hb⟩; replace qa := kB_ qa hb; replace qb := kB_ qb hb; replace HB := bS_ HB hb; (try clear hb); (try clear hb2); (try clear hk); (try clear hi)))
   go_meet
   case rel => exact ⟨_, (!qr), (by first | rfl | (simp; done) | (simp [*]; done)), H', ⟨by first | omega | exact Nat.le_refl _⟩, ⟨kf_ qa⟩, ⟨kf_ qb⟩, ⟨bb_ HB⟩⟩
  ·
   replace c7 := Bool.eq_false_iff.mpr c7
   subst c7
   have H1 : (impl_ValueOf.j0 k l1 true l0_0 a0_1 a0_2) = some (r1, r2, r3) := by rw [if_neg (show ¬ (false = true) by decide)] at H; exact H
   clear H
   have H := H1
   clear H1
   have H' := Aside0.mk H
   clear H
   have zo := qj.out
   have zp := qk.out
   have qH : w5.cell? ⟨qg, 0, none⟩ = some (.slice A0_0 l0_0.length c0_0) := bc_ qa 0
   have qI : w5.cell? ⟨qg, 1, none⟩ = some (.int .i64 a0_1) := bc_ qa 1
   have qJ : w5.cell? ⟨qg, 2, none⟩ = some (.bool a0_2) := bc_ qa 2
   have qK := blk_frozen qa.out 0
   have qL := blk_frozen qa.out 1
   have qM := blk_frozen qa.out 2
   go_wp2_with (first | ((with_reducible refine gate_callee (f := 54) rfl ?_); refine goesL_ (some 10) rfl rfl Try.func54 (by kernel_rfl) rfl #[.agg #[.slice A0_0 l0_0.length c0_0, .int .i64 a0_1, .bool a0_2]] rfl (by (try simp only [List.map_toArray, List.map_cons, List.map_nil]); first | done | rfl | (simp only [List.length_drop, List.length_take]; rfl)) ?_; (with_reducible refine (impl_IsAtom.calls k _ _ l0_0 a0_1 a0_2 false _ ?side1 ?side2 A6.out).mono ?_); (case side1 => exact cb_ qO HB); (case side2 => exact zf.out); rintro e zJ ⟨rfl, hb⟩; refine ⟨_, rfl, ?_⟩; replace qa := kB_ qa hb; replace qb := kB_ qb hb; replace HB := bS_ HB hb; (try clear hb); (try clear hb2); (try clear hk); (try clear hi)))
   go_meet
   case rel => exact ⟨_, (true), (by first | rfl | (simp; done) | (simp [*]; done)), H', ⟨by first | omega | exact Nat.le_refl _⟩, ⟨kf_ qa⟩, ⟨kf_ qb⟩, ⟨bb_ HB⟩⟩
 case rest =>
  clear HC3
  try clear c1
  try clear p2
  try clear c4
  try clear c5
  try clear c7
  try clear c9
  try clear c14
  try clear qv
  try clear qw
  try clear qx
  try clear qB
  try clear qC
  try clear qD
  try clear qH
  try clear qI
  try clear qJ
  try clear qy
  try clear qz
  try clear qA
  try clear qE
  try clear qF
  try clear qG
  try clear qK
  try clear qL
  try clear qM
  obtain ⟨kq, qu, rfl, HA, HJ2, qa, qb, HB⟩ := hcut
  cases kq with
  | zero => exact absurd HA.out (by simp [impl_ValueOf.j0])
  | succ kj2 =>
   have H := HA.out
   clear HA
   simp only [impl_ValueOf.j0] at H
   by_cases c17 : qu = true
   ·
    subst c17
    have H1 : (some (0, 0, false)) = some (r1, r2, r3) := by rw [if_pos rfl] at H; exact H
    clear H
    have H := H1
    clear H1
    simp only [Option.some.injEq, Prod.mk.injEq] at H
    obtain ⟨rfl, rfl, rfl⟩ := H
    have zq := qk.out
    have zr := qj.out
    have qR : wc.cell? ⟨qi, 0, none⟩ = some (.int .i64 0) := bc_ qb 0
    have qS : wc.cell? ⟨qi, 1, none⟩ = some (.int .i64 0) := bc_ qb 1
    have qT := blk_frozen qb.out 0
    have qU := blk_frozen qb.out 1
    go_wp2
    refine bodyPost_ret (results_ct rfl _ _ qi 56 #[.int .i64 0, .int .i64 0] (0, 0) _ rfl (by (with_reducible repeat (first | refine blk_drewN ?_ _ | refine blk_drew ?_ | refine blk_alloc ?_ _)); refine blk_put (cs := #[.int .i64 0, .int .i64 0]) ?_ 1 _ rfl; (with_reducible repeat (first | refine blk_drewN ?_ _ | refine blk_drew ?_ | refine blk_alloc ?_ _)); refine blk_put (cs := #[.int .i64 0, .int .i64 0]) ?_ 0 _ rfl; (with_reducible repeat (first | refine blk_drewN ?_ _ | refine blk_drew ?_ | refine blk_alloc ?_ _)); exact qb.out) Try.underlying56 rfl (by kernel_rfl)) rfl ?_
    exact ⟨by first | rfl | (simp [errW_none, errW_some] <;> rfl) | (simp [*, errW_none, errW_some] <;> rfl), bb_ HB⟩
   ·
    replace c17 := Bool.eq_false_iff.mpr c17
    subst c17
    have H1 : (impl_ValueOf.l0 kj2 l1 l0_0 (l0_0.length : Int) 0 a0_1 1) = some (r1, r2, r3) := by rw [if_neg (show ¬ (false = true) by decide)] at H; exact H
    clear H
    have H := H1
    clear H1
    have H' := Aside0.mk H
    clear H
    have zs := qj.out
    have zt := qk.out
    have qV : wc.cell? ⟨qg, 0, none⟩ = some (.slice A0_0 l0_0.length c0_0) := bc_ qa 0
    have qW : wc.cell? ⟨qg, 1, none⟩ = some (.int .i64 a0_1) := bc_ qa 1
    have qX : wc.cell? ⟨qg, 2, none⟩ = some (.bool a0_2) := bc_ qa 2
    have qY := blk_frozen qa.out 0
    have qZ := blk_frozen qa.out 1
    have q0 := blk_frozen qa.out 2
    go_wp2_with (first | ((with_reducible refine gate_dst (N := 6) rfl ?_); (try (refine gate_guard (by rfl) ?_; dsimp only)); refine box_event ?hg (N := 6) ?hd (cs := #[.int .i64 0, .int .i64 0]) (t := 56) ?hr ?_; (case hd => rfl); (case hg => rfl); (case hr => first | (go_simp; done) | (go_simp; rfl)); intro ql hg zh hbox hb; have qe := Aside0.mk (hbox); have zu := Aside0.mk ((by rw [hg]; exact (bz_ HB) : w.heap.size ≤ ql)); have zv := Aside0.mk ((by rw [hg]; exact (bz_ HB) : w.heap.size ≤ ql)); replace HB := bS_ HB hb; have qp := Aside0.mk ((nl_ qa hg : qg ≠ ql)); have qq := Aside0.mk ((ng_ qa hg : ql ≠ qg)); replace qa := kB_ qa hb; have qm := Aside0.mk ((nl_ qb hg : qi ≠ ql)); have qh := Aside0.mk ((ng_ qb hg : ql ≠ qi)); replace qb := kB_ qb hb; clear hb hbox hg; have zw := qq.out; have zx := qp.out; have zy := qh.out; have zz := qm.out; have q1 : zh.cell? ⟨ql, 0, none⟩ = some (.int .i64 0) := bc_ qe 0; have q2 : zh.cell? ⟨ql, 1, none⟩ = some (.int .i64 0) := bc_ qe 1; have q3 := blk_frozen qe.out 0; have q4 := blk_frozen qe.out 1; have q5 : zh.cell? ⟨qg, 0, none⟩ = some (.slice A0_0 l0_0.length c0_0) := bc_ qa 0; have q6 : zh.cell? ⟨qg, 1, none⟩ = some (.int .i64 a0_1) := bc_ qa 1; have q7 : zh.cell? ⟨qg, 2, none⟩ = some (.bool a0_2) := bc_ qa 2; have q8 := blk_frozen qa.out 0; have q9 := blk_frozen qa.out 1; have za := blk_frozen qa.out 2))
    go_loopg [27] kj2 (fun kq v27 w' => ∃ (qf : Int) (qc : Int) (qd : Int), v27 = .int .i64 qf ∧ Aside0 (impl_ValueOf.l0 kq l1 l0_0 (l0_0.length : Int) qf qc qd = some (r1, r2, r3)) ∧ Aside0 (kq ≤ kj2) ∧ Aside0 (w'.heap[qg]? = some (.cells #[(.slice A0_0 l0_0.length c0_0), .int .i64 a0_1, .bool a0_2] 26 (0, 0))) ∧ Aside0 (w'.heap[qi]? = some (.cells #[.int .i64 0, .int .i64 0] 56 (0, 0))) ∧ Aside0 (w'.heap[ql]? = some (.cells #[.int .i64 qc, .int .i64 qd] 56 (0, 0))) ∧ Aside0 (Below w.heap.size w w'))
    case atStart => exact ⟨(0), (a0_1), (1), (by first | rfl | (simp; done) | (simp [*]; done)), H', ⟨Nat.le_refl _⟩, ⟨kf_ qa⟩, ⟨kf_ qb⟩, ⟨by (with_reducible repeat (first | refine blk_drewN ?_ _ | refine blk_drew ?_ | refine blk_alloc ?_ _)); refine blk_put (cs := #[.int .i64 a0_1, .int .i64 0]) ?_ 1 _ rfl; (with_reducible repeat (first | refine blk_drewN ?_ _ | refine blk_drew ?_ | refine blk_alloc ?_ _)); refine blk_put (cs := #[.int .i64 0, .int .i64 0]) ?_ 0 _ rfl; (with_reducible repeat (first | refine blk_drewN ?_ _ | refine blk_drew ?_ | refine blk_alloc ?_ _)); exact qe.out⟩, ⟨bb_ HB⟩⟩
    case round =>
     clear H'
     try clear c1
     try clear c2
     try clear p2
     try clear c4
     try clear c5
     try clear c7
     try clear c9
     try clear c14
     try clear c17
     try clear c18
     try clear c20
     try clear c23
     try clear c24
     try clear qv
     try clear qw
     try clear qx
     try clear qB
     try clear qC
     try clear qD
     try clear qH
     try clear qI
     try clear qJ
     try clear qR
     try clear qS
     try clear qV
     try clear qW
     try clear qX
     try clear q1
     try clear q2
     try clear q5
     try clear q6
     try clear q7
     try clear qy
     try clear qz
     try clear qA
     try clear qE
     try clear qF
     try clear qG
     try clear qK
     try clear qL
     try clear qM
     try clear qT
     try clear qU
     try clear qY
     try clear qZ
     try clear q0
     try clear q3
     try clear q4
     try clear q8
     try clear q9
     try clear za
     try clear p2
     obtain ⟨qf, qc, qd, rfl, HA, HK2, qa, qb, qe, HB⟩ := hrel
     cases gk with
     | zero => exact absurd HA.out (by simp [impl_ValueOf.l0])
     | succ k2 =>
      have H := HA.out
      clear HA
      simp only [impl_ValueOf.l0] at H
      by_cases c27 : qf < (l0_0.length : Int)
      ·
       rw [if_pos c27] at H
       have zi : decide (qf < (l0_0.length : Int)) = true := decide_eq_true c27
       clear c27
       by_cases c28 : 0 ≤ qf
       ·
        rw [if_pos c28] at H
        have zA : decide (0 ≤ qf) = true := decide_eq_true c28
        clear c28
        by_cases c29 : qf < (l0_0.length : Int)
        ·
         rw [if_pos c29] at H
         have zB : decide (qf < (l0_0.length : Int)) = true := decide_eq_true c29
         clear c29
         by_cases c30 : qf < (l1.length : Int)
         ·
          rw [if_pos c30] at H
          have zC : decide (qf < (l1.length : Int)) = true := decide_eq_true c30
          clear c30
          replace H := Option.bind_eq_some_iff.mp H
          obtain ⟨⟨zb, zc⟩, A310, H⟩ := H
          replace H : ((impl_AddRatios.f k2 qc qd zb zc).bind fun qt => (impl_ValueOf.l0 k2 l1 l0_0 (l0_0.length : Int) (wrap64 (qf + 1)) qt.1 qt.2)) = some (r1, r2, r3) := H
          have A31 := Aside0.mk A310
          clear A310
          replace H := Option.bind_eq_some_iff.mp H
          obtain ⟨⟨zd, zg⟩, A320, H⟩ := H
          replace H : (impl_ValueOf.l0 k2 l1 l0_0 (l0_0.length : Int) (wrap64 (qf + 1)) zd zg) = some (r1, r2, r3) := H
          have A32 := Aside0.mk A320
          clear A320
          have H' := Aside0.mk H
          clear H
          have p234 : 0 ≤ (qf : Int) := of_decide_eq_true (by first | (with_reducible assumption) | assumption)
          have q234 : qf < (l0_0.length : Int) := of_decide_eq_true (by first | (with_reducible assumption) | assumption)
          obtain ⟨zD, e234, qs⟩ := Kd.at_int qO.out qf p234 q234
          cases e234
          replace qs := (HB.out.cell (World.block_lt_of_cell? w _ qs)).trans qs
          replace p234 := eq_true p234
          replace q234 := eq_true q234
          try go_wp2
          replace qa := Aside0.mk (blk_drew qa.out); replace qb := Aside0.mk (blk_drew qb.out); replace qe := Aside0.mk (blk_drew qe.out); replace HB := Aside0.mk (below_drew1 HB.out)
          have p235 : 0 ≤ (qf : Int) := of_decide_eq_true (by first | (with_reducible assumption) | assumption)
          have q235 : qf < (l1.length : Int) := of_decide_eq_true (by first | (with_reducible assumption) | assumption)
          obtain ⟨qP, e235, qn, qo⟩ := at_T56 HR1.out qf p235 q235
          have hw235_1 := qo
          have hw235_0 := qn
          cases e235
          replace qn := (HB.out.cell (World.block_lt_of_cell? w _ qn)).trans qn
          replace qo := (HB.out.cell (World.block_lt_of_cell? w _ qo)).trans qo
          replace p235 := eq_true p235
          replace q235 := eq_true q235
          refine start_ (n := 10) (S := fun w' => w'.cell? ⟨ql, 0, none⟩ = some (.int .i64 qc) ∧ w'.cell? ⟨ql, 1, none⟩ = some (.int .i64 qd) ∧ w'.cell? (qP.add ((qf).toNat * 2)) = some (.int .i64 ((rd_T56 l1 qf).f0)) ∧ w'.cell? ⟨(qP.add ((qf).toNat * 2)).block, (qP.add ((qf).toNat * 2)).off + 1, none⟩ = some (.int .i64 ((rd_T56 l1 qf).f1))) (ds := [9]) #[false, false, false, false, false, false, false, false, false, false] (by kernel_rfl) rfl rfl ⟨bc_ qe 0, bc_ qe 1, ((HB.out.cell (World.block_lt_of_cell? w _ hw235_0)).trans hw235_0), ((HB.out.cell (World.block_lt_of_cell? w _ hw235_1)).trans hw235_1)⟩ (fun hHeld => ?_); refine with_tabW impl_ValueOf.tab7 impl_ValueOf.bits7 (fun HT_ HW_ => ?_)
          generalize wr.drew = zK at qa qb qe HB qn qo hHeld ⊢
          refine pure_ (i := 1) (N := some 33) (v := ?_) (a' := ?_) #[false, true, false, false, false, false, false, false, false, false] rfl rfl (any_of HT_.out (by kernel_rfl)) (fun _ _ _ h => h) (Or.inl ⟨by rfl, ?_⟩) ?_ ?_
          rotate_left
          ·
           intro w'
           go_simp
           with_reducible rfl
          rotate_left
          ·
           simp only [Act.put, List.setIfInBounds_toArray, List.set_cons_zero, List.set_cons_succ, i64_w, i32_w]
           rfl
          refine pure_ (i := 2) (N := some 34) (v := ?_) (a' := ?_) #[false, true, true, false, false, false, false, false, false, false] rfl rfl (any_of HT_.out (by kernel_rfl)) (fun _ _ _ h => h) (Or.inl ⟨by rfl, ?_⟩) ?_ ?_
          rotate_left
          ·
           intro w'
           go_simp
           with_reducible rfl
          rotate_left
          ·
           simp only [Act.put, List.setIfInBounds_toArray, List.set_cons_zero, List.set_cons_succ, i64_w, i32_w]
           rfl
          refine pure_ (i := 3) (N := some 35) (v := ?_) (a' := ?_) #[false, true, true, true, false, false, false, false, false, false] rfl rfl (any_of HT_.out (by kernel_rfl)) (fun _ _ _ h => h) (Or.inl ⟨by rfl, ?_⟩) ?_ ?_
          rotate_left
          ·
           intro w'
           go_simp
           with_reducible rfl
          rotate_left
          ·
           simp only [Act.put, List.setIfInBounds_toArray, List.set_cons_zero, List.set_cons_succ, i64_w, i32_w]
           rfl
          refine pure_ (i := 4) (N := some 36) (v := ?_) (a' := ?_) #[false, true, true, true, true, false, false, false, false, false] rfl rfl (any_of HT_.out (by kernel_rfl)) (fun _ _ _ h => h) (Or.inl ⟨by rfl, ?_⟩) ?_ ?_
          rotate_left
          ·
           intro w'
           go_simp
           with_reducible rfl
          rotate_left
          ·
           simp only [Act.put, List.setIfInBounds_toArray, List.set_cons_zero, List.set_cons_succ, i64_w, i32_w]
           rfl
          refine pure_ (i := 5) (N := some 37) (v := ?_) (a' := ?_) #[false, true, true, true, true, true, false, false, false, false] rfl rfl (any_of HT_.out (by kernel_rfl)) (fun _ _ _ h => h) (Or.inl ⟨by rfl, ?_⟩) ?_ ?_
          rotate_left
          ·
           intro w'
           go_simp
           with_reducible rfl
          rotate_left
          ·
           simp only [Act.put, List.setIfInBounds_toArray, List.set_cons_zero, List.set_cons_succ, i64_w, i32_w]
           rfl
          refine take_ (i := 0) (N := some 32) (v := ?_) (a' := ?_) #[true, true, true, true, true, true, false, false, false, false] rfl rfl (take_ofW HT_.out HW_.out (by kernel_rfl)) (fun _ _ _ h => h) (Or.inl ⟨by rfl, ?_⟩) hHeld ?_ ?_
          rotate_left
          ·
           rintro w' ⟨s0, s1, s2, s3⟩
           go_simp
           with_reducible rfl
          rotate_left
          ·
           simp only [Act.put, List.setIfInBounds_toArray, List.set_cons_zero, List.set_cons_succ, i64_w, i32_w]
           rfl
          refine take_ (i := 6) (N := some 38) (v := ?_) (a' := ?_) #[true, true, true, true, true, true, true, false, false, false] rfl rfl (take_ofW HT_.out HW_.out (by kernel_rfl)) (fun _ _ _ h => h) (Or.inl ⟨by rfl, ?_⟩) hHeld ?_ ?_
          rotate_left
          ·
           rintro w' ⟨s0, s1, s2, s3⟩
           go_simp
           with_reducible rfl
          rotate_left
          ·
           simp only [Act.put, List.setIfInBounds_toArray, List.set_cons_zero, List.set_cons_succ, i64_w, i32_w]
           rfl
          refine one_ (i := 7) (N := some 39) #[true, true, true, true, true, true, true, true, false, false] rfl rfl (one_of HT_.out (by kernel_rfl)) (by decide) (fun K hK => ?_)
          refine goes_ Try.func80 (by kernel_rfl) rfl #[.agg #[.int .i64 (rd l0_0 qf), .int .i64 1], .agg #[.int .i64 ((rd_T56 l1 qf).f0), .int .i64 ((rd_T56 l1 qf).f1)]] (by rfl) rfl rfl (by (try simp only [List.map_toArray, List.map_cons, List.map_nil]); first | done | rfl | (simp only [List.length_drop, List.length_take]; rfl)) ?_
          with_reducible refine (impl_MultiplyRatios.calls k2 (rd l0_0 qf) 1 ((rd_T56 l1 qf).f0) ((rd_T56 l1 qf).f1) zb zc _ A31.out).mono ?_
          rintro e zL ⟨rfl, hb⟩
          refine ⟨_, rfl, ?_⟩
          replace qa := kB_ qa hb; replace qb := kB_ qb hb; replace qe := kB_ qe hb; replace HB := bS_ HB hb; (try clear hb); (try clear hb2); (try clear hk); (try clear hi)
          refine hK.out _ _ ⟨bc_ qe 0, bc_ qe 1, ((HB.out.cell (World.block_lt_of_cell? w _ hw235_0)).trans hw235_0), ((HB.out.cell (World.block_lt_of_cell? w _ hw235_1)).trans hw235_1)⟩ (fun hHeld => ?_)
          clear hK K
          refine norm_ (a' := ?_) ?_ ?_
          rotate_left
          ·
           show Act.put _ (some 39) _ = _
           simp only [Act.put, List.setIfInBounds_toArray, List.set_cons_zero, List.set_cons_succ, i64_w, i32_w]
           rfl
          refine one_ (i := 8) (N := some 40) #[true, true, true, true, true, true, true, true, true, false] rfl rfl (one_of HT_.out (by kernel_rfl)) (by decide) (fun K hK => ?_)
          refine goes_ Try.func79 (by kernel_rfl) rfl #[.agg #[.int .i64 qc, .int .i64 qd], .agg #[.int .i64 zb, .int .i64 zc]] (by rfl) rfl rfl (by (try simp only [List.map_toArray, List.map_cons, List.map_nil]); first | done | rfl | (simp only [List.length_drop, List.length_take]; rfl)) ?_
          with_reducible refine (impl_AddRatios.calls k2 qc qd zb zc zd zg _ A32.out).mono ?_
          rintro e zE ⟨rfl, hb⟩
          refine ⟨_, rfl, ?_⟩
          replace qa := kB_ qa hb; replace qb := kB_ qb hb; replace qe := kB_ qe hb; replace HB := bS_ HB hb; (try clear hb); (try clear hb2); (try clear hk); (try clear hi)
          refine hK.out _ _ ⟨bc_ qe 0, bc_ qe 1, ((HB.out.cell (World.block_lt_of_cell? w _ hw235_0)).trans hw235_0), ((HB.out.cell (World.block_lt_of_cell? w _ hw235_1)).trans hw235_1)⟩ (fun hHeld => ?_)
          clear hK K
          refine norm_ (a' := ?_) ?_ ?_
          rotate_left
          ·
           show Act.put _ (some 40) _ = _
           simp only [Act.put, List.setIfInBounds_toArray, List.set_cons_zero, List.set_cons_succ, i64_w, i32_w]
           rfl
          refine last_ (i := 9) (N := none) #[true, true, true, true, true, true, true, true, true, true] rfl rfl (one_of HT_.out (by kernel_rfl)) (by decide) (fun K hK => ?_)
          have hs36 : zE.cell? ⟨ql, 0, none⟩ = some (.int .i64 qc) := bc_ qe 0
          have hfs36 := blk_frozen qe.out 0
          have hns36_0 := qp.out
          have hns36_1 := qm.out
          have hms36_0 := qq.out
          have hms36_1 := qh.out
          have hs37 : zE.cell? ⟨ql, 1, none⟩ = some (.int .i64 qd) := bc_ qe 1
          have hfs37 := blk_frozen qe.out 1
          have hns37_0 := qp.out
          have hns37_1 := qm.out
          have hms37_0 := qq.out
          have hms37_1 := qh.out
          refine skip_ (w1 := ?_) (by rfl) rfl ?_ ?_
          rotate_left
          ·
           go_simp
           rfl
          refine hK.out _ _ ?_
          clear hK K
          refine done_ (done_of HT_.out (by kernel_rfl)) ?_
          try go_wp2
          go_roundg k2
          case measure => have := HJ2.out; have := HK2.out; omega
          case rel => exact ⟨(wrap64 (qf + 1)), (zd), (zg), (by first | rfl | (simp; done) | (simp [*]; done)), H', ⟨by have := HJ2.out; have := HK2.out; omega⟩, ⟨kf_ qa⟩, ⟨kf_ qb⟩, ⟨by (with_reducible repeat (first | refine blk_drewN ?_ _ | refine blk_drew ?_ | refine blk_alloc ?_ _)); refine blk_put (cs := #[.int .i64 zd, .int .i64 qd]) ?_ 1 _ rfl; (with_reducible repeat (first | refine blk_drewN ?_ _ | refine blk_drew ?_ | refine blk_alloc ?_ _)); refine blk_put (cs := #[.int .i64 qc, .int .i64 qd]) ?_ 0 _ rfl; (with_reducible repeat (first | refine blk_drewN ?_ _ | refine blk_drew ?_ | refine blk_alloc ?_ _)); exact qe.out⟩, ⟨bb_ HB⟩⟩
         ·
          rw [if_neg c30] at H
          exact absurd H (by simp)
        ·
         rw [if_neg c29] at H
         exact absurd H (by simp)
       ·
        rw [if_neg c28] at H
        exact absurd H (by simp)
      ·
       rw [if_neg c27] at H
       have zi : decide (qf < (l0_0.length : Int)) = false := decide_eq_false c27
       clear c27
       replace H := Option.bind_eq_some_iff.mp H
       obtain ⟨qQ, A380, H⟩ := H
       replace H : (some (qc, qd, qQ)) = some (r1, r2, r3) := H
       have A38 := Aside0.mk A380
       clear A380
       simp only [Option.some.injEq, Prod.mk.injEq] at H
       obtain ⟨rfl, rfl, rfl⟩ := H
       try go_wp2
       replace qa := Aside0.mk (blk_drew qa.out); replace qb := Aside0.mk (blk_drew qb.out); replace qe := Aside0.mk (blk_drew qe.out); replace HB := Aside0.mk (below_drew1 HB.out)
       refine start_ (n := 5) (S := fun w' => w'.cell? ⟨ql, 0, none⟩ = some (.int .i64 qc) ∧ w'.cell? ⟨ql, 1, none⟩ = some (.int .i64 qd)) (ds := []) #[false, false, false, false, false] (by kernel_rfl) rfl rfl ⟨bc_ qe 0, bc_ qe 1⟩ (fun hHeld => ?_)
       generalize wr.drew = zM at qa qb qe HB hHeld ⊢
       refine take_ (i := 0) (N := some 42) (v := ?_) (a' := ?_) #[true, false, false, false, false] rfl rfl (by kernel_rfl) (fun _ _ _ h => h) (Or.inl ⟨by rfl, ?_⟩) hHeld ?_ ?_
       rotate_left
       ·
        rintro w' ⟨s0, s1⟩
        go_simp
        with_reducible rfl
       rotate_left
       ·
        simp only [Act.put, List.setIfInBounds_toArray, List.set_cons_zero, List.set_cons_succ, i64_w, i32_w]
        rfl
       refine take_ (i := 1) (N := some 43) (v := ?_) (a' := ?_) #[true, true, false, false, false] rfl rfl (by kernel_rfl) (fun _ _ _ h => h) (Or.inl ⟨by rfl, ?_⟩) hHeld ?_ ?_
       rotate_left
       ·
        rintro w' ⟨s0, s1⟩
        go_simp
        with_reducible rfl
       rotate_left
       ·
        simp only [Act.put, List.setIfInBounds_toArray, List.set_cons_zero, List.set_cons_succ, i64_w, i32_w]
        rfl
       refine one_ (i := 2) (N := some 44) #[true, true, true, false, false] rfl rfl (by kernel_rfl) (by decide) (fun K hK => ?_)
       refine goes_ Try.func70 (by kernel_rfl) rfl #[.agg #[.int .i64 qc, .int .i64 qd]] (by rfl) rfl rfl (by (try simp only [List.map_toArray, List.map_cons, List.map_nil]); first | done | rfl | (simp only [List.length_drop, List.length_take]; rfl)) ?_
       with_reducible refine (impl_IsRatio.calls k2 qc qd qQ _ A38.out).mono ?_
       rintro e zF ⟨rfl, hb⟩
       refine ⟨_, rfl, ?_⟩
       replace qa := kB_ qa hb; replace qb := kB_ qb hb; replace qe := kB_ qe hb; replace HB := bS_ HB hb; (try clear hb); (try clear hb2); (try clear hk); (try clear hi)
       refine hK.out _ _ ⟨bc_ qe 0, bc_ qe 1⟩ (fun hHeld => ?_)
       clear hK K
       refine norm_ (a' := ?_) ?_ ?_
       rotate_left
       ·
        show Act.put _ (some 44) _ = _
        simp only [Act.put, List.setIfInBounds_toArray, List.set_cons_zero, List.set_cons_succ, i64_w, i32_w]
        rfl
       refine one_ (i := 3) (N := none) #[true, true, true, true, false] rfl rfl (by kernel_rfl) (by decide) (fun K hK => ?_)
       have hs41 : zF.cell? ⟨qi, 0, none⟩ = some (.int .i64 0) := bc_ qb 0
       have hfs41 := blk_frozen qb.out 0
       have hns41_0 := qj.out
       have hns41_2 := qh.out
       have hms41_0 := qk.out
       have hms41_2 := qm.out
       have hs42 : zF.cell? ⟨qi, 1, none⟩ = some (.int .i64 0) := bc_ qb 1
       have hfs42 := blk_frozen qb.out 1
       have hns42_0 := qj.out
       have hns42_2 := qh.out
       have hms42_0 := qk.out
       have hms42_2 := qm.out
       refine skip_ (w1 := ?_) (by rfl) rfl ?_ ?_
       rotate_left
       ·
        go_simp
        rfl
       refine hK.out _ _ ⟨((cell_far (p := ⟨qi, _, none⟩) qh.out _).trans (((cell_far (p := ⟨qi, _, none⟩) qh.out _).trans (hHeld.1)))), ((cell_far (p := ⟨qi, _, none⟩) qh.out _).trans (((cell_far (p := ⟨qi, _, none⟩) qh.out _).trans (hHeld.2))))⟩ (fun hHeld => ?_)
       clear hK K
       refine pure_ (i := 4) (N := some 5) (v := ?_) (a' := ?_) #[true, true, true, true, true] rfl rfl (by kernel_rfl) (fun _ _ _ h => h) (Or.inl ⟨by rfl, ?_⟩) ?_ ?_
       rotate_left
       ·
        intro w'
        go_simp
        with_reducible rfl
       rotate_left
       ·
        simp only [Act.put, List.setIfInBounds_toArray, List.set_cons_zero, List.set_cons_succ, i64_w, i32_w]
        rfl
       refine done_ (by kernel_rfl) ?_
       try go_wp2
       refine bodyPost_ret (results_ct rfl _ _ qi 56 #[.int .i64 qc, .int .i64 qd] (0, 0) _ rfl (by (with_reducible repeat (first | refine blk_drewN ?_ _ | refine blk_drew ?_ | refine blk_alloc ?_ _)); refine blk_put (cs := #[.int .i64 qc, .int .i64 0]) ?_ 1 _ rfl; (with_reducible repeat (first | refine blk_drewN ?_ _ | refine blk_drew ?_ | refine blk_alloc ?_ _)); refine blk_put (cs := #[.int .i64 0, .int .i64 0]) ?_ 0 _ rfl; (with_reducible repeat (first | refine blk_drewN ?_ _ | refine blk_drew ?_ | refine blk_alloc ?_ _)); exact qb.out) Try.underlying56 rfl (by kernel_rfl)) rfl ?_
       exact ⟨by first | rfl | (simp [errW_none, errW_some] <;> rfl) | (simp [*, errW_none, errW_some] <;> rfl), bb_ HB⟩

/-! ### impl_HoldsAt: function 51 -/
def impl_HoldsAt.f (k : Nat) (l0_0 : List Int) (a0_1 : Int) (a0_2 : Bool) (l1 : List (S56)) : Option (Bool × Bool) := (impl_ValueOf.f k l0_0 a0_1 a0_2 l1).bind fun qh => (if qh.2.2 = true then (if qh.1 < 0 then (some (true, true)) else (if qh.1 = 0 then (some (!a0_2, true)) else (some (false, true)))) else (some (false, false)))
theorem impl_HoldsAt.mono : ∀ a0 a1 a2 a3 k, LeO (impl_HoldsAt.f k a0 a1 a2 a3) (impl_HoldsAt.f (k + 1) a0 a1 a2 a3) := by
 intro a0 a1 a2 a3 k
 unfold impl_HoldsAt.f
 repeat' first
   | (with_reducible exact impl_ValueOf.mono _ _ _ _ _)
   | (with_reducible exact LeO.refl _)
   | (with_reducible exact LeO.none _)
   | (with_reducible refine LeO.ite ?_ ?_)
   | (with_reducible refine LeO.bind ?_ (fun _ => ?_))
   | exact impl_ValueOf.mono _ _ _ _ _
   | exact LeO.none _
   | refine LeO.ite ?_ ?_
   | refine LeO.bind ?_ (fun _ => ?_)
set_option maxHeartbeats 8000000 in
set_option maxRecDepth 100000 in
theorem impl_HoldsAt.calls (k : Nat) (A0_0 : Option Addr) (c0_0 : Nat) (l0_0 : List Int) (a0_1 : Int) (a0_2 : Bool) (A1 : Option Addr) (c1 : Nat) (l1 : List (S56)) (r1 : Bool) (r2 : Bool) (w : World) (hr0_0 : Kd.C (Kd.int .i64) w A0_0 l0_0.length l0_0) (hc0_0 : l0_0.length ≤ c0_0) (hr1 : Kd.C k56 w A1 l1.length l1) (hc1 : l1.length ≤ c1) (h : impl_HoldsAt.f k l0_0 a0_1 a0_2 l1 = some (r1, r2)) :
  Calls Try.prog 51 #[.agg #[.slice A0_0 l0_0.length c0_0, .int .i64 a0_1, .bool a0_2], .slice A1 l1.length c1] w fun e w' => e = .returned (.tuple #[.bool r1, .bool r2]) ∧ Below w.heap.size w w' := by
 have hu26 := Try.underlying26
 have hu56 := Try.underlying56
 have qi := Aside0.mk hr0_0
 have qj := Aside0.mk hc0_0
 clear hr0_0 hc0_0
 have HR1 := Aside0.mk hr1
 have HC1 := Aside0.mk hc1
 clear hr1 hc1
 have HB := Aside0.mk (Below.refl w.heap.size w)
 have H : ((impl_ValueOf.f k l0_0 a0_1 a0_2 l1).bind fun qh => (if qh.2.2 = true then (if qh.1 < 0 then (some (true, true)) else (if qh.1 = 0 then (some (!a0_2, true)) else (some (false, true)))) else (some (false, false)))) = some (r1, r2) := h
 clear h
 replace H := Option.bind_eq_some_iff.mp H
 obtain ⟨⟨qg, qo, qp⟩, A30, H⟩ := H
 replace H : (if qp = true then (if qg < 0 then (some (true, true)) else (if qg = 0 then (some (!a0_2, true)) else (some (false, true)))) else (some (false, false))) = some (r1, r2) := H
 have A3 := Aside0.mk A30
 clear A30
 by_cases c4 : qp = true
 ·
  subst c4
  have H1 : (if qg < 0 then (some (true, true)) else (if qg = 0 then (some (!a0_2, true)) else (some (false, true)))) = some (r1, r2) := by rw [if_pos rfl] at H; exact H
  clear H
  have H := H1
  clear H1
  by_cases c5 : qg < 0
  ·
   rw [if_pos c5] at H
   have q7 : decide (qg < 0) = true := decide_eq_true c5
   clear c5
   simp only [Option.some.injEq, Prod.mk.injEq] at H
   obtain ⟨rfl, rfl⟩ := H
   go_enter Try.func51, Try.ntmps51
   go_wp2_with (first | ((with_reducible refine gate_dst (N := 2) rfl ?_); refine box_event ?hg (N := 2) ?hd (cs := #[.slice A0_0 l0_0.length c0_0, .int .i64 a0_1, .bool a0_2]) (t := 26) ?hr ?_; (case hd => rfl); (case hg => rfl); (case hr => first | (go_simp; done) | (go_simp; rfl)); intro qb hg w6 hbox hb; have qa := Aside0.mk (hbox); have qk := Aside0.mk ((by rw [hg]; exact (bz_ HB) : w.heap.size ≤ qb)); have ql := Aside0.mk ((by rw [hg]; exact (bz_ HB) : w.heap.size ≤ qb)); replace HB := bS_ HB hb; clear hb hbox hg; have q8 : w6.cell? ⟨qb, 0, none⟩ = some (.slice A0_0 l0_0.length c0_0) := bc_ qa 0; have q9 : w6.cell? ⟨qb, 1, none⟩ = some (.int .i64 a0_1) := bc_ qa 1; have za : w6.cell? ⟨qb, 2, none⟩ = some (.bool a0_2) := bc_ qa 2; have zb := blk_frozen qa.out 0; have zc := blk_frozen qa.out 1; have zd := blk_frozen qa.out 2) | ((with_reducible refine gate_callee (f := 47) rfl ?_); refine goesL_ (some 11) rfl rfl Try.func47 (by kernel_rfl) rfl #[.agg #[.slice A0_0 l0_0.length c0_0, .int .i64 a0_1, .bool a0_2], .slice A1 l1.length c1] rfl (by (try simp only [List.map_toArray, List.map_cons, List.map_nil]); first | done | rfl | (simp only [List.length_drop, List.length_take]; rfl)) ?_; (with_reducible refine (impl_ValueOf.calls k _ _ l0_0 a0_1 a0_2 _ _ l1 qg qo true _ ?side1 ?side2 ?side3 ?side4 A3.out).mono ?_); (case side1 => exact cb_ qi HB); (case side2 => exact qj.out); (case side3 => exact cb_ HR1 HB); (case side4 => exact HC1.out); rintro e w8 ⟨rfl, hb⟩; refine ⟨_, rfl, ?_⟩; replace qa := kB_ qa hb; replace HB := bS_ HB hb; (try clear hb); (try clear hb2); (try clear hk); (try clear hi)) | ((with_reducible refine gate_dst (N := 6) rfl ?_); refine box_event ?hg (N := 6) ?hd (cs := #[.int .i64 0, .int .i64 0]) (t := 56) ?hr ?_; (case hd => rfl); (case hg => rfl); (case hr => first | (go_simp; done) | (go_simp; rfl)); intro qc hg w9 hbox hb; have qd := Aside0.mk (hbox); have qm := Aside0.mk ((by rw [hg]; exact (bz_ HB) : w.heap.size ≤ qc)); have qn := Aside0.mk ((by rw [hg]; exact (bz_ HB) : w.heap.size ≤ qc)); replace HB := bS_ HB hb; have qe := Aside0.mk ((nl_ qa hg : qb ≠ qc)); have qf := Aside0.mk ((ng_ qa hg : qc ≠ qb)); replace qa := kB_ qa hb; clear hb hbox hg; have zh := qf.out; have zi := qe.out; have qt : w9.cell? ⟨qc, 0, none⟩ = some (.int .i64 0) := bc_ qd 0; have qu : w9.cell? ⟨qc, 1, none⟩ = some (.int .i64 0) := bc_ qd 1; have qv := blk_frozen qd.out 0; have qw := blk_frozen qd.out 1))
   go_ret2
   exact ⟨by first | rfl | (simp [errW_none, errW_some] <;> rfl) | (simp [*, errW_none, errW_some] <;> rfl), bb_ HB⟩
  ·
   rw [if_neg c5] at H
   have q7 : decide (qg < 0) = false := decide_eq_false c5
   clear c5
   by_cases c12 : qg = 0
   ·
    rw [if_pos c12] at H
    have qq : (qg == 0) = true := beq_iff_eq.mpr c12
    have qr : (qg != 0) = false := bne_eq_false_iff_eq.mpr c12
    clear c12
    simp only [Option.some.injEq, Prod.mk.injEq] at H
    obtain ⟨rfl, rfl⟩ := H
    go_enter Try.func51, Try.ntmps51
    go_wp2_with (first | ((with_reducible refine gate_dst (N := 2) rfl ?_); refine box_event ?hg (N := 2) ?hd (cs := #[.slice A0_0 l0_0.length c0_0, .int .i64 a0_1, .bool a0_2]) (t := 26) ?hr ?_; (case hd => rfl); (case hg => rfl); (case hr => first | (go_simp; done) | (go_simp; rfl)); intro qb hg ze hbox hb; have qa := Aside0.mk (hbox); have qk := Aside0.mk ((by rw [hg]; exact (bz_ HB) : w.heap.size ≤ qb)); have ql := Aside0.mk ((by rw [hg]; exact (bz_ HB) : w.heap.size ≤ qb)); replace HB := bS_ HB hb; clear hb hbox hg; have qx : ze.cell? ⟨qb, 0, none⟩ = some (.slice A0_0 l0_0.length c0_0) := bc_ qa 0; have qy : ze.cell? ⟨qb, 1, none⟩ = some (.int .i64 a0_1) := bc_ qa 1; have qz : ze.cell? ⟨qb, 2, none⟩ = some (.bool a0_2) := bc_ qa 2; have qA := blk_frozen qa.out 0; have qB := blk_frozen qa.out 1; have qC := blk_frozen qa.out 2) | ((with_reducible refine gate_callee (f := 47) rfl ?_); refine goesL_ (some 11) rfl rfl Try.func47 (by kernel_rfl) rfl #[.agg #[.slice A0_0 l0_0.length c0_0, .int .i64 a0_1, .bool a0_2], .slice A1 l1.length c1] rfl (by (try simp only [List.map_toArray, List.map_cons, List.map_nil]); first | done | rfl | (simp only [List.length_drop, List.length_take]; rfl)) ?_; (with_reducible refine (impl_ValueOf.calls k _ _ l0_0 a0_1 a0_2 _ _ l1 qg qo true _ ?side1 ?side2 ?side3 ?side4 A3.out).mono ?_); (case side1 => exact cb_ qi HB); (case side2 => exact qj.out); (case side3 => exact cb_ HR1 HB); (case side4 => exact HC1.out); rintro e zr ⟨rfl, hb⟩; refine ⟨_, rfl, ?_⟩; replace qa := kB_ qa hb; replace HB := bS_ HB hb; (try clear hb); (try clear hb2); (try clear hk); (try clear hi)) | ((with_reducible refine gate_dst (N := 6) rfl ?_); refine box_event ?hg (N := 6) ?hd (cs := #[.int .i64 0, .int .i64 0]) (t := 56) ?hr ?_; (case hd => rfl); (case hg => rfl); (case hr => first | (go_simp; done) | (go_simp; rfl)); intro qc hg qs hbox hb; have qd := Aside0.mk (hbox); have qm := Aside0.mk ((by rw [hg]; exact (bz_ HB) : w.heap.size ≤ qc)); have qn := Aside0.mk ((by rw [hg]; exact (bz_ HB) : w.heap.size ≤ qc)); replace HB := bS_ HB hb; have qe := Aside0.mk ((nl_ qa hg : qb ≠ qc)); have qf := Aside0.mk ((ng_ qa hg : qc ≠ qb)); replace qa := kB_ qa hb; clear hb hbox hg; have zj := qf.out; have zk := qe.out; have qD : qs.cell? ⟨qc, 0, none⟩ = some (.int .i64 0) := bc_ qd 0; have qE : qs.cell? ⟨qc, 1, none⟩ = some (.int .i64 0) := bc_ qd 1; have qF := blk_frozen qd.out 0; have qG := blk_frozen qd.out 1; have qH : qs.cell? ⟨qb, 0, none⟩ = some (.slice A0_0 l0_0.length c0_0) := bc_ qa 0; have qI : qs.cell? ⟨qb, 1, none⟩ = some (.int .i64 a0_1) := bc_ qa 1; have qJ : qs.cell? ⟨qb, 2, none⟩ = some (.bool a0_2) := bc_ qa 2; have qK := blk_frozen qa.out 0; have qL := blk_frozen qa.out 1; have qM := blk_frozen qa.out 2))
    go_ret2
    exact ⟨by first | rfl | (simp [errW_none, errW_some] <;> rfl) | (simp [*, errW_none, errW_some] <;> rfl), bb_ HB⟩
   ·
    rw [if_neg c12] at H
    have qq : (qg == 0) = false := beq_eq_false_iff_ne.mpr c12
    have qr : (qg != 0) = true := bne_iff_ne.mpr c12
    simp only [Option.some.injEq, Prod.mk.injEq] at H
    obtain ⟨rfl, rfl⟩ := H
    go_enter Try.func51, Try.ntmps51
    go_wp2_with (first | ((with_reducible refine gate_dst (N := 2) rfl ?_); refine box_event ?hg (N := 2) ?hd (cs := #[.slice A0_0 l0_0.length c0_0, .int .i64 a0_1, .bool a0_2]) (t := 26) ?hr ?_; (case hd => rfl); (case hg => rfl); (case hr => first | (go_simp; done) | (go_simp; rfl)); intro qb hg zf hbox hb; have qa := Aside0.mk (hbox); have qk := Aside0.mk ((by rw [hg]; exact (bz_ HB) : w.heap.size ≤ qb)); have ql := Aside0.mk ((by rw [hg]; exact (bz_ HB) : w.heap.size ≤ qb)); replace HB := bS_ HB hb; clear hb hbox hg; have qN : zf.cell? ⟨qb, 0, none⟩ = some (.slice A0_0 l0_0.length c0_0) := bc_ qa 0; have qO : zf.cell? ⟨qb, 1, none⟩ = some (.int .i64 a0_1) := bc_ qa 1; have qP : zf.cell? ⟨qb, 2, none⟩ = some (.bool a0_2) := bc_ qa 2; have qQ := blk_frozen qa.out 0; have qR := blk_frozen qa.out 1; have qS := blk_frozen qa.out 2) | ((with_reducible refine gate_callee (f := 47) rfl ?_); refine goesL_ (some 11) rfl rfl Try.func47 (by kernel_rfl) rfl #[.agg #[.slice A0_0 l0_0.length c0_0, .int .i64 a0_1, .bool a0_2], .slice A1 l1.length c1] rfl (by (try simp only [List.map_toArray, List.map_cons, List.map_nil]); first | done | rfl | (simp only [List.length_drop, List.length_take]; rfl)) ?_; (with_reducible refine (impl_ValueOf.calls k _ _ l0_0 a0_1 a0_2 _ _ l1 qg qo true _ ?side1 ?side2 ?side3 ?side4 A3.out).mono ?_); (case side1 => exact cb_ qi HB); (case side2 => exact qj.out); (case side3 => exact cb_ HR1 HB); (case side4 => exact HC1.out); rintro e zs ⟨rfl, hb⟩; refine ⟨_, rfl, ?_⟩; replace qa := kB_ qa hb; replace HB := bS_ HB hb; (try clear hb); (try clear hb2); (try clear hk); (try clear hi)) | ((with_reducible refine gate_dst (N := 6) rfl ?_); refine box_event ?hg (N := 6) ?hd (cs := #[.int .i64 0, .int .i64 0]) (t := 56) ?hr ?_; (case hd => rfl); (case hg => rfl); (case hr => first | (go_simp; done) | (go_simp; rfl)); intro qc hg zl hbox hb; have qd := Aside0.mk (hbox); have qm := Aside0.mk ((by rw [hg]; exact (bz_ HB) : w.heap.size ≤ qc)); have qn := Aside0.mk ((by rw [hg]; exact (bz_ HB) : w.heap.size ≤ qc)); replace HB := bS_ HB hb; have qe := Aside0.mk ((nl_ qa hg : qb ≠ qc)); have qf := Aside0.mk ((ng_ qa hg : qc ≠ qb)); replace qa := kB_ qa hb; clear hb hbox hg; have zm := qf.out; have zn := qe.out; have qT : zl.cell? ⟨qc, 0, none⟩ = some (.int .i64 0) := bc_ qd 0; have qU : zl.cell? ⟨qc, 1, none⟩ = some (.int .i64 0) := bc_ qd 1; have qV := blk_frozen qd.out 0; have qW := blk_frozen qd.out 1))
    go_ret2
    exact ⟨by first | rfl | (simp [errW_none, errW_some] <;> rfl) | (simp [*, errW_none, errW_some] <;> rfl), bb_ HB⟩
 ·
  replace c4 := Bool.eq_false_iff.mpr c4
  subst c4
  have H1 : (some (false, false)) = some (r1, r2) := by rw [if_neg (show ¬ (false = true) by decide)] at H; exact H
  clear H
  have H := H1
  clear H1
  simp only [Option.some.injEq, Prod.mk.injEq] at H
  obtain ⟨rfl, rfl⟩ := H
  go_enter Try.func51, Try.ntmps51
  go_wp2_with (first | ((with_reducible refine gate_dst (N := 2) rfl ?_); refine box_event ?hg (N := 2) ?hd (cs := #[.slice A0_0 l0_0.length c0_0, .int .i64 a0_1, .bool a0_2]) (t := 26) ?hr ?_; (case hd => rfl); (case hg => rfl); (case hr => first | (go_simp; done) | (go_simp; rfl)); intro qb hg zg hbox hb; have qa := Aside0.mk (hbox); have qk := Aside0.mk ((by rw [hg]; exact (bz_ HB) : w.heap.size ≤ qb)); have ql := Aside0.mk ((by rw [hg]; exact (bz_ HB) : w.heap.size ≤ qb)); replace HB := bS_ HB hb; clear hb hbox hg; have qX : zg.cell? ⟨qb, 0, none⟩ = some (.slice A0_0 l0_0.length c0_0) := bc_ qa 0; have qY : zg.cell? ⟨qb, 1, none⟩ = some (.int .i64 a0_1) := bc_ qa 1; have qZ : zg.cell? ⟨qb, 2, none⟩ = some (.bool a0_2) := bc_ qa 2; have q0 := blk_frozen qa.out 0; have q1 := blk_frozen qa.out 1; have q2 := blk_frozen qa.out 2) | ((with_reducible refine gate_callee (f := 47) rfl ?_); refine goesL_ (some 11) rfl rfl Try.func47 (by kernel_rfl) rfl #[.agg #[.slice A0_0 l0_0.length c0_0, .int .i64 a0_1, .bool a0_2], .slice A1 l1.length c1] rfl (by (try simp only [List.map_toArray, List.map_cons, List.map_nil]); first | done | rfl | (simp only [List.length_drop, List.length_take]; rfl)) ?_; (with_reducible refine (impl_ValueOf.calls k _ _ l0_0 a0_1 a0_2 _ _ l1 qg qo false _ ?side1 ?side2 ?side3 ?side4 A3.out).mono ?_); (case side1 => exact cb_ qi HB); (case side2 => exact qj.out); (case side3 => exact cb_ HR1 HB); (case side4 => exact HC1.out); rintro e zt ⟨rfl, hb⟩; refine ⟨_, rfl, ?_⟩; replace qa := kB_ qa hb; replace HB := bS_ HB hb; (try clear hb); (try clear hb2); (try clear hk); (try clear hi)) | ((with_reducible refine gate_dst (N := 6) rfl ?_); refine box_event ?hg (N := 6) ?hd (cs := #[.int .i64 0, .int .i64 0]) (t := 56) ?hr ?_; (case hd => rfl); (case hg => rfl); (case hr => first | (go_simp; done) | (go_simp; rfl)); intro qc hg zo hbox hb; have qd := Aside0.mk (hbox); have qm := Aside0.mk ((by rw [hg]; exact (bz_ HB) : w.heap.size ≤ qc)); have qn := Aside0.mk ((by rw [hg]; exact (bz_ HB) : w.heap.size ≤ qc)); replace HB := bS_ HB hb; have qe := Aside0.mk ((nl_ qa hg : qb ≠ qc)); have qf := Aside0.mk ((ng_ qa hg : qc ≠ qb)); replace qa := kB_ qa hb; clear hb hbox hg; have zp := qf.out; have zq := qe.out; have q3 : zo.cell? ⟨qc, 0, none⟩ = some (.int .i64 0) := bc_ qd 0; have q4 : zo.cell? ⟨qc, 1, none⟩ = some (.int .i64 0) := bc_ qd 1; have q5 := blk_frozen qd.out 0; have q6 := blk_frozen qd.out 1))
  go_ret2
  exact ⟨by first | rfl | (simp [errW_none, errW_some] <;> rfl) | (simp [*, errW_none, errW_some] <;> rfl), bb_ HB⟩

/-! ### laws_FnExactHoldsAt: function 12 -/
def laws_FnExactHoldsAt.j0 : Nat → List (S54) → List (S56) → Bool → List Int → Int → Bool → List Int → Int → Bool → Option (Bool)
 | 0, _, _, _, _, _, _, _, _, _ => none
 | k + 1, x1, x9, x47, x247000, x247001, x247002, x265000, x265001, x265002 => if x47 = true then (some false) else ((laws_toAtom.f k x247000 x247001 x247002).bind fun qD => ((laws_eqAtom.f k x265000 x265001 x265002 qD.1 qD.2.1 qD.2.2).bind fun qL => (if qL = true then ((laws_toRatioS.f k x1).bind fun qs => ((laws_eqRatioS.f k x9 qs).bind fun qx => (if qx = true then (some true) else (some false)))) else (some false))))
def laws_FnExactHoldsAt.f (k : Nat) (l0_0 : List Int) (a0_1 : Int) (a0_2 : Bool) (l1 : List (S54)) : Option (Bool) := (laws_szAtom.f l0_0 a0_1 a0_2 1048576).bind fun qr => (if qr < 0 then (some true) else ((laws_szRatioS.f l1 qr).bind fun qC => (if qC < 0 then (some true) else ((laws_toAtom.f k l0_0 a0_1 a0_2).bind fun qp => ((laws_toRatioS.f k l1).bind fun qy => ((spec_HoldsAt.f k qp.1 qp.2.1 qp.2.2 qy).bind fun qn => ((laws_toAtom.f k l0_0 a0_1 a0_2).bind fun qd => ((laws_toRatioS.f k l1).bind fun qf => ((impl_HoldsAt.f k qd.1 qd.2.1 qd.2.2 qf).bind fun qg => (if (qg.1 != qn.1) = true then (laws_FnExactHoldsAt.j0 k l1 qf true l0_0 a0_1 a0_2 qd.1 qd.2.1 qd.2.2) else (laws_FnExactHoldsAt.j0 k l1 qf (qg.2 != qn.2) l0_0 a0_1 a0_2 qd.1 qd.2.1 qd.2.2)))))))))))
theorem laws_FnExactHoldsAt.mono_l : ∀ k, (∀ y0 y1 y2 y3 y4 y5 y6 y7 y8, LeO (laws_FnExactHoldsAt.j0 k y0 y1 y2 y3 y4 y5 y6 y7 y8) (laws_FnExactHoldsAt.j0 (k + 1) y0 y1 y2 y3 y4 y5 y6 y7 y8))
 | 0 => fun _ _ _ _ _ _ _ _ _ r h => by simp [laws_FnExactHoldsAt.j0] at h
 | k + 1 => by
  have ih0 := laws_FnExactHoldsAt.mono_l k
  ·
   intro y0 y1 y2 y3 y4 y5 y6 y7 y8
   unfold laws_FnExactHoldsAt.j0
   repeat' first
   | (with_reducible exact ih0 _ _ _ _ _ _ _ _ _)
   | (with_reducible exact impl_HoldsAt.mono _ _ _ _ _)
   | (with_reducible exact laws_eqAtom.mono _ _ _ _ _ _ _)
   | (with_reducible exact laws_eqRatioS.mono _ _ _)
   | (with_reducible exact laws_toAtom.mono _ _ _ _)
   | (with_reducible exact laws_toRatioS.mono _ _)
   | (with_reducible exact spec_HoldsAt.mono _ _ _ _ _)
   | (with_reducible exact LeO.refl _)
   | (with_reducible exact LeO.none _)
   | (with_reducible refine LeO.ite ?_ ?_)
   | (with_reducible refine LeO.bind ?_ (fun _ => ?_))
   | exact ih0 _ _ _ _ _ _ _ _ _
   | exact impl_HoldsAt.mono _ _ _ _ _
   | exact laws_eqAtom.mono _ _ _ _ _ _ _
   | exact laws_eqRatioS.mono _ _ _
   | exact laws_toAtom.mono _ _ _ _
   | exact laws_toRatioS.mono _ _
   | exact spec_HoldsAt.mono _ _ _ _ _
   | exact LeO.none _
   | refine LeO.ite ?_ ?_
   | refine LeO.bind ?_ (fun _ => ?_)
theorem laws_FnExactHoldsAt.mono : ∀ a0 a1 a2 a3 k, LeO (laws_FnExactHoldsAt.f k a0 a1 a2 a3) (laws_FnExactHoldsAt.f (k + 1) a0 a1 a2 a3) := by
 intro a0 a1 a2 a3 k
 have ih0 := laws_FnExactHoldsAt.mono_l k
 unfold laws_FnExactHoldsAt.f
 repeat' first
   | (with_reducible exact ih0 _ _ _ _ _ _ _ _ _)
   | (with_reducible exact impl_HoldsAt.mono _ _ _ _ _)
   | (with_reducible exact laws_eqAtom.mono _ _ _ _ _ _ _)
   | (with_reducible exact laws_eqRatioS.mono _ _ _)
   | (with_reducible exact laws_toAtom.mono _ _ _ _)
   | (with_reducible exact laws_toRatioS.mono _ _)
   | (with_reducible exact spec_HoldsAt.mono _ _ _ _ _)
   | (with_reducible exact LeO.refl _)
   | (with_reducible exact LeO.none _)
   | (with_reducible refine LeO.ite ?_ ?_)
   | (with_reducible refine LeO.bind ?_ (fun _ => ?_))
   | exact ih0 _ _ _ _ _ _ _ _ _
   | exact impl_HoldsAt.mono _ _ _ _ _
   | exact laws_eqAtom.mono _ _ _ _ _ _ _
   | exact laws_eqRatioS.mono _ _ _
   | exact laws_toAtom.mono _ _ _ _
   | exact laws_toRatioS.mono _ _
   | exact spec_HoldsAt.mono _ _ _ _ _
   | exact LeO.none _
   | refine LeO.ite ?_ ?_
   | refine LeO.bind ?_ (fun _ => ?_)
set_option maxHeartbeats 8000000 in
set_option maxRecDepth 100000 in
theorem laws_FnExactHoldsAt.calls (k : Nat) (A0_0 : Option Addr) (c0_0 : Nat) (l0_0 : List Int) (a0_1 : Int) (a0_2 : Bool) (A1 : Option Addr) (c1 : Nat) (l1 : List (S54)) (r : Bool) (w : World) (hr0_0 : Kd.C (Kd.int .i64) w A0_0 l0_0.length l0_0) (hc0_0 : l0_0.length ≤ c0_0) (hr1 : Kd.C k54 w A1 l1.length l1) (hc1 : l1.length ≤ c1) (h : laws_FnExactHoldsAt.f k l0_0 a0_1 a0_2 l1 = some r) :
  Calls Try.prog 12 #[.agg #[.slice A0_0 l0_0.length c0_0, .int .i64 a0_1, .bool a0_2], .slice A1 l1.length c1] w fun e w' => e = .returned (.bool r) ∧ Below w.heap.size w w' := by
 have hu24 := Try.underlying24
 have hu26 := Try.underlying26
 have qA := Aside0.mk hr0_0
 have qB := Aside0.mk hc0_0
 clear hr0_0 hc0_0
 have HR1 := Aside0.mk hr1
 have HC1 := Aside0.mk hc1
 clear hr1 hc1
 have HB := Aside0.mk (Below.refl w.heap.size w)
 have H : ((laws_szAtom.f l0_0 a0_1 a0_2 1048576).bind fun qr => (if qr < 0 then (some true) else ((laws_szRatioS.f l1 qr).bind fun qC => (if qC < 0 then (some true) else ((laws_toAtom.f k l0_0 a0_1 a0_2).bind fun qp => ((laws_toRatioS.f k l1).bind fun qy => ((spec_HoldsAt.f k qp.1 qp.2.1 qp.2.2 qy).bind fun qn => ((laws_toAtom.f k l0_0 a0_1 a0_2).bind fun qd => ((laws_toRatioS.f k l1).bind fun qf => ((impl_HoldsAt.f k qd.1 qd.2.1 qd.2.2 qf).bind fun qg => (if (qg.1 != qn.1) = true then (laws_FnExactHoldsAt.j0 k l1 qf true l0_0 a0_1 a0_2 qd.1 qd.2.1 qd.2.2) else (laws_FnExactHoldsAt.j0 k l1 qf (qg.2 != qn.2) l0_0 a0_1 a0_2 qd.1 qd.2.1 qd.2.2)))))))))))) = some r := h
 clear h
 replace H := Option.bind_eq_some_iff.mp H
 obtain ⟨qr, A30, H⟩ := H
 replace H : (if qr < 0 then (some true) else ((laws_szRatioS.f l1 qr).bind fun qC => (if qC < 0 then (some true) else ((laws_toAtom.f k l0_0 a0_1 a0_2).bind fun qp => ((laws_toRatioS.f k l1).bind fun qy => ((spec_HoldsAt.f k qp.1 qp.2.1 qp.2.2 qy).bind fun qn => ((laws_toAtom.f k l0_0 a0_1 a0_2).bind fun qd => ((laws_toRatioS.f k l1).bind fun qf => ((impl_HoldsAt.f k qd.1 qd.2.1 qd.2.2 qf).bind fun qg => (if (qg.1 != qn.1) = true then (laws_FnExactHoldsAt.j0 k l1 qf true l0_0 a0_1 a0_2 qd.1 qd.2.1 qd.2.2) else (laws_FnExactHoldsAt.j0 k l1 qf (qg.2 != qn.2) l0_0 a0_1 a0_2 qd.1 qd.2.1 qd.2.2))))))))))) = some r := H
 have A3 := Aside0.mk A30
 clear A30
 by_cases c4 : qr < 0
 ·
  rw [if_pos c4] at H
  have zG : decide (qr < 0) = true := decide_eq_true c4
  clear c4
  obtain rfl := Option.some.inj H
  go_enter Try.func12, Try.ntmps12
  go_wp2_with (first | ((with_reducible refine gate_dst (N := 2) rfl ?_); refine box_event ?hg (N := 2) ?hd (cs := #[.slice A0_0 l0_0.length c0_0, .int .i64 a0_1, .bool a0_2]) (t := 24) ?hr ?_; (case hd => rfl); (case hg => rfl); (case hr => first | (go_simp; done) | (go_simp; rfl)); intro qe hg w5 hbox hb; have qa := Aside0.mk (hbox); have zu := Aside0.mk ((by rw [hg]; exact (bz_ HB) : w.heap.size ≤ qe)); have zv := Aside0.mk ((by rw [hg]; exact (bz_ HB) : w.heap.size ≤ qe)); replace HB := bS_ HB hb; clear hb hbox hg; have zz : w5.cell? ⟨qe, 0, none⟩ = some (.slice A0_0 l0_0.length c0_0) := bc_ qa 0; have zA : w5.cell? ⟨qe, 1, none⟩ = some (.int .i64 a0_1) := bc_ qa 1; have zB : w5.cell? ⟨qe, 2, none⟩ = some (.bool a0_2) := bc_ qa 2; have zC := blk_frozen qa.out 0; have zD := blk_frozen qa.out 1; have zE := blk_frozen qa.out 2) | ((with_reducible refine gate_callee (f := 13) rfl ?_); refine goesL_ (some 14) rfl rfl Try.func13 (by kernel_rfl) rfl #[.agg #[.slice A0_0 l0_0.length c0_0, .int .i64 a0_1, .bool a0_2], .int .i64 1048576] rfl (by (try simp only [List.map_toArray, List.map_cons, List.map_nil]); first | done | rfl | (simp only [List.length_drop, List.length_take]; rfl)) ?_; (with_reducible refine (laws_szAtom.calls _ _ l0_0 a0_1 a0_2 1048576 qr _ ?side1 ?side2 A3.out).mono ?_); (case side1 => exact cb_ qA HB); (case side2 => exact qB.out); rintro e w7 ⟨rfl, hb⟩; refine ⟨_, rfl, ?_⟩; replace qa := kB_ qa hb; replace HB := bS_ HB hb; (try clear hb); (try clear hb2); (try clear hk); (try clear hi)))
  go_ret
  exact ⟨by first | rfl | (simp [errW_none, errW_some] <;> rfl) | (simp [*, errW_none, errW_some] <;> rfl), bb_ HB⟩
 ·
  rw [if_neg c4] at H
  have zG : decide (qr < 0) = false := decide_eq_false c4
  clear c4
  replace H := Option.bind_eq_some_iff.mp H
  obtain ⟨qC, A80, H⟩ := H
  replace H : (if qC < 0 then (some true) else ((laws_toAtom.f k l0_0 a0_1 a0_2).bind fun qp => ((laws_toRatioS.f k l1).bind fun qy => ((spec_HoldsAt.f k qp.1 qp.2.1 qp.2.2 qy).bind fun qn => ((laws_toAtom.f k l0_0 a0_1 a0_2).bind fun qd => ((laws_toRatioS.f k l1).bind fun qf => ((impl_HoldsAt.f k qd.1 qd.2.1 qd.2.2 qf).bind fun qg => (if (qg.1 != qn.1) = true then (laws_FnExactHoldsAt.j0 k l1 qf true l0_0 a0_1 a0_2 qd.1 qd.2.1 qd.2.2) else (laws_FnExactHoldsAt.j0 k l1 qf (qg.2 != qn.2) l0_0 a0_1 a0_2 qd.1 qd.2.1 qd.2.2))))))))) = some r := H
  have A8 := Aside0.mk A80
  clear A80
  by_cases c9 : qC < 0
  ·
   rw [if_pos c9] at H
   have zH : decide (qC < 0) = true := decide_eq_true c9
   clear c9
   obtain rfl := Option.some.inj H
   go_enter Try.func12, Try.ntmps12
   go_wp2_with (first | ((with_reducible refine gate_dst (N := 2) rfl ?_); refine box_event ?hg (N := 2) ?hd (cs := #[.slice A0_0 l0_0.length c0_0, .int .i64 a0_1, .bool a0_2]) (t := 24) ?hr ?_; (case hd => rfl); (case hg => rfl); (case hr => first | (go_simp; done) | (go_simp; rfl)); intro qe hg zJ hbox hb; have qa := Aside0.mk (hbox); have zu := Aside0.mk ((by rw [hg]; exact (bz_ HB) : w.heap.size ≤ qe)); have zv := Aside0.mk ((by rw [hg]; exact (bz_ HB) : w.heap.size ≤ qe)); replace HB := bS_ HB hb; clear hb hbox hg; have qS : zJ.cell? ⟨qe, 0, none⟩ = some (.slice A0_0 l0_0.length c0_0) := bc_ qa 0; have qT : zJ.cell? ⟨qe, 1, none⟩ = some (.int .i64 a0_1) := bc_ qa 1; have qU : zJ.cell? ⟨qe, 2, none⟩ = some (.bool a0_2) := bc_ qa 2; have qV := blk_frozen qa.out 0; have qW := blk_frozen qa.out 1; have qX := blk_frozen qa.out 2) | ((with_reducible refine gate_callee (f := 13) rfl ?_); refine goesL_ (some 14) rfl rfl Try.func13 (by kernel_rfl) rfl #[.agg #[.slice A0_0 l0_0.length c0_0, .int .i64 a0_1, .bool a0_2], .int .i64 1048576] rfl (by (try simp only [List.map_toArray, List.map_cons, List.map_nil]); first | done | rfl | (simp only [List.length_drop, List.length_take]; rfl)) ?_; (with_reducible refine (laws_szAtom.calls _ _ l0_0 a0_1 a0_2 1048576 qr _ ?side1 ?side2 A3.out).mono ?_); (case side1 => exact cb_ qA HB); (case side2 => exact qB.out); rintro e jc ⟨rfl, hb⟩; refine ⟨_, rfl, ?_⟩; replace qa := kB_ qa hb; replace HB := bS_ HB hb; (try clear hb); (try clear hb2); (try clear hk); (try clear hi)) | ((with_reducible refine gate_callee (f := 44) rfl ?_); refine goesL_ (some 19) rfl rfl Try.func44 (by kernel_rfl) rfl #[.slice A1 l1.length c1, .int .i64 qr] rfl (by (try simp only [List.map_toArray, List.map_cons, List.map_nil]); first | done | rfl | (simp only [List.length_drop, List.length_take]; rfl)) ?_; (with_reducible refine (laws_szRatioS.calls _ _ l1 qr qC _ ?side1 ?side2 A8.out).mono ?_); (case side1 => exact cb_ HR1 HB); (case side2 => exact HC1.out); rintro e w' ⟨rfl, ⟨nd, rfl⟩⟩; refine ⟨_, rfl, ?_⟩))
   go_ret
   exact ⟨by first | rfl | (simp [errW_none, errW_some] <;> rfl) | (simp [*, errW_none, errW_some] <;> rfl), bb_ HB⟩
  ·
   rw [if_neg c9] at H
   have zH : decide (qC < 0) = false := decide_eq_false c9
   clear c9
   replace H := Option.bind_eq_some_iff.mp H
   obtain ⟨⟨qP, qQ, qR⟩, A130, H⟩ := H
   replace H : ((laws_toRatioS.f k l1).bind fun qy => ((spec_HoldsAt.f k qP qQ qR qy).bind fun qn => ((laws_toAtom.f k l0_0 a0_1 a0_2).bind fun qd => ((laws_toRatioS.f k l1).bind fun qf => ((impl_HoldsAt.f k qd.1 qd.2.1 qd.2.2 qf).bind fun qg => (if (qg.1 != qn.1) = true then (laws_FnExactHoldsAt.j0 k l1 qf true l0_0 a0_1 a0_2 qd.1 qd.2.1 qd.2.2) else (laws_FnExactHoldsAt.j0 k l1 qf (qg.2 != qn.2) l0_0 a0_1 a0_2 qd.1 qd.2.1 qd.2.2))))))) = some r := H
   have A13 := Aside0.mk A130
   clear A130
   replace H := Option.bind_eq_some_iff.mp H
   obtain ⟨qy, A140, H⟩ := H
   replace H : ((spec_HoldsAt.f k qP qQ qR qy).bind fun qn => ((laws_toAtom.f k l0_0 a0_1 a0_2).bind fun qd => ((laws_toRatioS.f k l1).bind fun qf => ((impl_HoldsAt.f k qd.1 qd.2.1 qd.2.2 qf).bind fun qg => (if (qg.1 != qn.1) = true then (laws_FnExactHoldsAt.j0 k l1 qf true l0_0 a0_1 a0_2 qd.1 qd.2.1 qd.2.2) else (laws_FnExactHoldsAt.j0 k l1 qf (qg.2 != qn.2) l0_0 a0_1 a0_2 qd.1 qd.2.1 qd.2.2)))))) = some r := H
   have A14 := Aside0.mk A140
   clear A140
   replace H := Option.bind_eq_some_iff.mp H
   obtain ⟨⟨qz, qM⟩, A150, H⟩ := H
   replace H : ((laws_toAtom.f k l0_0 a0_1 a0_2).bind fun qd => ((laws_toRatioS.f k l1).bind fun qf => ((impl_HoldsAt.f k qd.1 qd.2.1 qd.2.2 qf).bind fun qg => (if (qg.1 != qz) = true then (laws_FnExactHoldsAt.j0 k l1 qf true l0_0 a0_1 a0_2 qd.1 qd.2.1 qd.2.2) else (laws_FnExactHoldsAt.j0 k l1 qf (qg.2 != qM) l0_0 a0_1 a0_2 qd.1 qd.2.1 qd.2.2))))) = some r := H
   have A15 := Aside0.mk A150
   clear A150
   replace H := Option.bind_eq_some_iff.mp H
   obtain ⟨⟨qj, ql, qm⟩, A160, H⟩ := H
   replace H : ((laws_toRatioS.f k l1).bind fun qf => ((impl_HoldsAt.f k qj ql qm qf).bind fun qg => (if (qg.1 != qz) = true then (laws_FnExactHoldsAt.j0 k l1 qf true l0_0 a0_1 a0_2 qj ql qm) else (laws_FnExactHoldsAt.j0 k l1 qf (qg.2 != qM) l0_0 a0_1 a0_2 qj ql qm)))) = some r := H
   have A16 := Aside0.mk A160
   clear A160
   replace H := Option.bind_eq_some_iff.mp H
   obtain ⟨qf, A170, H⟩ := H
   replace H : ((impl_HoldsAt.f k qj ql qm qf).bind fun qg => (if (qg.1 != qz) = true then (laws_FnExactHoldsAt.j0 k l1 qf true l0_0 a0_1 a0_2 qj ql qm) else (laws_FnExactHoldsAt.j0 k l1 qf (qg.2 != qM) l0_0 a0_1 a0_2 qj ql qm))) = some r := H
   have A17 := Aside0.mk A170
   clear A170
   replace H := Option.bind_eq_some_iff.mp H
   obtain ⟨⟨qF, zF⟩, A180, H⟩ := H
   replace H : (if (qF != qz) = true then (laws_FnExactHoldsAt.j0 k l1 qf true l0_0 a0_1 a0_2 qj ql qm) else (laws_FnExactHoldsAt.j0 k l1 qf (zF != qM) l0_0 a0_1 a0_2 qj ql qm)) = some r := H
   have A18 := Aside0.mk A180
   clear A180
   have HC19 := Aside0.mk H
   clear H
   go_enter Try.func12, Try.ntmps12
   go_upto_region 12 with (first | ((with_reducible refine gate_dst (N := 2) rfl ?_); refine box_event ?hg (N := 2) ?hd (cs := #[.slice A0_0 l0_0.length c0_0, .int .i64 a0_1, .bool a0_2]) (t := 24) ?hr ?_; (case hd => rfl); (case hg => rfl); (case hr => first | (go_simp; done) | (go_simp; rfl)); intro qe hg zK hbox hb; have qa := Aside0.mk (hbox); have zu := Aside0.mk ((by rw [hg]; exact (bz_ HB) : w.heap.size ≤ qe)); have zv := Aside0.mk ((by rw [hg]; exact (bz_ HB) : w.heap.size ≤ qe)); replace HB := bS_ HB hb; clear hb hbox hg; have qY : zK.cell? ⟨qe, 0, none⟩ = some (.slice A0_0 l0_0.length c0_0) := bc_ qa 0; have qZ : zK.cell? ⟨qe, 1, none⟩ = some (.int .i64 a0_1) := bc_ qa 1; have q0 : zK.cell? ⟨qe, 2, none⟩ = some (.bool a0_2) := bc_ qa 2; have q1 := blk_frozen qa.out 0; have q2 := blk_frozen qa.out 1; have q3 := blk_frozen qa.out 2) | ((with_reducible refine gate_callee (f := 13) rfl ?_); refine goesL_ (some 14) rfl rfl Try.func13 (by kernel_rfl) rfl #[.agg #[.slice A0_0 l0_0.length c0_0, .int .i64 a0_1, .bool a0_2], .int .i64 1048576] rfl (by (try simp only [List.map_toArray, List.map_cons, List.map_nil]); first | done | rfl | (simp only [List.length_drop, List.length_take]; rfl)) ?_; (with_reducible refine (laws_szAtom.calls _ _ l0_0 a0_1 a0_2 1048576 qr _ ?side1 ?side2 A3.out).mono ?_); (case side1 => exact cb_ qA HB); (case side2 => exact qB.out); rintro e zw ⟨rfl, hb⟩; refine ⟨_, rfl, ?_⟩; replace qa := kB_ qa hb; replace HB := bS_ HB hb; (try clear hb); (try clear hb2); (try clear hk); (try clear hi)) | ((with_reducible refine gate_callee (f := 44) rfl ?_); refine goesL_ (some 19) rfl rfl Try.func44 (by kernel_rfl) rfl #[.slice A1 l1.length c1, .int .i64 qr] rfl (by (try simp only [List.map_toArray, List.map_cons, List.map_nil]); first | done | rfl | (simp only [List.length_drop, List.length_take]; rfl)) ?_; (with_reducible refine (laws_szRatioS.calls _ _ l1 qr qC _ ?side1 ?side2 A8.out).mono ?_); (case side1 => exact cb_ HR1 HB); (case side2 => exact HC1.out); rintro e w' ⟨rfl, ⟨nd, rfl⟩⟩; refine ⟨_, rfl, ?_⟩; (try (rw [drewN_self zw]; generalize hq_ : World.drewN zw _ = zw; have n0_ : Aside0 (zw.heap[qe]? = some (.cells #[.slice A0_0 l0_0.length c0_0, .int .i64 a0_1, .bool a0_2] 24 (0, 0))) := ⟨by rw [← hq_]; exact (kf_ qa)⟩; have n1_ : Aside0 (Below w.heap.size w zw) := ⟨by rw [← hq_]; exact (bb_ HB)⟩; clear qa HB hq_; have qa := n0_; have HB := n1_; clear n0_ n1_)); have q4 : zw.cell? ⟨qe, 0, none⟩ = some (.slice A0_0 l0_0.length c0_0) := bc_ qa 0; have q5 : zw.cell? ⟨qe, 1, none⟩ = some (.int .i64 a0_1) := bc_ qa 1; have q6 : zw.cell? ⟨qe, 2, none⟩ = some (.bool a0_2) := bc_ qa 2; have q7 := blk_frozen qa.out 0; have q8 := blk_frozen qa.out 1; have q9 := blk_frozen qa.out 2) | ((with_reducible refine gate_callee (f := 15) rfl ?_); refine goesL_ (some 24) rfl rfl Try.func15 (by kernel_rfl) rfl #[.agg #[.slice A0_0 l0_0.length c0_0, .int .i64 a0_1, .bool a0_2]] rfl (by (try simp only [List.map_toArray, List.map_cons, List.map_nil]); first | done | rfl | (simp only [List.length_drop, List.length_take]; rfl)) ?_; (with_reducible refine (laws_toAtom.calls k _ _ l0_0 a0_1 a0_2 qP qQ qR _ ?side1 ?side2 A13.out).mono ?_); (case side1 => exact cb_ qA HB); (case side2 => exact qB.out); rintro e jd ⟨z8, rfl, ho0, hb⟩; refine ⟨_, rfl, ?_⟩; have qo := Aside0.mk (Kd.R_lower ho0 (bz_ HB)); replace qa := kB_ qa hb; replace HB := bS_ HB hb; (try clear hb); (try clear hb2); (try clear hk); (try clear hi); (try clear ho0)) | ((with_reducible refine gate_callee (f := 46) rfl ?_); refine goesL_ (some 26) rfl rfl Try.func46 (by kernel_rfl) rfl #[.slice A1 l1.length c1] rfl (by (try simp only [List.map_toArray, List.map_cons, List.map_nil]); first | done | rfl | (simp only [List.length_drop, List.length_take]; rfl)) ?_; (with_reducible refine (laws_toRatioS.calls k _ _ l1 qy _ ?side1 ?side2 A14.out).mono ?_); (case side1 => exact cb_ HR1 HB); (case side2 => exact HC1.out); rintro e je ⟨z9, rfl, ho0, hb⟩; refine ⟨_, rfl, ?_⟩; replace qo := rB_ qo hb; have qq := Aside0.mk (Kd.R_lower ho0 (bz_ HB)); replace qa := kB_ qa hb; replace HB := bS_ HB hb; (try clear hb); (try clear hb2); (try clear hk); (try clear hi); (try clear ho0); obtain ⟨zL, zM, eo26⟩ := Kd.R_slice qo.out; subst eo26; obtain ⟨zN, zO, eo27⟩ := Kd.R_slice qq.out; subst eo27) | ((with_reducible refine gate_callee (f := 50) rfl ?_); refine goesL_ (some 27) rfl rfl Try.func50 (by kernel_rfl) rfl #[.agg #[.slice zL qP.length zM, .int .i64 qQ, .bool qR], .slice zN qy.length zO] rfl (by (try simp only [List.map_toArray, List.map_cons, List.map_nil]); first | done | rfl | (simp only [List.length_drop, List.length_take]; rfl)) ?_; (with_reducible refine (spec_HoldsAt.calls k _ _ qP qQ qR _ _ qy qz qM _ ?side1 ?side2 ?side3 ?side4 A15.out).mono ?_); (case side1 => exact cr_ qo); (case side2 => exact (Kd.R_reads' qo.out).2.1); (case side3 => exact cr_ qq); (case side4 => exact (Kd.R_reads' qq.out).2.1); rintro e zP ⟨rfl, hb⟩; refine ⟨_, rfl, ?_⟩; replace qo := rB_ qo hb; replace qq := rB_ qq hb; replace qa := kB_ qa hb; replace HB := bS_ HB hb; (try clear hb); (try clear hb2); (try clear hk); (try clear hi); have za : zP.cell? ⟨qe, 0, none⟩ = some (.slice A0_0 l0_0.length c0_0) := bc_ qa 0; have zb : zP.cell? ⟨qe, 1, none⟩ = some (.int .i64 a0_1) := bc_ qa 1; have zc : zP.cell? ⟨qe, 2, none⟩ = some (.bool a0_2) := bc_ qa 2; have zd := blk_frozen qa.out 0; have ze := blk_frozen qa.out 1; have zf := blk_frozen qa.out 2) | ((with_reducible refine gate_callee (f := 15) rfl ?_); refine goesL_ (some 31) rfl rfl Try.func15 (by kernel_rfl) rfl #[.agg #[.slice A0_0 l0_0.length c0_0, .int .i64 a0_1, .bool a0_2]] rfl (by (try simp only [List.map_toArray, List.map_cons, List.map_nil]); first | done | rfl | (simp only [List.length_drop, List.length_take]; rfl)) ?_; (with_reducible refine (laws_toAtom.calls k _ _ l0_0 a0_1 a0_2 qj ql qm _ ?side1 ?side2 A16.out).mono ?_); (case side1 => exact cb_ qA HB); (case side2 => exact qB.out); rintro e jf ⟨ja, rfl, ho0, hb⟩; refine ⟨_, rfl, ?_⟩; replace qq := rB_ qq hb; have qt := Aside0.mk (Kd.R_lower (Kd.R_new' ho0 (Kd.R_lt (rm_ qo))) (bz_ HB)); replace qo := Aside0.mk (Kd.R_elder' (rm_ qo) (Kd.R_base ho0) hb); replace qa := kB_ qa hb; replace HB := bS_ HB hb; (try clear hb); (try clear hb2); (try clear hk); (try clear hi); (try clear ho0)) | ((with_reducible refine gate_dst (N := 8) rfl ?_); refine box_event ?hg (N := 8) ?hd (cs := #[.slice none 0 0, .int .i64 0, .bool false]) (t := 26) ?hr ?_; (case hd => rfl); (case hg => rfl); (case hr => first | (go_simp; done) | (go_simp; rfl)); intro qk hg zQ hbox hb; replace qo := rB_ qo hb; replace qq := rB_ qq hb; replace qt := rB_ qt hb; have qc := Aside0.mk (hbox); have z3 := Aside0.mk ((by rw [hg]; exact (bz_ HB) : w.heap.size ≤ qk)); have z4 := Aside0.mk ((by rw [hg]; exact (bz_ HB) : w.heap.size ≤ qk)); replace HB := bS_ HB hb; have qN := Aside0.mk ((nl_ qa hg : qe ≠ qk)); have qO := Aside0.mk ((ng_ qa hg : qk ≠ qe)); replace qa := kB_ qa hb; clear hb hbox hg; obtain ⟨qu, qv, eo32⟩ := Kd.R_slice qt.out; subst eo32; have z5 := qO.out; have z6 := qN.out; have zg : zQ.cell? ⟨qk, 0, none⟩ = some (.slice none 0 0) := bc_ qc 0; have zh : zQ.cell? ⟨qk, 1, none⟩ = some (.int .i64 0) := bc_ qc 1; have zi : zQ.cell? ⟨qk, 2, none⟩ = some (.bool false) := bc_ qc 2; have zj := blk_frozen qc.out 0; have zk := blk_frozen qc.out 1; have zl := blk_frozen qc.out 2) | ((with_reducible refine gate_callee (f := 46) rfl ?_); refine goesL_ (some 33) rfl rfl Try.func46 (by kernel_rfl) rfl #[.slice A1 l1.length c1] rfl (by (try simp only [List.map_toArray, List.map_cons, List.map_nil]); first | done | rfl | (simp only [List.length_drop, List.length_take]; rfl)) ?_; (with_reducible refine (laws_toRatioS.calls k _ _ l1 qf _ ?side1 ?side2 A17.out).mono ?_); (case side1 => exact Kd.C_below HR1.out (bb_ HB)); (case side2 => exact HC1.out); rintro e zR ⟨jb, rfl, ho0, hb⟩; refine ⟨_, rfl, ?_⟩; replace qo := Aside0.mk (Kd.R_below (by (with_reducible repeat (first | apply Kd.R_alloc | apply Kd.R_drewN | apply Kd.R_drew)); exact (rt3_ qo qc (by decide) 0 1 2 (.slice qu qj.length qv) (.int .i64 ql) (.bool qm))) hb); replace qt := Aside0.mk (Kd.R_below (by (with_reducible repeat (first | apply Kd.R_alloc | apply Kd.R_drewN | apply Kd.R_drew)); exact (rt3_ qt qc (by decide) 0 1 2 (.slice qu qj.length qv) (.int .i64 ql) (.bool qm))) hb); have qE := Aside0.mk (Kd.R_lower (Kd.R_new' ho0 (Kd.R_lt (by (with_reducible repeat (first | apply Kd.R_alloc | apply Kd.R_drewN | apply Kd.R_drew)); exact (rt3_ qq qc (by decide) 0 1 2 (.slice qu qj.length qv) (.int .i64 ql) (.bool qm))))) (bz_ HB)); replace qq := Aside0.mk (Kd.R_elder' (by (with_reducible repeat (first | apply Kd.R_alloc | apply Kd.R_drewN | apply Kd.R_drew)); exact (rt3_ qq qc (by decide) 0 1 2 (.slice qu qj.length qv) (.int .i64 ql) (.bool qm))) (Kd.R_base ho0) hb); replace qa := Aside0.mk (blk_below (g := qe) (o := .cells #[.slice A0_0 l0_0.length c0_0, .int .i64 a0_1, .bool a0_2] 24 (0, 0)) (kf_ qa) hb); replace qc := Aside0.mk (blk_below (g := qk) (o := .cells #[.slice qu qj.length qv, .int .i64 ql, .bool qm] 26 (0, 0)) (by (with_reducible repeat (first | refine blk_drewN ?_ _ | refine blk_drew ?_ | refine blk_alloc ?_ _)); refine blk_put (cs := #[.slice qu qj.length qv, .int .i64 ql, .bool false]) ?_ 2 _ rfl; (with_reducible repeat (first | refine blk_drewN ?_ _ | refine blk_drew ?_ | refine blk_alloc ?_ _)); refine blk_put (cs := #[.slice qu qj.length qv, .int .i64 0, .bool false]) ?_ 1 _ rfl; (with_reducible repeat (first | refine blk_drewN ?_ _ | refine blk_drew ?_ | refine blk_alloc ?_ _)); refine blk_put (cs := #[.slice none 0 0, .int .i64 0, .bool false]) ?_ 0 _ rfl; (with_reducible repeat (first | refine blk_drewN ?_ _ | refine blk_drew ?_ | refine blk_alloc ?_ _)); exact qc.out) hb); replace HB := bS_ HB hb; (try clear hb); (try clear hb2); (try clear hk); (try clear hi); (try clear ho0); have zm : zR.cell? ⟨qk, 0, none⟩ = some (.slice qu qj.length qv) := bc_ qc 0; have zn : zR.cell? ⟨qk, 1, none⟩ = some (.int .i64 ql) := bc_ qc 1; have zo : zR.cell? ⟨qk, 2, none⟩ = some (.bool qm) := bc_ qc 2; have zp := blk_frozen qc.out 0; have zq := blk_frozen qc.out 1; have zr := blk_frozen qc.out 2; obtain ⟨zs, zt, eo37⟩ := Kd.R_slice qE.out; subst eo37) | ((with_reducible refine gate_callee (f := 51) rfl ?_); refine goesL_ (some 37) rfl rfl Try.func51 (by kernel_rfl) rfl #[.agg #[.slice qu qj.length qv, .int .i64 ql, .bool qm], .slice zs qf.length zt] rfl (by (try simp only [List.map_toArray, List.map_cons, List.map_nil]); first | done | rfl | (simp only [List.length_drop, List.length_take]; rfl)) ?_; (with_reducible refine (impl_HoldsAt.calls k _ _ qj ql qm _ _ qf qF zF _ ?side1 ?side2 ?side3 ?side4 A18.out).mono ?_); (case side1 => exact cr_ qt); (case side2 => exact (Kd.R_reads' qt.out).2.1); (case side3 => exact cr_ qE); (case side4 => exact (Kd.R_reads' qE.out).2.1); rintro e jg ⟨rfl, hb⟩; refine ⟨_, rfl, ?_⟩; replace qo := rB_ qo hb; replace qq := rB_ qq hb; replace qt := rB_ qt hb; replace qE := rB_ qE hb; replace qa := kB_ qa hb; replace qc := kB_ qc hb; replace HB := bS_ HB hb; (try clear hb); (try clear hb2); (try clear hk); (try clear hi)))
   (try simp only [Act.put, List.setIfInBounds_toArray, List.set_cons_zero, List.set_cons_succ])
   go_cut [47] (fun v47 wc => ∃ (kq : Nat) (qK : Bool), v47 = .bool qK ∧ Aside0 (laws_FnExactHoldsAt.j0 kq l1 qf qK l0_0 a0_1 a0_2 qj ql qm = some r) ∧ Aside0 (kq ≤ k) ∧ Aside0 (Kd.R k56 56 wc w.heap.size (fun _ => True) (.slice zs qf.length zt) qf) ∧ Aside0 (Kd.R (Kd.int .i64) 3 wc w.heap.size (fun _ => True) (.slice qu qj.length qv) qj) ∧ Aside0 (wc.heap[qe]? = some (.cells #[(.slice A0_0 l0_0.length c0_0), .int .i64 a0_1, .bool a0_2] 24 (0, 0))) ∧ Aside0 (wc.heap[qk]? = some (.cells #[(.slice qu qj.length qv), .int .i64 ql, .bool qm] 26 (0, 0))) ∧ Aside0 (Below w.heap.size w wc))
   case first =>
    have H := HC19.out
    clear HC19
    by_cases c39 : (qF != qz) = true
    ·
     rw [if_pos c39] at H
     have qJ : (qF != qz) = true := c39
     (try (have zx : decide (qF = qz) = false := by simpa using c39))
     (try (have zy : (qF == qz) = false := by simpa using c39))
     (try (have z7 : ¬ (qF = qz) := by simpa using c39))
     clear c39
     (first | rw [qJ] | (simp only [i64_w, i32_w]; rw [qJ]) | skip)
     have H' := Aside0.mk H
     clear H
     go_wp2
     go_meet
     case rel => exact ⟨_, (true), (by first | rfl | (simp; done) | (simp [*]; done)), H', ⟨by first | omega | exact Nat.le_refl _⟩, ⟨by (with_reducible repeat (first | apply Kd.R_alloc | apply Kd.R_drewN | apply Kd.R_drew)); exact Kd.R_mono qE.out (fun _ hk => trivial)⟩, ⟨by (with_reducible repeat (first | apply Kd.R_alloc | apply Kd.R_drewN | apply Kd.R_drew)); exact Kd.R_mono qt.out (fun _ hk => trivial)⟩, ⟨kf_ qa⟩, ⟨kf_ qc⟩, ⟨bb_ HB⟩⟩
    ·
     rw [if_neg c39] at H
     have qJ : (qF != qz) = false := by simpa using c39
     (try (have zx : decide (qF = qz) = true := by simpa using c39))
     (try (have zy : (qF == qz) = true := by simpa using c39))
     clear c39
     (first | rw [qJ] | (simp only [i64_w, i32_w]; rw [qJ]) | skip)
     have H' := Aside0.mk H
     clear H
     go_wp2
     go_meet
     case rel => exact ⟨_, ((zF != qM)), (by first | rfl | (simp; done) | (simp [*]; done)), H', ⟨by first | omega | exact Nat.le_refl _⟩, ⟨by (with_reducible repeat (first | apply Kd.R_alloc | apply Kd.R_drewN | apply Kd.R_drew)); exact Kd.R_mono qE.out (fun _ hk => trivial)⟩, ⟨by (with_reducible repeat (first | apply Kd.R_alloc | apply Kd.R_drewN | apply Kd.R_drew)); exact Kd.R_mono qt.out (fun _ hk => trivial)⟩, ⟨kf_ qa⟩, ⟨kf_ qc⟩, ⟨bb_ HB⟩⟩
   case rest =>
    clear HC19
    try clear c1
    try clear p2
    try clear c3
    try clear c4
    try clear zG
    try clear c5
    try clear c9
    try clear zH
    try clear c12
    try clear c13
    try clear c15
    try clear c33
    try clear c39
    try clear qJ
    try clear zx
    try clear zy
    try clear qS
    try clear qT
    try clear qU
    try clear qY
    try clear qZ
    try clear q0
    try clear q4
    try clear q5
    try clear q6
    try clear za
    try clear zb
    try clear zc
    try clear zg
    try clear zh
    try clear zi
    try clear zm
    try clear zn
    try clear zo
    try clear zz
    try clear zA
    try clear zB
    try clear qV
    try clear qW
    try clear qX
    try clear q1
    try clear q2
    try clear q3
    try clear q7
    try clear q8
    try clear q9
    try clear zd
    try clear ze
    try clear zf
    try clear zj
    try clear zk
    try clear zl
    try clear zp
    try clear zq
    try clear zr
    try clear zC
    try clear zD
    try clear zE
    obtain ⟨kq, qK, rfl, HA, HJ18, qi, qb, qa, qc, HB⟩ := hcut
    cases kq with
    | zero => exact absurd HA.out (by simp [laws_FnExactHoldsAt.j0])
    | succ kj18 =>
     have H := HA.out
     clear HA
     simp only [laws_FnExactHoldsAt.j0] at H
     by_cases c40 : qK = true
     ·
      subst c40
      have H1 : (some false) = some r := by rw [if_pos rfl] at H; exact H
      clear H
      have H := H1
      clear H1
      obtain rfl := Option.some.inj H
      go_wp2
      go_ret
      exact ⟨by first | rfl | (simp [errW_none, errW_some] <;> rfl) | (simp [*, errW_none, errW_some] <;> rfl), bb_ HB⟩
     ·
      replace c40 := Bool.eq_false_iff.mpr c40
      subst c40
      have H1 : ((laws_toAtom.f kj18 l0_0 a0_1 a0_2).bind fun qD => ((laws_eqAtom.f kj18 qj ql qm qD.1 qD.2.1 qD.2.2).bind fun qL => (if qL = true then ((laws_toRatioS.f kj18 l1).bind fun qs => ((laws_eqRatioS.f kj18 qf qs).bind fun qx => (if qx = true then (some true) else (some false)))) else (some false)))) = some r := by rw [if_neg (show ¬ (false = true) by decide)] at H; exact H
      clear H
      have H := H1
      clear H1
      replace H := Option.bind_eq_some_iff.mp H
      obtain ⟨⟨qG, qH, qI⟩, A410, H⟩ := H
      replace H : ((laws_eqAtom.f kj18 qj ql qm qG qH qI).bind fun qL => (if qL = true then ((laws_toRatioS.f kj18 l1).bind fun qs => ((laws_eqRatioS.f kj18 qf qs).bind fun qx => (if qx = true then (some true) else (some false)))) else (some false))) = some r := H
      have A41 := Aside0.mk A410
      clear A410
      replace H := Option.bind_eq_some_iff.mp H
      obtain ⟨qL, A420, H⟩ := H
      replace H : (if qL = true then ((laws_toRatioS.f kj18 l1).bind fun qs => ((laws_eqRatioS.f kj18 qf qs).bind fun qx => (if qx = true then (some true) else (some false)))) else (some false)) = some r := H
      have A42 := Aside0.mk A420
      clear A420
      by_cases c43 : qL = true
      ·
       subst c43
       have H1 : ((laws_toRatioS.f kj18 l1).bind fun qs => ((laws_eqRatioS.f kj18 qf qs).bind fun qx => (if qx = true then (some true) else (some false)))) = some r := by rw [if_pos rfl] at H; exact H
       clear H
       have H := H1
       clear H1
       replace H := Option.bind_eq_some_iff.mp H
       obtain ⟨qs, A440, H⟩ := H
       replace H : ((laws_eqRatioS.f kj18 qf qs).bind fun qx => (if qx = true then (some true) else (some false))) = some r := H
       have A44 := Aside0.mk A440
       clear A440
       replace H := Option.bind_eq_some_iff.mp H
       obtain ⟨qx, A450, H⟩ := H
       replace H : (if qx = true then (some true) else (some false)) = some r := H
       have A45 := Aside0.mk A450
       clear A450
       by_cases c46 : qx = true
       ·
        subst c46
        have H1 : (some true) = some r := by rw [if_pos rfl] at H; exact H
        clear H
        have H := H1
        clear H1
        obtain rfl := Option.some.inj H
        try go_wp2
        replace qi := Aside0.mk (Kd.R_drew qi.out); replace qb := Aside0.mk (Kd.R_drew qb.out); replace qa := Aside0.mk (blk_drew qa.out); replace qc := Aside0.mk (blk_drew qc.out); replace HB := Aside0.mk (below_drew1 HB.out)
        refine start_ (n := 5) (S := fun w' => w'.cell? ⟨qk, 0, none⟩ = some (.slice qu qj.length qv) ∧ w'.cell? ⟨qk, 1, none⟩ = some (.int .i64 ql) ∧ w'.cell? ⟨qk, 2, none⟩ = some (.bool qm) ∧ w'.cell? ⟨qe, 0, none⟩ = some (.slice A0_0 l0_0.length c0_0) ∧ w'.cell? ⟨qe, 1, none⟩ = some (.int .i64 a0_1) ∧ w'.cell? ⟨qe, 2, none⟩ = some (.bool a0_2)) (ds := []) #[false, false, false, false, false] (by kernel_rfl) rfl rfl ⟨bc_ qc 0, bc_ qc 1, bc_ qc 2, bc_ qa 0, bc_ qa 1, bc_ qa 2⟩ (fun hHeld => ?_)
        generalize wc.drew = jh at qi qb qa qc HB hHeld ⊢
        refine take_ (i := 0) (N := some 48) (v := ?_) (a' := ?_) #[true, false, false, false, false] rfl rfl (by kernel_rfl) (fun _ _ _ h => h) (Or.inl ⟨by rfl, ?_⟩) hHeld ?_ ?_
        rotate_left
        ·
         rintro w' ⟨s0, s1, s2, s3, s4, s5⟩
         go_simp
         with_reducible rfl
        rotate_left
        ·
         simp only [Act.put, List.setIfInBounds_toArray, List.set_cons_zero, List.set_cons_succ, i64_w, i32_w]
         rfl
        refine take_ (i := 1) (N := some 49) (v := ?_) (a' := ?_) #[true, true, false, false, false] rfl rfl (by kernel_rfl) (fun _ _ _ h => h) (Or.inl ⟨by rfl, ?_⟩) hHeld ?_ ?_
        rotate_left
        ·
         rintro w' ⟨s0, s1, s2, s3, s4, s5⟩
         go_simp
         with_reducible rfl
        rotate_left
        ·
         simp only [Act.put, List.setIfInBounds_toArray, List.set_cons_zero, List.set_cons_succ, i64_w, i32_w]
         rfl
        refine one_ (i := 2) (N := some 50) #[true, true, true, false, false] rfl rfl (by kernel_rfl) (by decide) (fun K hK => ?_)
        refine goes_ Try.func15 (by kernel_rfl) rfl #[.agg #[.slice A0_0 l0_0.length c0_0, .int .i64 a0_1, .bool a0_2]] (by rfl) rfl rfl (by (try simp only [List.map_toArray, List.map_cons, List.map_nil]); first | done | rfl | (simp only [List.length_drop, List.length_take]; rfl)) ?_
        with_reducible refine (laws_toAtom.calls kj18 _ _ l0_0 a0_1 a0_2 qG qH qI _ ?side1 ?side2 A41.out).mono ?_
        (case side1 => exact cb_ qA HB)
        (case side2 => exact qB.out)
        rintro e ji ⟨zI, rfl, ho0, hb⟩
        refine ⟨_, rfl, ?_⟩
        replace qi := rB_ qi hb; have qh := Aside0.mk (Kd.R_lower (Kd.R_new' ho0 (Kd.R_lt (rm_ qb))) (bz_ HB)); replace qb := Aside0.mk (Kd.R_elder' (rm_ qb) (Kd.R_base ho0) hb); replace qa := kB_ qa hb; replace qc := kB_ qc hb; replace HB := bS_ HB hb; (try clear hb); (try clear hb2); (try clear hk); (try clear hi); (try clear ho0)
        obtain ⟨zS, zT, eo49⟩ := Kd.R_slice qh.out
        (first | subst eo49 | (injection eo49 with f1_ f2_ f3_; have f4_ := f1_.symm; have f5_ := f3_.symm; clear f1_ f2_ f3_; subst f4_; subst f5_))
        refine hK.out _ _ ⟨bc_ qc 0, bc_ qc 1, bc_ qc 2, bc_ qa 0, bc_ qa 1, bc_ qa 2⟩ (fun hHeld => ?_)
        clear hK K
        refine norm_ (a' := ?_) ?_ ?_
        rotate_left
        ·
         show Act.put _ (some 50) _ = _
         simp only [Act.put, List.setIfInBounds_toArray, List.set_cons_zero, List.set_cons_succ, i64_w, i32_w]
         rfl
        refine one_ (i := 3) (N := some 51) #[true, true, true, true, false] rfl rfl (by kernel_rfl) (by decide) (fun K hK => ?_)
        refine goes_ Try.func17 (by kernel_rfl) rfl #[.agg #[.slice qu qj.length qv, .int .i64 ql, .bool qm], .agg #[.slice zS qG.length zT, .int .i64 qH, .bool qI]] (by rfl) rfl rfl (by (try simp only [List.map_toArray, List.map_cons, List.map_nil]); first | done | rfl | (simp only [List.length_drop, List.length_take]; rfl)) ?_
        with_reducible refine (laws_eqAtom.calls kj18 _ _ qj ql qm _ _ qG qH qI true _ ?side1 ?side2 ?side3 ?side4 A42.out).mono ?_
        (case side1 => exact cr_ qb)
        (case side2 => exact (Kd.R_reads' qb.out).2.1)
        (case side3 => exact cr_ qh)
        (case side4 => exact (Kd.R_reads' qh.out).2.1)
        rintro e jj ⟨rfl, hb⟩
        refine ⟨_, rfl, ?_⟩
        replace qi := rB_ qi hb; replace qb := rB_ qb hb; replace qh := rB_ qh hb; replace qa := kB_ qa hb; replace qc := kB_ qc hb; replace HB := bS_ HB hb; (try clear hb); (try clear hb2); (try clear hk); (try clear hi)
        refine hK.out _ _ ⟨bc_ qc 0, bc_ qc 1, bc_ qc 2, bc_ qa 0, bc_ qa 1, bc_ qa 2⟩ (fun hHeld => ?_)
        clear hK K
        refine norm_ (a' := ?_) ?_ ?_
        rotate_left
        ·
         show Act.put _ (some 51) _ = _
         simp only [Act.put, List.setIfInBounds_toArray, List.set_cons_zero, List.set_cons_succ, i64_w, i32_w]
         rfl
        refine pure_ (i := 4) (N := some 52) (v := ?_) (a' := ?_) #[true, true, true, true, true] rfl rfl (by kernel_rfl) (fun _ _ _ h => h) (Or.inl ⟨by rfl, ?_⟩) ?_ ?_
        rotate_left
        ·
         intro w'
         go_simp
         with_reducible rfl
        rotate_left
        ·
         simp only [Act.put, List.setIfInBounds_toArray, List.set_cons_zero, List.set_cons_succ, i64_w, i32_w]
         rfl
        refine done_ (by kernel_rfl) ?_
        try go_wp2_with (first | ((with_reducible refine gate_callee (f := 46) rfl ?_); refine goesL_ (some 55) rfl rfl Try.func46 (by kernel_rfl) rfl #[.slice A1 l1.length c1] rfl (by (try simp only [List.map_toArray, List.map_cons, List.map_nil]); first | done | rfl | (simp only [List.length_drop, List.length_take]; rfl)) ?_; (with_reducible refine (laws_toRatioS.calls kj18 _ _ l1 qs _ ?side1 ?side2 A44.out).mono ?_); (case side1 => exact cb_ HR1 HB); (case side2 => exact HC1.out); rintro e jk ⟨zU, rfl, ho0, hb⟩; refine ⟨_, rfl, ?_⟩; replace qb := rB_ qb hb; replace qh := rB_ qh hb; have qw := Aside0.mk (Kd.R_lower (Kd.R_new' ho0 (Kd.R_lt (rm_ qi))) (bz_ HB)); replace qi := Aside0.mk (Kd.R_elder' (rm_ qi) (Kd.R_base ho0) hb); replace qa := kB_ qa hb; replace qc := kB_ qc hb; replace HB := bS_ HB hb; (try clear hb); (try clear hb2); (try clear hk); (try clear hi); (try clear ho0); obtain ⟨zV, zW, eo52⟩ := Kd.R_slice qw.out; subst eo52) | ((with_reducible refine gate_callee (f := 49) rfl ?_); refine goesL_ (some 56) rfl rfl Try.func49 (by kernel_rfl) rfl #[.slice zs qf.length zt, .slice zV qs.length zW] rfl (by (try simp only [List.map_toArray, List.map_cons, List.map_nil]); first | done | rfl | (simp only [List.length_drop, List.length_take]; rfl)) ?_; (with_reducible refine (laws_eqRatioS.calls kj18 _ _ qf _ _ qs true _ ?side1 ?side2 ?side3 ?side4 A45.out).mono ?_); (case side1 => exact cr_ qi); (case side2 => exact (Kd.R_reads' qi.out).2.1); (case side3 => exact cr_ qw); (case side4 => exact (Kd.R_reads' qw.out).2.1); rintro e jl ⟨rfl, hb⟩; refine ⟨_, rfl, ?_⟩; replace qi := rB_ qi hb; replace qb := rB_ qb hb; replace qh := rB_ qh hb; replace qw := rB_ qw hb; replace qa := kB_ qa hb; replace qc := kB_ qc hb; replace HB := bS_ HB hb; (try clear hb); (try clear hb2); (try clear hk); (try clear hi)))
        go_ret
        exact ⟨by first | rfl | (simp [errW_none, errW_some] <;> rfl) | (simp [*, errW_none, errW_some] <;> rfl), bb_ HB⟩
       ·
        replace c46 := Bool.eq_false_iff.mpr c46
        subst c46
        have H1 : (some false) = some r := by rw [if_neg (show ¬ (false = true) by decide)] at H; exact H
        clear H
        have H := H1
        clear H1
        obtain rfl := Option.some.inj H
        try go_wp2
        replace qi := Aside0.mk (Kd.R_drew qi.out); replace qb := Aside0.mk (Kd.R_drew qb.out); replace qa := Aside0.mk (blk_drew qa.out); replace qc := Aside0.mk (blk_drew qc.out); replace HB := Aside0.mk (below_drew1 HB.out)
        refine start_ (n := 5) (S := fun w' => w'.cell? ⟨qk, 0, none⟩ = some (.slice qu qj.length qv) ∧ w'.cell? ⟨qk, 1, none⟩ = some (.int .i64 ql) ∧ w'.cell? ⟨qk, 2, none⟩ = some (.bool qm) ∧ w'.cell? ⟨qe, 0, none⟩ = some (.slice A0_0 l0_0.length c0_0) ∧ w'.cell? ⟨qe, 1, none⟩ = some (.int .i64 a0_1) ∧ w'.cell? ⟨qe, 2, none⟩ = some (.bool a0_2)) (ds := []) #[false, false, false, false, false] (by kernel_rfl) rfl rfl ⟨bc_ qc 0, bc_ qc 1, bc_ qc 2, bc_ qa 0, bc_ qa 1, bc_ qa 2⟩ (fun hHeld => ?_)
        generalize wc.drew = jm at qi qb qa qc HB hHeld ⊢
        refine take_ (i := 0) (N := some 48) (v := ?_) (a' := ?_) #[true, false, false, false, false] rfl rfl (by kernel_rfl) (fun _ _ _ h => h) (Or.inl ⟨by rfl, ?_⟩) hHeld ?_ ?_
        rotate_left
        ·
         rintro w' ⟨s0, s1, s2, s3, s4, s5⟩
         go_simp
         with_reducible rfl
        rotate_left
        ·
         simp only [Act.put, List.setIfInBounds_toArray, List.set_cons_zero, List.set_cons_succ, i64_w, i32_w]
         rfl
        refine take_ (i := 1) (N := some 49) (v := ?_) (a' := ?_) #[true, true, false, false, false] rfl rfl (by kernel_rfl) (fun _ _ _ h => h) (Or.inl ⟨by rfl, ?_⟩) hHeld ?_ ?_
        rotate_left
        ·
         rintro w' ⟨s0, s1, s2, s3, s4, s5⟩
         go_simp
         with_reducible rfl
        rotate_left
        ·
         simp only [Act.put, List.setIfInBounds_toArray, List.set_cons_zero, List.set_cons_succ, i64_w, i32_w]
         rfl
        refine one_ (i := 2) (N := some 50) #[true, true, true, false, false] rfl rfl (by kernel_rfl) (by decide) (fun K hK => ?_)
        refine goes_ Try.func15 (by kernel_rfl) rfl #[.agg #[.slice A0_0 l0_0.length c0_0, .int .i64 a0_1, .bool a0_2]] (by rfl) rfl rfl (by (try simp only [List.map_toArray, List.map_cons, List.map_nil]); first | done | rfl | (simp only [List.length_drop, List.length_take]; rfl)) ?_
        with_reducible refine (laws_toAtom.calls kj18 _ _ l0_0 a0_1 a0_2 qG qH qI _ ?side1 ?side2 A41.out).mono ?_
        (case side1 => exact cb_ qA HB)
        (case side2 => exact qB.out)
        rintro e jn ⟨zI, rfl, ho0, hb⟩
        refine ⟨_, rfl, ?_⟩
        replace qi := rB_ qi hb; have qh := Aside0.mk (Kd.R_lower (Kd.R_new' ho0 (Kd.R_lt (rm_ qb))) (bz_ HB)); replace qb := Aside0.mk (Kd.R_elder' (rm_ qb) (Kd.R_base ho0) hb); replace qa := kB_ qa hb; replace qc := kB_ qc hb; replace HB := bS_ HB hb; (try clear hb); (try clear hb2); (try clear hk); (try clear hi); (try clear ho0)
        obtain ⟨zX, zY, eo56⟩ := Kd.R_slice qh.out
        (first | subst eo56 | (injection eo56 with f1_ f2_ f3_; have f4_ := f1_.symm; have f5_ := f3_.symm; clear f1_ f2_ f3_; subst f4_; subst f5_))
        refine hK.out _ _ ⟨bc_ qc 0, bc_ qc 1, bc_ qc 2, bc_ qa 0, bc_ qa 1, bc_ qa 2⟩ (fun hHeld => ?_)
        clear hK K
        refine norm_ (a' := ?_) ?_ ?_
        rotate_left
        ·
         show Act.put _ (some 50) _ = _
         simp only [Act.put, List.setIfInBounds_toArray, List.set_cons_zero, List.set_cons_succ, i64_w, i32_w]
         rfl
        refine one_ (i := 3) (N := some 51) #[true, true, true, true, false] rfl rfl (by kernel_rfl) (by decide) (fun K hK => ?_)
        refine goes_ Try.func17 (by kernel_rfl) rfl #[.agg #[.slice qu qj.length qv, .int .i64 ql, .bool qm], .agg #[.slice zX qG.length zY, .int .i64 qH, .bool qI]] (by rfl) rfl rfl (by (try simp only [List.map_toArray, List.map_cons, List.map_nil]); first | done | rfl | (simp only [List.length_drop, List.length_take]; rfl)) ?_
        with_reducible refine (laws_eqAtom.calls kj18 _ _ qj ql qm _ _ qG qH qI true _ ?side1 ?side2 ?side3 ?side4 A42.out).mono ?_
        (case side1 => exact cr_ qb)
        (case side2 => exact (Kd.R_reads' qb.out).2.1)
        (case side3 => exact cr_ qh)
        (case side4 => exact (Kd.R_reads' qh.out).2.1)
        rintro e jo ⟨rfl, hb⟩
        refine ⟨_, rfl, ?_⟩
        replace qi := rB_ qi hb; replace qb := rB_ qb hb; replace qh := rB_ qh hb; replace qa := kB_ qa hb; replace qc := kB_ qc hb; replace HB := bS_ HB hb; (try clear hb); (try clear hb2); (try clear hk); (try clear hi)
        refine hK.out _ _ ⟨bc_ qc 0, bc_ qc 1, bc_ qc 2, bc_ qa 0, bc_ qa 1, bc_ qa 2⟩ (fun hHeld => ?_)
        clear hK K
        refine norm_ (a' := ?_) ?_ ?_
        rotate_left
        ·
         show Act.put _ (some 51) _ = _
         simp only [Act.put, List.setIfInBounds_toArray, List.set_cons_zero, List.set_cons_succ, i64_w, i32_w]
         rfl
        refine pure_ (i := 4) (N := some 52) (v := ?_) (a' := ?_) #[true, true, true, true, true] rfl rfl (by kernel_rfl) (fun _ _ _ h => h) (Or.inl ⟨by rfl, ?_⟩) ?_ ?_
        rotate_left
        ·
         intro w'
         go_simp
         with_reducible rfl
        rotate_left
        ·
         simp only [Act.put, List.setIfInBounds_toArray, List.set_cons_zero, List.set_cons_succ, i64_w, i32_w]
         rfl
        refine done_ (by kernel_rfl) ?_
        try go_wp2_with (first | ((with_reducible refine gate_callee (f := 46) rfl ?_); refine goesL_ (some 55) rfl rfl Try.func46 (by kernel_rfl) rfl #[.slice A1 l1.length c1] rfl (by (try simp only [List.map_toArray, List.map_cons, List.map_nil]); first | done | rfl | (simp only [List.length_drop, List.length_take]; rfl)) ?_; (with_reducible refine (laws_toRatioS.calls kj18 _ _ l1 qs _ ?side1 ?side2 A44.out).mono ?_); (case side1 => exact cb_ HR1 HB); (case side2 => exact HC1.out); rintro e jp ⟨zU, rfl, ho0, hb⟩; refine ⟨_, rfl, ?_⟩; replace qb := rB_ qb hb; replace qh := rB_ qh hb; have qw := Aside0.mk (Kd.R_lower (Kd.R_new' ho0 (Kd.R_lt (rm_ qi))) (bz_ HB)); replace qi := Aside0.mk (Kd.R_elder' (rm_ qi) (Kd.R_base ho0) hb); replace qa := kB_ qa hb; replace qc := kB_ qc hb; replace HB := bS_ HB hb; (try clear hb); (try clear hb2); (try clear hk); (try clear hi); (try clear ho0); obtain ⟨zZ, z0, eo59⟩ := Kd.R_slice qw.out; subst eo59) | ((with_reducible refine gate_callee (f := 49) rfl ?_); refine goesL_ (some 56) rfl rfl Try.func49 (by kernel_rfl) rfl #[.slice zs qf.length zt, .slice zZ qs.length z0] rfl (by (try simp only [List.map_toArray, List.map_cons, List.map_nil]); first | done | rfl | (simp only [List.length_drop, List.length_take]; rfl)) ?_; (with_reducible refine (laws_eqRatioS.calls kj18 _ _ qf _ _ qs false _ ?side1 ?side2 ?side3 ?side4 A45.out).mono ?_); (case side1 => exact cr_ qi); (case side2 => exact (Kd.R_reads' qi.out).2.1); (case side3 => exact cr_ qw); (case side4 => exact (Kd.R_reads' qw.out).2.1); rintro e jq ⟨rfl, hb⟩; refine ⟨_, rfl, ?_⟩; replace qi := rB_ qi hb; replace qb := rB_ qb hb; replace qh := rB_ qh hb; replace qw := rB_ qw hb; replace qa := kB_ qa hb; replace qc := kB_ qc hb; replace HB := bS_ HB hb; (try clear hb); (try clear hb2); (try clear hk); (try clear hi)))
        go_ret
        exact ⟨by first | rfl | (simp [errW_none, errW_some] <;> rfl) | (simp [*, errW_none, errW_some] <;> rfl), bb_ HB⟩
      ·
       replace c43 := Bool.eq_false_iff.mpr c43
       subst c43
       have H1 : (some false) = some r := by rw [if_neg (show ¬ (false = true) by decide)] at H; exact H
       clear H
       have H := H1
       clear H1
       obtain rfl := Option.some.inj H
       try go_wp2
       replace qi := Aside0.mk (Kd.R_drew qi.out); replace qb := Aside0.mk (Kd.R_drew qb.out); replace qa := Aside0.mk (blk_drew qa.out); replace qc := Aside0.mk (blk_drew qc.out); replace HB := Aside0.mk (below_drew1 HB.out)
       refine start_ (n := 5) (S := fun w' => w'.cell? ⟨qk, 0, none⟩ = some (.slice qu qj.length qv) ∧ w'.cell? ⟨qk, 1, none⟩ = some (.int .i64 ql) ∧ w'.cell? ⟨qk, 2, none⟩ = some (.bool qm) ∧ w'.cell? ⟨qe, 0, none⟩ = some (.slice A0_0 l0_0.length c0_0) ∧ w'.cell? ⟨qe, 1, none⟩ = some (.int .i64 a0_1) ∧ w'.cell? ⟨qe, 2, none⟩ = some (.bool a0_2)) (ds := []) #[false, false, false, false, false] (by kernel_rfl) rfl rfl ⟨bc_ qc 0, bc_ qc 1, bc_ qc 2, bc_ qa 0, bc_ qa 1, bc_ qa 2⟩ (fun hHeld => ?_)
       generalize wc.drew = jr at qi qb qa qc HB hHeld ⊢
       refine take_ (i := 0) (N := some 48) (v := ?_) (a' := ?_) #[true, false, false, false, false] rfl rfl (by kernel_rfl) (fun _ _ _ h => h) (Or.inl ⟨by rfl, ?_⟩) hHeld ?_ ?_
       rotate_left
       ·
        rintro w' ⟨s0, s1, s2, s3, s4, s5⟩
        go_simp
        with_reducible rfl
       rotate_left
       ·
        simp only [Act.put, List.setIfInBounds_toArray, List.set_cons_zero, List.set_cons_succ, i64_w, i32_w]
        rfl
       refine take_ (i := 1) (N := some 49) (v := ?_) (a' := ?_) #[true, true, false, false, false] rfl rfl (by kernel_rfl) (fun _ _ _ h => h) (Or.inl ⟨by rfl, ?_⟩) hHeld ?_ ?_
       rotate_left
       ·
        rintro w' ⟨s0, s1, s2, s3, s4, s5⟩
        go_simp
        with_reducible rfl
       rotate_left
       ·
        simp only [Act.put, List.setIfInBounds_toArray, List.set_cons_zero, List.set_cons_succ, i64_w, i32_w]
        rfl
       refine one_ (i := 2) (N := some 50) #[true, true, true, false, false] rfl rfl (by kernel_rfl) (by decide) (fun K hK => ?_)
       refine goes_ Try.func15 (by kernel_rfl) rfl #[.agg #[.slice A0_0 l0_0.length c0_0, .int .i64 a0_1, .bool a0_2]] (by rfl) rfl rfl (by (try simp only [List.map_toArray, List.map_cons, List.map_nil]); first | done | rfl | (simp only [List.length_drop, List.length_take]; rfl)) ?_
       with_reducible refine (laws_toAtom.calls kj18 _ _ l0_0 a0_1 a0_2 qG qH qI _ ?side1 ?side2 A41.out).mono ?_
       (case side1 => exact cb_ qA HB)
       (case side2 => exact qB.out)
       rintro e js ⟨zI, rfl, ho0, hb⟩
       refine ⟨_, rfl, ?_⟩
       replace qi := rB_ qi hb; have qh := Aside0.mk (Kd.R_lower (Kd.R_new' ho0 (Kd.R_lt (rm_ qb))) (bz_ HB)); replace qb := Aside0.mk (Kd.R_elder' (rm_ qb) (Kd.R_base ho0) hb); replace qa := kB_ qa hb; replace qc := kB_ qc hb; replace HB := bS_ HB hb; (try clear hb); (try clear hb2); (try clear hk); (try clear hi); (try clear ho0)
       obtain ⟨z1, z2, eo63⟩ := Kd.R_slice qh.out
       (first | subst eo63 | (injection eo63 with f1_ f2_ f3_; have f4_ := f1_.symm; have f5_ := f3_.symm; clear f1_ f2_ f3_; subst f4_; subst f5_))
       refine hK.out _ _ ⟨bc_ qc 0, bc_ qc 1, bc_ qc 2, bc_ qa 0, bc_ qa 1, bc_ qa 2⟩ (fun hHeld => ?_)
       clear hK K
       refine norm_ (a' := ?_) ?_ ?_
       rotate_left
       ·
        show Act.put _ (some 50) _ = _
        simp only [Act.put, List.setIfInBounds_toArray, List.set_cons_zero, List.set_cons_succ, i64_w, i32_w]
        rfl
       refine one_ (i := 3) (N := some 51) #[true, true, true, true, false] rfl rfl (by kernel_rfl) (by decide) (fun K hK => ?_)
       refine goes_ Try.func17 (by kernel_rfl) rfl #[.agg #[.slice qu qj.length qv, .int .i64 ql, .bool qm], .agg #[.slice z1 qG.length z2, .int .i64 qH, .bool qI]] (by rfl) rfl rfl (by (try simp only [List.map_toArray, List.map_cons, List.map_nil]); first | done | rfl | (simp only [List.length_drop, List.length_take]; rfl)) ?_
       with_reducible refine (laws_eqAtom.calls kj18 _ _ qj ql qm _ _ qG qH qI false _ ?side1 ?side2 ?side3 ?side4 A42.out).mono ?_
       (case side1 => exact cr_ qb)
       (case side2 => exact (Kd.R_reads' qb.out).2.1)
       (case side3 => exact cr_ qh)
       (case side4 => exact (Kd.R_reads' qh.out).2.1)
       rintro e jt ⟨rfl, hb⟩
       refine ⟨_, rfl, ?_⟩
       replace qi := rB_ qi hb; replace qb := rB_ qb hb; replace qh := rB_ qh hb; replace qa := kB_ qa hb; replace qc := kB_ qc hb; replace HB := bS_ HB hb; (try clear hb); (try clear hb2); (try clear hk); (try clear hi)
       refine hK.out _ _ ⟨bc_ qc 0, bc_ qc 1, bc_ qc 2, bc_ qa 0, bc_ qa 1, bc_ qa 2⟩ (fun hHeld => ?_)
       clear hK K
       refine norm_ (a' := ?_) ?_ ?_
       rotate_left
       ·
        show Act.put _ (some 51) _ = _
        simp only [Act.put, List.setIfInBounds_toArray, List.set_cons_zero, List.set_cons_succ, i64_w, i32_w]
        rfl
       refine pure_ (i := 4) (N := some 52) (v := ?_) (a' := ?_) #[true, true, true, true, true] rfl rfl (by kernel_rfl) (fun _ _ _ h => h) (Or.inl ⟨by rfl, ?_⟩) ?_ ?_
       rotate_left
       ·
        intro w'
        go_simp
        with_reducible rfl
       rotate_left
       ·
        simp only [Act.put, List.setIfInBounds_toArray, List.set_cons_zero, List.set_cons_succ, i64_w, i32_w]
        rfl
       refine done_ (by kernel_rfl) ?_
       try go_wp2
       go_ret
       exact ⟨by first | rfl | (simp [errW_none, errW_some] <;> rfl) | (simp [*, errW_none, errW_some] <;> rfl), bb_ HB⟩

end Go.Proofs.Ytaijkhabcidagaa.PFnExactHoldsAt
