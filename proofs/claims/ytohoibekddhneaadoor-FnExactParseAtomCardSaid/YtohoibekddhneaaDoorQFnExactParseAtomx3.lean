/- The functions that the law FnExactParseAtom reaches, each as a Lean function with the same answers, and the proof that the call comes to exactly these: turned by program out of the printed texts. No condition but those that each theorem names. -/
import Derived.Test.YtohoibekddhneaaDoorQFnExactParseAtomx0
import Derived.Test.YtohoibekddhneaaDoorQFnExactParseAtomx2
namespace Go.Proofs.YtohoibekddhneaaDoor.PFnExactParseAtom
open Go.RowKit Go.Proofs.YtohoibekddhneaaDoorW.PrintWords Go.Proofs.YtohoibekddhneaaDoorW.PrintLast Go.Proofs.YtohoibekddhneaaDoorW.PrintMore
attribute [local go_sem] max2_int min2_int max_two min_two max_three min_three max_four min_four   -- for this text's walks alone
set_option linter.unusedVariables false
set_option linter.unusedSimpArgs false

/-! ### impl_readTerm: function 83 -/
mutual
def impl_readTerm.j0 : Nat → ByteArray → Int → Bool → Option (Int × Int × ByteArray × Bool)
 | 0, _, _, _ => none
 | k + 1, x0, x6, x27 => if x27 = true then (impl_readTerm.j1 k x0 (wrap64 (x6 + 1))) else (impl_readTerm.j1 k x0 x6)
def impl_readTerm.j1 : Nat → ByteArray → Int → Option (Int × Int × ByteArray × Bool)
 | 0, _, _ => none
 | k + 1, x0, x6 => impl_readTerm.l0 k x0 x6
def impl_readTerm.j3 : Nat → ByteArray → Int → Option (Int × Int × ByteArray × Bool)
 | 0, _, _ => none
 | k + 1, x0, x6 => if 0 ≤ x6 then (if x6 ≤ (x0.size : Int) then ((strings_TrimPrefix.f (x0.extract 0 (x6 : Int).toNat) (⟨#[43]⟩ : ByteArray)).bind fun qa => (if x6 < (x0.size : Int) then ((strings_IndexByte.f (⟨#[120, 121, 122, 116]⟩ : ByteArray) (bt x0 x6)).bind fun qk => (impl_readTerm.j4 k x0 x6 qa qk)) else (impl_readTerm.j4 k x0 x6 qa (-1)))) else (none)) else (none)
def impl_readTerm.j4 : Nat → ByteArray → Int → ByteArray → Int → Option (Int × Int × ByteArray × Bool)
 | 0, _, _, _, _ => none
 | k + 1, x0, x6, x7, x8 => if 0 ≤ x6 then (if x6 ≤ (x0.size : Int) then (if x8 ≥ 0 then (if 0 ≤ (wrap64 (x6 + 1)) then (if (wrap64 (x6 + 1)) ≤ (x0.size : Int) then (if x7.toList = ([] : List UInt8) then (if x7.size + 1 ≤ 9223372036854775807 then ((impl_ParseInt.f (x7 ++ (⟨#[49]⟩ : ByteArray))).bind fun qh => (some (qh.1, x8, x0.extract ((wrap64 (x6 + 1)) : Int).toNat x0.size, qh.2))) else (none)) else (if x7.toList = ([45] : List UInt8) then (if x7.size + 1 ≤ 9223372036854775807 then ((impl_ParseInt.f (x7 ++ (⟨#[49]⟩ : ByteArray))).bind fun qi => (some (qi.1, x8, x0.extract ((wrap64 (x6 + 1)) : Int).toNat x0.size, qi.2))) else (none)) else ((impl_ParseInt.f x7).bind fun qj => (some (qj.1, x8, x0.extract ((wrap64 (x6 + 1)) : Int).toNat x0.size, qj.2))))) else (none)) else (none)) else ((impl_ParseInt.f x7).bind fun qs => (some (qs.1, x8, x0.extract (x6 : Int).toNat x0.size, qs.2)))) else (none)) else (none)
def impl_readTerm.l0 : Nat → ByteArray → Int → Option (Int × Int × ByteArray × Bool)
 | 0, _, _ => none
 | k + 1, x0, x6 => if x6 < (x0.size : Int) then (if 0 ≤ x6 then (if (bt x0 x6) ≥ 48 then (if (bt x0 x6) ≤ 57 then (impl_readTerm.l0 k x0 (wrap64 (x6 + 1))) else (impl_readTerm.j3 k x0 x6)) else (impl_readTerm.j3 k x0 x6)) else (none)) else (impl_readTerm.j3 k x0 x6)
end
def impl_readTerm.f (k : Nat) (a0 : ByteArray) : Option (Int × Int × ByteArray × Bool) := if 0 < (a0.size : Int) then (if (bt a0 0) = 43 then (impl_readTerm.j0 k a0 0 true) else (impl_readTerm.j0 k a0 0 ((bt a0 0) == 45))) else (impl_readTerm.j0 k a0 0 false)
theorem impl_readTerm.mono_l : ∀ k, (∀ y0 y1 y2, LeO (impl_readTerm.j0 k y0 y1 y2) (impl_readTerm.j0 (k + 1) y0 y1 y2)) ∧ (∀ y0 y1, LeO (impl_readTerm.j1 k y0 y1) (impl_readTerm.j1 (k + 1) y0 y1)) ∧ (∀ y0 y1, LeO (impl_readTerm.j3 k y0 y1) (impl_readTerm.j3 (k + 1) y0 y1)) ∧ (∀ y0 y1 y2 y3, LeO (impl_readTerm.j4 k y0 y1 y2 y3) (impl_readTerm.j4 (k + 1) y0 y1 y2 y3)) ∧ (∀ y0 y1, LeO (impl_readTerm.l0 k y0 y1) (impl_readTerm.l0 (k + 1) y0 y1))
 | 0 => ⟨fun _ _ _ r h => by simp [impl_readTerm.j0] at h, fun _ _ r h => by simp [impl_readTerm.j1] at h, fun _ _ r h => by simp [impl_readTerm.j3] at h, fun _ _ _ _ r h => by simp [impl_readTerm.j4] at h, fun _ _ r h => by simp [impl_readTerm.l0] at h⟩
 | k + 1 => by
  obtain ⟨ih0, ih1, ih2, ih3, ih4⟩ := impl_readTerm.mono_l k
  refine ⟨?_, ?_, ?_, ?_, ?_⟩
  ·
   intro y0 y1 y2
   unfold impl_readTerm.j0
   repeat' first
   | (with_reducible exact ih0 _ _ _)
   | (with_reducible exact ih1 _ _)
   | (with_reducible exact ih2 _ _)
   | (with_reducible exact ih3 _ _ _ _)
   | (with_reducible exact ih4 _ _)
   | (with_reducible exact LeO.refl _)
   | (with_reducible exact LeO.none _)
   | (with_reducible refine LeO.ite ?_ ?_)
   | (with_reducible refine LeO.bind ?_ (fun _ => ?_))
   | exact ih0 _ _ _
   | exact ih1 _ _
   | exact ih2 _ _
   | exact ih3 _ _ _ _
   | exact ih4 _ _
   | exact LeO.none _
   | refine LeO.ite ?_ ?_
   | refine LeO.bind ?_ (fun _ => ?_)
  ·
   intro y0 y1
   unfold impl_readTerm.j1
   repeat' first
   | (with_reducible exact ih0 _ _ _)
   | (with_reducible exact ih1 _ _)
   | (with_reducible exact ih2 _ _)
   | (with_reducible exact ih3 _ _ _ _)
   | (with_reducible exact ih4 _ _)
   | (with_reducible exact LeO.refl _)
   | (with_reducible exact LeO.none _)
   | (with_reducible refine LeO.ite ?_ ?_)
   | (with_reducible refine LeO.bind ?_ (fun _ => ?_))
   | exact ih0 _ _ _
   | exact ih1 _ _
   | exact ih2 _ _
   | exact ih3 _ _ _ _
   | exact ih4 _ _
   | exact LeO.none _
   | refine LeO.ite ?_ ?_
   | refine LeO.bind ?_ (fun _ => ?_)
  ·
   intro y0 y1
   unfold impl_readTerm.j3
   repeat' first
   | (with_reducible exact ih0 _ _ _)
   | (with_reducible exact ih1 _ _)
   | (with_reducible exact ih2 _ _)
   | (with_reducible exact ih3 _ _ _ _)
   | (with_reducible exact ih4 _ _)
   | (with_reducible exact LeO.refl _)
   | (with_reducible exact LeO.none _)
   | (with_reducible refine LeO.ite ?_ ?_)
   | (with_reducible refine LeO.bind ?_ (fun _ => ?_))
   | exact ih0 _ _ _
   | exact ih1 _ _
   | exact ih2 _ _
   | exact ih3 _ _ _ _
   | exact ih4 _ _
   | exact LeO.none _
   | refine LeO.ite ?_ ?_
   | refine LeO.bind ?_ (fun _ => ?_)
  ·
   intro y0 y1 y2 y3
   unfold impl_readTerm.j4
   repeat' first
   | (with_reducible exact ih0 _ _ _)
   | (with_reducible exact ih1 _ _)
   | (with_reducible exact ih2 _ _)
   | (with_reducible exact ih3 _ _ _ _)
   | (with_reducible exact ih4 _ _)
   | (with_reducible exact LeO.refl _)
   | (with_reducible exact LeO.none _)
   | (with_reducible refine LeO.ite ?_ ?_)
   | (with_reducible refine LeO.bind ?_ (fun _ => ?_))
   | exact ih0 _ _ _
   | exact ih1 _ _
   | exact ih2 _ _
   | exact ih3 _ _ _ _
   | exact ih4 _ _
   | exact LeO.none _
   | refine LeO.ite ?_ ?_
   | refine LeO.bind ?_ (fun _ => ?_)
  ·
   intro y0 y1
   unfold impl_readTerm.l0
   repeat' first
   | (with_reducible exact ih0 _ _ _)
   | (with_reducible exact ih1 _ _)
   | (with_reducible exact ih2 _ _)
   | (with_reducible exact ih3 _ _ _ _)
   | (with_reducible exact ih4 _ _)
   | (with_reducible exact LeO.refl _)
   | (with_reducible exact LeO.none _)
   | (with_reducible refine LeO.ite ?_ ?_)
   | (with_reducible refine LeO.bind ?_ (fun _ => ?_))
   | exact ih0 _ _ _
   | exact ih1 _ _
   | exact ih2 _ _
   | exact ih3 _ _ _ _
   | exact ih4 _ _
   | exact LeO.none _
   | refine LeO.ite ?_ ?_
   | refine LeO.bind ?_ (fun _ => ?_)
theorem impl_readTerm.mono : ∀ a0 k, LeO (impl_readTerm.f k a0) (impl_readTerm.f (k + 1) a0) := by
 intro a0 k
 obtain ⟨ih0, ih1, ih2, ih3, ih4⟩ := impl_readTerm.mono_l k
 unfold impl_readTerm.f
 repeat' first
   | (with_reducible exact ih0 _ _ _)
   | (with_reducible exact ih1 _ _)
   | (with_reducible exact ih2 _ _)
   | (with_reducible exact ih3 _ _ _ _)
   | (with_reducible exact ih4 _ _)
   | (with_reducible exact LeO.refl _)
   | (with_reducible exact LeO.none _)
   | (with_reducible refine LeO.ite ?_ ?_)
   | (with_reducible refine LeO.bind ?_ (fun _ => ?_))
   | exact ih0 _ _ _
   | exact ih1 _ _
   | exact ih2 _ _
   | exact ih3 _ _ _ _
   | exact ih4 _ _
   | exact LeO.none _
   | refine LeO.ite ?_ ?_
   | refine LeO.bind ?_ (fun _ => ?_)
set_option maxHeartbeats 8000000 in
set_option maxRecDepth 100000 in
theorem impl_readTerm.calls (k : Nat) (a0 : ByteArray) (r1 : Int) (r2 : Int) (r3 : ByteArray) (r4 : Bool) (w : World) (hL : LaidW w) (h : impl_readTerm.f k a0 = some (r1, r2, r3, r4)) :
  Calls Tryd.prog 83 #[.string a0] w fun e w' => e = .returned (.tuple #[.int .i64 r1, .int .i64 r2, .string r3, .bool r4]) ∧ Below w.heap.size w w' := by
 have HL_ := Aside0.mk hL
 clear hL
 have HB := Aside0.mk (Below.refl w.heap.size w)
 have H : (if 0 < (a0.size : Int) then (if (bt a0 0) = 43 then (impl_readTerm.j0 k a0 0 true) else (impl_readTerm.j0 k a0 0 ((bt a0 0) == 45))) else (impl_readTerm.j0 k a0 0 false)) = some (r1, r2, r3, r4) := h
 clear h
 have HC2 := Aside0.mk H
 clear H
 go_enter Tryd.func83, Tryd.ntmps83
 go_upto_region 2 with (fail)
 go_cut [27] (fun v27 wc => ∃ (kq : Nat) (ql : Bool), v27 = .bool ql ∧ Aside0 (impl_readTerm.j0 kq a0 0 ql = some (r1, r2, r3, r4)) ∧ Aside0 (kq ≤ k) ∧ Aside0 (Below w.heap.size w wc))
 case first =>
  have H := HC2.out
  clear HC2
  by_cases c3 : 0 < (a0.size : Int)
  ·
   rw [if_pos c3] at H
   have qf : decide (0 < (a0.size : Int)) = true := decide_eq_true c3
   have qm : decide (0 < a0.size) = true := decide_eq_true (by omega)
   clear c3
   (first | rw [qf] | (simp only [i64_w, i32_w]; rw [qf]) | skip)
   by_cases c5 : (bt a0 0) = 43
   ·
    rw [if_pos c5] at H
    have qn : ((bt a0 0) == 43) = true := beq_iff_eq.mpr c5
    have qo : ((bt a0 0) != 43) = false := bne_eq_false_iff_eq.mpr c5
    clear c5
    have H' := Aside0.mk H
    clear H
    have p4 : 0 ≤ (0 : Int) := (by omega)
    have q4 : 0 < a0.size := (by have : (0 : Int) < (a0.size : Int) := of_decide_eq_true (by first | (with_reducible assumption) | assumption); omega)
    have hx4 : ∀ h : 0 < a0.size, ((a0[0]'h).toNat : Int) = bt a0 0 := bt_at a0 0
    clear p4
    have qi4 : (0 < (a0.size : Int)) = True := eq_true (of_decide_eq_true (by first | (with_reducible assumption) | assumption))
    replace q4 := eq_true q4
    go_wp2
    go_meet
    case rel => exact ⟨_, (true), (by first | rfl | (simp; done) | (simp [*]; done) | (simp [wrap64]; done)), H', ⟨by first | omega | exact Nat.le_refl _⟩, ⟨bb_ HB⟩⟩
   ·
    rw [if_neg c5] at H
    have qn : ((bt a0 0) == 43) = false := beq_eq_false_iff_ne.mpr c5
    have qo : ((bt a0 0) != 43) = true := bne_iff_ne.mpr c5
    have H' := Aside0.mk H
    clear H
    have p4 : 0 ≤ (0 : Int) := (by omega)
    have q4 : 0 < a0.size := (by have : (0 : Int) < (a0.size : Int) := of_decide_eq_true (by first | (with_reducible assumption) | assumption); omega)
    have hx4 : ∀ h : 0 < a0.size, ((a0[0]'h).toNat : Int) = bt a0 0 := bt_at a0 0
    clear p4
    have qi4 : (0 < (a0.size : Int)) = True := eq_true (of_decide_eq_true (by first | (with_reducible assumption) | assumption))
    replace q4 := eq_true q4
    have p6 : 0 ≤ (0 : Int) := (by omega)
    have q6 : 0 < a0.size := (by have : (0 : Int) < (a0.size : Int) := of_decide_eq_true (by first | (with_reducible assumption) | assumption); omega)
    have hx6 : ∀ h : 0 < a0.size, ((a0[0]'h).toNat : Int) = bt a0 0 := bt_at a0 0
    clear p6
    have qi6 : (0 < (a0.size : Int)) = True := eq_true (of_decide_eq_true (by first | (with_reducible assumption) | assumption))
    replace q6 := eq_true q6
    go_wp2
    go_meet
    case rel => exact ⟨_, (((bt a0 0) == 45)), (by first | rfl | (simp; done) | (simp [*]; done) | (simp [wrap64]; done)), H', ⟨by first | omega | exact Nat.le_refl _⟩, ⟨bb_ HB⟩⟩
  ·
   rw [if_neg c3] at H
   have qf : decide (0 < (a0.size : Int)) = false := decide_eq_false c3
   have qm : decide (0 < a0.size) = false := decide_eq_false (by omega)
   clear c3
   (first | rw [qf] | (simp only [i64_w, i32_w]; rw [qf]) | skip)
   have H' := Aside0.mk H
   clear H
   go_wp2
   go_meet
   case rel => exact ⟨_, (false), (by first | rfl | (simp; done) | (simp [*]; done) | (simp [wrap64]; done)), H', ⟨by first | omega | exact Nat.le_refl _⟩, ⟨bb_ HB⟩⟩
 case rest =>
  clear HC2
  try clear p2
  try clear c3
  try clear qf
  try clear qm
  try clear p4
  try clear q4
  try clear hx4
  try clear qi4
  try clear c5
  try clear qn
  try clear qo
  try clear p6
  try clear q6
  try clear hx6
  try clear qi6
  try clear p4
  try clear p6
  try clear q4
  try clear q6
  obtain ⟨kq, ql, rfl, HA, HJ1, HB⟩ := hcut
  cases kq with
  | zero => exact absurd HA.out (by simp [impl_readTerm.j0])
  | succ kj1 =>
   have H := HA.out
   clear HA
   simp only [impl_readTerm.j0] at H
   have HC7 := Aside0.mk H
   clear H
   go_upto_if 27 with (fail)
   go_cut [6] (fun v6 wc => ∃ (kq : Nat) (qr : Int), v6 = .int .i64 qr ∧ Aside0 (impl_readTerm.j1 kq a0 qr = some (r1, r2, r3, r4)) ∧ Aside0 (kq ≤ kj1) ∧ Aside0 (Below w.heap.size w wc))
   case first =>
    have H := HC7.out
    clear HC7
    by_cases c8 : ql = true
    ·
     subst c8
     have H1 : (impl_readTerm.j1 kj1 a0 (wrap64 (0 + 1))) = some (r1, r2, r3, r4) := by rw [if_pos rfl] at H; exact H
     clear H
     have H := H1
     clear H1
     have H' := Aside0.mk H
     clear H
     go_wp2
     go_meet
     case rel => exact ⟨_, (wrap64 (0 + 1)), (by first | rfl | (simp; done) | (simp [*]; done) | (simp [wrap64]; done)), H', ⟨by have := HJ1.out; first | omega | exact Nat.le_refl _⟩, ⟨bb_ HB⟩⟩
    ·
     replace c8 := Bool.eq_false_iff.mpr c8
     subst c8
     have H1 : (impl_readTerm.j1 kj1 a0 0) = some (r1, r2, r3, r4) := by rw [if_neg (show ¬ (false = true) by decide)] at H; exact H
     clear H
     have H := H1
     clear H1
     have H' := Aside0.mk H
     clear H
     go_wp2
     go_meet
     case rel => exact ⟨_, (0), (by first | rfl | (simp; done) | (simp [*]; done) | (simp [wrap64]; done)), H', ⟨by have := HJ1.out; first | omega | exact Nat.le_refl _⟩, ⟨bb_ HB⟩⟩
   case rest =>
    clear HC7
    try clear p2
    try clear c3
    try clear qf
    try clear qm
    try clear p4
    try clear q4
    try clear hx4
    try clear qi4
    try clear c5
    try clear qn
    try clear qo
    try clear p6
    try clear q6
    try clear hx6
    try clear qi6
    try clear c8
    try clear p2
    try clear p4
    try clear p6
    try clear q4
    try clear q6
    obtain ⟨kq, qr, rfl, HA, HJ6, HB⟩ := hcut
    cases kq with
    | zero => exact absurd HA.out (by simp [impl_readTerm.j1])
    | succ kj6 =>
     have H := HA.out
     clear HA
     simp only [impl_readTerm.j1] at H
     have HC9 := Aside0.mk H
     clear H
     go_upto_block 0 with (fail)
     go_cut [6] (fun v6 wc => ∃ (kq : Nat) (qc : Int), v6 = .int .i64 qc ∧ Aside0 (impl_readTerm.j3 kq a0 qc = some (r1, r2, r3, r4)) ∧ Aside0 (kq ≤ kj6) ∧ Aside0 (Below w.heap.size w wc))
     case first =>
      have H := HC9.out
      clear HC9
      have H' := Aside0.mk H
      clear H
      go_wp2
      go_loopg [6] kj6 (fun kq v6 w' => ∃ (qb : Int), v6 = .int .i64 qb ∧ Aside0 (impl_readTerm.l0 kq a0 qb = some (r1, r2, r3, r4)) ∧ Aside0 (kq ≤ kj6) ∧ Aside0 (Below w.heap.size w w'))
      case atStart => exact ⟨(qr), (by first | rfl | (simp; done) | (simp [*]; done) | (simp [wrap64]; done)), H', ⟨Nat.le_refl _⟩, ⟨bb_ HB⟩⟩
      case round =>
       clear H'
       try clear p2
       try clear c3
       try clear qf
       try clear qm
       try clear p4
       try clear q4
       try clear hx4
       try clear qi4
       try clear c5
       try clear qn
       try clear qo
       try clear p6
       try clear q6
       try clear hx6
       try clear qi6
       try clear c8
       try clear p2
       try clear p4
       try clear p6
       try clear q4
       try clear q6
       obtain ⟨qb, rfl, HA, HK3, HB⟩ := hrel
       cases gk with
       | zero => exact absurd HA.out (by simp [impl_readTerm.l0])
       | succ k3 =>
        have H := HA.out
        clear HA
        simp only [impl_readTerm.l0] at H
        by_cases c10 : qb < (a0.size : Int)
        ·
         rw [if_pos c10] at H
         have qe : decide (qb < (a0.size : Int)) = true := decide_eq_true c10
         clear c10
         (first | rw [qe] | (simp only [i64_w, i32_w]; rw [qe]) | skip)
         by_cases c11 : 0 ≤ qb
         ·
          rw [if_pos c11] at H
          have qt : decide (0 ≤ qb) = true := decide_eq_true c11
          clear c11
          by_cases c13 : (bt a0 qb) ≥ 48
          ·
           rw [if_pos c13] at H
           have qp : decide (48 ≤ (bt a0 qb)) = true := decide_eq_true c13
           clear c13
           by_cases c15 : (bt a0 qb) ≤ 57
           ·
            rw [if_pos c15] at H
            have qq : decide ((bt a0 qb) ≤ 57) = true := decide_eq_true c15
            clear c15
            have H' := Aside0.mk H
            clear H
            have p12 : 0 ≤ (qb : Int) := of_decide_eq_true (by first | (with_reducible assumption) | assumption)
            have q12 : qb < (a0.size : Int) := of_decide_eq_true (by first | (with_reducible assumption) | assumption)
            have hx12 := bt_at a0 qb
            replace p12 := eq_true p12
            replace q12 := eq_true q12
            have p14 : 0 ≤ (qb : Int) := of_decide_eq_true (by first | (with_reducible assumption) | assumption)
            have q14 : qb < (a0.size : Int) := of_decide_eq_true (by first | (with_reducible assumption) | assumption)
            have hx14 := bt_at a0 qb
            replace p14 := eq_true p14
            replace q14 := eq_true q14
            go_wp2
            go_roundg k3
            case measure => have := HJ1.out; have := HJ6.out; have := HK3.out; omega
            case rel => exact ⟨(wrap64 (qb + 1)), (by first | rfl | (simp; done) | (simp [*]; done) | (simp [wrap64]; done)), H', ⟨by have := HJ1.out; have := HJ6.out; have := HK3.out; omega⟩, ⟨bb_ HB⟩⟩
           ·
            rw [if_neg c15] at H
            have qq : decide ((bt a0 qb) ≤ 57) = false := decide_eq_false c15
            clear c15
            have H' := Aside0.mk H
            clear H
            have p12 : 0 ≤ (qb : Int) := of_decide_eq_true (by first | (with_reducible assumption) | assumption)
            have q12 : qb < (a0.size : Int) := of_decide_eq_true (by first | (with_reducible assumption) | assumption)
            have hx12 := bt_at a0 qb
            replace p12 := eq_true p12
            replace q12 := eq_true q12
            have p14 : 0 ≤ (qb : Int) := of_decide_eq_true (by first | (with_reducible assumption) | assumption)
            have q14 : qb < (a0.size : Int) := of_decide_eq_true (by first | (with_reducible assumption) | assumption)
            have hx14 := bt_at a0 qb
            replace p14 := eq_true p14
            replace q14 := eq_true q14
            go_wp2
            go_meet
            case rel => exact ⟨_, (qb), (by first | rfl | (simp; done) | (simp [*]; done) | (simp [wrap64]; done)), H', ⟨by have := HJ1.out; have := HJ6.out; have := HK3.out; first | omega | exact Nat.le_refl _⟩, ⟨bb_ HB⟩⟩
          ·
           rw [if_neg c13] at H
           have qp : decide (48 ≤ (bt a0 qb)) = false := decide_eq_false c13
           clear c13
           have H' := Aside0.mk H
           clear H
           have p12 : 0 ≤ (qb : Int) := of_decide_eq_true (by first | (with_reducible assumption) | assumption)
           have q12 : qb < (a0.size : Int) := of_decide_eq_true (by first | (with_reducible assumption) | assumption)
           have hx12 := bt_at a0 qb
           replace p12 := eq_true p12
           replace q12 := eq_true q12
           go_wp2
           go_meet
           case rel => exact ⟨_, (qb), (by first | rfl | (simp; done) | (simp [*]; done) | (simp [wrap64]; done)), H', ⟨by have := HJ1.out; have := HJ6.out; have := HK3.out; first | omega | exact Nat.le_refl _⟩, ⟨bb_ HB⟩⟩
         ·
          rw [if_neg c11] at H
          exact absurd H (by simp)
        ·
         rw [if_neg c10] at H
         have qe : decide (qb < (a0.size : Int)) = false := decide_eq_false c10
         clear c10
         (first | rw [qe] | (simp only [i64_w, i32_w]; rw [qe]) | skip)
         have H' := Aside0.mk H
         clear H
         go_wp2
         go_meet
         case rel => exact ⟨_, (qb), (by first | rfl | (simp; done) | (simp [*]; done) | (simp [wrap64]; done)), H', ⟨by have := HJ1.out; have := HJ6.out; have := HK3.out; first | omega | exact Nat.le_refl _⟩, ⟨bb_ HB⟩⟩
     case rest =>
      clear HC9
      try clear c1
      try clear p1
      try clear q1
      try clear hx1
      try clear p2
      try clear c3
      try clear qf
      try clear qm
      try clear p4
      try clear q4
      try clear hx4
      try clear qi4
      try clear c5
      try clear qn
      try clear qo
      try clear p6
      try clear q6
      try clear hx6
      try clear qi6
      try clear c8
      try clear c10
      try clear qe
      try clear c11
      try clear qt
      try clear p12
      try clear q12
      try clear hx12
      try clear c13
      try clear qp
      try clear p14
      try clear q14
      try clear hx14
      try clear c15
      try clear qq
      try clear p12
      try clear p14
      try clear p2
      try clear p4
      try clear p6
      try clear q12
      try clear q14
      try clear q4
      try clear q6
      obtain ⟨kq, qc, rfl, HA, HJ8, HB⟩ := hcut
      cases kq with
      | zero => exact absurd HA.out (by simp [impl_readTerm.j3])
      | succ kj8 =>
       have H := HA.out
       clear HA
       simp only [impl_readTerm.j3] at H
       by_cases c16 : 0 ≤ qc
       ·
        rw [if_pos c16] at H
        have qu := eq_true c16
        have qv : decide (0 ≤ qc) = true := decide_eq_true c16
        clear c16
        by_cases c17 : qc ≤ (a0.size : Int)
        ·
         rw [if_pos c17] at H
         have qw := eq_true c17
         have qx : decide (qc ≤ (a0.size : Int)) = true := decide_eq_true c17
         clear c17
         replace H := Option.bind_eq_some_iff.mp H
         obtain ⟨qa, A180, H⟩ := H
         replace H : (if qc < (a0.size : Int) then ((strings_IndexByte.f (⟨#[120, 121, 122, 116]⟩ : ByteArray) (bt a0 qc)).bind fun qk => (impl_readTerm.j4 kj8 a0 qc qa qk)) else (impl_readTerm.j4 kj8 a0 qc qa (-1))) = some (r1, r2, r3, r4) := H
         have A18 := Aside0.mk A180
         clear A180
         have HC19 := Aside0.mk H
         clear H
         go_upto_if 55 with (first | ((with_reducible refine gate_callee (f := 105) rfl ?_); refine goesL_ (some 51) rfl rfl Tryd.func105 (by kernel_rfl) rfl #[.string (a0.extract 0 (qc : Int).toNat), .string (⟨#[43]⟩ : ByteArray)] rfl (by (try simp only [List.map_toArray, List.map_cons, List.map_nil]); first | done | rfl | (simp only [List.length_drop, List.length_take]; rfl)) ?_; (with_reducible refine (strings_TrimPrefix.calls (a0.extract 0 (qc : Int).toNat) (⟨#[43]⟩ : ByteArray) qa _ A18.out).mono ?_); rintro e w' ⟨rfl, ⟨nd, rfl⟩⟩; refine ⟨_, rfl, ?_⟩))
         (try simp only [Act.put, List.setIfInBounds_toArray, List.set_cons_zero, List.set_cons_succ])
         go_cut [8] (fun v8 wc => ∃ (kq : Nat) (qd : Int), v8 = .int .i64 qd ∧ Aside0 (impl_readTerm.j4 kq a0 qc qa qd = some (r1, r2, r3, r4)) ∧ Aside0 (kq ≤ kj8) ∧ Aside0 (Below w.heap.size w wc))
         case first =>
          have H := HC19.out
          clear HC19
          by_cases c20 : qc < (a0.size : Int)
          ·
           rw [if_pos c20] at H
           have qg : decide (qc < (a0.size : Int)) = true := decide_eq_true c20
           clear c20
           (first | rw [qg] | (simp only [i64_w, i32_w]; rw [qg]) | skip)
           replace H := Option.bind_eq_some_iff.mp H
           obtain ⟨qk, A220, H⟩ := H
           replace H : (impl_readTerm.j4 kj8 a0 qc qa qk) = some (r1, r2, r3, r4) := H
           have A22 := Aside0.mk A220
           clear A220
           have H' := Aside0.mk H
           clear H
           have p21 : 0 ≤ (qc : Int) := of_decide_eq_true (by first | (with_reducible assumption) | assumption)
           have q21 : qc < (a0.size : Int) := of_decide_eq_true (by first | (with_reducible assumption) | assumption)
           have hx21 := bt_at a0 qc
           replace p21 := eq_true p21
           replace q21 := eq_true q21
           go_wp2_with (first | ((with_reducible refine gate_callee (f := 106) rfl ?_); refine goesL_ (some 59) rfl rfl Tryd.func106 (by kernel_rfl) rfl #[.string (⟨#[120, 121, 122, 116]⟩ : ByteArray), .int .u8 (bt a0 qc)] rfl (by (try simp only [List.map_toArray, List.map_cons, List.map_nil]); first | done | rfl | (simp only [List.length_drop, List.length_take]; rfl)) ?_; (with_reducible refine (strings_IndexByte.calls (⟨#[120, 121, 122, 116]⟩ : ByteArray) (bt a0 qc) qk _ A22.out).mono ?_); rintro e w' ⟨rfl, ⟨nd, rfl⟩⟩; refine ⟨_, rfl, ?_⟩))
           go_meet
           case rel => exact ⟨_, (qk), (by first | rfl | (simp; done) | (simp [*]; done) | (simp [wrap64]; done)), H', ⟨by have := HJ1.out; have := HJ6.out; have := HJ8.out; first | omega | exact Nat.le_refl _⟩, ⟨bb_ HB⟩⟩
          ·
           rw [if_neg c20] at H
           have qg : decide (qc < (a0.size : Int)) = false := decide_eq_false c20
           clear c20
           (first | rw [qg] | (simp only [i64_w, i32_w]; rw [qg]) | skip)
           have H' := Aside0.mk H
           clear H
           go_wp2
           go_meet
           case rel => exact ⟨_, ((-1)), (by first | rfl | (simp; done) | (simp [*]; done) | (simp [wrap64]; done)), H', ⟨by have := HJ1.out; have := HJ6.out; have := HJ8.out; first | omega | exact Nat.le_refl _⟩, ⟨bb_ HB⟩⟩
         case rest =>
          clear HC19
          try clear c1
          try clear p1
          try clear q1
          try clear hx1
          try clear c2
          try clear p2
          try clear q2
          try clear hx2
          try clear c3
          try clear qf
          try clear qm
          try clear p4
          try clear q4
          try clear hx4
          try clear qi4
          try clear c5
          try clear qn
          try clear qo
          try clear p6
          try clear q6
          try clear hx6
          try clear qi6
          try clear c8
          try clear c10
          try clear qe
          try clear c11
          try clear qt
          try clear p12
          try clear q12
          try clear hx12
          try clear c13
          try clear qp
          try clear p14
          try clear q14
          try clear hx14
          try clear c15
          try clear qq
          try clear c16
          try clear qu
          try clear qv
          try clear c17
          try clear qw
          try clear qx
          try clear c20
          try clear qg
          try clear p21
          try clear q21
          try clear hx21
          try clear p1
          try clear p12
          try clear p14
          try clear p2
          try clear p21
          try clear p4
          try clear p6
          try clear q1
          try clear q12
          try clear q14
          try clear q21
          try clear q4
          try clear q6
          obtain ⟨kq, qd, rfl, HA, HJ18, HB⟩ := hcut
          cases kq with
          | zero => exact absurd HA.out (by simp [impl_readTerm.j4])
          | succ kj18 =>
           have H := HA.out
           clear HA
           simp only [impl_readTerm.j4] at H
           by_cases c23 : 0 ≤ qc
           ·
            rw [if_pos c23] at H
            have qL := eq_true c23
            have qM : decide (0 ≤ qc) = true := decide_eq_true c23
            clear c23
            by_cases c24 : qc ≤ (a0.size : Int)
            ·
             rw [if_pos c24] at H
             have qN := eq_true c24
             have qO : decide (qc ≤ (a0.size : Int)) = true := decide_eq_true c24
             clear c24
             by_cases c25 : qd ≥ 0
             ·
              rw [if_pos c25] at H
              have qy : decide (0 ≤ qd) = true := decide_eq_true c25
              clear c25
              obtain ⟨ji26, hji26⟩ : ∃ j_ : Int, (wrap64 (qc + 1)) = j_ := ⟨_, rfl⟩
              replace H : (if 0 ≤ (ji26) then (if (ji26) ≤ (a0.size : Int) then (if qa.toList = ([] : List UInt8) then (if qa.size + 1 ≤ 9223372036854775807 then ((impl_ParseInt.f (qa ++ (⟨#[49]⟩ : ByteArray))).bind fun qh => (some (qh.1, qd, a0.extract ((ji26) : Int).toNat a0.size, qh.2))) else (none)) else (if qa.toList = ([45] : List UInt8) then (if qa.size + 1 ≤ 9223372036854775807 then ((impl_ParseInt.f (qa ++ (⟨#[49]⟩ : ByteArray))).bind fun qi => (some (qi.1, qd, a0.extract ((ji26) : Int).toNat a0.size, qi.2))) else (none)) else ((impl_ParseInt.f qa).bind fun qj => (some (qj.1, qd, a0.extract ((ji26) : Int).toNat a0.size, qj.2))))) else (none)) else (none)) = some (r1, r2, r3, r4) := by first | (rw [hji26] at H; exact H) | (simp only [hji26] at H ⊢; exact H)
              have hji26w : (IntKind.i64.wrap (qc + 1)) = ji26 := (i64_w _).trans hji26
              by_cases c27 : 0 ≤ (ji26)
              ·
               rw [if_pos c27] at H
               have qP := eq_true c27
               have qQ : decide (0 ≤ (ji26)) = true := decide_eq_true c27
               clear c27
               by_cases c28 : (ji26) ≤ (a0.size : Int)
               ·
                rw [if_pos c28] at H
                have qR := eq_true c28
                have qS : decide ((ji26) ≤ (a0.size : Int)) = true := decide_eq_true c28
                clear c28
                by_cases c29 : qa.toList = ([] : List UInt8)
                ·
                 rw [if_pos c29] at H
                 have qz : (qa.toList == ([] : List UInt8)) = true := beq_iff_eq.mpr c29
                 have qA : (qa.toList != ([] : List UInt8)) = false := bne_eq_false_iff_eq.mpr c29
                 clear c29
                 by_cases c30 : qa.size + 1 ≤ 9223372036854775807
                 ·
                  rw [if_pos c30] at H
                  have qT := eq_true c30
                  have qU : decide (qa.size + 1 ≤ 9223372036854775807) = true := decide_eq_true c30
                  try have qV : (9223372036854775807 < qa.size + 1) = False := eq_false (Nat.not_lt.2 c30)
                  replace H := Option.bind_eq_some_iff.mp H
                  obtain ⟨⟨qB, qC⟩, A310, H⟩ := H
                  replace H : (some (qB, qd, a0.extract ((ji26) : Int).toNat a0.size, qC)) = some (r1, r2, r3, r4) := H
                  have A31 := Aside0.mk A310
                  clear A310
                  simp only [Option.some.injEq, Prod.mk.injEq] at H
                  obtain ⟨rfl, rfl, rfl, rfl⟩ := H
                  go_wp2_with (first | ((with_reducible refine gate_callee (f := 17) rfl ?_); refine goesL_ (some 79) rfl rfl Tryd.func17 (by kernel_rfl) rfl #[.string (qa ++ (⟨#[49]⟩ : ByteArray))] rfl (by (try simp only [List.map_toArray, List.map_cons, List.map_nil]); first | done | rfl | (simp only [List.length_drop, List.length_take]; rfl)) ?_; (with_reducible refine (impl_ParseInt.calls (hL := laid_ HL_ HB) (qa ++ (⟨#[49]⟩ : ByteArray)) qB qC _ A31.out).mono ?_); rintro e qZ ⟨rfl, hb⟩; refine ⟨_, rfl, ?_⟩; replace HB := bS_ HB hb; (try clear hb); (try clear hb2); (try clear hk); (try clear hi)))
                  refine bodyPost_ret (results_list (rs := [.tmp 2, .tmp 3, .tmp 4, .tmp 5]) rfl (by simp) (.tmp (.tmp (.tmp (.tmp .nil))))) rfl ?_
                  exact ⟨by first | rfl | (simp [errW_none, errW_some] <;> rfl) | (simp only [← hji26]; first | rfl | (simp [errW_none, errW_some] <;> rfl)) | (simp [*, errW_none, errW_some] <;> rfl), bb_ HB⟩
                 ·
                  rw [if_neg c30] at H
                  exact absurd H (by simp)
                ·
                 rw [if_neg c29] at H
                 have qz : (qa.toList == ([] : List UInt8)) = false := beq_eq_false_iff_ne.mpr c29
                 have qA : (qa.toList != ([] : List UInt8)) = true := bne_iff_ne.mpr c29
                 by_cases c33 : qa.toList = ([45] : List UInt8)
                 ·
                  rw [if_pos c33] at H
                  have qD : (qa.toList == ([45] : List UInt8)) = true := beq_iff_eq.mpr c33
                  have qE : (qa.toList != ([45] : List UInt8)) = false := bne_eq_false_iff_eq.mpr c33
                  clear c33
                  by_cases c34 : qa.size + 1 ≤ 9223372036854775807
                  ·
                   rw [if_pos c34] at H
                   have qW := eq_true c34
                   have qX : decide (qa.size + 1 ≤ 9223372036854775807) = true := decide_eq_true c34
                   try have qY : (9223372036854775807 < qa.size + 1) = False := eq_false (Nat.not_lt.2 c34)
                   replace H := Option.bind_eq_some_iff.mp H
                   obtain ⟨⟨qF, qG⟩, A350, H⟩ := H
                   replace H : (some (qF, qd, a0.extract ((ji26) : Int).toNat a0.size, qG)) = some (r1, r2, r3, r4) := H
                   have A35 := Aside0.mk A350
                   clear A350
                   simp only [Option.some.injEq, Prod.mk.injEq] at H
                   obtain ⟨rfl, rfl, rfl, rfl⟩ := H
                   go_wp2_with (first | ((with_reducible refine gate_callee (f := 17) rfl ?_); refine goesL_ (some 79) rfl rfl Tryd.func17 (by kernel_rfl) rfl #[.string (qa ++ (⟨#[49]⟩ : ByteArray))] rfl (by (try simp only [List.map_toArray, List.map_cons, List.map_nil]); first | done | rfl | (simp only [List.length_drop, List.length_take]; rfl)) ?_; (with_reducible refine (impl_ParseInt.calls (hL := laid_ HL_ HB) (qa ++ (⟨#[49]⟩ : ByteArray)) qF qG _ A35.out).mono ?_); rintro e q0 ⟨rfl, hb⟩; refine ⟨_, rfl, ?_⟩; replace HB := bS_ HB hb; (try clear hb); (try clear hb2); (try clear hk); (try clear hi)))
                   refine bodyPost_ret (results_list (rs := [.tmp 2, .tmp 3, .tmp 4, .tmp 5]) rfl (by simp) (.tmp (.tmp (.tmp (.tmp .nil))))) rfl ?_
                   exact ⟨by first | rfl | (simp [errW_none, errW_some] <;> rfl) | (simp only [← hji26]; first | rfl | (simp [errW_none, errW_some] <;> rfl)) | (simp [*, errW_none, errW_some] <;> rfl), bb_ HB⟩
                  ·
                   rw [if_neg c34] at H
                   exact absurd H (by simp)
                 ·
                  rw [if_neg c33] at H
                  have qD : (qa.toList == ([45] : List UInt8)) = false := beq_eq_false_iff_ne.mpr c33
                  have qE : (qa.toList != ([45] : List UInt8)) = true := bne_iff_ne.mpr c33
                  replace H := Option.bind_eq_some_iff.mp H
                  obtain ⟨⟨qH, qI⟩, A370, H⟩ := H
                  replace H : (some (qH, qd, a0.extract ((ji26) : Int).toNat a0.size, qI)) = some (r1, r2, r3, r4) := H
                  have A37 := Aside0.mk A370
                  clear A370
                  simp only [Option.some.injEq, Prod.mk.injEq] at H
                  obtain ⟨rfl, rfl, rfl, rfl⟩ := H
                  go_wp2_with (first | ((with_reducible refine gate_callee (f := 17) rfl ?_); refine goesL_ (some 79) rfl rfl Tryd.func17 (by kernel_rfl) rfl #[.string qa] rfl (by (try simp only [List.map_toArray, List.map_cons, List.map_nil]); first | done | rfl | (simp only [List.length_drop, List.length_take]; rfl)) ?_; (with_reducible refine (impl_ParseInt.calls (hL := laid_ HL_ HB) qa qH qI _ A37.out).mono ?_); rintro e q3 ⟨rfl, hb⟩; refine ⟨_, rfl, ?_⟩; replace HB := bS_ HB hb; (try clear hb); (try clear hb2); (try clear hk); (try clear hi)))
                  refine bodyPost_ret (results_list (rs := [.tmp 2, .tmp 3, .tmp 4, .tmp 5]) rfl (by simp) (.tmp (.tmp (.tmp (.tmp .nil))))) rfl ?_
                  exact ⟨by first | rfl | (simp [errW_none, errW_some] <;> rfl) | (simp only [← hji26]; first | rfl | (simp [errW_none, errW_some] <;> rfl)) | (simp [*, errW_none, errW_some] <;> rfl), bb_ HB⟩
               ·
                rw [if_neg c28] at H
                exact absurd H (by simp)
              ·
               rw [if_neg c27] at H
               exact absurd H (by simp)
             ·
              rw [if_neg c25] at H
              have qy : decide (0 ≤ qd) = false := decide_eq_false c25
              clear c25
              replace H := Option.bind_eq_some_iff.mp H
              obtain ⟨⟨qJ, qK⟩, A390, H⟩ := H
              replace H : (some (qJ, qd, a0.extract (qc : Int).toNat a0.size, qK)) = some (r1, r2, r3, r4) := H
              have A39 := Aside0.mk A390
              clear A390
              simp only [Option.some.injEq, Prod.mk.injEq] at H
              obtain ⟨rfl, rfl, rfl, rfl⟩ := H
              go_wp2_with (first | ((with_reducible refine gate_callee (f := 17) rfl ?_); refine goesL_ (some 79) rfl rfl Tryd.func17 (by kernel_rfl) rfl #[.string qa] rfl (by (try simp only [List.map_toArray, List.map_cons, List.map_nil]); first | done | rfl | (simp only [List.length_drop, List.length_take]; rfl)) ?_; (with_reducible refine (impl_ParseInt.calls (hL := laid_ HL_ HB) qa qJ qK _ A39.out).mono ?_); rintro e q5 ⟨rfl, hb⟩; refine ⟨_, rfl, ?_⟩; replace HB := bS_ HB hb; (try clear hb); (try clear hb2); (try clear hk); (try clear hi)))
              refine bodyPost_ret (results_list (rs := [.tmp 2, .tmp 3, .tmp 4, .tmp 5]) rfl (by simp) (.tmp (.tmp (.tmp (.tmp .nil))))) rfl ?_
              exact ⟨by first | rfl | (simp [errW_none, errW_some] <;> rfl) | (simp [*, errW_none, errW_some] <;> rfl), bb_ HB⟩
            ·
             rw [if_neg c24] at H
             exact absurd H (by simp)
           ·
            rw [if_neg c23] at H
            exact absurd H (by simp)
        ·
         rw [if_neg c17] at H
         exact absurd H (by simp)
       ·
        rw [if_neg c16] at H
        exact absurd H (by simp)

/-! ### impl_ParseAtom: function 41 -/
mutual
def impl_ParseAtom.j0 : Nat → ByteArray → Int → Bool → Option (List Int × Int × Bool × Bool)
 | 0, _, _, _ => none
 | k + 1, x0, x1, x25 => if x25 = true then (some (([] : List Int), 0, false, false)) else (if 0 ≤ x1 then (if (x1 : Int).toNat ≤ 35184372088832 then ((some (List.replicate (x1 : Int).toNat 0 : List Int)).bind fun y190 => ((strings_CutSuffix.f x0 (⟨#[60, 48]⟩ : ByteArray)).bind fun qn => (if qn.2 = true then (impl_ParseAtom.j1 k x0 x1 qn.1 qn.2 y190 0 false) else ((strings_CutSuffix.f x0 (⟨#[60, 61, 48]⟩ : ByteArray)).bind fun qo => (if qo.2 = true then (impl_ParseAtom.j1 k x0 x1 qo.1 qn.2 y190 0 false) else (some (([] : List Int), 0, false, false))))))) else (none)) else (none))
def impl_ParseAtom.j1 : Nat → ByteArray → Int → ByteArray → Bool → List Int → Int → Bool → Option (List Int × Int × Bool × Bool)
 | 0, _, _, _, _, _, _, _ => none
 | k + 1, x0, x1, x7, x8, x194000, x194001, x194002 => impl_ParseAtom.l0 k x0 x1 x7 x194000 x194001 x8
def impl_ParseAtom.l0 : Nat → ByteArray → Int → ByteArray → List Int → Int → Bool → Option (List Int × Int × Bool × Bool)
 | 0, _, _, _, _, _, _ => none
 | k + 1, x0, x1, x7, x194000, x194001, x194002 => if x7.toList = ([] : List UInt8) then ((impl_FormatAtom.f k x194000 x194001 x194002).bind fun qw => (if qw.toList = x0.toList then (some (x194000, x194001, x194002, true)) else (some (([] : List Int), 0, false, false)))) else ((impl_readTerm.f k x7).bind fun qs => (if qs.2.2.2 = true then (impl_ParseAtom.j3 k x0 x1 qs.1 qs.2.1 qs.2.2.1 (decide (qs.2.1 ≥ x1)) x194000 x194001 x194002) else (impl_ParseAtom.j3 k x0 x1 qs.1 qs.2.1 qs.2.2.1 true x194000 x194001 x194002)))
def impl_ParseAtom.j3 : Nat → ByteArray → Int → Int → Int → ByteArray → Bool → List Int → Int → Bool → Option (List Int × Int × Bool × Bool)
 | 0, _, _, _, _, _, _, _, _, _ => none
 | k + 1, x0, x1, x11, x12, x13, x63, x194000, x194001, x194002 => if x63 = true then (some (([] : List Int), 0, false, false)) else (if x12 ≥ 0 then (if 0 ≤ x12 then (if x12 < (x194000.length : Int) then (impl_ParseAtom.l0 k x0 x1 x13 (x194000.set (x12 : Int).toNat x11) x194001 x194002) else (none)) else (none)) else (impl_ParseAtom.l0 k x0 x1 x13 x194000 x11 x194002))
end
def impl_ParseAtom.f (k : Nat) (a0 : ByteArray) (a1 : Int) : Option (List Int × Int × Bool × Bool) := if a1 < 0 then (impl_ParseAtom.j0 k a0 a1 true) else (if a1 > 4 then (impl_ParseAtom.j0 k a0 a1 true) else (impl_ParseAtom.j0 k a0 a1 (decide ((a0.size : Int) > 80))))
theorem impl_ParseAtom.mono_l : ∀ k, (∀ y0 y1 y2, LeO (impl_ParseAtom.j0 k y0 y1 y2) (impl_ParseAtom.j0 (k + 1) y0 y1 y2)) ∧ (∀ y0 y1 y2 y3 y4 y5 y6, LeO (impl_ParseAtom.j1 k y0 y1 y2 y3 y4 y5 y6) (impl_ParseAtom.j1 (k + 1) y0 y1 y2 y3 y4 y5 y6)) ∧ (∀ y0 y1 y2 y3 y4 y5, LeO (impl_ParseAtom.l0 k y0 y1 y2 y3 y4 y5) (impl_ParseAtom.l0 (k + 1) y0 y1 y2 y3 y4 y5)) ∧ (∀ y0 y1 y2 y3 y4 y5 y6 y7 y8, LeO (impl_ParseAtom.j3 k y0 y1 y2 y3 y4 y5 y6 y7 y8) (impl_ParseAtom.j3 (k + 1) y0 y1 y2 y3 y4 y5 y6 y7 y8))
 | 0 => ⟨fun _ _ _ r h => by simp [impl_ParseAtom.j0] at h, fun _ _ _ _ _ _ _ r h => by simp [impl_ParseAtom.j1] at h, fun _ _ _ _ _ _ r h => by simp [impl_ParseAtom.l0] at h, fun _ _ _ _ _ _ _ _ _ r h => by simp [impl_ParseAtom.j3] at h⟩
 | k + 1 => by
  obtain ⟨ih0, ih1, ih2, ih3⟩ := impl_ParseAtom.mono_l k
  refine ⟨?_, ?_, ?_, ?_⟩
  ·
   intro y0 y1 y2
   unfold impl_ParseAtom.j0
   repeat' first
   | (with_reducible exact ih0 _ _ _)
   | (with_reducible exact ih1 _ _ _ _ _ _ _)
   | (with_reducible exact ih2 _ _ _ _ _ _)
   | (with_reducible exact ih3 _ _ _ _ _ _ _ _ _)
   | (with_reducible exact impl_FormatAtom.mono _ _ _ _)
   | (with_reducible exact impl_readTerm.mono _ _)
   | (with_reducible exact LeO.refl _)
   | (with_reducible exact LeO.none _)
   | (with_reducible refine LeO.ite ?_ ?_)
   | (with_reducible refine LeO.bind ?_ (fun _ => ?_))
   | exact ih0 _ _ _
   | exact ih1 _ _ _ _ _ _ _
   | exact ih2 _ _ _ _ _ _
   | exact ih3 _ _ _ _ _ _ _ _ _
   | exact impl_FormatAtom.mono _ _ _ _
   | exact impl_readTerm.mono _ _
   | exact LeO.none _
   | refine LeO.ite ?_ ?_
   | refine LeO.bind ?_ (fun _ => ?_)
  ·
   intro y0 y1 y2 y3 y4 y5 y6
   unfold impl_ParseAtom.j1
   repeat' first
   | (with_reducible exact ih0 _ _ _)
   | (with_reducible exact ih1 _ _ _ _ _ _ _)
   | (with_reducible exact ih2 _ _ _ _ _ _)
   | (with_reducible exact ih3 _ _ _ _ _ _ _ _ _)
   | (with_reducible exact impl_FormatAtom.mono _ _ _ _)
   | (with_reducible exact impl_readTerm.mono _ _)
   | (with_reducible exact LeO.refl _)
   | (with_reducible exact LeO.none _)
   | (with_reducible refine LeO.ite ?_ ?_)
   | (with_reducible refine LeO.bind ?_ (fun _ => ?_))
   | exact ih0 _ _ _
   | exact ih1 _ _ _ _ _ _ _
   | exact ih2 _ _ _ _ _ _
   | exact ih3 _ _ _ _ _ _ _ _ _
   | exact impl_FormatAtom.mono _ _ _ _
   | exact impl_readTerm.mono _ _
   | exact LeO.none _
   | refine LeO.ite ?_ ?_
   | refine LeO.bind ?_ (fun _ => ?_)
  ·
   intro y0 y1 y2 y3 y4 y5
   unfold impl_ParseAtom.l0
   repeat' first
   | (with_reducible exact ih0 _ _ _)
   | (with_reducible exact ih1 _ _ _ _ _ _ _)
   | (with_reducible exact ih2 _ _ _ _ _ _)
   | (with_reducible exact ih3 _ _ _ _ _ _ _ _ _)
   | (with_reducible exact impl_FormatAtom.mono _ _ _ _)
   | (with_reducible exact impl_readTerm.mono _ _)
   | (with_reducible exact LeO.refl _)
   | (with_reducible exact LeO.none _)
   | (with_reducible refine LeO.ite ?_ ?_)
   | (with_reducible refine LeO.bind ?_ (fun _ => ?_))
   | exact ih0 _ _ _
   | exact ih1 _ _ _ _ _ _ _
   | exact ih2 _ _ _ _ _ _
   | exact ih3 _ _ _ _ _ _ _ _ _
   | exact impl_FormatAtom.mono _ _ _ _
   | exact impl_readTerm.mono _ _
   | exact LeO.none _
   | refine LeO.ite ?_ ?_
   | refine LeO.bind ?_ (fun _ => ?_)
  ·
   intro y0 y1 y2 y3 y4 y5 y6 y7 y8
   unfold impl_ParseAtom.j3
   repeat' first
   | (with_reducible exact ih0 _ _ _)
   | (with_reducible exact ih1 _ _ _ _ _ _ _)
   | (with_reducible exact ih2 _ _ _ _ _ _)
   | (with_reducible exact ih3 _ _ _ _ _ _ _ _ _)
   | (with_reducible exact impl_FormatAtom.mono _ _ _ _)
   | (with_reducible exact impl_readTerm.mono _ _)
   | (with_reducible exact LeO.refl _)
   | (with_reducible exact LeO.none _)
   | (with_reducible refine LeO.ite ?_ ?_)
   | (with_reducible refine LeO.bind ?_ (fun _ => ?_))
   | exact ih0 _ _ _
   | exact ih1 _ _ _ _ _ _ _
   | exact ih2 _ _ _ _ _ _
   | exact ih3 _ _ _ _ _ _ _ _ _
   | exact impl_FormatAtom.mono _ _ _ _
   | exact impl_readTerm.mono _ _
   | exact LeO.none _
   | refine LeO.ite ?_ ?_
   | refine LeO.bind ?_ (fun _ => ?_)
theorem impl_ParseAtom.mono : ∀ a0 a1 k, LeO (impl_ParseAtom.f k a0 a1) (impl_ParseAtom.f (k + 1) a0 a1) := by
 intro a0 a1 k
 obtain ⟨ih0, ih1, ih2, ih3⟩ := impl_ParseAtom.mono_l k
 unfold impl_ParseAtom.f
 repeat' first
   | (with_reducible exact ih0 _ _ _)
   | (with_reducible exact ih1 _ _ _ _ _ _ _)
   | (with_reducible exact ih2 _ _ _ _ _ _)
   | (with_reducible exact ih3 _ _ _ _ _ _ _ _ _)
   | (with_reducible exact impl_FormatAtom.mono _ _ _ _)
   | (with_reducible exact impl_readTerm.mono _ _)
   | (with_reducible exact LeO.refl _)
   | (with_reducible exact LeO.none _)
   | (with_reducible refine LeO.ite ?_ ?_)
   | (with_reducible refine LeO.bind ?_ (fun _ => ?_))
   | exact ih0 _ _ _
   | exact ih1 _ _ _ _ _ _ _
   | exact ih2 _ _ _ _ _ _
   | exact ih3 _ _ _ _ _ _ _ _ _
   | exact impl_FormatAtom.mono _ _ _ _
   | exact impl_readTerm.mono _ _
   | exact LeO.none _
   | refine LeO.ite ?_ ?_
   | refine LeO.bind ?_ (fun _ => ?_)
set_option maxHeartbeats 8000000 in
set_option maxRecDepth 100000 in
theorem impl_ParseAtom.calls (k : Nat) (a0 : ByteArray) (a1 : Int) (r1 : List Int) (r2 : Int) (r3 : Bool) (r4 : Bool) (w : World) (hL : LaidW w) (h : impl_ParseAtom.f k a0 a1 = some (r1, r2, r3, r4)) :
  Calls Tryd.prog 41 #[.string a0, .int .i64 a1] w fun e w' => ∃ v0_ : Value, e = .returned (.tuple #[.agg #[v0_, .int .i64 r2, .bool r3], .bool r4]) ∧ Kd.R (Kd.int .i64) 3 w' w.heap.size (fun _ => True) v0_ r1 ∧ Below w.heap.size w w' := by
 have HL_ := Aside0.mk hL
 clear hL
 have hu27 := Tryd.underlying27
 have HB := Aside0.mk (Below.refl w.heap.size w)
 have H : (if a1 < 0 then (impl_ParseAtom.j0 k a0 a1 true) else (if a1 > 4 then (impl_ParseAtom.j0 k a0 a1 true) else (impl_ParseAtom.j0 k a0 a1 (decide ((a0.size : Int) > 80))))) = some (r1, r2, r3, r4) := h
 clear h
 have HC3 := Aside0.mk H
 clear H
 go_enter Tryd.func41, Tryd.ntmps41
 go_upto_region 1 with (first | ((with_reducible refine gate_dst (N := 4) rfl ?_); (try (refine gate_guard (by rfl) ?_; dsimp only)); refine box_event ?hg (N := 4) ?hd (cs := #[.slice none 0 0, .int .i64 0, .bool false]) (t := 27) ?hr ?_; (case hd => rfl); (case hg => rfl); (case hr => first | (go_simp; done) | (go_simp; rfl)); intro qi hg w4 hbox hb; have qb := Aside0.mk (hbox); have je := Aside0.mk ((by rw [hg]; exact (bz_ HB) : w.heap.size ≤ qi)); have jf := Aside0.mk ((by rw [hg]; exact (bz_ HB) : w.heap.size ≤ qi)); replace HB := bS_ HB hb; clear hb hbox hg))
 (try simp only [Act.put, List.setIfInBounds_toArray, List.set_cons_zero, List.set_cons_succ])
 go_cut [25] (fun v25 wc => ∃ (kq : Nat) (qT : Bool), v25 = .bool qT ∧ Aside0 (impl_ParseAtom.j0 kq a0 a1 qT = some (r1, r2, r3, r4)) ∧ Aside0 (kq ≤ k) ∧ Aside0 (wc.heap[qi]? = some (.cells #[(.slice none 0 0), .int .i64 0, .bool false] 27 (0, 0))) ∧ Aside0 (Below w.heap.size w wc))
 case first =>
  have H := HC3.out
  clear HC3
  by_cases c5 : a1 < 0
  ·
   rw [if_pos c5] at H
   have qy : decide (a1 < 0) = true := decide_eq_true c5
   clear c5
   (first | rw [qy] | (simp only [i64_w, i32_w]; rw [qy]) | skip)
   have H' := Aside0.mk H
   clear H
   go_wp2
   go_meet
   case rel => exact ⟨_, (true), (by first | rfl | (simp; done) | (simp [*]; done)), H', ⟨by first | omega | exact Nat.le_refl _⟩, ⟨kf_ qb⟩, ⟨bb_ HB⟩⟩
  ·
   rw [if_neg c5] at H
   have qy : decide (a1 < 0) = false := decide_eq_false c5
   clear c5
   (first | rw [qy] | (simp only [i64_w, i32_w]; rw [qy]) | skip)
   by_cases c6 : a1 > 4
   ·
    rw [if_pos c6] at H
    have q3 : decide (4 < a1) = true := decide_eq_true c6
    clear c6
    have H' := Aside0.mk H
    clear H
    go_wp2
    go_meet
    case rel => exact ⟨_, (true), (by first | rfl | (simp; done) | (simp [*]; done)), H', ⟨by first | omega | exact Nat.le_refl _⟩, ⟨kf_ qb⟩, ⟨bb_ HB⟩⟩
   ·
    rw [if_neg c6] at H
    have q3 : decide (4 < a1) = false := decide_eq_false c6
    clear c6
    have H' := Aside0.mk H
    clear H
    go_wp2
    go_meet
    case rel => exact ⟨_, (decide ((a0.size : Int) > 80)), (by first | rfl | (simp; done) | (simp [*]; done)), H', ⟨by first | omega | exact Nat.le_refl _⟩, ⟨kf_ qb⟩, ⟨bb_ HB⟩⟩
 case rest =>
  clear HC3
  try clear p2
  try clear c4
  try clear c5
  try clear qy
  try clear c6
  try clear q3
  obtain ⟨kq, qT, rfl, HA, HJ2, qb, HB⟩ := hcut
  cases kq with
  | zero => exact absurd HA.out (by simp [impl_ParseAtom.j0])
  | succ kj2 =>
   have H := HA.out
   clear HA
   simp only [impl_ParseAtom.j0] at H
   by_cases c7 : qT = true
   ·
    subst c7
    have H1 : (some (([] : List Int), 0, false, false)) = some (r1, r2, r3, r4) := by rw [if_pos rfl] at H; exact H
    clear H
    have H := H1
    clear H1
    simp only [Option.some.injEq, Prod.mk.injEq] at H
    obtain ⟨rfl, rfl, rfl, rfl⟩ := H
    have qN : wc.cell? ⟨qi, 0, none⟩ = some (.slice none 0 0) := bc_ qb 0
    have qO : wc.cell? ⟨qi, 1, none⟩ = some (.int .i64 0) := bc_ qb 1
    have qP : wc.cell? ⟨qi, 2, none⟩ = some (.bool false) := bc_ qb 2
    have qQ := blk_frozen qb.out 0
    have qR := blk_frozen qb.out 1
    have qS := blk_frozen qb.out 2
    go_wp2
    refine bodyPost_ret (results_ct rfl _ _ qi 27 #[.slice none 0 0, .int .i64 0, .bool false] (0, 0) _ rfl (by (with_reducible repeat (first | refine blk_drewN ?_ _ | refine blk_drew ?_ | refine blk_alloc ?_ _)); refine blk_put (cs := #[.slice none 0 0, .int .i64 0, .bool false]) ?_ 2 _ rfl; (with_reducible repeat (first | refine blk_drewN ?_ _ | refine blk_drew ?_ | refine blk_alloc ?_ _)); refine blk_put (cs := #[.slice none 0 0, .int .i64 0, .bool false]) ?_ 1 _ rfl; (with_reducible repeat (first | refine blk_drewN ?_ _ | refine blk_drew ?_ | refine blk_alloc ?_ _)); refine blk_put (cs := #[.slice none 0 0, .int .i64 0, .bool false]) ?_ 0 _ rfl; (with_reducible repeat (first | refine blk_drewN ?_ _ | refine blk_drew ?_ | refine blk_alloc ?_ _)); exact qb.out) Tryd.underlying27 rfl (by kernel_rfl)) rfl ?_
    exact ⟨_, by first | rfl | (simp [errW_none, errW_some] <;> rfl) | (simp [*, errW_none, errW_some] <;> rfl), by first | exact Kd.R_nil _ _ _ _ _ | exact Kd.N_nil _ _ _ _ _ | exact Kd.V_nil _ _ _ _ _ | exact Kd.Q_nil _ _ _ _ _ | exact Kd.S_nil _ _ _ _ _, bb_ HB⟩
   ·
    replace c7 := Bool.eq_false_iff.mpr c7
    subst c7
    have H1 : (if 0 ≤ a1 then (if (a1 : Int).toNat ≤ 35184372088832 then ((some (List.replicate (a1 : Int).toNat 0 : List Int)).bind fun y190 => ((strings_CutSuffix.f a0 (⟨#[60, 48]⟩ : ByteArray)).bind fun qn => (if qn.2 = true then (impl_ParseAtom.j1 kj2 a0 a1 qn.1 qn.2 y190 0 false) else ((strings_CutSuffix.f a0 (⟨#[60, 61, 48]⟩ : ByteArray)).bind fun qo => (if qo.2 = true then (impl_ParseAtom.j1 kj2 a0 a1 qo.1 qn.2 y190 0 false) else (some (([] : List Int), 0, false, false))))))) else (none)) else (none)) = some (r1, r2, r3, r4) := by rw [if_neg (show ¬ (false = true) by decide)] at H; exact H
    clear H
    have H := H1
    clear H1
    by_cases c9 : 0 ≤ a1
    ·
     rw [if_pos c9] at H
     have zG := eq_true c9
     have zH : decide (0 ≤ a1) = true := decide_eq_true c9
     clear c9
     by_cases c10 : (a1 : Int).toNat ≤ 35184372088832
     ·
      rw [if_pos c10] at H
      have q4 := eq_true c10
      have q5 : decide ((a1 : Int).toNat ≤ 35184372088832) = true := decide_eq_true c10
      clear c10
      obtain ⟨y190, hy190⟩ : ∃ y_ : List Int, y_ = (List.replicate (a1 : Int).toNat 0) := ⟨_, rfl⟩
      replace H : ((strings_CutSuffix.f a0 (⟨#[60, 48]⟩ : ByteArray)).bind fun qn => (if qn.2 = true then (impl_ParseAtom.j1 kj2 a0 a1 qn.1 qn.2 y190 0 false) else ((strings_CutSuffix.f a0 (⟨#[60, 61, 48]⟩ : ByteArray)).bind fun qo => (if qo.2 = true then (impl_ParseAtom.j1 kj2 a0 a1 qo.1 qn.2 y190 0 false) else (some (([] : List Int), 0, false, false)))))) = some (r1, r2, r3, r4) := by first | (rw [hy190]; with_reducible exact H) | (have H2_ := (Option.bind_some _ _).symm.trans H; rw [hy190]; with_reducible exact H2_) | (have H2_ := (Option.bind_some _ _).symm.trans H; with_reducible exact H2_) | with_reducible exact H | (rw [hy190]; exact H) | exact H
      have Ny190 := Aside0.mk hy190
      clear hy190
      replace H := Option.bind_eq_some_iff.mp H
      obtain ⟨⟨q7, qk⟩, A110, H⟩ := H
      replace H : (if qk = true then (impl_ParseAtom.j1 kj2 a0 a1 q7 qk y190 0 false) else ((strings_CutSuffix.f a0 (⟨#[60, 61, 48]⟩ : ByteArray)).bind fun qo => (if qo.2 = true then (impl_ParseAtom.j1 kj2 a0 a1 qo.1 qk y190 0 false) else (some (([] : List Int), 0, false, false))))) = some (r1, r2, r3, r4) := H
      have A11 := Aside0.mk A110
      clear A110
      have HC12 := Aside0.mk H
      clear H
      go_upto_if 36 with (first | ((with_reducible refine gate_dst (N := 28) rfl ?_); (try (refine gate_guard (by rfl) ?_; dsimp only)); refine Kd.R_make (Kd.int .i64) _ 3 rfl (N := 28) rfl 22 _ _ rfl a1 rfl rfl Tryd.underlying22 (.int .i64 0) 8 info3 rfl (by decide) (by omega) 0 (ok := fun _ => True) (okp := fun _ => True) rfl (fun _ hk => hk) trivial (of_decide_eq_true (by first | (with_reducible assumption) | assumption)) (Nat.le_trans (Nat.mul_le_mul_right _ (of_decide_eq_true (by first | (with_reducible assumption) | assumption) : a1.toNat ≤ 35184372088832)) (by omega)) (Below.refl _ _) (Nat.le_refl _) ?_; intro jA jC ho14 hb hg_ hnew_; clear hg_ hnew_; (first | rw [← Ny190.out] at ho14 | (simp only [Int.reduceToNat] at ho14; rw [← Ny190.out] at ho14)); have qM := Aside0.mk (Kd.R_lower ho14 (bz_ HB)); replace qb := kB_ qb hb; replace HB := bS_ HB hb; clear hb ho14; obtain ⟨qt, qu, eo15⟩ := Kd.R_slice qM.out; subst eo15) | ((with_reducible refine gate_dst (N := 6) rfl ?_); (try (refine gate_guard (by rfl) ?_; dsimp only)); refine box_event ?hg (N := 6) ?hd (cs := #[.slice none 0 0, .int .i64 0, .bool false]) (t := 27) ?hr ?_; (case hd => rfl); (case hg => rfl); (case hr => first | (go_simp; done) | (go_simp; rfl)); intro qg hg zL hbox hb; replace qM := rB_ qM hb; have qc := Aside0.mk (hbox); have jg := Aside0.mk ((by rw [hg]; exact (bz_ HB) : w.heap.size ≤ qg)); have jh := Aside0.mk ((by rw [hg]; exact (bz_ HB) : w.heap.size ≤ qg)); replace HB := bS_ HB hb; have qj := Aside0.mk ((nl_ qb hg : qi ≠ qg)); have ql := Aside0.mk ((ng_ qb hg : qg ≠ qi)); replace qb := kB_ qb hb; clear hb hbox hg; have ji := ql.out; have jj := qj.out; have qz : zL.cell? ⟨qg, 0, none⟩ = some (.slice none 0 0) := bc_ qc 0; have qA : zL.cell? ⟨qg, 1, none⟩ = some (.int .i64 0) := bc_ qc 1; have qB : zL.cell? ⟨qg, 2, none⟩ = some (.bool false) := bc_ qc 2; have qC := blk_frozen qc.out 0; have qD := blk_frozen qc.out 1; have qE := blk_frozen qc.out 2) | ((with_reducible refine gate_callee (f := 82) rfl ?_); refine goesL_ (some 32) rfl rfl Tryd.func82 (by kernel_rfl) rfl #[.string a0, .string (⟨#[60, 48]⟩ : ByteArray)] rfl (by (try simp only [List.map_toArray, List.map_cons, List.map_nil]); first | done | rfl | (simp only [List.length_drop, List.length_take]; rfl)) ?_; (with_reducible refine (strings_CutSuffix.calls a0 (⟨#[60, 48]⟩ : ByteArray) q7 qk _ A11.out).mono ?_); rintro e w' ⟨rfl, ⟨nd, rfl⟩⟩; refine ⟨_, rfl, ?_⟩))
      (try simp only [Act.put, List.setIfInBounds_toArray, List.set_cons_zero, List.set_cons_succ])
      go_cut [7] (fun v7 wc => ∃ (kq : Nat) (qU : ByteArray) (qp : Int) (qq : Bool), v7 = .string qU ∧ Aside0 (impl_ParseAtom.j1 kq a0 a1 qU qk y190 0 false = some (r1, r2, r3, r4)) ∧ Aside0 (kq ≤ kj2) ∧ Aside0 (Kd.R (Kd.int .i64) 3 wc w.heap.size (fun _ => True) (.slice qt y190.length qu) y190) ∧ Aside0 (wc.heap[qi]? = some (.cells #[(.slice none 0 0), .int .i64 qp, .bool qq] 27 (0, 0))) ∧ Aside0 (wc.heap[qg]? = some (.cells #[(.slice qt y190.length qu), .int .i64 0, .bool false] 27 (0, 0))) ∧ Aside0 (Below w.heap.size w wc))
      case first =>
       have H := HC12.out
       clear HC12
       by_cases c19 : qk = true
       ·
        subst c19
        have H1 : (impl_ParseAtom.j1 kj2 a0 a1 q7 true y190 0 false) = some (r1, r2, r3, r4) := by rw [if_pos rfl] at H; exact H
        clear H
        have H := H1
        clear H1
        have H' := Aside0.mk H
        clear H
        go_wp2
        go_meet
        case rel => exact ⟨_, (q7), (0), (false), (by first | rfl | (simp; done) | (simp [*]; done)), H', ⟨by have := HJ2.out; first | omega | exact Nat.le_refl _⟩, ⟨by (with_reducible repeat (first | apply Kd.R_alloc | apply Kd.R_drewN | apply Kd.R_drew)); exact Kd.R_mono (Kd.R_far (p := ⟨qg, 2, none⟩) (Kd.R_far (p := ⟨qg, 1, none⟩) (Kd.R_far (p := ⟨qg, 0, none⟩) (Kd.R_types qM.out qc.out (by decide)) (fun _ hk => hk.2) (.slice qt y190.length qu)) (fun _ hk => hk.2) (.int .i64 0)) (fun _ hk => hk.2) (.bool false)) (fun _ hk => trivial)⟩, ⟨kf_ qb⟩, ⟨by (with_reducible repeat (first | refine blk_drewN ?_ _ | refine blk_drew ?_ | refine blk_alloc ?_ _)); refine blk_put (cs := #[.slice qt y190.length qu, .int .i64 0, .bool false]) ?_ 2 _ rfl; (with_reducible repeat (first | refine blk_drewN ?_ _ | refine blk_drew ?_ | refine blk_alloc ?_ _)); refine blk_put (cs := #[.slice qt y190.length qu, .int .i64 0, .bool false]) ?_ 1 _ rfl; (with_reducible repeat (first | refine blk_drewN ?_ _ | refine blk_drew ?_ | refine blk_alloc ?_ _)); refine blk_put (cs := #[.slice none 0 0, .int .i64 0, .bool false]) ?_ 0 _ rfl; (with_reducible repeat (first | refine blk_drewN ?_ _ | refine blk_drew ?_ | refine blk_alloc ?_ _)); exact qc.out⟩, ⟨bb_ HB⟩⟩
       ·
        replace c19 := Bool.eq_false_iff.mpr c19
        subst c19
        have H1 : ((strings_CutSuffix.f a0 (⟨#[60, 61, 48]⟩ : ByteArray)).bind fun qo => (if qo.2 = true then (impl_ParseAtom.j1 kj2 a0 a1 qo.1 false y190 0 false) else (some (([] : List Int), 0, false, false)))) = some (r1, r2, r3, r4) := by rw [if_neg (show ¬ (false = true) by decide)] at H; exact H
        clear H
        have H := H1
        clear H1
        replace H := Option.bind_eq_some_iff.mp H
        obtain ⟨⟨q6, zN⟩, A200, H⟩ := H
        replace H : (if zN = true then (impl_ParseAtom.j1 kj2 a0 a1 q6 false y190 0 false) else (some (([] : List Int), 0, false, false))) = some (r1, r2, r3, r4) := H
        have A20 := Aside0.mk A200
        clear A200
        by_cases c21 : zN = true
        ·
         subst c21
         have H1 : (impl_ParseAtom.j1 kj2 a0 a1 q6 false y190 0 false) = some (r1, r2, r3, r4) := by rw [if_pos rfl] at H; exact H
         clear H
         have H := H1
         clear H1
         have H' := Aside0.mk H
         clear H
         go_wp2_with (first | ((with_reducible refine gate_callee (f := 82) rfl ?_); refine goesL_ (some 39) rfl rfl Tryd.func82 (by kernel_rfl) rfl #[.string a0, .string (⟨#[60, 61, 48]⟩ : ByteArray)] rfl (by (try simp only [List.map_toArray, List.map_cons, List.map_nil]); first | done | rfl | (simp only [List.length_drop, List.length_take]; rfl)) ?_; (with_reducible refine (strings_CutSuffix.calls a0 (⟨#[60, 61, 48]⟩ : ByteArray) q6 true _ A20.out).mono ?_); rintro e w' ⟨rfl, ⟨nd, rfl⟩⟩; refine ⟨_, rfl, ?_⟩))
         go_meet
         case rel => exact ⟨_, (q6), (0), (false), (by first | rfl | (simp; done) | (simp [*]; done)), H', ⟨by have := HJ2.out; first | omega | exact Nat.le_refl _⟩, ⟨by (with_reducible repeat (first | apply Kd.R_alloc | apply Kd.R_drewN | apply Kd.R_drew)); exact Kd.R_mono (Kd.R_far (p := ⟨qg, 2, none⟩) (Kd.R_far (p := ⟨qg, 1, none⟩) (Kd.R_far (p := ⟨qg, 0, none⟩) (Kd.R_types qM.out qc.out (by decide)) (fun _ hk => hk.2) (.slice qt y190.length qu)) (fun _ hk => hk.2) (.int .i64 0)) (fun _ hk => hk.2) (.bool false)) (fun _ hk => trivial)⟩, ⟨kf_ qb⟩, ⟨by (with_reducible repeat (first | refine blk_drewN ?_ _ | refine blk_drew ?_ | refine blk_alloc ?_ _)); refine blk_put (cs := #[.slice qt y190.length qu, .int .i64 0, .bool false]) ?_ 2 _ rfl; (with_reducible repeat (first | refine blk_drewN ?_ _ | refine blk_drew ?_ | refine blk_alloc ?_ _)); refine blk_put (cs := #[.slice qt y190.length qu, .int .i64 0, .bool false]) ?_ 1 _ rfl; (with_reducible repeat (first | refine blk_drewN ?_ _ | refine blk_drew ?_ | refine blk_alloc ?_ _)); refine blk_put (cs := #[.slice none 0 0, .int .i64 0, .bool false]) ?_ 0 _ rfl; (with_reducible repeat (first | refine blk_drewN ?_ _ | refine blk_drew ?_ | refine blk_alloc ?_ _)); exact qc.out⟩, ⟨bb_ HB⟩⟩
        ·
         replace c21 := Bool.eq_false_iff.mpr c21
         subst c21
         have H1 : (some (([] : List Int), 0, false, false)) = some (r1, r2, r3, r4) := by rw [if_neg (show ¬ (false = true) by decide)] at H; exact H
         clear H
         have H := H1
         clear H1
         simp only [Option.some.injEq, Prod.mk.injEq] at H
         obtain ⟨rfl, rfl, rfl, rfl⟩ := H
         go_wp2_with (first | ((with_reducible refine gate_callee (f := 82) rfl ?_); refine goesL_ (some 39) rfl rfl Tryd.func82 (by kernel_rfl) rfl #[.string a0, .string (⟨#[60, 61, 48]⟩ : ByteArray)] rfl (by (try simp only [List.map_toArray, List.map_cons, List.map_nil]); first | done | rfl | (simp only [List.length_drop, List.length_take]; rfl)) ?_; (with_reducible refine (strings_CutSuffix.calls a0 (⟨#[60, 61, 48]⟩ : ByteArray) q6 false _ A20.out).mono ?_); rintro e w' ⟨rfl, ⟨nd, rfl⟩⟩; refine ⟨_, rfl, ?_⟩; have jk := qj.out; have jl := ql.out; have qF : zL.cell? ⟨qi, 0, none⟩ = some (.slice none 0 0) := bc_ qb 0; have qG : zL.cell? ⟨qi, 1, none⟩ = some (.int .i64 0) := bc_ qb 1; have qH : zL.cell? ⟨qi, 2, none⟩ = some (.bool false) := bc_ qb 2; have qI := blk_frozen qb.out 0; have qJ := blk_frozen qb.out 1; have qK := blk_frozen qb.out 2))
         refine bodyPost_ret (results_ct rfl _ _ qi 27 #[.slice none 0 0, .int .i64 0, .bool false] (0, 0) _ rfl (by (with_reducible repeat (first | refine blk_drewN ?_ _ | refine blk_drew ?_ | refine blk_alloc ?_ _)); refine blk_put (cs := #[.slice none 0 0, .int .i64 0, .bool false]) ?_ 2 _ rfl; (with_reducible repeat (first | refine blk_drewN ?_ _ | refine blk_drew ?_ | refine blk_alloc ?_ _)); refine blk_put (cs := #[.slice none 0 0, .int .i64 0, .bool false]) ?_ 1 _ rfl; (with_reducible repeat (first | refine blk_drewN ?_ _ | refine blk_drew ?_ | refine blk_alloc ?_ _)); refine blk_put (cs := #[.slice none 0 0, .int .i64 0, .bool false]) ?_ 0 _ rfl; (with_reducible repeat (first | refine blk_drewN ?_ _ | refine blk_drew ?_ | refine blk_alloc ?_ _)); refine blk_far ?_ qj.out _; (with_reducible repeat (first | refine blk_drewN ?_ _ | refine blk_drew ?_ | refine blk_alloc ?_ _)); refine blk_far ?_ qj.out _; (with_reducible repeat (first | refine blk_drewN ?_ _ | refine blk_drew ?_ | refine blk_alloc ?_ _)); refine blk_far ?_ qj.out _; (with_reducible repeat (first | refine blk_drewN ?_ _ | refine blk_drew ?_ | refine blk_alloc ?_ _)); exact qb.out) Tryd.underlying27 rfl (by kernel_rfl)) rfl ?_
         exact ⟨_, by first | rfl | (simp [errW_none, errW_some] <;> rfl) | (simp [*, errW_none, errW_some] <;> rfl), by first | exact Kd.R_nil _ _ _ _ _ | exact Kd.N_nil _ _ _ _ _ | exact Kd.V_nil _ _ _ _ _ | exact Kd.Q_nil _ _ _ _ _ | exact Kd.S_nil _ _ _ _ _, bb_ HB⟩
      case rest =>
       clear HC12
       try clear c1
       try clear c2
       try clear p2
       try clear c4
       try clear c5
       try clear qy
       try clear c6
       try clear q3
       try clear c7
       try clear c8
       try clear c9
       try clear zG
       try clear zH
       try clear c10
       try clear q4
       try clear q5
       try clear c17
       try clear c19
       try clear c21
       try clear c22
       try clear qz
       try clear qA
       try clear qB
       try clear qF
       try clear qG
       try clear qH
       try clear qN
       try clear qO
       try clear qP
       try clear qC
       try clear qD
       try clear qE
       try clear qI
       try clear qJ
       try clear qK
       try clear qQ
       try clear qR
       try clear qS
       try clear p2
       obtain ⟨kq, qU, qp, qq, rfl, HA, HJ11, qe, qb, qc, HB⟩ := hcut
       cases kq with
       | zero => exact absurd HA.out (by simp [impl_ParseAtom.j1])
       | succ kj11 =>
        have H := HA.out
        clear HA
        simp only [impl_ParseAtom.j1] at H
        have H' := Aside0.mk H
        clear H
        have jm := ql.out
        have jn := qj.out
        have qV : wc.cell? ⟨qg, 0, none⟩ = some (.slice qt y190.length qu) := bc_ qc 0
        have qW : wc.cell? ⟨qg, 1, none⟩ = some (.int .i64 0) := bc_ qc 1
        have qX : wc.cell? ⟨qg, 2, none⟩ = some (.bool false) := bc_ qc 2
        have qY := blk_frozen qc.out 0
        have qZ := blk_frozen qc.out 1
        have q0 := blk_frozen qc.out 2
        go_wp2
        go_loopg [7] kj11 (fun kq v7 w' => ∃ (qx : ByteArray) (qh : Int) (qf : Bool) (qa : List Int) (qd : Int) (u194000 : Value), v7 = .string qx ∧ Aside0 (impl_ParseAtom.l0 kq a0 a1 qx qa qd qk = some (r1, r2, r3, r4)) ∧ Aside0 (kq ≤ kj11) ∧ Aside0 (Kd.R (Kd.int .i64) 3 w' w.heap.size (fun _ => True) u194000 qa) ∧ Aside0 (w'.heap[qi]? = some (.cells #[(.slice none 0 0), .int .i64 qh, .bool qf] 27 (0, 0))) ∧ Aside0 (w'.heap[qg]? = some (.cells #[u194000, .int .i64 qd, .bool qk] 27 (0, 0))) ∧ Aside0 (Below w.heap.size w w'))
        case atStart => exact ⟨(qU), (qp), (qq), (y190), (0), (.slice qt y190.length qu), (by first | rfl | (simp; done) | (simp [*]; done)), H', ⟨Nat.le_refl _⟩, ⟨by (with_reducible repeat (first | apply Kd.R_alloc | apply Kd.R_drewN | apply Kd.R_drew)); exact Kd.R_mono (Kd.R_far (p := ⟨qg, 2, none⟩) (Kd.R_types qe.out qc.out (by decide)) (fun _ hk => hk.2) (.bool qk)) (fun _ hk => trivial)⟩, ⟨kf_ qb⟩, ⟨by (with_reducible repeat (first | refine blk_drewN ?_ _ | refine blk_drew ?_ | refine blk_alloc ?_ _)); refine blk_put (cs := #[.slice qt y190.length qu, .int .i64 0, .bool false]) ?_ 2 _ rfl; (with_reducible repeat (first | refine blk_drewN ?_ _ | refine blk_drew ?_ | refine blk_alloc ?_ _)); exact qc.out⟩, ⟨bb_ HB⟩⟩
        case round =>
         clear H'
         try clear c1
         try clear c2
         try clear p2
         try clear c4
         try clear c5
         try clear qy
         try clear c6
         try clear q3
         try clear c7
         try clear c8
         try clear c9
         try clear zG
         try clear zH
         try clear c10
         try clear q4
         try clear q5
         try clear c17
         try clear c19
         try clear c21
         try clear c22
         try clear c24
         try clear qz
         try clear qA
         try clear qB
         try clear qF
         try clear qG
         try clear qH
         try clear qV
         try clear qW
         try clear qX
         try clear qN
         try clear qO
         try clear qP
         try clear qC
         try clear qD
         try clear qE
         try clear qI
         try clear qJ
         try clear qK
         try clear qY
         try clear qZ
         try clear q0
         try clear qQ
         try clear qR
         try clear qS
         try clear p2
         obtain ⟨qx, qh, qf, qa, qd, u194000, rfl, HA, HK3, qe, qb, qc, HB⟩ := hrel
         cases gk with
         | zero => exact absurd HA.out (by simp [impl_ParseAtom.l0])
         | succ k3 =>
          have H := HA.out
          clear HA
          simp only [impl_ParseAtom.l0] at H
          by_cases c26 : qx.toList = ([] : List UInt8)
          ·
           rw [if_pos c26] at H
           have zC : (qx.toList == ([] : List UInt8)) = true := beq_iff_eq.mpr c26
           have zD : (qx.toList != ([] : List UInt8)) = false := bne_eq_false_iff_eq.mpr c26
           clear c26
           replace H := Option.bind_eq_some_iff.mp H
           obtain ⟨qw, A270, H⟩ := H
           replace H : (if qw.toList = a0.toList then (some (qa, qd, qk, true)) else (some (([] : List Int), 0, false, false))) = some (r1, r2, r3, r4) := H
           have A27 := Aside0.mk A270
           clear A270
           by_cases c28 : qw.toList = a0.toList
           ·
            rw [if_pos c28] at H
            have zE : (qw.toList == a0.toList) = true := beq_iff_eq.mpr c28
            have zF : (qw.toList != a0.toList) = false := bne_eq_false_iff_eq.mpr c28
            clear c28
            simp only [Option.some.injEq, Prod.mk.injEq] at H
            obtain ⟨rfl, rfl, rfl, rfl⟩ := H
            have jo := ql.out
            have jp := qj.out
            have q8 : wr.cell? ⟨qg, 0, none⟩ = some (u194000) := bc_ qc 0
            have q9 : wr.cell? ⟨qg, 1, none⟩ = some (.int .i64 qd) := bc_ qc 1
            have za : wr.cell? ⟨qg, 2, none⟩ = some (.bool qk) := bc_ qc 2
            have zb := blk_frozen qc.out 0
            have zc := blk_frozen qc.out 1
            have zd := blk_frozen qc.out 2
            obtain ⟨q1, q2, eo31⟩ := Kd.R_slice qe.out
            subst eo31
            go_wp2_with (first | ((with_reducible refine gate_callee (f := 14) rfl ?_); refine goesL_ (some 76) rfl rfl Tryd.func14 (by kernel_rfl) rfl #[.agg #[.slice q1 qa.length q2, .int .i64 qd, .bool qk]] rfl (by (try simp only [List.map_toArray, List.map_cons, List.map_nil]); first | done | rfl | (simp only [List.length_drop, List.length_take]; rfl)) ?_; (with_reducible refine (impl_FormatAtom.calls (hL := laid_ HL_ HB) k3 _ _ qa qd qk qw _ ?side1 ?side2 A27.out).mono ?_); (case side1 => exact cr_ qe); (case side2 => exact (Kd.R_reads' qe.out).2.1); rintro e zM ⟨rfl, hb⟩; refine ⟨_, rfl, ?_⟩; replace qe := rB_ qe hb; replace qb := kB_ qb hb; replace qc := kB_ qc hb; replace HB := bS_ HB hb; (try clear hb); (try clear hb2); (try clear hk); (try clear hi); have ze : zM.cell? ⟨qg, 0, none⟩ = some (.slice q1 qa.length q2) := bc_ qc 0; have zf : zM.cell? ⟨qg, 1, none⟩ = some (.int .i64 qd) := bc_ qc 1; have zg : zM.cell? ⟨qg, 2, none⟩ = some (.bool qk) := bc_ qc 2; have zh := blk_frozen qc.out 0; have zi := blk_frozen qc.out 1; have zj := blk_frozen qc.out 2; have zk : zM.cell? ⟨qi, 0, none⟩ = some (.slice none 0 0) := bc_ qb 0; have zl : zM.cell? ⟨qi, 1, none⟩ = some (.int .i64 qh) := bc_ qb 1; have zm : zM.cell? ⟨qi, 2, none⟩ = some (.bool qf) := bc_ qb 2; have zn := blk_frozen qb.out 0; have zo := blk_frozen qb.out 1; have zp := blk_frozen qb.out 2))
            refine bodyPost_ret (results_ct rfl _ _ qi 27 #[.slice q1 qa.length q2, .int .i64 qd, .bool qk] (0, 0) _ rfl (by (with_reducible repeat (first | refine blk_drewN ?_ _ | refine blk_drew ?_ | refine blk_alloc ?_ _)); refine blk_put (cs := #[.slice q1 qa.length q2, .int .i64 qd, .bool qf]) ?_ 2 _ rfl; (with_reducible repeat (first | refine blk_drewN ?_ _ | refine blk_drew ?_ | refine blk_alloc ?_ _)); refine blk_put (cs := #[.slice q1 qa.length q2, .int .i64 qh, .bool qf]) ?_ 1 _ rfl; (with_reducible repeat (first | refine blk_drewN ?_ _ | refine blk_drew ?_ | refine blk_alloc ?_ _)); refine blk_put (cs := #[.slice none 0 0, .int .i64 qh, .bool qf]) ?_ 0 _ rfl; (with_reducible repeat (first | refine blk_drewN ?_ _ | refine blk_drew ?_ | refine blk_alloc ?_ _)); exact qb.out) Tryd.underlying27 rfl (by kernel_rfl)) rfl ?_
            exact ⟨_, by first | rfl | (simp [errW_none, errW_some] <;> rfl) | (simp [*, errW_none, errW_some] <;> rfl), by (with_reducible repeat (first | apply Kd.R_alloc | apply Kd.R_drewN | apply Kd.R_drew)); exact Kd.R_mono (Kd.R_far (p := ⟨qi, 2, none⟩) (Kd.R_far (p := ⟨qi, 1, none⟩) (Kd.R_far (p := ⟨qi, 0, none⟩) (Kd.R_types qe.out qb.out (by decide)) (fun _ hk => hk.2) (.slice q1 qa.length q2)) (fun _ hk => hk.2) (.int .i64 qd)) (fun _ hk => hk.2) (.bool qk)) (fun _ hk => trivial), bb_ HB⟩
           ·
            rw [if_neg c28] at H
            have zE : (qw.toList == a0.toList) = false := beq_eq_false_iff_ne.mpr c28
            have zF : (qw.toList != a0.toList) = true := bne_iff_ne.mpr c28
            simp only [Option.some.injEq, Prod.mk.injEq] at H
            obtain ⟨rfl, rfl, rfl, rfl⟩ := H
            have jq := ql.out
            have jr := qj.out
            have zq : wr.cell? ⟨qg, 0, none⟩ = some (u194000) := bc_ qc 0
            have zr : wr.cell? ⟨qg, 1, none⟩ = some (.int .i64 qd) := bc_ qc 1
            have zs : wr.cell? ⟨qg, 2, none⟩ = some (.bool qk) := bc_ qc 2
            have zt := blk_frozen qc.out 0
            have zu := blk_frozen qc.out 1
            have zv := blk_frozen qc.out 2
            obtain ⟨z8, z9, eo37⟩ := Kd.R_slice qe.out
            subst eo37
            go_wp2_with (first | ((with_reducible refine gate_callee (f := 14) rfl ?_); refine goesL_ (some 76) rfl rfl Tryd.func14 (by kernel_rfl) rfl #[.agg #[.slice z8 qa.length z9, .int .i64 qd, .bool qk]] rfl (by (try simp only [List.map_toArray, List.map_cons, List.map_nil]); first | done | rfl | (simp only [List.length_drop, List.length_take]; rfl)) ?_; (with_reducible refine (impl_FormatAtom.calls (hL := laid_ HL_ HB) k3 _ _ qa qd qk qw _ ?side1 ?side2 A27.out).mono ?_); (case side1 => exact cr_ qe); (case side2 => exact (Kd.R_reads' qe.out).2.1); rintro e ja ⟨rfl, hb⟩; refine ⟨_, rfl, ?_⟩; replace qe := rB_ qe hb; replace qb := kB_ qb hb; replace qc := kB_ qc hb; replace HB := bS_ HB hb; (try clear hb); (try clear hb2); (try clear hk); (try clear hi); have zw : ja.cell? ⟨qi, 0, none⟩ = some (.slice none 0 0) := bc_ qb 0; have zx : ja.cell? ⟨qi, 1, none⟩ = some (.int .i64 qh) := bc_ qb 1; have zy : ja.cell? ⟨qi, 2, none⟩ = some (.bool qf) := bc_ qb 2; have zz := blk_frozen qb.out 0; have zA := blk_frozen qb.out 1; have zB := blk_frozen qb.out 2))
            refine bodyPost_ret (results_ct rfl _ _ qi 27 #[.slice none 0 0, .int .i64 0, .bool false] (0, 0) _ rfl (by (with_reducible repeat (first | refine blk_drewN ?_ _ | refine blk_drew ?_ | refine blk_alloc ?_ _)); refine blk_put (cs := #[.slice none 0 0, .int .i64 0, .bool qf]) ?_ 2 _ rfl; (with_reducible repeat (first | refine blk_drewN ?_ _ | refine blk_drew ?_ | refine blk_alloc ?_ _)); refine blk_put (cs := #[.slice none 0 0, .int .i64 qh, .bool qf]) ?_ 1 _ rfl; (with_reducible repeat (first | refine blk_drewN ?_ _ | refine blk_drew ?_ | refine blk_alloc ?_ _)); refine blk_put (cs := #[.slice none 0 0, .int .i64 qh, .bool qf]) ?_ 0 _ rfl; (with_reducible repeat (first | refine blk_drewN ?_ _ | refine blk_drew ?_ | refine blk_alloc ?_ _)); exact qb.out) Tryd.underlying27 rfl (by kernel_rfl)) rfl ?_
            exact ⟨_, by first | rfl | (simp [errW_none, errW_some] <;> rfl) | (simp [*, errW_none, errW_some] <;> rfl), by first | exact Kd.R_nil _ _ _ _ _ | exact Kd.N_nil _ _ _ _ _ | exact Kd.V_nil _ _ _ _ _ | exact Kd.Q_nil _ _ _ _ _ | exact Kd.S_nil _ _ _ _ _, bb_ HB⟩
          ·
           rw [if_neg c26] at H
           have zC : (qx.toList == ([] : List UInt8)) = false := beq_eq_false_iff_ne.mpr c26
           have zD : (qx.toList != ([] : List UInt8)) = true := bne_iff_ne.mpr c26
           replace H := Option.bind_eq_some_iff.mp H
           obtain ⟨⟨qr, qm, qv, zI⟩, A400, H⟩ := H
           replace H : (if zI = true then (impl_ParseAtom.j3 k3 a0 a1 qr qm qv (decide (qm ≥ a1)) qa qd qk) else (impl_ParseAtom.j3 k3 a0 a1 qr qm qv true qa qd qk)) = some (r1, r2, r3, r4) := H
           have A40 := Aside0.mk A400
           clear A400
           have HC41 := Aside0.mk H
           clear H
           go_upto_region 13 with (first | ((with_reducible refine gate_callee (f := 83) rfl ?_); refine goesL_ (some 52) rfl rfl Tryd.func83 (by kernel_rfl) rfl #[.string qx] rfl (by (try simp only [List.map_toArray, List.map_cons, List.map_nil]); first | done | rfl | (simp only [List.length_drop, List.length_take]; rfl)) ?_; (with_reducible refine (impl_readTerm.calls (hL := laid_ HL_ HB) k3 qx qr qm qv zI _ A40.out).mono ?_); rintro e jD ⟨rfl, hb⟩; refine ⟨_, rfl, ?_⟩; replace qe := rB_ qe hb; replace qb := kB_ qb hb; replace qc := kB_ qc hb; replace HB := bS_ HB hb; (try clear hb); (try clear hb2); (try clear hk); (try clear hi)))
           (try simp only [Act.put, List.setIfInBounds_toArray, List.set_cons_zero, List.set_cons_succ])
           go_cut [63] (fun v63 wc => ∃ (kq : Nat) (qL : Bool), v63 = .bool qL ∧ Aside0 (impl_ParseAtom.j3 kq a0 a1 qr qm qv qL qa qd qk = some (r1, r2, r3, r4)) ∧ Aside0 (kq ≤ k3) ∧ Aside0 (Kd.R (Kd.int .i64) 3 wc w.heap.size (fun _ => True) u194000 qa) ∧ Aside0 (wc.heap[qi]? = some (.cells #[(.slice none 0 0), .int .i64 qh, .bool qf] 27 (0, 0))) ∧ Aside0 (wc.heap[qg]? = some (.cells #[u194000, .int .i64 qd, .bool qk] 27 (0, 0))) ∧ Aside0 (Below w.heap.size w wc))
           case first =>
            have H := HC41.out
            clear HC41
            by_cases c43 : zI = true
            ·
             subst c43
             have H1 : (impl_ParseAtom.j3 k3 a0 a1 qr qm qv (decide (qm ≥ a1)) qa qd qk) = some (r1, r2, r3, r4) := by rw [if_pos rfl] at H; exact H
             clear H
             have H := H1
             clear H1
             have H' := Aside0.mk H
             clear H
             go_wp2
             go_meet
             case rel => exact ⟨_, (decide (qm ≥ a1)), (by first | rfl | (simp; done) | (simp [*]; done)), H', ⟨by have := HJ2.out; have := HJ11.out; have := HK3.out; first | omega | exact Nat.le_refl _⟩, ⟨by (with_reducible repeat (first | apply Kd.R_alloc | apply Kd.R_drewN | apply Kd.R_drew)); exact qe.out⟩, ⟨kf_ qb⟩, ⟨kf_ qc⟩, ⟨bb_ HB⟩⟩
            ·
             replace c43 := Bool.eq_false_iff.mpr c43
             subst c43
             have H1 : (impl_ParseAtom.j3 k3 a0 a1 qr qm qv true qa qd qk) = some (r1, r2, r3, r4) := by rw [if_neg (show ¬ (false = true) by decide)] at H; exact H
             clear H
             have H := H1
             clear H1
             have H' := Aside0.mk H
             clear H
             go_wp2
             go_meet
             case rel => exact ⟨_, (true), (by first | rfl | (simp; done) | (simp [*]; done)), H', ⟨by have := HJ2.out; have := HJ11.out; have := HK3.out; first | omega | exact Nat.le_refl _⟩, ⟨by (with_reducible repeat (first | apply Kd.R_alloc | apply Kd.R_drewN | apply Kd.R_drew)); exact qe.out⟩, ⟨kf_ qb⟩, ⟨kf_ qc⟩, ⟨bb_ HB⟩⟩
           case rest =>
            clear HC41
            try clear c1
            try clear c2
            try clear p2
            try clear c3
            try clear c4
            try clear c5
            try clear qy
            try clear c6
            try clear q3
            try clear c7
            try clear c8
            try clear c9
            try clear zG
            try clear zH
            try clear c10
            try clear q4
            try clear q5
            try clear c14
            try clear c17
            try clear c19
            try clear c21
            try clear c22
            try clear c24
            try clear c26
            try clear zC
            try clear zD
            try clear c28
            try clear zE
            try clear zF
            try clear c29
            try clear c35
            try clear c41
            try clear c43
            try clear qz
            try clear qA
            try clear qB
            try clear qF
            try clear qG
            try clear qH
            try clear qV
            try clear qW
            try clear qX
            try clear q8
            try clear q9
            try clear za
            try clear ze
            try clear zf
            try clear zg
            try clear zk
            try clear zl
            try clear zm
            try clear zq
            try clear zr
            try clear zs
            try clear zw
            try clear zx
            try clear zy
            try clear qN
            try clear qO
            try clear qP
            try clear qC
            try clear qD
            try clear qE
            try clear qI
            try clear qJ
            try clear qK
            try clear qY
            try clear qZ
            try clear q0
            try clear zb
            try clear zc
            try clear zd
            try clear zh
            try clear zi
            try clear zj
            try clear zn
            try clear zo
            try clear zp
            try clear zt
            try clear zu
            try clear zv
            try clear zz
            try clear zA
            try clear zB
            try clear qQ
            try clear qR
            try clear qS
            try clear p2
            obtain ⟨kq, qL, rfl, HA, HJ40, qe, qb, qc, HB⟩ := hcut
            cases kq with
            | zero => exact absurd HA.out (by simp [impl_ParseAtom.j3])
            | succ kj40 =>
             have H := HA.out
             clear HA
             simp only [impl_ParseAtom.j3] at H
             by_cases c44 : qL = true
             ·
              subst c44
              have H1 : (some (([] : List Int), 0, false, false)) = some (r1, r2, r3, r4) := by rw [if_pos rfl] at H; exact H
              clear H
              have H := H1
              clear H1
              simp only [Option.some.injEq, Prod.mk.injEq] at H
              obtain ⟨rfl, rfl, rfl, rfl⟩ := H
              have js := qj.out
              have jt := ql.out
              have zQ : wc.cell? ⟨qi, 0, none⟩ = some (.slice none 0 0) := bc_ qb 0
              have zR : wc.cell? ⟨qi, 1, none⟩ = some (.int .i64 qh) := bc_ qb 1
              have zS : wc.cell? ⟨qi, 2, none⟩ = some (.bool qf) := bc_ qb 2
              have zT := blk_frozen qb.out 0
              have zU := blk_frozen qb.out 1
              have zV := blk_frozen qb.out 2
              go_wp2
              refine bodyPost_ret (results_ct rfl _ _ qi 27 #[.slice none 0 0, .int .i64 0, .bool false] (0, 0) _ rfl (by (with_reducible repeat (first | refine blk_drewN ?_ _ | refine blk_drew ?_ | refine blk_alloc ?_ _)); refine blk_put (cs := #[.slice none 0 0, .int .i64 0, .bool qf]) ?_ 2 _ rfl; (with_reducible repeat (first | refine blk_drewN ?_ _ | refine blk_drew ?_ | refine blk_alloc ?_ _)); refine blk_put (cs := #[.slice none 0 0, .int .i64 qh, .bool qf]) ?_ 1 _ rfl; (with_reducible repeat (first | refine blk_drewN ?_ _ | refine blk_drew ?_ | refine blk_alloc ?_ _)); refine blk_put (cs := #[.slice none 0 0, .int .i64 qh, .bool qf]) ?_ 0 _ rfl; (with_reducible repeat (first | refine blk_drewN ?_ _ | refine blk_drew ?_ | refine blk_alloc ?_ _)); exact qb.out) Tryd.underlying27 rfl (by kernel_rfl)) rfl ?_
              exact ⟨_, by first | rfl | (simp [errW_none, errW_some] <;> rfl) | (simp [*, errW_none, errW_some] <;> rfl), by first | exact Kd.R_nil _ _ _ _ _ | exact Kd.N_nil _ _ _ _ _ | exact Kd.V_nil _ _ _ _ _ | exact Kd.Q_nil _ _ _ _ _ | exact Kd.S_nil _ _ _ _ _, bb_ HB⟩
             ·
              replace c44 := Bool.eq_false_iff.mpr c44
              subst c44
              have H1 : (if qm ≥ 0 then (if 0 ≤ qm then (if qm < (qa.length : Int) then (impl_ParseAtom.l0 kj40 a0 a1 qv (qa.set (qm : Int).toNat qr) qd qk) else (none)) else (none)) else (impl_ParseAtom.l0 kj40 a0 a1 qv qa qr qk)) = some (r1, r2, r3, r4) := by rw [if_neg (show ¬ (false = true) by decide)] at H; exact H
              clear H
              have H := H1
              clear H1
              by_cases c47 : qm ≥ 0
              ·
               rw [if_pos c47] at H
               have zO : decide (0 ≤ qm) = true := decide_eq_true c47
               clear c47
               by_cases c48 : 0 ≤ qm
               ·
                rw [if_pos c48] at H
                have ju : decide (0 ≤ qm) = true := decide_eq_true c48
                clear c48
                by_cases c49 : qm < (qa.length : Int)
                ·
                 rw [if_pos c49] at H
                 have jv : decide (qm < (qa.length : Int)) = true := decide_eq_true c49
                 clear c49
                 obtain ⟨y203, hy203⟩ : ∃ y_ : List Int, y_ = (qa.set (qm : Int).toNat qr) := ⟨_, rfl⟩
                 replace H : (impl_ParseAtom.l0 kj40 a0 a1 qv y203 qd qk) = some (r1, r2, r3, r4) := by first | (rw [hy203]; with_reducible exact H) | (have H2_ := (Option.bind_some _ _).symm.trans H; rw [hy203]; with_reducible exact H2_) | (have H2_ := (Option.bind_some _ _).symm.trans H; with_reducible exact H2_) | with_reducible exact H | (rw [hy203]; exact H) | exact H
                 have Ny203 := Aside0.mk hy203
                 clear hy203
                 have H' := Aside0.mk H
                 clear H
                 have jw := ql.out
                 have jx := qj.out
                 have zW : wc.cell? ⟨qg, 0, none⟩ = some (u194000) := bc_ qc 0
                 have zX : wc.cell? ⟨qg, 1, none⟩ = some (.int .i64 qd) := bc_ qc 1
                 have zY : wc.cell? ⟨qg, 2, none⟩ = some (.bool qk) := bc_ qc 2
                 have zZ := blk_frozen qc.out 0
                 have z0 := blk_frozen qc.out 1
                 have z1 := blk_frozen qc.out 2
                 have p50 : 0 ≤ (qm : Int) := of_decide_eq_true (by first | (with_reducible assumption) | assumption)
                 have q50 : (qm : Int) < ((qa.length : Int) : Int) := of_decide_eq_true (by first | (with_reducible assumption) | assumption)
                 obtain ⟨go50, zJ, eo50, zP, gl50, cl50, HG50⟩ := Kd.R_form qe.out (by omega)
                 (first | cases eo50 | (injection eo50 with ea_ en_ ec_; (first | subst ea_ | (injection ea_ with ea_; subst ea_)); subst ec_; clear en_))
                 have jb := Aside0.mk zP
                 have jB := Aside0.mk HG50
                 clear zP gl50 HG50
                 obtain ⟨jc, hf50_0⟩ := Kd.R_celln 0 qe.out (qm : Int) p50 q50
                 replace p50 := eq_true p50
                 replace q50 := eq_true q50
                 have zK := Kd.R_putg qe.out (qm : Int) qr
                 go_wp2_with (first | ((with_reducible refine gate_store (t := 3) (p := 71) rfl ?_); refine store_event (t := 3) (p := 71) (v := ?vo_w54) (w1 := (wc.setCell ⟨go50, (qm : Int).toNat, none⟩ (.int .i64 qr))) ?hg ?ho ?hn ?hr ?_; (case ho => rfl); (case hg => rfl); (case hn => rfl); (case hr => first | (go_simp; done) | (go_simp; rfl)); intro jd hw; have hg : wc.grownBy jd (some go50) := (by rw [hw]; exact zK.2); have hp_ : Kd.R (Kd.int .i64) 3 jd w.heap.size (fun _ => True) (.slice (some ⟨go50, 0, none⟩) qa.length zJ) y203 := (by rw [hw, Ny203.out]; exact zK.1); clear zK; replace qb := Aside0.mk (blk_grown (g := qi) (o := .cells #[.slice none 0 0, .int .i64 qh, .bool qf] 27 (0, 0)) (kf_ qb) hg (Kd.R_ne qe.out qb.out (by decide))); replace qc := Aside0.mk (blk_grown (g := qg) (o := .cells #[.slice (some ⟨go50, 0, none⟩) qa.length zJ, .int .i64 qd, .bool qk] 27 (0, 0)) (kf_ qc) hg (Kd.R_ne qe.out qc.out (by decide))); replace qe := Aside0.mk (hp_); replace HB := Aside0.mk ((by rw [hw]; exact below_set (HB.out) jb.out : Below w.heap.size w jd)); clear hg hw hp_))
                 go_roundg kj40
                 case measure => have := HJ2.out; have := HJ11.out; have := HK3.out; have := HJ40.out; omega
                 case rel => exact ⟨(qv), (qh), (qf), (y203), (qd), (.slice (some ⟨go50, 0, none⟩) qa.length zJ), (by first | rfl | (simp; done) | (simp [*]; done)), H', ⟨by have := HJ2.out; have := HJ11.out; have := HK3.out; have := HJ40.out; omega⟩, ⟨by (with_reducible repeat (first | apply Kd.R_alloc | apply Kd.R_drewN | apply Kd.R_drew)); exact qe.out⟩, ⟨kf_ qb⟩, ⟨kf_ qc⟩, ⟨bb_ HB⟩⟩
                ·
                 rw [if_neg c49] at H
                 exact absurd H (by simp)
               ·
                rw [if_neg c48] at H
                exact absurd H (by simp)
              ·
               rw [if_neg c47] at H
               have zO : decide (0 ≤ qm) = false := decide_eq_false c47
               clear c47
               have H' := Aside0.mk H
               clear H
               have jy := ql.out
               have jz := qj.out
               have z2 : wc.cell? ⟨qg, 0, none⟩ = some (u194000) := bc_ qc 0
               have z3 : wc.cell? ⟨qg, 1, none⟩ = some (.int .i64 qd) := bc_ qc 1
               have z4 : wc.cell? ⟨qg, 2, none⟩ = some (.bool qk) := bc_ qc 2
               have z5 := blk_frozen qc.out 0
               have z6 := blk_frozen qc.out 1
               have z7 := blk_frozen qc.out 2
               go_wp2
               go_roundg kj40
               case measure => have := HJ2.out; have := HJ11.out; have := HK3.out; have := HJ40.out; omega
               case rel => exact ⟨(qv), (qh), (qf), (qa), (qr), (u194000), (by first | rfl | (simp; done) | (simp [*]; done)), H', ⟨by have := HJ2.out; have := HJ11.out; have := HK3.out; have := HJ40.out; omega⟩, ⟨by (with_reducible repeat (first | apply Kd.R_alloc | apply Kd.R_drewN | apply Kd.R_drew)); exact Kd.R_mono (Kd.R_far (p := ⟨qg, 1, none⟩) (Kd.R_types qe.out qc.out (by decide)) (fun _ hk => hk.2) (.int .i64 qr)) (fun _ hk => trivial)⟩, ⟨kf_ qb⟩, ⟨by (with_reducible repeat (first | refine blk_drewN ?_ _ | refine blk_drew ?_ | refine blk_alloc ?_ _)); refine blk_put (cs := #[u194000, .int .i64 qd, .bool qk]) ?_ 1 _ rfl; (with_reducible repeat (first | refine blk_drewN ?_ _ | refine blk_drew ?_ | refine blk_alloc ?_ _)); exact qc.out⟩, ⟨bb_ HB⟩⟩
     ·
      rw [if_neg c10] at H
      exact absurd H (by simp)
    ·
     rw [if_neg c9] at H
     exact absurd H (by simp)

/-! ### laws_markIntS: function 84 -/
def laws_markIntS.l0 : Nat → List Int → Int → Int → Option (Int × List Int)
 | 0, _, _, _ => none
 | k + 1, x0, x1, x5 => if x5 < (x0.length : Int) then (if 0 ≤ x5 then (laws_markIntS.l0 k (x0.set (x5 : Int).toNat x1) (wrap64 (x1 + 1)) (wrap64 (x5 + 1))) else (none)) else (some (x1, x0))
def laws_markIntS.f (k : Nat) (l0 : List Int) (a1 : Int) : Option (Int × List Int) := laws_markIntS.l0 k l0 a1 0
theorem laws_markIntS.mono_l : ∀ k, (∀ y0 y1 y2, LeO (laws_markIntS.l0 k y0 y1 y2) (laws_markIntS.l0 (k + 1) y0 y1 y2))
 | 0 => fun _ _ _ r h => by simp [laws_markIntS.l0] at h
 | k + 1 => by
  have ih0 := laws_markIntS.mono_l k
  ·
   intro y0 y1 y2
   unfold laws_markIntS.l0
   repeat' first
   | (with_reducible exact ih0 _ _ _)
   | (with_reducible exact LeO.refl _)
   | (with_reducible exact LeO.none _)
   | (with_reducible refine LeO.ite ?_ ?_)
   | (with_reducible refine LeO.bind ?_ (fun _ => ?_))
   | exact ih0 _ _ _
   | exact LeO.none _
   | refine LeO.ite ?_ ?_
   | refine LeO.bind ?_ (fun _ => ?_)
theorem laws_markIntS.mono : ∀ a0 a1 k, LeO (laws_markIntS.f k a0 a1) (laws_markIntS.f (k + 1) a0 a1) := by
 intro a0 a1 k
 have ih0 := laws_markIntS.mono_l k
 unfold laws_markIntS.f
 repeat' first
   | (with_reducible exact ih0 _ _ _)
   | (with_reducible exact LeO.refl _)
   | (with_reducible exact LeO.none _)
   | (with_reducible refine LeO.ite ?_ ?_)
   | (with_reducible refine LeO.bind ?_ (fun _ => ?_))
   | exact ih0 _ _ _
   | exact LeO.none _
   | refine LeO.ite ?_ ?_
   | refine LeO.bind ?_ (fun _ => ?_)
set_option maxHeartbeats 8000000 in
set_option maxRecDepth 100000 in
theorem laws_markIntS.calls (k : Nat) (P0_ : Nat → Prop) (u9000_ : Value) (l0 : List Int) (a1 : Int) (r1 : Int) (r2 : List Int) (w0 w : World) (hB : Below w0.heap.size w0 w) (ho0 : Kd.R (Kd.int .i64) 3 w w0.heap.size P0_ u9000_ l0) (h : laws_markIntS.f k l0 a1 = some (r1, r2)) :
  Calls Tryd.prog 84 #[u9000_, .int .i64 a1] w fun e w' => e = .returned (.int .i64 r1) ∧ Kd.R (Kd.int .i64) 3 w' w0.heap.size (fun k_ => (P0_ k_ ∨ w.heap.size ≤ k_)) u9000_ r2 ∧ Below w0.heap.size w0 w' ∧ Kept w w' (fun k_ => P0_ k_) := by
 have qi := Aside0.mk (show Kd.R (Kd.int .i64) 3 w w0.heap.size (fun k_ => (P0_ k_ ∨ w.heap.size ≤ k_)) u9000_ l0 from Kd.R_mono ho0 (fun k_ hk => (.inl hk)))
 have HK := Aside0.mk (Kept.refl w (fun k_ => P0_ k_))
 have HW0 := Aside0.mk hB.size
 have HB := Aside0.mk hB
 clear hB
 have H : (laws_markIntS.l0 k l0 a1 0) = some (r1, r2) := h
 clear h
 have H' := Aside0.mk H
 clear H
 go_enter Tryd.func84, Tryd.ntmps84
 go_wp2
 go_loopg [1, 5] k (fun kq v1 v5 w' => ∃ (qc : List Int) (qd : Int) (qa : Int), v1 = .int .i64 qd ∧ v5 = .int .i64 qa ∧ Aside0 (laws_markIntS.l0 kq qc qd qa = some (r1, r2)) ∧ Aside0 (kq ≤ k) ∧ Aside0 (Kd.R (Kd.int .i64) 3 w' w0.heap.size (fun k_ => (P0_ k_ ∨ w.heap.size ≤ k_)) u9000_ qc) ∧ Aside0 (Kept w w' (fun k_ => P0_ k_)) ∧ Aside0 (Below w0.heap.size w0 w'))
 case atStart => exact ⟨(l0), (a1), (0), (by first | rfl | (simp; done) | (simp [*]; done)), (by first | rfl | (simp; done) | (simp [*]; done)), H', ⟨Nat.le_refl _⟩, ⟨by (with_reducible repeat (first | apply Kd.R_alloc | apply Kd.R_drewN | apply Kd.R_drew)); exact qi.out⟩, ⟨by repeat (first | (with_reducible first | exact HK.out | apply Kept.alloc | apply Kept.drewN | apply Kept.drew) | exact HK.out)⟩, ⟨bb_ HB⟩⟩
 case round =>
  clear H'
  try clear p2
  obtain ⟨qc, qd, qa, rfl, rfl, HA, HK1, qb, HK, HB⟩ := hrel
  cases gk with
  | zero => exact absurd HA.out (by simp [laws_markIntS.l0])
  | succ k1 =>
   have H := HA.out
   clear HA
   simp only [laws_markIntS.l0] at H
   by_cases c3 : qa < (qc.length : Int)
   ·
    rw [if_pos c3] at H
    have qe : decide (qa < (qc.length : Int)) = true := decide_eq_true c3
    clear c3
    by_cases c4 : 0 ≤ qa
    ·
     rw [if_pos c4] at H
     have qj : decide (0 ≤ qa) = true := decide_eq_true c4
     clear c4
     obtain ⟨y204, hy204⟩ : ∃ y_ : List Int, y_ = (qc.set (qa : Int).toNat qd) := ⟨_, rfl⟩
     replace H : (laws_markIntS.l0 k1 y204 (wrap64 (qd + 1)) (wrap64 (qa + 1))) = some (r1, r2) := by first | (rw [hy204]; with_reducible exact H) | (have H2_ := (Option.bind_some _ _).symm.trans H; rw [hy204]; with_reducible exact H2_) | (have H2_ := (Option.bind_some _ _).symm.trans H; with_reducible exact H2_) | with_reducible exact H | (rw [hy204]; exact H) | exact H
     have Ny204 := Aside0.mk hy204
     clear hy204
     have H' := Aside0.mk H
     clear H
     obtain ⟨qm, qk, eo6⟩ := Kd.R_slice qb.out
     subst eo6
     have p5 : 0 ≤ (qa : Int) := of_decide_eq_true (by first | (with_reducible assumption) | assumption)
     have q5 : (qa : Int) < ((qc.length : Int) : Int) := of_decide_eq_true (by first | (with_reducible assumption) | assumption)
     obtain ⟨go5, qn, eo5, qg, gl5, cl5, HG5⟩ := Kd.R_form qb.out (by omega)
     (first | cases eo5 | (injection eo5 with ea_ en_ ec_; (first | subst ea_ | (injection ea_ with ea_; subst ea_)); subst ec_; clear en_))
     have ql := Aside0.mk qg
     have qo := Aside0.mk HG5
     clear qg gl5 HG5
     have HMgo5 := Aside0.mk (show (P0_ go5 ∨ w.heap.size ≤ go5) from (qb.out.1 _ rfl))
     obtain ⟨qh, hf5_0⟩ := Kd.R_celln 0 qb.out (qa : Int) p5 q5
     replace p5 := eq_true p5
     replace q5 := eq_true q5
     have qf := Kd.R_putg qb.out (qa : Int) qd
     go_wp2_with (first | ((with_reducible refine gate_store (t := 3) (p := 15) rfl ?_); refine store_event (t := 3) (p := 15) (v := ?vo_w8) (w1 := (wr.setCell ⟨go5, (qa : Int).toNat, none⟩ (.int .i64 qd))) ?hg ?ho ?hn ?hr ?_; (case ho => rfl); (case hg => rfl); (case hn => rfl); (case hr => first | (go_simp; done) | (go_simp; rfl)); intro w8 hw; have hg : wr.grownBy w8 (some go5) := (by rw [hw]; exact qf.2); have hp_ : Kd.R (Kd.int .i64) 3 w8 w0.heap.size (fun k_ => (P0_ k_ ∨ w.heap.size ≤ k_)) (.slice (some ⟨go5, 0, none⟩) qc.length qk) y204 := (by rw [hw, Ny204.out]; exact qf.1); clear qf; replace HB := Aside0.mk ((by rw [hw]; exact below_set (HB.out) ql.out : Below w0.heap.size w0 w8)); replace HK := Aside0.mk (Kept.of_grown (S := (fun k_ => P0_ k_)) hg (by repeat (first | (with_reducible first | exact HK.out | apply Kept.alloc | apply Kept.drewN | apply Kept.drew) | exact HK.out)) (fun k_ e_ => (qb.out.1 k_ e_))); replace qb := Aside0.mk (hp_); clear hg hw hp_))
     go_roundg k1
     case measure => have := HK1.out; omega
     case rel => exact ⟨(y204), (wrap64 (qd + 1)), (wrap64 (qa + 1)), (by first | rfl | (simp; done) | (simp [*]; done)), (by first | rfl | (simp; done) | (simp [*]; done)), H', ⟨by have := HK1.out; omega⟩, ⟨by (with_reducible repeat (first | apply Kd.R_alloc | apply Kd.R_drewN | apply Kd.R_drew)); exact qb.out⟩, ⟨by repeat (first | (with_reducible first | exact HK.out | apply Kept.alloc | apply Kept.drewN | apply Kept.drew) | exact HK.out)⟩, ⟨bb_ HB⟩⟩
    ·
     rw [if_neg c4] at H
     exact absurd H (by simp)
   ·
    rw [if_neg c3] at H
    have qe : decide (qa < (qc.length : Int)) = false := decide_eq_false c3
    clear c3
    simp only [Option.some.injEq, Prod.mk.injEq] at H
    obtain ⟨rfl, rfl⟩ := H
    obtain ⟨qp, qq, eo9⟩ := Kd.R_slice qb.out
    subst eo9
    go_wp2
    go_ret
    exact ⟨by first | rfl | (simp [errW_none, errW_some] <;> rfl) | (simp [*, errW_none, errW_some] <;> rfl), by (with_reducible repeat (first | apply Kd.R_alloc | apply Kd.R_drewN | apply Kd.R_drew)); exact qb.out, bb_ HB, by repeat (first | (with_reducible first | exact HK.out | apply Kept.alloc | apply Kept.drewN | apply Kept.drew) | exact HK.out)⟩

/-! ### laws_markAtom: function 42 -/
def laws_markAtom.f (k : Nat) (l0_0 : List Int) (a0_1 : Int) (a0_2 : Bool) (a1 : Int) : Option (Int × List Int) := (laws_markIntS.f k l0_0 a1).bind fun qc => (some (qc.1, qc.2))
theorem laws_markAtom.mono : ∀ a0 a1 a2 a3 k, LeO (laws_markAtom.f k a0 a1 a2 a3) (laws_markAtom.f (k + 1) a0 a1 a2 a3) := by
 intro a0 a1 a2 a3 k
 unfold laws_markAtom.f
 repeat' first
   | (with_reducible exact laws_markIntS.mono _ _ _)
   | (with_reducible exact LeO.refl _)
   | (with_reducible exact LeO.none _)
   | (with_reducible refine LeO.ite ?_ ?_)
   | (with_reducible refine LeO.bind ?_ (fun _ => ?_))
   | exact laws_markIntS.mono _ _ _
   | exact LeO.none _
   | refine LeO.ite ?_ ?_
   | refine LeO.bind ?_ (fun _ => ?_)
set_option maxHeartbeats 8000000 in
set_option maxRecDepth 100000 in
theorem laws_markAtom.calls (k : Nat) (P0_0_ : Nat → Prop) (u9000_ : Value) (l0_0 : List Int) (a0_1 : Int) (a0_2 : Bool) (a1 : Int) (r1 : Int) (r2 : List Int) (w0 w : World) (hB : Below w0.heap.size w0 w) (ho0_0 : Kd.R (Kd.int .i64) 3 w w0.heap.size P0_0_ u9000_ l0_0) (h : laws_markAtom.f k l0_0 a0_1 a0_2 a1 = some (r1, r2)) :
  Calls Tryd.prog 42 #[.agg #[u9000_, .int .i64 a0_1, .bool a0_2], .int .i64 a1] w fun e w' => e = .returned (.int .i64 r1) ∧ Kd.R (Kd.int .i64) 3 w' w0.heap.size (fun k_ => (P0_0_ k_ ∨ w.heap.size ≤ k_)) u9000_ r2 ∧ Below w0.heap.size w0 w' ∧ Kept w w' (fun k_ => P0_0_ k_) := by
 have hu27 := Tryd.underlying27
 have qa := Aside0.mk (show Kd.R (Kd.int .i64) 3 w w0.heap.size (fun k_ => (P0_0_ k_ ∨ w.heap.size ≤ k_)) u9000_ l0_0 from Kd.R_mono ho0_0 (fun k_ hk => (.inl hk)))
 have HK := Aside0.mk (Kept.refl w (fun k_ => P0_0_ k_))
 have HW0 := Aside0.mk hB.size
 have HB := Aside0.mk hB
 clear hB
 have H : ((laws_markIntS.f k l0_0 a1).bind fun qc => (some (qc.1, qc.2))) = some (r1, r2) := h
 clear h
 replace H := Option.bind_eq_some_iff.mp H
 obtain ⟨⟨qf, qg⟩, A30, H⟩ := H
 replace H : (some (qf, qg)) = some (r1, r2) := H
 have A3 := Aside0.mk A30
 clear A30
 simp only [Option.some.injEq, Prod.mk.injEq] at H
 obtain ⟨rfl, rfl⟩ := H
 obtain ⟨qh, qi, eo4⟩ := Kd.R_slice qa.out
 subst eo4
 go_enter Tryd.func42, Tryd.ntmps42
 go_wp2_with (first | ((with_reducible refine gate_dst (N := 2) rfl ?_); refine box_event ?hg (N := 2) ?hd (cs := #[.slice qh l0_0.length qi, .int .i64 a0_1, .bool a0_2]) (t := 27) ?hr ?_; (case hd => rfl); (case hg => rfl); (case hr => first | (go_simp; done) | (go_simp; rfl)); intro qd hg w5 hbox hb; replace qa := rB_ qa hb; have qb := Aside0.mk (hbox); have qe := Aside0.mk ((by rw [hg]; exact (by first | exact HK.out.1 | exact (show Kept w _ (fun k_ => P0_0_ k_) from by repeat (first | (with_reducible first | exact HK.out | apply Kept.alloc | apply Kept.drewN | apply Kept.drew) | exact HK.out)).1) : w.heap.size ≤ qd)); replace HK := Aside0.mk (Kept.below (S := (fun k_ => P0_0_ k_)) (by repeat (first | (with_reducible first | exact HK.out | apply Kept.alloc | apply Kept.drewN | apply Kept.drew) | exact HK.out)) hb); have qj := Aside0.mk ((by rw [hg]; exact (bz_ HB) : w0.heap.size ≤ qd)); replace HB := bS_ HB hb; clear hb hbox hg; have qk : w5.cell? ⟨qd, 0, none⟩ = some (.slice qh l0_0.length qi) := bc_ qb 0; have ql : w5.cell? ⟨qd, 1, none⟩ = some (.int .i64 a0_1) := bc_ qb 1; have qm : w5.cell? ⟨qd, 2, none⟩ = some (.bool a0_2) := bc_ qb 2; have qn := blk_frozen qb.out 0; have qo := blk_frozen qb.out 1; have qp := blk_frozen qb.out 2) | ((with_reducible refine gate_callee (f := 84) rfl ?_); refine goesL_ (some 8) rfl rfl Tryd.func84 (by kernel_rfl) rfl #[.slice qh l0_0.length qi, .int .i64 a1] rfl (by (try simp only [List.map_toArray, List.map_cons, List.map_nil]); first | done | rfl | (simp only [List.length_drop, List.length_take]; rfl)) ?_; (with_reducible refine (laws_markIntS.calls k (fun k_ => some k_ = (.slice qh l0_0.length qi : Value).ownBlock) (.slice qh l0_0.length qi) l0_0 a1 qf qg w0 _ ?side1 ?side2 A3.out).mono ?_); (case side1 => repeat (first | (with_reducible first | exact HB.out | apply below_alloc | apply pw_below_drewN | apply below_drew1 | refine below_set ?_ qj.out) | exact HB.out)); (case side2 => exact Kd.R_tight rfl qa.out); rintro e w7 ⟨rfl, hy0, hb, hkp⟩; refine ⟨_, rfl, ?_⟩; replace qb := Aside0.mk (blk_kept (kf_ qb) hkp (fun hs_ => (fun e_ => (Kd.R_ne qa.out qb.out (by decide)) e_) hs_)); replace HK := Aside0.mk (Kept.then_ (S := (fun k_ => P0_0_ k_)) (by repeat (first | (with_reducible first | exact HK.out | apply Kept.alloc | apply Kept.drewN | apply Kept.drew | refine Kept.setCell ?_ (.inr qe.out) _) | exact HK.out)) hkp (fun k_ hs_ => (fun e_ => (qa.out.1 k_ e_.symm)) hs_)); replace qa := Aside0.mk (Kd.R_reok rfl hy0 (fun k_ e_ => qa.out.1 k_ e_)); replace HB := Aside0.mk (hb); (try clear hb); (try clear hkp); (try clear hy0)))
 go_ret
 exact ⟨by first | rfl | (simp [errW_none, errW_some] <;> rfl) | (simp [*, errW_none, errW_some] <;> rfl), by (with_reducible repeat (first | apply Kd.R_alloc | apply Kd.R_drewN | apply Kd.R_drew)); exact qa.out, bb_ HB, by repeat (first | (with_reducible first | exact HK.out | apply Kept.alloc | apply Kept.drewN | apply Kept.drew | refine Kept.setCell ?_ (.inr qe.out) _) | exact HK.out)⟩

/-! ### laws_heldIntS: function 85 -/
def laws_heldIntS.l0 : Nat → List Int → Int → Int → Option (Int)
 | 0, _, _, _ => none
 | k + 1, x0, x1, x5 => if x5 < (x0.length : Int) then (if 0 ≤ x5 then (if (rd x0 x5) = x1 then (laws_heldIntS.l0 k x0 (wrap64 (x1 + 1)) (wrap64 (x5 + 1))) else (some (-1))) else (none)) else (some x1)
def laws_heldIntS.f (k : Nat) (l0 : List Int) (a1 : Int) : Option (Int) := laws_heldIntS.l0 k l0 a1 0
theorem laws_heldIntS.mono_l : ∀ k, (∀ y0 y1 y2, LeO (laws_heldIntS.l0 k y0 y1 y2) (laws_heldIntS.l0 (k + 1) y0 y1 y2))
 | 0 => fun _ _ _ r h => by simp [laws_heldIntS.l0] at h
 | k + 1 => by
  have ih0 := laws_heldIntS.mono_l k
  ·
   intro y0 y1 y2
   unfold laws_heldIntS.l0
   repeat' first
   | (with_reducible exact ih0 _ _ _)
   | (with_reducible exact LeO.refl _)
   | (with_reducible exact LeO.none _)
   | (with_reducible refine LeO.ite ?_ ?_)
   | (with_reducible refine LeO.bind ?_ (fun _ => ?_))
   | exact ih0 _ _ _
   | exact LeO.none _
   | refine LeO.ite ?_ ?_
   | refine LeO.bind ?_ (fun _ => ?_)
theorem laws_heldIntS.mono : ∀ a0 a1 k, LeO (laws_heldIntS.f k a0 a1) (laws_heldIntS.f (k + 1) a0 a1) := by
 intro a0 a1 k
 have ih0 := laws_heldIntS.mono_l k
 unfold laws_heldIntS.f
 repeat' first
   | (with_reducible exact ih0 _ _ _)
   | (with_reducible exact LeO.refl _)
   | (with_reducible exact LeO.none _)
   | (with_reducible refine LeO.ite ?_ ?_)
   | (with_reducible refine LeO.bind ?_ (fun _ => ?_))
   | exact ih0 _ _ _
   | exact LeO.none _
   | refine LeO.ite ?_ ?_
   | refine LeO.bind ?_ (fun _ => ?_)
set_option maxHeartbeats 8000000 in
set_option maxRecDepth 100000 in
theorem laws_heldIntS.calls (k : Nat) (A0 : Option Addr) (c0 : Nat) (l0 : List Int) (a1 : Int) (r : Int) (w : World) (hr0 : Kd.C (Kd.int .i64) w A0 l0.length l0) (hc0 : l0.length ≤ c0) (h : laws_heldIntS.f k l0 a1 = some r) :
  Calls Tryd.prog 85 #[.slice A0 l0.length c0, .int .i64 a1] w fun e w' => e = .returned (.int .i64 r) ∧ Drawn0 w w' := by
 have HR0 := Aside0.mk hr0
 have HC0 := Aside0.mk hc0
 clear hr0 hc0
 have H : (laws_heldIntS.l0 k l0 a1 0) = some r := h
 clear h
 have H' := Aside0.mk H
 clear H
 go_enter Tryd.func85, Tryd.ntmps85
 go_wp2
 go_loopg [1, 5] k (fun kq v1 v5 w' => ∃ (qb : Int) (qa : Int), v1 = .int .i64 qb ∧ v5 = .int .i64 qa ∧ Aside0 (laws_heldIntS.l0 kq l0 qb qa = some r) ∧ Aside0 (kq ≤ k) ∧ Drawn0 w w')
 case atStart => exact ⟨(a1), (0), (by first | rfl | (simp; done) | (simp [*]; done)), (by first | rfl | (simp; done) | (simp [*]; done)), H', ⟨Nat.le_refl _⟩, by repeat (first | exact Drawn0.refl _ | apply Drawn0.step)⟩
 case round =>
  clear H'
  try clear p2
  obtain ⟨qb, qa, rfl, rfl, HA, HK1, ⟨m1, rfl⟩⟩ := hrel
  cases gk with
  | zero => exact absurd HA.out (by simp [laws_heldIntS.l0])
  | succ k1 =>
   have H := HA.out
   clear HA
   simp only [laws_heldIntS.l0] at H
   by_cases c3 : qa < (l0.length : Int)
   ·
    rw [if_pos c3] at H
    have qe : decide (qa < (l0.length : Int)) = true := decide_eq_true c3
    clear c3
    by_cases c4 : 0 ≤ qa
    ·
     rw [if_pos c4] at H
     have qh : decide (0 ≤ qa) = true := decide_eq_true c4
     clear c4
     by_cases c5 : (rd l0 qa) = qb
     ·
      rw [if_pos c5] at H
      have qf : ((rd l0 qa) == qb) = true := beq_iff_eq.mpr c5
      have qg : ((rd l0 qa) != qb) = false := bne_eq_false_iff_eq.mpr c5
      clear c5
      have H' := Aside0.mk H
      clear H
      have p208 : 0 ≤ (qa : Int) := of_decide_eq_true (by first | (with_reducible assumption) | assumption)
      have q208 : qa < (l0.length : Int) := of_decide_eq_true (by first | (with_reducible assumption) | assumption)
      obtain ⟨qd, e208, qc⟩ := Kd.at_int HR0.out qa p208 q208
      cases e208
      replace p208 := eq_true p208
      replace q208 := eq_true q208
      go_wp2
      go_roundg k1
      case measure => have := HK1.out; omega
      case rel => exact ⟨(wrap64 (qb + 1)), (wrap64 (qa + 1)), (by first | rfl | (simp; done) | (simp [*]; done)), (by first | rfl | (simp; done) | (simp [*]; done)), H', ⟨by have := HK1.out; omega⟩, by repeat (first | exact Drawn0.refl _ | apply Drawn0.step)⟩
     ·
      rw [if_neg c5] at H
      have qf : ((rd l0 qa) == qb) = false := beq_eq_false_iff_ne.mpr c5
      have qg : ((rd l0 qa) != qb) = true := bne_iff_ne.mpr c5
      obtain rfl := Option.some.inj H
      have p208 : 0 ≤ (qa : Int) := of_decide_eq_true (by first | (with_reducible assumption) | assumption)
      have q208 : qa < (l0.length : Int) := of_decide_eq_true (by first | (with_reducible assumption) | assumption)
      obtain ⟨qd, e208, qc⟩ := Kd.at_int HR0.out qa p208 q208
      cases e208
      replace p208 := eq_true p208
      replace q208 := eq_true q208
      go_wp2
      go_ret
      exact ⟨by first | rfl | (simp; done) | (simp [*]; done), by repeat (first | exact Drawn0.refl _ | apply Drawn0.step)⟩
    ·
     rw [if_neg c4] at H
     exact absurd H (by simp)
   ·
    rw [if_neg c3] at H
    have qe : decide (qa < (l0.length : Int)) = false := decide_eq_false c3
    clear c3
    obtain rfl := Option.some.inj H
    go_wp2
    go_ret
    exact ⟨by first | rfl | (simp; done) | (simp [*]; done), by repeat (first | exact Drawn0.refl _ | apply Drawn0.step)⟩

/-! ### laws_heldAtom: function 43 -/
def laws_heldAtom.f (k : Nat) (l0_0 : List Int) (a0_1 : Int) (a0_2 : Bool) (a1 : Int) : Option (Int) := (laws_heldIntS.f k l0_0 a1).bind fun qc => (if qc < 0 then (some (-1)) else (some qc))
theorem laws_heldAtom.mono : ∀ a0 a1 a2 a3 k, LeO (laws_heldAtom.f k a0 a1 a2 a3) (laws_heldAtom.f (k + 1) a0 a1 a2 a3) := by
 intro a0 a1 a2 a3 k
 unfold laws_heldAtom.f
 repeat' first
   | (with_reducible exact laws_heldIntS.mono _ _ _)
   | (with_reducible exact LeO.refl _)
   | (with_reducible exact LeO.none _)
   | (with_reducible refine LeO.ite ?_ ?_)
   | (with_reducible refine LeO.bind ?_ (fun _ => ?_))
   | exact laws_heldIntS.mono _ _ _
   | exact LeO.none _
   | refine LeO.ite ?_ ?_
   | refine LeO.bind ?_ (fun _ => ?_)
set_option maxHeartbeats 8000000 in
set_option maxRecDepth 100000 in
theorem laws_heldAtom.calls (k : Nat) (A0_0 : Option Addr) (c0_0 : Nat) (l0_0 : List Int) (a0_1 : Int) (a0_2 : Bool) (a1 : Int) (r : Int) (w : World) (hr0_0 : Kd.C (Kd.int .i64) w A0_0 l0_0.length l0_0) (hc0_0 : l0_0.length ≤ c0_0) (h : laws_heldAtom.f k l0_0 a0_1 a0_2 a1 = some r) :
  Calls Tryd.prog 43 #[.agg #[.slice A0_0 l0_0.length c0_0, .int .i64 a0_1, .bool a0_2], .int .i64 a1] w fun e w' => e = .returned (.int .i64 r) ∧ Below w.heap.size w w' := by
 have hu27 := Tryd.underlying27
 have qd := Aside0.mk hr0_0
 have qe := Aside0.mk hc0_0
 clear hr0_0 hc0_0
 have HB := Aside0.mk (Below.refl w.heap.size w)
 have H : ((laws_heldIntS.f k l0_0 a1).bind fun qc => (if qc < 0 then (some (-1)) else (some qc))) = some r := h
 clear h
 replace H := Option.bind_eq_some_iff.mp H
 obtain ⟨qc, A30, H⟩ := H
 replace H : (if qc < 0 then (some (-1)) else (some qc)) = some r := H
 have A3 := Aside0.mk A30
 clear A30
 by_cases c4 : qc < 0
 ·
  rw [if_pos c4] at H
  have qh : decide (qc < 0) = true := decide_eq_true c4
  clear c4
  obtain rfl := Option.some.inj H
  go_enter Tryd.func43, Tryd.ntmps43
  go_wp2_with (first | ((with_reducible refine gate_dst (N := 2) rfl ?_); refine box_event ?hg (N := 2) ?hd (cs := #[.slice A0_0 l0_0.length c0_0, .int .i64 a0_1, .bool a0_2]) (t := 27) ?hr ?_; (case hd => rfl); (case hg => rfl); (case hr => first | (go_simp; done) | (go_simp; rfl)); intro qb hg w5 hbox hb; have qa := Aside0.mk (hbox); have qf := Aside0.mk ((by rw [hg]; exact (bz_ HB) : w.heap.size ≤ qb)); have qg := Aside0.mk ((by rw [hg]; exact (bz_ HB) : w.heap.size ≤ qb)); replace HB := bS_ HB hb; clear hb hbox hg; have qi : w5.cell? ⟨qb, 0, none⟩ = some (.slice A0_0 l0_0.length c0_0) := bc_ qa 0; have qj : w5.cell? ⟨qb, 1, none⟩ = some (.int .i64 a0_1) := bc_ qa 1; have qk : w5.cell? ⟨qb, 2, none⟩ = some (.bool a0_2) := bc_ qa 2; have ql := blk_frozen qa.out 0; have qm := blk_frozen qa.out 1; have qn := blk_frozen qa.out 2) | ((with_reducible refine gate_callee (f := 85) rfl ?_); refine goesL_ (some 8) rfl rfl Tryd.func85 (by kernel_rfl) rfl #[.slice A0_0 l0_0.length c0_0, .int .i64 a1] rfl (by (try simp only [List.map_toArray, List.map_cons, List.map_nil]); first | done | rfl | (simp only [List.length_drop, List.length_take]; rfl)) ?_; (with_reducible refine (laws_heldIntS.calls k _ _ l0_0 a1 qc _ ?side1 ?side2 A3.out).mono ?_); (case side1 => exact cb_ qd HB); (case side2 => exact qe.out); rintro e w' ⟨rfl, ⟨nd, rfl⟩⟩; refine ⟨_, rfl, ?_⟩))
  go_ret
  exact ⟨by first | rfl | (simp [errW_none, errW_some] <;> rfl) | (simp [*, errW_none, errW_some] <;> rfl), bb_ HB⟩
 ·
  rw [if_neg c4] at H
  have qh : decide (qc < 0) = false := decide_eq_false c4
  clear c4
  obtain rfl := Option.some.inj H
  go_enter Tryd.func43, Tryd.ntmps43
  go_wp2_with (first | ((with_reducible refine gate_dst (N := 2) rfl ?_); refine box_event ?hg (N := 2) ?hd (cs := #[.slice A0_0 l0_0.length c0_0, .int .i64 a0_1, .bool a0_2]) (t := 27) ?hr ?_; (case hd => rfl); (case hg => rfl); (case hr => first | (go_simp; done) | (go_simp; rfl)); intro qb hg w7 hbox hb; have qa := Aside0.mk (hbox); have qf := Aside0.mk ((by rw [hg]; exact (bz_ HB) : w.heap.size ≤ qb)); have qg := Aside0.mk ((by rw [hg]; exact (bz_ HB) : w.heap.size ≤ qb)); replace HB := bS_ HB hb; clear hb hbox hg; have qo : w7.cell? ⟨qb, 0, none⟩ = some (.slice A0_0 l0_0.length c0_0) := bc_ qa 0; have qp : w7.cell? ⟨qb, 1, none⟩ = some (.int .i64 a0_1) := bc_ qa 1; have qq : w7.cell? ⟨qb, 2, none⟩ = some (.bool a0_2) := bc_ qa 2; have qr := blk_frozen qa.out 0; have qs := blk_frozen qa.out 1; have qt := blk_frozen qa.out 2) | ((with_reducible refine gate_callee (f := 85) rfl ?_); refine goesL_ (some 8) rfl rfl Tryd.func85 (by kernel_rfl) rfl #[.slice A0_0 l0_0.length c0_0, .int .i64 a1] rfl (by (try simp only [List.map_toArray, List.map_cons, List.map_nil]); first | done | rfl | (simp only [List.length_drop, List.length_take]; rfl)) ?_; (with_reducible refine (laws_heldIntS.calls k _ _ l0_0 a1 qc _ ?side1 ?side2 A3.out).mono ?_); (case side1 => exact cb_ qd HB); (case side2 => exact qe.out); rintro e w' ⟨rfl, ⟨nd, rfl⟩⟩; refine ⟨_, rfl, ?_⟩))
  go_ret
  exact ⟨by first | rfl | (simp [errW_none, errW_some] <;> rfl) | (simp [*, errW_none, errW_some] <;> rfl), bb_ HB⟩

/-! ### laws_FnExactParseAtom: function 9 -/
mutual
def laws_FnExactParseAtom.j0 : Nat → ByteArray → Int → Bool → Bool → List Int → Int → Bool → List Int → Int → Bool → Option (Bool)
 | 0, _, _, _, _, _, _, _, _, _, _ => none
 | k + 1, x0, x1, x6, x36, x218000, x218001, x218002, x225000, x225001, x225002 => if x36 = true then (some false) else ((laws_markAtom.f k x225000 x225001 x225002 1).bind fun qH => ((laws_heldAtom.f k qH.2 x225001 x225002 1).bind fun qE => (if qE < 0 then (some false) else (if qE = qH.1 then ((impl_ParseAtom.f k x0 x1).bind fun qv => ((laws_eqAtom.f k qv.1 qv.2.1 qv.2.2.1 x218000 x218001 x218002).bind fun qQ => (if qQ = true then (laws_FnExactParseAtom.j1 k qH.1 (qv.2.2.2 != x6) qH.2 x225001 x225002) else (laws_FnExactParseAtom.j1 k qH.1 true qH.2 x225001 x225002)))) else (some false)))))
def laws_FnExactParseAtom.j1 : Nat → Int → Bool → List Int → Int → Bool → Option (Bool)
 | 0, _, _, _, _, _ => none
 | k + 1, x9, x62, x225000, x225001, x225002 => if x62 = true then (some false) else ((laws_heldAtom.f k x225000 x225001 x225002 1).bind fun qK => (if qK < 0 then (some false) else (if qK = x9 then (some true) else (some false))))
end
def laws_FnExactParseAtom.f (k : Nat) (a0 : ByteArray) (a1 : Int) : Option (Bool) := if (a0.size : Int) > 1048576 then (some true) else ((spec_ParseAtom.f k a0 a1).bind fun qq => ((impl_ParseAtom.f k a0 a1).bind fun qm => ((laws_eqAtom.f k qm.1 qm.2.1 qm.2.2.1 qq.1 qq.2.1 qq.2.2.1).bind fun qR => (if qR = true then (laws_FnExactParseAtom.j0 k a0 a1 qq.2.2.2 (qm.2.2.2 != qq.2.2.2) qq.1 qq.2.1 qq.2.2.1 qm.1 qm.2.1 qm.2.2.1) else (laws_FnExactParseAtom.j0 k a0 a1 qq.2.2.2 true qq.1 qq.2.1 qq.2.2.1 qm.1 qm.2.1 qm.2.2.1)))))
theorem laws_FnExactParseAtom.mono_l : ∀ k, (∀ y0 y1 y2 y3 y4 y5 y6 y7 y8 y9, LeO (laws_FnExactParseAtom.j0 k y0 y1 y2 y3 y4 y5 y6 y7 y8 y9) (laws_FnExactParseAtom.j0 (k + 1) y0 y1 y2 y3 y4 y5 y6 y7 y8 y9)) ∧ (∀ y0 y1 y2 y3 y4, LeO (laws_FnExactParseAtom.j1 k y0 y1 y2 y3 y4) (laws_FnExactParseAtom.j1 (k + 1) y0 y1 y2 y3 y4))
 | 0 => ⟨fun _ _ _ _ _ _ _ _ _ _ r h => by simp [laws_FnExactParseAtom.j0] at h, fun _ _ _ _ _ r h => by simp [laws_FnExactParseAtom.j1] at h⟩
 | k + 1 => by
  obtain ⟨ih0, ih1⟩ := laws_FnExactParseAtom.mono_l k
  refine ⟨?_, ?_⟩
  ·
   intro y0 y1 y2 y3 y4 y5 y6 y7 y8 y9
   unfold laws_FnExactParseAtom.j0
   repeat' first
   | (with_reducible exact ih0 _ _ _ _ _ _ _ _ _ _)
   | (with_reducible exact ih1 _ _ _ _ _)
   | (with_reducible exact impl_ParseAtom.mono _ _ _)
   | (with_reducible exact laws_eqAtom.mono _ _ _ _ _ _ _)
   | (with_reducible exact laws_heldAtom.mono _ _ _ _ _)
   | (with_reducible exact laws_markAtom.mono _ _ _ _ _)
   | (with_reducible exact spec_ParseAtom.mono _ _ _)
   | (with_reducible exact LeO.refl _)
   | (with_reducible exact LeO.none _)
   | (with_reducible refine LeO.ite ?_ ?_)
   | (with_reducible refine LeO.bind ?_ (fun _ => ?_))
   | exact ih0 _ _ _ _ _ _ _ _ _ _
   | exact ih1 _ _ _ _ _
   | exact impl_ParseAtom.mono _ _ _
   | exact laws_eqAtom.mono _ _ _ _ _ _ _
   | exact laws_heldAtom.mono _ _ _ _ _
   | exact laws_markAtom.mono _ _ _ _ _
   | exact spec_ParseAtom.mono _ _ _
   | exact LeO.none _
   | refine LeO.ite ?_ ?_
   | refine LeO.bind ?_ (fun _ => ?_)
  ·
   intro y0 y1 y2 y3 y4
   unfold laws_FnExactParseAtom.j1
   repeat' first
   | (with_reducible exact ih0 _ _ _ _ _ _ _ _ _ _)
   | (with_reducible exact ih1 _ _ _ _ _)
   | (with_reducible exact impl_ParseAtom.mono _ _ _)
   | (with_reducible exact laws_eqAtom.mono _ _ _ _ _ _ _)
   | (with_reducible exact laws_heldAtom.mono _ _ _ _ _)
   | (with_reducible exact laws_markAtom.mono _ _ _ _ _)
   | (with_reducible exact spec_ParseAtom.mono _ _ _)
   | (with_reducible exact LeO.refl _)
   | (with_reducible exact LeO.none _)
   | (with_reducible refine LeO.ite ?_ ?_)
   | (with_reducible refine LeO.bind ?_ (fun _ => ?_))
   | exact ih0 _ _ _ _ _ _ _ _ _ _
   | exact ih1 _ _ _ _ _
   | exact impl_ParseAtom.mono _ _ _
   | exact laws_eqAtom.mono _ _ _ _ _ _ _
   | exact laws_heldAtom.mono _ _ _ _ _
   | exact laws_markAtom.mono _ _ _ _ _
   | exact spec_ParseAtom.mono _ _ _
   | exact LeO.none _
   | refine LeO.ite ?_ ?_
   | refine LeO.bind ?_ (fun _ => ?_)
theorem laws_FnExactParseAtom.mono : ∀ a0 a1 k, LeO (laws_FnExactParseAtom.f k a0 a1) (laws_FnExactParseAtom.f (k + 1) a0 a1) := by
 intro a0 a1 k
 obtain ⟨ih0, ih1⟩ := laws_FnExactParseAtom.mono_l k
 unfold laws_FnExactParseAtom.f
 repeat' first
   | (with_reducible exact ih0 _ _ _ _ _ _ _ _ _ _)
   | (with_reducible exact ih1 _ _ _ _ _)
   | (with_reducible exact impl_ParseAtom.mono _ _ _)
   | (with_reducible exact laws_eqAtom.mono _ _ _ _ _ _ _)
   | (with_reducible exact laws_heldAtom.mono _ _ _ _ _)
   | (with_reducible exact laws_markAtom.mono _ _ _ _ _)
   | (with_reducible exact spec_ParseAtom.mono _ _ _)
   | (with_reducible exact LeO.refl _)
   | (with_reducible exact LeO.none _)
   | (with_reducible refine LeO.ite ?_ ?_)
   | (with_reducible refine LeO.bind ?_ (fun _ => ?_))
   | exact ih0 _ _ _ _ _ _ _ _ _ _
   | exact ih1 _ _ _ _ _
   | exact impl_ParseAtom.mono _ _ _
   | exact laws_eqAtom.mono _ _ _ _ _ _ _
   | exact laws_heldAtom.mono _ _ _ _ _
   | exact laws_markAtom.mono _ _ _ _ _
   | exact spec_ParseAtom.mono _ _ _
   | exact LeO.none _
   | refine LeO.ite ?_ ?_
   | refine LeO.bind ?_ (fun _ => ?_)
set_option maxHeartbeats 8000000 in
set_option maxRecDepth 100000 in
theorem laws_FnExactParseAtom.calls (k : Nat) (a0 : ByteArray) (a1 : Int) (r : Bool) (w : World) (hL : LaidW w) (h : laws_FnExactParseAtom.f k a0 a1 = some r) :
  Calls Tryd.prog 9 #[.string a0, .int .i64 a1] w fun e w' => e = .returned (.bool r) ∧ Below w.heap.size w w' := by
 have HL_ := Aside0.mk hL
 clear hL
 have hu27 := Tryd.underlying27
 have HB := Aside0.mk (Below.refl w.heap.size w)
 have H : (if (a0.size : Int) > 1048576 then (some true) else ((spec_ParseAtom.f k a0 a1).bind fun qq => ((impl_ParseAtom.f k a0 a1).bind fun qm => ((laws_eqAtom.f k qm.1 qm.2.1 qm.2.2.1 qq.1 qq.2.1 qq.2.2.1).bind fun qR => (if qR = true then (laws_FnExactParseAtom.j0 k a0 a1 qq.2.2.2 (qm.2.2.2 != qq.2.2.2) qq.1 qq.2.1 qq.2.2.1 qm.1 qm.2.1 qm.2.2.1) else (laws_FnExactParseAtom.j0 k a0 a1 qq.2.2.2 true qq.1 qq.2.1 qq.2.2.1 qm.1 qm.2.1 qm.2.2.1)))))) = some r := h
 clear h
 by_cases c3 : (a0.size : Int) > 1048576
 ·
  rw [if_pos c3] at H
  have jv : decide (1048576 < (a0.size : Int)) = true := decide_eq_true c3
  have jw : decide (1048576 < a0.size) = true := decide_eq_true (by omega)
  clear c3
  obtain rfl := Option.some.inj H
  go_enter Tryd.func9, Tryd.ntmps9
  go_wp2
  go_ret
  exact ⟨by first | rfl | (simp [errW_none, errW_some] <;> rfl) | (simp [*, errW_none, errW_some] <;> rfl), bb_ HB⟩
 ·
  rw [if_neg c3] at H
  have jv : decide (1048576 < (a0.size : Int)) = false := decide_eq_false c3
  have jw : decide (1048576 < a0.size) = false := decide_eq_false (by omega)
  clear c3
  replace H := Option.bind_eq_some_iff.mp H
  obtain ⟨⟨ql, qr, qt, qF⟩, A40, H⟩ := H
  replace H : ((impl_ParseAtom.f k a0 a1).bind fun qm => ((laws_eqAtom.f k qm.1 qm.2.1 qm.2.2.1 ql qr qt).bind fun qR => (if qR = true then (laws_FnExactParseAtom.j0 k a0 a1 qF (qm.2.2.2 != qF) ql qr qt qm.1 qm.2.1 qm.2.2.1) else (laws_FnExactParseAtom.j0 k a0 a1 qF true ql qr qt qm.1 qm.2.1 qm.2.2.1)))) = some r := H
  have A4 := Aside0.mk A40
  clear A40
  replace H := Option.bind_eq_some_iff.mp H
  obtain ⟨⟨qe, qf, qh, zw⟩, A50, H⟩ := H
  replace H : ((laws_eqAtom.f k qe qf qh ql qr qt).bind fun qR => (if qR = true then (laws_FnExactParseAtom.j0 k a0 a1 qF (zw != qF) ql qr qt qe qf qh) else (laws_FnExactParseAtom.j0 k a0 a1 qF true ql qr qt qe qf qh))) = some r := H
  have A5 := Aside0.mk A50
  clear A50
  have HC6 := Aside0.mk H
  clear H
  go_enter Tryd.func9, Tryd.ntmps9
  go_upto_region 5 with (first | ((with_reducible refine gate_callee (f := 40) rfl ?_); refine goesL_ (some 19) rfl rfl Tryd.func40 (by kernel_rfl) rfl #[.string a0, .int .i64 a1] rfl (by (try simp only [List.map_toArray, List.map_cons, List.map_nil]); first | done | rfl | (simp only [List.length_drop, List.length_take]; rfl)) ?_; (with_reducible refine (spec_ParseAtom.calls k a0 a1 ql qr qt qF _ A4.out).mono ?_); rintro e w7 ⟨QR, rfl, ho0, hb⟩; refine ⟨_, rfl, ?_⟩; have qx := Aside0.mk (Kd.R_lower ho0 (bz_ HB)); replace HB := bS_ HB hb; (try clear hb); (try clear hb2); (try clear hk); (try clear hi); (try clear ho0)) | ((with_reducible refine gate_dst (N := 5) rfl ?_); refine box_event ?hg (N := 5) ?hd (cs := #[.slice none 0 0, .int .i64 0, .bool false]) (t := 27) ?hr ?_; (case hd => rfl); (case hg => rfl); (case hr => first | (go_simp; done) | (go_simp; rfl)); intro qn hg w8 hbox hb; replace qx := rB_ qx hb; have qd := Aside0.mk (hbox); have j9 := Aside0.mk ((by rw [hg]; exact (bz_ HB) : w.heap.size ≤ qn)); have zx := Aside0.mk ((by rw [hg]; exact (bz_ HB) : w.heap.size ≤ qn)); replace HB := bS_ HB hb; clear hb hbox hg; obtain ⟨qN, qM, eo9⟩ := Kd.R_slice qx.out; subst eo9; have qV : w8.cell? ⟨qn, 0, none⟩ = some (.slice none 0 0) := bc_ qd 0; have qW : w8.cell? ⟨qn, 1, none⟩ = some (.int .i64 0) := bc_ qd 1; have qX : w8.cell? ⟨qn, 2, none⟩ = some (.bool false) := bc_ qd 2; have qY := blk_frozen qd.out 0; have qZ := blk_frozen qd.out 1; have q0 := blk_frozen qd.out 2) | ((with_reducible refine gate_callee (f := 41) rfl ?_); refine goesL_ (some 25) rfl rfl Tryd.func41 (by kernel_rfl) rfl #[.string a0, .int .i64 a1] rfl (by (try simp only [List.map_toArray, List.map_cons, List.map_nil]); first | done | rfl | (simp only [List.length_drop, List.length_take]; rfl)) ?_; (with_reducible refine (impl_ParseAtom.calls (hL := laid_ HL_ HB) k a0 a1 qe qf qh zw _ A5.out).mono ?_); rintro e QU ⟨QS, rfl, ho0, hb⟩; refine ⟨_, rfl, ?_⟩; have qI := Aside0.mk (Kd.R_lower (Kd.R_new' ho0 (Kd.R_lt (by (with_reducible repeat (first | apply Kd.R_alloc | apply Kd.R_drewN | apply Kd.R_drew)); exact (rt3_ qx qd (by decide) 0 1 2 (.slice qN ql.length qM) (.int .i64 qr) (.bool qt))))) (bz_ HB)); replace qx := Aside0.mk (Kd.R_elder' (by (with_reducible repeat (first | apply Kd.R_alloc | apply Kd.R_drewN | apply Kd.R_drew)); exact (rt3_ qx qd (by decide) 0 1 2 (.slice qN ql.length qM) (.int .i64 qr) (.bool qt))) (Kd.R_base ho0) hb); replace qd := Aside0.mk (blk_below (g := qn) (o := .cells #[.slice qN ql.length qM, .int .i64 qr, .bool qt] 27 (0, 0)) (by (with_reducible repeat (first | refine blk_drewN ?_ _ | refine blk_drew ?_ | refine blk_alloc ?_ _)); refine blk_put (cs := #[.slice qN ql.length qM, .int .i64 qr, .bool false]) ?_ 2 _ rfl; (with_reducible repeat (first | refine blk_drewN ?_ _ | refine blk_drew ?_ | refine blk_alloc ?_ _)); refine blk_put (cs := #[.slice qN ql.length qM, .int .i64 0, .bool false]) ?_ 1 _ rfl; (with_reducible repeat (first | refine blk_drewN ?_ _ | refine blk_drew ?_ | refine blk_alloc ?_ _)); refine blk_put (cs := #[.slice none 0 0, .int .i64 0, .bool false]) ?_ 0 _ rfl; (with_reducible repeat (first | refine blk_drewN ?_ _ | refine blk_drew ?_ | refine blk_alloc ?_ _)); exact qd.out) hb); replace HB := bS_ HB hb; (try clear hb); (try clear hb2); (try clear hk); (try clear hi); (try clear ho0)) | ((with_reducible refine gate_dst (N := 7) rfl ?_); refine box_event ?hg (N := 7) ?hd (cs := #[.slice none 0 0, .int .i64 0, .bool false]) (t := 27) ?hr ?_; (case hd => rfl); (case hg => rfl); (case hr => first | (go_simp; done) | (go_simp; rfl)); intro qg hg qT hbox hb; replace qx := rB_ qx hb; replace qI := rB_ qI hb; have qb := Aside0.mk (hbox); have Qa := Aside0.mk ((by rw [hg]; exact (bz_ HB) : w.heap.size ≤ qg)); have zy := Aside0.mk ((by rw [hg]; exact (bz_ HB) : w.heap.size ≤ qg)); replace HB := bS_ HB hb; have qo := Aside0.mk ((nl_ qd hg : qn ≠ qg)); have qp := Aside0.mk ((ng_ qd hg : qg ≠ qn)); replace qd := kB_ qd hb; clear hb hbox hg; obtain ⟨qk, qj, eo13⟩ := Kd.R_slice qI.out; subst eo13; have Qb := qp.out; have Qc := qo.out; have q1 : qT.cell? ⟨qg, 0, none⟩ = some (.slice none 0 0) := bc_ qb 0; have q2 : qT.cell? ⟨qg, 1, none⟩ = some (.int .i64 0) := bc_ qb 1; have q3 : qT.cell? ⟨qg, 2, none⟩ = some (.bool false) := bc_ qb 2; have q4 := blk_frozen qb.out 0; have q5 := blk_frozen qb.out 1; have q6 := blk_frozen qb.out 2))
  (try simp only [Act.put, List.setIfInBounds_toArray, List.set_cons_zero, List.set_cons_succ])
  go_cut [36] (fun v36 wc => ∃ (kq : Nat) (q7 : Bool), v36 = .bool q7 ∧ Aside0 (laws_FnExactParseAtom.j0 kq a0 a1 qF q7 ql qr qt qe qf qh = some r) ∧ Aside0 (kq ≤ k) ∧ Aside0 (Kd.R (Kd.int .i64) 3 wc w.heap.size (fun k_ => some k_ ≠ ((.slice qk qe.length qj) : Value).ownBlock) (.slice qN ql.length qM) ql) ∧ Aside0 (Kd.R (Kd.int .i64) 3 wc w.heap.size (fun k_ => some k_ ≠ ((.slice qN ql.length qM) : Value).ownBlock) (.slice qk qe.length qj) qe) ∧ Aside0 (wc.heap[qn]? = some (.cells #[(.slice qN ql.length qM), .int .i64 qr, .bool qt] 27 (0, 0))) ∧ Aside0 (wc.heap[qg]? = some (.cells #[(.slice qk qe.length qj), .int .i64 qf, .bool qh] 27 (0, 0))) ∧ Aside0 (Below w.heap.size w wc))
  case first =>
   have H := HC6.out
   clear HC6
   replace H := Option.bind_eq_some_iff.mp H
   obtain ⟨qR, A160, H⟩ := H
   replace H : (if qR = true then (laws_FnExactParseAtom.j0 k a0 a1 qF (zw != qF) ql qr qt qe qf qh) else (laws_FnExactParseAtom.j0 k a0 a1 qF true ql qr qt qe qf qh)) = some r := H
   have A16 := Aside0.mk A160
   clear A160
   by_cases c17 : qR = true
   ·
    subst c17
    have H1 : (laws_FnExactParseAtom.j0 k a0 a1 qF (zw != qF) ql qr qt qe qf qh) = some r := by rw [if_pos rfl] at H; exact H
    clear H
    have H := H1
    clear H1
    have H' := Aside0.mk H
    clear H
    have Qd := qp.out
    have Qe := qo.out
    have q8 : qT.cell? ⟨qg, 0, none⟩ = some (.slice none 0 0) := bc_ qb 0
    have q9 : qT.cell? ⟨qg, 1, none⟩ = some (.int .i64 0) := bc_ qb 1
    have za : qT.cell? ⟨qg, 2, none⟩ = some (.bool false) := bc_ qb 2
    have zb := blk_frozen qb.out 0
    have zc := blk_frozen qb.out 1
    have zd := blk_frozen qb.out 2
    have ze : qT.cell? ⟨qn, 0, none⟩ = some (.slice qN ql.length qM) := bc_ qd 0
    have zf : qT.cell? ⟨qn, 1, none⟩ = some (.int .i64 qr) := bc_ qd 1
    have zg : qT.cell? ⟨qn, 2, none⟩ = some (.bool qt) := bc_ qd 2
    have zh := blk_frozen qd.out 0
    have zi := blk_frozen qd.out 1
    have zj := blk_frozen qd.out 2
    go_wp2_with (first | ((with_reducible refine gate_callee (f := 15) rfl ?_); refine goesL_ (some 30) rfl rfl Tryd.func15 (by kernel_rfl) rfl #[.agg #[.slice qk qe.length qj, .int .i64 qf, .bool qh], .agg #[.slice qN ql.length qM, .int .i64 qr, .bool qt]] rfl (by (try simp only [List.map_toArray, List.map_cons, List.map_nil]); first | done | rfl | (simp only [List.length_drop, List.length_take]; rfl)) ?_; (with_reducible refine (laws_eqAtom.calls k _ _ qe qf qh _ _ ql qr qt true _ ?side1 ?side2 ?side3 ?side4 A16.out).mono ?_); (case side1 => refine (Kd.R_reads' (e := 3) (base := w.heap.size) (ok := fun k_ => (True ∧ some k_ ≠ (.slice qN ql.length qM : Value).ownBlock)) (n := qe.length) (c := qj) ?_).2.2; exact (by (with_reducible repeat (first | apply Kd.R_alloc | apply Kd.R_drewN | apply Kd.R_drew)); exact (rt3_ qI qb (by decide) 0 1 2 (.slice qk qe.length qj) (.int .i64 qf) (.bool qh)))); (case side2 => exact (Kd.R_reads' qI.out).2.1); (case side3 => refine (Kd.R_reads' (e := 3) (base := w.heap.size) (ok := fun k_ => (True ∧ some k_ ≠ (.slice qk qe.length qj : Value).ownBlock)) (n := ql.length) (c := qM) ?_).2.2; exact (by (with_reducible repeat (first | apply Kd.R_alloc | apply Kd.R_drewN | apply Kd.R_drew)); exact (rt3_ qx qb (by decide) 0 1 2 (.slice qk qe.length qj) (.int .i64 qf) (.bool qh)))); (case side4 => exact (Kd.R_reads' qx.out).2.1); rintro e QV ⟨rfl, hb⟩; refine ⟨_, rfl, ?_⟩; replace qx := Aside0.mk (Kd.R_below (by (with_reducible repeat (first | apply Kd.R_alloc | apply Kd.R_drewN | apply Kd.R_drew)); exact (rt3_ qx qb (by decide) 0 1 2 (.slice qk qe.length qj) (.int .i64 qf) (.bool qh))) hb); replace qI := Aside0.mk (Kd.R_below (by (with_reducible repeat (first | apply Kd.R_alloc | apply Kd.R_drewN | apply Kd.R_drew)); exact (rt3_ qI qb (by decide) 0 1 2 (.slice qk qe.length qj) (.int .i64 qf) (.bool qh))) hb); replace qd := Aside0.mk (blk_below (g := qn) (o := .cells #[.slice qN ql.length qM, .int .i64 qr, .bool qt] 27 (0, 0)) (kf_ qd) hb); replace qb := Aside0.mk (blk_below (g := qg) (o := .cells #[.slice qk qe.length qj, .int .i64 qf, .bool qh] 27 (0, 0)) (by (with_reducible repeat (first | refine blk_drewN ?_ _ | refine blk_drew ?_ | refine blk_alloc ?_ _)); refine blk_put (cs := #[.slice qk qe.length qj, .int .i64 qf, .bool false]) ?_ 2 _ rfl; (with_reducible repeat (first | refine blk_drewN ?_ _ | refine blk_drew ?_ | refine blk_alloc ?_ _)); refine blk_put (cs := #[.slice qk qe.length qj, .int .i64 0, .bool false]) ?_ 1 _ rfl; (with_reducible repeat (first | refine blk_drewN ?_ _ | refine blk_drew ?_ | refine blk_alloc ?_ _)); refine blk_put (cs := #[.slice none 0 0, .int .i64 0, .bool false]) ?_ 0 _ rfl; (with_reducible repeat (first | refine blk_drewN ?_ _ | refine blk_drew ?_ | refine blk_alloc ?_ _)); exact qb.out) hb); replace HB := bS_ HB hb; (try clear hb); (try clear hb2); (try clear hk); (try clear hi)))
    go_meet
    case rel => exact ⟨_, ((zw != qF)), (by first | rfl | (simp; done) | (simp [*]; done)), H', ⟨by first | omega | exact Nat.le_refl _⟩, ⟨by (with_reducible repeat (first | apply Kd.R_alloc | apply Kd.R_drewN | apply Kd.R_drew)); exact Kd.R_mono qx.out (fun _ hk => hk.2)⟩, ⟨by (with_reducible repeat (first | apply Kd.R_alloc | apply Kd.R_drewN | apply Kd.R_drew)); exact Kd.R_mono qI.out (fun _ hk => hk.2)⟩, ⟨kf_ qd⟩, ⟨kf_ qb⟩, ⟨bb_ HB⟩⟩
   ·
    replace c17 := Bool.eq_false_iff.mpr c17
    subst c17
    have H1 : (laws_FnExactParseAtom.j0 k a0 a1 qF true ql qr qt qe qf qh) = some r := by rw [if_neg (show ¬ (false = true) by decide)] at H; exact H
    clear H
    have H := H1
    clear H1
    have H' := Aside0.mk H
    clear H
    have Qf := qp.out
    have Qg := qo.out
    have zk : qT.cell? ⟨qg, 0, none⟩ = some (.slice none 0 0) := bc_ qb 0
    have zl : qT.cell? ⟨qg, 1, none⟩ = some (.int .i64 0) := bc_ qb 1
    have zm : qT.cell? ⟨qg, 2, none⟩ = some (.bool false) := bc_ qb 2
    have zn := blk_frozen qb.out 0
    have zo := blk_frozen qb.out 1
    have zp := blk_frozen qb.out 2
    have zq : qT.cell? ⟨qn, 0, none⟩ = some (.slice qN ql.length qM) := bc_ qd 0
    have zr : qT.cell? ⟨qn, 1, none⟩ = some (.int .i64 qr) := bc_ qd 1
    have zs : qT.cell? ⟨qn, 2, none⟩ = some (.bool qt) := bc_ qd 2
    have zt := blk_frozen qd.out 0
    have zu := blk_frozen qd.out 1
    have zv := blk_frozen qd.out 2
    go_wp2_with (first | ((with_reducible refine gate_callee (f := 15) rfl ?_); refine goesL_ (some 30) rfl rfl Tryd.func15 (by kernel_rfl) rfl #[.agg #[.slice qk qe.length qj, .int .i64 qf, .bool qh], .agg #[.slice qN ql.length qM, .int .i64 qr, .bool qt]] rfl (by (try simp only [List.map_toArray, List.map_cons, List.map_nil]); first | done | rfl | (simp only [List.length_drop, List.length_take]; rfl)) ?_; (with_reducible refine (laws_eqAtom.calls k _ _ qe qf qh _ _ ql qr qt false _ ?side1 ?side2 ?side3 ?side4 A16.out).mono ?_); (case side1 => refine (Kd.R_reads' (e := 3) (base := w.heap.size) (ok := fun k_ => (True ∧ some k_ ≠ (.slice qN ql.length qM : Value).ownBlock)) (n := qe.length) (c := qj) ?_).2.2; exact (by (with_reducible repeat (first | apply Kd.R_alloc | apply Kd.R_drewN | apply Kd.R_drew)); exact (rt3_ qI qb (by decide) 0 1 2 (.slice qk qe.length qj) (.int .i64 qf) (.bool qh)))); (case side2 => exact (Kd.R_reads' qI.out).2.1); (case side3 => refine (Kd.R_reads' (e := 3) (base := w.heap.size) (ok := fun k_ => (True ∧ some k_ ≠ (.slice qk qe.length qj : Value).ownBlock)) (n := ql.length) (c := qM) ?_).2.2; exact (by (with_reducible repeat (first | apply Kd.R_alloc | apply Kd.R_drewN | apply Kd.R_drew)); exact (rt3_ qx qb (by decide) 0 1 2 (.slice qk qe.length qj) (.int .i64 qf) (.bool qh)))); (case side4 => exact (Kd.R_reads' qx.out).2.1); rintro e QW ⟨rfl, hb⟩; refine ⟨_, rfl, ?_⟩; replace qx := Aside0.mk (Kd.R_below (by (with_reducible repeat (first | apply Kd.R_alloc | apply Kd.R_drewN | apply Kd.R_drew)); exact (rt3_ qx qb (by decide) 0 1 2 (.slice qk qe.length qj) (.int .i64 qf) (.bool qh))) hb); replace qI := Aside0.mk (Kd.R_below (by (with_reducible repeat (first | apply Kd.R_alloc | apply Kd.R_drewN | apply Kd.R_drew)); exact (rt3_ qI qb (by decide) 0 1 2 (.slice qk qe.length qj) (.int .i64 qf) (.bool qh))) hb); replace qd := Aside0.mk (blk_below (g := qn) (o := .cells #[.slice qN ql.length qM, .int .i64 qr, .bool qt] 27 (0, 0)) (kf_ qd) hb); replace qb := Aside0.mk (blk_below (g := qg) (o := .cells #[.slice qk qe.length qj, .int .i64 qf, .bool qh] 27 (0, 0)) (by (with_reducible repeat (first | refine blk_drewN ?_ _ | refine blk_drew ?_ | refine blk_alloc ?_ _)); refine blk_put (cs := #[.slice qk qe.length qj, .int .i64 qf, .bool false]) ?_ 2 _ rfl; (with_reducible repeat (first | refine blk_drewN ?_ _ | refine blk_drew ?_ | refine blk_alloc ?_ _)); refine blk_put (cs := #[.slice qk qe.length qj, .int .i64 0, .bool false]) ?_ 1 _ rfl; (with_reducible repeat (first | refine blk_drewN ?_ _ | refine blk_drew ?_ | refine blk_alloc ?_ _)); refine blk_put (cs := #[.slice none 0 0, .int .i64 0, .bool false]) ?_ 0 _ rfl; (with_reducible repeat (first | refine blk_drewN ?_ _ | refine blk_drew ?_ | refine blk_alloc ?_ _)); exact qb.out) hb); replace HB := bS_ HB hb; (try clear hb); (try clear hb2); (try clear hk); (try clear hi)))
    go_meet
    case rel => exact ⟨_, (true), (by first | rfl | (simp; done) | (simp [*]; done)), H', ⟨by first | omega | exact Nat.le_refl _⟩, ⟨by (with_reducible repeat (first | apply Kd.R_alloc | apply Kd.R_drewN | apply Kd.R_drew)); exact Kd.R_mono qx.out (fun _ hk => hk.2)⟩, ⟨by (with_reducible repeat (first | apply Kd.R_alloc | apply Kd.R_drewN | apply Kd.R_drew)); exact Kd.R_mono qI.out (fun _ hk => hk.2)⟩, ⟨kf_ qd⟩, ⟨kf_ qb⟩, ⟨bb_ HB⟩⟩
  case rest =>
   clear HC6
   try clear c1
   try clear c2
   try clear p2
   try clear c3
   try clear jv
   try clear jw
   try clear c4
   try clear c9
   try clear c14
   try clear c15
   try clear c17
   try clear c18
   try clear c22
   try clear qV
   try clear qW
   try clear qX
   try clear q1
   try clear q2
   try clear q3
   try clear q8
   try clear q9
   try clear za
   try clear ze
   try clear zf
   try clear zg
   try clear zk
   try clear zl
   try clear zm
   try clear zq
   try clear zr
   try clear zs
   try clear qY
   try clear qZ
   try clear q0
   try clear q4
   try clear q5
   try clear q6
   try clear zb
   try clear zc
   try clear zd
   try clear zh
   try clear zi
   try clear zj
   try clear zn
   try clear zo
   try clear zp
   try clear zt
   try clear zu
   try clear zv
   obtain ⟨kq, q7, rfl, HA, HJ5, qc, qa, qd, qb, HB⟩ := hcut
   cases kq with
   | zero => exact absurd HA.out (by simp [laws_FnExactParseAtom.j0])
   | succ kj5 =>
    have H := HA.out
    clear HA
    simp only [laws_FnExactParseAtom.j0] at H
    by_cases c26 : q7 = true
    ·
     subst c26
     have H1 : (some false) = some r := by rw [if_pos rfl] at H; exact H
     clear H
     have H := H1
     clear H1
     obtain rfl := Option.some.inj H
     go_wp2
     go_ret
     exact ⟨by first | rfl | (simp [errW_none, errW_some] <;> rfl) | (simp [*, errW_none, errW_some] <;> rfl), bb_ HB⟩
    ·
     replace c26 := Bool.eq_false_iff.mpr c26
     subst c26
     have H1 : ((laws_markAtom.f kj5 qe qf qh 1).bind fun qH => ((laws_heldAtom.f kj5 qH.2 qf qh 1).bind fun qE => (if qE < 0 then (some false) else (if qE = qH.1 then ((impl_ParseAtom.f kj5 a0 a1).bind fun qv => ((laws_eqAtom.f kj5 qv.1 qv.2.1 qv.2.2.1 ql qr qt).bind fun qQ => (if qQ = true then (laws_FnExactParseAtom.j1 kj5 qH.1 (qv.2.2.2 != qF) qH.2 qf qh) else (laws_FnExactParseAtom.j1 kj5 qH.1 true qH.2 qf qh)))) else (some false))))) = some r := by rw [if_neg (show ¬ (false = true) by decide)] at H; exact H
     clear H
     have H := H1
     clear H1
     replace H := Option.bind_eq_some_iff.mp H
     obtain ⟨⟨qw, qs⟩, A270, H⟩ := H
     replace H : ((laws_heldAtom.f kj5 qs qf qh 1).bind fun qE => (if qE < 0 then (some false) else (if qE = qw then ((impl_ParseAtom.f kj5 a0 a1).bind fun qv => ((laws_eqAtom.f kj5 qv.1 qv.2.1 qv.2.2.1 ql qr qt).bind fun qQ => (if qQ = true then (laws_FnExactParseAtom.j1 kj5 qw (qv.2.2.2 != qF) qs qf qh) else (laws_FnExactParseAtom.j1 kj5 qw true qs qf qh)))) else (some false)))) = some r := H
     have A27 := Aside0.mk A270
     clear A270
     replace H := Option.bind_eq_some_iff.mp H
     obtain ⟨qE, A280, H⟩ := H
     replace H : (if qE < 0 then (some false) else (if qE = qw then ((impl_ParseAtom.f kj5 a0 a1).bind fun qv => ((laws_eqAtom.f kj5 qv.1 qv.2.1 qv.2.2.1 ql qr qt).bind fun qQ => (if qQ = true then (laws_FnExactParseAtom.j1 kj5 qw (qv.2.2.2 != qF) qs qf qh) else (laws_FnExactParseAtom.j1 kj5 qw true qs qf qh)))) else (some false))) = some r := H
     have A28 := Aside0.mk A280
     clear A280
     by_cases c29 : qE < 0
     ·
      rw [if_pos c29] at H
      have js : decide (qE < 0) = true := decide_eq_true c29
      clear c29
      obtain rfl := Option.some.inj H
      have Qh := qp.out
      have Qi := qo.out
      have zA : wc.cell? ⟨qg, 0, none⟩ = some (.slice qk qe.length qj) := bc_ qb 0
      have zB : wc.cell? ⟨qg, 1, none⟩ = some (.int .i64 qf) := bc_ qb 1
      have zC : wc.cell? ⟨qg, 2, none⟩ = some (.bool qh) := bc_ qb 2
      have zD := blk_frozen qb.out 0
      have zE := blk_frozen qb.out 1
      have zF := blk_frozen qb.out 2
      go_wp2_with (first | ((with_reducible refine gate_callee (f := 42) rfl ?_); refine goesL_ (some 39) rfl rfl Tryd.func42 (by kernel_rfl) rfl #[.agg #[.slice qk qe.length qj, .int .i64 qf, .bool qh], .int .i64 1] rfl (by (try simp only [List.map_toArray, List.map_cons, List.map_nil]); first | done | rfl | (simp only [List.length_drop, List.length_take]; rfl)) ?_; (with_reducible refine (laws_markAtom.calls kj5 (fun k_ => some k_ = (.slice qk qe.length qj : Value).ownBlock) (.slice qk qe.length qj) qe qf qh 1 qw qs w _ ?side1 ?side2 A27.out).mono ?_); (case side1 => repeat (first | (with_reducible first | exact HB.out | apply below_alloc | apply pw_below_drewN | apply below_drew1 | refine below_set ?_ zx.out | refine below_set ?_ zy.out) | exact HB.out)); (case side2 => exact Kd.R_tight rfl qa.out); rintro e j6 ⟨rfl, hy0, hb, hkp⟩; refine ⟨_, rfl, ?_⟩; replace qc := Aside0.mk (Kd.R_mono (ok' := fun k_ => some k_ ≠ (.slice qk qe.length qj : Value).ownBlock) (Kd.R_keptB (qc.out) hkp (fun k_ hk_ hs_ => (hk_) hs_)) (fun k_ hk_ => hk_.1)); replace qd := Aside0.mk (blk_kept (kf_ qd) hkp (fun hs_ => (fun e_ => (Kd.R_ne qa.out qd.out (by decide)) e_) hs_)); replace qb := Aside0.mk (blk_kept (kf_ qb) hkp (fun hs_ => (fun e_ => (Kd.R_ne qa.out qb.out (by decide)) e_) hs_)); replace qa := Aside0.mk (Kd.R_reok rfl hy0 (fun k_ e_ => qa.out.1 k_ e_)); replace HB := Aside0.mk (hb); (try clear hb); (try clear hkp); (try clear hy0); have zG : j6.cell? ⟨qg, 0, none⟩ = some (.slice qk qe.length qj) := bc_ qb 0; have zH : j6.cell? ⟨qg, 1, none⟩ = some (.int .i64 qf) := bc_ qb 1; have zI : j6.cell? ⟨qg, 2, none⟩ = some (.bool qh) := bc_ qb 2; have zJ := blk_frozen qb.out 0; have zK := blk_frozen qb.out 1; have zL := blk_frozen qb.out 2) | ((with_reducible refine gate_callee (f := 43) rfl ?_); refine goesL_ (some 42) rfl rfl Tryd.func43 (by kernel_rfl) rfl #[.agg #[.slice qk qs.length qj, .int .i64 qf, .bool qh], .int .i64 1] rfl (by (try simp only [List.map_toArray, List.map_cons, List.map_nil]); first | done | (rw [show qs.length = qe.length from (Kd.R_reads' qa.out).1.symm] <;> rfl) | rfl | (simp only [List.length_drop, List.length_take]; rfl)) ?_; (with_reducible refine (laws_heldAtom.calls kj5 _ _ qs qf qh 1 qE _ ?side1 ?side2 A28.out).mono ?_); (case side1 => exact cr_ qa); (case side2 => rw [show qs.length = qe.length from (Kd.R_reads' qa.out).1.symm]; exact (Kd.R_reads' qa.out).2.1); rintro e QX ⟨rfl, hb⟩; refine ⟨_, rfl, ?_⟩; replace qc := rB_ qc hb; replace qa := rB_ qa hb; replace qd := kB_ qd hb; replace qb := kB_ qb hb; replace HB := bS_ HB hb; (try clear hb); (try clear hb2); (try clear hk); (try clear hi)))
      go_ret
      exact ⟨by first | rfl | (simp [errW_none, errW_some] <;> rfl) | (simp [*, errW_none, errW_some] <;> rfl), bb_ HB⟩
     ·
      rw [if_neg c29] at H
      have js : decide (qE < 0) = false := decide_eq_false c29
      clear c29
      by_cases c35 : qE = qw
      ·
       rw [if_pos c35] at H
       have jt : (qE == qw) = true := beq_iff_eq.mpr c35
       have ju : (qE != qw) = false := bne_eq_false_iff_eq.mpr c35
       clear c35
       replace H := Option.bind_eq_some_iff.mp H
       obtain ⟨⟨qu, qG, qL, zz⟩, A360, H⟩ := H
       replace H : ((laws_eqAtom.f kj5 qu qG qL ql qr qt).bind fun qQ => (if qQ = true then (laws_FnExactParseAtom.j1 kj5 qw (zz != qF) qs qf qh) else (laws_FnExactParseAtom.j1 kj5 qw true qs qf qh))) = some r := H
       have A36 := Aside0.mk A360
       clear A360
       have HC37 := Aside0.mk H
       clear H
       have Qj := qp.out
       have Qk := qo.out
       have zM : wc.cell? ⟨qg, 0, none⟩ = some (.slice qk qe.length qj) := bc_ qb 0
       have zN : wc.cell? ⟨qg, 1, none⟩ = some (.int .i64 qf) := bc_ qb 1
       have zO : wc.cell? ⟨qg, 2, none⟩ = some (.bool qh) := bc_ qb 2
       have zP := blk_frozen qb.out 0
       have zQ := blk_frozen qb.out 1
       have zR := blk_frozen qb.out 2
       go_upto_region 16 with (first | ((with_reducible refine gate_callee (f := 42) rfl ?_); refine goesL_ (some 39) rfl rfl Tryd.func42 (by kernel_rfl) rfl #[.agg #[.slice qk qe.length qj, .int .i64 qf, .bool qh], .int .i64 1] rfl (by (try simp only [List.map_toArray, List.map_cons, List.map_nil]); first | done | rfl | (simp only [List.length_drop, List.length_take]; rfl)) ?_; (with_reducible refine (laws_markAtom.calls kj5 (fun k_ => some k_ = (.slice qk qe.length qj : Value).ownBlock) (.slice qk qe.length qj) qe qf qh 1 qw qs w _ ?side1 ?side2 A27.out).mono ?_); (case side1 => repeat (first | (with_reducible first | exact HB.out | apply below_alloc | apply pw_below_drewN | apply below_drew1 | refine below_set ?_ zx.out | refine below_set ?_ zy.out) | exact HB.out)); (case side2 => exact Kd.R_tight rfl qa.out); rintro e j7 ⟨rfl, hy0, hb, hkp⟩; refine ⟨_, rfl, ?_⟩; replace qc := Aside0.mk (Kd.R_mono (ok' := fun k_ => some k_ ≠ (.slice qk qe.length qj : Value).ownBlock) (Kd.R_keptB (qc.out) hkp (fun k_ hk_ hs_ => (hk_) hs_)) (fun k_ hk_ => hk_.1)); replace qd := Aside0.mk (blk_kept (kf_ qd) hkp (fun hs_ => (fun e_ => (Kd.R_ne qa.out qd.out (by decide)) e_) hs_)); replace qb := Aside0.mk (blk_kept (kf_ qb) hkp (fun hs_ => (fun e_ => (Kd.R_ne qa.out qb.out (by decide)) e_) hs_)); replace qa := Aside0.mk (Kd.R_reok rfl hy0 (fun k_ e_ => qa.out.1 k_ e_)); replace HB := Aside0.mk (hb); (try clear hb); (try clear hkp); (try clear hy0); have zS : j7.cell? ⟨qg, 0, none⟩ = some (.slice qk qe.length qj) := bc_ qb 0; have zT : j7.cell? ⟨qg, 1, none⟩ = some (.int .i64 qf) := bc_ qb 1; have zU : j7.cell? ⟨qg, 2, none⟩ = some (.bool qh) := bc_ qb 2; have zV := blk_frozen qb.out 0; have zW := blk_frozen qb.out 1; have zX := blk_frozen qb.out 2) | ((with_reducible refine gate_callee (f := 43) rfl ?_); refine goesL_ (some 42) rfl rfl Tryd.func43 (by kernel_rfl) rfl #[.agg #[.slice qk qs.length qj, .int .i64 qf, .bool qh], .int .i64 1] rfl (by (try simp only [List.map_toArray, List.map_cons, List.map_nil]); first | done | (rw [show qs.length = qe.length from (Kd.R_reads' qa.out).1.symm] <;> rfl) | rfl | (simp only [List.length_drop, List.length_take]; rfl)) ?_; (with_reducible refine (laws_heldAtom.calls kj5 _ _ qs qf qh 1 qE _ ?side1 ?side2 A28.out).mono ?_); (case side1 => exact cr_ qa); (case side2 => rw [show qs.length = qe.length from (Kd.R_reads' qa.out).1.symm]; exact (Kd.R_reads' qa.out).2.1); rintro e QY ⟨rfl, hb⟩; refine ⟨_, rfl, ?_⟩; replace qc := rB_ qc hb; replace qa := rB_ qa hb; replace qd := kB_ qd hb; replace qb := kB_ qb hb; replace HB := bS_ HB hb; (try clear hb); (try clear hb2); (try clear hk); (try clear hi)) | ((with_reducible refine gate_callee (f := 41) rfl ?_); refine goesL_ (some 51) rfl rfl Tryd.func41 (by kernel_rfl) rfl #[.string a0, .int .i64 a1] rfl (by (try simp only [List.map_toArray, List.map_cons, List.map_nil]); first | done | rfl | (simp only [List.length_drop, List.length_take]; rfl)) ?_; (with_reducible refine (impl_ParseAtom.calls (hL := laid_ HL_ HB) kj5 a0 a1 qu qG qL zz _ A36.out).mono ?_); rintro e QZ ⟨QT, rfl, ho0, hb⟩; refine ⟨_, rfl, ?_⟩; have qJ := Aside0.mk (Kd.R_lower (Kd.R_new' (Kd.R_new' ho0 (Kd.R_lt (rm_ qc))) (Kd.R_lt (rm_ qa))) (bz_ HB)); replace qc := Aside0.mk (Kd.R_elder' (rm_ qc) (Kd.R_base ho0) hb); replace qa := Aside0.mk (Kd.R_elder' (rm_ qa) (Kd.R_base ho0) hb); replace qd := kB_ qd hb; replace qb := kB_ qb hb; replace HB := bS_ HB hb; (try clear hb); (try clear hb2); (try clear hk); (try clear hi); (try clear ho0)) | ((with_reducible refine gate_dst (N := 11) rfl ?_); refine box_event ?hg (N := 11) ?hd (cs := #[.slice none 0 0, .int .i64 0, .bool false]) (t := 27) ?hr ?_; (case hd => rfl); (case hg => rfl); (case hr => first | (go_simp; done) | (go_simp; rfl)); intro qy hg qU hbox hb; replace qc := rB_ qc hb; replace qa := rB_ qa hb; replace qJ := rB_ qJ hb; have qi := Aside0.mk (hbox); have Ql := Aside0.mk ((by rw [hg]; exact (bz_ HB) : w.heap.size ≤ qy)); have Qm := Aside0.mk ((by rw [hg]; exact (bz_ HB) : w.heap.size ≤ qy)); replace HB := bS_ HB hb; have qO := Aside0.mk ((nl_ qd hg : qn ≠ qy)); have qP := Aside0.mk ((ng_ qd hg : qy ≠ qn)); replace qd := kB_ qd hb; have qC := Aside0.mk ((nl_ qb hg : qg ≠ qy)); have qD := Aside0.mk ((ng_ qb hg : qy ≠ qg)); replace qb := kB_ qb hb; clear hb hbox hg; obtain ⟨qB, qA, eo45⟩ := Kd.R_slice qJ.out; subst eo45; have Qn := qP.out; have Qo := qO.out; have Qp := qD.out; have Qq := qC.out; have zY : qU.cell? ⟨qy, 0, none⟩ = some (.slice none 0 0) := bc_ qi 0; have zZ : qU.cell? ⟨qy, 1, none⟩ = some (.int .i64 0) := bc_ qi 1; have z0 : qU.cell? ⟨qy, 2, none⟩ = some (.bool false) := bc_ qi 2; have z1 := blk_frozen qi.out 0; have z2 := blk_frozen qi.out 1; have z3 := blk_frozen qi.out 2))
       (try simp only [Act.put, List.setIfInBounds_toArray, List.set_cons_zero, List.set_cons_succ])
       go_cut [62] (fun v62 wc => ∃ (kq : Nat) (qS : Bool), v62 = .bool qS ∧ Aside0 (laws_FnExactParseAtom.j1 kq qw qS qs qf qh = some r) ∧ Aside0 (kq ≤ kj5) ∧ Aside0 (Kd.R (Kd.int .i64) 3 wc w.heap.size (fun k_ => some k_ ≠ ((.slice qk qe.length qj) : Value).ownBlock ∧ some k_ ≠ ((.slice qB qu.length qA) : Value).ownBlock) (.slice qN ql.length qM) ql) ∧ Aside0 (Kd.R (Kd.int .i64) 3 wc w.heap.size (fun k_ => some k_ ≠ ((.slice qN ql.length qM) : Value).ownBlock ∧ some k_ ≠ ((.slice qB qu.length qA) : Value).ownBlock) (.slice qk qe.length qj) qs) ∧ Aside0 (Kd.R (Kd.int .i64) 3 wc w.heap.size (fun k_ => some k_ ≠ ((.slice qN ql.length qM) : Value).ownBlock ∧ some k_ ≠ ((.slice qk qe.length qj) : Value).ownBlock) (.slice qB qu.length qA) qu) ∧ Aside0 (wc.heap[qn]? = some (.cells #[(.slice qN ql.length qM), .int .i64 qr, .bool qt] 27 (0, 0))) ∧ Aside0 (wc.heap[qg]? = some (.cells #[(.slice qk qe.length qj), .int .i64 qf, .bool qh] 27 (0, 0))) ∧ Aside0 (wc.heap[qy]? = some (.cells #[(.slice qB qu.length qA), .int .i64 qG, .bool qL] 27 (0, 0))) ∧ Aside0 (Below w.heap.size w wc))
       case first =>
        have H := HC37.out
        clear HC37
        replace H := Option.bind_eq_some_iff.mp H
        obtain ⟨qQ, A490, H⟩ := H
        replace H : (if qQ = true then (laws_FnExactParseAtom.j1 kj5 qw (zz != qF) qs qf qh) else (laws_FnExactParseAtom.j1 kj5 qw true qs qf qh)) = some r := H
        have A49 := Aside0.mk A490
        clear A490
        by_cases c50 : qQ = true
        ·
         subst c50
         have H1 : (laws_FnExactParseAtom.j1 kj5 qw (zz != qF) qs qf qh) = some r := by rw [if_pos rfl] at H; exact H
         clear H
         have H := H1
         clear H1
         have H' := Aside0.mk H
         clear H
         have Qr := qP.out
         have Qs := qO.out
         have Qt := qD.out
         have Qu := qC.out
         have z4 : qU.cell? ⟨qy, 0, none⟩ = some (.slice none 0 0) := bc_ qi 0
         have z5 : qU.cell? ⟨qy, 1, none⟩ = some (.int .i64 0) := bc_ qi 1
         have z6 : qU.cell? ⟨qy, 2, none⟩ = some (.bool false) := bc_ qi 2
         have z7 := blk_frozen qi.out 0
         have z8 := blk_frozen qi.out 1
         have z9 := blk_frozen qi.out 2
         have Qv := qo.out
         have Qw := qp.out
         have ja : qU.cell? ⟨qn, 0, none⟩ = some (.slice qN ql.length qM) := bc_ qd 0
         have jb : qU.cell? ⟨qn, 1, none⟩ = some (.int .i64 qr) := bc_ qd 1
         have jc : qU.cell? ⟨qn, 2, none⟩ = some (.bool qt) := bc_ qd 2
         have jd := blk_frozen qd.out 0
         have je := blk_frozen qd.out 1
         have jf := blk_frozen qd.out 2
         go_wp2_with (first | ((with_reducible refine gate_callee (f := 15) rfl ?_); refine goesL_ (some 56) rfl rfl Tryd.func15 (by kernel_rfl) rfl #[.agg #[.slice qB qu.length qA, .int .i64 qG, .bool qL], .agg #[.slice qN ql.length qM, .int .i64 qr, .bool qt]] rfl (by (try simp only [List.map_toArray, List.map_cons, List.map_nil]); first | done | rfl | (simp only [List.length_drop, List.length_take]; rfl)) ?_; (with_reducible refine (laws_eqAtom.calls kj5 _ _ qu qG qL _ _ ql qr qt true _ ?side1 ?side2 ?side3 ?side4 A49.out).mono ?_); (case side1 => refine (Kd.R_reads' (e := 3) (base := w.heap.size) (ok := fun k_ => ((True ∧ some k_ ≠ (.slice qN ql.length qM : Value).ownBlock) ∧ some k_ ≠ (.slice qk qe.length qj : Value).ownBlock)) (n := qu.length) (c := qA) ?_).2.2; exact (by (with_reducible repeat (first | apply Kd.R_alloc | apply Kd.R_drewN | apply Kd.R_drew)); exact (rt3_ qJ qi (by decide) 0 1 2 (.slice qB qu.length qA) (.int .i64 qG) (.bool qL)))); (case side2 => exact (Kd.R_reads' qJ.out).2.1); (case side3 => refine (Kd.R_reads' (e := 3) (base := w.heap.size) (ok := fun k_ => (some k_ ≠ (.slice qk qe.length qj : Value).ownBlock ∧ some k_ ≠ (.slice qB qu.length qA : Value).ownBlock)) (n := ql.length) (c := qM) ?_).2.2; exact (by (with_reducible repeat (first | apply Kd.R_alloc | apply Kd.R_drewN | apply Kd.R_drew)); exact (rt3_ qc qi (by decide) 0 1 2 (.slice qB qu.length qA) (.int .i64 qG) (.bool qL)))); (case side4 => exact (Kd.R_reads' qc.out).2.1); rintro e Q0 ⟨rfl, hb⟩; refine ⟨_, rfl, ?_⟩; replace qc := Aside0.mk (Kd.R_below (by (with_reducible repeat (first | apply Kd.R_alloc | apply Kd.R_drewN | apply Kd.R_drew)); exact (rt3_ qc qi (by decide) 0 1 2 (.slice qB qu.length qA) (.int .i64 qG) (.bool qL))) hb); replace qa := Aside0.mk (Kd.R_below (by (with_reducible repeat (first | apply Kd.R_alloc | apply Kd.R_drewN | apply Kd.R_drew)); exact (rt3_ qa qi (by decide) 0 1 2 (.slice qB qu.length qA) (.int .i64 qG) (.bool qL))) hb); replace qJ := Aside0.mk (Kd.R_below (by (with_reducible repeat (first | apply Kd.R_alloc | apply Kd.R_drewN | apply Kd.R_drew)); exact (rt3_ qJ qi (by decide) 0 1 2 (.slice qB qu.length qA) (.int .i64 qG) (.bool qL))) hb); replace qd := Aside0.mk (blk_below (g := qn) (o := .cells #[.slice qN ql.length qM, .int .i64 qr, .bool qt] 27 (0, 0)) (kf_ qd) hb); replace qb := Aside0.mk (blk_below (g := qg) (o := .cells #[.slice qk qe.length qj, .int .i64 qf, .bool qh] 27 (0, 0)) (kf_ qb) hb); replace qi := Aside0.mk (blk_below (g := qy) (o := .cells #[.slice qB qu.length qA, .int .i64 qG, .bool qL] 27 (0, 0)) (by (with_reducible repeat (first | refine blk_drewN ?_ _ | refine blk_drew ?_ | refine blk_alloc ?_ _)); refine blk_put (cs := #[.slice qB qu.length qA, .int .i64 qG, .bool false]) ?_ 2 _ rfl; (with_reducible repeat (first | refine blk_drewN ?_ _ | refine blk_drew ?_ | refine blk_alloc ?_ _)); refine blk_put (cs := #[.slice qB qu.length qA, .int .i64 0, .bool false]) ?_ 1 _ rfl; (with_reducible repeat (first | refine blk_drewN ?_ _ | refine blk_drew ?_ | refine blk_alloc ?_ _)); refine blk_put (cs := #[.slice none 0 0, .int .i64 0, .bool false]) ?_ 0 _ rfl; (with_reducible repeat (first | refine blk_drewN ?_ _ | refine blk_drew ?_ | refine blk_alloc ?_ _)); exact qi.out) hb); replace HB := bS_ HB hb; (try clear hb); (try clear hb2); (try clear hk); (try clear hi)))
         go_meet
         case rel => exact ⟨_, ((zz != qF)), (by first | rfl | (simp; done) | (simp [*]; done)), H', ⟨by have := HJ5.out; first | omega | exact Nat.le_refl _⟩, ⟨by (with_reducible repeat (first | apply Kd.R_alloc | apply Kd.R_drewN | apply Kd.R_drew)); exact qc.out⟩, ⟨by (with_reducible repeat (first | apply Kd.R_alloc | apply Kd.R_drewN | apply Kd.R_drew)); exact qa.out⟩, ⟨by (with_reducible repeat (first | apply Kd.R_alloc | apply Kd.R_drewN | apply Kd.R_drew)); exact Kd.R_mono qJ.out (fun _ hk => ⟨hk.1.2, hk.2⟩)⟩, ⟨kf_ qd⟩, ⟨kf_ qb⟩, ⟨kf_ qi⟩, ⟨bb_ HB⟩⟩
        ·
         replace c50 := Bool.eq_false_iff.mpr c50
         subst c50
         have H1 : (laws_FnExactParseAtom.j1 kj5 qw true qs qf qh) = some r := by rw [if_neg (show ¬ (false = true) by decide)] at H; exact H
         clear H
         have H := H1
         clear H1
         have H' := Aside0.mk H
         clear H
         have Qx := qP.out
         have Qy := qO.out
         have Qz := qD.out
         have QA := qC.out
         have jg : qU.cell? ⟨qy, 0, none⟩ = some (.slice none 0 0) := bc_ qi 0
         have jh : qU.cell? ⟨qy, 1, none⟩ = some (.int .i64 0) := bc_ qi 1
         have ji : qU.cell? ⟨qy, 2, none⟩ = some (.bool false) := bc_ qi 2
         have jj := blk_frozen qi.out 0
         have jk := blk_frozen qi.out 1
         have jl := blk_frozen qi.out 2
         have QB := qo.out
         have QC := qp.out
         have jm : qU.cell? ⟨qn, 0, none⟩ = some (.slice qN ql.length qM) := bc_ qd 0
         have jn : qU.cell? ⟨qn, 1, none⟩ = some (.int .i64 qr) := bc_ qd 1
         have jo : qU.cell? ⟨qn, 2, none⟩ = some (.bool qt) := bc_ qd 2
         have jp := blk_frozen qd.out 0
         have jq := blk_frozen qd.out 1
         have jr := blk_frozen qd.out 2
         go_wp2_with (first | ((with_reducible refine gate_callee (f := 15) rfl ?_); refine goesL_ (some 56) rfl rfl Tryd.func15 (by kernel_rfl) rfl #[.agg #[.slice qB qu.length qA, .int .i64 qG, .bool qL], .agg #[.slice qN ql.length qM, .int .i64 qr, .bool qt]] rfl (by (try simp only [List.map_toArray, List.map_cons, List.map_nil]); first | done | rfl | (simp only [List.length_drop, List.length_take]; rfl)) ?_; (with_reducible refine (laws_eqAtom.calls kj5 _ _ qu qG qL _ _ ql qr qt false _ ?side1 ?side2 ?side3 ?side4 A49.out).mono ?_); (case side1 => refine (Kd.R_reads' (e := 3) (base := w.heap.size) (ok := fun k_ => ((True ∧ some k_ ≠ (.slice qN ql.length qM : Value).ownBlock) ∧ some k_ ≠ (.slice qk qe.length qj : Value).ownBlock)) (n := qu.length) (c := qA) ?_).2.2; exact (by (with_reducible repeat (first | apply Kd.R_alloc | apply Kd.R_drewN | apply Kd.R_drew)); exact (rt3_ qJ qi (by decide) 0 1 2 (.slice qB qu.length qA) (.int .i64 qG) (.bool qL)))); (case side2 => exact (Kd.R_reads' qJ.out).2.1); (case side3 => refine (Kd.R_reads' (e := 3) (base := w.heap.size) (ok := fun k_ => (some k_ ≠ (.slice qk qe.length qj : Value).ownBlock ∧ some k_ ≠ (.slice qB qu.length qA : Value).ownBlock)) (n := ql.length) (c := qM) ?_).2.2; exact (by (with_reducible repeat (first | apply Kd.R_alloc | apply Kd.R_drewN | apply Kd.R_drew)); exact (rt3_ qc qi (by decide) 0 1 2 (.slice qB qu.length qA) (.int .i64 qG) (.bool qL)))); (case side4 => exact (Kd.R_reads' qc.out).2.1); rintro e Q1 ⟨rfl, hb⟩; refine ⟨_, rfl, ?_⟩; replace qc := Aside0.mk (Kd.R_below (by (with_reducible repeat (first | apply Kd.R_alloc | apply Kd.R_drewN | apply Kd.R_drew)); exact (rt3_ qc qi (by decide) 0 1 2 (.slice qB qu.length qA) (.int .i64 qG) (.bool qL))) hb); replace qa := Aside0.mk (Kd.R_below (by (with_reducible repeat (first | apply Kd.R_alloc | apply Kd.R_drewN | apply Kd.R_drew)); exact (rt3_ qa qi (by decide) 0 1 2 (.slice qB qu.length qA) (.int .i64 qG) (.bool qL))) hb); replace qJ := Aside0.mk (Kd.R_below (by (with_reducible repeat (first | apply Kd.R_alloc | apply Kd.R_drewN | apply Kd.R_drew)); exact (rt3_ qJ qi (by decide) 0 1 2 (.slice qB qu.length qA) (.int .i64 qG) (.bool qL))) hb); replace qd := Aside0.mk (blk_below (g := qn) (o := .cells #[.slice qN ql.length qM, .int .i64 qr, .bool qt] 27 (0, 0)) (kf_ qd) hb); replace qb := Aside0.mk (blk_below (g := qg) (o := .cells #[.slice qk qe.length qj, .int .i64 qf, .bool qh] 27 (0, 0)) (kf_ qb) hb); replace qi := Aside0.mk (blk_below (g := qy) (o := .cells #[.slice qB qu.length qA, .int .i64 qG, .bool qL] 27 (0, 0)) (by (with_reducible repeat (first | refine blk_drewN ?_ _ | refine blk_drew ?_ | refine blk_alloc ?_ _)); refine blk_put (cs := #[.slice qB qu.length qA, .int .i64 qG, .bool false]) ?_ 2 _ rfl; (with_reducible repeat (first | refine blk_drewN ?_ _ | refine blk_drew ?_ | refine blk_alloc ?_ _)); refine blk_put (cs := #[.slice qB qu.length qA, .int .i64 0, .bool false]) ?_ 1 _ rfl; (with_reducible repeat (first | refine blk_drewN ?_ _ | refine blk_drew ?_ | refine blk_alloc ?_ _)); refine blk_put (cs := #[.slice none 0 0, .int .i64 0, .bool false]) ?_ 0 _ rfl; (with_reducible repeat (first | refine blk_drewN ?_ _ | refine blk_drew ?_ | refine blk_alloc ?_ _)); exact qi.out) hb); replace HB := bS_ HB hb; (try clear hb); (try clear hb2); (try clear hk); (try clear hi)))
         go_meet
         case rel => exact ⟨_, (true), (by first | rfl | (simp; done) | (simp [*]; done)), H', ⟨by have := HJ5.out; first | omega | exact Nat.le_refl _⟩, ⟨by (with_reducible repeat (first | apply Kd.R_alloc | apply Kd.R_drewN | apply Kd.R_drew)); exact qc.out⟩, ⟨by (with_reducible repeat (first | apply Kd.R_alloc | apply Kd.R_drewN | apply Kd.R_drew)); exact qa.out⟩, ⟨by (with_reducible repeat (first | apply Kd.R_alloc | apply Kd.R_drewN | apply Kd.R_drew)); exact Kd.R_mono qJ.out (fun _ hk => ⟨hk.1.2, hk.2⟩)⟩, ⟨kf_ qd⟩, ⟨kf_ qb⟩, ⟨kf_ qi⟩, ⟨bb_ HB⟩⟩
       case rest =>
        clear HC37
        try clear c1
        try clear c2
        try clear p2
        try clear c3
        try clear jv
        try clear jw
        try clear c4
        try clear c5
        try clear c6
        try clear c9
        try clear c14
        try clear c15
        try clear c17
        try clear c18
        try clear c22
        try clear c26
        try clear c29
        try clear js
        try clear c30
        try clear c35
        try clear jt
        try clear ju
        try clear c38
        try clear c40
        try clear c41
        try clear c42
        try clear c43
        try clear c46
        try clear c47
        try clear c50
        try clear c51
        try clear c52
        try clear c54
        try clear c57
        try clear c58
        try clear c60
        try clear qV
        try clear qW
        try clear qX
        try clear q1
        try clear q2
        try clear q3
        try clear q8
        try clear q9
        try clear za
        try clear ze
        try clear zf
        try clear zg
        try clear zk
        try clear zl
        try clear zm
        try clear zq
        try clear zr
        try clear zs
        try clear zA
        try clear zB
        try clear zC
        try clear zG
        try clear zH
        try clear zI
        try clear zM
        try clear zN
        try clear zO
        try clear zS
        try clear zT
        try clear zU
        try clear zY
        try clear zZ
        try clear z0
        try clear z4
        try clear z5
        try clear z6
        try clear ja
        try clear jb
        try clear jc
        try clear jg
        try clear jh
        try clear ji
        try clear jm
        try clear jn
        try clear jo
        try clear qY
        try clear qZ
        try clear q0
        try clear q4
        try clear q5
        try clear q6
        try clear zb
        try clear zc
        try clear zd
        try clear zh
        try clear zi
        try clear zj
        try clear zn
        try clear zo
        try clear zp
        try clear zt
        try clear zu
        try clear zv
        try clear zD
        try clear zE
        try clear zF
        try clear zJ
        try clear zK
        try clear zL
        try clear zP
        try clear zQ
        try clear zR
        try clear zV
        try clear zW
        try clear zX
        try clear z1
        try clear z2
        try clear z3
        try clear z7
        try clear z8
        try clear z9
        try clear jd
        try clear je
        try clear jf
        try clear jj
        try clear jk
        try clear jl
        try clear jp
        try clear jq
        try clear jr
        try clear p2
        obtain ⟨kq, qS, rfl, HA, HJ36, qc, qa, qz, qd, qb, qi, HB⟩ := hcut
        have hl225000_36 := (Kd.R_reads' qa.out).1
        rw [hl225000_36] at qa
        (try simp only [hl225000_36])
        (try simp only [hl225000_36] at qd)
        (try simp only [hl225000_36] at qb)
        (try simp only [hl225000_36] at qi)
        (try simp only [hl225000_36] at qc)
        (try simp only [hl225000_36] at qz)
        cases kq with
        | zero => exact absurd HA.out (by simp [laws_FnExactParseAtom.j1])
        | succ kj36 =>
         have H := HA.out
         clear HA
         simp only [laws_FnExactParseAtom.j1] at H
         by_cases c63 : qS = true
         ·
          subst c63
          have H1 : (some false) = some r := by rw [if_pos rfl] at H; exact H
          clear H
          have H := H1
          clear H1
          obtain rfl := Option.some.inj H
          go_wp2
          go_ret
          exact ⟨by first | rfl | (simp [errW_none, errW_some] <;> rfl) | (simp [*, errW_none, errW_some] <;> rfl), bb_ HB⟩
         ·
          replace c63 := Bool.eq_false_iff.mpr c63
          subst c63
          have H1 : ((laws_heldAtom.f kj36 qs qf qh 1).bind fun qK => (if qK < 0 then (some false) else (if qK = qw then (some true) else (some false)))) = some r := by rw [if_neg (show ¬ (false = true) by decide)] at H; exact H
          clear H
          have H := H1
          clear H1
          replace H := Option.bind_eq_some_iff.mp H
          obtain ⟨qK, A640, H⟩ := H
          replace H : (if qK < 0 then (some false) else (if qK = qw then (some true) else (some false))) = some r := H
          have A64 := Aside0.mk A640
          clear A640
          by_cases c65 : qK < 0
          ·
           rw [if_pos c65] at H
           have jx : decide (qK < 0) = true := decide_eq_true c65
           clear c65
           obtain rfl := Option.some.inj H
           have QD := qp.out
           have QE := qo.out
           have QF := qC.out
           have QG := qD.out
           have jA : wc.cell? ⟨qg, 0, none⟩ = some (.slice qk qs.length qj) := bc_ qb 0
           have jB : wc.cell? ⟨qg, 1, none⟩ = some (.int .i64 qf) := bc_ qb 1
           have jC : wc.cell? ⟨qg, 2, none⟩ = some (.bool qh) := bc_ qb 2
           have jD := blk_frozen qb.out 0
           have jE := blk_frozen qb.out 1
           have jF := blk_frozen qb.out 2
           go_wp2_with (first | ((with_reducible refine gate_callee (f := 43) rfl ?_); refine goesL_ (some 65) rfl rfl Tryd.func43 (by kernel_rfl) rfl #[.agg #[.slice qk qs.length qj, .int .i64 qf, .bool qh], .int .i64 1] rfl (by (try simp only [List.map_toArray, List.map_cons, List.map_nil]); first | done | rfl | (simp only [List.length_drop, List.length_take]; rfl)) ?_; (with_reducible refine (laws_heldAtom.calls kj36 _ _ qs qf qh 1 qK _ ?side1 ?side2 A64.out).mono ?_); (case side1 => exact cr_ qa); (case side2 => exact (Kd.R_reads' qa.out).2.1); rintro e Q2 ⟨rfl, hb⟩; refine ⟨_, rfl, ?_⟩; replace qc := rB_ qc hb; replace qa := rB_ qa hb; replace qz := rB_ qz hb; replace qd := kB_ qd hb; replace qb := kB_ qb hb; replace qi := kB_ qi hb; replace HB := bS_ HB hb; (try clear hb); (try clear hb2); (try clear hk); (try clear hi)))
           go_ret
           exact ⟨by first | rfl | (simp [errW_none, errW_some] <;> rfl) | (simp [*, errW_none, errW_some] <;> rfl), bb_ HB⟩
          ·
           rw [if_neg c65] at H
           have jx : decide (qK < 0) = false := decide_eq_false c65
           clear c65
           by_cases c70 : qK = qw
           ·
            rw [if_pos c70] at H
            have jy : (qK == qw) = true := beq_iff_eq.mpr c70
            have jz : (qK != qw) = false := bne_eq_false_iff_eq.mpr c70
            clear c70
            obtain rfl := Option.some.inj H
            have QH := qp.out
            have QI := qo.out
            have QJ := qC.out
            have QK := qD.out
            have jG : wc.cell? ⟨qg, 0, none⟩ = some (.slice qk qs.length qj) := bc_ qb 0
            have jH : wc.cell? ⟨qg, 1, none⟩ = some (.int .i64 qf) := bc_ qb 1
            have jI : wc.cell? ⟨qg, 2, none⟩ = some (.bool qh) := bc_ qb 2
            have jJ := blk_frozen qb.out 0
            have jK := blk_frozen qb.out 1
            have jL := blk_frozen qb.out 2
            go_wp2_with (first | ((with_reducible refine gate_callee (f := 43) rfl ?_); refine goesL_ (some 65) rfl rfl Tryd.func43 (by kernel_rfl) rfl #[.agg #[.slice qk qs.length qj, .int .i64 qf, .bool qh], .int .i64 1] rfl (by (try simp only [List.map_toArray, List.map_cons, List.map_nil]); first | done | rfl | (simp only [List.length_drop, List.length_take]; rfl)) ?_; (with_reducible refine (laws_heldAtom.calls kj36 _ _ qs qf qh 1 qK _ ?side1 ?side2 A64.out).mono ?_); (case side1 => exact cr_ qa); (case side2 => exact (Kd.R_reads' qa.out).2.1); rintro e Q3 ⟨rfl, hb⟩; refine ⟨_, rfl, ?_⟩; replace qc := rB_ qc hb; replace qa := rB_ qa hb; replace qz := rB_ qz hb; replace qd := kB_ qd hb; replace qb := kB_ qb hb; replace qi := kB_ qi hb; replace HB := bS_ HB hb; (try clear hb); (try clear hb2); (try clear hk); (try clear hi)))
            go_ret
            exact ⟨by first | rfl | (simp [errW_none, errW_some] <;> rfl) | (simp [*, errW_none, errW_some] <;> rfl), bb_ HB⟩
           ·
            rw [if_neg c70] at H
            have jy : (qK == qw) = false := beq_eq_false_iff_ne.mpr c70
            have jz : (qK != qw) = true := bne_iff_ne.mpr c70
            obtain rfl := Option.some.inj H
            have QL := qp.out
            have QM := qo.out
            have QN := qC.out
            have QO := qD.out
            have jM : wc.cell? ⟨qg, 0, none⟩ = some (.slice qk qs.length qj) := bc_ qb 0
            have jN : wc.cell? ⟨qg, 1, none⟩ = some (.int .i64 qf) := bc_ qb 1
            have jO : wc.cell? ⟨qg, 2, none⟩ = some (.bool qh) := bc_ qb 2
            have jP := blk_frozen qb.out 0
            have jQ := blk_frozen qb.out 1
            have jR := blk_frozen qb.out 2
            go_wp2_with (first | ((with_reducible refine gate_callee (f := 43) rfl ?_); refine goesL_ (some 65) rfl rfl Tryd.func43 (by kernel_rfl) rfl #[.agg #[.slice qk qs.length qj, .int .i64 qf, .bool qh], .int .i64 1] rfl (by (try simp only [List.map_toArray, List.map_cons, List.map_nil]); first | done | rfl | (simp only [List.length_drop, List.length_take]; rfl)) ?_; (with_reducible refine (laws_heldAtom.calls kj36 _ _ qs qf qh 1 qK _ ?side1 ?side2 A64.out).mono ?_); (case side1 => exact cr_ qa); (case side2 => exact (Kd.R_reads' qa.out).2.1); rintro e Q4 ⟨rfl, hb⟩; refine ⟨_, rfl, ?_⟩; replace qc := rB_ qc hb; replace qa := rB_ qa hb; replace qz := rB_ qz hb; replace qd := kB_ qd hb; replace qb := kB_ qb hb; replace qi := kB_ qi hb; replace HB := bS_ HB hb; (try clear hb); (try clear hb2); (try clear hk); (try clear hi)))
            go_ret
            exact ⟨by first | rfl | (simp [errW_none, errW_some] <;> rfl) | (simp [*, errW_none, errW_some] <;> rfl), bb_ HB⟩
      ·
       rw [if_neg c35] at H
       have jt : (qE == qw) = false := beq_eq_false_iff_ne.mpr c35
       have ju : (qE != qw) = true := bne_iff_ne.mpr c35
       obtain rfl := Option.some.inj H
       have QP := qp.out
       have QQ := qo.out
       have jS : wc.cell? ⟨qg, 0, none⟩ = some (.slice qk qe.length qj) := bc_ qb 0
       have jT : wc.cell? ⟨qg, 1, none⟩ = some (.int .i64 qf) := bc_ qb 1
       have jU : wc.cell? ⟨qg, 2, none⟩ = some (.bool qh) := bc_ qb 2
       have jV := blk_frozen qb.out 0
       have jW := blk_frozen qb.out 1
       have jX := blk_frozen qb.out 2
       go_wp2_with (first | ((with_reducible refine gate_callee (f := 42) rfl ?_); refine goesL_ (some 39) rfl rfl Tryd.func42 (by kernel_rfl) rfl #[.agg #[.slice qk qe.length qj, .int .i64 qf, .bool qh], .int .i64 1] rfl (by (try simp only [List.map_toArray, List.map_cons, List.map_nil]); first | done | rfl | (simp only [List.length_drop, List.length_take]; rfl)) ?_; (with_reducible refine (laws_markAtom.calls kj5 (fun k_ => some k_ = (.slice qk qe.length qj : Value).ownBlock) (.slice qk qe.length qj) qe qf qh 1 qw qs w _ ?side1 ?side2 A27.out).mono ?_); (case side1 => repeat (first | (with_reducible first | exact HB.out | apply below_alloc | apply pw_below_drewN | apply below_drew1 | refine below_set ?_ zx.out | refine below_set ?_ zy.out) | exact HB.out)); (case side2 => exact Kd.R_tight rfl qa.out); rintro e j8 ⟨rfl, hy0, hb, hkp⟩; refine ⟨_, rfl, ?_⟩; replace qc := Aside0.mk (Kd.R_mono (ok' := fun k_ => some k_ ≠ (.slice qk qe.length qj : Value).ownBlock) (Kd.R_keptB (qc.out) hkp (fun k_ hk_ hs_ => (hk_) hs_)) (fun k_ hk_ => hk_.1)); replace qd := Aside0.mk (blk_kept (kf_ qd) hkp (fun hs_ => (fun e_ => (Kd.R_ne qa.out qd.out (by decide)) e_) hs_)); replace qb := Aside0.mk (blk_kept (kf_ qb) hkp (fun hs_ => (fun e_ => (Kd.R_ne qa.out qb.out (by decide)) e_) hs_)); replace qa := Aside0.mk (Kd.R_reok rfl hy0 (fun k_ e_ => qa.out.1 k_ e_)); replace HB := Aside0.mk (hb); (try clear hb); (try clear hkp); (try clear hy0); have jY : j8.cell? ⟨qg, 0, none⟩ = some (.slice qk qe.length qj) := bc_ qb 0; have jZ : j8.cell? ⟨qg, 1, none⟩ = some (.int .i64 qf) := bc_ qb 1; have j2 : j8.cell? ⟨qg, 2, none⟩ = some (.bool qh) := bc_ qb 2; have j3 := blk_frozen qb.out 0; have j4 := blk_frozen qb.out 1; have j5 := blk_frozen qb.out 2) | ((with_reducible refine gate_callee (f := 43) rfl ?_); refine goesL_ (some 42) rfl rfl Tryd.func43 (by kernel_rfl) rfl #[.agg #[.slice qk qs.length qj, .int .i64 qf, .bool qh], .int .i64 1] rfl (by (try simp only [List.map_toArray, List.map_cons, List.map_nil]); first | done | (rw [show qs.length = qe.length from (Kd.R_reads' qa.out).1.symm] <;> rfl) | rfl | (simp only [List.length_drop, List.length_take]; rfl)) ?_; (with_reducible refine (laws_heldAtom.calls kj5 _ _ qs qf qh 1 qE _ ?side1 ?side2 A28.out).mono ?_); (case side1 => exact cr_ qa); (case side2 => rw [show qs.length = qe.length from (Kd.R_reads' qa.out).1.symm]; exact (Kd.R_reads' qa.out).2.1); rintro e Q5 ⟨rfl, hb⟩; refine ⟨_, rfl, ?_⟩; replace qc := rB_ qc hb; replace qa := rB_ qa hb; replace qd := kB_ qd hb; replace qb := kB_ qb hb; replace HB := bS_ HB hb; (try clear hb); (try clear hb2); (try clear hk); (try clear hi)))
       go_ret
       exact ⟨by first | rfl | (simp [errW_none, errW_some] <;> rfl) | (simp [*, errW_none, errW_some] <;> rfl), bb_ HB⟩

end Go.Proofs.YtohoibekddhneaaDoor.PFnExactParseAtom
