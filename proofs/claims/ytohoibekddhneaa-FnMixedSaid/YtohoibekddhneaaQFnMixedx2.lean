/- The functions that the law FnMixed reaches, each as a Lean function with the same answers, and the proof that the call comes to exactly these: turned by program out of the printed texts. No condition but those that each theorem names. -/
import Derived.Test.YtohoibekddhneaaQFnMixedx0
import Derived.Test.YtohoibekddhneaaQFnMixedx1
namespace Go.Proofs.Ytohoibekddhneaa.PFnMixed
open Go.RowKit Go.Proofs.YtohoibekddhneaaW.PrintWords Go.Proofs.YtohoibekddhneaaW.PrintLast Go.Proofs.YtohoibekddhneaaW.PrintMore
attribute [local go_sem] max2_int min2_int max_two min_two max_three min_three max_four min_four   -- for this text's walks alone
set_option linter.unusedVariables false
set_option linter.unusedSimpArgs false

/-! ### impl_makeOf: function 39 -/
mutual
def impl_makeOf.j0 : Nat → List Int → Int → Bool → Int → Option (List Int × Int × Bool × Bool)
 | 0, _, _, _, _ => none
 | k + 1, x0, x1, x2, x8 => if 0 ≤ (x0.length : Int) then (if ((x0.length : Int) : Int).toNat ≤ 35184372088832 then (if x8 = 0 then (none) else (impl_makeOf.l0 k x8 x0 (x0.length : Int) 0 (List.replicate ((x0.length : Int) : Int).toNat 0) (wrap64 (Int.tdiv x1 x8)) x2)) else (none)) else (none)
def impl_makeOf.l0 : Nat → Int → List Int → Int → Int → List Int → Int → Bool → Option (List Int × Int × Bool × Bool)
 | 0, _, _, _, _, _, _, _ => none
 | k + 1, x8, x26, x27, x28, x257000, x257001, x257002 => if x28 < x27 then (if 0 ≤ x28 then (if x28 < (x26.length : Int) then (if x8 = 0 then (none) else (if x28 < (x257000.length : Int) then (impl_makeOf.l0 k x8 x26 x27 (wrap64 (x28 + 1)) (x257000.set (x28 : Int).toNat (wrap64 (Int.tdiv (rd x26 x28) x8))) x257001 x257002) else (none))) else (none)) else (none)) else ((impl_IsAtom.f k x257000 x257001 x257002).bind fun qt => (if qt = true then (some (x257000, x257001, x257002, true)) else (some (([] : List Int), 0, false, false))))
end
def impl_makeOf.f (k : Nat) (l0 : List Int) (a1 : Int) (a2 : Bool) : Option (List Int × Int × Bool × Bool) := (impl_divisorOf.f k l0).bind fun qn => ((impl_commonDivisor.f k qn a1).bind fun qk => (if qk = 0 then (impl_makeOf.j0 k l0 a1 a2 1) else (impl_makeOf.j0 k l0 a1 a2 qk)))
theorem impl_makeOf.mono_l : ∀ k, (∀ y0 y1 y2 y3, LeO (impl_makeOf.j0 k y0 y1 y2 y3) (impl_makeOf.j0 (k + 1) y0 y1 y2 y3)) ∧ (∀ y0 y1 y2 y3 y4 y5 y6, LeO (impl_makeOf.l0 k y0 y1 y2 y3 y4 y5 y6) (impl_makeOf.l0 (k + 1) y0 y1 y2 y3 y4 y5 y6))
 | 0 => ⟨fun _ _ _ _ r h => by simp [impl_makeOf.j0] at h, fun _ _ _ _ _ _ _ r h => by simp [impl_makeOf.l0] at h⟩
 | k + 1 => by
  obtain ⟨ih0, ih1⟩ := impl_makeOf.mono_l k
  refine ⟨?_, ?_⟩
  ·
   intro y0 y1 y2 y3
   unfold impl_makeOf.j0
   repeat' first
   | (with_reducible exact ih0 _ _ _ _)
   | (with_reducible exact ih1 _ _ _ _ _ _ _)
   | (with_reducible exact impl_IsAtom.mono _ _ _ _)
   | (with_reducible exact impl_commonDivisor.mono _ _ _)
   | (with_reducible exact impl_divisorOf.mono _ _)
   | (with_reducible exact LeO.refl _)
   | (with_reducible exact LeO.none _)
   | (with_reducible refine LeO.ite ?_ ?_)
   | (with_reducible refine LeO.bind ?_ (fun _ => ?_))
   | exact ih0 _ _ _ _
   | exact ih1 _ _ _ _ _ _ _
   | exact impl_IsAtom.mono _ _ _ _
   | exact impl_commonDivisor.mono _ _ _
   | exact impl_divisorOf.mono _ _
   | exact LeO.none _
   | refine LeO.ite ?_ ?_
   | refine LeO.bind ?_ (fun _ => ?_)
  ·
   intro y0 y1 y2 y3 y4 y5 y6
   unfold impl_makeOf.l0
   repeat' first
   | (with_reducible exact ih0 _ _ _ _)
   | (with_reducible exact ih1 _ _ _ _ _ _ _)
   | (with_reducible exact impl_IsAtom.mono _ _ _ _)
   | (with_reducible exact impl_commonDivisor.mono _ _ _)
   | (with_reducible exact impl_divisorOf.mono _ _)
   | (with_reducible exact LeO.refl _)
   | (with_reducible exact LeO.none _)
   | (with_reducible refine LeO.ite ?_ ?_)
   | (with_reducible refine LeO.bind ?_ (fun _ => ?_))
   | exact ih0 _ _ _ _
   | exact ih1 _ _ _ _ _ _ _
   | exact impl_IsAtom.mono _ _ _ _
   | exact impl_commonDivisor.mono _ _ _
   | exact impl_divisorOf.mono _ _
   | exact LeO.none _
   | refine LeO.ite ?_ ?_
   | refine LeO.bind ?_ (fun _ => ?_)
theorem impl_makeOf.mono : ∀ a0 a1 a2 k, LeO (impl_makeOf.f k a0 a1 a2) (impl_makeOf.f (k + 1) a0 a1 a2) := by
 intro a0 a1 a2 k
 obtain ⟨ih0, ih1⟩ := impl_makeOf.mono_l k
 unfold impl_makeOf.f
 repeat' first
   | (with_reducible exact ih0 _ _ _ _)
   | (with_reducible exact ih1 _ _ _ _ _ _ _)
   | (with_reducible exact impl_IsAtom.mono _ _ _ _)
   | (with_reducible exact impl_commonDivisor.mono _ _ _)
   | (with_reducible exact impl_divisorOf.mono _ _)
   | (with_reducible exact LeO.refl _)
   | (with_reducible exact LeO.none _)
   | (with_reducible refine LeO.ite ?_ ?_)
   | (with_reducible refine LeO.bind ?_ (fun _ => ?_))
   | exact ih0 _ _ _ _
   | exact ih1 _ _ _ _ _ _ _
   | exact impl_IsAtom.mono _ _ _ _
   | exact impl_commonDivisor.mono _ _ _
   | exact impl_divisorOf.mono _ _
   | exact LeO.none _
   | refine LeO.ite ?_ ?_
   | refine LeO.bind ?_ (fun _ => ?_)
def impl_makeOf.T4 : Bool × List (List Nat × List Nat) := (true, [([], []), ([0], [0]), ([1, 1], [1]), ([], []), ([], []), ([3, 4], [3, 4]), ([], []), ([2, 5, 6], [2, 5, 6]), ([], []), ([8, 7, 0, 1, 2, 3, 4, 5, 6, 7, 8], [7, 8])])
def impl_makeOf.B4 : List Nat := [0, 1, 3, 0, 0, 24, 0, 127, 0, 511]
theorem impl_makeOf.tab4 : rtab .any (opsOf Try.f39 4) = impl_makeOf.T4 := by kernel_rfl
theorem impl_makeOf.bits4 : waitsOk impl_makeOf.T4.2 impl_makeOf.B4 = true := by kernel_rfl
def impl_makeOf.T8 : Bool × List (List Nat × List Nat) := (true, [([], []), ([0], [0]), ([], []), ([], []), ([], []), ([3, 4], [3, 4]), ([1, 2, 0, 1, 2, 3, 4, 5], [1, 2]), ([6, 5, 0, 1, 2, 3, 4, 5], [5, 6])])
def impl_makeOf.B8 : List Nat := [0, 1, 0, 0, 0, 24, 63, 127]
theorem impl_makeOf.tab8 : rtab .any (opsOf Try.f39 8) = impl_makeOf.T8 := by kernel_rfl
theorem impl_makeOf.bits8 : waitsOk impl_makeOf.T8.2 impl_makeOf.B8 = true := by kernel_rfl
set_option maxHeartbeats 8000000 in
set_option maxRecDepth 100000 in
theorem impl_makeOf.calls (k : Nat) (A0 : Option Addr) (c0 : Nat) (l0 : List Int) (a1 : Int) (a2 : Bool) (r1 : List Int) (r2 : Int) (r3 : Bool) (r4 : Bool) (w : World) (hr0 : Kd.C (Kd.int .i64) w A0 l0.length l0) (hc0 : l0.length ≤ c0) (h : impl_makeOf.f k l0 a1 a2 = some (r1, r2, r3, r4)) :
  Calls Try.prog 39 #[.slice A0 l0.length c0, .int .i64 a1, .bool a2] w fun e w' => ∃ v0_ : Value, e = .returned (.tuple #[.agg #[v0_, .int .i64 r2, .bool r3], .bool r4]) ∧ Kd.R (Kd.int .i64) 3 w' w.heap.size (fun _ => True) v0_ r1 ∧ Below w.heap.size w w' := by
 have hu26 := Try.underlying26
 have HR0 := Aside0.mk hr0
 have HC0 := Aside0.mk hc0
 clear hr0 hc0
 have HB := Aside0.mk (Below.refl w.heap.size w)
 have H : ((impl_divisorOf.f k l0).bind fun qn => ((impl_commonDivisor.f k qn a1).bind fun qk => (if qk = 0 then (impl_makeOf.j0 k l0 a1 a2 1) else (impl_makeOf.j0 k l0 a1 a2 qk)))) = some (r1, r2, r3, r4) := h
 clear h
 replace H := Option.bind_eq_some_iff.mp H
 obtain ⟨qn, A40, H⟩ := H
 replace H : ((impl_commonDivisor.f k qn a1).bind fun qk => (if qk = 0 then (impl_makeOf.j0 k l0 a1 a2 1) else (impl_makeOf.j0 k l0 a1 a2 qk))) = some (r1, r2, r3, r4) := H
 have A4 := Aside0.mk A40
 clear A40
 replace H := Option.bind_eq_some_iff.mp H
 obtain ⟨qk, A50, H⟩ := H
 replace H : (if qk = 0 then (impl_makeOf.j0 k l0 a1 a2 1) else (impl_makeOf.j0 k l0 a1 a2 qk)) = some (r1, r2, r3, r4) := H
 have A5 := Aside0.mk A50
 clear A50
 have HC6 := Aside0.mk H
 clear H
 go_enter Try.func39, Try.ntmps39
 go_upto_if 17 with (first | ((with_reducible refine gate_dst (N := 6) rfl ?_); refine box_event ?hg (N := 6) ?hd (cs := #[.slice none 0 0, .int .i64 0, .bool false]) (t := 26) ?hr ?_; (case hd => rfl); (case hg => rfl); (case hr => first | (go_simp; done) | (go_simp; rfl)); intro qf hg w7 hbox hb; have qa := Aside0.mk (hbox); have zn := Aside0.mk ((by rw [hg]; exact (bz_ HB) : w.heap.size ≤ qf)); have zo := Aside0.mk ((by rw [hg]; exact (bz_ HB) : w.heap.size ≤ qf)); replace HB := bS_ HB hb; clear hb hbox hg) | ((with_reducible refine gate_callee (f := 72) rfl ?_); refine goesL_ (some 13) rfl rfl Try.func72 (by kernel_rfl) rfl #[.slice A0 l0.length c0] rfl (by (try simp only [List.map_toArray, List.map_cons, List.map_nil]); first | done | rfl | (simp only [List.length_drop, List.length_take]; rfl)) ?_; (with_reducible refine (impl_divisorOf.calls k _ _ l0 qn _ ?side1 ?side2 A4.out).mono ?_); (case side1 => exact cb_ HR0 HB); (case side2 => exact HC0.out); rintro e w' ⟨rfl, ⟨nd, rfl⟩⟩; refine ⟨_, rfl, ?_⟩) | ((with_reducible refine gate_callee (f := 71) rfl ?_); refine goesL_ (some 15) rfl rfl Try.func71 (by kernel_rfl) rfl #[.int .i64 qn, .int .i64 a1] rfl (by (try simp only [List.map_toArray, List.map_cons, List.map_nil]); first | done | rfl | (simp only [List.length_drop, List.length_take]; rfl)) ?_; (with_reducible refine (impl_commonDivisor.calls k qn a1 qk _ A5.out).mono ?_); rintro e w' ⟨rfl, ⟨nd, rfl⟩⟩; refine ⟨_, rfl, ?_⟩))
 (try simp only [Act.put, List.setIfInBounds_toArray, List.set_cons_zero, List.set_cons_succ])
 go_cut [8] (fun v8 wc => ∃ (kq : Nat) (qh : Int), v8 = .int .i64 qh ∧ Aside0 (impl_makeOf.j0 kq l0 a1 a2 qh = some (r1, r2, r3, r4)) ∧ Aside0 (kq ≤ k) ∧ Aside0 (wc.heap[qf]? = some (.cells #[(.slice none 0 0), .int .i64 0, .bool false] 26 (0, 0))) ∧ Aside0 (Below w.heap.size w wc))
 case first =>
  have H := HC6.out
  clear HC6
  by_cases c8 : qk = 0
  ·
   rw [if_pos c8] at H
   have qo : (qk == 0) = true := beq_iff_eq.mpr c8
   have qw : (qk != 0) = false := bne_eq_false_iff_eq.mpr c8
   clear c8
   (first | rw [qo] | (simp only [i64_w, i32_w]; rw [qo]) | skip)
   have H' := Aside0.mk H
   clear H
   go_wp2
   go_meet
   case rel => exact ⟨_, (1), (by first | rfl | (simp; done) | (simp [*]; done)), H', ⟨by first | omega | exact Nat.le_refl _⟩, ⟨kf_ qa⟩, ⟨bb_ HB⟩⟩
  ·
   rw [if_neg c8] at H
   have qo : (qk == 0) = false := beq_eq_false_iff_ne.mpr c8
   have qw : (qk != 0) = true := bne_iff_ne.mpr c8
   (first | rw [qo] | (simp only [i64_w, i32_w]; rw [qo]) | skip)
   have H' := Aside0.mk H
   clear H
   go_wp2
   go_meet
   case rel => exact ⟨_, (qk), (by first | rfl | (simp; done) | (simp [*]; done)), H', ⟨by first | omega | exact Nat.le_refl _⟩, ⟨kf_ qa⟩, ⟨bb_ HB⟩⟩
 case rest =>
  clear HC6
  try clear p2
  try clear c3
  try clear c7
  try clear c8
  try clear qo
  try clear qw
  obtain ⟨kq, qh, rfl, HA, HJ5, qa, HB⟩ := hcut
  cases kq with
  | zero => exact absurd HA.out (by simp [impl_makeOf.j0])
  | succ kj5 =>
   have H := HA.out
   clear HA
   simp only [impl_makeOf.j0] at H
   by_cases c9 : 0 ≤ (l0.length : Int)
   ·
    rw [if_pos c9] at H
    have zd := eq_true c9
    have ze : decide (0 ≤ (l0.length : Int)) = true := decide_eq_true c9
    clear c9
    by_cases c10 : ((l0.length : Int) : Int).toNat ≤ 35184372088832
    ·
     rw [if_pos c10] at H
     have qC := eq_true c10
     have qD : decide (((l0.length : Int) : Int).toNat ≤ 35184372088832) = true := decide_eq_true c10
     clear c10
     obtain ⟨y253, hy253⟩ : ∃ y_ : List Int, y_ = (List.replicate ((l0.length : Int) : Int).toNat 0) := ⟨_, rfl⟩
     replace H : (if qh = 0 then (none) else (impl_makeOf.l0 kj5 qh l0 (l0.length : Int) 0 y253 (wrap64 (Int.tdiv a1 qh)) a2)) = some (r1, r2, r3, r4) := by first | (rw [hy253]; with_reducible exact H) | (have H2_ := (Option.bind_some _ _).symm.trans H; rw [hy253]; with_reducible exact H2_) | (have H2_ := (Option.bind_some _ _).symm.trans H; with_reducible exact H2_) | with_reducible exact H | (rw [hy253]; exact H) | exact H
     have Ny253 := Aside0.mk hy253
     clear hy253
     by_cases c11 : qh = 0
     ·
      rw [if_pos c11] at H
      exact absurd H (by simp)
     ·
      rw [if_neg c11] at H
      have qE : (qh == 0) = false := beq_eq_false_iff_ne.mpr c11
      have qF : (qh != 0) = true := bne_iff_ne.mpr c11
      have H' := Aside0.mk H
      clear H
      try go_wp2
      replace qa := Aside0.mk (blk_drew qa.out); replace HB := Aside0.mk (below_drew1 HB.out)
      refine start_ (n := 10) (S := fun w' => True) (ds := []) #[false, false, false, false, false, false, false, false, false, false] (by kernel_rfl) rfl rfl trivial (fun hHeld => ?_); refine with_tabW impl_makeOf.tab4 impl_makeOf.bits4 (fun HT_ HW_ => ?_)
      generalize wc.drew = zB at qa HB hHeld ⊢
      refine pure_ (i := 0) (N := some 18) (v := ?_) (a' := ?_) #[true, false, false, false, false, false, false, false, false, false] rfl rfl (any_of HT_.out (by kernel_rfl)) (fun _ _ _ h => h) (Or.inl ⟨by rfl, ?_⟩) ?_ ?_
      rotate_left
      ·
       intro w'
       go_simp
       with_reducible rfl
      rotate_left
      ·
       simp only [Act.put, List.setIfInBounds_toArray, List.set_cons_zero, List.set_cons_succ, i64_w, i32_w]
       rfl
      refine pure_ (i := 1) (N := some 19) (v := ?_) (a' := ?_) #[true, true, false, false, false, false, false, false, false, false] rfl rfl (any_of HT_.out (by kernel_rfl)) (fun _ _ _ h => h) (Or.inl ⟨by rfl, ?_⟩) ?_ ?_
      rotate_left
      ·
       intro w'
       go_simp
       with_reducible rfl
      rotate_left
      ·
       simp only [Act.put, List.setIfInBounds_toArray, List.set_cons_zero, List.set_cons_succ, i64_w, i32_w]
       rfl
      refine pure_ (i := 3) (N := some 21) (v := ?_) (a' := ?_) #[true, true, false, true, false, false, false, false, false, false] rfl rfl (any_of HT_.out (by kernel_rfl)) (fun _ _ _ h => h) (Or.inl ⟨by rfl, ?_⟩) ?_ ?_
      rotate_left
      ·
       intro w'
       go_simp
       with_reducible rfl
      rotate_left
      ·
       simp only [Act.put, List.setIfInBounds_toArray, List.set_cons_zero, List.set_cons_succ, i64_w, i32_w]
       rfl
      refine pure_ (i := 4) (N := some 22) (v := ?_) (a' := ?_) #[true, true, false, true, true, false, false, false, false, false] rfl rfl (any_of HT_.out (by kernel_rfl)) (fun _ _ _ h => h) (Or.inl ⟨by rfl, ?_⟩) ?_ ?_
      rotate_left
      ·
       intro w'
       go_simp
       with_reducible rfl
      rotate_left
      ·
       simp only [Act.put, List.setIfInBounds_toArray, List.set_cons_zero, List.set_cons_succ, i64_w, i32_w]
       rfl
      refine pure_ (i := 5) (N := some 23) (v := ?_) (a' := ?_) #[true, true, false, true, true, true, false, false, false, false] rfl rfl (any_of HT_.out (by kernel_rfl)) (fun _ _ _ h => h) (Or.inl ⟨by rfl, ?_⟩) ?_ ?_
      rotate_left
      ·
       intro w'
       go_simp
       with_reducible rfl
      rotate_left
      ·
       simp only [Act.put, List.setIfInBounds_toArray, List.set_cons_zero, List.set_cons_succ, i64_w, i32_w]
       rfl
      refine pure_ (i := 6) (N := some 24) (v := ?_) (a' := ?_) #[true, true, false, true, true, true, true, false, false, false] rfl rfl (any_of HT_.out (by kernel_rfl)) (fun _ _ _ h => h) (Or.inl ⟨by rfl, ?_⟩) ?_ ?_
      rotate_left
      ·
       intro w'
       go_simp
       with_reducible rfl
      rotate_left
      ·
       simp only [Act.put, List.setIfInBounds_toArray, List.set_cons_zero, List.set_cons_succ, i64_w, i32_w]
       rfl
      refine join_ (σ := Value × Nat) 1 #[true, true, true, true, true, true, true, true, true, false] (fun s_ => [(20, s_.1), (9, .pointer (some ⟨s_.2, 0, none⟩)), (25, .agg #[s_.1, .int .i64 (wrap64 (Int.tdiv a1 qh)), .bool a2])]) (fun s_ w' => (Kd.R (Kd.int .i64) 3 w' w.heap.size (fun _ => True) s_.1 y253) ∧ (w'.heap[qf]? = some (.cells #[.slice none 0 0, .int .i64 0, .bool false] 26 (0, 0))) ∧ (w'.heap[s_.2]? = some (.cells #[.slice none 0 0, .int .i64 0, .bool false] 26 (0, 0))) ∧ (w.heap.size ≤ s_.2) ∧ (w.heap.size ≤ s_.2) ∧ (qf ≠ s_.2) ∧ (s_.2 ≠ qf) ∧ (Below w.heap.size w w')) ?_ ?_
      rotate_left
      ·
       intro hCont
       refine two_ (i := 2) (j := 8) (Ni := some 20) (Nj := some 9) #[true, true, true, true, true, true, true, false, false, false] #[true, true, false, true, true, true, true, false, true, false] rfl rfl rfl rfl (two_of HT_.out (by kernel_rfl)) (by decide) (by decide) (fun K hK => ?_) (fun K hK => ?_)
       ·
        skip
        refine Kd.R_make_step (Kd.int .i64) _ 3 (by rfl) (N := 20) rfl 24 _ _ rfl (l0.length : Int) rfl rfl Try.underlying24 (.int .i64 0) 8 info3 rfl (by decide) (by omega) 0 (ok := fun _ => True) (okp := fun _ => True) rfl (fun _ hk => hk) trivial (of_decide_eq_true (by first | (with_reducible assumption) | assumption)) (Nat.le_trans (Nat.mul_le_mul_right _ (of_decide_eq_true (by first | (with_reducible assumption) | assumption) : (l0.length : Int).toNat ≤ 35184372088832)) (by omega)) (Below.refl _ _) (Nat.le_refl _) ?_
        intro qx zz ho14 hb hg_ hnew_
        clear hg_ hnew_
        (first | rw [← Ny253.out] at ho14 | (simp only [Int.reduceToNat] at ho14; rw [← Ny253.out] at ho14))
        have ql := Aside0.mk (Kd.R_lower ho14 (bz_ HB)); replace qa := kB_ qa hb; replace HB := bS_ HB hb; clear hb ho14
        obtain ⟨zf, zg, eo15⟩ := Kd.R_slice ql.out
        (first | subst eo15 | (injection eo15 with f1_ f2_ f3_; have f4_ := f1_.symm; have f5_ := f3_.symm; clear f1_ f2_ f3_; subst f4_; subst f5_))
        refine hK.out _ _ trivial (fun hHeld => ?_)
        clear hK K
        refine norm_ (a' := ?_) ?_ ?_
        rotate_left
        ·
         show Act.put _ (some 20) _ = _
         simp only [Act.put, List.setIfInBounds_toArray, List.set_cons_zero, List.set_cons_succ, i64_w, i32_w]
         rfl
        refine pure_ (i := 7) (N := some 25) (v := ?_) (a' := ?_) #[true, true, true, true, true, true, true, true, false, false] rfl rfl (any_of HT_.out (by kernel_rfl)) (fun _ _ _ h => h) (Or.inl ⟨by rfl, ?_⟩) ?_ ?_
        rotate_left
        ·
         intro w'
         go_simp
         with_reducible rfl
        rotate_left
        ·
         simp only [Act.put, List.setIfInBounds_toArray, List.set_cons_zero, List.set_cons_succ, i64_w, i32_w]
         rfl
        refine one_ (i := 8) (N := some 9) #[true, true, true, true, true, true, true, true, true, false] rfl rfl (one_of HT_.out (by kernel_rfl)) (by decide) (fun K hK => ?_)
        refine box_step ?hg (N := 9) ?hd (cs := #[.slice none 0 0, .int .i64 0, .bool false]) (t := 26) ?hr ?_; (case hd => rfl); (case hg => rfl); (case hr => first | (go_simp; done) | (go_simp; rfl))
        intro qe hg zC hbox hb
        replace ql := rB_ ql hb; have qd := Aside0.mk (hbox); have qp := Aside0.mk ((by rw [hg]; exact (bz_ HB) : w.heap.size ≤ qe)); have qq := Aside0.mk ((by rw [hg]; exact (bz_ HB) : w.heap.size ≤ qe)); replace HB := bS_ HB hb; have qi := Aside0.mk ((nl_ qa hg : qf ≠ qe)); have qj := Aside0.mk ((ng_ qa hg : qe ≠ qf)); replace qa := kB_ qa hb; clear hb hbox hg
        refine hK.out _ _ trivial (fun hHeld => ?_)
        clear hK K
        refine norm_ (a' := ?_) ?_ ?_
        rotate_left
        ·
         show Act.put _ (some 9) _ = _
         simp only [Act.put, List.setIfInBounds_toArray, List.set_cons_zero, List.set_cons_succ, i64_w, i32_w]
         rfl
        exact norm_ (by simp only [putAll, Act.put, List.setIfInBounds_toArray, List.set_cons_zero, List.set_cons_succ]) (hCont (.slice zf y253.length zg, qe) _ ⟨(rm_ ql), (kf_ qa), (kf_ qd), qp.out, qq.out, qi.out, qj.out, (bb_ HB)⟩)
       ·
        skip
        refine box_step ?hg (N := 9) ?hd (cs := #[.slice none 0 0, .int .i64 0, .bool false]) (t := 26) ?hr ?_; (case hd => rfl); (case hg => rfl); (case hr => first | (go_simp; done) | (go_simp; rfl))
        intro qe hg zz hbox hb
        have qd := Aside0.mk (hbox); have qp := Aside0.mk ((by rw [hg]; exact (bz_ HB) : w.heap.size ≤ qe)); have qq := Aside0.mk ((by rw [hg]; exact (bz_ HB) : w.heap.size ≤ qe)); replace HB := bS_ HB hb; have qi := Aside0.mk ((nl_ qa hg : qf ≠ qe)); have qj := Aside0.mk ((ng_ qa hg : qe ≠ qf)); replace qa := kB_ qa hb; clear hb hbox hg
        refine hK.out _ _ trivial (fun hHeld => ?_)
        clear hK K
        refine norm_ (a' := ?_) ?_ ?_
        rotate_left
        ·
         show Act.put _ (some 9) _ = _
         simp only [Act.put, List.setIfInBounds_toArray, List.set_cons_zero, List.set_cons_succ, i64_w, i32_w]
         rfl
        refine one_ (i := 2) (N := some 20) #[true, true, true, true, true, true, true, false, true, false] rfl rfl (one_of HT_.out (by kernel_rfl)) (by decide) (fun K hK => ?_)
        refine Kd.R_make_step (Kd.int .i64) _ 3 (by rfl) (N := 20) rfl 24 _ _ rfl (l0.length : Int) rfl rfl Try.underlying24 (.int .i64 0) 8 info3 rfl (by decide) (by omega) 0 (ok := fun _ => True) (okp := fun _ => True) rfl (fun _ hk => hk) trivial (of_decide_eq_true (by first | (with_reducible assumption) | assumption)) (Nat.le_trans (Nat.mul_le_mul_right _ (of_decide_eq_true (by first | (with_reducible assumption) | assumption) : (l0.length : Int).toNat ≤ 35184372088832)) (by omega)) (Below.refl _ _) (Nat.le_refl _) ?_
        intro qx zD ho15 hb hg_ hnew_
        clear hg_ hnew_
        (first | rw [← Ny253.out] at ho15 | (simp only [Int.reduceToNat] at ho15; rw [← Ny253.out] at ho15))
        have ql := Aside0.mk (Kd.R_lower ho15 (bz_ HB)); replace qa := kB_ qa hb; replace qd := kB_ qd hb; replace HB := bS_ HB hb; clear hb ho15
        obtain ⟨zh, zi, eo16⟩ := Kd.R_slice ql.out
        (first | subst eo16 | (injection eo16 with f1_ f2_ f3_; have f4_ := f1_.symm; have f5_ := f3_.symm; clear f1_ f2_ f3_; subst f4_; subst f5_))
        refine hK.out _ _ trivial (fun hHeld => ?_)
        clear hK K
        refine norm_ (a' := ?_) ?_ ?_
        rotate_left
        ·
         show Act.put _ (some 20) _ = _
         simp only [Act.put, List.setIfInBounds_toArray, List.set_cons_zero, List.set_cons_succ, i64_w, i32_w]
         rfl
        refine pure_ (i := 7) (N := some 25) (v := ?_) (a' := ?_) #[true, true, true, true, true, true, true, true, true, false] rfl rfl (any_of HT_.out (by kernel_rfl)) (fun _ _ _ h => h) (Or.inl ⟨by rfl, ?_⟩) ?_ ?_
        rotate_left
        ·
         intro w'
         go_simp
         with_reducible rfl
        rotate_left
        ·
         simp only [Act.put, List.setIfInBounds_toArray, List.set_cons_zero, List.set_cons_succ, i64_w, i32_w]
         rfl
        exact norm_ (by simp only [putAll, Act.put, List.setIfInBounds_toArray, List.set_cons_zero, List.set_cons_succ]) (hCont (.slice zh y253.length zi, qe) _ ⟨(rm_ ql), (kf_ qa), (kf_ qd), qp.out, qq.out, qi.out, qj.out, (bb_ HB)⟩)
      rintro ⟨qx, qe⟩ qy ⟨h0_, h1_, h2_, h3_, h4_, h5_, h6_, h7_⟩
      have n0_ : Aside0 (Kd.R (Kd.int .i64) 3 qy w.heap.size (fun _ => True) qx y253) := ⟨h0_⟩
      have n1_ : Aside0 (qy.heap[qf]? = some (.cells #[.slice none 0 0, .int .i64 0, .bool false] 26 (0, 0))) := ⟨h1_⟩
      have n2_ : Aside0 (qy.heap[qe]? = some (.cells #[.slice none 0 0, .int .i64 0, .bool false] 26 (0, 0))) := ⟨h2_⟩
      have n3_ : Aside0 (w.heap.size ≤ qe) := ⟨h3_⟩
      have n4_ : Aside0 (w.heap.size ≤ qe) := ⟨h4_⟩
      have n5_ : Aside0 (qf ≠ qe) := ⟨h5_⟩
      have n6_ : Aside0 (qe ≠ qf) := ⟨h6_⟩
      have n7_ : Aside0 (Below w.heap.size w qy) := ⟨h7_⟩
      clear qa
      clear HB
      clear h0_ h1_ h2_ h3_ h4_ h5_ h6_ h7_
      have ql := n0_
      have qa := n1_
      have qd := n2_
      have qp := n3_
      have qq := n4_
      have qi := n5_
      have qj := n6_
      have HB := n7_
      clear n0_ n1_ n2_ n3_ n4_ n5_ n6_ n7_
      have hHeld := trivial
      obtain ⟨qu, qv, eo18⟩ := Kd.R_slice ql.out
      (first | subst eo18 | (injection eo18 with f1_ f2_ f3_; have f4_ := f1_.symm; have f5_ := f3_.symm; clear f1_ f2_ f3_; subst f4_; subst f5_))
      refine norm_ (a' := ?_) ?_ ?_
      rotate_left
      ·
       simp only [putAll, Act.put, List.setIfInBounds_toArray, List.set_cons_zero, List.set_cons_succ]
       rfl
      refine one_ (i := 9) (N := none) #[true, true, true, true, true, true, true, true, true, true] rfl rfl (one_of HT_.out (by kernel_rfl)) (by decide) (fun K hK => ?_)
      have hs19 : qy.cell? ⟨qe, 0, none⟩ = some (.slice none 0 0) := bc_ qd 0
      have hfs19 := blk_frozen qd.out 0
      have hns19_0 := qi.out
      have hms19_0 := qj.out
      have hs20 : qy.cell? ⟨qe, 1, none⟩ = some (.int .i64 0) := bc_ qd 1
      have hfs20 := blk_frozen qd.out 1
      have hns20_0 := qi.out
      have hms20_0 := qj.out
      have hs21 : qy.cell? ⟨qe, 2, none⟩ = some (.bool false) := bc_ qd 2
      have hfs21 := blk_frozen qd.out 2
      have hns21_0 := qi.out
      have hms21_0 := qj.out
      refine skip_ (w1 := ?_) (by rfl) rfl ?_ ?_
      rotate_left
      ·
       go_simp
       rfl
      refine hK.out _ _ trivial (fun hHeld => ?_)
      clear hK K
      refine done_ (done_of HT_.out (by kernel_rfl)) ?_
      try go_wp2
      go_loopg [28] kj5 (fun kq v28 w' => ∃ (qg : Int) (qb : List Int) (u257000 : Value), v28 = .int .i64 qg ∧ Aside0 (impl_makeOf.l0 kq qh l0 (l0.length : Int) qg qb (wrap64 (Int.tdiv a1 qh)) a2 = some (r1, r2, r3, r4)) ∧ Aside0 (kq ≤ kj5) ∧ Aside0 (Kd.R (Kd.int .i64) 3 w' w.heap.size (fun _ => True) u257000 qb) ∧ Aside0 (w'.heap[qf]? = some (.cells #[(.slice none 0 0), .int .i64 0, .bool false] 26 (0, 0))) ∧ Aside0 (w'.heap[qe]? = some (.cells #[u257000, .int .i64 (wrap64 (Int.tdiv a1 qh)), .bool a2] 26 (0, 0))) ∧ Aside0 (Below w.heap.size w w'))
      case atStart => exact ⟨(0), (y253), (.slice qu y253.length qv), (by first | rfl | (simp; done) | (simp [*]; done)), H', ⟨Nat.le_refl _⟩, ⟨by (with_reducible repeat (first | apply Kd.R_alloc | apply Kd.R_drewN | apply Kd.R_drew)); exact Kd.R_mono (Kd.R_far (p := ⟨qe, 2, none⟩) (Kd.R_far (p := ⟨qe, 1, none⟩) (Kd.R_far (p := ⟨qe, 0, none⟩) (Kd.R_types ql.out qd.out (by decide)) (fun _ hk => hk.2) (.slice qu y253.length qv)) (fun _ hk => hk.2) (.int .i64 (wrap64 (Int.tdiv a1 qh)))) (fun _ hk => hk.2) (.bool a2)) (fun _ hk => trivial)⟩, ⟨kf_ qa⟩, ⟨by (with_reducible repeat (first | refine blk_drewN ?_ _ | refine blk_drew ?_ | refine blk_alloc ?_ _)); refine blk_put (cs := #[.slice qu y253.length qv, .int .i64 (wrap64 (Int.tdiv a1 qh)), .bool false]) ?_ 2 _ rfl; (with_reducible repeat (first | refine blk_drewN ?_ _ | refine blk_drew ?_ | refine blk_alloc ?_ _)); refine blk_put (cs := #[.slice qu y253.length qv, .int .i64 0, .bool false]) ?_ 1 _ rfl; (with_reducible repeat (first | refine blk_drewN ?_ _ | refine blk_drew ?_ | refine blk_alloc ?_ _)); refine blk_put (cs := #[.slice none 0 0, .int .i64 0, .bool false]) ?_ 0 _ rfl; (with_reducible repeat (first | refine blk_drewN ?_ _ | refine blk_drew ?_ | refine blk_alloc ?_ _)); exact qd.out⟩, ⟨bb_ HB⟩⟩
      case round =>
       clear H'
       try clear c1
       try clear p2
       try clear c3
       try clear p6
       try clear c7
       try clear c8
       try clear qo
       try clear qw
       try clear c9
       try clear zd
       try clear ze
       try clear c10
       try clear qC
       try clear qD
       try clear c11
       try clear qE
       try clear qF
       try clear p2
       obtain ⟨qg, qb, u257000, rfl, HA, HK2, qc, qa, qd, HB⟩ := hrel
       cases gk with
       | zero => exact absurd HA.out (by simp [impl_makeOf.l0])
       | succ k2 =>
        have H := HA.out
        clear HA
        simp only [impl_makeOf.l0] at H
        by_cases c22 : qg < (l0.length : Int)
        ·
         rw [if_pos c22] at H
         have qG : decide (qg < (l0.length : Int)) = true := decide_eq_true c22
         clear c22
         by_cases c23 : 0 ≤ qg
         ·
          rw [if_pos c23] at H
          have zp : decide (0 ≤ qg) = true := decide_eq_true c23
          clear c23
          by_cases c24 : qg < (l0.length : Int)
          ·
           rw [if_pos c24] at H
           have zq : decide (qg < (l0.length : Int)) = true := decide_eq_true c24
           clear c24
           by_cases c25 : qh = 0
           ·
            rw [if_pos c25] at H
            exact absurd H (by simp)
           ·
            rw [if_neg c25] at H
            have zr : (qh == 0) = false := beq_eq_false_iff_ne.mpr c25
            have zs : (qh != 0) = true := bne_iff_ne.mpr c25
            by_cases c26 : qg < (qb.length : Int)
            ·
             rw [if_pos c26] at H
             have zt : decide (qg < (qb.length : Int)) = true := decide_eq_true c26
             clear c26
             obtain ⟨y258, hy258⟩ : ∃ y_ : List Int, y_ = (qb.set (qg : Int).toNat (wrap64 (Int.tdiv (rd l0 qg) qh))) := ⟨_, rfl⟩
             replace H : (impl_makeOf.l0 k2 qh l0 (l0.length : Int) (wrap64 (qg + 1)) y258 (wrap64 (Int.tdiv a1 qh)) a2) = some (r1, r2, r3, r4) := by first | (rw [hy258]; with_reducible exact H) | (have H2_ := (Option.bind_some _ _).symm.trans H; rw [hy258]; with_reducible exact H2_) | (have H2_ := (Option.bind_some _ _).symm.trans H; with_reducible exact H2_) | with_reducible exact H | (rw [hy258]; exact H) | exact H
             have Ny258 := Aside0.mk hy258
             clear hy258
             have H' := Aside0.mk H
             clear H
             have p257 : 0 ≤ (qg : Int) := of_decide_eq_true (by first | (with_reducible assumption) | assumption)
             have q257 : qg < (l0.length : Int) := of_decide_eq_true (by first | (with_reducible assumption) | assumption)
             obtain ⟨zu, e257, qm⟩ := Kd.at_int HR0.out qg p257 q257
             cases e257
             replace qm := (HB.out.cell (World.block_lt_of_cell? w _ qm)).trans qm
             replace p257 := eq_true p257
             replace q257 := eq_true q257
             try go_wp2
             replace qc := Aside0.mk (Kd.R_drew qc.out); replace qa := Aside0.mk (blk_drew qa.out); replace qd := Aside0.mk (blk_drew qd.out); replace HB := Aside0.mk (below_drew1 HB.out)
             have p27 : 0 ≤ (qg : Int) := of_decide_eq_true (by first | (with_reducible assumption) | assumption)
             have q27 : (qg : Int) < ((qb.length : Int) : Int) := of_decide_eq_true (by first | (with_reducible assumption) | assumption)
             obtain ⟨go27, qH, eo27, qI, gl27, cl27, HG27⟩ := Kd.R_form qc.out (by omega)
             (first | cases eo27 | (injection eo27 with ea_ en_ ec_; (first | subst ea_ | (injection ea_ with ea_; subst ea_)); subst ec_; clear en_))
             have zA := Aside0.mk qI
             have zj := Aside0.mk HG27
             clear qI gl27 HG27
             obtain ⟨qz, hf27_0⟩ := Kd.R_celln 0 qc.out (qg : Int) p27 q27
             replace p27 := eq_true p27
             replace q27 := eq_true q27
             have qA := Kd.R_putn qc.out (qg : Int) (wrap64 (Int.tdiv (rd l0 qg) qh))
             rw [← Ny258.out] at qA
             have HQ29 := Aside0.mk qA
             clear qA
             refine start_ (n := 8) (S := fun w' => w'.cell? ⟨qe, 0, none⟩ = some (.slice (some ⟨go27, 0, none⟩) qb.length qH) ∧ w'.cell? ⟨qe, 1, none⟩ = some (.int .i64 (wrap64 (Int.tdiv a1 qh))) ∧ w'.cell? ⟨qe, 2, none⟩ = some (.bool a2)) (ds := [7]) #[false, false, false, false, false, false, false, false] (by kernel_rfl) rfl rfl ⟨bc_ qd 0, bc_ qd 1, bc_ qd 2⟩ (fun hHeld => ?_); refine with_tabW impl_makeOf.tab8 impl_makeOf.bits8 (fun HT_ HW_ => ?_)
             generalize wr.drew = zE at qc qa qd HB zj HQ29 hf27_0 qz hHeld ⊢
             refine pure_ (i := 0) (N := some 33) (v := ?_) (a' := ?_) #[true, false, false, false, false, false, false, false] rfl rfl (any_of HT_.out (by kernel_rfl)) (fun _ _ _ h => h) (Or.inl ⟨by rfl, ?_⟩) ?_ ?_
             rotate_left
             ·
              intro w'
              go_simp
              with_reducible rfl
             rotate_left
             ·
              simp only [Act.put, List.setIfInBounds_toArray, List.set_cons_zero, List.set_cons_succ, i64_w, i32_w]
              rfl
             refine pure_ (i := 2) (N := some 35) (v := ?_) (a' := ?_) #[true, false, true, false, false, false, false, false] rfl rfl (any_of HT_.out (by kernel_rfl)) (fun _ _ _ h => h) (Or.inl ⟨by rfl, ?_⟩) ?_ ?_
             rotate_left
             ·
              intro w'
              go_simp
              with_reducible rfl
             rotate_left
             ·
              simp only [Act.put, List.setIfInBounds_toArray, List.set_cons_zero, List.set_cons_succ, i64_w, i32_w]
              rfl
             refine pure_ (i := 3) (N := some 36) (v := ?_) (a' := ?_) #[true, false, true, true, false, false, false, false] rfl rfl (any_of HT_.out (by kernel_rfl)) (fun _ _ _ h => h) (Or.inl ⟨by rfl, ?_⟩) ?_ ?_
             rotate_left
             ·
              intro w'
              go_simp
              with_reducible rfl
             rotate_left
             ·
              simp only [Act.put, List.setIfInBounds_toArray, List.set_cons_zero, List.set_cons_succ, i64_w, i32_w]
              rfl
             refine pure_ (i := 4) (N := some 37) (v := ?_) (a' := ?_) #[true, false, true, true, true, false, false, false] rfl rfl (any_of HT_.out (by kernel_rfl)) (fun _ _ _ h => h) (Or.inl ⟨by rfl, ?_⟩) ?_ ?_
             rotate_left
             ·
              intro w'
              go_simp
              with_reducible rfl
             rotate_left
             ·
              simp only [Act.put, List.setIfInBounds_toArray, List.set_cons_zero, List.set_cons_succ, i64_w, i32_w]
              rfl
             refine pure_ (i := 5) (N := some 38) (v := ?_) (a' := ?_) #[true, false, true, true, true, true, false, false] rfl rfl (any_of HT_.out (by kernel_rfl)) (fun _ _ _ h => h) (Or.inl ⟨by rfl, ?_⟩) ?_ ?_
             rotate_left
             ·
              intro w'
              go_simp
              with_reducible rfl
             rotate_left
             ·
              simp only [Act.put, List.setIfInBounds_toArray, List.set_cons_zero, List.set_cons_succ, i64_w, i32_w]
              rfl
             refine take_ (i := 1) (N := some 34) (v := ?_) (a' := ?_) #[true, true, true, true, true, true, false, false] rfl rfl (take_ofW HT_.out HW_.out (by kernel_rfl)) (fun _ _ _ h => h) (Or.inl ⟨by rfl, ?_⟩) hHeld ?_ ?_
             rotate_left
             ·
              rintro w' ⟨s0, s1, s2⟩
              go_simp
              with_reducible rfl
             rotate_left
             ·
              simp only [Act.put, List.setIfInBounds_toArray, List.set_cons_zero, List.set_cons_succ, i64_w, i32_w]
              rfl
             refine pure_ (i := 6) (N := some 39) (v := ?_) (a' := ?_) #[true, true, true, true, true, true, true, false] rfl rfl (any_of HT_.out (by kernel_rfl)) (fun _ _ _ h => h) (Or.inl ⟨by rfl, ?_⟩) ?_ ?_
             rotate_left
             ·
              intro w'
              go_simp
              with_reducible rfl
             rotate_left
             ·
              simp only [Act.put, List.setIfInBounds_toArray, List.set_cons_zero, List.set_cons_succ, i64_w, i32_w]
              rfl
             refine last_ (i := 7) (N := none) #[true, true, true, true, true, true, true, true] rfl rfl (one_of HT_.out (by kernel_rfl)) (by decide) (fun K hK => ?_)
             refine skip_ (w1 := ?_) (by rfl) rfl ?_ ?_
             rotate_left
             ·
              go_simp
              rfl
             refine hK.out _ _ ?_
             clear hK K
             refine done_ (done_of HT_.out (by kernel_rfl)) ?_
             try go_wp2
             go_roundg k2
             case measure => have := HJ5.out; have := HK2.out; omega
             case rel => exact ⟨(wrap64 (qg + 1)), (y258), (.slice (some ⟨go27, 0, none⟩) qb.length qH), (by first | rfl | (simp; done) | (simp [*]; done)), H', ⟨by have := HJ5.out; have := HK2.out; omega⟩, ⟨by (with_reducible repeat (first | apply Kd.R_alloc | apply Kd.R_drewN | apply Kd.R_drew)); exact HQ29.out⟩, ⟨by (with_reducible repeat (first | refine blk_drewN ?_ _ | refine blk_drew ?_ | refine blk_alloc ?_ _)); refine blk_far ?_ (by have h_ := Kd.R_ne qc.out qa.out (by decide); intro e_; exact h_ (by rw [e_]; rfl)) _; (with_reducible repeat (first | refine blk_drewN ?_ _ | refine blk_drew ?_ | refine blk_alloc ?_ _)); exact qa.out⟩, ⟨by (with_reducible repeat (first | refine blk_drewN ?_ _ | refine blk_drew ?_ | refine blk_alloc ?_ _)); refine blk_far ?_ (by have h_ := Kd.R_ne qc.out qd.out (by decide); intro e_; exact h_ (by rw [e_]; rfl)) _; (with_reducible repeat (first | refine blk_drewN ?_ _ | refine blk_drew ?_ | refine blk_alloc ?_ _)); exact qd.out⟩, ⟨bb_ HB⟩⟩
            ·
             rw [if_neg c26] at H
             exact absurd H (by simp)
          ·
           rw [if_neg c24] at H
           exact absurd H (by simp)
         ·
          rw [if_neg c23] at H
          exact absurd H (by simp)
        ·
         rw [if_neg c22] at H
         have qG : decide (qg < (l0.length : Int)) = false := decide_eq_false c22
         clear c22
         replace H := Option.bind_eq_some_iff.mp H
         obtain ⟨qt, A300, H⟩ := H
         replace H : (if qt = true then (some (qb, (wrap64 (Int.tdiv a1 qh)), a2, true)) else (some (([] : List Int), 0, false, false))) = some (r1, r2, r3, r4) := H
         have A30 := Aside0.mk A300
         clear A300
         by_cases c31 : qt = true
         ·
          subst c31
          have H1 : (some (qb, (wrap64 (Int.tdiv a1 qh)), a2, true)) = some (r1, r2, r3, r4) := by rw [if_pos rfl] at H; exact H
          clear H
          have H := H1
          clear H1
          simp only [Option.some.injEq, Prod.mk.injEq] at H
          obtain ⟨rfl, rfl, rfl, rfl⟩ := H
          have zv := qj.out
          have zw := qi.out
          have qJ : wr.cell? ⟨qe, 0, none⟩ = some (u257000) := bc_ qd 0
          have qK : wr.cell? ⟨qe, 1, none⟩ = some (.int .i64 (wrap64 (Int.tdiv a1 qh))) := bc_ qd 1
          have qL : wr.cell? ⟨qe, 2, none⟩ = some (.bool a2) := bc_ qd 2
          have qM := blk_frozen qd.out 0
          have qN := blk_frozen qd.out 1
          have qO := blk_frozen qd.out 2
          obtain ⟨qr, qs, eo34⟩ := Kd.R_slice qc.out
          subst eo34
          go_wp2_with (first | ((with_reducible refine gate_callee (f := 38) rfl ?_); refine goesL_ (some 42) rfl rfl Try.func38 (by kernel_rfl) rfl #[.agg #[.slice qr qb.length qs, .int .i64 (wrap64 (Int.tdiv a1 qh)), .bool a2]] rfl (by (try simp only [List.map_toArray, List.map_cons, List.map_nil]); first | done | rfl | (simp only [List.length_drop, List.length_take]; rfl)) ?_; (with_reducible refine (impl_IsAtom.calls k2 _ _ qb (wrap64 (Int.tdiv a1 qh)) a2 true _ ?side1 ?side2 A30.out).mono ?_); (case side1 => exact cr_ qc); (case side2 => exact (Kd.R_reads' qc.out).2.1); rintro e qB ⟨rfl, hb⟩; refine ⟨_, rfl, ?_⟩; replace qc := rB_ qc hb; replace qa := kB_ qa hb; replace qd := kB_ qd hb; replace HB := bS_ HB hb; (try clear hb); (try clear hb2); (try clear hk); (try clear hi); have qP : qB.cell? ⟨qe, 0, none⟩ = some (.slice qr qb.length qs) := bc_ qd 0; have qQ : qB.cell? ⟨qe, 1, none⟩ = some (.int .i64 (wrap64 (Int.tdiv a1 qh))) := bc_ qd 1; have qR : qB.cell? ⟨qe, 2, none⟩ = some (.bool a2) := bc_ qd 2; have qS := blk_frozen qd.out 0; have qT := blk_frozen qd.out 1; have qU := blk_frozen qd.out 2; have qV : qB.cell? ⟨qf, 0, none⟩ = some (.slice none 0 0) := bc_ qa 0; have qW : qB.cell? ⟨qf, 1, none⟩ = some (.int .i64 0) := bc_ qa 1; have qX : qB.cell? ⟨qf, 2, none⟩ = some (.bool false) := bc_ qa 2; have qY := blk_frozen qa.out 0; have qZ := blk_frozen qa.out 1; have q0 := blk_frozen qa.out 2))
          refine bodyPost_ret (results_ct rfl _ _ qf 26 #[.slice qr qb.length qs, .int .i64 (wrap64 (Int.tdiv a1 qh)), .bool a2] (0, 0) _ rfl (by (with_reducible repeat (first | refine blk_drewN ?_ _ | refine blk_drew ?_ | refine blk_alloc ?_ _)); refine blk_put (cs := #[.slice qr qb.length qs, .int .i64 (wrap64 (Int.tdiv a1 qh)), .bool false]) ?_ 2 _ rfl; (with_reducible repeat (first | refine blk_drewN ?_ _ | refine blk_drew ?_ | refine blk_alloc ?_ _)); refine blk_put (cs := #[.slice qr qb.length qs, .int .i64 0, .bool false]) ?_ 1 _ rfl; (with_reducible repeat (first | refine blk_drewN ?_ _ | refine blk_drew ?_ | refine blk_alloc ?_ _)); refine blk_put (cs := #[.slice none 0 0, .int .i64 0, .bool false]) ?_ 0 _ rfl; (with_reducible repeat (first | refine blk_drewN ?_ _ | refine blk_drew ?_ | refine blk_alloc ?_ _)); exact qa.out) Try.underlying26 rfl (by kernel_rfl)) rfl ?_
          exact ⟨_, by first | rfl | (simp [errW_none, errW_some] <;> rfl) | (simp [*, errW_none, errW_some] <;> rfl), by (with_reducible repeat (first | apply Kd.R_alloc | apply Kd.R_drewN | apply Kd.R_drew)); exact Kd.R_mono (Kd.R_far (p := ⟨qf, 2, none⟩) (Kd.R_far (p := ⟨qf, 1, none⟩) (Kd.R_far (p := ⟨qf, 0, none⟩) (Kd.R_types qc.out qa.out (by decide)) (fun _ hk => hk.2) (.slice qr qb.length qs)) (fun _ hk => hk.2) (.int .i64 (wrap64 (Int.tdiv a1 qh)))) (fun _ hk => hk.2) (.bool a2)) (fun _ hk => trivial), bb_ HB⟩
         ·
          replace c31 := Bool.eq_false_iff.mpr c31
          subst c31
          have H1 : (some (([] : List Int), 0, false, false)) = some (r1, r2, r3, r4) := by rw [if_neg (show ¬ (false = true) by decide)] at H; exact H
          clear H
          have H := H1
          clear H1
          simp only [Option.some.injEq, Prod.mk.injEq] at H
          obtain ⟨rfl, rfl, rfl, rfl⟩ := H
          have zx := qj.out
          have zy := qi.out
          have q1 : wr.cell? ⟨qe, 0, none⟩ = some (u257000) := bc_ qd 0
          have q2 : wr.cell? ⟨qe, 1, none⟩ = some (.int .i64 (wrap64 (Int.tdiv a1 qh))) := bc_ qd 1
          have q3 : wr.cell? ⟨qe, 2, none⟩ = some (.bool a2) := bc_ qd 2
          have q4 := blk_frozen qd.out 0
          have q5 := blk_frozen qd.out 1
          have q6 := blk_frozen qd.out 2
          obtain ⟨zk, zl, eo40⟩ := Kd.R_slice qc.out
          subst eo40
          go_wp2_with (first | ((with_reducible refine gate_callee (f := 38) rfl ?_); refine goesL_ (some 42) rfl rfl Try.func38 (by kernel_rfl) rfl #[.agg #[.slice zk qb.length zl, .int .i64 (wrap64 (Int.tdiv a1 qh)), .bool a2]] rfl (by (try simp only [List.map_toArray, List.map_cons, List.map_nil]); first | done | rfl | (simp only [List.length_drop, List.length_take]; rfl)) ?_; (with_reducible refine (impl_IsAtom.calls k2 _ _ qb (wrap64 (Int.tdiv a1 qh)) a2 false _ ?side1 ?side2 A30.out).mono ?_); (case side1 => exact cr_ qc); (case side2 => exact (Kd.R_reads' qc.out).2.1); rintro e zm ⟨rfl, hb⟩; refine ⟨_, rfl, ?_⟩; replace qc := rB_ qc hb; replace qa := kB_ qa hb; replace qd := kB_ qd hb; replace HB := bS_ HB hb; (try clear hb); (try clear hb2); (try clear hk); (try clear hi); have q7 : zm.cell? ⟨qf, 0, none⟩ = some (.slice none 0 0) := bc_ qa 0; have q8 : zm.cell? ⟨qf, 1, none⟩ = some (.int .i64 0) := bc_ qa 1; have q9 : zm.cell? ⟨qf, 2, none⟩ = some (.bool false) := bc_ qa 2; have za := blk_frozen qa.out 0; have zb := blk_frozen qa.out 1; have zc := blk_frozen qa.out 2))
          refine bodyPost_ret (results_ct rfl _ _ qf 26 #[.slice none 0 0, .int .i64 0, .bool false] (0, 0) _ rfl (by (with_reducible repeat (first | refine blk_drewN ?_ _ | refine blk_drew ?_ | refine blk_alloc ?_ _)); refine blk_put (cs := #[.slice none 0 0, .int .i64 0, .bool false]) ?_ 2 _ rfl; (with_reducible repeat (first | refine blk_drewN ?_ _ | refine blk_drew ?_ | refine blk_alloc ?_ _)); refine blk_put (cs := #[.slice none 0 0, .int .i64 0, .bool false]) ?_ 1 _ rfl; (with_reducible repeat (first | refine blk_drewN ?_ _ | refine blk_drew ?_ | refine blk_alloc ?_ _)); refine blk_put (cs := #[.slice none 0 0, .int .i64 0, .bool false]) ?_ 0 _ rfl; (with_reducible repeat (first | refine blk_drewN ?_ _ | refine blk_drew ?_ | refine blk_alloc ?_ _)); exact qa.out) Try.underlying26 rfl (by kernel_rfl)) rfl ?_
          exact ⟨_, by first | rfl | (simp [errW_none, errW_some] <;> rfl) | (simp [*, errW_none, errW_some] <;> rfl), by first | exact Kd.R_nil _ _ _ _ _ | exact Kd.N_nil _ _ _ _ _ | exact Kd.V_nil _ _ _ _ _ | exact Kd.Q_nil _ _ _ _ _ | exact Kd.S_nil _ _ _ _ _, bb_ HB⟩
    ·
     rw [if_neg c10] at H
     exact absurd H (by simp)
   ·
    rw [if_neg c9] at H
    exact absurd H (by simp)

/-! ### impl_MixAtoms: function 9 -/
mutual
def impl_MixAtoms.j0 : Nat → Int → Int → Bool → List Int → Int → Bool → List Int → Int → Bool → Option (List Int × Int × Bool × Bool)
 | 0, _, _, _, _, _, _, _, _, _ => none
 | k + 1, x1, x3, x28, x261000, x261001, x261002, x262000, x262001, x262002 => if x28 = true then (some (([] : List Int), 0, false, false)) else (if x1 < 0 then (impl_MixAtoms.j1 k x1 x3 true x261000 x261001 x261002 x262000 x262001 x262002) else (if x1 > 400000000 then (impl_MixAtoms.j1 k x1 x3 true x261000 x261001 x261002 x262000 x262001 x262002) else (if x3 < 0 then (impl_MixAtoms.j1 k x1 x3 true x261000 x261001 x261002 x262000 x262001 x262002) else (impl_MixAtoms.j1 k x1 x3 (decide (x3 > 400000000)) x261000 x261001 x261002 x262000 x262001 x262002))))
def impl_MixAtoms.j1 : Nat → Int → Int → Bool → List Int → Int → Bool → List Int → Int → Bool → Option (List Int × Int × Bool × Bool)
 | 0, _, _, _, _, _, _, _, _, _ => none
 | k + 1, x1, x3, x43, x261000, x261001, x261002, x262000, x262001, x262002 => if x43 = true then (some (([] : List Int), 0, false, false)) else (if 0 ≤ (x261000.length : Int) then (if ((x261000.length : Int) : Int).toNat ≤ 35184372088832 then ((some (List.replicate ((x261000.length : Int) : Int).toNat 0 : List Int)).bind fun y265 => (impl_MixAtoms.l0 k x1 x3 y265 (y265.length : Int) 0 x261000 x261001 x261002 x262000 x262001 x262002)) else (none)) else (none))
def impl_MixAtoms.l0 : Nat → Int → Int → List Int → Int → Int → List Int → Int → Bool → List Int → Int → Bool → Option (List Int × Int × Bool × Bool)
 | 0, _, _, _, _, _, _, _, _, _, _, _ => none
 | k + 1, x1, x3, x10, x50, x51, x261000, x261001, x261002, x262000, x262001, x262002 => if x51 < x50 then (if 0 ≤ x51 then (if x51 < (x261000.length : Int) then (if x51 < (x262000.length : Int) then (if x51 < (x10.length : Int) then (impl_MixAtoms.l0 k x1 x3 (x10.set (x51 : Int).toNat (wrap64 ((wrap64 (x1 * (rd x261000 x51))) + (wrap64 (x3 * (rd x262000 x51)))))) x50 (wrap64 (x51 + 1)) x261000 x261001 x261002 x262000 x262001 x262002) else (none)) else (none)) else (none)) else (none)) else (if x261002 = true then (if x1 = 0 then (if x262002 = true then ((impl_makeOf.f k x10 (wrap64 ((wrap64 (x1 * x261001)) + (wrap64 (x3 * x262001)))) (x3 != 0)).bind fun qp => (some (qp.1, qp.2.1, qp.2.2.1, qp.2.2.2))) else ((impl_makeOf.f k x10 (wrap64 ((wrap64 (x1 * x261001)) + (wrap64 (x3 * x262001)))) false).bind fun qq => (some (qq.1, qq.2.1, qq.2.2.1, qq.2.2.2)))) else ((impl_makeOf.f k x10 (wrap64 ((wrap64 (x1 * x261001)) + (wrap64 (x3 * x262001)))) true).bind fun qt => (some (qt.1, qt.2.1, qt.2.2.1, qt.2.2.2)))) else (if x262002 = true then ((impl_makeOf.f k x10 (wrap64 ((wrap64 (x1 * x261001)) + (wrap64 (x3 * x262001)))) (x3 != 0)).bind fun qr => (some (qr.1, qr.2.1, qr.2.2.1, qr.2.2.2))) else ((impl_makeOf.f k x10 (wrap64 ((wrap64 (x1 * x261001)) + (wrap64 (x3 * x262001)))) false).bind fun qs => (some (qs.1, qs.2.1, qs.2.2.1, qs.2.2.2)))))
end
def impl_MixAtoms.f (k : Nat) (l0_0 : List Int) (a0_1 : Int) (a0_2 : Bool) (a1 : Int) (l2_0 : List Int) (a2_1 : Int) (a2_2 : Bool) (a3 : Int) : Option (List Int × Int × Bool × Bool) := (impl_IsAtom.f k l0_0 a0_1 a0_2).bind fun zp => (if zp = true then ((impl_IsAtom.f k l2_0 a2_1 a2_2).bind fun qx => (if qx = true then (impl_MixAtoms.j0 k a1 a3 ((l0_0.length : Int) != (l2_0.length : Int)) l0_0 a0_1 a0_2 l2_0 a2_1 a2_2) else (impl_MixAtoms.j0 k a1 a3 true l0_0 a0_1 a0_2 l2_0 a2_1 a2_2))) else (impl_MixAtoms.j0 k a1 a3 true l0_0 a0_1 a0_2 l2_0 a2_1 a2_2))
theorem impl_MixAtoms.mono_l : ∀ k, (∀ y0 y1 y2 y3 y4 y5 y6 y7 y8, LeO (impl_MixAtoms.j0 k y0 y1 y2 y3 y4 y5 y6 y7 y8) (impl_MixAtoms.j0 (k + 1) y0 y1 y2 y3 y4 y5 y6 y7 y8)) ∧ (∀ y0 y1 y2 y3 y4 y5 y6 y7 y8, LeO (impl_MixAtoms.j1 k y0 y1 y2 y3 y4 y5 y6 y7 y8) (impl_MixAtoms.j1 (k + 1) y0 y1 y2 y3 y4 y5 y6 y7 y8)) ∧ (∀ y0 y1 y2 y3 y4 y5 y6 y7 y8 y9 y10, LeO (impl_MixAtoms.l0 k y0 y1 y2 y3 y4 y5 y6 y7 y8 y9 y10) (impl_MixAtoms.l0 (k + 1) y0 y1 y2 y3 y4 y5 y6 y7 y8 y9 y10))
 | 0 => ⟨fun _ _ _ _ _ _ _ _ _ r h => by simp [impl_MixAtoms.j0] at h, fun _ _ _ _ _ _ _ _ _ r h => by simp [impl_MixAtoms.j1] at h, fun _ _ _ _ _ _ _ _ _ _ _ r h => by simp [impl_MixAtoms.l0] at h⟩
 | k + 1 => by
  obtain ⟨ih0, ih1, ih2⟩ := impl_MixAtoms.mono_l k
  refine ⟨?_, ?_, ?_⟩
  ·
   intro y0 y1 y2 y3 y4 y5 y6 y7 y8
   unfold impl_MixAtoms.j0
   repeat' first
   | (with_reducible exact ih0 _ _ _ _ _ _ _ _ _)
   | (with_reducible exact ih1 _ _ _ _ _ _ _ _ _)
   | (with_reducible exact ih2 _ _ _ _ _ _ _ _ _ _ _)
   | (with_reducible exact impl_IsAtom.mono _ _ _ _)
   | (with_reducible exact impl_makeOf.mono _ _ _ _)
   | (with_reducible exact LeO.refl _)
   | (with_reducible exact LeO.none _)
   | (with_reducible refine LeO.ite ?_ ?_)
   | (with_reducible refine LeO.bind ?_ (fun _ => ?_))
   | exact ih0 _ _ _ _ _ _ _ _ _
   | exact ih1 _ _ _ _ _ _ _ _ _
   | exact ih2 _ _ _ _ _ _ _ _ _ _ _
   | exact impl_IsAtom.mono _ _ _ _
   | exact impl_makeOf.mono _ _ _ _
   | exact LeO.none _
   | refine LeO.ite ?_ ?_
   | refine LeO.bind ?_ (fun _ => ?_)
  ·
   intro y0 y1 y2 y3 y4 y5 y6 y7 y8
   unfold impl_MixAtoms.j1
   repeat' first
   | (with_reducible exact ih0 _ _ _ _ _ _ _ _ _)
   | (with_reducible exact ih1 _ _ _ _ _ _ _ _ _)
   | (with_reducible exact ih2 _ _ _ _ _ _ _ _ _ _ _)
   | (with_reducible exact impl_IsAtom.mono _ _ _ _)
   | (with_reducible exact impl_makeOf.mono _ _ _ _)
   | (with_reducible exact LeO.refl _)
   | (with_reducible exact LeO.none _)
   | (with_reducible refine LeO.ite ?_ ?_)
   | (with_reducible refine LeO.bind ?_ (fun _ => ?_))
   | exact ih0 _ _ _ _ _ _ _ _ _
   | exact ih1 _ _ _ _ _ _ _ _ _
   | exact ih2 _ _ _ _ _ _ _ _ _ _ _
   | exact impl_IsAtom.mono _ _ _ _
   | exact impl_makeOf.mono _ _ _ _
   | exact LeO.none _
   | refine LeO.ite ?_ ?_
   | refine LeO.bind ?_ (fun _ => ?_)
  ·
   intro y0 y1 y2 y3 y4 y5 y6 y7 y8 y9 y10
   unfold impl_MixAtoms.l0
   repeat' first
   | (with_reducible exact ih0 _ _ _ _ _ _ _ _ _)
   | (with_reducible exact ih1 _ _ _ _ _ _ _ _ _)
   | (with_reducible exact ih2 _ _ _ _ _ _ _ _ _ _ _)
   | (with_reducible exact impl_IsAtom.mono _ _ _ _)
   | (with_reducible exact impl_makeOf.mono _ _ _ _)
   | (with_reducible exact LeO.refl _)
   | (with_reducible exact LeO.none _)
   | (with_reducible refine LeO.ite ?_ ?_)
   | (with_reducible refine LeO.bind ?_ (fun _ => ?_))
   | exact ih0 _ _ _ _ _ _ _ _ _
   | exact ih1 _ _ _ _ _ _ _ _ _
   | exact ih2 _ _ _ _ _ _ _ _ _ _ _
   | exact impl_IsAtom.mono _ _ _ _
   | exact impl_makeOf.mono _ _ _ _
   | exact LeO.none _
   | refine LeO.ite ?_ ?_
   | refine LeO.bind ?_ (fun _ => ?_)
theorem impl_MixAtoms.mono : ∀ a0 a1 a2 a3 a4 a5 a6 a7 k, LeO (impl_MixAtoms.f k a0 a1 a2 a3 a4 a5 a6 a7) (impl_MixAtoms.f (k + 1) a0 a1 a2 a3 a4 a5 a6 a7) := by
 intro a0 a1 a2 a3 a4 a5 a6 a7 k
 obtain ⟨ih0, ih1, ih2⟩ := impl_MixAtoms.mono_l k
 unfold impl_MixAtoms.f
 repeat' first
   | (with_reducible exact ih0 _ _ _ _ _ _ _ _ _)
   | (with_reducible exact ih1 _ _ _ _ _ _ _ _ _)
   | (with_reducible exact ih2 _ _ _ _ _ _ _ _ _ _ _)
   | (with_reducible exact impl_IsAtom.mono _ _ _ _)
   | (with_reducible exact impl_makeOf.mono _ _ _ _)
   | (with_reducible exact LeO.refl _)
   | (with_reducible exact LeO.none _)
   | (with_reducible refine LeO.ite ?_ ?_)
   | (with_reducible refine LeO.bind ?_ (fun _ => ?_))
   | exact ih0 _ _ _ _ _ _ _ _ _
   | exact ih1 _ _ _ _ _ _ _ _ _
   | exact ih2 _ _ _ _ _ _ _ _ _ _ _
   | exact impl_IsAtom.mono _ _ _ _
   | exact impl_makeOf.mono _ _ _ _
   | exact LeO.none _
   | refine LeO.ite ?_ ?_
   | refine LeO.bind ?_ (fun _ => ?_)
def impl_MixAtoms.T9 : Bool × List (List Nat × List Nat) := (true, [([], []), ([], []), ([], []), ([], []), ([3], [3]), ([], []), ([4, 5], [4, 5]), ([6], [6]), ([2, 7], [2, 7]), ([], []), ([], []), ([10], [10]), ([], []), ([11, 12], [11, 12]), ([13], [13]), ([9, 14], [9, 14]), ([8, 15], [8, 15]), ([0, 1, 0, 1, 2, 3, 4, 5, 6, 7, 8, 9, 10, 11, 12, 13, 14, 15, 16], [0, 1]), ([17, 16, 0, 1, 2, 3, 4, 5, 6, 7, 8, 9, 10, 11, 12, 13, 14, 15, 16], [16, 17])])
def impl_MixAtoms.B9 : List Nat := [0, 0, 0, 0, 8, 0, 56, 120, 252, 0, 0, 1024, 0, 7168, 15360, 32256, 65532, 131071, 262143]
theorem impl_MixAtoms.tab9 : rtab .any (opsOf Try.f9 9) = impl_MixAtoms.T9 := by kernel_rfl
theorem impl_MixAtoms.bits9 : waitsOk impl_MixAtoms.T9.2 impl_MixAtoms.B9 = true := by kernel_rfl
set_option maxHeartbeats 8000000 in
set_option maxRecDepth 100000 in
theorem impl_MixAtoms.calls (k : Nat) (A0_0 : Option Addr) (c0_0 : Nat) (l0_0 : List Int) (a0_1 : Int) (a0_2 : Bool) (a1 : Int) (A2_0 : Option Addr) (c2_0 : Nat) (l2_0 : List Int) (a2_1 : Int) (a2_2 : Bool) (a3 : Int) (r1 : List Int) (r2 : Int) (r3 : Bool) (r4 : Bool) (w : World) (hr0_0 : Kd.C (Kd.int .i64) w A0_0 l0_0.length l0_0) (hc0_0 : l0_0.length ≤ c0_0) (hr2_0 : Kd.C (Kd.int .i64) w A2_0 l2_0.length l2_0) (hc2_0 : l2_0.length ≤ c2_0) (h : impl_MixAtoms.f k l0_0 a0_1 a0_2 a1 l2_0 a2_1 a2_2 a3 = some (r1, r2, r3, r4)) :
  Calls Try.prog 9 #[.agg #[.slice A0_0 l0_0.length c0_0, .int .i64 a0_1, .bool a0_2], .int .i64 a1, .agg #[.slice A2_0 l2_0.length c2_0, .int .i64 a2_1, .bool a2_2], .int .i64 a3] w fun e w' => ∃ v0_ : Value, e = .returned (.tuple #[.agg #[v0_, .int .i64 r2, .bool r3], .bool r4]) ∧ Kd.R (Kd.int .i64) 3 w' w.heap.size (fun _ => True) v0_ r1 ∧ Below w.heap.size w w' := by
 have hu26 := Try.underlying26
 have zf := Aside0.mk hr0_0
 have zx := Aside0.mk hc0_0
 clear hr0_0 hc0_0
 have zy := Aside0.mk hr2_0
 have z6 := Aside0.mk hc2_0
 clear hr2_0 hc2_0
 have HB := Aside0.mk (Below.refl w.heap.size w)
 have H : ((impl_IsAtom.f k l0_0 a0_1 a0_2).bind fun zp => (if zp = true then ((impl_IsAtom.f k l2_0 a2_1 a2_2).bind fun qx => (if qx = true then (impl_MixAtoms.j0 k a1 a3 ((l0_0.length : Int) != (l2_0.length : Int)) l0_0 a0_1 a0_2 l2_0 a2_1 a2_2) else (impl_MixAtoms.j0 k a1 a3 true l0_0 a0_1 a0_2 l2_0 a2_1 a2_2))) else (impl_MixAtoms.j0 k a1 a3 true l0_0 a0_1 a0_2 l2_0 a2_1 a2_2))) = some (r1, r2, r3, r4) := h
 clear h
 have HC5 := Aside0.mk H
 clear H
 go_enter Try.func9, Try.ntmps9
 go_upto_region 1 with (first | ((with_reducible refine gate_dst (N := 4) rfl ?_); (try (refine gate_guard (by rfl) ?_; dsimp only)); refine box_event ?hg (N := 4) ?hd (cs := #[.slice A0_0 l0_0.length c0_0, .int .i64 a0_1, .bool a0_2]) (t := 26) ?hr ?_; (case hd => rfl); (case hg => rfl); (case hr => first | (go_simp; done) | (go_simp; rfl)); intro qe hg w6 hbox hb; have qa := Aside0.mk (hbox); have Zc := Aside0.mk ((by rw [hg]; exact (bz_ HB) : w.heap.size ≤ qe)); have Zd := Aside0.mk ((by rw [hg]; exact (bz_ HB) : w.heap.size ≤ qe)); replace HB := bS_ HB hb; clear hb hbox hg) | ((with_reducible refine gate_dst (N := 6) rfl ?_); (try (refine gate_guard (by rfl) ?_; dsimp only)); refine box_event ?hg (N := 6) ?hd (cs := #[.slice A2_0 l2_0.length c2_0, .int .i64 a2_1, .bool a2_2]) (t := 26) ?hr ?_; (case hd => rfl); (case hg => rfl); (case hr => first | (go_simp; done) | (go_simp; rfl)); intro qf hg w7 hbox hb; have qb := Aside0.mk (hbox); have Ze := Aside0.mk ((by rw [hg]; exact (bz_ HB) : w.heap.size ≤ qf)); have Zf := Aside0.mk ((by rw [hg]; exact (bz_ HB) : w.heap.size ≤ qf)); replace HB := bS_ HB hb; have ql := Aside0.mk ((nl_ qa hg : qe ≠ qf)); have qm := Aside0.mk ((ng_ qa hg : qf ≠ qe)); replace qa := kB_ qa hb; clear hb hbox hg) | ((with_reducible refine gate_dst (N := 8) rfl ?_); (try (refine gate_guard (by rfl) ?_; dsimp only)); refine box_event ?hg (N := 8) ?hd (cs := #[.slice none 0 0, .int .i64 0, .bool false]) (t := 26) ?hr ?_; (case hd => rfl); (case hg => rfl); (case hr => first | (go_simp; done) | (go_simp; rfl)); intro qd hg w8 hbox hb; have qc := Aside0.mk (hbox); have Zg := Aside0.mk ((by rw [hg]; exact (bz_ HB) : w.heap.size ≤ qd)); have Zh := Aside0.mk ((by rw [hg]; exact (bz_ HB) : w.heap.size ≤ qd)); replace HB := bS_ HB hb; have qi := Aside0.mk ((nl_ qa hg : qe ≠ qd)); have qj := Aside0.mk ((ng_ qa hg : qd ≠ qe)); replace qa := kB_ qa hb; have qn := Aside0.mk ((nl_ qb hg : qf ≠ qd)); have qo := Aside0.mk ((ng_ qb hg : qd ≠ qf)); replace qb := kB_ qb hb; clear hb hbox hg))
 (try simp only [Act.put, List.setIfInBounds_toArray, List.set_cons_zero, List.set_cons_succ])
 go_cut [28] (fun v28 wc => ∃ (kq : Nat) (zg : Bool), v28 = .bool zg ∧ Aside0 (impl_MixAtoms.j0 kq a1 a3 zg l0_0 a0_1 a0_2 l2_0 a2_1 a2_2 = some (r1, r2, r3, r4)) ∧ Aside0 (kq ≤ k) ∧ Aside0 (wc.heap[qe]? = some (.cells #[(.slice A0_0 l0_0.length c0_0), .int .i64 a0_1, .bool a0_2] 26 (0, 0))) ∧ Aside0 (wc.heap[qf]? = some (.cells #[(.slice A2_0 l2_0.length c2_0), .int .i64 a2_1, .bool a2_2] 26 (0, 0))) ∧ Aside0 (wc.heap[qd]? = some (.cells #[(.slice none 0 0), .int .i64 0, .bool false] 26 (0, 0))) ∧ Aside0 (Below w.heap.size w wc))
 case first =>
  have H := HC5.out
  clear HC5
  replace H := Option.bind_eq_some_iff.mp H
  obtain ⟨zp, A90, H⟩ := H
  replace H : (if zp = true then ((impl_IsAtom.f k l2_0 a2_1 a2_2).bind fun qx => (if qx = true then (impl_MixAtoms.j0 k a1 a3 ((l0_0.length : Int) != (l2_0.length : Int)) l0_0 a0_1 a0_2 l2_0 a2_1 a2_2) else (impl_MixAtoms.j0 k a1 a3 true l0_0 a0_1 a0_2 l2_0 a2_1 a2_2))) else (impl_MixAtoms.j0 k a1 a3 true l0_0 a0_1 a0_2 l2_0 a2_1 a2_2)) = some (r1, r2, r3, r4) := H
  have A9 := Aside0.mk A90
  clear A90
  by_cases c10 : zp = true
  ·
   subst c10
   have H1 : ((impl_IsAtom.f k l2_0 a2_1 a2_2).bind fun qx => (if qx = true then (impl_MixAtoms.j0 k a1 a3 ((l0_0.length : Int) != (l2_0.length : Int)) l0_0 a0_1 a0_2 l2_0 a2_1 a2_2) else (impl_MixAtoms.j0 k a1 a3 true l0_0 a0_1 a0_2 l2_0 a2_1 a2_2))) = some (r1, r2, r3, r4) := by rw [if_pos rfl] at H; exact H
   clear H
   have H := H1
   clear H1
   replace H := Option.bind_eq_some_iff.mp H
   obtain ⟨qx, A110, H⟩ := H
   replace H : (if qx = true then (impl_MixAtoms.j0 k a1 a3 ((l0_0.length : Int) != (l2_0.length : Int)) l0_0 a0_1 a0_2 l2_0 a2_1 a2_2) else (impl_MixAtoms.j0 k a1 a3 true l0_0 a0_1 a0_2 l2_0 a2_1 a2_2)) = some (r1, r2, r3, r4) := H
   have A11 := Aside0.mk A110
   clear A110
   by_cases c12 : qx = true
   ·
    subst c12
    have H1 : (impl_MixAtoms.j0 k a1 a3 ((l0_0.length : Int) != (l2_0.length : Int)) l0_0 a0_1 a0_2 l2_0 a2_1 a2_2) = some (r1, r2, r3, r4) := by rw [if_pos rfl] at H; exact H
    clear H
    have H := H1
    clear H1
    have H' := Aside0.mk H
    clear H
    have Zi := ql.out
    have Zj := qm.out
    have Zk := qi.out
    have Zl := qj.out
    have qy : w8.cell? ⟨qe, 0, none⟩ = some (.slice A0_0 l0_0.length c0_0) := bc_ qa 0
    have qz : w8.cell? ⟨qe, 1, none⟩ = some (.int .i64 a0_1) := bc_ qa 1
    have qA : w8.cell? ⟨qe, 2, none⟩ = some (.bool a0_2) := bc_ qa 2
    have qB := blk_frozen qa.out 0
    have qC := blk_frozen qa.out 1
    have qD := blk_frozen qa.out 2
    go_wp2_with (first | ((with_reducible refine gate_callee (f := 38) rfl ?_); refine goesL_ (some 13) rfl rfl Try.func38 (by kernel_rfl) rfl #[.agg #[.slice A0_0 l0_0.length c0_0, .int .i64 a0_1, .bool a0_2]] rfl (by (try simp only [List.map_toArray, List.map_cons, List.map_nil]); first | done | rfl | (simp only [List.length_drop, List.length_take]; rfl)) ?_; (with_reducible refine (impl_IsAtom.calls k _ _ l0_0 a0_1 a0_2 true _ ?side1 ?side2 A9.out).mono ?_); (case side1 => exact cb_ zf HB); (case side2 => exact zx.out); rintro e QZ ⟨rfl, hb⟩; refine ⟨_, rfl, ?_⟩; replace qa := kB_ qa hb; replace qb := kB_ qb hb; replace qc := kB_ qc hb; replace HB := bS_ HB hb; (try clear hb); (try clear hb2); (try clear hk); (try clear hi); have Zm := qn.out; have Zn := qo.out; have qE : QZ.cell? ⟨qf, 0, none⟩ = some (.slice A2_0 l2_0.length c2_0) := bc_ qb 0; have qF : QZ.cell? ⟨qf, 1, none⟩ = some (.int .i64 a2_1) := bc_ qb 1; have qG : QZ.cell? ⟨qf, 2, none⟩ = some (.bool a2_2) := bc_ qb 2; have qH := blk_frozen qb.out 0; have qI := blk_frozen qb.out 1; have qJ := blk_frozen qb.out 2) | (go_at_call 38; (with_reducible refine (impl_IsAtom.calls k _ _ l2_0 a2_1 a2_2 true _ ?side1 ?side2 A11.out).mono ?_); (case side1 => exact cb_ zy HB); (case side2 => exact z6.out); rintro e ji ⟨rfl, hb⟩; replace qa := kB_ qa hb; replace qb := kB_ qb hb; replace qc := kB_ qc hb; replace HB := bS_ HB hb; (try clear hb); (try clear hb2); (try clear hk); (try clear hi); have qK : ji.cell? ⟨qe, 0, none⟩ = some (.slice A0_0 l0_0.length c0_0) := bc_ qa 0; have qL : ji.cell? ⟨qe, 1, none⟩ = some (.int .i64 a0_1) := bc_ qa 1; have qM : ji.cell? ⟨qe, 2, none⟩ = some (.bool a0_2) := bc_ qa 2; have qN := blk_frozen qa.out 0; have qO := blk_frozen qa.out 1; have qP := blk_frozen qa.out 2; have qQ : ji.cell? ⟨qf, 0, none⟩ = some (.slice A2_0 l2_0.length c2_0) := bc_ qb 0; have qR : ji.cell? ⟨qf, 1, none⟩ = some (.int .i64 a2_1) := bc_ qb 1; have qS : ji.cell? ⟨qf, 2, none⟩ = some (.bool a2_2) := bc_ qb 2; have qT := blk_frozen qb.out 0; have qU := blk_frozen qb.out 1; have qV := blk_frozen qb.out 2))
    go_meet
    case rel => exact ⟨_, (((l0_0.length : Int) != (l2_0.length : Int))), (by first | rfl | (simp; done) | (simp [*]; done)), H', ⟨by first | omega | exact Nat.le_refl _⟩, ⟨kf_ qa⟩, ⟨kf_ qb⟩, ⟨kf_ qc⟩, ⟨bb_ HB⟩⟩
   ·
    replace c12 := Bool.eq_false_iff.mpr c12
    subst c12
    have H1 : (impl_MixAtoms.j0 k a1 a3 true l0_0 a0_1 a0_2 l2_0 a2_1 a2_2) = some (r1, r2, r3, r4) := by rw [if_neg (show ¬ (false = true) by decide)] at H; exact H
    clear H
    have H := H1
    clear H1
    have H' := Aside0.mk H
    clear H
    have Zo := ql.out
    have Zp := qm.out
    have Zq := qi.out
    have Zr := qj.out
    have qW : w8.cell? ⟨qe, 0, none⟩ = some (.slice A0_0 l0_0.length c0_0) := bc_ qa 0
    have qX : w8.cell? ⟨qe, 1, none⟩ = some (.int .i64 a0_1) := bc_ qa 1
    have qY : w8.cell? ⟨qe, 2, none⟩ = some (.bool a0_2) := bc_ qa 2
    have qZ := blk_frozen qa.out 0
    have q0 := blk_frozen qa.out 1
    have q1 := blk_frozen qa.out 2
    go_wp2_with (first | ((with_reducible refine gate_callee (f := 38) rfl ?_); refine goesL_ (some 13) rfl rfl Try.func38 (by kernel_rfl) rfl #[.agg #[.slice A0_0 l0_0.length c0_0, .int .i64 a0_1, .bool a0_2]] rfl (by (try simp only [List.map_toArray, List.map_cons, List.map_nil]); first | done | rfl | (simp only [List.length_drop, List.length_take]; rfl)) ?_; (with_reducible refine (impl_IsAtom.calls k _ _ l0_0 a0_1 a0_2 true _ ?side1 ?side2 A9.out).mono ?_); (case side1 => exact cb_ zf HB); (case side2 => exact zx.out); rintro e Q0 ⟨rfl, hb⟩; refine ⟨_, rfl, ?_⟩; replace qa := kB_ qa hb; replace qb := kB_ qb hb; replace qc := kB_ qc hb; replace HB := bS_ HB hb; (try clear hb); (try clear hb2); (try clear hk); (try clear hi); have Zs := qn.out; have Zt := qo.out; have q2 : Q0.cell? ⟨qf, 0, none⟩ = some (.slice A2_0 l2_0.length c2_0) := bc_ qb 0; have q3 : Q0.cell? ⟨qf, 1, none⟩ = some (.int .i64 a2_1) := bc_ qb 1; have q4 : Q0.cell? ⟨qf, 2, none⟩ = some (.bool a2_2) := bc_ qb 2; have q5 := blk_frozen qb.out 0; have q6 := blk_frozen qb.out 1; have q7 := blk_frozen qb.out 2) | (go_at_call 38; (with_reducible refine (impl_IsAtom.calls k _ _ l2_0 a2_1 a2_2 false _ ?side1 ?side2 A11.out).mono ?_); (case side1 => exact cb_ zy HB); (case side2 => exact z6.out); rintro e Jk ⟨rfl, hb⟩; replace qa := kB_ qa hb; replace qb := kB_ qb hb; replace qc := kB_ qc hb; replace HB := bS_ HB hb; (try clear hb); (try clear hb2); (try clear hk); (try clear hi)))
    go_meet
    case rel => exact ⟨_, (true), (by first | rfl | (simp; done) | (simp [*]; done)), H', ⟨by first | omega | exact Nat.le_refl _⟩, ⟨kf_ qa⟩, ⟨kf_ qb⟩, ⟨kf_ qc⟩, ⟨bb_ HB⟩⟩
  ·
   replace c10 := Bool.eq_false_iff.mpr c10
   subst c10
   have H1 : (impl_MixAtoms.j0 k a1 a3 true l0_0 a0_1 a0_2 l2_0 a2_1 a2_2) = some (r1, r2, r3, r4) := by rw [if_neg (show ¬ (false = true) by decide)] at H; exact H
   clear H
   have H := H1
   clear H1
   have H' := Aside0.mk H
   clear H
   have Zu := ql.out
   have Zv := qm.out
   have Zw := qi.out
   have Zx := qj.out
   have q8 : w8.cell? ⟨qe, 0, none⟩ = some (.slice A0_0 l0_0.length c0_0) := bc_ qa 0
   have q9 : w8.cell? ⟨qe, 1, none⟩ = some (.int .i64 a0_1) := bc_ qa 1
   have za : w8.cell? ⟨qe, 2, none⟩ = some (.bool a0_2) := bc_ qa 2
   have zb := blk_frozen qa.out 0
   have zc := blk_frozen qa.out 1
   have zd := blk_frozen qa.out 2
   go_wp2_with (first | ((with_reducible refine gate_callee (f := 38) rfl ?_); refine goesL_ (some 13) rfl rfl Try.func38 (by kernel_rfl) rfl #[.agg #[.slice A0_0 l0_0.length c0_0, .int .i64 a0_1, .bool a0_2]] rfl (by (try simp only [List.map_toArray, List.map_cons, List.map_nil]); first | done | rfl | (simp only [List.length_drop, List.length_take]; rfl)) ?_; (with_reducible refine (impl_IsAtom.calls k _ _ l0_0 a0_1 a0_2 false _ ?side1 ?side2 A9.out).mono ?_); (case side1 => exact cb_ zf HB); (case side2 => exact zx.out); rintro e Jl ⟨rfl, hb⟩; refine ⟨_, rfl, ?_⟩; replace qa := kB_ qa hb; replace qb := kB_ qb hb; replace qc := kB_ qc hb; replace HB := bS_ HB hb; (try clear hb); (try clear hb2); (try clear hk); (try clear hi)))
   go_meet
   case rel => exact ⟨_, (true), (by first | rfl | (simp; done) | (simp [*]; done)), H', ⟨by first | omega | exact Nat.le_refl _⟩, ⟨kf_ qa⟩, ⟨kf_ qb⟩, ⟨kf_ qc⟩, ⟨bb_ HB⟩⟩
 case rest =>
  clear HC5
  try clear c1
  try clear c2
  try clear p2
  try clear c3
  try clear c9
  try clear c10
  try clear c12
  try clear c13
  try clear c14
  try clear c17
  try clear c22
  try clear c23
  try clear c26
  try clear c29
  try clear c30
  try clear qy
  try clear qz
  try clear qA
  try clear qE
  try clear qF
  try clear qG
  try clear qK
  try clear qL
  try clear qM
  try clear qQ
  try clear qR
  try clear qS
  try clear qW
  try clear qX
  try clear qY
  try clear q2
  try clear q3
  try clear q4
  try clear q8
  try clear q9
  try clear za
  try clear qB
  try clear qC
  try clear qD
  try clear qH
  try clear qI
  try clear qJ
  try clear qN
  try clear qO
  try clear qP
  try clear qT
  try clear qU
  try clear qV
  try clear qZ
  try clear q0
  try clear q1
  try clear q5
  try clear q6
  try clear q7
  try clear zb
  try clear zc
  try clear zd
  obtain ⟨kq, zg, rfl, HA, HJ4, qa, qb, qc, HB⟩ := hcut
  cases kq with
  | zero => exact absurd HA.out (by simp [impl_MixAtoms.j0])
  | succ kj4 =>
   have H := HA.out
   clear HA
   simp only [impl_MixAtoms.j0] at H
   by_cases c33 : zg = true
   ·
    subst c33
    have H1 : (some (([] : List Int), 0, false, false)) = some (r1, r2, r3, r4) := by rw [if_pos rfl] at H; exact H
    clear H
    have H := H1
    clear H1
    simp only [Option.some.injEq, Prod.mk.injEq] at H
    obtain ⟨rfl, rfl, rfl, rfl⟩ := H
    have Zy := qj.out
    have Zz := qi.out
    have ZA := qo.out
    have ZB := qn.out
    have zh : wc.cell? ⟨qd, 0, none⟩ = some (.slice none 0 0) := bc_ qc 0
    have zi : wc.cell? ⟨qd, 1, none⟩ = some (.int .i64 0) := bc_ qc 1
    have zj : wc.cell? ⟨qd, 2, none⟩ = some (.bool false) := bc_ qc 2
    have zk := blk_frozen qc.out 0
    have zl := blk_frozen qc.out 1
    have zm := blk_frozen qc.out 2
    go_wp2
    refine bodyPost_ret (results_ct rfl _ _ qd 26 #[.slice none 0 0, .int .i64 0, .bool false] (0, 0) _ rfl (by (with_reducible repeat (first | refine blk_drewN ?_ _ | refine blk_drew ?_ | refine blk_alloc ?_ _)); refine blk_put (cs := #[.slice none 0 0, .int .i64 0, .bool false]) ?_ 2 _ rfl; (with_reducible repeat (first | refine blk_drewN ?_ _ | refine blk_drew ?_ | refine blk_alloc ?_ _)); refine blk_put (cs := #[.slice none 0 0, .int .i64 0, .bool false]) ?_ 1 _ rfl; (with_reducible repeat (first | refine blk_drewN ?_ _ | refine blk_drew ?_ | refine blk_alloc ?_ _)); refine blk_put (cs := #[.slice none 0 0, .int .i64 0, .bool false]) ?_ 0 _ rfl; (with_reducible repeat (first | refine blk_drewN ?_ _ | refine blk_drew ?_ | refine blk_alloc ?_ _)); exact qc.out) Try.underlying26 rfl (by kernel_rfl)) rfl ?_
    exact ⟨_, by first | rfl | (simp [errW_none, errW_some] <;> rfl) | (simp [*, errW_none, errW_some] <;> rfl), by first | exact Kd.R_nil _ _ _ _ _ | exact Kd.N_nil _ _ _ _ _ | exact Kd.V_nil _ _ _ _ _ | exact Kd.Q_nil _ _ _ _ _ | exact Kd.S_nil _ _ _ _ _, bb_ HB⟩
   ·
    replace c33 := Bool.eq_false_iff.mpr c33
    subst c33
    have H1 : (if a1 < 0 then (impl_MixAtoms.j1 kj4 a1 a3 true l0_0 a0_1 a0_2 l2_0 a2_1 a2_2) else (if a1 > 400000000 then (impl_MixAtoms.j1 kj4 a1 a3 true l0_0 a0_1 a0_2 l2_0 a2_1 a2_2) else (if a3 < 0 then (impl_MixAtoms.j1 kj4 a1 a3 true l0_0 a0_1 a0_2 l2_0 a2_1 a2_2) else (impl_MixAtoms.j1 kj4 a1 a3 (decide (a3 > 400000000)) l0_0 a0_1 a0_2 l2_0 a2_1 a2_2)))) = some (r1, r2, r3, r4) := by rw [if_neg (show ¬ (false = true) by decide)] at H; exact H
    clear H
    have H := H1
    clear H1
    have HC37 := Aside0.mk H
    clear H
    go_upto_region 3 with (fail)
    go_cut [43] (fun v43 wc => ∃ (kq : Nat) (ze : Bool), v43 = .bool ze ∧ Aside0 (impl_MixAtoms.j1 kq a1 a3 ze l0_0 a0_1 a0_2 l2_0 a2_1 a2_2 = some (r1, r2, r3, r4)) ∧ Aside0 (kq ≤ kj4) ∧ Aside0 (wc.heap[qe]? = some (.cells #[(.slice A0_0 l0_0.length c0_0), .int .i64 a0_1, .bool a0_2] 26 (0, 0))) ∧ Aside0 (wc.heap[qf]? = some (.cells #[(.slice A2_0 l2_0.length c2_0), .int .i64 a2_1, .bool a2_2] 26 (0, 0))) ∧ Aside0 (wc.heap[qd]? = some (.cells #[(.slice none 0 0), .int .i64 0, .bool false] 26 (0, 0))) ∧ Aside0 (Below w.heap.size w wc))
    case first =>
     have H := HC37.out
     clear HC37
     by_cases c38 : a1 < 0
     ·
      rw [if_pos c38] at H
      have qw : decide (a1 < 0) = true := decide_eq_true c38
      clear c38
      (first | rw [qw] | (simp only [i64_w, i32_w]; rw [qw]) | skip)
      have H' := Aside0.mk H
      clear H
      go_wp2
      go_meet
      case rel => exact ⟨_, (true), (by first | rfl | (simp; done) | (simp [*]; done)), H', ⟨by have := HJ4.out; first | omega | exact Nat.le_refl _⟩, ⟨kf_ qa⟩, ⟨kf_ qb⟩, ⟨kf_ qc⟩, ⟨bb_ HB⟩⟩
     ·
      rw [if_neg c38] at H
      have qw : decide (a1 < 0) = false := decide_eq_false c38
      clear c38
      (first | rw [qw] | (simp only [i64_w, i32_w]; rw [qw]) | skip)
      by_cases c39 : a1 > 400000000
      ·
       rw [if_pos c39] at H
       have zz : decide (400000000 < a1) = true := decide_eq_true c39
       clear c39
       have H' := Aside0.mk H
       clear H
       go_wp2
       go_meet
       case rel => exact ⟨_, (true), (by first | rfl | (simp; done) | (simp [*]; done)), H', ⟨by have := HJ4.out; first | omega | exact Nat.le_refl _⟩, ⟨kf_ qa⟩, ⟨kf_ qb⟩, ⟨kf_ qc⟩, ⟨bb_ HB⟩⟩
      ·
       rw [if_neg c39] at H
       have zz : decide (400000000 < a1) = false := decide_eq_false c39
       clear c39
       by_cases c40 : a3 < 0
       ·
        rw [if_pos c40] at H
        have zA : decide (a3 < 0) = true := decide_eq_true c40
        clear c40
        have H' := Aside0.mk H
        clear H
        go_wp2
        go_meet
        case rel => exact ⟨_, (true), (by first | rfl | (simp; done) | (simp [*]; done)), H', ⟨by have := HJ4.out; first | omega | exact Nat.le_refl _⟩, ⟨kf_ qa⟩, ⟨kf_ qb⟩, ⟨kf_ qc⟩, ⟨bb_ HB⟩⟩
       ·
        rw [if_neg c40] at H
        have zA : decide (a3 < 0) = false := decide_eq_false c40
        clear c40
        have H' := Aside0.mk H
        clear H
        go_wp2
        go_meet
        case rel => exact ⟨_, (decide (a3 > 400000000)), (by first | rfl | (simp; done) | (simp [*]; done)), H', ⟨by have := HJ4.out; first | omega | exact Nat.le_refl _⟩, ⟨kf_ qa⟩, ⟨kf_ qb⟩, ⟨kf_ qc⟩, ⟨bb_ HB⟩⟩
    case rest =>
     clear HC37
     try clear c1
     try clear c2
     try clear p2
     try clear c3
     try clear c4
     try clear c9
     try clear c10
     try clear c12
     try clear c13
     try clear c14
     try clear c17
     try clear c22
     try clear c23
     try clear c26
     try clear c29
     try clear c30
     try clear c33
     try clear c34
     try clear c35
     try clear c38
     try clear qw
     try clear c39
     try clear zz
     try clear c40
     try clear zA
     try clear qy
     try clear qz
     try clear qA
     try clear qE
     try clear qF
     try clear qG
     try clear qK
     try clear qL
     try clear qM
     try clear qQ
     try clear qR
     try clear qS
     try clear qW
     try clear qX
     try clear qY
     try clear q2
     try clear q3
     try clear q4
     try clear q8
     try clear q9
     try clear za
     try clear zh
     try clear zi
     try clear zj
     try clear qB
     try clear qC
     try clear qD
     try clear qH
     try clear qI
     try clear qJ
     try clear qN
     try clear qO
     try clear qP
     try clear qT
     try clear qU
     try clear qV
     try clear qZ
     try clear q0
     try clear q1
     try clear q5
     try clear q6
     try clear q7
     try clear zb
     try clear zc
     try clear zd
     try clear zk
     try clear zl
     try clear zm
     try clear p2
     obtain ⟨kq, ze, rfl, HA, HJ36, qa, qb, qc, HB⟩ := hcut
     cases kq with
     | zero => exact absurd HA.out (by simp [impl_MixAtoms.j1])
     | succ kj36 =>
      have H := HA.out
      clear HA
      simp only [impl_MixAtoms.j1] at H
      by_cases c41 : ze = true
      ·
       subst c41
       have H1 : (some (([] : List Int), 0, false, false)) = some (r1, r2, r3, r4) := by rw [if_pos rfl] at H; exact H
       clear H
       have H := H1
       clear H1
       simp only [Option.some.injEq, Prod.mk.injEq] at H
       obtain ⟨rfl, rfl, rfl, rfl⟩ := H
       have ZC := qj.out
       have ZD := qi.out
       have ZE := qo.out
       have ZF := qn.out
       have zH : wc.cell? ⟨qd, 0, none⟩ = some (.slice none 0 0) := bc_ qc 0
       have zI : wc.cell? ⟨qd, 1, none⟩ = some (.int .i64 0) := bc_ qc 1
       have zJ : wc.cell? ⟨qd, 2, none⟩ = some (.bool false) := bc_ qc 2
       have zK := blk_frozen qc.out 0
       have zL := blk_frozen qc.out 1
       have zM := blk_frozen qc.out 2
       go_wp2
       refine bodyPost_ret (results_ct rfl _ _ qd 26 #[.slice none 0 0, .int .i64 0, .bool false] (0, 0) _ rfl (by (with_reducible repeat (first | refine blk_drewN ?_ _ | refine blk_drew ?_ | refine blk_alloc ?_ _)); refine blk_put (cs := #[.slice none 0 0, .int .i64 0, .bool false]) ?_ 2 _ rfl; (with_reducible repeat (first | refine blk_drewN ?_ _ | refine blk_drew ?_ | refine blk_alloc ?_ _)); refine blk_put (cs := #[.slice none 0 0, .int .i64 0, .bool false]) ?_ 1 _ rfl; (with_reducible repeat (first | refine blk_drewN ?_ _ | refine blk_drew ?_ | refine blk_alloc ?_ _)); refine blk_put (cs := #[.slice none 0 0, .int .i64 0, .bool false]) ?_ 0 _ rfl; (with_reducible repeat (first | refine blk_drewN ?_ _ | refine blk_drew ?_ | refine blk_alloc ?_ _)); exact qc.out) Try.underlying26 rfl (by kernel_rfl)) rfl ?_
       exact ⟨_, by first | rfl | (simp [errW_none, errW_some] <;> rfl) | (simp [*, errW_none, errW_some] <;> rfl), by first | exact Kd.R_nil _ _ _ _ _ | exact Kd.N_nil _ _ _ _ _ | exact Kd.V_nil _ _ _ _ _ | exact Kd.Q_nil _ _ _ _ _ | exact Kd.S_nil _ _ _ _ _, bb_ HB⟩
      ·
       replace c41 := Bool.eq_false_iff.mpr c41
       subst c41
       have H1 : (if 0 ≤ (l0_0.length : Int) then (if ((l0_0.length : Int) : Int).toNat ≤ 35184372088832 then ((some (List.replicate ((l0_0.length : Int) : Int).toNat 0 : List Int)).bind fun y265 => (impl_MixAtoms.l0 kj36 a1 a3 y265 (y265.length : Int) 0 l0_0 a0_1 a0_2 l2_0 a2_1 a2_2)) else (none)) else (none)) = some (r1, r2, r3, r4) := by rw [if_neg (show ¬ (false = true) by decide)] at H; exact H
       clear H
       have H := H1
       clear H1
       by_cases c45 : 0 ≤ (l0_0.length : Int)
       ·
        rw [if_pos c45] at H
        have jj := eq_true c45
        have jk : decide (0 ≤ (l0_0.length : Int)) = true := decide_eq_true c45
        clear c45
        by_cases c46 : ((l0_0.length : Int) : Int).toNat ≤ 35184372088832
        ·
         rw [if_pos c46] at H
         have jl := eq_true c46
         have jm : decide (((l0_0.length : Int) : Int).toNat ≤ 35184372088832) = true := decide_eq_true c46
         clear c46
         obtain ⟨y265, hy265⟩ : ∃ y_ : List Int, y_ = (List.replicate ((l0_0.length : Int) : Int).toNat 0) := ⟨_, rfl⟩
         replace H : (impl_MixAtoms.l0 kj36 a1 a3 y265 (y265.length : Int) 0 l0_0 a0_1 a0_2 l2_0 a2_1 a2_2) = some (r1, r2, r3, r4) := by first | (rw [hy265]; with_reducible exact H) | (have H2_ := (Option.bind_some _ _).symm.trans H; rw [hy265]; with_reducible exact H2_) | (have H2_ := (Option.bind_some _ _).symm.trans H; with_reducible exact H2_) | with_reducible exact H | (rw [hy265]; exact H) | exact H
         have Ny265 := Aside0.mk hy265
         clear hy265
         have H' := Aside0.mk H
         clear H
         have ZG := ql.out
         have ZH := qm.out
         have ZI := qi.out
         have ZJ := qj.out
         have zN : wc.cell? ⟨qe, 0, none⟩ = some (.slice A0_0 l0_0.length c0_0) := bc_ qa 0
         have zO : wc.cell? ⟨qe, 1, none⟩ = some (.int .i64 a0_1) := bc_ qa 1
         have zP : wc.cell? ⟨qe, 2, none⟩ = some (.bool a0_2) := bc_ qa 2
         have zQ := blk_frozen qa.out 0
         have zR := blk_frozen qa.out 1
         have zS := blk_frozen qa.out 2
         go_wp2_with (first | ((with_reducible refine gate_dst (N := 48) rfl ?_); (try (refine gate_guard (by rfl) ?_; dsimp only)); refine Kd.R_make (Kd.int .i64) _ 3 rfl (N := 48) rfl 24 _ _ rfl (l0_0.length : Int) rfl rfl Try.underlying24 (.int .i64 0) 8 info3 rfl (by decide) (by omega) 0 (ok := fun _ => True) (okp := fun _ => True) rfl (fun _ hk => hk) trivial (of_decide_eq_true (by first | (with_reducible assumption) | assumption)) (Nat.le_trans (Nat.mul_le_mul_right _ (of_decide_eq_true (by first | (with_reducible assumption) | assumption) : (l0_0.length : Int).toNat ≤ 35184372088832)) (by omega)) (Below.refl _ _) (Nat.le_refl _) ?_; intro Jc Jm ho51 hb hg_ hnew_; clear hg_ hnew_; (first | rw [← Ny265.out] at ho51 | (simp only [Int.reduceToNat] at ho51; rw [← Ny265.out] at ho51)); have z7 := Aside0.mk (Kd.R_lower ho51 (bz_ HB)); replace qa := kB_ qa hb; replace qb := kB_ qb hb; replace qc := kB_ qc hb; replace HB := bS_ HB hb; clear hb ho51; obtain ⟨zq, zr, eo52⟩ := Kd.R_slice z7.out; subst eo52))
         go_loopg [51] kj36 (fun kq v51 w' => ∃ (qk : List Int) (qh : Int), v51 = .int .i64 qh ∧ Aside0 (impl_MixAtoms.l0 kq a1 a3 qk (y265.length : Int) qh l0_0 a0_1 a0_2 l2_0 a2_1 a2_2 = some (r1, r2, r3, r4)) ∧ Aside0 (kq ≤ kj36) ∧ Aside0 (Kd.R (Kd.int .i64) 3 w' w.heap.size (fun _ => True) (.slice zq y265.length zr) qk) ∧ Aside0 (w'.heap[qe]? = some (.cells #[(.slice A0_0 l0_0.length c0_0), .int .i64 a0_1, .bool a0_2] 26 (0, 0))) ∧ Aside0 (w'.heap[qf]? = some (.cells #[(.slice A2_0 l2_0.length c2_0), .int .i64 a2_1, .bool a2_2] 26 (0, 0))) ∧ Aside0 (w'.heap[qd]? = some (.cells #[(.slice none 0 0), .int .i64 0, .bool false] 26 (0, 0))) ∧ Aside0 (Below w.heap.size w w'))
         case atStart => exact ⟨(y265), (0), (by first | rfl | (simp; done) | (simp [*]; done)), H', ⟨Nat.le_refl _⟩, ⟨by (with_reducible repeat (first | apply Kd.R_alloc | apply Kd.R_drewN | apply Kd.R_drew)); exact z7.out⟩, ⟨kf_ qa⟩, ⟨kf_ qb⟩, ⟨kf_ qc⟩, ⟨bb_ HB⟩⟩
         case round =>
          clear H'
          try clear c1
          try clear c2
          try clear p2
          try clear c3
          try clear c4
          try clear c9
          try clear c10
          try clear c12
          try clear c13
          try clear c14
          try clear c17
          try clear c22
          try clear c23
          try clear c26
          try clear c29
          try clear c30
          try clear c33
          try clear c34
          try clear c35
          try clear c38
          try clear qw
          try clear c39
          try clear zz
          try clear c40
          try clear zA
          try clear c41
          try clear c42
          try clear c43
          try clear c45
          try clear jj
          try clear jk
          try clear c46
          try clear jl
          try clear jm
          try clear c47
          try clear c48
          try clear qy
          try clear qz
          try clear qA
          try clear qE
          try clear qF
          try clear qG
          try clear qK
          try clear qL
          try clear qM
          try clear qQ
          try clear qR
          try clear qS
          try clear qW
          try clear qX
          try clear qY
          try clear q2
          try clear q3
          try clear q4
          try clear q8
          try clear q9
          try clear za
          try clear zh
          try clear zi
          try clear zj
          try clear zH
          try clear zI
          try clear zJ
          try clear zN
          try clear zO
          try clear zP
          try clear qB
          try clear qC
          try clear qD
          try clear qH
          try clear qI
          try clear qJ
          try clear qN
          try clear qO
          try clear qP
          try clear qT
          try clear qU
          try clear qV
          try clear qZ
          try clear q0
          try clear q1
          try clear q5
          try clear q6
          try clear q7
          try clear zb
          try clear zc
          try clear zd
          try clear zk
          try clear zl
          try clear zm
          try clear zK
          try clear zL
          try clear zM
          try clear zQ
          try clear zR
          try clear zS
          try clear p2
          obtain ⟨qk, qh, rfl, HA, HK3, qg, qa, qb, qc, HB⟩ := hrel
          have hl10_3 := (Kd.R_reads' qg.out).1
          rw [hl10_3] at qg
          (try simp only [hl10_3])
          (try simp only [hl10_3] at qa)
          (try simp only [hl10_3] at qb)
          (try simp only [hl10_3] at qc)
          cases gk with
          | zero => exact absurd HA.out (by simp [impl_MixAtoms.l0])
          | succ k3 =>
           have H := HA.out
           clear HA
           simp only [impl_MixAtoms.l0] at H
           by_cases c53 : qh < (y265.length : Int)
           ·
            rw [if_pos c53] at H
            have zB : decide (qh < (y265.length : Int)) = true := decide_eq_true c53
            have c53z := zB
            (try rw [hl10_3] at c53z)
            clear c53
            by_cases c54 : 0 ≤ qh
            ·
             rw [if_pos c54] at H
             have ZK : decide (0 ≤ qh) = true := decide_eq_true c54
             clear c54
             by_cases c55 : qh < (l0_0.length : Int)
             ·
              rw [if_pos c55] at H
              have ZL : decide (qh < (l0_0.length : Int)) = true := decide_eq_true c55
              clear c55
              by_cases c56 : qh < (l2_0.length : Int)
              ·
               rw [if_pos c56] at H
               have ZM : decide (qh < (l2_0.length : Int)) = true := decide_eq_true c56
               clear c56
               by_cases c57 : qh < (qk.length : Int)
               ·
                rw [if_pos c57] at H
                have ZN : decide (qh < (qk.length : Int)) = true := decide_eq_true c57
                clear c57
                obtain ⟨y270, hy270⟩ : ∃ y_ : List Int, y_ = (qk.set (qh : Int).toNat (wrap64 ((wrap64 (a1 * (rd l0_0 qh))) + (wrap64 (a3 * (rd l2_0 qh)))))) := ⟨_, rfl⟩
                replace H : (impl_MixAtoms.l0 k3 a1 a3 y270 (y265.length : Int) (wrap64 (qh + 1)) l0_0 a0_1 a0_2 l2_0 a2_1 a2_2) = some (r1, r2, r3, r4) := by first | (rw [hy270]; with_reducible exact H) | (have H2_ := (Option.bind_some _ _).symm.trans H; rw [hy270]; with_reducible exact H2_) | (have H2_ := (Option.bind_some _ _).symm.trans H; with_reducible exact H2_) | with_reducible exact H | (rw [hy270]; exact H) | exact H
                have Ny270 := Aside0.mk hy270
                clear hy270
                have H' := Aside0.mk H
                clear H
                try go_wp2
                replace qg := Aside0.mk (Kd.R_drew qg.out); replace qa := Aside0.mk (blk_drew qa.out); replace qb := Aside0.mk (blk_drew qb.out); replace qc := Aside0.mk (blk_drew qc.out); replace HB := Aside0.mk (below_drew1 HB.out)
                have p268 : 0 ≤ (qh : Int) := of_decide_eq_true (by first | (with_reducible assumption) | assumption)
                have q268 : qh < (l0_0.length : Int) := of_decide_eq_true (by first | (with_reducible assumption) | assumption)
                obtain ⟨z8, e268, qu⟩ := Kd.at_int zf.out qh p268 q268
                have hw268_0 := qu
                cases e268
                replace qu := (HB.out.cell (World.block_lt_of_cell? w _ qu)).trans qu
                replace p268 := eq_true p268
                replace q268 := eq_true q268
                have p269 : 0 ≤ (qh : Int) := of_decide_eq_true (by first | (with_reducible assumption) | assumption)
                have q269 : qh < (l2_0.length : Int) := of_decide_eq_true (by first | (with_reducible assumption) | assumption)
                obtain ⟨z9, e269, qv⟩ := Kd.at_int zy.out qh p269 q269
                have hw269_0 := qv
                cases e269
                replace qv := (HB.out.cell (World.block_lt_of_cell? w _ qv)).trans qv
                replace p269 := eq_true p269
                replace q269 := eq_true q269
                have p58 : 0 ≤ (qh : Int) := of_decide_eq_true (by first | (with_reducible assumption) | assumption)
                have q58 : (qh : Int) < ((qk.length : Int) : Int) := of_decide_eq_true (by first | (with_reducible assumption) | assumption)
                obtain ⟨go58, Jd, eo58, jn, gl58, cl58, HG58⟩ := Kd.R_form qg.out (by omega)
                (first | cases eo58 | (injection eo58 with ea_ en_ ec_; (first | subst ea_ | (injection ea_ with ea_; subst ea_)); subst ec_; clear en_))
                have Je := Aside0.mk jn
                have Q1 := Aside0.mk HG58
                clear jn gl58 HG58
                obtain ⟨jf, hf58_0⟩ := Kd.R_celln 0 qg.out (qh : Int) p58 q58
                replace p58 := eq_true p58
                replace q58 := eq_true q58
                have jg := Kd.R_putn qg.out (qh : Int) (wrap64 ((wrap64 (a1 * (rd l0_0 qh))) + (wrap64 (a3 * (rd l2_0 qh)))))
                rw [← Ny270.out] at jg
                have HQ60 := Aside0.mk jg
                clear jg
                refine start_ (n := 19) (S := fun w' => w'.cell? ⟨qe, 0, none⟩ = some (.slice (some z8) l0_0.length c0_0) ∧ w'.cell? ⟨qe, 1, none⟩ = some (.int .i64 a0_1) ∧ w'.cell? ⟨qe, 2, none⟩ = some (.bool a0_2) ∧ w'.cell? ⟨qf, 0, none⟩ = some (.slice (some z9) l2_0.length c2_0) ∧ w'.cell? ⟨qf, 1, none⟩ = some (.int .i64 a2_1) ∧ w'.cell? ⟨qf, 2, none⟩ = some (.bool a2_2) ∧ w'.cell? (z8.add (qh).toNat) = some (.int .i64 (rd l0_0 qh)) ∧ w'.cell? (z9.add (qh).toNat) = some (.int .i64 (rd l2_0 qh))) (ds := [18]) #[false, false, false, false, false, false, false, false, false, false, false, false, false, false, false, false, false, false, false] (by kernel_rfl) rfl rfl ⟨bc_ qa 0, bc_ qa 1, bc_ qa 2, bc_ qb 0, bc_ qb 1, bc_ qb 2, ((HB.out.cell (World.block_lt_of_cell? w _ hw268_0)).trans hw268_0), ((HB.out.cell (World.block_lt_of_cell? w _ hw269_0)).trans hw269_0)⟩ (fun hHeld => ?_); refine with_tabW impl_MixAtoms.tab9 impl_MixAtoms.bits9 (fun HT_ HW_ => ?_)
                generalize wr.drew = Jn at qg qa qb qc HB Q1 HQ60 hf58_0 qu qv jf hHeld ⊢
                refine pure_ (i := 0) (N := some 54) (v := ?_) (a' := ?_) #[true, false, false, false, false, false, false, false, false, false, false, false, false, false, false, false, false, false, false] rfl rfl (any_of HT_.out (by kernel_rfl)) (fun _ _ _ h => h) (Or.inl ⟨by rfl, ?_⟩) ?_ ?_
                rotate_left
                ·
                 intro w'
                 go_simp
                 with_reducible rfl
                rotate_left
                ·
                 simp only [Act.put, List.setIfInBounds_toArray, List.set_cons_zero, List.set_cons_succ, i64_w, i32_w]
                 rfl
                refine pure_ (i := 1) (N := some 55) (v := ?_) (a' := ?_) #[true, true, false, false, false, false, false, false, false, false, false, false, false, false, false, false, false, false, false] rfl rfl (any_of HT_.out (by kernel_rfl)) (fun _ _ _ h => h) (Or.inl ⟨by rfl, ?_⟩) ?_ ?_
                rotate_left
                ·
                 intro w'
                 go_simp
                 with_reducible rfl
                rotate_left
                ·
                 simp only [Act.put, List.setIfInBounds_toArray, List.set_cons_zero, List.set_cons_succ, i64_w, i32_w]
                 rfl
                refine pure_ (i := 2) (N := some 56) (v := ?_) (a' := ?_) #[true, true, true, false, false, false, false, false, false, false, false, false, false, false, false, false, false, false, false] rfl rfl (any_of HT_.out (by kernel_rfl)) (fun _ _ _ h => h) (Or.inl ⟨by rfl, ?_⟩) ?_ ?_
                rotate_left
                ·
                 intro w'
                 go_simp
                 with_reducible rfl
                rotate_left
                ·
                 simp only [Act.put, List.setIfInBounds_toArray, List.set_cons_zero, List.set_cons_succ, i64_w, i32_w]
                 rfl
                refine pure_ (i := 3) (N := some 57) (v := ?_) (a' := ?_) #[true, true, true, true, false, false, false, false, false, false, false, false, false, false, false, false, false, false, false] rfl rfl (any_of HT_.out (by kernel_rfl)) (fun _ _ _ h => h) (Or.inl ⟨by rfl, ?_⟩) ?_ ?_
                rotate_left
                ·
                 intro w'
                 go_simp
                 with_reducible rfl
                rotate_left
                ·
                 simp only [Act.put, List.setIfInBounds_toArray, List.set_cons_zero, List.set_cons_succ, i64_w, i32_w]
                 rfl
                refine pure_ (i := 5) (N := some 59) (v := ?_) (a' := ?_) #[true, true, true, true, false, true, false, false, false, false, false, false, false, false, false, false, false, false, false] rfl rfl (any_of HT_.out (by kernel_rfl)) (fun _ _ _ h => h) (Or.inl ⟨by rfl, ?_⟩) ?_ ?_
                rotate_left
                ·
                 intro w'
                 go_simp
                 with_reducible rfl
                rotate_left
                ·
                 simp only [Act.put, List.setIfInBounds_toArray, List.set_cons_zero, List.set_cons_succ, i64_w, i32_w]
                 rfl
                refine pure_ (i := 9) (N := some 63) (v := ?_) (a' := ?_) #[true, true, true, true, false, true, false, false, false, true, false, false, false, false, false, false, false, false, false] rfl rfl (any_of HT_.out (by kernel_rfl)) (fun _ _ _ h => h) (Or.inl ⟨by rfl, ?_⟩) ?_ ?_
                rotate_left
                ·
                 intro w'
                 go_simp
                 with_reducible rfl
                rotate_left
                ·
                 simp only [Act.put, List.setIfInBounds_toArray, List.set_cons_zero, List.set_cons_succ, i64_w, i32_w]
                 rfl
                refine pure_ (i := 10) (N := some 64) (v := ?_) (a' := ?_) #[true, true, true, true, false, true, false, false, false, true, true, false, false, false, false, false, false, false, false] rfl rfl (any_of HT_.out (by kernel_rfl)) (fun _ _ _ h => h) (Or.inl ⟨by rfl, ?_⟩) ?_ ?_
                rotate_left
                ·
                 intro w'
                 go_simp
                 with_reducible rfl
                rotate_left
                ·
                 simp only [Act.put, List.setIfInBounds_toArray, List.set_cons_zero, List.set_cons_succ, i64_w, i32_w]
                 rfl
                refine pure_ (i := 12) (N := some 66) (v := ?_) (a' := ?_) #[true, true, true, true, false, true, false, false, false, true, true, false, true, false, false, false, false, false, false] rfl rfl (any_of HT_.out (by kernel_rfl)) (fun _ _ _ h => h) (Or.inl ⟨by rfl, ?_⟩) ?_ ?_
                rotate_left
                ·
                 intro w'
                 go_simp
                 with_reducible rfl
                rotate_left
                ·
                 simp only [Act.put, List.setIfInBounds_toArray, List.set_cons_zero, List.set_cons_succ, i64_w, i32_w]
                 rfl
                refine take_ (i := 4) (N := some 58) (v := ?_) (a' := ?_) #[true, true, true, true, true, true, false, false, false, true, true, false, true, false, false, false, false, false, false] rfl rfl (take_ofW HT_.out HW_.out (by kernel_rfl)) (fun _ _ _ h => h) (Or.inl ⟨by rfl, ?_⟩) hHeld ?_ ?_
                rotate_left
                ·
                 rintro w' ⟨s0, s1, s2, s3, s4, s5, s6, s7⟩
                 go_simp
                 with_reducible rfl
                rotate_left
                ·
                 simp only [Act.put, List.setIfInBounds_toArray, List.set_cons_zero, List.set_cons_succ, i64_w, i32_w]
                 rfl
                refine pure_ (i := 6) (N := some 60) (v := ?_) (a' := ?_) #[true, true, true, true, true, true, true, false, false, true, true, false, true, false, false, false, false, false, false] rfl rfl (any_of HT_.out (by kernel_rfl)) (fun _ _ _ h => h) (Or.inl ⟨by rfl, ?_⟩) ?_ ?_
                rotate_left
                ·
                 intro w'
                 go_simp
                 with_reducible rfl
                rotate_left
                ·
                 simp only [Act.put, List.setIfInBounds_toArray, List.set_cons_zero, List.set_cons_succ, i64_w, i32_w]
                 rfl
                refine take_ (i := 7) (N := some 61) (v := ?_) (a' := ?_) #[true, true, true, true, true, true, true, true, false, true, true, false, true, false, false, false, false, false, false] rfl rfl (take_ofW HT_.out HW_.out (by kernel_rfl)) (fun _ _ _ h => h) (Or.inl ⟨by rfl, ?_⟩) hHeld ?_ ?_
                rotate_left
                ·
                 rintro w' ⟨s0, s1, s2, s3, s4, s5, s6, s7⟩
                 go_simp
                 with_reducible rfl
                rotate_left
                ·
                 simp only [Act.put, List.setIfInBounds_toArray, List.set_cons_zero, List.set_cons_succ, i64_w, i32_w]
                 rfl
                refine pure_ (i := 8) (N := some 62) (v := ?_) (a' := ?_) #[true, true, true, true, true, true, true, true, true, true, true, false, true, false, false, false, false, false, false] rfl rfl (any_of HT_.out (by kernel_rfl)) (fun _ _ _ h => h) (Or.inl ⟨by rfl, ?_⟩) ?_ ?_
                rotate_left
                ·
                 intro w'
                 go_simp
                 with_reducible rfl
                rotate_left
                ·
                 simp only [Act.put, List.setIfInBounds_toArray, List.set_cons_zero, List.set_cons_succ, i64_w, i32_w]
                 rfl
                refine take_ (i := 11) (N := some 65) (v := ?_) (a' := ?_) #[true, true, true, true, true, true, true, true, true, true, true, true, true, false, false, false, false, false, false] rfl rfl (take_ofW HT_.out HW_.out (by kernel_rfl)) (fun _ _ _ h => h) (Or.inl ⟨by rfl, ?_⟩) hHeld ?_ ?_
                rotate_left
                ·
                 rintro w' ⟨s0, s1, s2, s3, s4, s5, s6, s7⟩
                 go_simp
                 with_reducible rfl
                rotate_left
                ·
                 simp only [Act.put, List.setIfInBounds_toArray, List.set_cons_zero, List.set_cons_succ, i64_w, i32_w]
                 rfl
                refine pure_ (i := 13) (N := some 67) (v := ?_) (a' := ?_) #[true, true, true, true, true, true, true, true, true, true, true, true, true, true, false, false, false, false, false] rfl rfl (any_of HT_.out (by kernel_rfl)) (fun _ _ _ h => h) (Or.inl ⟨by rfl, ?_⟩) ?_ ?_
                rotate_left
                ·
                 intro w'
                 go_simp
                 with_reducible rfl
                rotate_left
                ·
                 simp only [Act.put, List.setIfInBounds_toArray, List.set_cons_zero, List.set_cons_succ, i64_w, i32_w]
                 rfl
                refine take_ (i := 14) (N := some 68) (v := ?_) (a' := ?_) #[true, true, true, true, true, true, true, true, true, true, true, true, true, true, true, false, false, false, false] rfl rfl (take_ofW HT_.out HW_.out (by kernel_rfl)) (fun _ _ _ h => h) (Or.inl ⟨by rfl, ?_⟩) hHeld ?_ ?_
                rotate_left
                ·
                 rintro w' ⟨s0, s1, s2, s3, s4, s5, s6, s7⟩
                 go_simp
                 with_reducible rfl
                rotate_left
                ·
                 simp only [Act.put, List.setIfInBounds_toArray, List.set_cons_zero, List.set_cons_succ, i64_w, i32_w]
                 rfl
                refine pure_ (i := 15) (N := some 69) (v := ?_) (a' := ?_) #[true, true, true, true, true, true, true, true, true, true, true, true, true, true, true, true, false, false, false] rfl rfl (any_of HT_.out (by kernel_rfl)) (fun _ _ _ h => h) (Or.inl ⟨by rfl, ?_⟩) ?_ ?_
                rotate_left
                ·
                 intro w'
                 go_simp
                 with_reducible rfl
                rotate_left
                ·
                 simp only [Act.put, List.setIfInBounds_toArray, List.set_cons_zero, List.set_cons_succ, i64_w, i32_w]
                 rfl
                refine pure_ (i := 16) (N := some 70) (v := ?_) (a' := ?_) #[true, true, true, true, true, true, true, true, true, true, true, true, true, true, true, true, true, false, false] rfl rfl (any_of HT_.out (by kernel_rfl)) (fun _ _ _ h => h) (Or.inl ⟨by rfl, ?_⟩) ?_ ?_
                rotate_left
                ·
                 intro w'
                 go_simp
                 with_reducible rfl
                rotate_left
                ·
                 simp only [Act.put, List.setIfInBounds_toArray, List.set_cons_zero, List.set_cons_succ, i64_w, i32_w]
                 rfl
                refine pure_ (i := 17) (N := some 71) (v := ?_) (a' := ?_) #[true, true, true, true, true, true, true, true, true, true, true, true, true, true, true, true, true, true, false] rfl rfl (any_of HT_.out (by kernel_rfl)) (fun _ _ _ h => h) (Or.inl ⟨by rfl, ?_⟩) ?_ ?_
                rotate_left
                ·
                 intro w'
                 go_simp
                 with_reducible rfl
                rotate_left
                ·
                 simp only [Act.put, List.setIfInBounds_toArray, List.set_cons_zero, List.set_cons_succ, i64_w, i32_w]
                 rfl
                refine last_ (i := 18) (N := none) #[true, true, true, true, true, true, true, true, true, true, true, true, true, true, true, true, true, true, true] rfl rfl (one_of HT_.out (by kernel_rfl)) (by decide) (fun K hK => ?_)
                refine skip_ (w1 := ?_) (by rfl) rfl ?_ ?_
                rotate_left
                ·
                 go_simp
                 rfl
                refine hK.out _ _ ?_
                clear hK K
                refine done_ (done_of HT_.out (by kernel_rfl)) ?_
                try go_wp2
                (try simp only [← hl10_3])
                go_roundg k3
                case measure => have := HJ4.out; have := HJ36.out; have := HK3.out; omega
                case rel => exact ⟨(y270), (wrap64 (qh + 1)), (by first | rfl | (simp; done) | (simp [*]; done)), H', ⟨by have := HJ4.out; have := HJ36.out; have := HK3.out; omega⟩, ⟨by (try simp only [hl10_3]); (with_reducible repeat (first | apply Kd.R_alloc | apply Kd.R_drewN | apply Kd.R_drew)); exact HQ60.out⟩, ⟨by (try simp only [hl10_3]); (with_reducible repeat (first | refine blk_drewN ?_ _ | refine blk_drew ?_ | refine blk_alloc ?_ _)); refine blk_far ?_ (by have h_ := Kd.R_ne qg.out qa.out (by decide); intro e_; exact h_ (by rw [e_]; rfl)) _; (with_reducible repeat (first | refine blk_drewN ?_ _ | refine blk_drew ?_ | refine blk_alloc ?_ _)); exact qa.out⟩, ⟨by (try simp only [hl10_3]); (with_reducible repeat (first | refine blk_drewN ?_ _ | refine blk_drew ?_ | refine blk_alloc ?_ _)); refine blk_far ?_ (by have h_ := Kd.R_ne qg.out qb.out (by decide); intro e_; exact h_ (by rw [e_]; rfl)) _; (with_reducible repeat (first | refine blk_drewN ?_ _ | refine blk_drew ?_ | refine blk_alloc ?_ _)); exact qb.out⟩, ⟨by (try simp only [hl10_3]); (with_reducible repeat (first | refine blk_drewN ?_ _ | refine blk_drew ?_ | refine blk_alloc ?_ _)); refine blk_far ?_ (by have h_ := Kd.R_ne qg.out qc.out (by decide); intro e_; exact h_ (by rw [e_]; rfl)) _; (with_reducible repeat (first | refine blk_drewN ?_ _ | refine blk_drew ?_ | refine blk_alloc ?_ _)); exact qc.out⟩, ⟨bb_ HB⟩⟩
               ·
                rw [if_neg c57] at H
                exact absurd H (by simp)
              ·
               rw [if_neg c56] at H
               exact absurd H (by simp)
             ·
              rw [if_neg c55] at H
              exact absurd H (by simp)
            ·
             rw [if_neg c54] at H
             exact absurd H (by simp)
           ·
            rw [if_neg c53] at H
            have zB : decide (qh < (y265.length : Int)) = false := decide_eq_false c53
            have c53z := zB
            (try rw [hl10_3] at c53z)
            clear c53
            by_cases c61 : a0_2 = true
            ·
             subst c61
             have H1 : (if a1 = 0 then (if a2_2 = true then ((impl_makeOf.f k3 qk (wrap64 ((wrap64 (a1 * a0_1)) + (wrap64 (a3 * a2_1)))) (a3 != 0)).bind fun qp => (some (qp.1, qp.2.1, qp.2.2.1, qp.2.2.2))) else ((impl_makeOf.f k3 qk (wrap64 ((wrap64 (a1 * a0_1)) + (wrap64 (a3 * a2_1)))) false).bind fun qq => (some (qq.1, qq.2.1, qq.2.2.1, qq.2.2.2)))) else ((impl_makeOf.f k3 qk (wrap64 ((wrap64 (a1 * a0_1)) + (wrap64 (a3 * a2_1)))) true).bind fun qt => (some (qt.1, qt.2.1, qt.2.2.1, qt.2.2.2)))) = some (r1, r2, r3, r4) := by rw [if_pos rfl] at H; exact H
             clear H
             have H := H1
             clear H1
             by_cases c62 : a1 = 0
             ·
              rw [if_pos c62] at H
              have jo : (a1 == 0) = true := beq_iff_eq.mpr c62
              have jp : (a1 != 0) = false := bne_eq_false_iff_eq.mpr c62
              clear c62
              by_cases c63 : a2_2 = true
              ·
               subst c63
               have H1 : ((impl_makeOf.f k3 qk (wrap64 ((wrap64 (a1 * a0_1)) + (wrap64 (a3 * a2_1)))) (a3 != 0)).bind fun qp => (some (qp.1, qp.2.1, qp.2.2.1, qp.2.2.2))) = some (r1, r2, r3, r4) := by rw [if_pos rfl] at H; exact H
               clear H
               have H := H1
               clear H1
               replace H := Option.bind_eq_some_iff.mp H
               obtain ⟨⟨zs, zC, zT, jq⟩, A640, H⟩ := H
               replace H : (some (zs, zC, zT, jq)) = some (r1, r2, r3, r4) := H
               have A64 := Aside0.mk A640
               clear A640
               simp only [Option.some.injEq, Prod.mk.injEq] at H
               obtain ⟨rfl, rfl, rfl, rfl⟩ := H
               have ZO := ql.out
               have ZP := qm.out
               have ZQ := qi.out
               have ZR := qj.out
               have jT : wr.cell? ⟨qe, 0, none⟩ = some (.slice A0_0 l0_0.length c0_0) := bc_ qa 0
               have jU : wr.cell? ⟨qe, 1, none⟩ = some (.int .i64 a0_1) := bc_ qa 1
               have jV : wr.cell? ⟨qe, 2, none⟩ = some (.bool true) := bc_ qa 2
               have jW := blk_frozen qa.out 0
               have jX := blk_frozen qa.out 1
               have jY := blk_frozen qa.out 2
               have ZS := qn.out
               have ZT := qo.out
               have jZ : wr.cell? ⟨qf, 0, none⟩ = some (.slice A2_0 l2_0.length c2_0) := bc_ qb 0
               have j2 : wr.cell? ⟨qf, 1, none⟩ = some (.int .i64 a2_1) := bc_ qb 1
               have j3 : wr.cell? ⟨qf, 2, none⟩ = some (.bool true) := bc_ qb 2
               have j4 := blk_frozen qb.out 0
               have j5 := blk_frozen qb.out 1
               have j6 := blk_frozen qb.out 2
               go_wp2_with (first | ((with_reducible refine gate_callee (f := 39) rfl ?_); refine goesL_ (some 97) rfl rfl Try.func39 (by kernel_rfl) rfl #[.slice zq qk.length zr, .int .i64 (wrap64 ((wrap64 (a1 * a0_1)) + (wrap64 (a3 * a2_1)))), .bool (a3 != 0)] rfl (by (try simp only [List.map_toArray, List.map_cons, List.map_nil]); first | done | rfl | (simp only [List.length_drop, List.length_take]; rfl)) ?_; (with_reducible refine (impl_makeOf.calls k3 _ _ qk (wrap64 ((wrap64 (a1 * a0_1)) + (wrap64 (a3 * a2_1)))) (a3 != 0) zs zC zT jq _ ?side1 ?side2 A64.out).mono ?_); (case side1 => exact cr_ qg); (case side2 => exact (Kd.R_reads' qg.out).2.1); rintro e Q2 ⟨Jf, rfl, ho0, hb⟩; refine ⟨_, rfl, ?_⟩; have ja := Aside0.mk (Kd.R_lower (Kd.R_new' ho0 (Kd.R_lt (rm_ qg))) (bz_ HB)); replace qg := Aside0.mk (Kd.R_elder' (rm_ qg) (Kd.R_base ho0) hb); replace qa := kB_ qa hb; replace qb := kB_ qb hb; replace qc := kB_ qc hb; replace HB := bS_ HB hb; (try clear hb); (try clear hb2); (try clear hk); (try clear hi); (try clear ho0); obtain ⟨zU, zV, eo71⟩ := Kd.R_slice ja.out; subst eo71; have j7 : Q2.cell? ⟨qd, 0, none⟩ = some (.slice none 0 0) := bc_ qc 0; have j8 : Q2.cell? ⟨qd, 1, none⟩ = some (.int .i64 0) := bc_ qc 1; have j9 : Q2.cell? ⟨qd, 2, none⟩ = some (.bool false) := bc_ qc 2; have Qa := blk_frozen qc.out 0; have Qb := blk_frozen qc.out 1; have Qc := blk_frozen qc.out 2))
               refine bodyPost_ret (results_ct rfl _ _ qd 26 #[.slice zU zs.length zV, .int .i64 zC, .bool zT] (0, 0) _ rfl (by (with_reducible repeat (first | refine blk_drewN ?_ _ | refine blk_drew ?_ | refine blk_alloc ?_ _)); refine blk_put (cs := #[.slice zU zs.length zV, .int .i64 zC, .bool false]) ?_ 2 _ rfl; (with_reducible repeat (first | refine blk_drewN ?_ _ | refine blk_drew ?_ | refine blk_alloc ?_ _)); refine blk_put (cs := #[.slice zU zs.length zV, .int .i64 0, .bool false]) ?_ 1 _ rfl; (with_reducible repeat (first | refine blk_drewN ?_ _ | refine blk_drew ?_ | refine blk_alloc ?_ _)); refine blk_put (cs := #[.slice none 0 0, .int .i64 0, .bool false]) ?_ 0 _ rfl; (with_reducible repeat (first | refine blk_drewN ?_ _ | refine blk_drew ?_ | refine blk_alloc ?_ _)); exact qc.out) Try.underlying26 rfl (by kernel_rfl)) rfl ?_
               exact ⟨_, by first | rfl | (simp [errW_none, errW_some] <;> rfl) | (simp [*, errW_none, errW_some] <;> rfl), by (with_reducible repeat (first | apply Kd.R_alloc | apply Kd.R_drewN | apply Kd.R_drew)); exact Kd.R_mono (Kd.R_far (p := ⟨qd, 2, none⟩) (Kd.R_far (p := ⟨qd, 1, none⟩) (Kd.R_far (p := ⟨qd, 0, none⟩) (Kd.R_types ja.out qc.out (by decide)) (fun _ hk => hk.2) (.slice zU zs.length zV)) (fun _ hk => hk.2) (.int .i64 zC)) (fun _ hk => hk.2) (.bool zT)) (fun _ hk => trivial), bb_ HB⟩
              ·
               replace c63 := Bool.eq_false_iff.mpr c63
               subst c63
               have H1 : ((impl_makeOf.f k3 qk (wrap64 ((wrap64 (a1 * a0_1)) + (wrap64 (a3 * a2_1)))) false).bind fun qq => (some (qq.1, qq.2.1, qq.2.2.1, qq.2.2.2))) = some (r1, r2, r3, r4) := by rw [if_neg (show ¬ (false = true) by decide)] at H; exact H
               clear H
               have H := H1
               clear H1
               replace H := Option.bind_eq_some_iff.mp H
               obtain ⟨⟨zt, zD, zW, jr⟩, A730, H⟩ := H
               replace H : (some (zt, zD, zW, jr)) = some (r1, r2, r3, r4) := H
               have A73 := Aside0.mk A730
               clear A730
               simp only [Option.some.injEq, Prod.mk.injEq] at H
               obtain ⟨rfl, rfl, rfl, rfl⟩ := H
               have ZU := ql.out
               have ZV := qm.out
               have ZW := qi.out
               have ZX := qj.out
               have Qd : wr.cell? ⟨qe, 0, none⟩ = some (.slice A0_0 l0_0.length c0_0) := bc_ qa 0
               have Qe : wr.cell? ⟨qe, 1, none⟩ = some (.int .i64 a0_1) := bc_ qa 1
               have Qf : wr.cell? ⟨qe, 2, none⟩ = some (.bool true) := bc_ qa 2
               have Qg := blk_frozen qa.out 0
               have Qh := blk_frozen qa.out 1
               have Qi := blk_frozen qa.out 2
               have ZY := qn.out
               have ZZ := qo.out
               have Qj : wr.cell? ⟨qf, 0, none⟩ = some (.slice A2_0 l2_0.length c2_0) := bc_ qb 0
               have Qk : wr.cell? ⟨qf, 1, none⟩ = some (.int .i64 a2_1) := bc_ qb 1
               have Ql : wr.cell? ⟨qf, 2, none⟩ = some (.bool false) := bc_ qb 2
               have Qm := blk_frozen qb.out 0
               have Qn := blk_frozen qb.out 1
               have Qo := blk_frozen qb.out 2
               go_wp2_with (first | ((with_reducible refine gate_callee (f := 39) rfl ?_); refine goesL_ (some 97) rfl rfl Try.func39 (by kernel_rfl) rfl #[.slice zq qk.length zr, .int .i64 (wrap64 ((wrap64 (a1 * a0_1)) + (wrap64 (a3 * a2_1)))), .bool false] rfl (by (try simp only [List.map_toArray, List.map_cons, List.map_nil]); first | done | rfl | (simp only [List.length_drop, List.length_take]; rfl)) ?_; (with_reducible refine (impl_makeOf.calls k3 _ _ qk (wrap64 ((wrap64 (a1 * a0_1)) + (wrap64 (a3 * a2_1)))) false zt zD zW jr _ ?side1 ?side2 A73.out).mono ?_); (case side1 => exact cr_ qg); (case side2 => exact (Kd.R_reads' qg.out).2.1); rintro e Q3 ⟨Jg, rfl, ho0, hb⟩; refine ⟨_, rfl, ?_⟩; have jb := Aside0.mk (Kd.R_lower (Kd.R_new' ho0 (Kd.R_lt (rm_ qg))) (bz_ HB)); replace qg := Aside0.mk (Kd.R_elder' (rm_ qg) (Kd.R_base ho0) hb); replace qa := kB_ qa hb; replace qb := kB_ qb hb; replace qc := kB_ qc hb; replace HB := bS_ HB hb; (try clear hb); (try clear hb2); (try clear hk); (try clear hi); (try clear ho0); obtain ⟨zX, zY, eo80⟩ := Kd.R_slice jb.out; subst eo80; have Qp : Q3.cell? ⟨qd, 0, none⟩ = some (.slice none 0 0) := bc_ qc 0; have Qq : Q3.cell? ⟨qd, 1, none⟩ = some (.int .i64 0) := bc_ qc 1; have Qr : Q3.cell? ⟨qd, 2, none⟩ = some (.bool false) := bc_ qc 2; have Qs := blk_frozen qc.out 0; have Qt := blk_frozen qc.out 1; have Qu := blk_frozen qc.out 2))
               refine bodyPost_ret (results_ct rfl _ _ qd 26 #[.slice zX zt.length zY, .int .i64 zD, .bool zW] (0, 0) _ rfl (by (with_reducible repeat (first | refine blk_drewN ?_ _ | refine blk_drew ?_ | refine blk_alloc ?_ _)); refine blk_put (cs := #[.slice zX zt.length zY, .int .i64 zD, .bool false]) ?_ 2 _ rfl; (with_reducible repeat (first | refine blk_drewN ?_ _ | refine blk_drew ?_ | refine blk_alloc ?_ _)); refine blk_put (cs := #[.slice zX zt.length zY, .int .i64 0, .bool false]) ?_ 1 _ rfl; (with_reducible repeat (first | refine blk_drewN ?_ _ | refine blk_drew ?_ | refine blk_alloc ?_ _)); refine blk_put (cs := #[.slice none 0 0, .int .i64 0, .bool false]) ?_ 0 _ rfl; (with_reducible repeat (first | refine blk_drewN ?_ _ | refine blk_drew ?_ | refine blk_alloc ?_ _)); exact qc.out) Try.underlying26 rfl (by kernel_rfl)) rfl ?_
               exact ⟨_, by first | rfl | (simp [errW_none, errW_some] <;> rfl) | (simp [*, errW_none, errW_some] <;> rfl), by (with_reducible repeat (first | apply Kd.R_alloc | apply Kd.R_drewN | apply Kd.R_drew)); exact Kd.R_mono (Kd.R_far (p := ⟨qd, 2, none⟩) (Kd.R_far (p := ⟨qd, 1, none⟩) (Kd.R_far (p := ⟨qd, 0, none⟩) (Kd.R_types jb.out qc.out (by decide)) (fun _ hk => hk.2) (.slice zX zt.length zY)) (fun _ hk => hk.2) (.int .i64 zD)) (fun _ hk => hk.2) (.bool zW)) (fun _ hk => trivial), bb_ HB⟩
             ·
              rw [if_neg c62] at H
              have jo : (a1 == 0) = false := beq_eq_false_iff_ne.mpr c62
              have jp : (a1 != 0) = true := bne_iff_ne.mpr c62
              replace H := Option.bind_eq_some_iff.mp H
              obtain ⟨⟨zu, zE, zZ, js⟩, A820, H⟩ := H
              replace H : (some (zu, zE, zZ, js)) = some (r1, r2, r3, r4) := H
              have A82 := Aside0.mk A820
              clear A820
              simp only [Option.some.injEq, Prod.mk.injEq] at H
              obtain ⟨rfl, rfl, rfl, rfl⟩ := H
              have Z0 := ql.out
              have Z1 := qm.out
              have Z2 := qi.out
              have Z3 := qj.out
              have Qv : wr.cell? ⟨qe, 0, none⟩ = some (.slice A0_0 l0_0.length c0_0) := bc_ qa 0
              have Qw : wr.cell? ⟨qe, 1, none⟩ = some (.int .i64 a0_1) := bc_ qa 1
              have Qx : wr.cell? ⟨qe, 2, none⟩ = some (.bool true) := bc_ qa 2
              have Qy := blk_frozen qa.out 0
              have Qz := blk_frozen qa.out 1
              have QA := blk_frozen qa.out 2
              have Z4 := qn.out
              have Z5 := qo.out
              have QB : wr.cell? ⟨qf, 0, none⟩ = some (.slice A2_0 l2_0.length c2_0) := bc_ qb 0
              have QC : wr.cell? ⟨qf, 1, none⟩ = some (.int .i64 a2_1) := bc_ qb 1
              have QD : wr.cell? ⟨qf, 2, none⟩ = some (.bool a2_2) := bc_ qb 2
              have QE := blk_frozen qb.out 0
              have QF := blk_frozen qb.out 1
              have QG := blk_frozen qb.out 2
              go_wp2_with (first | ((with_reducible refine gate_callee (f := 39) rfl ?_); refine goesL_ (some 97) rfl rfl Try.func39 (by kernel_rfl) rfl #[.slice zq qk.length zr, .int .i64 (wrap64 ((wrap64 (a1 * a0_1)) + (wrap64 (a3 * a2_1)))), .bool true] rfl (by (try simp only [List.map_toArray, List.map_cons, List.map_nil]); first | done | rfl | (simp only [List.length_drop, List.length_take]; rfl)) ?_; (with_reducible refine (impl_makeOf.calls k3 _ _ qk (wrap64 ((wrap64 (a1 * a0_1)) + (wrap64 (a3 * a2_1)))) true zu zE zZ js _ ?side1 ?side2 A82.out).mono ?_); (case side1 => exact cr_ qg); (case side2 => exact (Kd.R_reads' qg.out).2.1); rintro e Q4 ⟨Jh, rfl, ho0, hb⟩; refine ⟨_, rfl, ?_⟩; have jc := Aside0.mk (Kd.R_lower (Kd.R_new' ho0 (Kd.R_lt (rm_ qg))) (bz_ HB)); replace qg := Aside0.mk (Kd.R_elder' (rm_ qg) (Kd.R_base ho0) hb); replace qa := kB_ qa hb; replace qb := kB_ qb hb; replace qc := kB_ qc hb; replace HB := bS_ HB hb; (try clear hb); (try clear hb2); (try clear hk); (try clear hi); (try clear ho0); obtain ⟨z0, z1, eo89⟩ := Kd.R_slice jc.out; subst eo89; have QH : Q4.cell? ⟨qd, 0, none⟩ = some (.slice none 0 0) := bc_ qc 0; have QI : Q4.cell? ⟨qd, 1, none⟩ = some (.int .i64 0) := bc_ qc 1; have QJ : Q4.cell? ⟨qd, 2, none⟩ = some (.bool false) := bc_ qc 2; have QK := blk_frozen qc.out 0; have QL := blk_frozen qc.out 1; have QM := blk_frozen qc.out 2))
              refine bodyPost_ret (results_ct rfl _ _ qd 26 #[.slice z0 zu.length z1, .int .i64 zE, .bool zZ] (0, 0) _ rfl (by (with_reducible repeat (first | refine blk_drewN ?_ _ | refine blk_drew ?_ | refine blk_alloc ?_ _)); refine blk_put (cs := #[.slice z0 zu.length z1, .int .i64 zE, .bool false]) ?_ 2 _ rfl; (with_reducible repeat (first | refine blk_drewN ?_ _ | refine blk_drew ?_ | refine blk_alloc ?_ _)); refine blk_put (cs := #[.slice z0 zu.length z1, .int .i64 0, .bool false]) ?_ 1 _ rfl; (with_reducible repeat (first | refine blk_drewN ?_ _ | refine blk_drew ?_ | refine blk_alloc ?_ _)); refine blk_put (cs := #[.slice none 0 0, .int .i64 0, .bool false]) ?_ 0 _ rfl; (with_reducible repeat (first | refine blk_drewN ?_ _ | refine blk_drew ?_ | refine blk_alloc ?_ _)); exact qc.out) Try.underlying26 rfl (by kernel_rfl)) rfl ?_
              exact ⟨_, by first | rfl | (simp [errW_none, errW_some] <;> rfl) | (simp [*, errW_none, errW_some] <;> rfl), by (with_reducible repeat (first | apply Kd.R_alloc | apply Kd.R_drewN | apply Kd.R_drew)); exact Kd.R_mono (Kd.R_far (p := ⟨qd, 2, none⟩) (Kd.R_far (p := ⟨qd, 1, none⟩) (Kd.R_far (p := ⟨qd, 0, none⟩) (Kd.R_types jc.out qc.out (by decide)) (fun _ hk => hk.2) (.slice z0 zu.length z1)) (fun _ hk => hk.2) (.int .i64 zE)) (fun _ hk => hk.2) (.bool zZ)) (fun _ hk => trivial), bb_ HB⟩
            ·
             replace c61 := Bool.eq_false_iff.mpr c61
             subst c61
             have H1 : (if a2_2 = true then ((impl_makeOf.f k3 qk (wrap64 ((wrap64 (a1 * a0_1)) + (wrap64 (a3 * a2_1)))) (a3 != 0)).bind fun qr => (some (qr.1, qr.2.1, qr.2.2.1, qr.2.2.2))) else ((impl_makeOf.f k3 qk (wrap64 ((wrap64 (a1 * a0_1)) + (wrap64 (a3 * a2_1)))) false).bind fun qs => (some (qs.1, qs.2.1, qs.2.2.1, qs.2.2.2)))) = some (r1, r2, r3, r4) := by rw [if_neg (show ¬ (false = true) by decide)] at H; exact H
             clear H
             have H := H1
             clear H1
             by_cases c91 : a2_2 = true
             ·
              subst c91
              have H1 : ((impl_makeOf.f k3 qk (wrap64 ((wrap64 (a1 * a0_1)) + (wrap64 (a3 * a2_1)))) (a3 != 0)).bind fun qr => (some (qr.1, qr.2.1, qr.2.2.1, qr.2.2.2))) = some (r1, r2, r3, r4) := by rw [if_pos rfl] at H; exact H
              clear H
              have H := H1
              clear H1
              replace H := Option.bind_eq_some_iff.mp H
              obtain ⟨⟨zv, zF, z2, jt⟩, A920, H⟩ := H
              replace H : (some (zv, zF, z2, jt)) = some (r1, r2, r3, r4) := H
              have A92 := Aside0.mk A920
              clear A920
              simp only [Option.some.injEq, Prod.mk.injEq] at H
              obtain ⟨rfl, rfl, rfl, rfl⟩ := H
              have Z6 := ql.out
              have Z7 := qm.out
              have Z8 := qi.out
              have Z9 := qj.out
              have QN : wr.cell? ⟨qe, 0, none⟩ = some (.slice A0_0 l0_0.length c0_0) := bc_ qa 0
              have QO : wr.cell? ⟨qe, 1, none⟩ = some (.int .i64 a0_1) := bc_ qa 1
              have QP : wr.cell? ⟨qe, 2, none⟩ = some (.bool false) := bc_ qa 2
              have QQ := blk_frozen qa.out 0
              have QR := blk_frozen qa.out 1
              have QS := blk_frozen qa.out 2
              have Ja := qn.out
              have Jb := qo.out
              have QT : wr.cell? ⟨qf, 0, none⟩ = some (.slice A2_0 l2_0.length c2_0) := bc_ qb 0
              have QU : wr.cell? ⟨qf, 1, none⟩ = some (.int .i64 a2_1) := bc_ qb 1
              have QV : wr.cell? ⟨qf, 2, none⟩ = some (.bool true) := bc_ qb 2
              have QW := blk_frozen qb.out 0
              have QX := blk_frozen qb.out 1
              have QY := blk_frozen qb.out 2
              go_wp2_with (first | ((with_reducible refine gate_callee (f := 39) rfl ?_); refine goesL_ (some 97) rfl rfl Try.func39 (by kernel_rfl) rfl #[.slice zq qk.length zr, .int .i64 (wrap64 ((wrap64 (a1 * a0_1)) + (wrap64 (a3 * a2_1)))), .bool (a3 != 0)] rfl (by (try simp only [List.map_toArray, List.map_cons, List.map_nil]); first | done | rfl | (simp only [List.length_drop, List.length_take]; rfl)) ?_; (with_reducible refine (impl_makeOf.calls k3 _ _ qk (wrap64 ((wrap64 (a1 * a0_1)) + (wrap64 (a3 * a2_1)))) (a3 != 0) zv zF z2 jt _ ?side1 ?side2 A92.out).mono ?_); (case side1 => exact cr_ qg); (case side2 => exact (Kd.R_reads' qg.out).2.1); rintro e Q5 ⟨Ji, rfl, ho0, hb⟩; refine ⟨_, rfl, ?_⟩; have jd := Aside0.mk (Kd.R_lower (Kd.R_new' ho0 (Kd.R_lt (rm_ qg))) (bz_ HB)); replace qg := Aside0.mk (Kd.R_elder' (rm_ qg) (Kd.R_base ho0) hb); replace qa := kB_ qa hb; replace qb := kB_ qb hb; replace qc := kB_ qc hb; replace HB := bS_ HB hb; (try clear hb); (try clear hb2); (try clear hk); (try clear hi); (try clear ho0); obtain ⟨z3, z4, eo99⟩ := Kd.R_slice jd.out; subst eo99; have ju : Q5.cell? ⟨qd, 0, none⟩ = some (.slice none 0 0) := bc_ qc 0; have jv : Q5.cell? ⟨qd, 1, none⟩ = some (.int .i64 0) := bc_ qc 1; have jw : Q5.cell? ⟨qd, 2, none⟩ = some (.bool false) := bc_ qc 2; have jx := blk_frozen qc.out 0; have jy := blk_frozen qc.out 1; have jz := blk_frozen qc.out 2))
              refine bodyPost_ret (results_ct rfl _ _ qd 26 #[.slice z3 zv.length z4, .int .i64 zF, .bool z2] (0, 0) _ rfl (by (with_reducible repeat (first | refine blk_drewN ?_ _ | refine blk_drew ?_ | refine blk_alloc ?_ _)); refine blk_put (cs := #[.slice z3 zv.length z4, .int .i64 zF, .bool false]) ?_ 2 _ rfl; (with_reducible repeat (first | refine blk_drewN ?_ _ | refine blk_drew ?_ | refine blk_alloc ?_ _)); refine blk_put (cs := #[.slice z3 zv.length z4, .int .i64 0, .bool false]) ?_ 1 _ rfl; (with_reducible repeat (first | refine blk_drewN ?_ _ | refine blk_drew ?_ | refine blk_alloc ?_ _)); refine blk_put (cs := #[.slice none 0 0, .int .i64 0, .bool false]) ?_ 0 _ rfl; (with_reducible repeat (first | refine blk_drewN ?_ _ | refine blk_drew ?_ | refine blk_alloc ?_ _)); exact qc.out) Try.underlying26 rfl (by kernel_rfl)) rfl ?_
              exact ⟨_, by first | rfl | (simp [errW_none, errW_some] <;> rfl) | (simp [*, errW_none, errW_some] <;> rfl), by (with_reducible repeat (first | apply Kd.R_alloc | apply Kd.R_drewN | apply Kd.R_drew)); exact Kd.R_mono (Kd.R_far (p := ⟨qd, 2, none⟩) (Kd.R_far (p := ⟨qd, 1, none⟩) (Kd.R_far (p := ⟨qd, 0, none⟩) (Kd.R_types jd.out qc.out (by decide)) (fun _ hk => hk.2) (.slice z3 zv.length z4)) (fun _ hk => hk.2) (.int .i64 zF)) (fun _ hk => hk.2) (.bool z2)) (fun _ hk => trivial), bb_ HB⟩
             ·
              replace c91 := Bool.eq_false_iff.mpr c91
              subst c91
              have H1 : ((impl_makeOf.f k3 qk (wrap64 ((wrap64 (a1 * a0_1)) + (wrap64 (a3 * a2_1)))) false).bind fun qs => (some (qs.1, qs.2.1, qs.2.2.1, qs.2.2.2))) = some (r1, r2, r3, r4) := by rw [if_neg (show ¬ (false = true) by decide)] at H; exact H
              clear H
              have H := H1
              clear H1
              replace H := Option.bind_eq_some_iff.mp H
              obtain ⟨⟨zw, zG, z5, jA⟩, A1010, H⟩ := H
              replace H : (some (zw, zG, z5, jA)) = some (r1, r2, r3, r4) := H
              have A101 := Aside0.mk A1010
              clear A1010
              simp only [Option.some.injEq, Prod.mk.injEq] at H
              obtain ⟨rfl, rfl, rfl, rfl⟩ := H
              have Q6 := ql.out
              have Q7 := qm.out
              have Q8 := qi.out
              have Q9 := qj.out
              have jB : wr.cell? ⟨qe, 0, none⟩ = some (.slice A0_0 l0_0.length c0_0) := bc_ qa 0
              have jC : wr.cell? ⟨qe, 1, none⟩ = some (.int .i64 a0_1) := bc_ qa 1
              have jD : wr.cell? ⟨qe, 2, none⟩ = some (.bool false) := bc_ qa 2
              have jE := blk_frozen qa.out 0
              have jF := blk_frozen qa.out 1
              have jG := blk_frozen qa.out 2
              have Za := qn.out
              have Zb := qo.out
              have jH : wr.cell? ⟨qf, 0, none⟩ = some (.slice A2_0 l2_0.length c2_0) := bc_ qb 0
              have jI : wr.cell? ⟨qf, 1, none⟩ = some (.int .i64 a2_1) := bc_ qb 1
              have jJ : wr.cell? ⟨qf, 2, none⟩ = some (.bool false) := bc_ qb 2
              have jK := blk_frozen qb.out 0
              have jL := blk_frozen qb.out 1
              have jM := blk_frozen qb.out 2
              go_wp2_with (first | ((with_reducible refine gate_callee (f := 39) rfl ?_); refine goesL_ (some 97) rfl rfl Try.func39 (by kernel_rfl) rfl #[.slice zq qk.length zr, .int .i64 (wrap64 ((wrap64 (a1 * a0_1)) + (wrap64 (a3 * a2_1)))), .bool false] rfl (by (try simp only [List.map_toArray, List.map_cons, List.map_nil]); first | done | rfl | (simp only [List.length_drop, List.length_take]; rfl)) ?_; (with_reducible refine (impl_makeOf.calls k3 _ _ qk (wrap64 ((wrap64 (a1 * a0_1)) + (wrap64 (a3 * a2_1)))) false zw zG z5 jA _ ?side1 ?side2 A101.out).mono ?_); (case side1 => exact cr_ qg); (case side2 => exact (Kd.R_reads' qg.out).2.1); rintro e jh ⟨Jj, rfl, ho0, hb⟩; refine ⟨_, rfl, ?_⟩; have je := Aside0.mk (Kd.R_lower (Kd.R_new' ho0 (Kd.R_lt (rm_ qg))) (bz_ HB)); replace qg := Aside0.mk (Kd.R_elder' (rm_ qg) (Kd.R_base ho0) hb); replace qa := kB_ qa hb; replace qb := kB_ qb hb; replace qc := kB_ qc hb; replace HB := bS_ HB hb; (try clear hb); (try clear hb2); (try clear hk); (try clear hi); (try clear ho0); obtain ⟨zn, zo, eo108⟩ := Kd.R_slice je.out; subst eo108; have jN : jh.cell? ⟨qd, 0, none⟩ = some (.slice none 0 0) := bc_ qc 0; have jO : jh.cell? ⟨qd, 1, none⟩ = some (.int .i64 0) := bc_ qc 1; have jP : jh.cell? ⟨qd, 2, none⟩ = some (.bool false) := bc_ qc 2; have jQ := blk_frozen qc.out 0; have jR := blk_frozen qc.out 1; have jS := blk_frozen qc.out 2))
              refine bodyPost_ret (results_ct rfl _ _ qd 26 #[.slice zn zw.length zo, .int .i64 zG, .bool z5] (0, 0) _ rfl (by (with_reducible repeat (first | refine blk_drewN ?_ _ | refine blk_drew ?_ | refine blk_alloc ?_ _)); refine blk_put (cs := #[.slice zn zw.length zo, .int .i64 zG, .bool false]) ?_ 2 _ rfl; (with_reducible repeat (first | refine blk_drewN ?_ _ | refine blk_drew ?_ | refine blk_alloc ?_ _)); refine blk_put (cs := #[.slice zn zw.length zo, .int .i64 0, .bool false]) ?_ 1 _ rfl; (with_reducible repeat (first | refine blk_drewN ?_ _ | refine blk_drew ?_ | refine blk_alloc ?_ _)); refine blk_put (cs := #[.slice none 0 0, .int .i64 0, .bool false]) ?_ 0 _ rfl; (with_reducible repeat (first | refine blk_drewN ?_ _ | refine blk_drew ?_ | refine blk_alloc ?_ _)); exact qc.out) Try.underlying26 rfl (by kernel_rfl)) rfl ?_
              exact ⟨_, by first | rfl | (simp [errW_none, errW_some] <;> rfl) | (simp [*, errW_none, errW_some] <;> rfl), by (with_reducible repeat (first | apply Kd.R_alloc | apply Kd.R_drewN | apply Kd.R_drew)); exact Kd.R_mono (Kd.R_far (p := ⟨qd, 2, none⟩) (Kd.R_far (p := ⟨qd, 1, none⟩) (Kd.R_far (p := ⟨qd, 0, none⟩) (Kd.R_types je.out qc.out (by decide)) (fun _ hk => hk.2) (.slice zn zw.length zo)) (fun _ hk => hk.2) (.int .i64 zG)) (fun _ hk => hk.2) (.bool z5)) (fun _ hk => trivial), bb_ HB⟩
        ·
         rw [if_neg c46] at H
         exact absurd H (by simp)
       ·
        rw [if_neg c45] at H
        exact absurd H (by simp)

/-! ### spec_MixAtoms: function 10 -/
mutual
def spec_MixAtoms.j0 : Nat → Int → Int → Bool → List Int → Int → Bool → List Int → Int → Bool → Option (List Int × Int × Bool × Bool)
 | 0, _, _, _, _, _, _, _, _, _ => none
 | k + 1, x1, x3, x40, x302000, x302001, x302002, x303000, x303001, x303002 => if x40 = true then (some (([] : List Int), 0, false, false)) else (spec_MixAtoms.l0 k x1 x3 (([] : List Int)) 0 x302000 x302001 x302002 x303000 x303001 x303002)
def spec_MixAtoms.l0 : Nat → Int → Int → List Int → Int → List Int → Int → Bool → List Int → Int → Bool → Option (List Int × Int × Bool × Bool)
 | 0, _, _, _, _, _, _, _, _, _, _ => none
 | k + 1, x1, x3, x10, x11, x302000, x302001, x302002, x303000, x303001, x303002 => if x11 < (x302000.length : Int) then (if 0 ≤ x11 then (if x11 < (x303000.length : Int) then (if x10.length < 17592186044416 then (spec_MixAtoms.l0 k x1 x3 (x10 ++ [wrap64 ((wrap64 (x1 * (rd x302000 x11))) + (wrap64 (x3 * (rd x303000 x11))))]) (wrap64 (x11 + 1)) x302000 x302001 x302002 x303000 x303001 x303002) else (none)) else (none)) else (none)) else (if x302002 = true then (if x1 > 0 then ((spec_l2Atom.f k x10 (wrap64 ((wrap64 (x1 * x302001)) + (wrap64 (x3 * x303001)))) true).bind fun qE => (some (qE.1, qE.2.1, qE.2.2.1, qE.2.2.2))) else (if x303002 = true then ((spec_l2Atom.f k x10 (wrap64 ((wrap64 (x1 * x302001)) + (wrap64 (x3 * x303001)))) (decide (x3 > 0))).bind fun qp => (some (qp.1, qp.2.1, qp.2.2.1, qp.2.2.2))) else ((spec_l2Atom.f k x10 (wrap64 ((wrap64 (x1 * x302001)) + (wrap64 (x3 * x303001)))) false).bind fun qq => (some (qq.1, qq.2.1, qq.2.2.1, qq.2.2.2))))) else (if x303002 = true then ((spec_l2Atom.f k x10 (wrap64 ((wrap64 (x1 * x302001)) + (wrap64 (x3 * x303001)))) (decide (x3 > 0))).bind fun qr => (some (qr.1, qr.2.1, qr.2.2.1, qr.2.2.2))) else ((spec_l2Atom.f k x10 (wrap64 ((wrap64 (x1 * x302001)) + (wrap64 (x3 * x303001)))) false).bind fun qs => (some (qs.1, qs.2.1, qs.2.2.1, qs.2.2.2)))))
end
def spec_MixAtoms.f (k : Nat) (l0_0 : List Int) (a0_1 : Int) (a0_2 : Bool) (a1 : Int) (l2_0 : List Int) (a2_1 : Int) (a2_2 : Bool) (a3 : Int) : Option (List Int × Int × Bool × Bool) := (spec_IsAtom.f k l0_0 a0_1 a0_2).bind fun jC => (if jC = true then ((spec_IsAtom.f k l2_0 a2_1 a2_2).bind fun qO => (if qO = true then (if (l0_0.length : Int) = (l2_0.length : Int) then ((spec_l1In.f a1 0 400000000).bind fun qF => (if qF = true then ((spec_l1In.f a3 0 400000000).bind fun qy => (spec_MixAtoms.j0 k a1 a3 (!qy) l0_0 a0_1 a0_2 l2_0 a2_1 a2_2)) else (spec_MixAtoms.j0 k a1 a3 true l0_0 a0_1 a0_2 l2_0 a2_1 a2_2))) else (spec_MixAtoms.j0 k a1 a3 true l0_0 a0_1 a0_2 l2_0 a2_1 a2_2)) else (spec_MixAtoms.j0 k a1 a3 true l0_0 a0_1 a0_2 l2_0 a2_1 a2_2))) else (spec_MixAtoms.j0 k a1 a3 true l0_0 a0_1 a0_2 l2_0 a2_1 a2_2))
theorem spec_MixAtoms.mono_l : ∀ k, (∀ y0 y1 y2 y3 y4 y5 y6 y7 y8, LeO (spec_MixAtoms.j0 k y0 y1 y2 y3 y4 y5 y6 y7 y8) (spec_MixAtoms.j0 (k + 1) y0 y1 y2 y3 y4 y5 y6 y7 y8)) ∧ (∀ y0 y1 y2 y3 y4 y5 y6 y7 y8 y9, LeO (spec_MixAtoms.l0 k y0 y1 y2 y3 y4 y5 y6 y7 y8 y9) (spec_MixAtoms.l0 (k + 1) y0 y1 y2 y3 y4 y5 y6 y7 y8 y9))
 | 0 => ⟨fun _ _ _ _ _ _ _ _ _ r h => by simp [spec_MixAtoms.j0] at h, fun _ _ _ _ _ _ _ _ _ _ r h => by simp [spec_MixAtoms.l0] at h⟩
 | k + 1 => by
  obtain ⟨ih0, ih1⟩ := spec_MixAtoms.mono_l k
  refine ⟨?_, ?_⟩
  ·
   intro y0 y1 y2 y3 y4 y5 y6 y7 y8
   unfold spec_MixAtoms.j0
   repeat' first
   | (with_reducible exact ih0 _ _ _ _ _ _ _ _ _)
   | (with_reducible exact ih1 _ _ _ _ _ _ _ _ _ _)
   | (with_reducible exact spec_IsAtom.mono _ _ _ _)
   | (with_reducible exact spec_l2Atom.mono _ _ _ _)
   | (with_reducible exact LeO.refl _)
   | (with_reducible exact LeO.none _)
   | (with_reducible refine LeO.ite ?_ ?_)
   | (with_reducible refine LeO.bind ?_ (fun _ => ?_))
   | exact ih0 _ _ _ _ _ _ _ _ _
   | exact ih1 _ _ _ _ _ _ _ _ _ _
   | exact spec_IsAtom.mono _ _ _ _
   | exact spec_l2Atom.mono _ _ _ _
   | exact LeO.none _
   | refine LeO.ite ?_ ?_
   | refine LeO.bind ?_ (fun _ => ?_)
  ·
   intro y0 y1 y2 y3 y4 y5 y6 y7 y8 y9
   unfold spec_MixAtoms.l0
   repeat' first
   | (with_reducible exact ih0 _ _ _ _ _ _ _ _ _)
   | (with_reducible exact ih1 _ _ _ _ _ _ _ _ _ _)
   | (with_reducible exact spec_IsAtom.mono _ _ _ _)
   | (with_reducible exact spec_l2Atom.mono _ _ _ _)
   | (with_reducible exact LeO.refl _)
   | (with_reducible exact LeO.none _)
   | (with_reducible refine LeO.ite ?_ ?_)
   | (with_reducible refine LeO.bind ?_ (fun _ => ?_))
   | exact ih0 _ _ _ _ _ _ _ _ _
   | exact ih1 _ _ _ _ _ _ _ _ _ _
   | exact spec_IsAtom.mono _ _ _ _
   | exact spec_l2Atom.mono _ _ _ _
   | exact LeO.none _
   | refine LeO.ite ?_ ?_
   | refine LeO.bind ?_ (fun _ => ?_)
theorem spec_MixAtoms.mono : ∀ a0 a1 a2 a3 a4 a5 a6 a7 k, LeO (spec_MixAtoms.f k a0 a1 a2 a3 a4 a5 a6 a7) (spec_MixAtoms.f (k + 1) a0 a1 a2 a3 a4 a5 a6 a7) := by
 intro a0 a1 a2 a3 a4 a5 a6 a7 k
 obtain ⟨ih0, ih1⟩ := spec_MixAtoms.mono_l k
 unfold spec_MixAtoms.f
 repeat' first
   | (with_reducible exact ih0 _ _ _ _ _ _ _ _ _)
   | (with_reducible exact ih1 _ _ _ _ _ _ _ _ _ _)
   | (with_reducible exact spec_IsAtom.mono _ _ _ _)
   | (with_reducible exact spec_l2Atom.mono _ _ _ _)
   | (with_reducible exact LeO.refl _)
   | (with_reducible exact LeO.none _)
   | (with_reducible refine LeO.ite ?_ ?_)
   | (with_reducible refine LeO.bind ?_ (fun _ => ?_))
   | exact ih0 _ _ _ _ _ _ _ _ _
   | exact ih1 _ _ _ _ _ _ _ _ _ _
   | exact spec_IsAtom.mono _ _ _ _
   | exact spec_l2Atom.mono _ _ _ _
   | exact LeO.none _
   | refine LeO.ite ?_ ?_
   | refine LeO.bind ?_ (fun _ => ?_)
def spec_MixAtoms.T7 : Bool × List (List Nat × List Nat) := (true, [([], []), ([], []), ([], []), ([2], [2]), ([], []), ([3, 4], [3, 4]), ([5], [5]), ([1, 6], [1, 6]), ([], []), ([], []), ([9], [9]), ([], []), ([10, 11], [10, 11]), ([12], [12]), ([8, 13], [8, 13]), ([7, 14], [7, 14]), ([15], [15]), ([0, 16], [0, 16]), ([17, 17, 0, 1, 2, 3, 4, 5, 6, 7, 8, 9, 10, 11, 12, 13, 14, 15, 16, 17], [0, 17])])
def spec_MixAtoms.B7 : List Nat := [0, 0, 0, 4, 0, 28, 60, 126, 0, 0, 512, 0, 3584, 7680, 16128, 32766, 65534, 131071, 262143]
theorem spec_MixAtoms.tab7 : rtab .any (opsOf Try.f10 7) = spec_MixAtoms.T7 := by kernel_rfl
theorem spec_MixAtoms.bits7 : waitsOk spec_MixAtoms.T7.2 spec_MixAtoms.B7 = true := by kernel_rfl
set_option maxHeartbeats 8000000 in
set_option maxRecDepth 100000 in
theorem spec_MixAtoms.calls (k : Nat) (A0_0 : Option Addr) (c0_0 : Nat) (l0_0 : List Int) (a0_1 : Int) (a0_2 : Bool) (a1 : Int) (A2_0 : Option Addr) (c2_0 : Nat) (l2_0 : List Int) (a2_1 : Int) (a2_2 : Bool) (a3 : Int) (r1 : List Int) (r2 : Int) (r3 : Bool) (r4 : Bool) (w : World) (hr0_0 : Kd.C (Kd.int .i64) w A0_0 l0_0.length l0_0) (hc0_0 : l0_0.length ≤ c0_0) (hr2_0 : Kd.C (Kd.int .i64) w A2_0 l2_0.length l2_0) (hc2_0 : l2_0.length ≤ c2_0) (h : spec_MixAtoms.f k l0_0 a0_1 a0_2 a1 l2_0 a2_1 a2_2 a3 = some (r1, r2, r3, r4)) :
  Calls Try.prog 10 #[.agg #[.slice A0_0 l0_0.length c0_0, .int .i64 a0_1, .bool a0_2], .int .i64 a1, .agg #[.slice A2_0 l2_0.length c2_0, .int .i64 a2_1, .bool a2_2], .int .i64 a3] w fun e w' => ∃ v0_ : Value, e = .returned (.tuple #[.agg #[v0_, .int .i64 r2, .bool r3], .bool r4]) ∧ Kd.R (Kd.int .i64) 3 w' w.heap.size (fun _ => True) v0_ r1 ∧ Below w.heap.size w w' := by
 have hu26 := Try.underlying26
 have qP := Aside0.mk hr0_0
 have qQ := Aside0.mk hc0_0
 clear hr0_0 hc0_0
 have qR := Aside0.mk hr2_0
 have q3 := Aside0.mk hc2_0
 clear hr2_0 hc2_0
 have HB := Aside0.mk (Below.refl w.heap.size w)
 have H : ((spec_IsAtom.f k l0_0 a0_1 a0_2).bind fun jC => (if jC = true then ((spec_IsAtom.f k l2_0 a2_1 a2_2).bind fun qO => (if qO = true then (if (l0_0.length : Int) = (l2_0.length : Int) then ((spec_l1In.f a1 0 400000000).bind fun qF => (if qF = true then ((spec_l1In.f a3 0 400000000).bind fun qy => (spec_MixAtoms.j0 k a1 a3 (!qy) l0_0 a0_1 a0_2 l2_0 a2_1 a2_2)) else (spec_MixAtoms.j0 k a1 a3 true l0_0 a0_1 a0_2 l2_0 a2_1 a2_2))) else (spec_MixAtoms.j0 k a1 a3 true l0_0 a0_1 a0_2 l2_0 a2_1 a2_2)) else (spec_MixAtoms.j0 k a1 a3 true l0_0 a0_1 a0_2 l2_0 a2_1 a2_2))) else (spec_MixAtoms.j0 k a1 a3 true l0_0 a0_1 a0_2 l2_0 a2_1 a2_2))) = some (r1, r2, r3, r4) := h
 clear h
 have HC5 := Aside0.mk H
 clear H
 go_enter Try.func10, Try.ntmps10
 go_upto_region 1 with (first | ((with_reducible refine gate_dst (N := 4) rfl ?_); (try (refine gate_guard (by rfl) ?_; dsimp only)); refine box_event ?hg (N := 4) ?hd (cs := #[.slice A0_0 l0_0.length c0_0, .int .i64 a0_1, .bool a0_2]) (t := 26) ?hr ?_; (case hd => rfl); (case hg => rfl); (case hr => first | (go_simp; done) | (go_simp; rfl)); intro qd hg w6 hbox hb; have qa := Aside0.mk (hbox); have XA := Aside0.mk ((by rw [hg]; exact (bz_ HB) : w.heap.size ≤ qd)); have XB := Aside0.mk ((by rw [hg]; exact (bz_ HB) : w.heap.size ≤ qd)); replace HB := bS_ HB hb; clear hb hbox hg) | ((with_reducible refine gate_dst (N := 6) rfl ?_); (try (refine gate_guard (by rfl) ?_; dsimp only)); refine box_event ?hg (N := 6) ?hd (cs := #[.slice A2_0 l2_0.length c2_0, .int .i64 a2_1, .bool a2_2]) (t := 26) ?hr ?_; (case hd => rfl); (case hg => rfl); (case hr => first | (go_simp; done) | (go_simp; rfl)); intro qe hg w7 hbox hb; have qb := Aside0.mk (hbox); have XC := Aside0.mk ((by rw [hg]; exact (bz_ HB) : w.heap.size ≤ qe)); have XD := Aside0.mk ((by rw [hg]; exact (bz_ HB) : w.heap.size ≤ qe)); replace HB := bS_ HB hb; have qk := Aside0.mk ((nl_ qa hg : qd ≠ qe)); have ql := Aside0.mk ((ng_ qa hg : qe ≠ qd)); replace qa := kB_ qa hb; clear hb hbox hg) | ((with_reducible refine gate_dst (N := 8) rfl ?_); (try (refine gate_guard (by rfl) ?_; dsimp only)); refine box_event ?hg (N := 8) ?hd (cs := #[.slice none 0 0, .int .i64 0, .bool false]) (t := 26) ?hr ?_; (case hd => rfl); (case hg => rfl); (case hr => first | (go_simp; done) | (go_simp; rfl)); intro qf hg w8 hbox hb; have qc := Aside0.mk (hbox); have XE := Aside0.mk ((by rw [hg]; exact (bz_ HB) : w.heap.size ≤ qf)); have XF := Aside0.mk ((by rw [hg]; exact (bz_ HB) : w.heap.size ≤ qf)); replace HB := bS_ HB hb; have qh := Aside0.mk ((nl_ qa hg : qd ≠ qf)); have qi := Aside0.mk ((ng_ qa hg : qf ≠ qd)); replace qa := kB_ qa hb; have qn := Aside0.mk ((nl_ qb hg : qe ≠ qf)); have qo := Aside0.mk ((ng_ qb hg : qf ≠ qe)); replace qb := kB_ qb hb; clear hb hbox hg))
 (try simp only [Act.put, List.setIfInBounds_toArray, List.set_cons_zero, List.set_cons_succ])
 go_cut [40] (fun v40 wc => ∃ (kq : Nat) (q4 : Bool), v40 = .bool q4 ∧ Aside0 (spec_MixAtoms.j0 kq a1 a3 q4 l0_0 a0_1 a0_2 l2_0 a2_1 a2_2 = some (r1, r2, r3, r4)) ∧ Aside0 (kq ≤ k) ∧ Aside0 (wc.heap[qd]? = some (.cells #[(.slice A0_0 l0_0.length c0_0), .int .i64 a0_1, .bool a0_2] 26 (0, 0))) ∧ Aside0 (wc.heap[qe]? = some (.cells #[(.slice A2_0 l2_0.length c2_0), .int .i64 a2_1, .bool a2_2] 26 (0, 0))) ∧ Aside0 (wc.heap[qf]? = some (.cells #[(.slice none 0 0), .int .i64 0, .bool false] 26 (0, 0))) ∧ Aside0 (Below w.heap.size w wc))
 case first =>
  have H := HC5.out
  clear HC5
  replace H := Option.bind_eq_some_iff.mp H
  obtain ⟨jC, A90, H⟩ := H
  replace H : (if jC = true then ((spec_IsAtom.f k l2_0 a2_1 a2_2).bind fun qO => (if qO = true then (if (l0_0.length : Int) = (l2_0.length : Int) then ((spec_l1In.f a1 0 400000000).bind fun qF => (if qF = true then ((spec_l1In.f a3 0 400000000).bind fun qy => (spec_MixAtoms.j0 k a1 a3 (!qy) l0_0 a0_1 a0_2 l2_0 a2_1 a2_2)) else (spec_MixAtoms.j0 k a1 a3 true l0_0 a0_1 a0_2 l2_0 a2_1 a2_2))) else (spec_MixAtoms.j0 k a1 a3 true l0_0 a0_1 a0_2 l2_0 a2_1 a2_2)) else (spec_MixAtoms.j0 k a1 a3 true l0_0 a0_1 a0_2 l2_0 a2_1 a2_2))) else (spec_MixAtoms.j0 k a1 a3 true l0_0 a0_1 a0_2 l2_0 a2_1 a2_2)) = some (r1, r2, r3, r4) := H
  have A9 := Aside0.mk A90
  clear A90
  by_cases c10 : jC = true
  ·
   subst c10
   have H1 : ((spec_IsAtom.f k l2_0 a2_1 a2_2).bind fun qO => (if qO = true then (if (l0_0.length : Int) = (l2_0.length : Int) then ((spec_l1In.f a1 0 400000000).bind fun qF => (if qF = true then ((spec_l1In.f a3 0 400000000).bind fun qy => (spec_MixAtoms.j0 k a1 a3 (!qy) l0_0 a0_1 a0_2 l2_0 a2_1 a2_2)) else (spec_MixAtoms.j0 k a1 a3 true l0_0 a0_1 a0_2 l2_0 a2_1 a2_2))) else (spec_MixAtoms.j0 k a1 a3 true l0_0 a0_1 a0_2 l2_0 a2_1 a2_2)) else (spec_MixAtoms.j0 k a1 a3 true l0_0 a0_1 a0_2 l2_0 a2_1 a2_2))) = some (r1, r2, r3, r4) := by rw [if_pos rfl] at H; exact H
   clear H
   have H := H1
   clear H1
   replace H := Option.bind_eq_some_iff.mp H
   obtain ⟨qO, A110, H⟩ := H
   replace H : (if qO = true then (if (l0_0.length : Int) = (l2_0.length : Int) then ((spec_l1In.f a1 0 400000000).bind fun qF => (if qF = true then ((spec_l1In.f a3 0 400000000).bind fun qy => (spec_MixAtoms.j0 k a1 a3 (!qy) l0_0 a0_1 a0_2 l2_0 a2_1 a2_2)) else (spec_MixAtoms.j0 k a1 a3 true l0_0 a0_1 a0_2 l2_0 a2_1 a2_2))) else (spec_MixAtoms.j0 k a1 a3 true l0_0 a0_1 a0_2 l2_0 a2_1 a2_2)) else (spec_MixAtoms.j0 k a1 a3 true l0_0 a0_1 a0_2 l2_0 a2_1 a2_2)) = some (r1, r2, r3, r4) := H
   have A11 := Aside0.mk A110
   clear A110
   by_cases c12 : qO = true
   ·
    subst c12
    have H1 : (if (l0_0.length : Int) = (l2_0.length : Int) then ((spec_l1In.f a1 0 400000000).bind fun qF => (if qF = true then ((spec_l1In.f a3 0 400000000).bind fun qy => (spec_MixAtoms.j0 k a1 a3 (!qy) l0_0 a0_1 a0_2 l2_0 a2_1 a2_2)) else (spec_MixAtoms.j0 k a1 a3 true l0_0 a0_1 a0_2 l2_0 a2_1 a2_2))) else (spec_MixAtoms.j0 k a1 a3 true l0_0 a0_1 a0_2 l2_0 a2_1 a2_2)) = some (r1, r2, r3, r4) := by rw [if_pos rfl] at H; exact H
    clear H
    have H := H1
    clear H1
    by_cases c13 : (l0_0.length : Int) = (l2_0.length : Int)
    ·
     rw [if_pos c13] at H
     have qI : ((l0_0.length : Int) == (l2_0.length : Int)) = true := beq_iff_eq.mpr c13
     have Qb : ((l0_0.length : Int) != (l2_0.length : Int)) = false := bne_eq_false_iff_eq.mpr c13
     have Qc : (l0_0.length == l2_0.length) = true := by first | simpa using c13 | (simp at c13 ⊢; omega)
     clear c13
     (first | rw [qI] | (simp only [i64_w, i32_w]; rw [qI]) | skip)
     replace H := Option.bind_eq_some_iff.mp H
     obtain ⟨qF, A140, H⟩ := H
     replace H : (if qF = true then ((spec_l1In.f a3 0 400000000).bind fun qy => (spec_MixAtoms.j0 k a1 a3 (!qy) l0_0 a0_1 a0_2 l2_0 a2_1 a2_2)) else (spec_MixAtoms.j0 k a1 a3 true l0_0 a0_1 a0_2 l2_0 a2_1 a2_2)) = some (r1, r2, r3, r4) := H
     have A14 := Aside0.mk A140
     clear A140
     by_cases c15 : qF = true
     ·
      subst c15
      have H1 : ((spec_l1In.f a3 0 400000000).bind fun qy => (spec_MixAtoms.j0 k a1 a3 (!qy) l0_0 a0_1 a0_2 l2_0 a2_1 a2_2)) = some (r1, r2, r3, r4) := by rw [if_pos rfl] at H; exact H
      clear H
      have H := H1
      clear H1
      replace H := Option.bind_eq_some_iff.mp H
      obtain ⟨qy, A160, H⟩ := H
      replace H : (spec_MixAtoms.j0 k a1 a3 (!qy) l0_0 a0_1 a0_2 l2_0 a2_1 a2_2) = some (r1, r2, r3, r4) := H
      have A16 := Aside0.mk A160
      clear A160
      have H' := Aside0.mk H
      clear H
      have XG := qk.out
      have XH := ql.out
      have XI := qh.out
      have XJ := qi.out
      have q5 : w8.cell? ⟨qd, 0, none⟩ = some (.slice A0_0 l0_0.length c0_0) := bc_ qa 0
      have q6 : w8.cell? ⟨qd, 1, none⟩ = some (.int .i64 a0_1) := bc_ qa 1
      have q7 : w8.cell? ⟨qd, 2, none⟩ = some (.bool a0_2) := bc_ qa 2
      have q8 := blk_frozen qa.out 0
      have q9 := blk_frozen qa.out 1
      have za := blk_frozen qa.out 2
      go_wp2_with (first | ((with_reducible refine gate_callee (f := 40) rfl ?_); refine goesL_ (some 15) rfl rfl Try.func40 (by kernel_rfl) rfl #[.agg #[.slice A0_0 l0_0.length c0_0, .int .i64 a0_1, .bool a0_2]] rfl (by (try simp only [List.map_toArray, List.map_cons, List.map_nil]); first | done | rfl | (simp only [List.length_drop, List.length_take]; rfl)) ?_; (with_reducible refine (spec_IsAtom.calls k _ _ l0_0 a0_1 a0_2 true _ ?side1 ?side2 A9.out).mono ?_); (case side1 => exact cb_ qP HB); (case side2 => exact qQ.out); rintro e JQ ⟨rfl, hb⟩; refine ⟨_, rfl, ?_⟩; replace qa := kB_ qa hb; replace qb := kB_ qb hb; replace qc := kB_ qc hb; replace HB := bS_ HB hb; (try clear hb); (try clear hb2); (try clear hk); (try clear hi); have XK := qn.out; have XL := qo.out; have zb : JQ.cell? ⟨qe, 0, none⟩ = some (.slice A2_0 l2_0.length c2_0) := bc_ qb 0; have zc : JQ.cell? ⟨qe, 1, none⟩ = some (.int .i64 a2_1) := bc_ qb 1; have zd : JQ.cell? ⟨qe, 2, none⟩ = some (.bool a2_2) := bc_ qb 2; have ze := blk_frozen qb.out 0; have zf := blk_frozen qb.out 1; have zg := blk_frozen qb.out 2) | (go_at_call 40; (with_reducible refine (spec_IsAtom.calls k _ _ l2_0 a2_1 a2_2 true _ ?side1 ?side2 A11.out).mono ?_); (case side1 => exact cb_ qR HB); (case side2 => exact q3.out); rintro e Qu ⟨rfl, hb⟩; replace qa := kB_ qa hb; replace qb := kB_ qb hb; replace qc := kB_ qc hb; replace HB := bS_ HB hb; (try clear hb); (try clear hb2); (try clear hk); (try clear hi); have zh : Qu.cell? ⟨qd, 0, none⟩ = some (.slice A0_0 l0_0.length c0_0) := bc_ qa 0; have zi : Qu.cell? ⟨qd, 1, none⟩ = some (.int .i64 a0_1) := bc_ qa 1; have zj : Qu.cell? ⟨qd, 2, none⟩ = some (.bool a0_2) := bc_ qa 2; have zk := blk_frozen qa.out 0; have zl := blk_frozen qa.out 1; have zm := blk_frozen qa.out 2; have zn : Qu.cell? ⟨qe, 0, none⟩ = some (.slice A2_0 l2_0.length c2_0) := bc_ qb 0; have zo : Qu.cell? ⟨qe, 1, none⟩ = some (.int .i64 a2_1) := bc_ qb 1; have zp : Qu.cell? ⟨qe, 2, none⟩ = some (.bool a2_2) := bc_ qb 2; have zq := blk_frozen qb.out 0; have zr := blk_frozen qb.out 1; have zs := blk_frozen qb.out 2) | (go_at_call 41; (with_reducible refine (spec_l1In.calls a1 0 400000000 true _ A14.out).mono ?_); rintro e w' ⟨rfl, ⟨nd, rfl⟩⟩) | (go_at_call 41; (with_reducible refine (spec_l1In.calls a3 0 400000000 qy _ A16.out).mono ?_); rintro e w' ⟨rfl, ⟨nd, rfl⟩⟩))
      go_meet
      case rel => exact ⟨_, (!qy), (by first | rfl | (simp; done) | (simp [*]; done)), H', ⟨by first | omega | exact Nat.le_refl _⟩, ⟨kf_ qa⟩, ⟨kf_ qb⟩, ⟨kf_ qc⟩, ⟨bb_ HB⟩⟩
     ·
      replace c15 := Bool.eq_false_iff.mpr c15
      subst c15
      have H1 : (spec_MixAtoms.j0 k a1 a3 true l0_0 a0_1 a0_2 l2_0 a2_1 a2_2) = some (r1, r2, r3, r4) := by rw [if_neg (show ¬ (false = true) by decide)] at H; exact H
      clear H
      have H := H1
      clear H1
      have H' := Aside0.mk H
      clear H
      have XM := qk.out
      have XN := ql.out
      have XO := qh.out
      have XP := qi.out
      have zt : w8.cell? ⟨qd, 0, none⟩ = some (.slice A0_0 l0_0.length c0_0) := bc_ qa 0
      have zu : w8.cell? ⟨qd, 1, none⟩ = some (.int .i64 a0_1) := bc_ qa 1
      have zv : w8.cell? ⟨qd, 2, none⟩ = some (.bool a0_2) := bc_ qa 2
      have zw := blk_frozen qa.out 0
      have zx := blk_frozen qa.out 1
      have zy := blk_frozen qa.out 2
      go_wp2_with (first | ((with_reducible refine gate_callee (f := 40) rfl ?_); refine goesL_ (some 15) rfl rfl Try.func40 (by kernel_rfl) rfl #[.agg #[.slice A0_0 l0_0.length c0_0, .int .i64 a0_1, .bool a0_2]] rfl (by (try simp only [List.map_toArray, List.map_cons, List.map_nil]); first | done | rfl | (simp only [List.length_drop, List.length_take]; rfl)) ?_; (with_reducible refine (spec_IsAtom.calls k _ _ l0_0 a0_1 a0_2 true _ ?side1 ?side2 A9.out).mono ?_); (case side1 => exact cb_ qP HB); (case side2 => exact qQ.out); rintro e JR ⟨rfl, hb⟩; refine ⟨_, rfl, ?_⟩; replace qa := kB_ qa hb; replace qb := kB_ qb hb; replace qc := kB_ qc hb; replace HB := bS_ HB hb; (try clear hb); (try clear hb2); (try clear hk); (try clear hi); have XQ := qn.out; have XR := qo.out; have zz : JR.cell? ⟨qe, 0, none⟩ = some (.slice A2_0 l2_0.length c2_0) := bc_ qb 0; have zA : JR.cell? ⟨qe, 1, none⟩ = some (.int .i64 a2_1) := bc_ qb 1; have zB : JR.cell? ⟨qe, 2, none⟩ = some (.bool a2_2) := bc_ qb 2; have zC := blk_frozen qb.out 0; have zD := blk_frozen qb.out 1; have zE := blk_frozen qb.out 2) | (go_at_call 40; (with_reducible refine (spec_IsAtom.calls k _ _ l2_0 a2_1 a2_2 true _ ?side1 ?side2 A11.out).mono ?_); (case side1 => exact cb_ qR HB); (case side2 => exact q3.out); rintro e Qv ⟨rfl, hb⟩; replace qa := kB_ qa hb; replace qb := kB_ qb hb; replace qc := kB_ qc hb; replace HB := bS_ HB hb; (try clear hb); (try clear hb2); (try clear hk); (try clear hi); have zF : Qv.cell? ⟨qd, 0, none⟩ = some (.slice A0_0 l0_0.length c0_0) := bc_ qa 0; have zG : Qv.cell? ⟨qd, 1, none⟩ = some (.int .i64 a0_1) := bc_ qa 1; have zH : Qv.cell? ⟨qd, 2, none⟩ = some (.bool a0_2) := bc_ qa 2; have zI := blk_frozen qa.out 0; have zJ := blk_frozen qa.out 1; have zK := blk_frozen qa.out 2; have zL : Qv.cell? ⟨qe, 0, none⟩ = some (.slice A2_0 l2_0.length c2_0) := bc_ qb 0; have zM : Qv.cell? ⟨qe, 1, none⟩ = some (.int .i64 a2_1) := bc_ qb 1; have zN : Qv.cell? ⟨qe, 2, none⟩ = some (.bool a2_2) := bc_ qb 2; have zO := blk_frozen qb.out 0; have zP := blk_frozen qb.out 1; have zQ := blk_frozen qb.out 2) | (go_at_call 41; (with_reducible refine (spec_l1In.calls a1 0 400000000 false _ A14.out).mono ?_); rintro e w' ⟨rfl, ⟨nd, rfl⟩⟩))
      go_meet
      case rel => exact ⟨_, (true), (by first | rfl | (simp; done) | (simp [*]; done)), H', ⟨by first | omega | exact Nat.le_refl _⟩, ⟨kf_ qa⟩, ⟨kf_ qb⟩, ⟨kf_ qc⟩, ⟨bb_ HB⟩⟩
    ·
     rw [if_neg c13] at H
     have qI : ((l0_0.length : Int) == (l2_0.length : Int)) = false := beq_eq_false_iff_ne.mpr c13
     have Qb : ((l0_0.length : Int) != (l2_0.length : Int)) = true := bne_iff_ne.mpr c13
     have Qc : (l0_0.length == l2_0.length) = false := by first | simpa using c13 | (simp at c13 ⊢; omega)
     (first | rw [qI] | (simp only [i64_w, i32_w]; rw [qI]) | skip)
     have H' := Aside0.mk H
     clear H
     have XS := qk.out
     have XT := ql.out
     have XU := qh.out
     have XV := qi.out
     have zR : w8.cell? ⟨qd, 0, none⟩ = some (.slice A0_0 l0_0.length c0_0) := bc_ qa 0
     have zS : w8.cell? ⟨qd, 1, none⟩ = some (.int .i64 a0_1) := bc_ qa 1
     have zT : w8.cell? ⟨qd, 2, none⟩ = some (.bool a0_2) := bc_ qa 2
     have zU := blk_frozen qa.out 0
     have zV := blk_frozen qa.out 1
     have zW := blk_frozen qa.out 2
     go_wp2_with (first | ((with_reducible refine gate_callee (f := 40) rfl ?_); refine goesL_ (some 15) rfl rfl Try.func40 (by kernel_rfl) rfl #[.agg #[.slice A0_0 l0_0.length c0_0, .int .i64 a0_1, .bool a0_2]] rfl (by (try simp only [List.map_toArray, List.map_cons, List.map_nil]); first | done | rfl | (simp only [List.length_drop, List.length_take]; rfl)) ?_; (with_reducible refine (spec_IsAtom.calls k _ _ l0_0 a0_1 a0_2 true _ ?side1 ?side2 A9.out).mono ?_); (case side1 => exact cb_ qP HB); (case side2 => exact qQ.out); rintro e JS ⟨rfl, hb⟩; refine ⟨_, rfl, ?_⟩; replace qa := kB_ qa hb; replace qb := kB_ qb hb; replace qc := kB_ qc hb; replace HB := bS_ HB hb; (try clear hb); (try clear hb2); (try clear hk); (try clear hi); have XW := qn.out; have XX := qo.out; have zX : JS.cell? ⟨qe, 0, none⟩ = some (.slice A2_0 l2_0.length c2_0) := bc_ qb 0; have zY : JS.cell? ⟨qe, 1, none⟩ = some (.int .i64 a2_1) := bc_ qb 1; have zZ : JS.cell? ⟨qe, 2, none⟩ = some (.bool a2_2) := bc_ qb 2; have z0 := blk_frozen qb.out 0; have z1 := blk_frozen qb.out 1; have z2 := blk_frozen qb.out 2) | (go_at_call 40; (with_reducible refine (spec_IsAtom.calls k _ _ l2_0 a2_1 a2_2 true _ ?side1 ?side2 A11.out).mono ?_); (case side1 => exact cb_ qR HB); (case side2 => exact q3.out); rintro e Qw ⟨rfl, hb⟩; replace qa := kB_ qa hb; replace qb := kB_ qb hb; replace qc := kB_ qc hb; replace HB := bS_ HB hb; (try clear hb); (try clear hb2); (try clear hk); (try clear hi); have z3 : Qw.cell? ⟨qd, 0, none⟩ = some (.slice A0_0 l0_0.length c0_0) := bc_ qa 0; have z4 : Qw.cell? ⟨qd, 1, none⟩ = some (.int .i64 a0_1) := bc_ qa 1; have z5 : Qw.cell? ⟨qd, 2, none⟩ = some (.bool a0_2) := bc_ qa 2; have z6 := blk_frozen qa.out 0; have z7 := blk_frozen qa.out 1; have z8 := blk_frozen qa.out 2; have z9 : Qw.cell? ⟨qe, 0, none⟩ = some (.slice A2_0 l2_0.length c2_0) := bc_ qb 0; have ja : Qw.cell? ⟨qe, 1, none⟩ = some (.int .i64 a2_1) := bc_ qb 1; have jb : Qw.cell? ⟨qe, 2, none⟩ = some (.bool a2_2) := bc_ qb 2; have jc := blk_frozen qb.out 0; have jd := blk_frozen qb.out 1; have je := blk_frozen qb.out 2))
     go_meet
     case rel => exact ⟨_, (true), (by first | rfl | (simp; done) | (simp [*]; done)), H', ⟨by first | omega | exact Nat.le_refl _⟩, ⟨kf_ qa⟩, ⟨kf_ qb⟩, ⟨kf_ qc⟩, ⟨bb_ HB⟩⟩
   ·
    replace c12 := Bool.eq_false_iff.mpr c12
    subst c12
    have H1 : (spec_MixAtoms.j0 k a1 a3 true l0_0 a0_1 a0_2 l2_0 a2_1 a2_2) = some (r1, r2, r3, r4) := by rw [if_neg (show ¬ (false = true) by decide)] at H; exact H
    clear H
    have H := H1
    clear H1
    have H' := Aside0.mk H
    clear H
    have XY := qk.out
    have XZ := ql.out
    have X0 := qh.out
    have X1 := qi.out
    have jf : w8.cell? ⟨qd, 0, none⟩ = some (.slice A0_0 l0_0.length c0_0) := bc_ qa 0
    have jg : w8.cell? ⟨qd, 1, none⟩ = some (.int .i64 a0_1) := bc_ qa 1
    have jh : w8.cell? ⟨qd, 2, none⟩ = some (.bool a0_2) := bc_ qa 2
    have ji := blk_frozen qa.out 0
    have jj := blk_frozen qa.out 1
    have jk := blk_frozen qa.out 2
    go_wp2_with (first | ((with_reducible refine gate_callee (f := 40) rfl ?_); refine goesL_ (some 15) rfl rfl Try.func40 (by kernel_rfl) rfl #[.agg #[.slice A0_0 l0_0.length c0_0, .int .i64 a0_1, .bool a0_2]] rfl (by (try simp only [List.map_toArray, List.map_cons, List.map_nil]); first | done | rfl | (simp only [List.length_drop, List.length_take]; rfl)) ?_; (with_reducible refine (spec_IsAtom.calls k _ _ l0_0 a0_1 a0_2 true _ ?side1 ?side2 A9.out).mono ?_); (case side1 => exact cb_ qP HB); (case side2 => exact qQ.out); rintro e JT ⟨rfl, hb⟩; refine ⟨_, rfl, ?_⟩; replace qa := kB_ qa hb; replace qb := kB_ qb hb; replace qc := kB_ qc hb; replace HB := bS_ HB hb; (try clear hb); (try clear hb2); (try clear hk); (try clear hi); have X2 := qn.out; have X3 := qo.out; have jl : JT.cell? ⟨qe, 0, none⟩ = some (.slice A2_0 l2_0.length c2_0) := bc_ qb 0; have jm : JT.cell? ⟨qe, 1, none⟩ = some (.int .i64 a2_1) := bc_ qb 1; have jn : JT.cell? ⟨qe, 2, none⟩ = some (.bool a2_2) := bc_ qb 2; have jo := blk_frozen qb.out 0; have jp := blk_frozen qb.out 1; have jq := blk_frozen qb.out 2) | (go_at_call 40; (with_reducible refine (spec_IsAtom.calls k _ _ l2_0 a2_1 a2_2 false _ ?side1 ?side2 A11.out).mono ?_); (case side1 => exact cb_ qR HB); (case side2 => exact q3.out); rintro e YY ⟨rfl, hb⟩; replace qa := kB_ qa hb; replace qb := kB_ qb hb; replace qc := kB_ qc hb; replace HB := bS_ HB hb; (try clear hb); (try clear hb2); (try clear hk); (try clear hi)))
    go_meet
    case rel => exact ⟨_, (true), (by first | rfl | (simp; done) | (simp [*]; done)), H', ⟨by first | omega | exact Nat.le_refl _⟩, ⟨kf_ qa⟩, ⟨kf_ qb⟩, ⟨kf_ qc⟩, ⟨bb_ HB⟩⟩
  ·
   replace c10 := Bool.eq_false_iff.mpr c10
   subst c10
   have H1 : (spec_MixAtoms.j0 k a1 a3 true l0_0 a0_1 a0_2 l2_0 a2_1 a2_2) = some (r1, r2, r3, r4) := by rw [if_neg (show ¬ (false = true) by decide)] at H; exact H
   clear H
   have H := H1
   clear H1
   have H' := Aside0.mk H
   clear H
   have X4 := qk.out
   have X5 := ql.out
   have X6 := qh.out
   have X7 := qi.out
   have jr : w8.cell? ⟨qd, 0, none⟩ = some (.slice A0_0 l0_0.length c0_0) := bc_ qa 0
   have js : w8.cell? ⟨qd, 1, none⟩ = some (.int .i64 a0_1) := bc_ qa 1
   have jt : w8.cell? ⟨qd, 2, none⟩ = some (.bool a0_2) := bc_ qa 2
   have ju := blk_frozen qa.out 0
   have jv := blk_frozen qa.out 1
   have jw := blk_frozen qa.out 2
   go_wp2_with (first | ((with_reducible refine gate_callee (f := 40) rfl ?_); refine goesL_ (some 15) rfl rfl Try.func40 (by kernel_rfl) rfl #[.agg #[.slice A0_0 l0_0.length c0_0, .int .i64 a0_1, .bool a0_2]] rfl (by (try simp only [List.map_toArray, List.map_cons, List.map_nil]); first | done | rfl | (simp only [List.length_drop, List.length_take]; rfl)) ?_; (with_reducible refine (spec_IsAtom.calls k _ _ l0_0 a0_1 a0_2 false _ ?side1 ?side2 A9.out).mono ?_); (case side1 => exact cb_ qP HB); (case side2 => exact qQ.out); rintro e YZ ⟨rfl, hb⟩; refine ⟨_, rfl, ?_⟩; replace qa := kB_ qa hb; replace qb := kB_ qb hb; replace qc := kB_ qc hb; replace HB := bS_ HB hb; (try clear hb); (try clear hb2); (try clear hk); (try clear hi)))
   go_meet
   case rel => exact ⟨_, (true), (by first | rfl | (simp; done) | (simp [*]; done)), H', ⟨by first | omega | exact Nat.le_refl _⟩, ⟨kf_ qa⟩, ⟨kf_ qb⟩, ⟨kf_ qc⟩, ⟨bb_ HB⟩⟩
 case rest =>
  clear HC5
  try clear c1
  try clear c2
  try clear p2
  try clear c3
  try clear c4
  try clear c5
  try clear c10
  try clear c12
  try clear c13
  try clear qI
  try clear Qb
  try clear Qc
  try clear c15
  try clear c17
  try clear c18
  try clear c21
  try clear c26
  try clear c27
  try clear c30
  try clear c35
  try clear c36
  try clear c39
  try clear c40
  try clear c44
  try clear c45
  try clear c48
  try clear c51
  try clear c52
  try clear q5
  try clear q6
  try clear q7
  try clear zb
  try clear zc
  try clear zd
  try clear zh
  try clear zi
  try clear zj
  try clear zn
  try clear zo
  try clear zp
  try clear zt
  try clear zu
  try clear zv
  try clear zz
  try clear zA
  try clear zB
  try clear zF
  try clear zG
  try clear zH
  try clear zL
  try clear zM
  try clear zN
  try clear zR
  try clear zS
  try clear zT
  try clear zX
  try clear zY
  try clear zZ
  try clear z3
  try clear z4
  try clear z5
  try clear z9
  try clear ja
  try clear jb
  try clear jf
  try clear jg
  try clear jh
  try clear jl
  try clear jm
  try clear jn
  try clear jr
  try clear js
  try clear jt
  try clear q8
  try clear q9
  try clear za
  try clear ze
  try clear zf
  try clear zg
  try clear zk
  try clear zl
  try clear zm
  try clear zq
  try clear zr
  try clear zs
  try clear zw
  try clear zx
  try clear zy
  try clear zC
  try clear zD
  try clear zE
  try clear zI
  try clear zJ
  try clear zK
  try clear zO
  try clear zP
  try clear zQ
  try clear zU
  try clear zV
  try clear zW
  try clear z0
  try clear z1
  try clear z2
  try clear z6
  try clear z7
  try clear z8
  try clear jc
  try clear jd
  try clear je
  try clear ji
  try clear jj
  try clear jk
  try clear jo
  try clear jp
  try clear jq
  try clear ju
  try clear jv
  try clear jw
  obtain ⟨kq, q4, rfl, HA, HJ4, qa, qb, qc, HB⟩ := hcut
  cases kq with
  | zero => exact absurd HA.out (by simp [spec_MixAtoms.j0])
  | succ kj4 =>
   have H := HA.out
   clear HA
   simp only [spec_MixAtoms.j0] at H
   by_cases c55 : q4 = true
   ·
    subst c55
    have H1 : (some (([] : List Int), 0, false, false)) = some (r1, r2, r3, r4) := by rw [if_pos rfl] at H; exact H
    clear H
    have H := H1
    clear H1
    simp only [Option.some.injEq, Prod.mk.injEq] at H
    obtain ⟨rfl, rfl, rfl, rfl⟩ := H
    have X8 := qi.out
    have X9 := qh.out
    have Ya := qo.out
    have Yb := qn.out
    have Qo : wc.cell? ⟨qf, 0, none⟩ = some (.slice none 0 0) := bc_ qc 0
    have Qp : wc.cell? ⟨qf, 1, none⟩ = some (.int .i64 0) := bc_ qc 1
    have Qq : wc.cell? ⟨qf, 2, none⟩ = some (.bool false) := bc_ qc 2
    have Qr := blk_frozen qc.out 0
    have Qs := blk_frozen qc.out 1
    have Qt := blk_frozen qc.out 2
    go_wp2
    refine bodyPost_ret (results_ct rfl _ _ qf 26 #[.slice none 0 0, .int .i64 0, .bool false] (0, 0) _ rfl (by (with_reducible repeat (first | refine blk_drewN ?_ _ | refine blk_drew ?_ | refine blk_alloc ?_ _)); refine blk_put (cs := #[.slice none 0 0, .int .i64 0, .bool false]) ?_ 2 _ rfl; (with_reducible repeat (first | refine blk_drewN ?_ _ | refine blk_drew ?_ | refine blk_alloc ?_ _)); refine blk_put (cs := #[.slice none 0 0, .int .i64 0, .bool false]) ?_ 1 _ rfl; (with_reducible repeat (first | refine blk_drewN ?_ _ | refine blk_drew ?_ | refine blk_alloc ?_ _)); refine blk_put (cs := #[.slice none 0 0, .int .i64 0, .bool false]) ?_ 0 _ rfl; (with_reducible repeat (first | refine blk_drewN ?_ _ | refine blk_drew ?_ | refine blk_alloc ?_ _)); exact qc.out) Try.underlying26 rfl (by kernel_rfl)) rfl ?_
    exact ⟨_, by first | rfl | (simp [errW_none, errW_some] <;> rfl) | (simp [*, errW_none, errW_some] <;> rfl), by first | exact Kd.R_nil _ _ _ _ _ | exact Kd.N_nil _ _ _ _ _ | exact Kd.V_nil _ _ _ _ _ | exact Kd.Q_nil _ _ _ _ _ | exact Kd.S_nil _ _ _ _ _, bb_ HB⟩
   ·
    replace c55 := Bool.eq_false_iff.mpr c55
    subst c55
    have H1 : (spec_MixAtoms.l0 kj4 a1 a3 (([] : List Int)) 0 l0_0 a0_1 a0_2 l2_0 a2_1 a2_2) = some (r1, r2, r3, r4) := by rw [if_neg (show ¬ (false = true) by decide)] at H; exact H
    clear H
    have H := H1
    clear H1
    obtain ⟨y308, hy308⟩ : ∃ y_ : List Int, y_ = (([] : List Int)) := ⟨_, rfl⟩
    replace H : (spec_MixAtoms.l0 kj4 a1 a3 y308 0 l0_0 a0_1 a0_2 l2_0 a2_1 a2_2) = some (r1, r2, r3, r4) := by first | (rw [hy308]; with_reducible exact H) | (have H2_ := (Option.bind_some _ _).symm.trans H; rw [hy308]; with_reducible exact H2_) | (have H2_ := (Option.bind_some _ _).symm.trans H; with_reducible exact H2_) | with_reducible exact H | (rw [hy308]; exact H) | exact H
    have Ny308 := Aside0.mk hy308
    clear hy308
    have H' := Aside0.mk H
    clear H
    go_wp2_with (first | ((with_reducible refine gate_dst (N := 42) rfl ?_); (try (refine gate_guard (by rfl) ?_; dsimp only)); refine Kd.R_lit (Kd.int .i64) _ 3 ?hg (N := 42) ?hd (xs := ([] : List Int)) (inner := []) (ok := fun _ => True) (okp := fun _ => True) ?hr ?hp (fun _ hk => hk) trivial (Below.refl _ _) (Nat.le_refl _) (by simp) ?_; (case hd => rfl); (case hg => rfl); (case hr => first | (go_simp; done) | (go_simp; rfl)); (case hp => exact (Reps.none _ _)); intro YO Y0 ho60 hb hg_ hnew_; clear hg_ hnew_; (first | rw [← Ny308.out] at ho60 | (simp only [Int.reduceToNat] at ho60; rw [← Ny308.out] at ho60)); have Qz := Aside0.mk (Kd.R_lower ho60 (bz_ HB)); replace qa := kB_ qa hb; replace qb := kB_ qb hb; replace qc := kB_ qc hb; replace HB := bS_ HB hb; clear hb ho60))
    go_loopg [10, 11] kj4 (fun kq v10 v11 w' => ∃ (qm : List Int) (qj : Int), v11 = .int .i64 qj ∧ Aside0 (spec_MixAtoms.l0 kq a1 a3 qm qj l0_0 a0_1 a0_2 l2_0 a2_1 a2_2 = some (r1, r2, r3, r4)) ∧ Aside0 (kq ≤ kj4) ∧ Aside0 (Kd.R (Kd.int .i64) 3 w' w.heap.size (fun _ => True) v10 qm) ∧ Aside0 (w'.heap[qd]? = some (.cells #[(.slice A0_0 l0_0.length c0_0), .int .i64 a0_1, .bool a0_2] 26 (0, 0))) ∧ Aside0 (w'.heap[qe]? = some (.cells #[(.slice A2_0 l2_0.length c2_0), .int .i64 a2_1, .bool a2_2] 26 (0, 0))) ∧ Aside0 (w'.heap[qf]? = some (.cells #[(.slice none 0 0), .int .i64 0, .bool false] 26 (0, 0))) ∧ Aside0 (Below w.heap.size w w'))
    case atStart => exact ⟨(y308), (0), (by first | rfl | (simp; done) | (simp [*]; done)), H', ⟨Nat.le_refl _⟩, ⟨by (with_reducible repeat (first | apply Kd.R_alloc | apply Kd.R_drewN | apply Kd.R_drew)); exact Qz.out⟩, ⟨kf_ qa⟩, ⟨kf_ qb⟩, ⟨kf_ qc⟩, ⟨bb_ HB⟩⟩
    case round =>
     clear H'
     try clear c1
     try clear c2
     try clear p2
     try clear c3
     try clear c4
     try clear c5
     try clear c10
     try clear c12
     try clear c13
     try clear qI
     try clear Qb
     try clear Qc
     try clear c15
     try clear c17
     try clear c18
     try clear c21
     try clear c26
     try clear c27
     try clear c30
     try clear c35
     try clear c36
     try clear c39
     try clear c40
     try clear c44
     try clear c45
     try clear c48
     try clear c51
     try clear c52
     try clear c55
     try clear c56
     try clear c57
     try clear q5
     try clear q6
     try clear q7
     try clear zb
     try clear zc
     try clear zd
     try clear zh
     try clear zi
     try clear zj
     try clear zn
     try clear zo
     try clear zp
     try clear zt
     try clear zu
     try clear zv
     try clear zz
     try clear zA
     try clear zB
     try clear zF
     try clear zG
     try clear zH
     try clear zL
     try clear zM
     try clear zN
     try clear zR
     try clear zS
     try clear zT
     try clear zX
     try clear zY
     try clear zZ
     try clear z3
     try clear z4
     try clear z5
     try clear z9
     try clear ja
     try clear jb
     try clear jf
     try clear jg
     try clear jh
     try clear jl
     try clear jm
     try clear jn
     try clear jr
     try clear js
     try clear jt
     try clear Qo
     try clear Qp
     try clear Qq
     try clear q8
     try clear q9
     try clear za
     try clear ze
     try clear zf
     try clear zg
     try clear zk
     try clear zl
     try clear zm
     try clear zq
     try clear zr
     try clear zs
     try clear zw
     try clear zx
     try clear zy
     try clear zC
     try clear zD
     try clear zE
     try clear zI
     try clear zJ
     try clear zK
     try clear zO
     try clear zP
     try clear zQ
     try clear zU
     try clear zV
     try clear zW
     try clear z0
     try clear z1
     try clear z2
     try clear z6
     try clear z7
     try clear z8
     try clear jc
     try clear jd
     try clear je
     try clear ji
     try clear jj
     try clear jk
     try clear jo
     try clear jp
     try clear jq
     try clear ju
     try clear jv
     try clear jw
     try clear Qr
     try clear Qs
     try clear Qt
     try clear p2
     obtain ⟨qm, qj, rfl, HA, HK2, qg, qa, qb, qc, HB⟩ := hrel
     cases gk with
     | zero => exact absurd HA.out (by simp [spec_MixAtoms.l0])
     | succ k2 =>
      have H := HA.out
      clear HA
      simp only [spec_MixAtoms.l0] at H
      by_cases c61 : qj < (l0_0.length : Int)
      ·
       rw [if_pos c61] at H
       have QA : decide (qj < (l0_0.length : Int)) = true := decide_eq_true c61
       clear c61
       by_cases c62 : 0 ≤ qj
       ·
        rw [if_pos c62] at H
        have Yc : decide (0 ≤ qj) = true := decide_eq_true c62
        clear c62
        by_cases c63 : qj < (l2_0.length : Int)
        ·
         rw [if_pos c63] at H
         have Yd : decide (qj < (l2_0.length : Int)) = true := decide_eq_true c63
         clear c63
         by_cases c64 : qm.length < 17592186044416
         ·
          rw [if_pos c64] at H
          have LMc64 := Aside0.mk c64
          clear c64
          obtain ⟨y313, hy313⟩ : ∃ y_ : List Int, y_ = (qm ++ [wrap64 ((wrap64 (a1 * (rd l0_0 qj))) + (wrap64 (a3 * (rd l2_0 qj))))]) := ⟨_, rfl⟩
          replace H : (spec_MixAtoms.l0 k2 a1 a3 y313 (wrap64 (qj + 1)) l0_0 a0_1 a0_2 l2_0 a2_1 a2_2) = some (r1, r2, r3, r4) := by first | (rw [hy313]; with_reducible exact H) | (have H2_ := (Option.bind_some _ _).symm.trans H; rw [hy313]; with_reducible exact H2_) | (have H2_ := (Option.bind_some _ _).symm.trans H; with_reducible exact H2_) | with_reducible exact H | (rw [hy313]; exact H) | exact H
          have Ny313 := Aside0.mk hy313
          clear hy313
          have H' := Aside0.mk H
          clear H
          have Ye := qk.out
          have Yf := ql.out
          have Yg := qh.out
          have Yh := qi.out
          have Ja : wr.cell? ⟨qd, 0, none⟩ = some (.slice A0_0 l0_0.length c0_0) := bc_ qa 0
          have Jb : wr.cell? ⟨qd, 1, none⟩ = some (.int .i64 a0_1) := bc_ qa 1
          have Jc : wr.cell? ⟨qd, 2, none⟩ = some (.bool a0_2) := bc_ qa 2
          have Jd := blk_frozen qa.out 0
          have Je := blk_frozen qa.out 1
          have Jf := blk_frozen qa.out 2
          try go_wp2
          replace qg := Aside0.mk (Kd.R_drew qg.out); replace qa := Aside0.mk (blk_drew qa.out); replace qb := Aside0.mk (blk_drew qb.out); replace qc := Aside0.mk (blk_drew qc.out); replace HB := Aside0.mk (below_drew1 HB.out)
          have p311 : 0 ≤ (qj : Int) := of_decide_eq_true (by first | (with_reducible assumption) | assumption)
          have q311 : qj < (l0_0.length : Int) := of_decide_eq_true (by first | (with_reducible assumption) | assumption)
          obtain ⟨Qd, e311, qG⟩ := Kd.at_int qP.out qj p311 q311
          have hw311_0 := qG
          cases e311
          replace qG := (HB.out.cell (World.block_lt_of_cell? w _ qG)).trans qG
          replace p311 := eq_true p311
          replace q311 := eq_true q311
          have p312 : 0 ≤ (qj : Int) := of_decide_eq_true (by first | (with_reducible assumption) | assumption)
          have q312 : qj < (l2_0.length : Int) := of_decide_eq_true (by first | (with_reducible assumption) | assumption)
          obtain ⟨Qe, e312, qH⟩ := Kd.at_int qR.out qj p312 q312
          have hw312_0 := qH
          cases e312
          replace qH := (HB.out.cell (World.block_lt_of_cell? w _ qH)).trans qH
          replace p312 := eq_true p312
          replace q312 := eq_true q312
          refine start_ (n := 19) (S := fun w' => w'.cell? ⟨qd, 0, none⟩ = some (.slice (some Qd) l0_0.length c0_0) ∧ w'.cell? ⟨qd, 1, none⟩ = some (.int .i64 a0_1) ∧ w'.cell? ⟨qd, 2, none⟩ = some (.bool a0_2) ∧ w'.cell? ⟨qe, 0, none⟩ = some (.slice (some Qe) l2_0.length c2_0) ∧ w'.cell? ⟨qe, 1, none⟩ = some (.int .i64 a2_1) ∧ w'.cell? ⟨qe, 2, none⟩ = some (.bool a2_2) ∧ w'.cell? (Qd.add (qj).toNat) = some (.int .i64 (rd l0_0 qj)) ∧ w'.cell? (Qe.add (qj).toNat) = some (.int .i64 (rd l2_0 qj))) (ds := []) #[false, false, false, false, false, false, false, false, false, false, false, false, false, false, false, false, false, false, false] (by kernel_rfl) rfl rfl ⟨bc_ qa 0, bc_ qa 1, bc_ qa 2, bc_ qb 0, bc_ qb 1, bc_ qb 2, ((HB.out.cell (World.block_lt_of_cell? w _ hw311_0)).trans hw311_0), ((HB.out.cell (World.block_lt_of_cell? w _ hw312_0)).trans hw312_0)⟩ (fun hHeld => ?_); refine with_tabW spec_MixAtoms.tab7 spec_MixAtoms.bits7 (fun HT_ HW_ => ?_)
          generalize wr.drew = Y1 at qg qa qb qc HB qG qH hHeld ⊢
          refine pure_ (i := 0) (N := some 50) (v := ?_) (a' := ?_) #[true, false, false, false, false, false, false, false, false, false, false, false, false, false, false, false, false, false, false] rfl rfl (any_of HT_.out (by kernel_rfl)) (fun _ _ _ h => h) (Or.inl ⟨by rfl, ?_⟩) ?_ ?_
          rotate_left
          ·
           intro w'
           go_simp
           with_reducible rfl
          rotate_left
          ·
           simp only [Act.put, List.setIfInBounds_toArray, List.set_cons_zero, List.set_cons_succ, i64_w, i32_w]
           rfl
          refine pure_ (i := 1) (N := some 51) (v := ?_) (a' := ?_) #[true, true, false, false, false, false, false, false, false, false, false, false, false, false, false, false, false, false, false] rfl rfl (any_of HT_.out (by kernel_rfl)) (fun _ _ _ h => h) (Or.inl ⟨by rfl, ?_⟩) ?_ ?_
          rotate_left
          ·
           intro w'
           go_simp
           with_reducible rfl
          rotate_left
          ·
           simp only [Act.put, List.setIfInBounds_toArray, List.set_cons_zero, List.set_cons_succ, i64_w, i32_w]
           rfl
          refine pure_ (i := 2) (N := some 52) (v := ?_) (a' := ?_) #[true, true, true, false, false, false, false, false, false, false, false, false, false, false, false, false, false, false, false] rfl rfl (any_of HT_.out (by kernel_rfl)) (fun _ _ _ h => h) (Or.inl ⟨by rfl, ?_⟩) ?_ ?_
          rotate_left
          ·
           intro w'
           go_simp
           with_reducible rfl
          rotate_left
          ·
           simp only [Act.put, List.setIfInBounds_toArray, List.set_cons_zero, List.set_cons_succ, i64_w, i32_w]
           rfl
          refine pure_ (i := 4) (N := some 54) (v := ?_) (a' := ?_) #[true, true, true, false, true, false, false, false, false, false, false, false, false, false, false, false, false, false, false] rfl rfl (any_of HT_.out (by kernel_rfl)) (fun _ _ _ h => h) (Or.inl ⟨by rfl, ?_⟩) ?_ ?_
          rotate_left
          ·
           intro w'
           go_simp
           with_reducible rfl
          rotate_left
          ·
           simp only [Act.put, List.setIfInBounds_toArray, List.set_cons_zero, List.set_cons_succ, i64_w, i32_w]
           rfl
          refine pure_ (i := 8) (N := some 58) (v := ?_) (a' := ?_) #[true, true, true, false, true, false, false, false, true, false, false, false, false, false, false, false, false, false, false] rfl rfl (any_of HT_.out (by kernel_rfl)) (fun _ _ _ h => h) (Or.inl ⟨by rfl, ?_⟩) ?_ ?_
          rotate_left
          ·
           intro w'
           go_simp
           with_reducible rfl
          rotate_left
          ·
           simp only [Act.put, List.setIfInBounds_toArray, List.set_cons_zero, List.set_cons_succ, i64_w, i32_w]
           rfl
          refine pure_ (i := 9) (N := some 59) (v := ?_) (a' := ?_) #[true, true, true, false, true, false, false, false, true, true, false, false, false, false, false, false, false, false, false] rfl rfl (any_of HT_.out (by kernel_rfl)) (fun _ _ _ h => h) (Or.inl ⟨by rfl, ?_⟩) ?_ ?_
          rotate_left
          ·
           intro w'
           go_simp
           with_reducible rfl
          rotate_left
          ·
           simp only [Act.put, List.setIfInBounds_toArray, List.set_cons_zero, List.set_cons_succ, i64_w, i32_w]
           rfl
          refine pure_ (i := 11) (N := some 61) (v := ?_) (a' := ?_) #[true, true, true, false, true, false, false, false, true, true, false, true, false, false, false, false, false, false, false] rfl rfl (any_of HT_.out (by kernel_rfl)) (fun _ _ _ h => h) (Or.inl ⟨by rfl, ?_⟩) ?_ ?_
          rotate_left
          ·
           intro w'
           go_simp
           with_reducible rfl
          rotate_left
          ·
           simp only [Act.put, List.setIfInBounds_toArray, List.set_cons_zero, List.set_cons_succ, i64_w, i32_w]
           rfl
          refine take_ (i := 3) (N := some 53) (v := ?_) (a' := ?_) #[true, true, true, true, true, false, false, false, true, true, false, true, false, false, false, false, false, false, false] rfl rfl (take_ofW HT_.out HW_.out (by kernel_rfl)) (fun _ _ _ h => h) (Or.inl ⟨by rfl, ?_⟩) hHeld ?_ ?_
          rotate_left
          ·
           rintro w' ⟨s0, s1, s2, s3, s4, s5, s6, s7⟩
           go_simp
           with_reducible rfl
          rotate_left
          ·
           simp only [Act.put, List.setIfInBounds_toArray, List.set_cons_zero, List.set_cons_succ, i64_w, i32_w]
           rfl
          refine pure_ (i := 5) (N := some 55) (v := ?_) (a' := ?_) #[true, true, true, true, true, true, false, false, true, true, false, true, false, false, false, false, false, false, false] rfl rfl (any_of HT_.out (by kernel_rfl)) (fun _ _ _ h => h) (Or.inl ⟨by rfl, ?_⟩) ?_ ?_
          rotate_left
          ·
           intro w'
           go_simp
           with_reducible rfl
          rotate_left
          ·
           simp only [Act.put, List.setIfInBounds_toArray, List.set_cons_zero, List.set_cons_succ, i64_w, i32_w]
           rfl
          refine take_ (i := 6) (N := some 56) (v := ?_) (a' := ?_) #[true, true, true, true, true, true, true, false, true, true, false, true, false, false, false, false, false, false, false] rfl rfl (take_ofW HT_.out HW_.out (by kernel_rfl)) (fun _ _ _ h => h) (Or.inl ⟨by rfl, ?_⟩) hHeld ?_ ?_
          rotate_left
          ·
           rintro w' ⟨s0, s1, s2, s3, s4, s5, s6, s7⟩
           go_simp
           with_reducible rfl
          rotate_left
          ·
           simp only [Act.put, List.setIfInBounds_toArray, List.set_cons_zero, List.set_cons_succ, i64_w, i32_w]
           rfl
          refine pure_ (i := 7) (N := some 57) (v := ?_) (a' := ?_) #[true, true, true, true, true, true, true, true, true, true, false, true, false, false, false, false, false, false, false] rfl rfl (any_of HT_.out (by kernel_rfl)) (fun _ _ _ h => h) (Or.inl ⟨by rfl, ?_⟩) ?_ ?_
          rotate_left
          ·
           intro w'
           go_simp
           with_reducible rfl
          rotate_left
          ·
           simp only [Act.put, List.setIfInBounds_toArray, List.set_cons_zero, List.set_cons_succ, i64_w, i32_w]
           rfl
          refine take_ (i := 10) (N := some 60) (v := ?_) (a' := ?_) #[true, true, true, true, true, true, true, true, true, true, true, true, false, false, false, false, false, false, false] rfl rfl (take_ofW HT_.out HW_.out (by kernel_rfl)) (fun _ _ _ h => h) (Or.inl ⟨by rfl, ?_⟩) hHeld ?_ ?_
          rotate_left
          ·
           rintro w' ⟨s0, s1, s2, s3, s4, s5, s6, s7⟩
           go_simp
           with_reducible rfl
          rotate_left
          ·
           simp only [Act.put, List.setIfInBounds_toArray, List.set_cons_zero, List.set_cons_succ, i64_w, i32_w]
           rfl
          refine pure_ (i := 12) (N := some 62) (v := ?_) (a' := ?_) #[true, true, true, true, true, true, true, true, true, true, true, true, true, false, false, false, false, false, false] rfl rfl (any_of HT_.out (by kernel_rfl)) (fun _ _ _ h => h) (Or.inl ⟨by rfl, ?_⟩) ?_ ?_
          rotate_left
          ·
           intro w'
           go_simp
           with_reducible rfl
          rotate_left
          ·
           simp only [Act.put, List.setIfInBounds_toArray, List.set_cons_zero, List.set_cons_succ, i64_w, i32_w]
           rfl
          refine take_ (i := 13) (N := some 63) (v := ?_) (a' := ?_) #[true, true, true, true, true, true, true, true, true, true, true, true, true, true, false, false, false, false, false] rfl rfl (take_ofW HT_.out HW_.out (by kernel_rfl)) (fun _ _ _ h => h) (Or.inl ⟨by rfl, ?_⟩) hHeld ?_ ?_
          rotate_left
          ·
           rintro w' ⟨s0, s1, s2, s3, s4, s5, s6, s7⟩
           go_simp
           with_reducible rfl
          rotate_left
          ·
           simp only [Act.put, List.setIfInBounds_toArray, List.set_cons_zero, List.set_cons_succ, i64_w, i32_w]
           rfl
          refine pure_ (i := 14) (N := some 64) (v := ?_) (a' := ?_) #[true, true, true, true, true, true, true, true, true, true, true, true, true, true, true, false, false, false, false] rfl rfl (any_of HT_.out (by kernel_rfl)) (fun _ _ _ h => h) (Or.inl ⟨by rfl, ?_⟩) ?_ ?_
          rotate_left
          ·
           intro w'
           go_simp
           with_reducible rfl
          rotate_left
          ·
           simp only [Act.put, List.setIfInBounds_toArray, List.set_cons_zero, List.set_cons_succ, i64_w, i32_w]
           rfl
          refine pure_ (i := 15) (N := some 65) (v := ?_) (a' := ?_) #[true, true, true, true, true, true, true, true, true, true, true, true, true, true, true, true, false, false, false] rfl rfl (any_of HT_.out (by kernel_rfl)) (fun _ _ _ h => h) (Or.inl ⟨by rfl, ?_⟩) ?_ ?_
          rotate_left
          ·
           intro w'
           go_simp
           with_reducible rfl
          rotate_left
          ·
           simp only [Act.put, List.setIfInBounds_toArray, List.set_cons_zero, List.set_cons_succ, i64_w, i32_w]
           rfl
          refine one_ (i := 16) (N := some 66) #[true, true, true, true, true, true, true, true, true, true, true, true, true, true, true, true, true, false, false] rfl rfl (one_of HT_.out (by kernel_rfl)) (by decide) (fun K hK => ?_)
          refine value_ (w1 := ?_) (v := ?_) (by rfl) rfl ?_ ?_
          rotate_left 2
          ·
           go_simp
           constructor
           ·
            rfl
           ·
            rfl
          refine hK.out _ _ ⟨(blk_cell (blk_alloc qa.out _) 0).trans rfl, (blk_cell (blk_alloc qa.out _) 1).trans rfl, (blk_cell (blk_alloc qa.out _) 2).trans rfl, (blk_cell (blk_alloc qb.out _) 0).trans rfl, (blk_cell (blk_alloc qb.out _) 1).trans rfl, (blk_cell (blk_alloc qb.out _) 2).trans rfl, (World.cell?_alloc_lt _ _ _ (World.block_lt_of_cell? _ _ (((HB.out.cell (World.block_lt_of_cell? w _ hw311_0)).trans hw311_0)))).trans (((HB.out.cell (World.block_lt_of_cell? w _ hw311_0)).trans hw311_0)), (World.cell?_alloc_lt _ _ _ (World.block_lt_of_cell? _ _ (((HB.out.cell (World.block_lt_of_cell? w _ hw312_0)).trans hw312_0)))).trans (((HB.out.cell (World.block_lt_of_cell? w _ hw312_0)).trans hw312_0))⟩ (fun hHeld => ?_)
          clear hK K
          refine norm_ (a' := ?_) ?_ ?_
          rotate_left
          ·
           show Act.put _ (some 66) _ = _
           simp only [Act.put, List.setIfInBounds_toArray, List.set_cons_zero, List.set_cons_succ, i64_w, i32_w]
           rfl
          refine one_ (i := 17) (N := some 67) #[true, true, true, true, true, true, true, true, true, true, true, true, true, true, true, true, true, true, false] rfl rfl (one_of HT_.out (by kernel_rfl)) (by decide) (fun K hK => ?_)
          refine Kd.R_append_step (Kd.int .i64) (w0 := w) w.heap.size (by rfl) (.tmp 50) (.tmp 66) 24 3 (.int .i64 0) 8 rfl Try.underlying24 info3 rfl (by decide) (by omega) u10 qm (wrap64 ((wrap64 (a1 * (rd l0_0 qj))) + (wrap64 (a3 * (rd l2_0 qj))))) [.int .i64 (wrap64 ((wrap64 (a1 * (rd l0_0 qj))) + (wrap64 (a3 * (rd l2_0 qj)))))] (fun _ => True) (fun _ => False) rfl rfl ?aP (fun _ hk => hk.elim) ?aF ?aO ?aB ?aS ?aL ?_
          (case aP => exact rfl)
          (case aB => exact (bb_ HB))
          (case aF => exact (fun _ _ => trivial))
          (case aO => exact (rm_ qg))
          (case aS => exact (bz_ HB))
          (case aL => have := LMc64.out; omega)
          intro YP Y2 ho hb hg hat
          rw [← Ny313.out] at ho
          replace qa := Aside0.mk (blk_grown (g := qd) (o := .cells #[.slice (some Qd) l0_0.length c0_0, .int .i64 a0_1, .bool a0_2] 26 (0, 0)) (kf_ qa) hg (Kd.R_ne qg.out qa.out (by decide))); replace qb := Aside0.mk (blk_grown (g := qe) (o := .cells #[.slice (some Qe) l2_0.length c2_0, .int .i64 a2_1, .bool a2_2] 26 (0, 0)) (kf_ qb) hg (Kd.R_ne qg.out qb.out (by decide))); replace qc := Aside0.mk (blk_grown (g := qf) (o := .cells #[.slice none 0 0, .int .i64 0, .bool false] 26 (0, 0)) (kf_ qc) hg (Kd.R_ne qg.out qc.out (by decide))); replace HB := Aside0.mk (hb); have QB := Aside0.mk (ho); clear qg; clear ho hb hg hat
          refine hK.out _ _ ⟨bc_ qa 0, bc_ qa 1, bc_ qa 2, bc_ qb 0, bc_ qb 1, bc_ qb 2, ((HB.out.cell (World.block_lt_of_cell? w _ hw311_0)).trans hw311_0), ((HB.out.cell (World.block_lt_of_cell? w _ hw312_0)).trans hw312_0)⟩ (fun hHeld => ?_)
          clear hK K
          refine norm_ (a' := ?_) ?_ ?_
          rotate_left
          ·
           show Act.put _ (some 67) _ = _
           simp only [Act.put, List.setIfInBounds_toArray, List.set_cons_zero, List.set_cons_succ, i64_w, i32_w]
           rfl
          refine pure_ (i := 18) (N := some 10) (v := ?_) (a' := ?_) #[true, true, true, true, true, true, true, true, true, true, true, true, true, true, true, true, true, true, true] rfl rfl (any_of HT_.out (by kernel_rfl)) (fun _ _ _ h => h) (Or.inl ⟨by rfl, ?_⟩) ?_ ?_
          rotate_left
          ·
           intro w'
           go_simp
           with_reducible rfl
          rotate_left
          ·
           simp only [Act.put, List.setIfInBounds_toArray, List.set_cons_zero, List.set_cons_succ, i64_w, i32_w]
           rfl
          refine done_ (done_of HT_.out (by kernel_rfl)) ?_
          try go_wp2
          go_roundg k2
          case measure => have := HJ4.out; have := HK2.out; omega
          case rel => exact ⟨(y313), (wrap64 (qj + 1)), (by first | rfl | (simp; done) | (simp [*]; done)), H', ⟨by have := HJ4.out; have := HK2.out; omega⟩, ⟨by (with_reducible repeat (first | apply Kd.R_alloc | apply Kd.R_drewN | apply Kd.R_drew)); exact QB.out⟩, ⟨kf_ qa⟩, ⟨kf_ qb⟩, ⟨kf_ qc⟩, ⟨bb_ HB⟩⟩
         ·
          rw [if_neg c64] at H
          exact absurd H (by simp)
        ·
         rw [if_neg c63] at H
         exact absurd H (by simp)
       ·
        rw [if_neg c62] at H
        exact absurd H (by simp)
      ·
       rw [if_neg c61] at H
       have QA : decide (qj < (l0_0.length : Int)) = false := decide_eq_false c61
       clear c61
       by_cases c70 : a0_2 = true
       ·
        subst c70
        have H1 : (if a1 > 0 then ((spec_l2Atom.f k2 qm (wrap64 ((wrap64 (a1 * a0_1)) + (wrap64 (a3 * a2_1)))) true).bind fun qE => (some (qE.1, qE.2.1, qE.2.2.1, qE.2.2.2))) else (if a2_2 = true then ((spec_l2Atom.f k2 qm (wrap64 ((wrap64 (a1 * a0_1)) + (wrap64 (a3 * a2_1)))) (decide (a3 > 0))).bind fun qp => (some (qp.1, qp.2.1, qp.2.2.1, qp.2.2.2))) else ((spec_l2Atom.f k2 qm (wrap64 ((wrap64 (a1 * a0_1)) + (wrap64 (a3 * a2_1)))) false).bind fun qq => (some (qq.1, qq.2.1, qq.2.2.1, qq.2.2.2))))) = some (r1, r2, r3, r4) := by rw [if_pos rfl] at H; exact H
        clear H
        have H := H1
        clear H1
        by_cases c71 : a1 > 0
        ·
         rw [if_pos c71] at H
         have QC : decide (0 < a1) = true := decide_eq_true c71
         clear c71
         replace H := Option.bind_eq_some_iff.mp H
         obtain ⟨⟨qY, jD, Qf, QD⟩, A720, H⟩ := H
         replace H : (some (qY, jD, Qf, QD)) = some (r1, r2, r3, r4) := H
         have A72 := Aside0.mk A720
         clear A720
         simp only [Option.some.injEq, Prod.mk.injEq] at H
         obtain ⟨rfl, rfl, rfl, rfl⟩ := H
         have Yi := qk.out
         have Yj := ql.out
         have Yk := qh.out
         have Yl := qi.out
         have Jg : wr.cell? ⟨qd, 0, none⟩ = some (.slice A0_0 l0_0.length c0_0) := bc_ qa 0
         have Jh : wr.cell? ⟨qd, 1, none⟩ = some (.int .i64 a0_1) := bc_ qa 1
         have Ji : wr.cell? ⟨qd, 2, none⟩ = some (.bool true) := bc_ qa 2
         have Jj := blk_frozen qa.out 0
         have Jk := blk_frozen qa.out 1
         have Jl := blk_frozen qa.out 2
         have Ym := qn.out
         have Yn := qo.out
         have Jm : wr.cell? ⟨qe, 0, none⟩ = some (.slice A2_0 l2_0.length c2_0) := bc_ qb 0
         have Jn : wr.cell? ⟨qe, 1, none⟩ = some (.int .i64 a2_1) := bc_ qb 1
         have Jo : wr.cell? ⟨qe, 2, none⟩ = some (.bool a2_2) := bc_ qb 2
         have Jp := blk_frozen qb.out 0
         have Jq := blk_frozen qb.out 1
         have Jr := blk_frozen qb.out 2
         obtain ⟨JU, JV, eo78⟩ := Kd.R_slice qg.out
         subst eo78
         go_wp2_with (first | ((with_reducible refine gate_callee (f := 42) rfl ?_); refine goesL_ (some 93) rfl rfl Try.func42 (by kernel_rfl) rfl #[.slice JU qm.length JV, .int .i64 (wrap64 ((wrap64 (a1 * a0_1)) + (wrap64 (a3 * a2_1)))), .bool true] rfl (by (try simp only [List.map_toArray, List.map_cons, List.map_nil]); first | done | rfl | (simp only [List.length_drop, List.length_take]; rfl)) ?_; (with_reducible refine (spec_l2Atom.calls k2 _ _ qm (wrap64 ((wrap64 (a1 * a0_1)) + (wrap64 (a3 * a2_1)))) true qY jD Qf QD _ ?side1 ?side2 A72.out).mono ?_); (case side1 => exact cr_ qg); (case side2 => exact (Kd.R_reads' qg.out).2.1); rintro e Y3 ⟨YQ, rfl, ho0, hb⟩; refine ⟨_, rfl, ?_⟩; have jx := Aside0.mk (Kd.R_lower (Kd.R_new' ho0 (Kd.R_lt (rm_ qg))) (bz_ HB)); replace qg := Aside0.mk (Kd.R_elder' (rm_ qg) (Kd.R_base ho0) hb); replace qa := kB_ qa hb; replace qb := kB_ qb hb; replace qc := kB_ qc hb; replace HB := bS_ HB hb; (try clear hb); (try clear hb2); (try clear hk); (try clear hi); (try clear ho0)) | ((with_reducible refine gate_dst (N := 12) rfl ?_); (try (refine gate_guard (by rfl) ?_; dsimp only)); refine box_event ?hg (N := 12) ?hd (cs := #[.slice none 0 0, .int .i64 0, .bool false]) (t := 26) ?hr ?_; (case hd => rfl); (case hg => rfl); (case hr => first | (go_simp; done) | (go_simp; rfl)); intro qt hg Qx hbox hb; replace qg := rB_ qg hb; replace jx := rB_ jx hb; have qJ := Aside0.mk (hbox); have Yo := Aside0.mk ((by rw [hg]; exact (bz_ HB) : w.heap.size ≤ qt)); have Yp := Aside0.mk ((by rw [hg]; exact (bz_ HB) : w.heap.size ≤ qt)); replace HB := bS_ HB hb; have jE := Aside0.mk ((nl_ qa hg : qd ≠ qt)); have jF := Aside0.mk ((ng_ qa hg : qt ≠ qd)); replace qa := kB_ qa hb; have jG := Aside0.mk ((nl_ qb hg : qe ≠ qt)); have jH := Aside0.mk ((ng_ qb hg : qt ≠ qe)); replace qb := kB_ qb hb; have qz := Aside0.mk ((nl_ qc hg : qf ≠ qt)); have jI := Aside0.mk ((ng_ qc hg : qt ≠ qf)); replace qc := kB_ qc hb; clear hb hbox hg; obtain ⟨Qg, Qh, eo81⟩ := Kd.R_slice jx.out; subst eo81; have Yq := jF.out; have Yr := jE.out; have Ys := jH.out; have Yt := jG.out; have Yu := jI.out; have Yv := qz.out; have Js : Qx.cell? ⟨qt, 0, none⟩ = some (.slice none 0 0) := bc_ qJ 0; have Jt : Qx.cell? ⟨qt, 1, none⟩ = some (.int .i64 0) := bc_ qJ 1; have Ju : Qx.cell? ⟨qt, 2, none⟩ = some (.bool false) := bc_ qJ 2; have Jv := blk_frozen qJ.out 0; have Jw := blk_frozen qJ.out 1; have Jx := blk_frozen qJ.out 2; have Jy : Qx.cell? ⟨qf, 0, none⟩ = some (.slice none 0 0) := bc_ qc 0; have Jz : Qx.cell? ⟨qf, 1, none⟩ = some (.int .i64 0) := bc_ qc 1; have JA : Qx.cell? ⟨qf, 2, none⟩ = some (.bool false) := bc_ qc 2; have JB := blk_frozen qc.out 0; have JC := blk_frozen qc.out 1; have JD := blk_frozen qc.out 2))
         refine bodyPost_ret (results_ct rfl _ _ qf 26 #[.slice Qg qY.length Qh, .int .i64 jD, .bool Qf] (0, 0) _ rfl (by (with_reducible repeat (first | refine blk_drewN ?_ _ | refine blk_drew ?_ | refine blk_alloc ?_ _)); refine blk_put (cs := #[.slice Qg qY.length Qh, .int .i64 jD, .bool false]) ?_ 2 _ rfl; (with_reducible repeat (first | refine blk_drewN ?_ _ | refine blk_drew ?_ | refine blk_alloc ?_ _)); refine blk_put (cs := #[.slice Qg qY.length Qh, .int .i64 0, .bool false]) ?_ 1 _ rfl; (with_reducible repeat (first | refine blk_drewN ?_ _ | refine blk_drew ?_ | refine blk_alloc ?_ _)); refine blk_put (cs := #[.slice none 0 0, .int .i64 0, .bool false]) ?_ 0 _ rfl; (with_reducible repeat (first | refine blk_drewN ?_ _ | refine blk_drew ?_ | refine blk_alloc ?_ _)); refine blk_far ?_ qz.out _; (with_reducible repeat (first | refine blk_drewN ?_ _ | refine blk_drew ?_ | refine blk_alloc ?_ _)); refine blk_far ?_ qz.out _; (with_reducible repeat (first | refine blk_drewN ?_ _ | refine blk_drew ?_ | refine blk_alloc ?_ _)); refine blk_far ?_ qz.out _; (with_reducible repeat (first | refine blk_drewN ?_ _ | refine blk_drew ?_ | refine blk_alloc ?_ _)); exact qc.out) Try.underlying26 rfl (by kernel_rfl)) rfl ?_
         exact ⟨_, by first | rfl | (simp [errW_none, errW_some] <;> rfl) | (simp [*, errW_none, errW_some] <;> rfl), by (with_reducible repeat (first | apply Kd.R_alloc | apply Kd.R_drewN | apply Kd.R_drew)); exact Kd.R_mono (Kd.R_far (p := ⟨qf, 2, none⟩) (Kd.R_far (p := ⟨qf, 1, none⟩) (Kd.R_far (p := ⟨qf, 0, none⟩) (Kd.R_far (p := ⟨qt, 2, none⟩) (Kd.R_far (p := ⟨qt, 1, none⟩) (Kd.R_far (p := ⟨qt, 0, none⟩) (Kd.R_types (Kd.R_types jx.out qJ.out (by decide)) qc.out (by decide)) (fun _ hk => hk.1.2) (.slice Qg qY.length Qh)) (fun _ hk => hk.1.2) (.int .i64 jD)) (fun _ hk => hk.1.2) (.bool Qf)) (fun _ hk => hk.2) (.slice Qg qY.length Qh)) (fun _ hk => hk.2) (.int .i64 jD)) (fun _ hk => hk.2) (.bool Qf)) (fun _ hk => trivial), bb_ HB⟩
        ·
         rw [if_neg c71] at H
         have QC : decide (0 < a1) = false := decide_eq_false c71
         clear c71
         by_cases c87 : a2_2 = true
         ·
          subst c87
          have H1 : ((spec_l2Atom.f k2 qm (wrap64 ((wrap64 (a1 * a0_1)) + (wrap64 (a3 * a2_1)))) (decide (a3 > 0))).bind fun qp => (some (qp.1, qp.2.1, qp.2.2.1, qp.2.2.2))) = some (r1, r2, r3, r4) := by rw [if_pos rfl] at H; exact H
          clear H
          have H := H1
          clear H1
          replace H := Option.bind_eq_some_iff.mp H
          obtain ⟨⟨qZ, jJ, Qi, QE⟩, A880, H⟩ := H
          replace H : (some (qZ, jJ, Qi, QE)) = some (r1, r2, r3, r4) := H
          have A88 := Aside0.mk A880
          clear A880
          simp only [Option.some.injEq, Prod.mk.injEq] at H
          obtain ⟨rfl, rfl, rfl, rfl⟩ := H
          have Yw := qk.out
          have Yx := ql.out
          have Yy := qh.out
          have Yz := qi.out
          have JE : wr.cell? ⟨qd, 0, none⟩ = some (.slice A0_0 l0_0.length c0_0) := bc_ qa 0
          have JF : wr.cell? ⟨qd, 1, none⟩ = some (.int .i64 a0_1) := bc_ qa 1
          have JG : wr.cell? ⟨qd, 2, none⟩ = some (.bool true) := bc_ qa 2
          have JH := blk_frozen qa.out 0
          have JI := blk_frozen qa.out 1
          have JJ := blk_frozen qa.out 2
          have YA := qn.out
          have YB := qo.out
          have JK : wr.cell? ⟨qe, 0, none⟩ = some (.slice A2_0 l2_0.length c2_0) := bc_ qb 0
          have JL : wr.cell? ⟨qe, 1, none⟩ = some (.int .i64 a2_1) := bc_ qb 1
          have JM : wr.cell? ⟨qe, 2, none⟩ = some (.bool true) := bc_ qb 2
          have JN := blk_frozen qb.out 0
          have JO := blk_frozen qb.out 1
          have JP := blk_frozen qb.out 2
          obtain ⟨JW, JX, eo94⟩ := Kd.R_slice qg.out
          subst eo94
          go_wp2_with (first | ((with_reducible refine gate_callee (f := 42) rfl ?_); refine goesL_ (some 93) rfl rfl Try.func42 (by kernel_rfl) rfl #[.slice JW qm.length JX, .int .i64 (wrap64 ((wrap64 (a1 * a0_1)) + (wrap64 (a3 * a2_1)))), .bool (decide (a3 > 0))] rfl (by (try simp only [List.map_toArray, List.map_cons, List.map_nil]); first | done | rfl | (simp only [List.length_drop, List.length_take]; rfl)) ?_; (with_reducible refine (spec_l2Atom.calls k2 _ _ qm (wrap64 ((wrap64 (a1 * a0_1)) + (wrap64 (a3 * a2_1)))) (decide (a3 > 0)) qZ jJ Qi QE _ ?side1 ?side2 A88.out).mono ?_); (case side1 => exact cr_ qg); (case side2 => exact (Kd.R_reads' qg.out).2.1); rintro e Y4 ⟨YR, rfl, ho0, hb⟩; refine ⟨_, rfl, ?_⟩; have jy := Aside0.mk (Kd.R_lower (Kd.R_new' ho0 (Kd.R_lt (rm_ qg))) (bz_ HB)); replace qg := Aside0.mk (Kd.R_elder' (rm_ qg) (Kd.R_base ho0) hb); replace qa := kB_ qa hb; replace qb := kB_ qb hb; replace qc := kB_ qc hb; replace HB := bS_ HB hb; (try clear hb); (try clear hb2); (try clear hk); (try clear hi); (try clear ho0)) | ((with_reducible refine gate_dst (N := 12) rfl ?_); (try (refine gate_guard (by rfl) ?_; dsimp only)); refine box_event ?hg (N := 12) ?hd (cs := #[.slice none 0 0, .int .i64 0, .bool false]) (t := 26) ?hr ?_; (case hd => rfl); (case hg => rfl); (case hr => first | (go_simp; done) | (go_simp; rfl)); intro qu hg Qy hbox hb; replace qg := rB_ qg hb; replace jy := rB_ jy hb; have qK := Aside0.mk (hbox); have YC := Aside0.mk ((by rw [hg]; exact (bz_ HB) : w.heap.size ≤ qu)); have YD := Aside0.mk ((by rw [hg]; exact (bz_ HB) : w.heap.size ≤ qu)); replace HB := bS_ HB hb; have jK := Aside0.mk ((nl_ qa hg : qd ≠ qu)); have jL := Aside0.mk ((ng_ qa hg : qu ≠ qd)); replace qa := kB_ qa hb; have jM := Aside0.mk ((nl_ qb hg : qe ≠ qu)); have jN := Aside0.mk ((ng_ qb hg : qu ≠ qe)); replace qb := kB_ qb hb; have qA := Aside0.mk ((nl_ qc hg : qf ≠ qu)); have jO := Aside0.mk ((ng_ qc hg : qu ≠ qf)); replace qc := kB_ qc hb; clear hb hbox hg; obtain ⟨Qj, Qk, eo97⟩ := Kd.R_slice jy.out; subst eo97; have YE := jL.out; have YF := jK.out; have YG := jN.out; have YH := jM.out; have JY := jO.out; have JZ := qA.out; have QF : Qy.cell? ⟨qu, 0, none⟩ = some (.slice none 0 0) := bc_ qK 0; have QG : Qy.cell? ⟨qu, 1, none⟩ = some (.int .i64 0) := bc_ qK 1; have QH : Qy.cell? ⟨qu, 2, none⟩ = some (.bool false) := bc_ qK 2; have QI := blk_frozen qK.out 0; have QJ := blk_frozen qK.out 1; have QK := blk_frozen qK.out 2; have QL : Qy.cell? ⟨qf, 0, none⟩ = some (.slice none 0 0) := bc_ qc 0; have QM : Qy.cell? ⟨qf, 1, none⟩ = some (.int .i64 0) := bc_ qc 1; have QN : Qy.cell? ⟨qf, 2, none⟩ = some (.bool false) := bc_ qc 2; have QO := blk_frozen qc.out 0; have QP := blk_frozen qc.out 1; have QQ := blk_frozen qc.out 2))
          refine bodyPost_ret (results_ct rfl _ _ qf 26 #[.slice Qj qZ.length Qk, .int .i64 jJ, .bool Qi] (0, 0) _ rfl (by (with_reducible repeat (first | refine blk_drewN ?_ _ | refine blk_drew ?_ | refine blk_alloc ?_ _)); refine blk_put (cs := #[.slice Qj qZ.length Qk, .int .i64 jJ, .bool false]) ?_ 2 _ rfl; (with_reducible repeat (first | refine blk_drewN ?_ _ | refine blk_drew ?_ | refine blk_alloc ?_ _)); refine blk_put (cs := #[.slice Qj qZ.length Qk, .int .i64 0, .bool false]) ?_ 1 _ rfl; (with_reducible repeat (first | refine blk_drewN ?_ _ | refine blk_drew ?_ | refine blk_alloc ?_ _)); refine blk_put (cs := #[.slice none 0 0, .int .i64 0, .bool false]) ?_ 0 _ rfl; (with_reducible repeat (first | refine blk_drewN ?_ _ | refine blk_drew ?_ | refine blk_alloc ?_ _)); refine blk_far ?_ qA.out _; (with_reducible repeat (first | refine blk_drewN ?_ _ | refine blk_drew ?_ | refine blk_alloc ?_ _)); refine blk_far ?_ qA.out _; (with_reducible repeat (first | refine blk_drewN ?_ _ | refine blk_drew ?_ | refine blk_alloc ?_ _)); refine blk_far ?_ qA.out _; (with_reducible repeat (first | refine blk_drewN ?_ _ | refine blk_drew ?_ | refine blk_alloc ?_ _)); exact qc.out) Try.underlying26 rfl (by kernel_rfl)) rfl ?_
          exact ⟨_, by first | rfl | (simp [errW_none, errW_some] <;> rfl) | (simp [*, errW_none, errW_some] <;> rfl), by (with_reducible repeat (first | apply Kd.R_alloc | apply Kd.R_drewN | apply Kd.R_drew)); exact Kd.R_mono (Kd.R_far (p := ⟨qf, 2, none⟩) (Kd.R_far (p := ⟨qf, 1, none⟩) (Kd.R_far (p := ⟨qf, 0, none⟩) (Kd.R_far (p := ⟨qu, 2, none⟩) (Kd.R_far (p := ⟨qu, 1, none⟩) (Kd.R_far (p := ⟨qu, 0, none⟩) (Kd.R_types (Kd.R_types jy.out qK.out (by decide)) qc.out (by decide)) (fun _ hk => hk.1.2) (.slice Qj qZ.length Qk)) (fun _ hk => hk.1.2) (.int .i64 jJ)) (fun _ hk => hk.1.2) (.bool Qi)) (fun _ hk => hk.2) (.slice Qj qZ.length Qk)) (fun _ hk => hk.2) (.int .i64 jJ)) (fun _ hk => hk.2) (.bool Qi)) (fun _ hk => trivial), bb_ HB⟩
         ·
          replace c87 := Bool.eq_false_iff.mpr c87
          subst c87
          have H1 : ((spec_l2Atom.f k2 qm (wrap64 ((wrap64 (a1 * a0_1)) + (wrap64 (a3 * a2_1)))) false).bind fun qq => (some (qq.1, qq.2.1, qq.2.2.1, qq.2.2.2))) = some (r1, r2, r3, r4) := by rw [if_neg (show ¬ (false = true) by decide)] at H; exact H
          clear H
          have H := H1
          clear H1
          replace H := Option.bind_eq_some_iff.mp H
          obtain ⟨⟨q0, jP, Ql, QR⟩, A1030, H⟩ := H
          replace H : (some (q0, jP, Ql, QR)) = some (r1, r2, r3, r4) := H
          have A103 := Aside0.mk A1030
          clear A1030
          simp only [Option.some.injEq, Prod.mk.injEq] at H
          obtain ⟨rfl, rfl, rfl, rfl⟩ := H
          have J0 := qk.out
          have J1 := ql.out
          have J2 := qh.out
          have J3 := qi.out
          have QS : wr.cell? ⟨qd, 0, none⟩ = some (.slice A0_0 l0_0.length c0_0) := bc_ qa 0
          have QT : wr.cell? ⟨qd, 1, none⟩ = some (.int .i64 a0_1) := bc_ qa 1
          have QU : wr.cell? ⟨qd, 2, none⟩ = some (.bool true) := bc_ qa 2
          have QV := blk_frozen qa.out 0
          have QW := blk_frozen qa.out 1
          have QX := blk_frozen qa.out 2
          have J4 := qn.out
          have J5 := qo.out
          have QY : wr.cell? ⟨qe, 0, none⟩ = some (.slice A2_0 l2_0.length c2_0) := bc_ qb 0
          have QZ : wr.cell? ⟨qe, 1, none⟩ = some (.int .i64 a2_1) := bc_ qb 1
          have Q0 : wr.cell? ⟨qe, 2, none⟩ = some (.bool false) := bc_ qb 2
          have Q1 := blk_frozen qb.out 0
          have Q2 := blk_frozen qb.out 1
          have Q3 := blk_frozen qb.out 2
          obtain ⟨Q4, Q5, eo109⟩ := Kd.R_slice qg.out
          subst eo109
          go_wp2_with (first | ((with_reducible refine gate_callee (f := 42) rfl ?_); refine goesL_ (some 93) rfl rfl Try.func42 (by kernel_rfl) rfl #[.slice Q4 qm.length Q5, .int .i64 (wrap64 ((wrap64 (a1 * a0_1)) + (wrap64 (a3 * a2_1)))), .bool false] rfl (by (try simp only [List.map_toArray, List.map_cons, List.map_nil]); first | done | rfl | (simp only [List.length_drop, List.length_take]; rfl)) ?_; (with_reducible refine (spec_l2Atom.calls k2 _ _ qm (wrap64 ((wrap64 (a1 * a0_1)) + (wrap64 (a3 * a2_1)))) false q0 jP Ql QR _ ?side1 ?side2 A103.out).mono ?_); (case side1 => exact cr_ qg); (case side2 => exact (Kd.R_reads' qg.out).2.1); rintro e YS ⟨YT, rfl, ho0, hb⟩; refine ⟨_, rfl, ?_⟩; have jz := Aside0.mk (Kd.R_lower (Kd.R_new' ho0 (Kd.R_lt (rm_ qg))) (bz_ HB)); replace qg := Aside0.mk (Kd.R_elder' (rm_ qg) (Kd.R_base ho0) hb); replace qa := kB_ qa hb; replace qb := kB_ qb hb; replace qc := kB_ qc hb; replace HB := bS_ HB hb; (try clear hb); (try clear hb2); (try clear hk); (try clear hi); (try clear ho0)) | ((with_reducible refine gate_dst (N := 12) rfl ?_); (try (refine gate_guard (by rfl) ?_; dsimp only)); refine box_event ?hg (N := 12) ?hd (cs := #[.slice none 0 0, .int .i64 0, .bool false]) (t := 26) ?hr ?_; (case hd => rfl); (case hg => rfl); (case hr => first | (go_simp; done) | (go_simp; rfl)); intro qv hg jQ hbox hb; replace qg := rB_ qg hb; replace jz := rB_ jz hb; have qL := Aside0.mk (hbox); have YI := Aside0.mk ((by rw [hg]; exact (bz_ HB) : w.heap.size ≤ qv)); have YJ := Aside0.mk ((by rw [hg]; exact (bz_ HB) : w.heap.size ≤ qv)); replace HB := bS_ HB hb; have jR := Aside0.mk ((nl_ qa hg : qd ≠ qv)); have jS := Aside0.mk ((ng_ qa hg : qv ≠ qd)); replace qa := kB_ qa hb; have jT := Aside0.mk ((nl_ qb hg : qe ≠ qv)); have jU := Aside0.mk ((ng_ qb hg : qv ≠ qe)); replace qb := kB_ qb hb; have qB := Aside0.mk ((nl_ qc hg : qf ≠ qv)); have jV := Aside0.mk ((ng_ qc hg : qv ≠ qf)); replace qc := kB_ qc hb; clear hb hbox hg; obtain ⟨qS, qT, eo112⟩ := Kd.R_slice jz.out; subst eo112; have J6 := jS.out; have J7 := jR.out; have J8 := jU.out; have J9 := jT.out; have Xa := jV.out; have Xb := qB.out; have Q6 : jQ.cell? ⟨qv, 0, none⟩ = some (.slice none 0 0) := bc_ qL 0; have Q7 : jQ.cell? ⟨qv, 1, none⟩ = some (.int .i64 0) := bc_ qL 1; have Q8 : jQ.cell? ⟨qv, 2, none⟩ = some (.bool false) := bc_ qL 2; have Q9 := blk_frozen qL.out 0; have Za := blk_frozen qL.out 1; have Zb := blk_frozen qL.out 2; have Zc : jQ.cell? ⟨qf, 0, none⟩ = some (.slice none 0 0) := bc_ qc 0; have Zd : jQ.cell? ⟨qf, 1, none⟩ = some (.int .i64 0) := bc_ qc 1; have Ze : jQ.cell? ⟨qf, 2, none⟩ = some (.bool false) := bc_ qc 2; have Zf := blk_frozen qc.out 0; have Zg := blk_frozen qc.out 1; have Zh := blk_frozen qc.out 2))
          refine bodyPost_ret (results_ct rfl _ _ qf 26 #[.slice qS q0.length qT, .int .i64 jP, .bool Ql] (0, 0) _ rfl (by (with_reducible repeat (first | refine blk_drewN ?_ _ | refine blk_drew ?_ | refine blk_alloc ?_ _)); refine blk_put (cs := #[.slice qS q0.length qT, .int .i64 jP, .bool false]) ?_ 2 _ rfl; (with_reducible repeat (first | refine blk_drewN ?_ _ | refine blk_drew ?_ | refine blk_alloc ?_ _)); refine blk_put (cs := #[.slice qS q0.length qT, .int .i64 0, .bool false]) ?_ 1 _ rfl; (with_reducible repeat (first | refine blk_drewN ?_ _ | refine blk_drew ?_ | refine blk_alloc ?_ _)); refine blk_put (cs := #[.slice none 0 0, .int .i64 0, .bool false]) ?_ 0 _ rfl; (with_reducible repeat (first | refine blk_drewN ?_ _ | refine blk_drew ?_ | refine blk_alloc ?_ _)); refine blk_far ?_ qB.out _; (with_reducible repeat (first | refine blk_drewN ?_ _ | refine blk_drew ?_ | refine blk_alloc ?_ _)); refine blk_far ?_ qB.out _; (with_reducible repeat (first | refine blk_drewN ?_ _ | refine blk_drew ?_ | refine blk_alloc ?_ _)); refine blk_far ?_ qB.out _; (with_reducible repeat (first | refine blk_drewN ?_ _ | refine blk_drew ?_ | refine blk_alloc ?_ _)); exact qc.out) Try.underlying26 rfl (by kernel_rfl)) rfl ?_
          exact ⟨_, by first | rfl | (simp [errW_none, errW_some] <;> rfl) | (simp [*, errW_none, errW_some] <;> rfl), by (with_reducible repeat (first | apply Kd.R_alloc | apply Kd.R_drewN | apply Kd.R_drew)); exact Kd.R_mono (Kd.R_far (p := ⟨qf, 2, none⟩) (Kd.R_far (p := ⟨qf, 1, none⟩) (Kd.R_far (p := ⟨qf, 0, none⟩) (Kd.R_far (p := ⟨qv, 2, none⟩) (Kd.R_far (p := ⟨qv, 1, none⟩) (Kd.R_far (p := ⟨qv, 0, none⟩) (Kd.R_types (Kd.R_types jz.out qL.out (by decide)) qc.out (by decide)) (fun _ hk => hk.1.2) (.slice qS q0.length qT)) (fun _ hk => hk.1.2) (.int .i64 jP)) (fun _ hk => hk.1.2) (.bool Ql)) (fun _ hk => hk.2) (.slice qS q0.length qT)) (fun _ hk => hk.2) (.int .i64 jP)) (fun _ hk => hk.2) (.bool Ql)) (fun _ hk => trivial), bb_ HB⟩
       ·
        replace c70 := Bool.eq_false_iff.mpr c70
        subst c70
        have H1 : (if a2_2 = true then ((spec_l2Atom.f k2 qm (wrap64 ((wrap64 (a1 * a0_1)) + (wrap64 (a3 * a2_1)))) (decide (a3 > 0))).bind fun qr => (some (qr.1, qr.2.1, qr.2.2.1, qr.2.2.2))) else ((spec_l2Atom.f k2 qm (wrap64 ((wrap64 (a1 * a0_1)) + (wrap64 (a3 * a2_1)))) false).bind fun qs => (some (qs.1, qs.2.1, qs.2.2.1, qs.2.2.2)))) = some (r1, r2, r3, r4) := by rw [if_neg (show ¬ (false = true) by decide)] at H; exact H
        clear H
        have H := H1
        clear H1
        by_cases c118 : a2_2 = true
        ·
         subst c118
         have H1 : ((spec_l2Atom.f k2 qm (wrap64 ((wrap64 (a1 * a0_1)) + (wrap64 (a3 * a2_1)))) (decide (a3 > 0))).bind fun qr => (some (qr.1, qr.2.1, qr.2.2.1, qr.2.2.2))) = some (r1, r2, r3, r4) := by rw [if_pos rfl] at H; exact H
         clear H
         have H := H1
         clear H1
         replace H := Option.bind_eq_some_iff.mp H
         obtain ⟨⟨q1, jW, Qm, Zi⟩, A1190, H⟩ := H
         replace H : (some (q1, jW, Qm, Zi)) = some (r1, r2, r3, r4) := H
         have A119 := Aside0.mk A1190
         clear A1190
         simp only [Option.some.injEq, Prod.mk.injEq] at H
         obtain ⟨rfl, rfl, rfl, rfl⟩ := H
         have Xc := qk.out
         have Xd := ql.out
         have Xe := qh.out
         have Xf := qi.out
         have Zj : wr.cell? ⟨qd, 0, none⟩ = some (.slice A0_0 l0_0.length c0_0) := bc_ qa 0
         have Zk : wr.cell? ⟨qd, 1, none⟩ = some (.int .i64 a0_1) := bc_ qa 1
         have Zl : wr.cell? ⟨qd, 2, none⟩ = some (.bool false) := bc_ qa 2
         have Zm := blk_frozen qa.out 0
         have Zn := blk_frozen qa.out 1
         have Zo := blk_frozen qa.out 2
         have Xg := qn.out
         have Xh := qo.out
         have Zp : wr.cell? ⟨qe, 0, none⟩ = some (.slice A2_0 l2_0.length c2_0) := bc_ qb 0
         have Zq : wr.cell? ⟨qe, 1, none⟩ = some (.int .i64 a2_1) := bc_ qb 1
         have Zr : wr.cell? ⟨qe, 2, none⟩ = some (.bool true) := bc_ qb 2
         have Zs := blk_frozen qb.out 0
         have Zt := blk_frozen qb.out 1
         have Zu := blk_frozen qb.out 2
         obtain ⟨Zv, Zw, eo125⟩ := Kd.R_slice qg.out
         subst eo125
         go_wp2_with (first | ((with_reducible refine gate_callee (f := 42) rfl ?_); refine goesL_ (some 93) rfl rfl Try.func42 (by kernel_rfl) rfl #[.slice Zv qm.length Zw, .int .i64 (wrap64 ((wrap64 (a1 * a0_1)) + (wrap64 (a3 * a2_1)))), .bool (decide (a3 > 0))] rfl (by (try simp only [List.map_toArray, List.map_cons, List.map_nil]); first | done | rfl | (simp only [List.length_drop, List.length_take]; rfl)) ?_; (with_reducible refine (spec_l2Atom.calls k2 _ _ qm (wrap64 ((wrap64 (a1 * a0_1)) + (wrap64 (a3 * a2_1)))) (decide (a3 > 0)) q1 jW Qm Zi _ ?side1 ?side2 A119.out).mono ?_); (case side1 => exact cr_ qg); (case side2 => exact (Kd.R_reads' qg.out).2.1); rintro e YU ⟨YV, rfl, ho0, hb⟩; refine ⟨_, rfl, ?_⟩; have jA := Aside0.mk (Kd.R_lower (Kd.R_new' ho0 (Kd.R_lt (rm_ qg))) (bz_ HB)); replace qg := Aside0.mk (Kd.R_elder' (rm_ qg) (Kd.R_base ho0) hb); replace qa := kB_ qa hb; replace qb := kB_ qb hb; replace qc := kB_ qc hb; replace HB := bS_ HB hb; (try clear hb); (try clear hb2); (try clear hk); (try clear hi); (try clear ho0)) | ((with_reducible refine gate_dst (N := 12) rfl ?_); (try (refine gate_guard (by rfl) ?_; dsimp only)); refine box_event ?hg (N := 12) ?hd (cs := #[.slice none 0 0, .int .i64 0, .bool false]) (t := 26) ?hr ?_; (case hd => rfl); (case hg => rfl); (case hr => first | (go_simp; done) | (go_simp; rfl)); intro qw hg jX hbox hb; replace qg := rB_ qg hb; replace jA := rB_ jA hb; have qM := Aside0.mk (hbox); have YK := Aside0.mk ((by rw [hg]; exact (bz_ HB) : w.heap.size ≤ qw)); have YL := Aside0.mk ((by rw [hg]; exact (bz_ HB) : w.heap.size ≤ qw)); replace HB := bS_ HB hb; have jY := Aside0.mk ((nl_ qa hg : qd ≠ qw)); have jZ := Aside0.mk ((ng_ qa hg : qw ≠ qd)); replace qa := kB_ qa hb; have j1 := Aside0.mk ((nl_ qb hg : qe ≠ qw)); have j2 := Aside0.mk ((ng_ qb hg : qw ≠ qe)); replace qb := kB_ qb hb; have qC := Aside0.mk ((nl_ qc hg : qf ≠ qw)); have j3 := Aside0.mk ((ng_ qc hg : qw ≠ qf)); replace qc := kB_ qc hb; clear hb hbox hg; obtain ⟨qU, qV, eo128⟩ := Kd.R_slice jA.out; subst eo128; have Xi := jZ.out; have Xj := jY.out; have Xk := j2.out; have Xl := j1.out; have Xm := j3.out; have Xn := qC.out; have Zx : jX.cell? ⟨qw, 0, none⟩ = some (.slice none 0 0) := bc_ qM 0; have Zy : jX.cell? ⟨qw, 1, none⟩ = some (.int .i64 0) := bc_ qM 1; have Zz : jX.cell? ⟨qw, 2, none⟩ = some (.bool false) := bc_ qM 2; have ZA := blk_frozen qM.out 0; have ZB := blk_frozen qM.out 1; have ZC := blk_frozen qM.out 2; have ZD : jX.cell? ⟨qf, 0, none⟩ = some (.slice none 0 0) := bc_ qc 0; have ZE : jX.cell? ⟨qf, 1, none⟩ = some (.int .i64 0) := bc_ qc 1; have ZF : jX.cell? ⟨qf, 2, none⟩ = some (.bool false) := bc_ qc 2; have ZG := blk_frozen qc.out 0; have ZH := blk_frozen qc.out 1; have ZI := blk_frozen qc.out 2))
         refine bodyPost_ret (results_ct rfl _ _ qf 26 #[.slice qU q1.length qV, .int .i64 jW, .bool Qm] (0, 0) _ rfl (by (with_reducible repeat (first | refine blk_drewN ?_ _ | refine blk_drew ?_ | refine blk_alloc ?_ _)); refine blk_put (cs := #[.slice qU q1.length qV, .int .i64 jW, .bool false]) ?_ 2 _ rfl; (with_reducible repeat (first | refine blk_drewN ?_ _ | refine blk_drew ?_ | refine blk_alloc ?_ _)); refine blk_put (cs := #[.slice qU q1.length qV, .int .i64 0, .bool false]) ?_ 1 _ rfl; (with_reducible repeat (first | refine blk_drewN ?_ _ | refine blk_drew ?_ | refine blk_alloc ?_ _)); refine blk_put (cs := #[.slice none 0 0, .int .i64 0, .bool false]) ?_ 0 _ rfl; (with_reducible repeat (first | refine blk_drewN ?_ _ | refine blk_drew ?_ | refine blk_alloc ?_ _)); refine blk_far ?_ qC.out _; (with_reducible repeat (first | refine blk_drewN ?_ _ | refine blk_drew ?_ | refine blk_alloc ?_ _)); refine blk_far ?_ qC.out _; (with_reducible repeat (first | refine blk_drewN ?_ _ | refine blk_drew ?_ | refine blk_alloc ?_ _)); refine blk_far ?_ qC.out _; (with_reducible repeat (first | refine blk_drewN ?_ _ | refine blk_drew ?_ | refine blk_alloc ?_ _)); exact qc.out) Try.underlying26 rfl (by kernel_rfl)) rfl ?_
         exact ⟨_, by first | rfl | (simp [errW_none, errW_some] <;> rfl) | (simp [*, errW_none, errW_some] <;> rfl), by (with_reducible repeat (first | apply Kd.R_alloc | apply Kd.R_drewN | apply Kd.R_drew)); exact Kd.R_mono (Kd.R_far (p := ⟨qf, 2, none⟩) (Kd.R_far (p := ⟨qf, 1, none⟩) (Kd.R_far (p := ⟨qf, 0, none⟩) (Kd.R_far (p := ⟨qw, 2, none⟩) (Kd.R_far (p := ⟨qw, 1, none⟩) (Kd.R_far (p := ⟨qw, 0, none⟩) (Kd.R_types (Kd.R_types jA.out qM.out (by decide)) qc.out (by decide)) (fun _ hk => hk.1.2) (.slice qU q1.length qV)) (fun _ hk => hk.1.2) (.int .i64 jW)) (fun _ hk => hk.1.2) (.bool Qm)) (fun _ hk => hk.2) (.slice qU q1.length qV)) (fun _ hk => hk.2) (.int .i64 jW)) (fun _ hk => hk.2) (.bool Qm)) (fun _ hk => trivial), bb_ HB⟩
        ·
         replace c118 := Bool.eq_false_iff.mpr c118
         subst c118
         have H1 : ((spec_l2Atom.f k2 qm (wrap64 ((wrap64 (a1 * a0_1)) + (wrap64 (a3 * a2_1)))) false).bind fun qs => (some (qs.1, qs.2.1, qs.2.2.1, qs.2.2.2))) = some (r1, r2, r3, r4) := by rw [if_neg (show ¬ (false = true) by decide)] at H; exact H
         clear H
         have H := H1
         clear H1
         replace H := Option.bind_eq_some_iff.mp H
         obtain ⟨⟨q2, j4, Qn, ZJ⟩, A1340, H⟩ := H
         replace H : (some (q2, j4, Qn, ZJ)) = some (r1, r2, r3, r4) := H
         have A134 := Aside0.mk A1340
         clear A1340
         simp only [Option.some.injEq, Prod.mk.injEq] at H
         obtain ⟨rfl, rfl, rfl, rfl⟩ := H
         have Xo := qk.out
         have Xp := ql.out
         have Xq := qh.out
         have Xr := qi.out
         have ZK : wr.cell? ⟨qd, 0, none⟩ = some (.slice A0_0 l0_0.length c0_0) := bc_ qa 0
         have ZL : wr.cell? ⟨qd, 1, none⟩ = some (.int .i64 a0_1) := bc_ qa 1
         have ZM : wr.cell? ⟨qd, 2, none⟩ = some (.bool false) := bc_ qa 2
         have ZN := blk_frozen qa.out 0
         have ZO := blk_frozen qa.out 1
         have ZP := blk_frozen qa.out 2
         have Xs := qn.out
         have Xt := qo.out
         have ZQ : wr.cell? ⟨qe, 0, none⟩ = some (.slice A2_0 l2_0.length c2_0) := bc_ qb 0
         have ZR : wr.cell? ⟨qe, 1, none⟩ = some (.int .i64 a2_1) := bc_ qb 1
         have ZS : wr.cell? ⟨qe, 2, none⟩ = some (.bool false) := bc_ qb 2
         have ZT := blk_frozen qb.out 0
         have ZU := blk_frozen qb.out 1
         have ZV := blk_frozen qb.out 2
         obtain ⟨ZW, ZX, eo140⟩ := Kd.R_slice qg.out
         subst eo140
         go_wp2_with (first | ((with_reducible refine gate_callee (f := 42) rfl ?_); refine goesL_ (some 93) rfl rfl Try.func42 (by kernel_rfl) rfl #[.slice ZW qm.length ZX, .int .i64 (wrap64 ((wrap64 (a1 * a0_1)) + (wrap64 (a3 * a2_1)))), .bool false] rfl (by (try simp only [List.map_toArray, List.map_cons, List.map_nil]); first | done | rfl | (simp only [List.length_drop, List.length_take]; rfl)) ?_; (with_reducible refine (spec_l2Atom.calls k2 _ _ qm (wrap64 ((wrap64 (a1 * a0_1)) + (wrap64 (a3 * a2_1)))) false q2 j4 Qn ZJ _ ?side1 ?side2 A134.out).mono ?_); (case side1 => exact cr_ qg); (case side2 => exact (Kd.R_reads' qg.out).2.1); rintro e YW ⟨YX, rfl, ho0, hb⟩; refine ⟨_, rfl, ?_⟩; have jB := Aside0.mk (Kd.R_lower (Kd.R_new' ho0 (Kd.R_lt (rm_ qg))) (bz_ HB)); replace qg := Aside0.mk (Kd.R_elder' (rm_ qg) (Kd.R_base ho0) hb); replace qa := kB_ qa hb; replace qb := kB_ qb hb; replace qc := kB_ qc hb; replace HB := bS_ HB hb; (try clear hb); (try clear hb2); (try clear hk); (try clear hi); (try clear ho0)) | ((with_reducible refine gate_dst (N := 12) rfl ?_); (try (refine gate_guard (by rfl) ?_; dsimp only)); refine box_event ?hg (N := 12) ?hd (cs := #[.slice none 0 0, .int .i64 0, .bool false]) (t := 26) ?hr ?_; (case hd => rfl); (case hg => rfl); (case hr => first | (go_simp; done) | (go_simp; rfl)); intro qx hg j5 hbox hb; replace qg := rB_ qg hb; replace jB := rB_ jB hb; have qN := Aside0.mk (hbox); have YM := Aside0.mk ((by rw [hg]; exact (bz_ HB) : w.heap.size ≤ qx)); have YN := Aside0.mk ((by rw [hg]; exact (bz_ HB) : w.heap.size ≤ qx)); replace HB := bS_ HB hb; have j6 := Aside0.mk ((nl_ qa hg : qd ≠ qx)); have j7 := Aside0.mk ((ng_ qa hg : qx ≠ qd)); replace qa := kB_ qa hb; have j8 := Aside0.mk ((nl_ qb hg : qe ≠ qx)); have j9 := Aside0.mk ((ng_ qb hg : qx ≠ qe)); replace qb := kB_ qb hb; have qD := Aside0.mk ((nl_ qc hg : qf ≠ qx)); have Qa := Aside0.mk ((ng_ qc hg : qx ≠ qf)); replace qc := kB_ qc hb; clear hb hbox hg; obtain ⟨qW, qX, eo143⟩ := Kd.R_slice jB.out; subst eo143; have Xu := j7.out; have Xv := j6.out; have Xw := j9.out; have Xx := j8.out; have Xy := Qa.out; have Xz := qD.out; have ZY : j5.cell? ⟨qx, 0, none⟩ = some (.slice none 0 0) := bc_ qN 0; have ZZ : j5.cell? ⟨qx, 1, none⟩ = some (.int .i64 0) := bc_ qN 1; have Z0 : j5.cell? ⟨qx, 2, none⟩ = some (.bool false) := bc_ qN 2; have Z1 := blk_frozen qN.out 0; have Z2 := blk_frozen qN.out 1; have Z3 := blk_frozen qN.out 2; have Z4 : j5.cell? ⟨qf, 0, none⟩ = some (.slice none 0 0) := bc_ qc 0; have Z5 : j5.cell? ⟨qf, 1, none⟩ = some (.int .i64 0) := bc_ qc 1; have Z6 : j5.cell? ⟨qf, 2, none⟩ = some (.bool false) := bc_ qc 2; have Z7 := blk_frozen qc.out 0; have Z8 := blk_frozen qc.out 1; have Z9 := blk_frozen qc.out 2))
         refine bodyPost_ret (results_ct rfl _ _ qf 26 #[.slice qW q2.length qX, .int .i64 j4, .bool Qn] (0, 0) _ rfl (by (with_reducible repeat (first | refine blk_drewN ?_ _ | refine blk_drew ?_ | refine blk_alloc ?_ _)); refine blk_put (cs := #[.slice qW q2.length qX, .int .i64 j4, .bool false]) ?_ 2 _ rfl; (with_reducible repeat (first | refine blk_drewN ?_ _ | refine blk_drew ?_ | refine blk_alloc ?_ _)); refine blk_put (cs := #[.slice qW q2.length qX, .int .i64 0, .bool false]) ?_ 1 _ rfl; (with_reducible repeat (first | refine blk_drewN ?_ _ | refine blk_drew ?_ | refine blk_alloc ?_ _)); refine blk_put (cs := #[.slice none 0 0, .int .i64 0, .bool false]) ?_ 0 _ rfl; (with_reducible repeat (first | refine blk_drewN ?_ _ | refine blk_drew ?_ | refine blk_alloc ?_ _)); refine blk_far ?_ qD.out _; (with_reducible repeat (first | refine blk_drewN ?_ _ | refine blk_drew ?_ | refine blk_alloc ?_ _)); refine blk_far ?_ qD.out _; (with_reducible repeat (first | refine blk_drewN ?_ _ | refine blk_drew ?_ | refine blk_alloc ?_ _)); refine blk_far ?_ qD.out _; (with_reducible repeat (first | refine blk_drewN ?_ _ | refine blk_drew ?_ | refine blk_alloc ?_ _)); exact qc.out) Try.underlying26 rfl (by kernel_rfl)) rfl ?_
         exact ⟨_, by first | rfl | (simp [errW_none, errW_some] <;> rfl) | (simp [*, errW_none, errW_some] <;> rfl), by (with_reducible repeat (first | apply Kd.R_alloc | apply Kd.R_drewN | apply Kd.R_drew)); exact Kd.R_mono (Kd.R_far (p := ⟨qf, 2, none⟩) (Kd.R_far (p := ⟨qf, 1, none⟩) (Kd.R_far (p := ⟨qf, 0, none⟩) (Kd.R_far (p := ⟨qx, 2, none⟩) (Kd.R_far (p := ⟨qx, 1, none⟩) (Kd.R_far (p := ⟨qx, 0, none⟩) (Kd.R_types (Kd.R_types jB.out qN.out (by decide)) qc.out (by decide)) (fun _ hk => hk.1.2) (.slice qW q2.length qX)) (fun _ hk => hk.1.2) (.int .i64 j4)) (fun _ hk => hk.1.2) (.bool Qn)) (fun _ hk => hk.2) (.slice qW q2.length qX)) (fun _ hk => hk.2) (.int .i64 j4)) (fun _ hk => hk.2) (.bool Qn)) (fun _ hk => trivial), bb_ HB⟩

/-! ### spec_GcdOf: function 91 -/
mutual
def spec_GcdOf.j0 : Nat → Int → Int → Bool → Option (Int)
 | 0, _, _, _ => none
 | k + 1, x0, x1, x12 => if x12 = true then (some 0) else (spec_GcdOf.l0 k x0 x1)
def spec_GcdOf.l0 : Nat → Int → Int → Option (Int)
 | 0, _, _ => none
 | k + 1, x0, x1 => if x1 = 0 then ((spec_l1Abs.f x0).bind fun qe => (some qe)) else (spec_GcdOf.l0 k x1 (Int.tmod x0 x1))
end
def spec_GcdOf.f (k : Nat) (a0 : Int) (a1 : Int) : Option (Int) := (spec_IsNumber.f a0).bind fun qf => (if qf = true then ((spec_IsNumber.f a1).bind fun qa => (spec_GcdOf.j0 k a0 a1 (!qa))) else (spec_GcdOf.j0 k a0 a1 true))
theorem spec_GcdOf.mono_l : ∀ k, (∀ y0 y1 y2, LeO (spec_GcdOf.j0 k y0 y1 y2) (spec_GcdOf.j0 (k + 1) y0 y1 y2)) ∧ (∀ y0 y1, LeO (spec_GcdOf.l0 k y0 y1) (spec_GcdOf.l0 (k + 1) y0 y1))
 | 0 => ⟨fun _ _ _ r h => by simp [spec_GcdOf.j0] at h, fun _ _ r h => by simp [spec_GcdOf.l0] at h⟩
 | k + 1 => by
  obtain ⟨ih0, ih1⟩ := spec_GcdOf.mono_l k
  refine ⟨?_, ?_⟩
  ·
   intro y0 y1 y2
   unfold spec_GcdOf.j0
   repeat' first
   | (with_reducible exact ih0 _ _ _)
   | (with_reducible exact ih1 _ _)
   | (with_reducible exact LeO.refl _)
   | (with_reducible exact LeO.none _)
   | (with_reducible refine LeO.ite ?_ ?_)
   | (with_reducible refine LeO.bind ?_ (fun _ => ?_))
   | exact ih0 _ _ _
   | exact ih1 _ _
   | exact LeO.none _
   | refine LeO.ite ?_ ?_
   | refine LeO.bind ?_ (fun _ => ?_)
  ·
   intro y0 y1
   unfold spec_GcdOf.l0
   repeat' first
   | (with_reducible exact ih0 _ _ _)
   | (with_reducible exact ih1 _ _)
   | (with_reducible exact LeO.refl _)
   | (with_reducible exact LeO.none _)
   | (with_reducible refine LeO.ite ?_ ?_)
   | (with_reducible refine LeO.bind ?_ (fun _ => ?_))
   | exact ih0 _ _ _
   | exact ih1 _ _
   | exact LeO.none _
   | refine LeO.ite ?_ ?_
   | refine LeO.bind ?_ (fun _ => ?_)
theorem spec_GcdOf.mono : ∀ a0 a1 k, LeO (spec_GcdOf.f k a0 a1) (spec_GcdOf.f (k + 1) a0 a1) := by
 intro a0 a1 k
 obtain ⟨ih0, ih1⟩ := spec_GcdOf.mono_l k
 unfold spec_GcdOf.f
 repeat' first
   | (with_reducible exact ih0 _ _ _)
   | (with_reducible exact ih1 _ _)
   | (with_reducible exact LeO.refl _)
   | (with_reducible exact LeO.none _)
   | (with_reducible refine LeO.ite ?_ ?_)
   | (with_reducible refine LeO.bind ?_ (fun _ => ?_))
   | exact ih0 _ _ _
   | exact ih1 _ _
   | exact LeO.none _
   | refine LeO.ite ?_ ?_
   | refine LeO.bind ?_ (fun _ => ?_)
set_option maxHeartbeats 8000000 in
set_option maxRecDepth 100000 in
theorem spec_GcdOf.calls (k : Nat) (a0 : Int) (a1 : Int) (r : Int) (w : World) (h : spec_GcdOf.f k a0 a1 = some r) :
  Calls Try.prog 91 #[.int .i64 a0, .int .i64 a1] w fun e w' => e = .returned (.int .i64 r) ∧ Below w.heap.size w w' := by
 have HB := Aside0.mk (Below.refl w.heap.size w)
 have H : ((spec_IsNumber.f a0).bind fun qf => (if qf = true then ((spec_IsNumber.f a1).bind fun qa => (spec_GcdOf.j0 k a0 a1 (!qa))) else (spec_GcdOf.j0 k a0 a1 true))) = some r := h
 clear h
 have HC3 := Aside0.mk H
 clear H
 go_enter Try.func91, Try.ntmps91
 go_upto_region 1 with (fail)
 repeat (go_quiet (fail); go_upto_region 1 with (fail))
 go_cut [12] (fun v12 wc => ∃ (kq : Nat) (qd : Bool), v12 = .bool qd ∧ Aside0 (spec_GcdOf.j0 kq a0 a1 qd = some r) ∧ Aside0 (kq ≤ k) ∧ Aside0 (Below w.heap.size w wc))
 case first =>
  have H := HC3.out
  clear HC3
  replace H := Option.bind_eq_some_iff.mp H
  obtain ⟨qf, A40, H⟩ := H
  replace H : (if qf = true then ((spec_IsNumber.f a1).bind fun qa => (spec_GcdOf.j0 k a0 a1 (!qa))) else (spec_GcdOf.j0 k a0 a1 true)) = some r := H
  have A4 := Aside0.mk A40
  clear A40
  by_cases c5 : qf = true
  ·
   subst c5
   have H1 : ((spec_IsNumber.f a1).bind fun qa => (spec_GcdOf.j0 k a0 a1 (!qa))) = some r := by rw [if_pos rfl] at H; exact H
   clear H
   have H := H1
   clear H1
   replace H := Option.bind_eq_some_iff.mp H
   obtain ⟨qa, A60, H⟩ := H
   replace H : (spec_GcdOf.j0 k a0 a1 (!qa)) = some r := H
   have A6 := Aside0.mk A60
   clear A60
   have H' := Aside0.mk H
   clear H
   go_wp2_with (first | (go_at_call 73; (with_reducible refine (spec_IsNumber.calls a0 true _ A4.out).mono ?_); rintro e w' ⟨rfl, ⟨nd, rfl⟩⟩; (try first | exact ⟨rfl, _, World.drewN_drewN _ _ _⟩ | exact ⟨rfl, _, Eq.trans (World.drewN_drewN _ _ _) (congrArg (World.drewN _) (Nat.add_assoc _ _ _))⟩)) | (go_at_call 73; (with_reducible refine (spec_IsNumber.calls a1 qa _ A6.out).mono ?_); rintro e w' ⟨rfl, ⟨nd, rfl⟩⟩; (try first | exact ⟨rfl, _, World.drewN_drewN _ _ _⟩ | exact ⟨rfl, _, Eq.trans (World.drewN_drewN _ _ _) (congrArg (World.drewN _) (Nat.add_assoc _ _ _))⟩)))
   repeat (go_quiet (first | (go_at_call 73; (with_reducible refine (spec_IsNumber.calls a0 true _ A4.out).mono ?_); rintro e w' ⟨rfl, ⟨nd, rfl⟩⟩; (try first | exact ⟨rfl, _, World.drewN_drewN _ _ _⟩ | exact ⟨rfl, _, Eq.trans (World.drewN_drewN _ _ _) (congrArg (World.drewN _) (Nat.add_assoc _ _ _))⟩)) | (go_at_call 73; (with_reducible refine (spec_IsNumber.calls a1 qa _ A6.out).mono ?_); rintro e w' ⟨rfl, ⟨nd, rfl⟩⟩; (try first | exact ⟨rfl, _, World.drewN_drewN _ _ _⟩ | exact ⟨rfl, _, Eq.trans (World.drewN_drewN _ _ _) (congrArg (World.drewN _) (Nat.add_assoc _ _ _))⟩))); try go_wp2_with (first | (go_at_call 73; (with_reducible refine (spec_IsNumber.calls a0 true _ A4.out).mono ?_); rintro e w' ⟨rfl, ⟨nd, rfl⟩⟩; (try first | exact ⟨rfl, _, World.drewN_drewN _ _ _⟩ | exact ⟨rfl, _, Eq.trans (World.drewN_drewN _ _ _) (congrArg (World.drewN _) (Nat.add_assoc _ _ _))⟩)) | (go_at_call 73; (with_reducible refine (spec_IsNumber.calls a1 qa _ A6.out).mono ?_); rintro e w' ⟨rfl, ⟨nd, rfl⟩⟩; (try first | exact ⟨rfl, _, World.drewN_drewN _ _ _⟩ | exact ⟨rfl, _, Eq.trans (World.drewN_drewN _ _ _) (congrArg (World.drewN _) (Nat.add_assoc _ _ _))⟩))))
   go_meet
   case rel => exact ⟨_, (!qa), (by first | rfl | (simp; done) | (simp [*]; done)), H', ⟨by first | omega | exact Nat.le_refl _⟩, ⟨bb_ HB⟩⟩
  ·
   replace c5 := Bool.eq_false_iff.mpr c5
   subst c5
   have H1 : (spec_GcdOf.j0 k a0 a1 true) = some r := by rw [if_neg (show ¬ (false = true) by decide)] at H; exact H
   clear H
   have H := H1
   clear H1
   have H' := Aside0.mk H
   clear H
   go_wp2_with (first | (go_at_call 73; (with_reducible refine (spec_IsNumber.calls a0 false _ A4.out).mono ?_); rintro e w' ⟨rfl, ⟨nd, rfl⟩⟩; (try first | exact ⟨rfl, _, World.drewN_drewN _ _ _⟩ | exact ⟨rfl, _, Eq.trans (World.drewN_drewN _ _ _) (congrArg (World.drewN _) (Nat.add_assoc _ _ _))⟩)))
   repeat (go_quiet (first | (go_at_call 73; (with_reducible refine (spec_IsNumber.calls a0 false _ A4.out).mono ?_); rintro e w' ⟨rfl, ⟨nd, rfl⟩⟩; (try first | exact ⟨rfl, _, World.drewN_drewN _ _ _⟩ | exact ⟨rfl, _, Eq.trans (World.drewN_drewN _ _ _) (congrArg (World.drewN _) (Nat.add_assoc _ _ _))⟩))); try go_wp2_with (first | (go_at_call 73; (with_reducible refine (spec_IsNumber.calls a0 false _ A4.out).mono ?_); rintro e w' ⟨rfl, ⟨nd, rfl⟩⟩; (try first | exact ⟨rfl, _, World.drewN_drewN _ _ _⟩ | exact ⟨rfl, _, Eq.trans (World.drewN_drewN _ _ _) (congrArg (World.drewN _) (Nat.add_assoc _ _ _))⟩))))
   go_meet
   case rel => exact ⟨_, (true), (by first | rfl | (simp; done) | (simp [*]; done)), H', ⟨by first | omega | exact Nat.le_refl _⟩, ⟨bb_ HB⟩⟩
 case rest =>
  clear HC3
  try clear p2
  try clear c5
  obtain ⟨kq, qd, rfl, HA, HJ2, HB⟩ := hcut
  cases kq with
  | zero => exact absurd HA.out (by simp [spec_GcdOf.j0])
  | succ kj2 =>
   have H := HA.out
   clear HA
   simp only [spec_GcdOf.j0] at H
   by_cases c7 : qd = true
   ·
    subst c7
    have H1 : (some 0) = some r := by rw [if_pos rfl] at H; exact H
    clear H
    have H := H1
    clear H1
    obtain rfl := Option.some.inj H
    go_wp2
    repeat (go_quiet (fail); try go_wp2)
    go_ret
    exact ⟨by first | rfl | (simp [errW_none, errW_some] <;> rfl) | (simp [*, errW_none, errW_some] <;> rfl), bb_ HB⟩
   ·
    replace c7 := Bool.eq_false_iff.mpr c7
    subst c7
    have H1 : (spec_GcdOf.l0 kj2 a0 a1) = some r := by rw [if_neg (show ¬ (false = true) by decide)] at H; exact H
    clear H
    have H := H1
    clear H1
    have H' := Aside0.mk H
    clear H
    go_wp2
    repeat (go_quiet (fail); try go_wp2)
    go_loopg [0, 1] kj2 (fun kq v0 v1 w' => ∃ (qc : Int) (qb : Int), v0 = .int .i64 qc ∧ v1 = .int .i64 qb ∧ Aside0 (spec_GcdOf.l0 kq qc qb = some r) ∧ Aside0 (kq ≤ kj2) ∧ Aside0 (Below w.heap.size w w'))
    case atStart => exact ⟨(a0), (a1), (by first | rfl | (simp; done) | (simp [*]; done)), (by first | rfl | (simp; done) | (simp [*]; done)), H', ⟨Nat.le_refl _⟩, ⟨bb_ HB⟩⟩
    case round =>
     clear H'
     try clear p2
     try clear c5
     try clear c7
     try clear p2
     obtain ⟨qc, qb, rfl, rfl, HA, HK2, HB⟩ := hrel
     cases gk with
     | zero => exact absurd HA.out (by simp [spec_GcdOf.l0])
     | succ k2 =>
      have H := HA.out
      clear HA
      simp only [spec_GcdOf.l0] at H
      by_cases c8 : qb = 0
      ·
       rw [if_pos c8] at H
       have qg : (qb == 0) = true := beq_iff_eq.mpr c8
       have qh : (qb != 0) = false := bne_eq_false_iff_eq.mpr c8
       clear c8
       replace H := Option.bind_eq_some_iff.mp H
       obtain ⟨qe, A90, H⟩ := H
       replace H : (some qe) = some r := H
       have A9 := Aside0.mk A90
       clear A90
       obtain rfl := Option.some.inj H
       go_wp2_with (first | (go_at_call 87; (with_reducible refine (spec_l1Abs.calls qc qe _ A9.out).mono ?_); rintro e qi ⟨rfl, hb⟩; replace HB := bS_ HB hb; (try clear hb); (try clear hb2); (try clear hk); (try clear hi)))
       repeat (go_quiet (first | (go_at_call 87; (with_reducible refine (spec_l1Abs.calls qc qe _ A9.out).mono ?_); rintro e qi ⟨rfl, hb⟩; replace HB := bS_ HB hb; (try clear hb); (try clear hb2); (try clear hk); (try clear hi))); try go_wp2_with (first | (go_at_call 87; (with_reducible refine (spec_l1Abs.calls qc qe _ A9.out).mono ?_); rintro e qi ⟨rfl, hb⟩; replace HB := bS_ HB hb; (try clear hb); (try clear hb2); (try clear hk); (try clear hi))))
       go_ret
       exact ⟨by first | rfl | (simp [errW_none, errW_some] <;> rfl) | (simp [*, errW_none, errW_some] <;> rfl), bb_ HB⟩
      ·
       rw [if_neg c8] at H
       have qg : (qb == 0) = false := beq_eq_false_iff_ne.mpr c8
       have qh : (qb != 0) = true := bne_iff_ne.mpr c8
       have H' := Aside0.mk H
       clear H
       go_wp2
       repeat (go_quiet (fail); try go_wp2)
       go_roundg k2
       case measure => have := HJ2.out; have := HK2.out; omega
       case rel => exact ⟨(qb), (Int.tmod qc qb), (by first | rfl | (simp; done) | (simp [*]; done)), (by first | rfl | (simp; done) | (simp [*]; done)), H', ⟨by have := HJ2.out; have := HK2.out; omega⟩, ⟨bb_ HB⟩⟩

/-! ### spec_IsRatio: function 83 -/
def spec_IsRatio.f (k : Nat) (a0_0 : Int) (a0_1 : Int) : Option (Bool) := (spec_l1In.f a0_1 1 400000000).bind fun qe => (if qe = true then ((spec_IsNumber.f a0_0).bind fun qd => (if qd = true then ((spec_GcdOf.f k a0_0 a0_1).bind fun qc => (some (qc == 1))) else (some false))) else (some false))
theorem spec_IsRatio.mono : ∀ a0 a1 k, LeO (spec_IsRatio.f k a0 a1) (spec_IsRatio.f (k + 1) a0 a1) := by
 intro a0 a1 k
 unfold spec_IsRatio.f
 repeat' first
   | (with_reducible exact spec_GcdOf.mono _ _ _)
   | (with_reducible exact LeO.refl _)
   | (with_reducible exact LeO.none _)
   | (with_reducible refine LeO.ite ?_ ?_)
   | (with_reducible refine LeO.bind ?_ (fun _ => ?_))
   | exact spec_GcdOf.mono _ _ _
   | exact LeO.none _
   | refine LeO.ite ?_ ?_
   | refine LeO.bind ?_ (fun _ => ?_)
set_option maxHeartbeats 8000000 in
set_option maxRecDepth 100000 in
theorem spec_IsRatio.calls (k : Nat) (a0_0 : Int) (a0_1 : Int) (r : Bool) (w : World) (h : spec_IsRatio.f k a0_0 a0_1 = some r) :
  Calls Try.prog 83 #[.agg #[.int .i64 a0_0, .int .i64 a0_1]] w fun e w' => e = .returned (.bool r) ∧ Below w.heap.size w w' := by
 have hu37 := Try.underlying37
 have HB := Aside0.mk (Below.refl w.heap.size w)
 have H : ((spec_l1In.f a0_1 1 400000000).bind fun qe => (if qe = true then ((spec_IsNumber.f a0_0).bind fun qd => (if qd = true then ((spec_GcdOf.f k a0_0 a0_1).bind fun qc => (some (qc == 1))) else (some false))) else (some false))) = some r := h
 clear h
 replace H := Option.bind_eq_some_iff.mp H
 obtain ⟨qe, A20, H⟩ := H
 replace H : (if qe = true then ((spec_IsNumber.f a0_0).bind fun qd => (if qd = true then ((spec_GcdOf.f k a0_0 a0_1).bind fun qc => (some (qc == 1))) else (some false))) else (some false)) = some r := H
 have A2 := Aside0.mk A20
 clear A20
 by_cases c3 : qe = true
 ·
  subst c3
  have H1 : ((spec_IsNumber.f a0_0).bind fun qd => (if qd = true then ((spec_GcdOf.f k a0_0 a0_1).bind fun qc => (some (qc == 1))) else (some false))) = some r := by rw [if_pos rfl] at H; exact H
  clear H
  have H := H1
  clear H1
  replace H := Option.bind_eq_some_iff.mp H
  obtain ⟨qd, A40, H⟩ := H
  replace H : (if qd = true then ((spec_GcdOf.f k a0_0 a0_1).bind fun qc => (some (qc == 1))) else (some false)) = some r := H
  have A4 := Aside0.mk A40
  clear A40
  by_cases c5 : qd = true
  ·
   subst c5
   have H1 : ((spec_GcdOf.f k a0_0 a0_1).bind fun qc => (some (qc == 1))) = some r := by rw [if_pos rfl] at H; exact H
   clear H
   have H := H1
   clear H1
   replace H := Option.bind_eq_some_iff.mp H
   obtain ⟨qc, A60, H⟩ := H
   replace H : (some (qc == 1)) = some r := H
   have A6 := Aside0.mk A60
   clear A60
   obtain rfl := Option.some.inj H
   go_enter Try.func83, Try.ntmps83
   go_wp2_with (first | ((with_reducible refine gate_dst (N := 1) rfl ?_); refine box_event ?hg (N := 1) ?hd (cs := #[.int .i64 a0_0, .int .i64 a0_1]) (t := 37) ?hr ?_; (case hd => rfl); (case hg => rfl); (case hr => first | (go_simp; done) | (go_simp; rfl)); intro qb hg w7 hbox hb; have qa := Aside0.mk (hbox); have qf := Aside0.mk ((by rw [hg]; exact (bz_ HB) : w.heap.size ≤ qb)); have qg := Aside0.mk ((by rw [hg]; exact (bz_ HB) : w.heap.size ≤ qb)); replace HB := bS_ HB hb; clear hb hbox hg; have qp : w7.cell? ⟨qb, 0, none⟩ = some (.int .i64 a0_0) := bc_ qa 0; have qq : w7.cell? ⟨qb, 1, none⟩ = some (.int .i64 a0_1) := bc_ qa 1; have qr := blk_frozen qa.out 0; have qs := blk_frozen qa.out 1) | ((with_reducible refine gate_callee (f := 41) rfl ?_); refine goesL_ (some 5) rfl rfl Try.func41 (by kernel_rfl) rfl #[.int .i64 a0_1, .int .i64 1, .int .i64 400000000] rfl (by (try simp only [List.map_toArray, List.map_cons, List.map_nil]); first | done | rfl | (simp only [List.length_drop, List.length_take]; rfl)) ?_; (with_reducible refine (spec_l1In.calls a0_1 1 400000000 true _ A2.out).mono ?_); rintro e w' ⟨rfl, ⟨nd, rfl⟩⟩; refine ⟨_, rfl, ?_⟩) | (go_at_call 73; (with_reducible refine (spec_IsNumber.calls a0_0 true _ A4.out).mono ?_); rintro e w' ⟨rfl, ⟨nd, rfl⟩⟩) | (go_at_call 91; (with_reducible refine (spec_GcdOf.calls k a0_0 a0_1 qc _ A6.out).mono ?_); rintro e w9 ⟨rfl, hb⟩; replace qa := kB_ qa hb; replace HB := bS_ HB hb; (try clear hb); (try clear hb2); (try clear hk); (try clear hi)))
   go_ret
   exact ⟨by first | rfl | (simp [errW_none, errW_some] <;> rfl) | (simp [*, errW_none, errW_some] <;> rfl), bb_ HB⟩
  ·
   replace c5 := Bool.eq_false_iff.mpr c5
   subst c5
   have H1 : (some false) = some r := by rw [if_neg (show ¬ (false = true) by decide)] at H; exact H
   clear H
   have H := H1
   clear H1
   obtain rfl := Option.some.inj H
   go_enter Try.func83, Try.ntmps83
   go_wp2_with (first | ((with_reducible refine gate_dst (N := 1) rfl ?_); refine box_event ?hg (N := 1) ?hd (cs := #[.int .i64 a0_0, .int .i64 a0_1]) (t := 37) ?hr ?_; (case hd => rfl); (case hg => rfl); (case hr => first | (go_simp; done) | (go_simp; rfl)); intro qb hg qt hbox hb; have qa := Aside0.mk (hbox); have qf := Aside0.mk ((by rw [hg]; exact (bz_ HB) : w.heap.size ≤ qb)); have qg := Aside0.mk ((by rw [hg]; exact (bz_ HB) : w.heap.size ≤ qb)); replace HB := bS_ HB hb; clear hb hbox hg; have qh : qt.cell? ⟨qb, 0, none⟩ = some (.int .i64 a0_0) := bc_ qa 0; have qi : qt.cell? ⟨qb, 1, none⟩ = some (.int .i64 a0_1) := bc_ qa 1; have qj := blk_frozen qa.out 0; have qk := blk_frozen qa.out 1) | ((with_reducible refine gate_callee (f := 41) rfl ?_); refine goesL_ (some 5) rfl rfl Try.func41 (by kernel_rfl) rfl #[.int .i64 a0_1, .int .i64 1, .int .i64 400000000] rfl (by (try simp only [List.map_toArray, List.map_cons, List.map_nil]); first | done | rfl | (simp only [List.length_drop, List.length_take]; rfl)) ?_; (with_reducible refine (spec_l1In.calls a0_1 1 400000000 true _ A2.out).mono ?_); rintro e w' ⟨rfl, ⟨nd, rfl⟩⟩; refine ⟨_, rfl, ?_⟩) | (go_at_call 73; (with_reducible refine (spec_IsNumber.calls a0_0 false _ A4.out).mono ?_); rintro e w' ⟨rfl, ⟨nd, rfl⟩⟩))
   go_ret
   exact ⟨by first | rfl | (simp [errW_none, errW_some] <;> rfl) | (simp [*, errW_none, errW_some] <;> rfl), bb_ HB⟩
 ·
  replace c3 := Bool.eq_false_iff.mpr c3
  subst c3
  have H1 : (some false) = some r := by rw [if_neg (show ¬ (false = true) by decide)] at H; exact H
  clear H
  have H := H1
  clear H1
  obtain rfl := Option.some.inj H
  go_enter Try.func83, Try.ntmps83
  go_wp2_with (first | ((with_reducible refine gate_dst (N := 1) rfl ?_); refine box_event ?hg (N := 1) ?hd (cs := #[.int .i64 a0_0, .int .i64 a0_1]) (t := 37) ?hr ?_; (case hd => rfl); (case hg => rfl); (case hr => first | (go_simp; done) | (go_simp; rfl)); intro qb hg qu hbox hb; have qa := Aside0.mk (hbox); have qf := Aside0.mk ((by rw [hg]; exact (bz_ HB) : w.heap.size ≤ qb)); have qg := Aside0.mk ((by rw [hg]; exact (bz_ HB) : w.heap.size ≤ qb)); replace HB := bS_ HB hb; clear hb hbox hg; have ql : qu.cell? ⟨qb, 0, none⟩ = some (.int .i64 a0_0) := bc_ qa 0; have qm : qu.cell? ⟨qb, 1, none⟩ = some (.int .i64 a0_1) := bc_ qa 1; have qn := blk_frozen qa.out 0; have qo := blk_frozen qa.out 1) | ((with_reducible refine gate_callee (f := 41) rfl ?_); refine goesL_ (some 5) rfl rfl Try.func41 (by kernel_rfl) rfl #[.int .i64 a0_1, .int .i64 1, .int .i64 400000000] rfl (by (try simp only [List.map_toArray, List.map_cons, List.map_nil]); first | done | rfl | (simp only [List.length_drop, List.length_take]; rfl)) ?_; (with_reducible refine (spec_l1In.calls a0_1 1 400000000 false _ A2.out).mono ?_); rintro e w' ⟨rfl, ⟨nd, rfl⟩⟩; refine ⟨_, rfl, ?_⟩))
  go_ret
  exact ⟨by first | rfl | (simp [errW_none, errW_some] <;> rfl) | (simp [*, errW_none, errW_some] <;> rfl), bb_ HB⟩

/-! ### spec_l2Make: function 75 -/
mutual
def spec_l2Make.j0 : Nat → Int → Int → Option (Int × Int)
 | 0, _, _ => none
 | k + 1, x0, x1 => spec_l2Make.l0 k x0 x1 x0 x1
def spec_l2Make.l0 : Nat → Int → Int → Int → Int → Option (Int × Int)
 | 0, _, _, _, _ => none
 | k + 1, x0, x1, x5, x6 => if x6 = 0 then ((spec_l1Abs.f x5).bind fun qb => (if qb = 0 then (none) else ((spec_IsRatio.f k (wrap64 (Int.tdiv x0 qb)) (wrap64 (Int.tdiv x1 qb))).bind fun qm => (if qm = true then (some (wrap64 (Int.tdiv x0 qb), wrap64 (Int.tdiv x1 qb))) else (some (0, 0)))))) else (spec_l2Make.l0 k x0 x1 x6 (Int.tmod x5 x6))
end
def spec_l2Make.f (k : Nat) (a0 : Int) (a1 : Int) : Option (Int × Int) := if a1 = 0 then (some (0, 0)) else (if a1 < 0 then (spec_l2Make.j0 k (wrap64 (-a0)) (wrap64 (-a1))) else (spec_l2Make.j0 k a0 a1))
theorem spec_l2Make.mono_l : ∀ k, (∀ y0 y1, LeO (spec_l2Make.j0 k y0 y1) (spec_l2Make.j0 (k + 1) y0 y1)) ∧ (∀ y0 y1 y2 y3, LeO (spec_l2Make.l0 k y0 y1 y2 y3) (spec_l2Make.l0 (k + 1) y0 y1 y2 y3))
 | 0 => ⟨fun _ _ r h => by simp [spec_l2Make.j0] at h, fun _ _ _ _ r h => by simp [spec_l2Make.l0] at h⟩
 | k + 1 => by
  obtain ⟨ih0, ih1⟩ := spec_l2Make.mono_l k
  refine ⟨?_, ?_⟩
  ·
   intro y0 y1
   unfold spec_l2Make.j0
   repeat' first
   | (with_reducible exact ih0 _ _)
   | (with_reducible exact ih1 _ _ _ _)
   | (with_reducible exact spec_IsRatio.mono _ _ _)
   | (with_reducible exact LeO.refl _)
   | (with_reducible exact LeO.none _)
   | (with_reducible refine LeO.ite ?_ ?_)
   | (with_reducible refine LeO.bind ?_ (fun _ => ?_))
   | exact ih0 _ _
   | exact ih1 _ _ _ _
   | exact spec_IsRatio.mono _ _ _
   | exact LeO.none _
   | refine LeO.ite ?_ ?_
   | refine LeO.bind ?_ (fun _ => ?_)
  ·
   intro y0 y1 y2 y3
   unfold spec_l2Make.l0
   repeat' first
   | (with_reducible exact ih0 _ _)
   | (with_reducible exact ih1 _ _ _ _)
   | (with_reducible exact spec_IsRatio.mono _ _ _)
   | (with_reducible exact LeO.refl _)
   | (with_reducible exact LeO.none _)
   | (with_reducible refine LeO.ite ?_ ?_)
   | (with_reducible refine LeO.bind ?_ (fun _ => ?_))
   | exact ih0 _ _
   | exact ih1 _ _ _ _
   | exact spec_IsRatio.mono _ _ _
   | exact LeO.none _
   | refine LeO.ite ?_ ?_
   | refine LeO.bind ?_ (fun _ => ?_)
theorem spec_l2Make.mono : ∀ a0 a1 k, LeO (spec_l2Make.f k a0 a1) (spec_l2Make.f (k + 1) a0 a1) := by
 intro a0 a1 k
 obtain ⟨ih0, ih1⟩ := spec_l2Make.mono_l k
 unfold spec_l2Make.f
 repeat' first
   | (with_reducible exact ih0 _ _)
   | (with_reducible exact ih1 _ _ _ _)
   | (with_reducible exact spec_IsRatio.mono _ _ _)
   | (with_reducible exact LeO.refl _)
   | (with_reducible exact LeO.none _)
   | (with_reducible refine LeO.ite ?_ ?_)
   | (with_reducible refine LeO.bind ?_ (fun _ => ?_))
   | exact ih0 _ _
   | exact ih1 _ _ _ _
   | exact spec_IsRatio.mono _ _ _
   | exact LeO.none _
   | refine LeO.ite ?_ ?_
   | refine LeO.bind ?_ (fun _ => ?_)
def spec_l2Make.T10 : Bool × List (List Nat × List Nat) := (true, [([], []), ([], []), ([0, 1], [0, 1]), ([], []), ([], []), ([3, 4], [3, 4]), ([2, 5], [2, 5]), ([], []), ([7, 6, 0, 1, 2, 3, 4, 5, 6, 7], [6, 7])])
def spec_l2Make.B10 : List Nat := [0, 0, 3, 0, 0, 24, 63, 0, 255]
theorem spec_l2Make.tab10 : rtab .any (opsOf Try.f75 10) = spec_l2Make.T10 := by kernel_rfl
theorem spec_l2Make.bits10 : waitsOk spec_l2Make.T10.2 spec_l2Make.B10 = true := by kernel_rfl
set_option maxHeartbeats 8000000 in
set_option maxRecDepth 100000 in
theorem spec_l2Make.calls (k : Nat) (a0 : Int) (a1 : Int) (r1 : Int) (r2 : Int) (w : World) (h : spec_l2Make.f k a0 a1 = some (r1, r2)) :
  Calls Try.prog 75 #[.int .i64 a0, .int .i64 a1] w fun e w' => e = .returned (.agg #[.int .i64 r1, .int .i64 r2]) ∧ Below w.heap.size w w' := by
 have hu37 := Try.underlying37
 have HB := Aside0.mk (Below.refl w.heap.size w)
 have H : (if a1 = 0 then (some (0, 0)) else (if a1 < 0 then (spec_l2Make.j0 k (wrap64 (-a0)) (wrap64 (-a1))) else (spec_l2Make.j0 k a0 a1))) = some (r1, r2) := h
 clear h
 by_cases c3 : a1 = 0
 ·
  rw [if_pos c3] at H
  have qr : (a1 == 0) = true := beq_iff_eq.mpr c3
  have qs : (a1 != 0) = false := bne_eq_false_iff_eq.mpr c3
  clear c3
  simp only [Option.some.injEq, Prod.mk.injEq] at H
  obtain ⟨rfl, rfl⟩ := H
  go_enter Try.func75, Try.ntmps75
  go_wp2_with (first | ((with_reducible refine gate_dst (N := 4) rfl ?_); refine box_event ?hg (N := 4) ?hd (cs := #[.int .i64 0, .int .i64 0]) (t := 37) ?hr ?_; (case hd => rfl); (case hg => rfl); (case hr => first | (go_simp; done) | (go_simp; rfl)); intro qd hg w4 hbox hb; have qa := Aside0.mk (hbox); have qt := Aside0.mk ((by rw [hg]; exact (bz_ HB) : w.heap.size ≤ qd)); have qu := Aside0.mk ((by rw [hg]; exact (bz_ HB) : w.heap.size ≤ qd)); replace HB := bS_ HB hb; clear hb hbox hg; have qn : w4.cell? ⟨qd, 0, none⟩ = some (.int .i64 0) := bc_ qa 0; have qo : w4.cell? ⟨qd, 1, none⟩ = some (.int .i64 0) := bc_ qa 1; have qp := blk_frozen qa.out 0; have qq := blk_frozen qa.out 1))
  refine bodyPost_ret (results_cell_row rfl _ _ qd 37 #[.int .i64 0, .int .i64 0] (0, 0) _ rfl (by (with_reducible repeat (first | refine blk_drewN ?_ _ | refine blk_drew ?_ | refine blk_alloc ?_ _)); refine blk_put (cs := #[.int .i64 0, .int .i64 0]) ?_ 1 _ rfl; (with_reducible repeat (first | refine blk_drewN ?_ _ | refine blk_drew ?_ | refine blk_alloc ?_ _)); refine blk_put (cs := #[.int .i64 0, .int .i64 0]) ?_ 0 _ rfl; (with_reducible repeat (first | refine blk_drewN ?_ _ | refine blk_drew ?_ | refine blk_alloc ?_ _)); exact qa.out) Try.underlying37 rfl (by kernel_rfl)) rfl ?_
  exact ⟨by first | rfl | (simp [errW_none, errW_some] <;> rfl) | (simp [*, errW_none, errW_some] <;> rfl), bb_ HB⟩
 ·
  rw [if_neg c3] at H
  have qr : (a1 == 0) = false := beq_eq_false_iff_ne.mpr c3
  have qs : (a1 != 0) = true := bne_iff_ne.mpr c3
  have HC6 := Aside0.mk H
  clear H
  go_enter Try.func75, Try.ntmps75
  go_upto_if 13 with (first | ((with_reducible refine gate_dst (N := 4) rfl ?_); refine box_event ?hg (N := 4) ?hd (cs := #[.int .i64 0, .int .i64 0]) (t := 37) ?hr ?_; (case hd => rfl); (case hg => rfl); (case hr => first | (go_simp; done) | (go_simp; rfl)); intro qd hg w7 hbox hb; have qa := Aside0.mk (hbox); have qt := Aside0.mk ((by rw [hg]; exact (bz_ HB) : w.heap.size ≤ qd)); have qu := Aside0.mk ((by rw [hg]; exact (bz_ HB) : w.heap.size ≤ qd)); replace HB := bS_ HB hb; clear hb hbox hg))
  (try simp only [Act.put, List.setIfInBounds_toArray, List.set_cons_zero, List.set_cons_succ])
  go_cut [0, 1] (fun v0 v1 wc => ∃ (kq : Nat) (qh : Int) (qi : Int), v0 = .int .i64 qh ∧ v1 = .int .i64 qi ∧ Aside0 (spec_l2Make.j0 kq qh qi = some (r1, r2)) ∧ Aside0 (kq ≤ k) ∧ Aside0 (wc.heap[qd]? = some (.cells #[.int .i64 0, .int .i64 0] 37 (0, 0))) ∧ Aside0 (Below w.heap.size w wc))
  case first =>
   have H := HC6.out
   clear HC6
   by_cases c8 : a1 < 0
   ·
    rw [if_pos c8] at H
    have ql : decide (a1 < 0) = true := decide_eq_true c8
    clear c8
    (first | rw [ql] | (simp only [i64_w, i32_w]; rw [ql]) | skip)
    have H' := Aside0.mk H
    clear H
    go_wp2
    go_meet
    case rel => exact ⟨_, (wrap64 (-a0)), (wrap64 (-a1)), (by first | rfl | (simp; done) | (simp [*]; done)), (by first | rfl | (simp; done) | (simp [*]; done)), H', ⟨by first | omega | exact Nat.le_refl _⟩, ⟨kf_ qa⟩, ⟨bb_ HB⟩⟩
   ·
    rw [if_neg c8] at H
    have ql : decide (a1 < 0) = false := decide_eq_false c8
    clear c8
    (first | rw [ql] | (simp only [i64_w, i32_w]; rw [ql]) | skip)
    have H' := Aside0.mk H
    clear H
    go_wp2
    go_meet
    case rel => exact ⟨_, (a0), (a1), (by first | rfl | (simp; done) | (simp [*]; done)), (by first | rfl | (simp; done) | (simp [*]; done)), H', ⟨by first | omega | exact Nat.le_refl _⟩, ⟨kf_ qa⟩, ⟨bb_ HB⟩⟩
  case rest =>
   clear HC6
   try clear p2
   try clear c3
   try clear qr
   try clear qs
   try clear p6
   try clear c7
   try clear c8
   try clear ql
   try clear qn
   try clear qo
   try clear qp
   try clear qq
   obtain ⟨kq, qh, qi, rfl, rfl, HA, HJ5, qa, HB⟩ := hcut
   cases kq with
   | zero => exact absurd HA.out (by simp [spec_l2Make.j0])
   | succ kj5 =>
    have H := HA.out
    clear HA
    simp only [spec_l2Make.j0] at H
    have H' := Aside0.mk H
    clear H
    go_wp2
    go_loopg [5, 6] kj5 (fun kq v5 v6 w' => ∃ (qk : Int) (qj : Int), v5 = .int .i64 qk ∧ v6 = .int .i64 qj ∧ Aside0 (spec_l2Make.l0 kq qh qi qk qj = some (r1, r2)) ∧ Aside0 (kq ≤ kj5) ∧ Aside0 (w'.heap[qd]? = some (.cells #[.int .i64 0, .int .i64 0] 37 (0, 0))) ∧ Aside0 (Below w.heap.size w w'))
    case atStart => exact ⟨(qh), (qi), (by first | rfl | (simp; done) | (simp [*]; done)), (by first | rfl | (simp; done) | (simp [*]; done)), H', ⟨Nat.le_refl _⟩, ⟨kf_ qa⟩, ⟨bb_ HB⟩⟩
    case round =>
     clear H'
     try clear p2
     try clear c3
     try clear qr
     try clear qs
     try clear p6
     try clear c7
     try clear c8
     try clear ql
     try clear qn
     try clear qo
     try clear qp
     try clear qq
     try clear p2
     try clear p6
     obtain ⟨qk, qj, rfl, rfl, HA, HK2, qa, HB⟩ := hrel
     cases gk with
     | zero => exact absurd HA.out (by simp [spec_l2Make.l0])
     | succ k2 =>
      have H := HA.out
      clear HA
      simp only [spec_l2Make.l0] at H
      by_cases c9 : qj = 0
      ·
       rw [if_pos c9] at H
       have qU : (qj == 0) = true := beq_iff_eq.mpr c9
       have qV : (qj != 0) = false := bne_eq_false_iff_eq.mpr c9
       clear c9
       replace H := Option.bind_eq_some_iff.mp H
       obtain ⟨qb, A100, H⟩ := H
       replace H : (if qb = 0 then (none) else ((spec_IsRatio.f k2 (wrap64 (Int.tdiv qh qb)) (wrap64 (Int.tdiv qi qb))).bind fun qm => (if qm = true then (some (wrap64 (Int.tdiv qh qb), wrap64 (Int.tdiv qi qb))) else (some (0, 0))))) = some (r1, r2) := H
       have A10 := Aside0.mk A100
       clear A100
       by_cases c11 : qb = 0
       ·
        rw [if_pos c11] at H
        exact absurd H (by simp)
       ·
        rw [if_neg c11] at H
        have qW : (qb == 0) = false := beq_eq_false_iff_ne.mpr c11
        have qX : (qb != 0) = true := bne_iff_ne.mpr c11
        replace H := Option.bind_eq_some_iff.mp H
        obtain ⟨qm, A120, H⟩ := H
        replace H : (if qm = true then (some (wrap64 (Int.tdiv qh qb), wrap64 (Int.tdiv qi qb))) else (some (0, 0))) = some (r1, r2) := H
        have A12 := Aside0.mk A120
        clear A120
        by_cases c13 : qm = true
        ·
         subst c13
         have H1 : (some (wrap64 (Int.tdiv qh qb), wrap64 (Int.tdiv qi qb))) = some (r1, r2) := by rw [if_pos rfl] at H; exact H
         clear H
         have H := H1
         clear H1
         simp only [Option.some.injEq, Prod.mk.injEq] at H
         obtain ⟨rfl, rfl⟩ := H
         try go_wp2_with (first | ((with_reducible refine gate_callee (f := 87) rfl ?_); refine goesL_ (some 27) rfl rfl Try.func87 (by kernel_rfl) rfl #[.int .i64 qk] rfl (by (try simp only [List.map_toArray, List.map_cons, List.map_nil]); first | done | rfl | (simp only [List.length_drop, List.length_take]; rfl)) ?_; (with_reducible refine (spec_l1Abs.calls qk qb _ A10.out).mono ?_); rintro e q3 ⟨rfl, hb⟩; refine ⟨_, rfl, ?_⟩; replace qa := kB_ qa hb; replace HB := bS_ HB hb; (try clear hb); (try clear hb2); (try clear hk); (try clear hi)))
         replace qa := Aside0.mk (blk_drew qa.out); replace HB := Aside0.mk (below_drew1 HB.out)
         refine start_ (n := 9) (S := fun w' => True) (ds := []) #[false, false, false, false, false, false, false, false, false] (by kernel_rfl) rfl rfl trivial (fun hHeld => ?_); refine with_tabW spec_l2Make.tab10 spec_l2Make.bits10 (fun HT_ HW_ => ?_)
         generalize q3.drew = q5 at qa HB hHeld ⊢
         refine pure_ (i := 0) (N := some 28) (v := ?_) (a' := ?_) #[true, false, false, false, false, false, false, false, false] rfl rfl (any_of HT_.out (by kernel_rfl)) (fun _ _ _ h => h) (Or.inl ⟨by rfl, ?_⟩) ?_ ?_
         rotate_left
         ·
          intro w'
          go_simp
          with_reducible rfl
         rotate_left
         ·
          simp only [Act.put, List.setIfInBounds_toArray, List.set_cons_zero, List.set_cons_succ, i64_w, i32_w]
          rfl
         refine pure_ (i := 1) (N := some 29) (v := ?_) (a' := ?_) #[true, true, false, false, false, false, false, false, false] rfl rfl (any_of HT_.out (by kernel_rfl)) (fun _ _ _ h => h) (Or.inl ⟨by rfl, ?_⟩) ?_ ?_
         rotate_left
         ·
          intro w'
          go_simp
          with_reducible rfl
         rotate_left
         ·
          simp only [Act.put, List.setIfInBounds_toArray, List.set_cons_zero, List.set_cons_succ, i64_w, i32_w]
          rfl
         refine pure_ (i := 2) (N := some 30) (v := ?_) (a' := ?_) #[true, true, true, false, false, false, false, false, false] rfl rfl (any_of HT_.out (by kernel_rfl)) (fun _ _ _ h => h) (Or.inl ⟨by rfl, ?_⟩) ?_ ?_
         rotate_left
         ·
          intro w'
          go_simp
          with_reducible rfl
         rotate_left
         ·
          simp only [Act.put, List.setIfInBounds_toArray, List.set_cons_zero, List.set_cons_succ, i64_w, i32_w]
          rfl
         refine pure_ (i := 3) (N := some 31) (v := ?_) (a' := ?_) #[true, true, true, true, false, false, false, false, false] rfl rfl (any_of HT_.out (by kernel_rfl)) (fun _ _ _ h => h) (Or.inl ⟨by rfl, ?_⟩) ?_ ?_
         rotate_left
         ·
          intro w'
          go_simp
          with_reducible rfl
         rotate_left
         ·
          simp only [Act.put, List.setIfInBounds_toArray, List.set_cons_zero, List.set_cons_succ, i64_w, i32_w]
          rfl
         refine pure_ (i := 4) (N := some 32) (v := ?_) (a' := ?_) #[true, true, true, true, true, false, false, false, false] rfl rfl (any_of HT_.out (by kernel_rfl)) (fun _ _ _ h => h) (Or.inl ⟨by rfl, ?_⟩) ?_ ?_
         rotate_left
         ·
          intro w'
          go_simp
          with_reducible rfl
         rotate_left
         ·
          simp only [Act.put, List.setIfInBounds_toArray, List.set_cons_zero, List.set_cons_succ, i64_w, i32_w]
          rfl
         refine pure_ (i := 5) (N := some 33) (v := ?_) (a' := ?_) #[true, true, true, true, true, true, false, false, false] rfl rfl (any_of HT_.out (by kernel_rfl)) (fun _ _ _ h => h) (Or.inl ⟨by rfl, ?_⟩) ?_ ?_
         rotate_left
         ·
          intro w'
          go_simp
          with_reducible rfl
         rotate_left
         ·
          simp only [Act.put, List.setIfInBounds_toArray, List.set_cons_zero, List.set_cons_succ, i64_w, i32_w]
          rfl
         refine pure_ (i := 6) (N := some 34) (v := ?_) (a' := ?_) #[true, true, true, true, true, true, true, false, false] rfl rfl (any_of HT_.out (by kernel_rfl)) (fun _ _ _ h => h) (Or.inl ⟨by rfl, ?_⟩) ?_ ?_
         rotate_left
         ·
          intro w'
          go_simp
          with_reducible rfl
         rotate_left
         ·
          simp only [Act.put, List.setIfInBounds_toArray, List.set_cons_zero, List.set_cons_succ, i64_w, i32_w]
          rfl
         refine one_ (i := 7) (N := some 8) #[true, true, true, true, true, true, true, true, false] rfl rfl (one_of HT_.out (by kernel_rfl)) (by decide) (fun K hK => ?_)
         refine box_step ?hg (N := 8) ?hd (cs := #[.int .i64 0, .int .i64 0]) (t := 37) ?hr ?_; (case hd => rfl); (case hg => rfl); (case hr => first | (go_simp; done) | (go_simp; rfl))
         intro qe hg qx hbox hb
         have qc := Aside0.mk (hbox); have qv := Aside0.mk ((by rw [hg]; exact (bz_ HB) : w.heap.size ≤ qe)); have qw := Aside0.mk ((by rw [hg]; exact (bz_ HB) : w.heap.size ≤ qe)); replace HB := bS_ HB hb; have qf := Aside0.mk ((nl_ qa hg : qd ≠ qe)); have qg := Aside0.mk ((ng_ qa hg : qe ≠ qd)); replace qa := kB_ qa hb; clear hb hbox hg
         refine hK.out _ _ trivial (fun hHeld => ?_)
         clear hK K
         refine norm_ (a' := ?_) ?_ ?_
         rotate_left
         ·
          show Act.put _ (some 8) _ = _
          simp only [Act.put, List.setIfInBounds_toArray, List.set_cons_zero, List.set_cons_succ, i64_w, i32_w]
          rfl
         refine one_ (i := 8) (N := none) #[true, true, true, true, true, true, true, true, true] rfl rfl (one_of HT_.out (by kernel_rfl)) (by decide) (fun K hK => ?_)
         have hs17 : qx.cell? ⟨qe, 0, none⟩ = some (.int .i64 0) := bc_ qc 0
         have hfs17 := blk_frozen qc.out 0
         have hns17_0 := qf.out
         have hms17_0 := qg.out
         have hs18 : qx.cell? ⟨qe, 1, none⟩ = some (.int .i64 0) := bc_ qc 1
         have hfs18 := blk_frozen qc.out 1
         have hns18_0 := qf.out
         have hms18_0 := qg.out
         refine skip_ (w1 := ?_) (by rfl) rfl ?_ ?_
         rotate_left
         ·
          go_simp
          rfl
         refine hK.out _ _ trivial (fun hHeld => ?_)
         clear hK K
         refine done_ (done_of HT_.out (by kernel_rfl)) ?_
         have qY := qg.out
         have qZ := qf.out
         have qy : qx.cell? ⟨qe, 0, none⟩ = some (.int .i64 0) := bc_ qc 0
         have qz : qx.cell? ⟨qe, 1, none⟩ = some (.int .i64 0) := bc_ qc 1
         have qA := blk_frozen qc.out 0
         have qB := blk_frozen qc.out 1
         try go_wp2_with (first | ((with_reducible refine gate_callee (f := 83) rfl ?_); refine goesL_ (some 36) rfl rfl Try.func83 (by kernel_rfl) rfl #[.agg #[.int .i64 (wrap64 (Int.tdiv qh qb)), .int .i64 (wrap64 (Int.tdiv qi qb))]] rfl (by (try simp only [List.map_toArray, List.map_cons, List.map_nil]); first | done | rfl | (simp only [List.length_drop, List.length_take]; rfl)) ?_; (with_reducible refine (spec_IsRatio.calls k2 (wrap64 (Int.tdiv qh qb)) (wrap64 (Int.tdiv qi qb)) true _ A12.out).mono ?_); rintro e qC ⟨rfl, hb⟩; refine ⟨_, rfl, ?_⟩; replace qa := Aside0.mk (blk_below (g := qd) (o := .cells #[.int .i64 0, .int .i64 0] 37 (0, 0)) (kf_ qa) hb); replace qc := Aside0.mk (blk_below (g := qe) (o := .cells #[.int .i64 (wrap64 (Int.tdiv qh qb)), .int .i64 (wrap64 (Int.tdiv qi qb))] 37 (0, 0)) (by (with_reducible repeat (first | refine blk_drewN ?_ _ | refine blk_drew ?_ | refine blk_alloc ?_ _)); refine blk_put (cs := #[.int .i64 (wrap64 (Int.tdiv qh qb)), .int .i64 0]) ?_ 1 _ rfl; (with_reducible repeat (first | refine blk_drewN ?_ _ | refine blk_drew ?_ | refine blk_alloc ?_ _)); refine blk_put (cs := #[.int .i64 0, .int .i64 0]) ?_ 0 _ rfl; (with_reducible repeat (first | refine blk_drewN ?_ _ | refine blk_drew ?_ | refine blk_alloc ?_ _)); exact qc.out) hb); replace HB := bS_ HB hb; (try clear hb); (try clear hb2); (try clear hk); (try clear hi); have qD : qC.cell? ⟨qe, 0, none⟩ = some (.int .i64 (wrap64 (Int.tdiv qh qb))) := bc_ qc 0; have qE : qC.cell? ⟨qe, 1, none⟩ = some (.int .i64 (wrap64 (Int.tdiv qi qb))) := bc_ qc 1; have qF := blk_frozen qc.out 0; have qG := blk_frozen qc.out 1; have qH : qC.cell? ⟨qd, 0, none⟩ = some (.int .i64 0) := bc_ qa 0; have qI : qC.cell? ⟨qd, 1, none⟩ = some (.int .i64 0) := bc_ qa 1; have qJ := blk_frozen qa.out 0; have qK := blk_frozen qa.out 1))
         refine bodyPost_ret (results_cell_row rfl _ _ qd 37 #[.int .i64 (wrap64 (Int.tdiv qh qb)), .int .i64 (wrap64 (Int.tdiv qi qb))] (0, 0) _ rfl (by (with_reducible repeat (first | refine blk_drewN ?_ _ | refine blk_drew ?_ | refine blk_alloc ?_ _)); refine blk_put (cs := #[.int .i64 (wrap64 (Int.tdiv qh qb)), .int .i64 0]) ?_ 1 _ rfl; (with_reducible repeat (first | refine blk_drewN ?_ _ | refine blk_drew ?_ | refine blk_alloc ?_ _)); refine blk_put (cs := #[.int .i64 0, .int .i64 0]) ?_ 0 _ rfl; (with_reducible repeat (first | refine blk_drewN ?_ _ | refine blk_drew ?_ | refine blk_alloc ?_ _)); exact qa.out) Try.underlying37 rfl (by kernel_rfl)) rfl ?_
         exact ⟨by first | rfl | (simp [errW_none, errW_some] <;> rfl) | (simp [*, errW_none, errW_some] <;> rfl), bb_ HB⟩
        ·
         replace c13 := Bool.eq_false_iff.mpr c13
         subst c13
         have H1 : (some (0, 0)) = some (r1, r2) := by rw [if_neg (show ¬ (false = true) by decide)] at H; exact H
         clear H
         have H := H1
         clear H1
         simp only [Option.some.injEq, Prod.mk.injEq] at H
         obtain ⟨rfl, rfl⟩ := H
         try go_wp2_with (first | ((with_reducible refine gate_callee (f := 87) rfl ?_); refine goesL_ (some 27) rfl rfl Try.func87 (by kernel_rfl) rfl #[.int .i64 qk] rfl (by (try simp only [List.map_toArray, List.map_cons, List.map_nil]); first | done | rfl | (simp only [List.length_drop, List.length_take]; rfl)) ?_; (with_reducible refine (spec_l1Abs.calls qk qb _ A10.out).mono ?_); rintro e q4 ⟨rfl, hb⟩; refine ⟨_, rfl, ?_⟩; replace qa := kB_ qa hb; replace HB := bS_ HB hb; (try clear hb); (try clear hb2); (try clear hk); (try clear hi)))
         replace qa := Aside0.mk (blk_drew qa.out); replace HB := Aside0.mk (below_drew1 HB.out)
         refine start_ (n := 9) (S := fun w' => True) (ds := []) #[false, false, false, false, false, false, false, false, false] (by kernel_rfl) rfl rfl trivial (fun hHeld => ?_); refine with_tabW spec_l2Make.tab10 spec_l2Make.bits10 (fun HT_ HW_ => ?_)
         generalize q4.drew = q6 at qa HB hHeld ⊢
         refine pure_ (i := 0) (N := some 28) (v := ?_) (a' := ?_) #[true, false, false, false, false, false, false, false, false] rfl rfl (any_of HT_.out (by kernel_rfl)) (fun _ _ _ h => h) (Or.inl ⟨by rfl, ?_⟩) ?_ ?_
         rotate_left
         ·
          intro w'
          go_simp
          with_reducible rfl
         rotate_left
         ·
          simp only [Act.put, List.setIfInBounds_toArray, List.set_cons_zero, List.set_cons_succ, i64_w, i32_w]
          rfl
         refine pure_ (i := 1) (N := some 29) (v := ?_) (a' := ?_) #[true, true, false, false, false, false, false, false, false] rfl rfl (any_of HT_.out (by kernel_rfl)) (fun _ _ _ h => h) (Or.inl ⟨by rfl, ?_⟩) ?_ ?_
         rotate_left
         ·
          intro w'
          go_simp
          with_reducible rfl
         rotate_left
         ·
          simp only [Act.put, List.setIfInBounds_toArray, List.set_cons_zero, List.set_cons_succ, i64_w, i32_w]
          rfl
         refine pure_ (i := 2) (N := some 30) (v := ?_) (a' := ?_) #[true, true, true, false, false, false, false, false, false] rfl rfl (any_of HT_.out (by kernel_rfl)) (fun _ _ _ h => h) (Or.inl ⟨by rfl, ?_⟩) ?_ ?_
         rotate_left
         ·
          intro w'
          go_simp
          with_reducible rfl
         rotate_left
         ·
          simp only [Act.put, List.setIfInBounds_toArray, List.set_cons_zero, List.set_cons_succ, i64_w, i32_w]
          rfl
         refine pure_ (i := 3) (N := some 31) (v := ?_) (a' := ?_) #[true, true, true, true, false, false, false, false, false] rfl rfl (any_of HT_.out (by kernel_rfl)) (fun _ _ _ h => h) (Or.inl ⟨by rfl, ?_⟩) ?_ ?_
         rotate_left
         ·
          intro w'
          go_simp
          with_reducible rfl
         rotate_left
         ·
          simp only [Act.put, List.setIfInBounds_toArray, List.set_cons_zero, List.set_cons_succ, i64_w, i32_w]
          rfl
         refine pure_ (i := 4) (N := some 32) (v := ?_) (a' := ?_) #[true, true, true, true, true, false, false, false, false] rfl rfl (any_of HT_.out (by kernel_rfl)) (fun _ _ _ h => h) (Or.inl ⟨by rfl, ?_⟩) ?_ ?_
         rotate_left
         ·
          intro w'
          go_simp
          with_reducible rfl
         rotate_left
         ·
          simp only [Act.put, List.setIfInBounds_toArray, List.set_cons_zero, List.set_cons_succ, i64_w, i32_w]
          rfl
         refine pure_ (i := 5) (N := some 33) (v := ?_) (a' := ?_) #[true, true, true, true, true, true, false, false, false] rfl rfl (any_of HT_.out (by kernel_rfl)) (fun _ _ _ h => h) (Or.inl ⟨by rfl, ?_⟩) ?_ ?_
         rotate_left
         ·
          intro w'
          go_simp
          with_reducible rfl
         rotate_left
         ·
          simp only [Act.put, List.setIfInBounds_toArray, List.set_cons_zero, List.set_cons_succ, i64_w, i32_w]
          rfl
         refine pure_ (i := 6) (N := some 34) (v := ?_) (a' := ?_) #[true, true, true, true, true, true, true, false, false] rfl rfl (any_of HT_.out (by kernel_rfl)) (fun _ _ _ h => h) (Or.inl ⟨by rfl, ?_⟩) ?_ ?_
         rotate_left
         ·
          intro w'
          go_simp
          with_reducible rfl
         rotate_left
         ·
          simp only [Act.put, List.setIfInBounds_toArray, List.set_cons_zero, List.set_cons_succ, i64_w, i32_w]
          rfl
         refine one_ (i := 7) (N := some 8) #[true, true, true, true, true, true, true, true, false] rfl rfl (one_of HT_.out (by kernel_rfl)) (by decide) (fun K hK => ?_)
         refine box_step ?hg (N := 8) ?hd (cs := #[.int .i64 0, .int .i64 0]) (t := 37) ?hr ?_; (case hd => rfl); (case hg => rfl); (case hr => first | (go_simp; done) | (go_simp; rfl))
         intro qe hg qL hbox hb
         have qc := Aside0.mk (hbox); have qv := Aside0.mk ((by rw [hg]; exact (bz_ HB) : w.heap.size ≤ qe)); have qw := Aside0.mk ((by rw [hg]; exact (bz_ HB) : w.heap.size ≤ qe)); replace HB := bS_ HB hb; have qf := Aside0.mk ((nl_ qa hg : qd ≠ qe)); have qg := Aside0.mk ((ng_ qa hg : qe ≠ qd)); replace qa := kB_ qa hb; clear hb hbox hg
         refine hK.out _ _ trivial (fun hHeld => ?_)
         clear hK K
         refine norm_ (a' := ?_) ?_ ?_
         rotate_left
         ·
          show Act.put _ (some 8) _ = _
          simp only [Act.put, List.setIfInBounds_toArray, List.set_cons_zero, List.set_cons_succ, i64_w, i32_w]
          rfl
         refine one_ (i := 8) (N := none) #[true, true, true, true, true, true, true, true, true] rfl rfl (one_of HT_.out (by kernel_rfl)) (by decide) (fun K hK => ?_)
         have hs27 : qL.cell? ⟨qe, 0, none⟩ = some (.int .i64 0) := bc_ qc 0
         have hfs27 := blk_frozen qc.out 0
         have hns27_0 := qf.out
         have hms27_0 := qg.out
         have hs28 : qL.cell? ⟨qe, 1, none⟩ = some (.int .i64 0) := bc_ qc 1
         have hfs28 := blk_frozen qc.out 1
         have hns28_0 := qf.out
         have hms28_0 := qg.out
         refine skip_ (w1 := ?_) (by rfl) rfl ?_ ?_
         rotate_left
         ·
          go_simp
          rfl
         refine hK.out _ _ trivial (fun hHeld => ?_)
         clear hK K
         refine done_ (done_of HT_.out (by kernel_rfl)) ?_
         have q0 := qg.out
         have q1 := qf.out
         have qM : qL.cell? ⟨qe, 0, none⟩ = some (.int .i64 0) := bc_ qc 0
         have qN : qL.cell? ⟨qe, 1, none⟩ = some (.int .i64 0) := bc_ qc 1
         have qO := blk_frozen qc.out 0
         have qP := blk_frozen qc.out 1
         try go_wp2_with (first | ((with_reducible refine gate_callee (f := 83) rfl ?_); refine goesL_ (some 36) rfl rfl Try.func83 (by kernel_rfl) rfl #[.agg #[.int .i64 (wrap64 (Int.tdiv qh qb)), .int .i64 (wrap64 (Int.tdiv qi qb))]] rfl (by (try simp only [List.map_toArray, List.map_cons, List.map_nil]); first | done | rfl | (simp only [List.length_drop, List.length_take]; rfl)) ?_; (with_reducible refine (spec_IsRatio.calls k2 (wrap64 (Int.tdiv qh qb)) (wrap64 (Int.tdiv qi qb)) false _ A12.out).mono ?_); rintro e q2 ⟨rfl, hb⟩; refine ⟨_, rfl, ?_⟩; replace qa := Aside0.mk (blk_below (g := qd) (o := .cells #[.int .i64 0, .int .i64 0] 37 (0, 0)) (kf_ qa) hb); replace qc := Aside0.mk (blk_below (g := qe) (o := .cells #[.int .i64 (wrap64 (Int.tdiv qh qb)), .int .i64 (wrap64 (Int.tdiv qi qb))] 37 (0, 0)) (by (with_reducible repeat (first | refine blk_drewN ?_ _ | refine blk_drew ?_ | refine blk_alloc ?_ _)); refine blk_put (cs := #[.int .i64 (wrap64 (Int.tdiv qh qb)), .int .i64 0]) ?_ 1 _ rfl; (with_reducible repeat (first | refine blk_drewN ?_ _ | refine blk_drew ?_ | refine blk_alloc ?_ _)); refine blk_put (cs := #[.int .i64 0, .int .i64 0]) ?_ 0 _ rfl; (with_reducible repeat (first | refine blk_drewN ?_ _ | refine blk_drew ?_ | refine blk_alloc ?_ _)); exact qc.out) hb); replace HB := bS_ HB hb; (try clear hb); (try clear hb2); (try clear hk); (try clear hi); have qQ : q2.cell? ⟨qd, 0, none⟩ = some (.int .i64 0) := bc_ qa 0; have qR : q2.cell? ⟨qd, 1, none⟩ = some (.int .i64 0) := bc_ qa 1; have qS := blk_frozen qa.out 0; have qT := blk_frozen qa.out 1))
         refine bodyPost_ret (results_cell_row rfl _ _ qd 37 #[.int .i64 0, .int .i64 0] (0, 0) _ rfl (by (with_reducible repeat (first | refine blk_drewN ?_ _ | refine blk_drew ?_ | refine blk_alloc ?_ _)); refine blk_put (cs := #[.int .i64 0, .int .i64 0]) ?_ 1 _ rfl; (with_reducible repeat (first | refine blk_drewN ?_ _ | refine blk_drew ?_ | refine blk_alloc ?_ _)); refine blk_put (cs := #[.int .i64 0, .int .i64 0]) ?_ 0 _ rfl; (with_reducible repeat (first | refine blk_drewN ?_ _ | refine blk_drew ?_ | refine blk_alloc ?_ _)); exact qa.out) Try.underlying37 rfl (by kernel_rfl)) rfl ?_
         exact ⟨by first | rfl | (simp [errW_none, errW_some] <;> rfl) | (simp [*, errW_none, errW_some] <;> rfl), bb_ HB⟩
      ·
       rw [if_neg c9] at H
       have qU : (qj == 0) = false := beq_eq_false_iff_ne.mpr c9
       have qV : (qj != 0) = true := bne_iff_ne.mpr c9
       have H' := Aside0.mk H
       clear H
       try go_wp2
       replace qa := Aside0.mk (blk_drew qa.out); replace HB := Aside0.mk (below_drew1 HB.out)
       refine start_ (n := 6) (S := fun w' => True) (ds := []) #[false, false, false, false, false, false] (by kernel_rfl) rfl rfl trivial (fun hHeld => ?_)
       generalize wr.drew = q7 at qa HB hHeld ⊢
       refine pure_ (i := 0) (N := some 22) (v := ?_) (a' := ?_) #[true, false, false, false, false, false] rfl rfl (by kernel_rfl) (fun _ _ _ h => h) (Or.inl ⟨by rfl, ?_⟩) ?_ ?_
       rotate_left
       ·
        intro w'
        go_simp
        with_reducible rfl
       rotate_left
       ·
        simp only [Act.put, List.setIfInBounds_toArray, List.set_cons_zero, List.set_cons_succ, i64_w, i32_w]
        rfl
       refine pure_ (i := 1) (N := some 23) (v := ?_) (a' := ?_) #[true, true, false, false, false, false] rfl rfl (by kernel_rfl) (fun _ _ _ h => h) (Or.inl ⟨by rfl, ?_⟩) ?_ ?_
       rotate_left
       ·
        intro w'
        go_simp
        with_reducible rfl
       rotate_left
       ·
        simp only [Act.put, List.setIfInBounds_toArray, List.set_cons_zero, List.set_cons_succ, i64_w, i32_w]
        rfl
       refine pure_ (i := 2) (N := some 24) (v := ?_) (a' := ?_) #[true, true, true, false, false, false] rfl rfl (by kernel_rfl) (fun _ _ _ h => h) (Or.inl ⟨by rfl, ?_⟩) ?_ ?_
       rotate_left
       ·
        intro w'
        go_simp
        with_reducible rfl
       rotate_left
       ·
        simp only [Act.put, List.setIfInBounds_toArray, List.set_cons_zero, List.set_cons_succ, i64_w, i32_w]
        rfl
       refine pure_ (i := 3) (N := some 25) (v := ?_) (a' := ?_) #[true, true, true, true, false, false] rfl rfl (by kernel_rfl) (fun _ _ _ h => h) (Or.inl ⟨by rfl, ?_⟩) ?_ ?_
       rotate_left
       ·
        intro w'
        go_simp
        with_reducible rfl
       rotate_left
       ·
        simp only [Act.put, List.setIfInBounds_toArray, List.set_cons_zero, List.set_cons_succ, i64_w, i32_w]
        rfl
       refine pure_ (i := 4) (N := some 5) (v := ?_) (a' := ?_) #[true, true, true, true, true, false] rfl rfl (by kernel_rfl) (fun _ _ _ h => h) (Or.inl ⟨by rfl, ?_⟩) ?_ ?_
       rotate_left
       ·
        intro w'
        go_simp
        with_reducible rfl
       rotate_left
       ·
        simp only [Act.put, List.setIfInBounds_toArray, List.set_cons_zero, List.set_cons_succ, i64_w, i32_w]
        rfl
       refine pure_ (i := 5) (N := some 6) (v := ?_) (a' := ?_) #[true, true, true, true, true, true] rfl rfl (by kernel_rfl) (fun _ _ _ h => h) (Or.inl ⟨by rfl, ?_⟩) ?_ ?_
       rotate_left
       ·
        intro w'
        go_simp
        with_reducible rfl
       rotate_left
       ·
        simp only [Act.put, List.setIfInBounds_toArray, List.set_cons_zero, List.set_cons_succ, i64_w, i32_w]
        rfl
       refine done_ (by kernel_rfl) ?_
       try go_wp2
       go_roundg k2
       case measure => have := HJ5.out; have := HK2.out; omega
       case rel => exact ⟨(qj), (Int.tmod qk qj), (by first | rfl | (simp; done) | (simp [*]; done)), (by first | rfl | (simp; done) | (simp [*]; done)), H', ⟨by have := HJ5.out; have := HK2.out; omega⟩, ⟨kf_ qa⟩, ⟨bb_ HB⟩⟩

/-! ### spec_MakeRatio: function 43 -/
def spec_MakeRatio.f (k : Nat) (a0 : Int) (a1 : Int) : Option (Int × Int) := (spec_IsNumber.f a0).bind fun qe => (if qe = true then ((spec_IsNumber.f a1).bind fun qd => (if qd = true then ((spec_l2Make.f k a0 a1).bind fun qc => (some (qc.1, qc.2))) else (some (0, 0)))) else (some (0, 0)))
theorem spec_MakeRatio.mono : ∀ a0 a1 k, LeO (spec_MakeRatio.f k a0 a1) (spec_MakeRatio.f (k + 1) a0 a1) := by
 intro a0 a1 k
 unfold spec_MakeRatio.f
 repeat' first
   | (with_reducible exact spec_l2Make.mono _ _ _)
   | (with_reducible exact LeO.refl _)
   | (with_reducible exact LeO.none _)
   | (with_reducible refine LeO.ite ?_ ?_)
   | (with_reducible refine LeO.bind ?_ (fun _ => ?_))
   | exact spec_l2Make.mono _ _ _
   | exact LeO.none _
   | refine LeO.ite ?_ ?_
   | refine LeO.bind ?_ (fun _ => ?_)
set_option maxHeartbeats 8000000 in
set_option maxRecDepth 100000 in
theorem spec_MakeRatio.calls (k : Nat) (a0 : Int) (a1 : Int) (r1 : Int) (r2 : Int) (w : World) (h : spec_MakeRatio.f k a0 a1 = some (r1, r2)) :
  Calls Try.prog 43 #[.int .i64 a0, .int .i64 a1] w fun e w' => e = .returned (.agg #[.int .i64 r1, .int .i64 r2]) ∧ Below w.heap.size w w' := by
 have hu37 := Try.underlying37
 have HB := Aside0.mk (Below.refl w.heap.size w)
 have H : ((spec_IsNumber.f a0).bind fun qe => (if qe = true then ((spec_IsNumber.f a1).bind fun qd => (if qd = true then ((spec_l2Make.f k a0 a1).bind fun qc => (some (qc.1, qc.2))) else (some (0, 0)))) else (some (0, 0)))) = some (r1, r2) := h
 clear h
 replace H := Option.bind_eq_some_iff.mp H
 obtain ⟨qe, A30, H⟩ := H
 replace H : (if qe = true then ((spec_IsNumber.f a1).bind fun qd => (if qd = true then ((spec_l2Make.f k a0 a1).bind fun qc => (some (qc.1, qc.2))) else (some (0, 0)))) else (some (0, 0))) = some (r1, r2) := H
 have A3 := Aside0.mk A30
 clear A30
 by_cases c4 : qe = true
 ·
  subst c4
  have H1 : ((spec_IsNumber.f a1).bind fun qd => (if qd = true then ((spec_l2Make.f k a0 a1).bind fun qc => (some (qc.1, qc.2))) else (some (0, 0)))) = some (r1, r2) := by rw [if_pos rfl] at H; exact H
  clear H
  have H := H1
  clear H1
  replace H := Option.bind_eq_some_iff.mp H
  obtain ⟨qd, A50, H⟩ := H
  replace H : (if qd = true then ((spec_l2Make.f k a0 a1).bind fun qc => (some (qc.1, qc.2))) else (some (0, 0))) = some (r1, r2) := H
  have A5 := Aside0.mk A50
  clear A50
  by_cases c6 : qd = true
  ·
   subst c6
   have H1 : ((spec_l2Make.f k a0 a1).bind fun qc => (some (qc.1, qc.2))) = some (r1, r2) := by rw [if_pos rfl] at H; exact H
   clear H
   have H := H1
   clear H1
   replace H := Option.bind_eq_some_iff.mp H
   obtain ⟨⟨qg, qj⟩, A70, H⟩ := H
   replace H : (some (qg, qj)) = some (r1, r2) := H
   have A7 := Aside0.mk A70
   clear A70
   simp only [Option.some.injEq, Prod.mk.injEq] at H
   obtain ⟨rfl, rfl⟩ := H
   go_enter Try.func43, Try.ntmps43
   go_wp2_with (first | ((with_reducible refine gate_dst (N := 4) rfl ?_); refine box_event ?hg (N := 4) ?hd (cs := #[.int .i64 0, .int .i64 0]) (t := 37) ?hr ?_; (case hd => rfl); (case hg => rfl); (case hr => first | (go_simp; done) | (go_simp; rfl)); intro qb hg w8 hbox hb; have qa := Aside0.mk (hbox); have qh := Aside0.mk ((by rw [hg]; exact (bz_ HB) : w.heap.size ≤ qb)); have qi := Aside0.mk ((by rw [hg]; exact (bz_ HB) : w.heap.size ≤ qb)); replace HB := bS_ HB hb; clear hb hbox hg) | ((with_reducible refine gate_callee (f := 73) rfl ?_); refine goesL_ (some 6) rfl rfl Try.func73 (by kernel_rfl) rfl #[.int .i64 a0] rfl (by (try simp only [List.map_toArray, List.map_cons, List.map_nil]); first | done | rfl | (simp only [List.length_drop, List.length_take]; rfl)) ?_; (with_reducible refine (spec_IsNumber.calls a0 true _ A3.out).mono ?_); rintro e w' ⟨rfl, ⟨nd, rfl⟩⟩; refine ⟨_, rfl, ?_⟩; (try (rw [drewN_self w8]; generalize hq_ : World.drewN w8 _ = w8; have n0_ : Aside0 (w8.heap[qb]? = some (.cells #[.int .i64 0, .int .i64 0] 37 (0, 0))) := ⟨by rw [← hq_]; exact (kf_ qa)⟩; have n1_ : Aside0 (Below w.heap.size w w8) := ⟨by rw [← hq_]; exact (bb_ HB)⟩; clear qa HB hq_; have qa := n0_; have HB := n1_; clear n0_ n1_))) | (go_at_call 73; (with_reducible refine (spec_IsNumber.calls a1 true _ A5.out).mono ?_); rintro e w' ⟨rfl, ⟨nd, rfl⟩⟩; (try (rw [drewN_self w8]; generalize hq_ : World.drewN w8 _ = w8; have n0_ : Aside0 (w8.heap[qb]? = some (.cells #[.int .i64 0, .int .i64 0] 37 (0, 0))) := ⟨by rw [← hq_]; exact (kf_ qa)⟩; have n1_ : Aside0 (Below w.heap.size w w8) := ⟨by rw [← hq_]; exact (bb_ HB)⟩; clear qa HB hq_; have qa := n0_; have HB := n1_; clear n0_ n1_))) | ((with_reducible refine gate_callee (f := 75) rfl ?_); refine goesL_ (some 16) rfl rfl Try.func75 (by kernel_rfl) rfl #[.int .i64 a0, .int .i64 a1] rfl (by (try simp only [List.map_toArray, List.map_cons, List.map_nil]); first | done | rfl | (simp only [List.length_drop, List.length_take]; rfl)) ?_; (with_reducible refine (spec_l2Make.calls k a0 a1 qg qj _ A7.out).mono ?_); rintro e w9 ⟨rfl, hb⟩; refine ⟨_, rfl, ?_⟩; replace qa := kB_ qa hb; replace HB := bS_ HB hb; (try clear hb); (try clear hb2); (try clear hk); (try clear hi); have ql : w9.cell? ⟨qb, 0, none⟩ = some (.int .i64 0) := bc_ qa 0; have qm : w9.cell? ⟨qb, 1, none⟩ = some (.int .i64 0) := bc_ qa 1; have qn := blk_frozen qa.out 0; have qo := blk_frozen qa.out 1))
   refine bodyPost_ret (results_cell_row rfl _ _ qb 37 #[.int .i64 qg, .int .i64 qj] (0, 0) _ rfl (by (with_reducible repeat (first | refine blk_drewN ?_ _ | refine blk_drew ?_ | refine blk_alloc ?_ _)); refine blk_put (cs := #[.int .i64 qg, .int .i64 0]) ?_ 1 _ rfl; (with_reducible repeat (first | refine blk_drewN ?_ _ | refine blk_drew ?_ | refine blk_alloc ?_ _)); refine blk_put (cs := #[.int .i64 0, .int .i64 0]) ?_ 0 _ rfl; (with_reducible repeat (first | refine blk_drewN ?_ _ | refine blk_drew ?_ | refine blk_alloc ?_ _)); exact qa.out) Try.underlying37 rfl (by kernel_rfl)) rfl ?_
   exact ⟨by first | rfl | (simp [errW_none, errW_some] <;> rfl) | (simp [*, errW_none, errW_some] <;> rfl), bb_ HB⟩
  ·
   replace c6 := Bool.eq_false_iff.mpr c6
   subst c6
   have H1 : (some (0, 0)) = some (r1, r2) := by rw [if_neg (show ¬ (false = true) by decide)] at H; exact H
   clear H
   have H := H1
   clear H1
   simp only [Option.some.injEq, Prod.mk.injEq] at H
   obtain ⟨rfl, rfl⟩ := H
   go_enter Try.func43, Try.ntmps43
   go_wp2_with (first | ((with_reducible refine gate_dst (N := 4) rfl ?_); refine box_event ?hg (N := 4) ?hd (cs := #[.int .i64 0, .int .i64 0]) (t := 37) ?hr ?_; (case hd => rfl); (case hg => rfl); (case hr => first | (go_simp; done) | (go_simp; rfl)); intro qb hg qf hbox hb; have qa := Aside0.mk (hbox); have qh := Aside0.mk ((by rw [hg]; exact (bz_ HB) : w.heap.size ≤ qb)); have qi := Aside0.mk ((by rw [hg]; exact (bz_ HB) : w.heap.size ≤ qb)); replace HB := bS_ HB hb; clear hb hbox hg) | ((with_reducible refine gate_callee (f := 73) rfl ?_); refine goesL_ (some 6) rfl rfl Try.func73 (by kernel_rfl) rfl #[.int .i64 a0] rfl (by (try simp only [List.map_toArray, List.map_cons, List.map_nil]); first | done | rfl | (simp only [List.length_drop, List.length_take]; rfl)) ?_; (with_reducible refine (spec_IsNumber.calls a0 true _ A3.out).mono ?_); rintro e w' ⟨rfl, ⟨nd, rfl⟩⟩; refine ⟨_, rfl, ?_⟩; (try (rw [drewN_self qf]; generalize hq_ : World.drewN qf _ = qf; have n0_ : Aside0 (qf.heap[qb]? = some (.cells #[.int .i64 0, .int .i64 0] 37 (0, 0))) := ⟨by rw [← hq_]; exact (kf_ qa)⟩; have n1_ : Aside0 (Below w.heap.size w qf) := ⟨by rw [← hq_]; exact (bb_ HB)⟩; clear qa HB hq_; have qa := n0_; have HB := n1_; clear n0_ n1_))) | (go_at_call 73; (with_reducible refine (spec_IsNumber.calls a1 false _ A5.out).mono ?_); rintro e w' ⟨rfl, ⟨nd, rfl⟩⟩; (try (rw [drewN_self qf]; generalize hq_ : World.drewN qf _ = qf; have n0_ : Aside0 (qf.heap[qb]? = some (.cells #[.int .i64 0, .int .i64 0] 37 (0, 0))) := ⟨by rw [← hq_]; exact (kf_ qa)⟩; have n1_ : Aside0 (Below w.heap.size w qf) := ⟨by rw [← hq_]; exact (bb_ HB)⟩; clear qa HB hq_; have qa := n0_; have HB := n1_; clear n0_ n1_)); have qp : qf.cell? ⟨qb, 0, none⟩ = some (.int .i64 0) := bc_ qa 0; have qq : qf.cell? ⟨qb, 1, none⟩ = some (.int .i64 0) := bc_ qa 1; have qr := blk_frozen qa.out 0; have qs := blk_frozen qa.out 1))
   refine bodyPost_ret (results_cell_row rfl _ _ qb 37 #[.int .i64 0, .int .i64 0] (0, 0) _ rfl (by (with_reducible repeat (first | refine blk_drewN ?_ _ | refine blk_drew ?_ | refine blk_alloc ?_ _)); refine blk_put (cs := #[.int .i64 0, .int .i64 0]) ?_ 1 _ rfl; (with_reducible repeat (first | refine blk_drewN ?_ _ | refine blk_drew ?_ | refine blk_alloc ?_ _)); refine blk_put (cs := #[.int .i64 0, .int .i64 0]) ?_ 0 _ rfl; (with_reducible repeat (first | refine blk_drewN ?_ _ | refine blk_drew ?_ | refine blk_alloc ?_ _)); exact qa.out) Try.underlying37 rfl (by kernel_rfl)) rfl ?_
   exact ⟨by first | rfl | (simp [errW_none, errW_some] <;> rfl) | (simp [*, errW_none, errW_some] <;> rfl), bb_ HB⟩
 ·
  replace c4 := Bool.eq_false_iff.mpr c4
  subst c4
  have H1 : (some (0, 0)) = some (r1, r2) := by rw [if_neg (show ¬ (false = true) by decide)] at H; exact H
  clear H
  have H := H1
  clear H1
  simp only [Option.some.injEq, Prod.mk.injEq] at H
  obtain ⟨rfl, rfl⟩ := H
  go_enter Try.func43, Try.ntmps43
  go_wp2_with (first | ((with_reducible refine gate_dst (N := 4) rfl ?_); refine box_event ?hg (N := 4) ?hd (cs := #[.int .i64 0, .int .i64 0]) (t := 37) ?hr ?_; (case hd => rfl); (case hg => rfl); (case hr => first | (go_simp; done) | (go_simp; rfl)); intro qb hg qk hbox hb; have qa := Aside0.mk (hbox); have qh := Aside0.mk ((by rw [hg]; exact (bz_ HB) : w.heap.size ≤ qb)); have qi := Aside0.mk ((by rw [hg]; exact (bz_ HB) : w.heap.size ≤ qb)); replace HB := bS_ HB hb; clear hb hbox hg) | ((with_reducible refine gate_callee (f := 73) rfl ?_); refine goesL_ (some 6) rfl rfl Try.func73 (by kernel_rfl) rfl #[.int .i64 a0] rfl (by (try simp only [List.map_toArray, List.map_cons, List.map_nil]); first | done | rfl | (simp only [List.length_drop, List.length_take]; rfl)) ?_; (with_reducible refine (spec_IsNumber.calls a0 false _ A3.out).mono ?_); rintro e w' ⟨rfl, ⟨nd, rfl⟩⟩; refine ⟨_, rfl, ?_⟩; (try (rw [drewN_self qk]; generalize hq_ : World.drewN qk _ = qk; have n0_ : Aside0 (qk.heap[qb]? = some (.cells #[.int .i64 0, .int .i64 0] 37 (0, 0))) := ⟨by rw [← hq_]; exact (kf_ qa)⟩; have n1_ : Aside0 (Below w.heap.size w qk) := ⟨by rw [← hq_]; exact (bb_ HB)⟩; clear qa HB hq_; have qa := n0_; have HB := n1_; clear n0_ n1_)); have qt : qk.cell? ⟨qb, 0, none⟩ = some (.int .i64 0) := bc_ qa 0; have qu : qk.cell? ⟨qb, 1, none⟩ = some (.int .i64 0) := bc_ qa 1; have qv := blk_frozen qa.out 0; have qw := blk_frozen qa.out 1))
  refine bodyPost_ret (results_cell_row rfl _ _ qb 37 #[.int .i64 0, .int .i64 0] (0, 0) _ rfl (by (with_reducible repeat (first | refine blk_drewN ?_ _ | refine blk_drew ?_ | refine blk_alloc ?_ _)); refine blk_put (cs := #[.int .i64 0, .int .i64 0]) ?_ 1 _ rfl; (with_reducible repeat (first | refine blk_drewN ?_ _ | refine blk_drew ?_ | refine blk_alloc ?_ _)); refine blk_put (cs := #[.int .i64 0, .int .i64 0]) ?_ 0 _ rfl; (with_reducible repeat (first | refine blk_drewN ?_ _ | refine blk_drew ?_ | refine blk_alloc ?_ _)); exact qa.out) Try.underlying37 rfl (by kernel_rfl)) rfl ?_
  exact ⟨by first | rfl | (simp [errW_none, errW_some] <;> rfl) | (simp [*, errW_none, errW_some] <;> rfl), bb_ HB⟩

end Go.Proofs.Ytohoibekddhneaa.PFnMixed
