/- The functions that the law FnExactFixVariable reaches, each as a Lean function with the same answers, and the proof that the call comes to exactly these: turned by program out of the printed texts. No condition but those that each theorem names. -/
import Derived.Test.YtaijkhabcidagaaQFnExactFixVariablex0
import Derived.Test.YtaijkhabcidagaaQFnExactFixVariablex1
namespace Go.Proofs.Ytaijkhabcidagaa.PFnExactFixVariable
open Go.RowKit Go.Proofs.YtaijkhabcidagaaW.PrintWords Go.Proofs.YtaijkhabcidagaaW.PrintLast Go.Proofs.YtaijkhabcidagaaW.PrintMore
attribute [local go_sem] max2_int min2_int max_two min_two max_three min_three max_four min_four   -- for this text's walks alone
set_option linter.unusedVariables false
set_option linter.unusedSimpArgs false

/-! ### impl_makeOf: function 59 -/
mutual
def impl_makeOf.j0 : Nat → List Int → Int → Bool → Int → Option (List Int × Int × Bool × Bool)
 | 0, _, _, _, _ => none
 | k + 1, x0, x1, x2, x8 => if 0 ≤ (x0.length : Int) then (if ((x0.length : Int) : Int).toNat ≤ 35184372088832 then (if x8 = 0 then (none) else (impl_makeOf.l0 k x8 x0 (x0.length : Int) 0 (List.replicate ((x0.length : Int) : Int).toNat 0) (wrap64 (Int.tdiv x1 x8)) x2)) else (none)) else (none)
def impl_makeOf.l0 : Nat → Int → List Int → Int → Int → List Int → Int → Bool → Option (List Int × Int × Bool × Bool)
 | 0, _, _, _, _, _, _, _ => none
 | k + 1, x8, x26, x27, x28, x194000, x194001, x194002 => if x28 < x27 then (if 0 ≤ x28 then (if x28 < (x26.length : Int) then (if x8 = 0 then (none) else (if x28 < (x194000.length : Int) then (impl_makeOf.l0 k x8 x26 x27 (wrap64 (x28 + 1)) (x194000.set (x28 : Int).toNat (wrap64 (Int.tdiv (rd x26 x28) x8))) x194001 x194002) else (none))) else (none)) else (none)) else ((impl_IsAtom.f k x194000 x194001 x194002).bind fun qt => (if qt = true then (some (x194000, x194001, x194002, true)) else (some (([] : List Int), 0, false, false))))
end
def impl_makeOf.f (k : Nat) (l0 : List Int) (a1 : Int) (a2 : Bool) : Option (List Int × Int × Bool × Bool) := (impl_divisorOf.f k l0).bind fun qn => ((impl_commonDivisor.f k qn a1).bind fun qk => (if qk = 0 then (impl_makeOf.j0 k l0 a1 a2 1) else (impl_makeOf.j0 k l0 a1 a2 qk)))
theorem impl_makeOf.mono_l : ∀ k, (∀ y0 y1 y2 y3, LeO (impl_makeOf.j0 k y0 y1 y2 y3) (impl_makeOf.j0 (k + 1) y0 y1 y2 y3)) ∧ (∀ y0 y1 y2 y3 y4 y5 y6, LeO (impl_makeOf.l0 k y0 y1 y2 y3 y4 y5 y6) (impl_makeOf.l0 (k + 1) y0 y1 y2 y3 y4 y5 y6))
 | 0 => ⟨fun _ _ _ _ r h => by simp [impl_makeOf.j0] at h, fun _ _ _ _ _ _ _ r h => by simp [impl_makeOf.l0] at h⟩
 | k + 1 => by
  obtain ⟨ih0, ih1⟩ := impl_makeOf.mono_l k
  refine ⟨?_, ?_⟩
  ·
   intro y0 y1 y2 y3
   unfold impl_makeOf.j0
   repeat' first
   | (with_reducible exact ih0 _ _ _ _)
   | (with_reducible exact ih1 _ _ _ _ _ _ _)
   | (with_reducible exact impl_IsAtom.mono _ _ _ _)
   | (with_reducible exact impl_commonDivisor.mono _ _ _)
   | (with_reducible exact impl_divisorOf.mono _ _)
   | (with_reducible exact LeO.refl _)
   | (with_reducible exact LeO.none _)
   | (with_reducible refine LeO.ite ?_ ?_)
   | (with_reducible refine LeO.bind ?_ (fun _ => ?_))
   | exact ih0 _ _ _ _
   | exact ih1 _ _ _ _ _ _ _
   | exact impl_IsAtom.mono _ _ _ _
   | exact impl_commonDivisor.mono _ _ _
   | exact impl_divisorOf.mono _ _
   | exact LeO.none _
   | refine LeO.ite ?_ ?_
   | refine LeO.bind ?_ (fun _ => ?_)
  ·
   intro y0 y1 y2 y3 y4 y5 y6
   unfold impl_makeOf.l0
   repeat' first
   | (with_reducible exact ih0 _ _ _ _)
   | (with_reducible exact ih1 _ _ _ _ _ _ _)
   | (with_reducible exact impl_IsAtom.mono _ _ _ _)
   | (with_reducible exact impl_commonDivisor.mono _ _ _)
   | (with_reducible exact impl_divisorOf.mono _ _)
   | (with_reducible exact LeO.refl _)
   | (with_reducible exact LeO.none _)
   | (with_reducible refine LeO.ite ?_ ?_)
   | (with_reducible refine LeO.bind ?_ (fun _ => ?_))
   | exact ih0 _ _ _ _
   | exact ih1 _ _ _ _ _ _ _
   | exact impl_IsAtom.mono _ _ _ _
   | exact impl_commonDivisor.mono _ _ _
   | exact impl_divisorOf.mono _ _
   | exact LeO.none _
   | refine LeO.ite ?_ ?_
   | refine LeO.bind ?_ (fun _ => ?_)
theorem impl_makeOf.mono : ∀ a0 a1 a2 k, LeO (impl_makeOf.f k a0 a1 a2) (impl_makeOf.f (k + 1) a0 a1 a2) := by
 intro a0 a1 a2 k
 obtain ⟨ih0, ih1⟩ := impl_makeOf.mono_l k
 unfold impl_makeOf.f
 repeat' first
   | (with_reducible exact ih0 _ _ _ _)
   | (with_reducible exact ih1 _ _ _ _ _ _ _)
   | (with_reducible exact impl_IsAtom.mono _ _ _ _)
   | (with_reducible exact impl_commonDivisor.mono _ _ _)
   | (with_reducible exact impl_divisorOf.mono _ _)
   | (with_reducible exact LeO.refl _)
   | (with_reducible exact LeO.none _)
   | (with_reducible refine LeO.ite ?_ ?_)
   | (with_reducible refine LeO.bind ?_ (fun _ => ?_))
   | exact ih0 _ _ _ _
   | exact ih1 _ _ _ _ _ _ _
   | exact impl_IsAtom.mono _ _ _ _
   | exact impl_commonDivisor.mono _ _ _
   | exact impl_divisorOf.mono _ _
   | exact LeO.none _
   | refine LeO.ite ?_ ?_
   | refine LeO.bind ?_ (fun _ => ?_)
def impl_makeOf.T4 : Bool × List (List Nat × List Nat) := (true, [([], []), ([0], [0]), ([1, 1], [1]), ([], []), ([], []), ([3, 4], [3, 4]), ([], []), ([2, 5, 6], [2, 5, 6]), ([], []), ([8, 7, 0, 1, 2, 3, 4, 5, 6, 7, 8], [7, 8])])
def impl_makeOf.B4 : List Nat := [0, 1, 3, 0, 0, 24, 0, 127, 0, 511]
theorem impl_makeOf.tab4 : rtab .any (opsOf Try.f59 4) = impl_makeOf.T4 := by kernel_rfl
theorem impl_makeOf.bits4 : waitsOk impl_makeOf.T4.2 impl_makeOf.B4 = true := by kernel_rfl
def impl_makeOf.T8 : Bool × List (List Nat × List Nat) := (true, [([], []), ([0], [0]), ([], []), ([], []), ([], []), ([3, 4], [3, 4]), ([1, 2, 0, 1, 2, 3, 4, 5], [1, 2]), ([6, 5, 0, 1, 2, 3, 4, 5], [5, 6])])
def impl_makeOf.B8 : List Nat := [0, 1, 0, 0, 0, 24, 63, 127]
theorem impl_makeOf.tab8 : rtab .any (opsOf Try.f59 8) = impl_makeOf.T8 := by kernel_rfl
theorem impl_makeOf.bits8 : waitsOk impl_makeOf.T8.2 impl_makeOf.B8 = true := by kernel_rfl
set_option maxHeartbeats 8000000 in
set_option maxRecDepth 100000 in
theorem impl_makeOf.calls (k : Nat) (A0 : Option Addr) (c0 : Nat) (l0 : List Int) (a1 : Int) (a2 : Bool) (r1 : List Int) (r2 : Int) (r3 : Bool) (r4 : Bool) (w : World) (hr0 : Kd.C (Kd.int .i64) w A0 l0.length l0) (hc0 : l0.length ≤ c0) (h : impl_makeOf.f k l0 a1 a2 = some (r1, r2, r3, r4)) :
  Calls Try.prog 59 #[.slice A0 l0.length c0, .int .i64 a1, .bool a2] w fun e w' => ∃ v0_ : Value, e = .returned (.tuple #[.agg #[v0_, .int .i64 r2, .bool r3], .bool r4]) ∧ Kd.R (Kd.int .i64) 3 w' w.heap.size (fun _ => True) v0_ r1 ∧ Below w.heap.size w w' := by
 have hu26 := Try.underlying26
 have HR0 := Aside0.mk hr0
 have HC0 := Aside0.mk hc0
 clear hr0 hc0
 have HB := Aside0.mk (Below.refl w.heap.size w)
 have H : ((impl_divisorOf.f k l0).bind fun qn => ((impl_commonDivisor.f k qn a1).bind fun qk => (if qk = 0 then (impl_makeOf.j0 k l0 a1 a2 1) else (impl_makeOf.j0 k l0 a1 a2 qk)))) = some (r1, r2, r3, r4) := h
 clear h
 replace H := Option.bind_eq_some_iff.mp H
 obtain ⟨qn, A40, H⟩ := H
 replace H : ((impl_commonDivisor.f k qn a1).bind fun qk => (if qk = 0 then (impl_makeOf.j0 k l0 a1 a2 1) else (impl_makeOf.j0 k l0 a1 a2 qk))) = some (r1, r2, r3, r4) := H
 have A4 := Aside0.mk A40
 clear A40
 replace H := Option.bind_eq_some_iff.mp H
 obtain ⟨qk, A50, H⟩ := H
 replace H : (if qk = 0 then (impl_makeOf.j0 k l0 a1 a2 1) else (impl_makeOf.j0 k l0 a1 a2 qk)) = some (r1, r2, r3, r4) := H
 have A5 := Aside0.mk A50
 clear A50
 have HC6 := Aside0.mk H
 clear H
 go_enter Try.func59, Try.ntmps59
 go_upto_if 17 with (first | ((with_reducible refine gate_dst (N := 6) rfl ?_); refine box_event ?hg (N := 6) ?hd (cs := #[.slice none 0 0, .int .i64 0, .bool false]) (t := 26) ?hr ?_; (case hd => rfl); (case hg => rfl); (case hr => first | (go_simp; done) | (go_simp; rfl)); intro qf hg w7 hbox hb; have qa := Aside0.mk (hbox); have zn := Aside0.mk ((by rw [hg]; exact (bz_ HB) : w.heap.size ≤ qf)); have zo := Aside0.mk ((by rw [hg]; exact (bz_ HB) : w.heap.size ≤ qf)); replace HB := bS_ HB hb; clear hb hbox hg) | ((with_reducible refine gate_callee (f := 83) rfl ?_); refine goesL_ (some 13) rfl rfl Try.func83 (by kernel_rfl) rfl #[.slice A0 l0.length c0] rfl (by (try simp only [List.map_toArray, List.map_cons, List.map_nil]); first | done | rfl | (simp only [List.length_drop, List.length_take]; rfl)) ?_; (with_reducible refine (impl_divisorOf.calls k _ _ l0 qn _ ?side1 ?side2 A4.out).mono ?_); (case side1 => exact cb_ HR0 HB); (case side2 => exact HC0.out); rintro e w' ⟨rfl, ⟨nd, rfl⟩⟩; refine ⟨_, rfl, ?_⟩) | ((with_reducible refine gate_callee (f := 82) rfl ?_); refine goesL_ (some 15) rfl rfl Try.func82 (by kernel_rfl) rfl #[.int .i64 qn, .int .i64 a1] rfl (by (try simp only [List.map_toArray, List.map_cons, List.map_nil]); first | done | rfl | (simp only [List.length_drop, List.length_take]; rfl)) ?_; (with_reducible refine (impl_commonDivisor.calls k qn a1 qk _ A5.out).mono ?_); rintro e w' ⟨rfl, ⟨nd, rfl⟩⟩; refine ⟨_, rfl, ?_⟩))
 (try simp only [Act.put, List.setIfInBounds_toArray, List.set_cons_zero, List.set_cons_succ])
 go_cut [8] (fun v8 wc => ∃ (kq : Nat) (qh : Int), v8 = .int .i64 qh ∧ Aside0 (impl_makeOf.j0 kq l0 a1 a2 qh = some (r1, r2, r3, r4)) ∧ Aside0 (kq ≤ k) ∧ Aside0 (wc.heap[qf]? = some (.cells #[(.slice none 0 0), .int .i64 0, .bool false] 26 (0, 0))) ∧ Aside0 (Below w.heap.size w wc))
 case first =>
  have H := HC6.out
  clear HC6
  by_cases c8 : qk = 0
  ·
   rw [if_pos c8] at H
   have qo : (qk == 0) = true := beq_iff_eq.mpr c8
   have qw : (qk != 0) = false := bne_eq_false_iff_eq.mpr c8
   clear c8
   (first | rw [qo] | (simp only [i64_w, i32_w]; rw [qo]) | skip)
   have H' := Aside0.mk H
   clear H
   go_wp2
   go_meet
   case rel => exact ⟨_, (1), (by first | rfl | (simp; done) | (simp [*]; done)), H', ⟨by first | omega | exact Nat.le_refl _⟩, ⟨kf_ qa⟩, ⟨bb_ HB⟩⟩
  ·
   rw [if_neg c8] at H
   have qo : (qk == 0) = false := beq_eq_false_iff_ne.mpr c8
   have qw : (qk != 0) = true := bne_iff_ne.mpr c8
   (first | rw [qo] | (simp only [i64_w, i32_w]; rw [qo]) | skip)
   have H' := Aside0.mk H
   clear H
   go_wp2
   go_meet
   case rel => exact ⟨_, (qk), (by first | rfl | (simp; done) | (simp [*]; done)), H', ⟨by first | omega | exact Nat.le_refl _⟩, ⟨kf_ qa⟩, ⟨bb_ HB⟩⟩
 case rest =>
  clear HC6
  try clear p2
  try clear c5
  try clear c8
  try clear qo
  try clear qw
  obtain ⟨kq, qh, rfl, HA, HJ5, qa, HB⟩ := hcut
  cases kq with
  | zero => exact absurd HA.out (by simp [impl_makeOf.j0])
  | succ kj5 =>
   have H := HA.out
   clear HA
   simp only [impl_makeOf.j0] at H
   by_cases c9 : 0 ≤ (l0.length : Int)
   ·
    rw [if_pos c9] at H
    have zd := eq_true c9
    have ze : decide (0 ≤ (l0.length : Int)) = true := decide_eq_true c9
    clear c9
    by_cases c10 : ((l0.length : Int) : Int).toNat ≤ 35184372088832
    ·
     rw [if_pos c10] at H
     have qC := eq_true c10
     have qD : decide (((l0.length : Int) : Int).toNat ≤ 35184372088832) = true := decide_eq_true c10
     clear c10
     obtain ⟨y190, hy190⟩ : ∃ y_ : List Int, y_ = (List.replicate ((l0.length : Int) : Int).toNat 0) := ⟨_, rfl⟩
     replace H : (if qh = 0 then (none) else (impl_makeOf.l0 kj5 qh l0 (l0.length : Int) 0 y190 (wrap64 (Int.tdiv a1 qh)) a2)) = some (r1, r2, r3, r4) := by first | (rw [hy190]; with_reducible exact H) | (have H2_ := (Option.bind_some _ _).symm.trans H; rw [hy190]; with_reducible exact H2_) | (have H2_ := (Option.bind_some _ _).symm.trans H; with_reducible exact H2_) | with_reducible exact H | (rw [hy190]; exact H) | exact H
     have Ny190 := Aside0.mk hy190
     clear hy190
     by_cases c11 : qh = 0
     ·
      rw [if_pos c11] at H
      exact absurd H (by simp)
     ·
      rw [if_neg c11] at H
      have qE : (qh == 0) = false := beq_eq_false_iff_ne.mpr c11
      have qF : (qh != 0) = true := bne_iff_ne.mpr c11
      have H' := Aside0.mk H
      clear H
      try go_wp2
      replace qa := Aside0.mk (blk_drew qa.out); replace HB := Aside0.mk (below_drew1 HB.out)
      refine start_ (n := 10) (S := fun w' => True) (ds := []) #[false, false, false, false, false, false, false, false, false, false] (by kernel_rfl) rfl rfl trivial (fun hHeld => ?_); refine with_tabW impl_makeOf.tab4 impl_makeOf.bits4 (fun HT_ HW_ => ?_)
      generalize wc.drew = zB at qa HB hHeld ⊢
      refine pure_ (i := 0) (N := some 18) (v := ?_) (a' := ?_) #[true, false, false, false, false, false, false, false, false, false] rfl rfl (any_of HT_.out (by kernel_rfl)) (fun _ _ _ h => h) (Or.inl ⟨by rfl, ?_⟩) ?_ ?_
      rotate_left
      ·
       intro w'
       go_simp
       with_reducible rfl
      rotate_left
      ·
       simp only [Act.put, List.setIfInBounds_toArray, List.set_cons_zero, List.set_cons_succ, i64_w, i32_w]
       rfl
      refine pure_ (i := 1) (N := some 19) (v := ?_) (a' := ?_) #[true, true, false, false, false, false, false, false, false, false] rfl rfl (any_of HT_.out (by kernel_rfl)) (fun _ _ _ h => h) (Or.inl ⟨by rfl, ?_⟩) ?_ ?_
      rotate_left
      ·
       intro w'
       go_simp
       with_reducible rfl
      rotate_left
      ·
       simp only [Act.put, List.setIfInBounds_toArray, List.set_cons_zero, List.set_cons_succ, i64_w, i32_w]
       rfl
      refine pure_ (i := 3) (N := some 21) (v := ?_) (a' := ?_) #[true, true, false, true, false, false, false, false, false, false] rfl rfl (any_of HT_.out (by kernel_rfl)) (fun _ _ _ h => h) (Or.inl ⟨by rfl, ?_⟩) ?_ ?_
      rotate_left
      ·
       intro w'
       go_simp
       with_reducible rfl
      rotate_left
      ·
       simp only [Act.put, List.setIfInBounds_toArray, List.set_cons_zero, List.set_cons_succ, i64_w, i32_w]
       rfl
      refine pure_ (i := 4) (N := some 22) (v := ?_) (a' := ?_) #[true, true, false, true, true, false, false, false, false, false] rfl rfl (any_of HT_.out (by kernel_rfl)) (fun _ _ _ h => h) (Or.inl ⟨by rfl, ?_⟩) ?_ ?_
      rotate_left
      ·
       intro w'
       go_simp
       with_reducible rfl
      rotate_left
      ·
       simp only [Act.put, List.setIfInBounds_toArray, List.set_cons_zero, List.set_cons_succ, i64_w, i32_w]
       rfl
      refine pure_ (i := 5) (N := some 23) (v := ?_) (a' := ?_) #[true, true, false, true, true, true, false, false, false, false] rfl rfl (any_of HT_.out (by kernel_rfl)) (fun _ _ _ h => h) (Or.inl ⟨by rfl, ?_⟩) ?_ ?_
      rotate_left
      ·
       intro w'
       go_simp
       with_reducible rfl
      rotate_left
      ·
       simp only [Act.put, List.setIfInBounds_toArray, List.set_cons_zero, List.set_cons_succ, i64_w, i32_w]
       rfl
      refine pure_ (i := 6) (N := some 24) (v := ?_) (a' := ?_) #[true, true, false, true, true, true, true, false, false, false] rfl rfl (any_of HT_.out (by kernel_rfl)) (fun _ _ _ h => h) (Or.inl ⟨by rfl, ?_⟩) ?_ ?_
      rotate_left
      ·
       intro w'
       go_simp
       with_reducible rfl
      rotate_left
      ·
       simp only [Act.put, List.setIfInBounds_toArray, List.set_cons_zero, List.set_cons_succ, i64_w, i32_w]
       rfl
      refine join_ (σ := Value × Nat) 1 #[true, true, true, true, true, true, true, true, true, false] (fun s_ => [(20, s_.1), (9, .pointer (some ⟨s_.2, 0, none⟩)), (25, .agg #[s_.1, .int .i64 (wrap64 (Int.tdiv a1 qh)), .bool a2])]) (fun s_ w' => (Kd.R (Kd.int .i64) 3 w' w.heap.size (fun _ => True) s_.1 y190) ∧ (w'.heap[qf]? = some (.cells #[.slice none 0 0, .int .i64 0, .bool false] 26 (0, 0))) ∧ (w'.heap[s_.2]? = some (.cells #[.slice none 0 0, .int .i64 0, .bool false] 26 (0, 0))) ∧ (w.heap.size ≤ s_.2) ∧ (w.heap.size ≤ s_.2) ∧ (qf ≠ s_.2) ∧ (s_.2 ≠ qf) ∧ (Below w.heap.size w w')) ?_ ?_
      rotate_left
      ·
       intro hCont
       refine two_ (i := 2) (j := 8) (Ni := some 20) (Nj := some 9) #[true, true, true, true, true, true, true, false, false, false] #[true, true, false, true, true, true, true, false, true, false] rfl rfl rfl rfl (two_of HT_.out (by kernel_rfl)) (by decide) (by decide) (fun K hK => ?_) (fun K hK => ?_)
       ·
        skip
        refine Kd.R_make_step (Kd.int .i64) _ 3 (by rfl) (N := 20) rfl 22 _ _ rfl (l0.length : Int) rfl rfl Try.underlying22 (.int .i64 0) 8 info3 rfl (by decide) (by omega) 0 (ok := fun _ => True) (okp := fun _ => True) rfl (fun _ hk => hk) trivial (of_decide_eq_true (by first | (with_reducible assumption) | assumption)) (Nat.le_trans (Nat.mul_le_mul_right _ (of_decide_eq_true (by first | (with_reducible assumption) | assumption) : (l0.length : Int).toNat ≤ 35184372088832)) (by omega)) (Below.refl _ _) (Nat.le_refl _) ?_
        intro qx zz ho14 hb hg_ hnew_
        clear hg_ hnew_
        (first | rw [← Ny190.out] at ho14 | (simp only [Int.reduceToNat] at ho14; rw [← Ny190.out] at ho14))
        have ql := Aside0.mk (Kd.R_lower ho14 (bz_ HB)); replace qa := kB_ qa hb; replace HB := bS_ HB hb; clear hb ho14
        obtain ⟨zf, zg, eo15⟩ := Kd.R_slice ql.out
        (first | subst eo15 | (injection eo15 with f1_ f2_ f3_; have f4_ := f1_.symm; have f5_ := f3_.symm; clear f1_ f2_ f3_; subst f4_; subst f5_))
        refine hK.out _ _ trivial (fun hHeld => ?_)
        clear hK K
        refine norm_ (a' := ?_) ?_ ?_
        rotate_left
        ·
         show Act.put _ (some 20) _ = _
         simp only [Act.put, List.setIfInBounds_toArray, List.set_cons_zero, List.set_cons_succ, i64_w, i32_w]
         rfl
        refine pure_ (i := 7) (N := some 25) (v := ?_) (a' := ?_) #[true, true, true, true, true, true, true, true, false, false] rfl rfl (any_of HT_.out (by kernel_rfl)) (fun _ _ _ h => h) (Or.inl ⟨by rfl, ?_⟩) ?_ ?_
        rotate_left
        ·
         intro w'
         go_simp
         with_reducible rfl
        rotate_left
        ·
         simp only [Act.put, List.setIfInBounds_toArray, List.set_cons_zero, List.set_cons_succ, i64_w, i32_w]
         rfl
        refine one_ (i := 8) (N := some 9) #[true, true, true, true, true, true, true, true, true, false] rfl rfl (one_of HT_.out (by kernel_rfl)) (by decide) (fun K hK => ?_)
        refine box_step ?hg (N := 9) ?hd (cs := #[.slice none 0 0, .int .i64 0, .bool false]) (t := 26) ?hr ?_; (case hd => rfl); (case hg => rfl); (case hr => first | (go_simp; done) | (go_simp; rfl))
        intro qe hg zC hbox hb
        replace ql := rB_ ql hb; have qd := Aside0.mk (hbox); have qp := Aside0.mk ((by rw [hg]; exact (bz_ HB) : w.heap.size ≤ qe)); have qq := Aside0.mk ((by rw [hg]; exact (bz_ HB) : w.heap.size ≤ qe)); replace HB := bS_ HB hb; have qi := Aside0.mk ((nl_ qa hg : qf ≠ qe)); have qj := Aside0.mk ((ng_ qa hg : qe ≠ qf)); replace qa := kB_ qa hb; clear hb hbox hg
        refine hK.out _ _ trivial (fun hHeld => ?_)
        clear hK K
        refine norm_ (a' := ?_) ?_ ?_
        rotate_left
        ·
         show Act.put _ (some 9) _ = _
         simp only [Act.put, List.setIfInBounds_toArray, List.set_cons_zero, List.set_cons_succ, i64_w, i32_w]
         rfl
        exact norm_ (by simp only [putAll, Act.put, List.setIfInBounds_toArray, List.set_cons_zero, List.set_cons_succ]) (hCont (.slice zf y190.length zg, qe) _ ⟨(rm_ ql), (kf_ qa), (kf_ qd), qp.out, qq.out, qi.out, qj.out, (bb_ HB)⟩)
       ·
        skip
        refine box_step ?hg (N := 9) ?hd (cs := #[.slice none 0 0, .int .i64 0, .bool false]) (t := 26) ?hr ?_; (case hd => rfl); (case hg => rfl); (case hr => first | (go_simp; done) | (go_simp; rfl))
        intro qe hg zz hbox hb
        have qd := Aside0.mk (hbox); have qp := Aside0.mk ((by rw [hg]; exact (bz_ HB) : w.heap.size ≤ qe)); have qq := Aside0.mk ((by rw [hg]; exact (bz_ HB) : w.heap.size ≤ qe)); replace HB := bS_ HB hb; have qi := Aside0.mk ((nl_ qa hg : qf ≠ qe)); have qj := Aside0.mk ((ng_ qa hg : qe ≠ qf)); replace qa := kB_ qa hb; clear hb hbox hg
        refine hK.out _ _ trivial (fun hHeld => ?_)
        clear hK K
        refine norm_ (a' := ?_) ?_ ?_
        rotate_left
        ·
         show Act.put _ (some 9) _ = _
         simp only [Act.put, List.setIfInBounds_toArray, List.set_cons_zero, List.set_cons_succ, i64_w, i32_w]
         rfl
        refine one_ (i := 2) (N := some 20) #[true, true, true, true, true, true, true, false, true, false] rfl rfl (one_of HT_.out (by kernel_rfl)) (by decide) (fun K hK => ?_)
        refine Kd.R_make_step (Kd.int .i64) _ 3 (by rfl) (N := 20) rfl 22 _ _ rfl (l0.length : Int) rfl rfl Try.underlying22 (.int .i64 0) 8 info3 rfl (by decide) (by omega) 0 (ok := fun _ => True) (okp := fun _ => True) rfl (fun _ hk => hk) trivial (of_decide_eq_true (by first | (with_reducible assumption) | assumption)) (Nat.le_trans (Nat.mul_le_mul_right _ (of_decide_eq_true (by first | (with_reducible assumption) | assumption) : (l0.length : Int).toNat ≤ 35184372088832)) (by omega)) (Below.refl _ _) (Nat.le_refl _) ?_
        intro qx zD ho15 hb hg_ hnew_
        clear hg_ hnew_
        (first | rw [← Ny190.out] at ho15 | (simp only [Int.reduceToNat] at ho15; rw [← Ny190.out] at ho15))
        have ql := Aside0.mk (Kd.R_lower ho15 (bz_ HB)); replace qa := kB_ qa hb; replace qd := kB_ qd hb; replace HB := bS_ HB hb; clear hb ho15
        obtain ⟨zh, zi, eo16⟩ := Kd.R_slice ql.out
        (first | subst eo16 | (injection eo16 with f1_ f2_ f3_; have f4_ := f1_.symm; have f5_ := f3_.symm; clear f1_ f2_ f3_; subst f4_; subst f5_))
        refine hK.out _ _ trivial (fun hHeld => ?_)
        clear hK K
        refine norm_ (a' := ?_) ?_ ?_
        rotate_left
        ·
         show Act.put _ (some 20) _ = _
         simp only [Act.put, List.setIfInBounds_toArray, List.set_cons_zero, List.set_cons_succ, i64_w, i32_w]
         rfl
        refine pure_ (i := 7) (N := some 25) (v := ?_) (a' := ?_) #[true, true, true, true, true, true, true, true, true, false] rfl rfl (any_of HT_.out (by kernel_rfl)) (fun _ _ _ h => h) (Or.inl ⟨by rfl, ?_⟩) ?_ ?_
        rotate_left
        ·
         intro w'
         go_simp
         with_reducible rfl
        rotate_left
        ·
         simp only [Act.put, List.setIfInBounds_toArray, List.set_cons_zero, List.set_cons_succ, i64_w, i32_w]
         rfl
        exact norm_ (by simp only [putAll, Act.put, List.setIfInBounds_toArray, List.set_cons_zero, List.set_cons_succ]) (hCont (.slice zh y190.length zi, qe) _ ⟨(rm_ ql), (kf_ qa), (kf_ qd), qp.out, qq.out, qi.out, qj.out, (bb_ HB)⟩)
      rintro ⟨qx, qe⟩ qy ⟨h0_, h1_, h2_, h3_, h4_, h5_, h6_, h7_⟩
      have n0_ : Aside0 (Kd.R (Kd.int .i64) 3 qy w.heap.size (fun _ => True) qx y190) := ⟨h0_⟩
      have n1_ : Aside0 (qy.heap[qf]? = some (.cells #[.slice none 0 0, .int .i64 0, .bool false] 26 (0, 0))) := ⟨h1_⟩
      have n2_ : Aside0 (qy.heap[qe]? = some (.cells #[.slice none 0 0, .int .i64 0, .bool false] 26 (0, 0))) := ⟨h2_⟩
      have n3_ : Aside0 (w.heap.size ≤ qe) := ⟨h3_⟩
      have n4_ : Aside0 (w.heap.size ≤ qe) := ⟨h4_⟩
      have n5_ : Aside0 (qf ≠ qe) := ⟨h5_⟩
      have n6_ : Aside0 (qe ≠ qf) := ⟨h6_⟩
      have n7_ : Aside0 (Below w.heap.size w qy) := ⟨h7_⟩
      clear qa
      clear HB
      clear h0_ h1_ h2_ h3_ h4_ h5_ h6_ h7_
      have ql := n0_
      have qa := n1_
      have qd := n2_
      have qp := n3_
      have qq := n4_
      have qi := n5_
      have qj := n6_
      have HB := n7_
      clear n0_ n1_ n2_ n3_ n4_ n5_ n6_ n7_
      have hHeld := trivial
      obtain ⟨qu, qv, eo18⟩ := Kd.R_slice ql.out
      (first | subst eo18 | (injection eo18 with f1_ f2_ f3_; have f4_ := f1_.symm; have f5_ := f3_.symm; clear f1_ f2_ f3_; subst f4_; subst f5_))
      refine norm_ (a' := ?_) ?_ ?_
      rotate_left
      ·
       simp only [putAll, Act.put, List.setIfInBounds_toArray, List.set_cons_zero, List.set_cons_succ]
       rfl
      refine one_ (i := 9) (N := none) #[true, true, true, true, true, true, true, true, true, true] rfl rfl (one_of HT_.out (by kernel_rfl)) (by decide) (fun K hK => ?_)
      have hs19 : qy.cell? ⟨qe, 0, none⟩ = some (.slice none 0 0) := bc_ qd 0
      have hfs19 := blk_frozen qd.out 0
      have hns19_0 := qi.out
      have hms19_0 := qj.out
      have hs20 : qy.cell? ⟨qe, 1, none⟩ = some (.int .i64 0) := bc_ qd 1
      have hfs20 := blk_frozen qd.out 1
      have hns20_0 := qi.out
      have hms20_0 := qj.out
      have hs21 : qy.cell? ⟨qe, 2, none⟩ = some (.bool false) := bc_ qd 2
      have hfs21 := blk_frozen qd.out 2
      have hns21_0 := qi.out
      have hms21_0 := qj.out
      refine skip_ (w1 := ?_) (by rfl) rfl ?_ ?_
      rotate_left
      ·
       go_simp
       rfl
      refine hK.out _ _ trivial (fun hHeld => ?_)
      clear hK K
      refine done_ (done_of HT_.out (by kernel_rfl)) ?_
      try go_wp2
      go_loopg [28] kj5 (fun kq v28 w' => ∃ (qg : Int) (qb : List Int) (u194000 : Value), v28 = .int .i64 qg ∧ Aside0 (impl_makeOf.l0 kq qh l0 (l0.length : Int) qg qb (wrap64 (Int.tdiv a1 qh)) a2 = some (r1, r2, r3, r4)) ∧ Aside0 (kq ≤ kj5) ∧ Aside0 (Kd.R (Kd.int .i64) 3 w' w.heap.size (fun _ => True) u194000 qb) ∧ Aside0 (w'.heap[qf]? = some (.cells #[(.slice none 0 0), .int .i64 0, .bool false] 26 (0, 0))) ∧ Aside0 (w'.heap[qe]? = some (.cells #[u194000, .int .i64 (wrap64 (Int.tdiv a1 qh)), .bool a2] 26 (0, 0))) ∧ Aside0 (Below w.heap.size w w'))
      case atStart => exact ⟨(0), (y190), (.slice qu y190.length qv), (by first | rfl | (simp; done) | (simp [*]; done)), H', ⟨Nat.le_refl _⟩, ⟨by (with_reducible repeat (first | apply Kd.R_alloc | apply Kd.R_drewN | apply Kd.R_drew)); exact Kd.R_mono (Kd.R_far (p := ⟨qe, 2, none⟩) (Kd.R_far (p := ⟨qe, 1, none⟩) (Kd.R_far (p := ⟨qe, 0, none⟩) (Kd.R_types ql.out qd.out (by decide)) (fun _ hk => hk.2) (.slice qu y190.length qv)) (fun _ hk => hk.2) (.int .i64 (wrap64 (Int.tdiv a1 qh)))) (fun _ hk => hk.2) (.bool a2)) (fun _ hk => trivial)⟩, ⟨kf_ qa⟩, ⟨by (with_reducible repeat (first | refine blk_drewN ?_ _ | refine blk_drew ?_ | refine blk_alloc ?_ _)); refine blk_put (cs := #[.slice qu y190.length qv, .int .i64 (wrap64 (Int.tdiv a1 qh)), .bool false]) ?_ 2 _ rfl; (with_reducible repeat (first | refine blk_drewN ?_ _ | refine blk_drew ?_ | refine blk_alloc ?_ _)); refine blk_put (cs := #[.slice qu y190.length qv, .int .i64 0, .bool false]) ?_ 1 _ rfl; (with_reducible repeat (first | refine blk_drewN ?_ _ | refine blk_drew ?_ | refine blk_alloc ?_ _)); refine blk_put (cs := #[.slice none 0 0, .int .i64 0, .bool false]) ?_ 0 _ rfl; (with_reducible repeat (first | refine blk_drewN ?_ _ | refine blk_drew ?_ | refine blk_alloc ?_ _)); exact qd.out⟩, ⟨bb_ HB⟩⟩
      case round =>
       clear H'
       try clear c1
       try clear p2
       try clear c5
       try clear p6
       try clear c8
       try clear qo
       try clear qw
       try clear c9
       try clear zd
       try clear ze
       try clear c10
       try clear qC
       try clear qD
       try clear c11
       try clear qE
       try clear qF
       try clear p2
       obtain ⟨qg, qb, u194000, rfl, HA, HK2, qc, qa, qd, HB⟩ := hrel
       cases gk with
       | zero => exact absurd HA.out (by simp [impl_makeOf.l0])
       | succ k2 =>
        have H := HA.out
        clear HA
        simp only [impl_makeOf.l0] at H
        by_cases c22 : qg < (l0.length : Int)
        ·
         rw [if_pos c22] at H
         have qG : decide (qg < (l0.length : Int)) = true := decide_eq_true c22
         clear c22
         by_cases c23 : 0 ≤ qg
         ·
          rw [if_pos c23] at H
          have zp : decide (0 ≤ qg) = true := decide_eq_true c23
          clear c23
          by_cases c24 : qg < (l0.length : Int)
          ·
           rw [if_pos c24] at H
           have zq : decide (qg < (l0.length : Int)) = true := decide_eq_true c24
           clear c24
           by_cases c25 : qh = 0
           ·
            rw [if_pos c25] at H
            exact absurd H (by simp)
           ·
            rw [if_neg c25] at H
            have zr : (qh == 0) = false := beq_eq_false_iff_ne.mpr c25
            have zs : (qh != 0) = true := bne_iff_ne.mpr c25
            by_cases c26 : qg < (qb.length : Int)
            ·
             rw [if_pos c26] at H
             have zt : decide (qg < (qb.length : Int)) = true := decide_eq_true c26
             clear c26
             obtain ⟨y195, hy195⟩ : ∃ y_ : List Int, y_ = (qb.set (qg : Int).toNat (wrap64 (Int.tdiv (rd l0 qg) qh))) := ⟨_, rfl⟩
             replace H : (impl_makeOf.l0 k2 qh l0 (l0.length : Int) (wrap64 (qg + 1)) y195 (wrap64 (Int.tdiv a1 qh)) a2) = some (r1, r2, r3, r4) := by first | (rw [hy195]; with_reducible exact H) | (have H2_ := (Option.bind_some _ _).symm.trans H; rw [hy195]; with_reducible exact H2_) | (have H2_ := (Option.bind_some _ _).symm.trans H; with_reducible exact H2_) | with_reducible exact H | (rw [hy195]; exact H) | exact H
             have Ny195 := Aside0.mk hy195
             clear hy195
             have H' := Aside0.mk H
             clear H
             have p194 : 0 ≤ (qg : Int) := of_decide_eq_true (by first | (with_reducible assumption) | assumption)
             have q194 : qg < (l0.length : Int) := of_decide_eq_true (by first | (with_reducible assumption) | assumption)
             obtain ⟨zu, e194, qm⟩ := Kd.at_int HR0.out qg p194 q194
             cases e194
             replace qm := (HB.out.cell (World.block_lt_of_cell? w _ qm)).trans qm
             replace p194 := eq_true p194
             replace q194 := eq_true q194
             try go_wp2
             replace qc := Aside0.mk (Kd.R_drew qc.out); replace qa := Aside0.mk (blk_drew qa.out); replace qd := Aside0.mk (blk_drew qd.out); replace HB := Aside0.mk (below_drew1 HB.out)
             have p27 : 0 ≤ (qg : Int) := of_decide_eq_true (by first | (with_reducible assumption) | assumption)
             have q27 : (qg : Int) < ((qb.length : Int) : Int) := of_decide_eq_true (by first | (with_reducible assumption) | assumption)
             obtain ⟨go27, qH, eo27, qI, gl27, cl27, HG27⟩ := Kd.R_form qc.out (by omega)
             (first | cases eo27 | (injection eo27 with ea_ en_ ec_; (first | subst ea_ | (injection ea_ with ea_; subst ea_)); subst ec_; clear en_))
             have zA := Aside0.mk qI
             have zj := Aside0.mk HG27
             clear qI gl27 HG27
             obtain ⟨qz, hf27_0⟩ := Kd.R_celln 0 qc.out (qg : Int) p27 q27
             replace p27 := eq_true p27
             replace q27 := eq_true q27
             have qA := Kd.R_putn qc.out (qg : Int) (wrap64 (Int.tdiv (rd l0 qg) qh))
             rw [← Ny195.out] at qA
             have HQ29 := Aside0.mk qA
             clear qA
             refine start_ (n := 8) (S := fun w' => w'.cell? ⟨qe, 0, none⟩ = some (.slice (some ⟨go27, 0, none⟩) qb.length qH) ∧ w'.cell? ⟨qe, 1, none⟩ = some (.int .i64 (wrap64 (Int.tdiv a1 qh))) ∧ w'.cell? ⟨qe, 2, none⟩ = some (.bool a2)) (ds := [7]) #[false, false, false, false, false, false, false, false] (by kernel_rfl) rfl rfl ⟨bc_ qd 0, bc_ qd 1, bc_ qd 2⟩ (fun hHeld => ?_); refine with_tabW impl_makeOf.tab8 impl_makeOf.bits8 (fun HT_ HW_ => ?_)
             generalize wr.drew = zE at qc qa qd HB zj HQ29 hf27_0 qz hHeld ⊢
             refine pure_ (i := 0) (N := some 33) (v := ?_) (a' := ?_) #[true, false, false, false, false, false, false, false] rfl rfl (any_of HT_.out (by kernel_rfl)) (fun _ _ _ h => h) (Or.inl ⟨by rfl, ?_⟩) ?_ ?_
             rotate_left
             ·
              intro w'
              go_simp
              with_reducible rfl
             rotate_left
             ·
              simp only [Act.put, List.setIfInBounds_toArray, List.set_cons_zero, List.set_cons_succ, i64_w, i32_w]
              rfl
             refine pure_ (i := 2) (N := some 35) (v := ?_) (a' := ?_) #[true, false, true, false, false, false, false, false] rfl rfl (any_of HT_.out (by kernel_rfl)) (fun _ _ _ h => h) (Or.inl ⟨by rfl, ?_⟩) ?_ ?_
             rotate_left
             ·
              intro w'
              go_simp
              with_reducible rfl
             rotate_left
             ·
              simp only [Act.put, List.setIfInBounds_toArray, List.set_cons_zero, List.set_cons_succ, i64_w, i32_w]
              rfl
             refine pure_ (i := 3) (N := some 36) (v := ?_) (a' := ?_) #[true, false, true, true, false, false, false, false] rfl rfl (any_of HT_.out (by kernel_rfl)) (fun _ _ _ h => h) (Or.inl ⟨by rfl, ?_⟩) ?_ ?_
             rotate_left
             ·
              intro w'
              go_simp
              with_reducible rfl
             rotate_left
             ·
              simp only [Act.put, List.setIfInBounds_toArray, List.set_cons_zero, List.set_cons_succ, i64_w, i32_w]
              rfl
             refine pure_ (i := 4) (N := some 37) (v := ?_) (a' := ?_) #[true, false, true, true, true, false, false, false] rfl rfl (any_of HT_.out (by kernel_rfl)) (fun _ _ _ h => h) (Or.inl ⟨by rfl, ?_⟩) ?_ ?_
             rotate_left
             ·
              intro w'
              go_simp
              with_reducible rfl
             rotate_left
             ·
              simp only [Act.put, List.setIfInBounds_toArray, List.set_cons_zero, List.set_cons_succ, i64_w, i32_w]
              rfl
             refine pure_ (i := 5) (N := some 38) (v := ?_) (a' := ?_) #[true, false, true, true, true, true, false, false] rfl rfl (any_of HT_.out (by kernel_rfl)) (fun _ _ _ h => h) (Or.inl ⟨by rfl, ?_⟩) ?_ ?_
             rotate_left
             ·
              intro w'
              go_simp
              with_reducible rfl
             rotate_left
             ·
              simp only [Act.put, List.setIfInBounds_toArray, List.set_cons_zero, List.set_cons_succ, i64_w, i32_w]
              rfl
             refine take_ (i := 1) (N := some 34) (v := ?_) (a' := ?_) #[true, true, true, true, true, true, false, false] rfl rfl (take_ofW HT_.out HW_.out (by kernel_rfl)) (fun _ _ _ h => h) (Or.inl ⟨by rfl, ?_⟩) hHeld ?_ ?_
             rotate_left
             ·
              rintro w' ⟨s0, s1, s2⟩
              go_simp
              with_reducible rfl
             rotate_left
             ·
              simp only [Act.put, List.setIfInBounds_toArray, List.set_cons_zero, List.set_cons_succ, i64_w, i32_w]
              rfl
             refine pure_ (i := 6) (N := some 39) (v := ?_) (a' := ?_) #[true, true, true, true, true, true, true, false] rfl rfl (any_of HT_.out (by kernel_rfl)) (fun _ _ _ h => h) (Or.inl ⟨by rfl, ?_⟩) ?_ ?_
             rotate_left
             ·
              intro w'
              go_simp
              with_reducible rfl
             rotate_left
             ·
              simp only [Act.put, List.setIfInBounds_toArray, List.set_cons_zero, List.set_cons_succ, i64_w, i32_w]
              rfl
             refine last_ (i := 7) (N := none) #[true, true, true, true, true, true, true, true] rfl rfl (one_of HT_.out (by kernel_rfl)) (by decide) (fun K hK => ?_)
             refine skip_ (w1 := ?_) (by rfl) rfl ?_ ?_
             rotate_left
             ·
              go_simp
              rfl
             refine hK.out _ _ ?_
             clear hK K
             refine done_ (done_of HT_.out (by kernel_rfl)) ?_
             try go_wp2
             go_roundg k2
             case measure => have := HJ5.out; have := HK2.out; omega
             case rel => exact ⟨(wrap64 (qg + 1)), (y195), (.slice (some ⟨go27, 0, none⟩) qb.length qH), (by first | rfl | (simp; done) | (simp [*]; done)), H', ⟨by have := HJ5.out; have := HK2.out; omega⟩, ⟨by (with_reducible repeat (first | apply Kd.R_alloc | apply Kd.R_drewN | apply Kd.R_drew)); exact HQ29.out⟩, ⟨by (with_reducible repeat (first | refine blk_drewN ?_ _ | refine blk_drew ?_ | refine blk_alloc ?_ _)); refine blk_far ?_ (by have h_ := Kd.R_ne qc.out qa.out (by decide); intro e_; exact h_ (by rw [e_]; rfl)) _; (with_reducible repeat (first | refine blk_drewN ?_ _ | refine blk_drew ?_ | refine blk_alloc ?_ _)); exact qa.out⟩, ⟨by (with_reducible repeat (first | refine blk_drewN ?_ _ | refine blk_drew ?_ | refine blk_alloc ?_ _)); refine blk_far ?_ (by have h_ := Kd.R_ne qc.out qd.out (by decide); intro e_; exact h_ (by rw [e_]; rfl)) _; (with_reducible repeat (first | refine blk_drewN ?_ _ | refine blk_drew ?_ | refine blk_alloc ?_ _)); exact qd.out⟩, ⟨bb_ HB⟩⟩
            ·
             rw [if_neg c26] at H
             exact absurd H (by simp)
          ·
           rw [if_neg c24] at H
           exact absurd H (by simp)
         ·
          rw [if_neg c23] at H
          exact absurd H (by simp)
        ·
         rw [if_neg c22] at H
         have qG : decide (qg < (l0.length : Int)) = false := decide_eq_false c22
         clear c22
         replace H := Option.bind_eq_some_iff.mp H
         obtain ⟨qt, A300, H⟩ := H
         replace H : (if qt = true then (some (qb, (wrap64 (Int.tdiv a1 qh)), a2, true)) else (some (([] : List Int), 0, false, false))) = some (r1, r2, r3, r4) := H
         have A30 := Aside0.mk A300
         clear A300
         by_cases c31 : qt = true
         ·
          subst c31
          have H1 : (some (qb, (wrap64 (Int.tdiv a1 qh)), a2, true)) = some (r1, r2, r3, r4) := by rw [if_pos rfl] at H; exact H
          clear H
          have H := H1
          clear H1
          simp only [Option.some.injEq, Prod.mk.injEq] at H
          obtain ⟨rfl, rfl, rfl, rfl⟩ := H
          have zv := qj.out
          have zw := qi.out
          have qJ : wr.cell? ⟨qe, 0, none⟩ = some (u194000) := bc_ qd 0
          have qK : wr.cell? ⟨qe, 1, none⟩ = some (.int .i64 (wrap64 (Int.tdiv a1 qh))) := bc_ qd 1
          have qL : wr.cell? ⟨qe, 2, none⟩ = some (.bool a2) := bc_ qd 2
          have qM := blk_frozen qd.out 0
          have qN := blk_frozen qd.out 1
          have qO := blk_frozen qd.out 2
          obtain ⟨qr, qs, eo34⟩ := Kd.R_slice qc.out
          subst eo34
          go_wp2_with (first | ((with_reducible refine gate_callee (f := 54) rfl ?_); refine goesL_ (some 42) rfl rfl Try.func54 (by kernel_rfl) rfl #[.agg #[.slice qr qb.length qs, .int .i64 (wrap64 (Int.tdiv a1 qh)), .bool a2]] rfl (by (try simp only [List.map_toArray, List.map_cons, List.map_nil]); first | done | rfl | (simp only [List.length_drop, List.length_take]; rfl)) ?_; (with_reducible refine (impl_IsAtom.calls k2 _ _ qb (wrap64 (Int.tdiv a1 qh)) a2 true _ ?side1 ?side2 A30.out).mono ?_); (case side1 => exact cr_ qc); (case side2 => exact (Kd.R_reads' qc.out).2.1); rintro e qB ⟨rfl, hb⟩; refine ⟨_, rfl, ?_⟩; replace qc := rB_ qc hb; replace qa := kB_ qa hb; replace qd := kB_ qd hb; replace HB := bS_ HB hb; (try clear hb); (try clear hb2); (try clear hk); (try clear hi); have qP : qB.cell? ⟨qe, 0, none⟩ = some (.slice qr qb.length qs) := bc_ qd 0; have qQ : qB.cell? ⟨qe, 1, none⟩ = some (.int .i64 (wrap64 (Int.tdiv a1 qh))) := bc_ qd 1; have qR : qB.cell? ⟨qe, 2, none⟩ = some (.bool a2) := bc_ qd 2; have qS := blk_frozen qd.out 0; have qT := blk_frozen qd.out 1; have qU := blk_frozen qd.out 2; have qV : qB.cell? ⟨qf, 0, none⟩ = some (.slice none 0 0) := bc_ qa 0; have qW : qB.cell? ⟨qf, 1, none⟩ = some (.int .i64 0) := bc_ qa 1; have qX : qB.cell? ⟨qf, 2, none⟩ = some (.bool false) := bc_ qa 2; have qY := blk_frozen qa.out 0; have qZ := blk_frozen qa.out 1; have q0 := blk_frozen qa.out 2))
          refine bodyPost_ret (results_ct rfl _ _ qf 26 #[.slice qr qb.length qs, .int .i64 (wrap64 (Int.tdiv a1 qh)), .bool a2] (0, 0) _ rfl (by (with_reducible repeat (first | refine blk_drewN ?_ _ | refine blk_drew ?_ | refine blk_alloc ?_ _)); refine blk_put (cs := #[.slice qr qb.length qs, .int .i64 (wrap64 (Int.tdiv a1 qh)), .bool false]) ?_ 2 _ rfl; (with_reducible repeat (first | refine blk_drewN ?_ _ | refine blk_drew ?_ | refine blk_alloc ?_ _)); refine blk_put (cs := #[.slice qr qb.length qs, .int .i64 0, .bool false]) ?_ 1 _ rfl; (with_reducible repeat (first | refine blk_drewN ?_ _ | refine blk_drew ?_ | refine blk_alloc ?_ _)); refine blk_put (cs := #[.slice none 0 0, .int .i64 0, .bool false]) ?_ 0 _ rfl; (with_reducible repeat (first | refine blk_drewN ?_ _ | refine blk_drew ?_ | refine blk_alloc ?_ _)); exact qa.out) Try.underlying26 rfl (by kernel_rfl)) rfl ?_
          exact ⟨_, by first | rfl | (simp [errW_none, errW_some] <;> rfl) | (simp [*, errW_none, errW_some] <;> rfl), by (with_reducible repeat (first | apply Kd.R_alloc | apply Kd.R_drewN | apply Kd.R_drew)); exact Kd.R_mono (Kd.R_far (p := ⟨qf, 2, none⟩) (Kd.R_far (p := ⟨qf, 1, none⟩) (Kd.R_far (p := ⟨qf, 0, none⟩) (Kd.R_types qc.out qa.out (by decide)) (fun _ hk => hk.2) (.slice qr qb.length qs)) (fun _ hk => hk.2) (.int .i64 (wrap64 (Int.tdiv a1 qh)))) (fun _ hk => hk.2) (.bool a2)) (fun _ hk => trivial), bb_ HB⟩
         ·
          replace c31 := Bool.eq_false_iff.mpr c31
          subst c31
          have H1 : (some (([] : List Int), 0, false, false)) = some (r1, r2, r3, r4) := by rw [if_neg (show ¬ (false = true) by decide)] at H; exact H
          clear H
          have H := H1
          clear H1
          simp only [Option.some.injEq, Prod.mk.injEq] at H
          obtain ⟨rfl, rfl, rfl, rfl⟩ := H
          have zx := qj.out
          have zy := qi.out
          have q1 : wr.cell? ⟨qe, 0, none⟩ = some (u194000) := bc_ qd 0
          have q2 : wr.cell? ⟨qe, 1, none⟩ = some (.int .i64 (wrap64 (Int.tdiv a1 qh))) := bc_ qd 1
          have q3 : wr.cell? ⟨qe, 2, none⟩ = some (.bool a2) := bc_ qd 2
          have q4 := blk_frozen qd.out 0
          have q5 := blk_frozen qd.out 1
          have q6 := blk_frozen qd.out 2
          obtain ⟨zk, zl, eo40⟩ := Kd.R_slice qc.out
          subst eo40
          go_wp2_with (first | ((with_reducible refine gate_callee (f := 54) rfl ?_); refine goesL_ (some 42) rfl rfl Try.func54 (by kernel_rfl) rfl #[.agg #[.slice zk qb.length zl, .int .i64 (wrap64 (Int.tdiv a1 qh)), .bool a2]] rfl (by (try simp only [List.map_toArray, List.map_cons, List.map_nil]); first | done | rfl | (simp only [List.length_drop, List.length_take]; rfl)) ?_; (with_reducible refine (impl_IsAtom.calls k2 _ _ qb (wrap64 (Int.tdiv a1 qh)) a2 false _ ?side1 ?side2 A30.out).mono ?_); (case side1 => exact cr_ qc); (case side2 => exact (Kd.R_reads' qc.out).2.1); rintro e zm ⟨rfl, hb⟩; refine ⟨_, rfl, ?_⟩; replace qc := rB_ qc hb; replace qa := kB_ qa hb; replace qd := kB_ qd hb; replace HB := bS_ HB hb; (try clear hb); (try clear hb2); (try clear hk); (try clear hi); have q7 : zm.cell? ⟨qf, 0, none⟩ = some (.slice none 0 0) := bc_ qa 0; have q8 : zm.cell? ⟨qf, 1, none⟩ = some (.int .i64 0) := bc_ qa 1; have q9 : zm.cell? ⟨qf, 2, none⟩ = some (.bool false) := bc_ qa 2; have za := blk_frozen qa.out 0; have zb := blk_frozen qa.out 1; have zc := blk_frozen qa.out 2))
          refine bodyPost_ret (results_ct rfl _ _ qf 26 #[.slice none 0 0, .int .i64 0, .bool false] (0, 0) _ rfl (by (with_reducible repeat (first | refine blk_drewN ?_ _ | refine blk_drew ?_ | refine blk_alloc ?_ _)); refine blk_put (cs := #[.slice none 0 0, .int .i64 0, .bool false]) ?_ 2 _ rfl; (with_reducible repeat (first | refine blk_drewN ?_ _ | refine blk_drew ?_ | refine blk_alloc ?_ _)); refine blk_put (cs := #[.slice none 0 0, .int .i64 0, .bool false]) ?_ 1 _ rfl; (with_reducible repeat (first | refine blk_drewN ?_ _ | refine blk_drew ?_ | refine blk_alloc ?_ _)); refine blk_put (cs := #[.slice none 0 0, .int .i64 0, .bool false]) ?_ 0 _ rfl; (with_reducible repeat (first | refine blk_drewN ?_ _ | refine blk_drew ?_ | refine blk_alloc ?_ _)); exact qa.out) Try.underlying26 rfl (by kernel_rfl)) rfl ?_
          exact ⟨_, by first | rfl | (simp [errW_none, errW_some] <;> rfl) | (simp [*, errW_none, errW_some] <;> rfl), by first | exact Kd.R_nil _ _ _ _ _ | exact Kd.N_nil _ _ _ _ _ | exact Kd.V_nil _ _ _ _ _ | exact Kd.Q_nil _ _ _ _ _ | exact Kd.S_nil _ _ _ _ _, bb_ HB⟩
    ·
     rw [if_neg c10] at H
     exact absurd H (by simp)
   ·
    rw [if_neg c9] at H
    exact absurd H (by simp)

/-! ### impl_GcdOf: function 86 -/
def impl_GcdOf.f (k : Nat) (a0 : Int) (a1 : Int) : Option (Int) := (impl_IsNumber.f a0).bind fun qc => (if qc = true then ((impl_IsNumber.f a1).bind fun qb => (if qb = true then ((impl_commonDivisor.f k a0 a1).bind fun qa => (some qa)) else (some 0))) else (some 0))
theorem impl_GcdOf.mono : ∀ a0 a1 k, LeO (impl_GcdOf.f k a0 a1) (impl_GcdOf.f (k + 1) a0 a1) := by
 intro a0 a1 k
 unfold impl_GcdOf.f
 repeat' first
   | (with_reducible exact impl_commonDivisor.mono _ _ _)
   | (with_reducible exact LeO.refl _)
   | (with_reducible exact LeO.none _)
   | (with_reducible refine LeO.ite ?_ ?_)
   | (with_reducible refine LeO.bind ?_ (fun _ => ?_))
   | exact impl_commonDivisor.mono _ _ _
   | exact LeO.none _
   | refine LeO.ite ?_ ?_
   | refine LeO.bind ?_ (fun _ => ?_)
set_option maxHeartbeats 8000000 in
set_option maxRecDepth 100000 in
theorem impl_GcdOf.calls (k : Nat) (a0 : Int) (a1 : Int) (r : Int) (w : World) (h : impl_GcdOf.f k a0 a1 = some r) :
  Calls Try.prog 86 #[.int .i64 a0, .int .i64 a1] w fun e w' => e = .returned (.int .i64 r) ∧ Drawn0 w w' := by
 have H : ((impl_IsNumber.f a0).bind fun qc => (if qc = true then ((impl_IsNumber.f a1).bind fun qb => (if qb = true then ((impl_commonDivisor.f k a0 a1).bind fun qa => (some qa)) else (some 0))) else (some 0))) = some r := h
 clear h
 replace H := Option.bind_eq_some_iff.mp H
 obtain ⟨qc, A30, H⟩ := H
 replace H : (if qc = true then ((impl_IsNumber.f a1).bind fun qb => (if qb = true then ((impl_commonDivisor.f k a0 a1).bind fun qa => (some qa)) else (some 0))) else (some 0)) = some r := H
 have A3 := Aside0.mk A30
 clear A30
 by_cases c4 : qc = true
 ·
  subst c4
  have H1 : ((impl_IsNumber.f a1).bind fun qb => (if qb = true then ((impl_commonDivisor.f k a0 a1).bind fun qa => (some qa)) else (some 0))) = some r := by rw [if_pos rfl] at H; exact H
  clear H
  have H := H1
  clear H1
  replace H := Option.bind_eq_some_iff.mp H
  obtain ⟨qb, A50, H⟩ := H
  replace H : (if qb = true then ((impl_commonDivisor.f k a0 a1).bind fun qa => (some qa)) else (some 0)) = some r := H
  have A5 := Aside0.mk A50
  clear A50
  by_cases c6 : qb = true
  ·
   subst c6
   have H1 : ((impl_commonDivisor.f k a0 a1).bind fun qa => (some qa)) = some r := by rw [if_pos rfl] at H; exact H
   clear H
   have H := H1
   clear H1
   replace H := Option.bind_eq_some_iff.mp H
   obtain ⟨qa, A70, H⟩ := H
   replace H : (some qa) = some r := H
   have A7 := Aside0.mk A70
   clear A70
   obtain rfl := Option.some.inj H
   go_enter Try.func86, Try.ntmps86
   go_wp2_with (first | ((with_reducible refine gate_callee (f := 58) rfl ?_); refine goesL_ (some 6) rfl rfl Try.func58 (by kernel_rfl) rfl #[.int .i64 a0] rfl (by (try simp only [List.map_toArray, List.map_cons, List.map_nil]); first | done | rfl | (simp only [List.length_drop, List.length_take]; rfl)) ?_; (with_reducible refine (impl_IsNumber.calls a0 true _ A3.out).mono ?_); rintro e w' ⟨rfl, ⟨nd, rfl⟩⟩; refine ⟨_, rfl, ?_⟩) | (go_at_call 58; (with_reducible refine (impl_IsNumber.calls a1 true _ A5.out).mono ?_); rintro e w' ⟨rfl, ⟨nd, rfl⟩⟩) | ((with_reducible refine gate_callee (f := 82) rfl ?_); refine goesL_ (some 15) rfl rfl Try.func82 (by kernel_rfl) rfl #[.int .i64 a0, .int .i64 a1] rfl (by (try simp only [List.map_toArray, List.map_cons, List.map_nil]); first | done | rfl | (simp only [List.length_drop, List.length_take]; rfl)) ?_; (with_reducible refine (impl_commonDivisor.calls k a0 a1 qa _ A7.out).mono ?_); rintro e w' ⟨rfl, ⟨nd, rfl⟩⟩; refine ⟨_, rfl, ?_⟩))
   go_ret
   exact ⟨by first | rfl | (simp; done) | (simp [*]; done), by repeat (first | exact Drawn0.refl _ | apply Drawn0.step)⟩
  ·
   replace c6 := Bool.eq_false_iff.mpr c6
   subst c6
   have H1 : (some 0) = some r := by rw [if_neg (show ¬ (false = true) by decide)] at H; exact H
   clear H
   have H := H1
   clear H1
   obtain rfl := Option.some.inj H
   go_enter Try.func86, Try.ntmps86
   go_wp2_with (first | ((with_reducible refine gate_callee (f := 58) rfl ?_); refine goesL_ (some 6) rfl rfl Try.func58 (by kernel_rfl) rfl #[.int .i64 a0] rfl (by (try simp only [List.map_toArray, List.map_cons, List.map_nil]); first | done | rfl | (simp only [List.length_drop, List.length_take]; rfl)) ?_; (with_reducible refine (impl_IsNumber.calls a0 true _ A3.out).mono ?_); rintro e w' ⟨rfl, ⟨nd, rfl⟩⟩; refine ⟨_, rfl, ?_⟩) | (go_at_call 58; (with_reducible refine (impl_IsNumber.calls a1 false _ A5.out).mono ?_); rintro e w' ⟨rfl, ⟨nd, rfl⟩⟩))
   go_ret
   exact ⟨by first | rfl | (simp; done) | (simp [*]; done), by repeat (first | exact Drawn0.refl _ | apply Drawn0.step)⟩
 ·
  replace c4 := Bool.eq_false_iff.mpr c4
  subst c4
  have H1 : (some 0) = some r := by rw [if_neg (show ¬ (false = true) by decide)] at H; exact H
  clear H
  have H := H1
  clear H1
  obtain rfl := Option.some.inj H
  go_enter Try.func86, Try.ntmps86
  go_wp2_with (first | ((with_reducible refine gate_callee (f := 58) rfl ?_); refine goesL_ (some 6) rfl rfl Try.func58 (by kernel_rfl) rfl #[.int .i64 a0] rfl (by (try simp only [List.map_toArray, List.map_cons, List.map_nil]); first | done | rfl | (simp only [List.length_drop, List.length_take]; rfl)) ?_; (with_reducible refine (impl_IsNumber.calls a0 false _ A3.out).mono ?_); rintro e w' ⟨rfl, ⟨nd, rfl⟩⟩; refine ⟨_, rfl, ?_⟩))
  go_ret
  exact ⟨by first | rfl | (simp; done) | (simp [*]; done), by repeat (first | exact Drawn0.refl _ | apply Drawn0.step)⟩

/-! ### impl_IsRatio: function 70 -/
def impl_IsRatio.f (k : Nat) (a0_0 : Int) (a0_1 : Int) : Option (Bool) := if a0_1 ≥ 1 then (if a0_1 ≤ 400000000 then ((impl_IsNumber.f a0_0).bind fun qd => (if qd = true then ((impl_GcdOf.f k a0_0 a0_1).bind fun qc => (some (qc == 1))) else (some false))) else (some false)) else (some false)
theorem impl_IsRatio.mono : ∀ a0 a1 k, LeO (impl_IsRatio.f k a0 a1) (impl_IsRatio.f (k + 1) a0 a1) := by
 intro a0 a1 k
 unfold impl_IsRatio.f
 repeat' first
   | (with_reducible exact impl_GcdOf.mono _ _ _)
   | (with_reducible exact LeO.refl _)
   | (with_reducible exact LeO.none _)
   | (with_reducible refine LeO.ite ?_ ?_)
   | (with_reducible refine LeO.bind ?_ (fun _ => ?_))
   | exact impl_GcdOf.mono _ _ _
   | exact LeO.none _
   | refine LeO.ite ?_ ?_
   | refine LeO.bind ?_ (fun _ => ?_)
set_option maxHeartbeats 8000000 in
set_option maxRecDepth 100000 in
theorem impl_IsRatio.calls (k : Nat) (a0_0 : Int) (a0_1 : Int) (r : Bool) (w : World) (h : impl_IsRatio.f k a0_0 a0_1 = some r) :
  Calls Try.prog 70 #[.agg #[.int .i64 a0_0, .int .i64 a0_1]] w fun e w' => e = .returned (.bool r) ∧ Below w.heap.size w w' := by
 have hu56 := Try.underlying56
 have HB := Aside0.mk (Below.refl w.heap.size w)
 have H : (if a0_1 ≥ 1 then (if a0_1 ≤ 400000000 then ((impl_IsNumber.f a0_0).bind fun qd => (if qd = true then ((impl_GcdOf.f k a0_0 a0_1).bind fun qc => (some (qc == 1))) else (some false))) else (some false)) else (some false)) = some r := h
 clear h
 by_cases c2 : a0_1 ≥ 1
 ·
  rw [if_pos c2] at H
  have qs : decide (1 ≤ a0_1) = true := decide_eq_true c2
  clear c2
  by_cases c3 : a0_1 ≤ 400000000
  ·
   rw [if_pos c3] at H
   have qt : decide (a0_1 ≤ 400000000) = true := decide_eq_true c3
   clear c3
   replace H := Option.bind_eq_some_iff.mp H
   obtain ⟨qd, A40, H⟩ := H
   replace H : (if qd = true then ((impl_GcdOf.f k a0_0 a0_1).bind fun qc => (some (qc == 1))) else (some false)) = some r := H
   have A4 := Aside0.mk A40
   clear A40
   by_cases c5 : qd = true
   ·
    subst c5
    have H1 : ((impl_GcdOf.f k a0_0 a0_1).bind fun qc => (some (qc == 1))) = some r := by rw [if_pos rfl] at H; exact H
    clear H
    have H := H1
    clear H1
    replace H := Option.bind_eq_some_iff.mp H
    obtain ⟨qc, A60, H⟩ := H
    replace H : (some (qc == 1)) = some r := H
    have A6 := Aside0.mk A60
    clear A60
    obtain rfl := Option.some.inj H
    go_enter Try.func70, Try.ntmps70
    go_wp2_with (first | ((with_reducible refine gate_dst (N := 1) rfl ?_); refine box_event ?hg (N := 1) ?hd (cs := #[.int .i64 a0_0, .int .i64 a0_1]) (t := 56) ?hr ?_; (case hd => rfl); (case hg => rfl); (case hr => first | (go_simp; done) | (go_simp; rfl)); intro qa hg w7 hbox hb; have qb := Aside0.mk (hbox); have qe := Aside0.mk ((by rw [hg]; exact (bz_ HB) : w.heap.size ≤ qa)); have qf := Aside0.mk ((by rw [hg]; exact (bz_ HB) : w.heap.size ≤ qa)); replace HB := bS_ HB hb; clear hb hbox hg; have qu : w7.cell? ⟨qa, 0, none⟩ = some (.int .i64 a0_0) := bc_ qb 0; have qv : w7.cell? ⟨qa, 1, none⟩ = some (.int .i64 a0_1) := bc_ qb 1; have qw := blk_frozen qb.out 0; have qx := blk_frozen qb.out 1) | (go_at_call 58; (with_reducible refine (impl_IsNumber.calls a0_0 true _ A4.out).mono ?_); rintro e w' ⟨rfl, ⟨nd, rfl⟩⟩) | (go_at_call 86; (with_reducible refine (impl_GcdOf.calls k a0_0 a0_1 qc _ A6.out).mono ?_); rintro e w' ⟨rfl, ⟨nd, rfl⟩⟩))
    go_ret
    exact ⟨by first | rfl | (simp [errW_none, errW_some] <;> rfl) | (simp [*, errW_none, errW_some] <;> rfl), bb_ HB⟩
   ·
    replace c5 := Bool.eq_false_iff.mpr c5
    subst c5
    have H1 : (some false) = some r := by rw [if_neg (show ¬ (false = true) by decide)] at H; exact H
    clear H
    have H := H1
    clear H1
    obtain rfl := Option.some.inj H
    go_enter Try.func70, Try.ntmps70
    go_wp2_with (first | ((with_reducible refine gate_dst (N := 1) rfl ?_); refine box_event ?hg (N := 1) ?hd (cs := #[.int .i64 a0_0, .int .i64 a0_1]) (t := 56) ?hr ?_; (case hd => rfl); (case hg => rfl); (case hr => first | (go_simp; done) | (go_simp; rfl)); intro qa hg w9 hbox hb; have qb := Aside0.mk (hbox); have qe := Aside0.mk ((by rw [hg]; exact (bz_ HB) : w.heap.size ≤ qa)); have qf := Aside0.mk ((by rw [hg]; exact (bz_ HB) : w.heap.size ≤ qa)); replace HB := bS_ HB hb; clear hb hbox hg; have qg : w9.cell? ⟨qa, 0, none⟩ = some (.int .i64 a0_0) := bc_ qb 0; have qh : w9.cell? ⟨qa, 1, none⟩ = some (.int .i64 a0_1) := bc_ qb 1; have qi := blk_frozen qb.out 0; have qj := blk_frozen qb.out 1) | (go_at_call 58; (with_reducible refine (impl_IsNumber.calls a0_0 false _ A4.out).mono ?_); rintro e w' ⟨rfl, ⟨nd, rfl⟩⟩))
    go_ret
    exact ⟨by first | rfl | (simp [errW_none, errW_some] <;> rfl) | (simp [*, errW_none, errW_some] <;> rfl), bb_ HB⟩
  ·
   rw [if_neg c3] at H
   have qt : decide (a0_1 ≤ 400000000) = false := decide_eq_false c3
   clear c3
   obtain rfl := Option.some.inj H
   go_enter Try.func70, Try.ntmps70
   go_wp2_with (first | ((with_reducible refine gate_dst (N := 1) rfl ?_); refine box_event ?hg (N := 1) ?hd (cs := #[.int .i64 a0_0, .int .i64 a0_1]) (t := 56) ?hr ?_; (case hd => rfl); (case hg => rfl); (case hr => first | (go_simp; done) | (go_simp; rfl)); intro qa hg qy hbox hb; have qb := Aside0.mk (hbox); have qe := Aside0.mk ((by rw [hg]; exact (bz_ HB) : w.heap.size ≤ qa)); have qf := Aside0.mk ((by rw [hg]; exact (bz_ HB) : w.heap.size ≤ qa)); replace HB := bS_ HB hb; clear hb hbox hg; have qk : qy.cell? ⟨qa, 0, none⟩ = some (.int .i64 a0_0) := bc_ qb 0; have ql : qy.cell? ⟨qa, 1, none⟩ = some (.int .i64 a0_1) := bc_ qb 1; have qm := blk_frozen qb.out 0; have qn := blk_frozen qb.out 1))
   go_ret
   exact ⟨by first | rfl | (simp [errW_none, errW_some] <;> rfl) | (simp [*, errW_none, errW_some] <;> rfl), bb_ HB⟩
 ·
  rw [if_neg c2] at H
  have qs : decide (1 ≤ a0_1) = false := decide_eq_false c2
  clear c2
  obtain rfl := Option.some.inj H
  go_enter Try.func70, Try.ntmps70
  go_wp2_with (first | ((with_reducible refine gate_dst (N := 1) rfl ?_); refine box_event ?hg (N := 1) ?hd (cs := #[.int .i64 a0_0, .int .i64 a0_1]) (t := 56) ?hr ?_; (case hd => rfl); (case hg => rfl); (case hr => first | (go_simp; done) | (go_simp; rfl)); intro qa hg qz hbox hb; have qb := Aside0.mk (hbox); have qe := Aside0.mk ((by rw [hg]; exact (bz_ HB) : w.heap.size ≤ qa)); have qf := Aside0.mk ((by rw [hg]; exact (bz_ HB) : w.heap.size ≤ qa)); replace HB := bS_ HB hb; clear hb hbox hg; have qo : qz.cell? ⟨qa, 0, none⟩ = some (.int .i64 a0_0) := bc_ qb 0; have qp : qz.cell? ⟨qa, 1, none⟩ = some (.int .i64 a0_1) := bc_ qb 1; have qq := blk_frozen qb.out 0; have qr := blk_frozen qb.out 1))
  go_ret
  exact ⟨by first | rfl | (simp [errW_none, errW_some] <;> rfl) | (simp [*, errW_none, errW_some] <;> rfl), bb_ HB⟩

/-! ### impl_FixVariable: function 36 -/
mutual
def impl_FixVariable.j0 : Nat → Int → Bool → List Int → Int → Bool → Int → Int → Option (List Int × Int × Bool × Bool)
 | 0, _, _, _, _, _, _, _ => none
 | k + 1, x1, x28, x204000, x204001, x204002, x205000, x205001 => if x28 = true then (some (([] : List Int), 0, false, false)) else (if 0 ≤ (x204000.length : Int) then (if ((x204000.length : Int) : Int).toNat ≤ 35184372088832 then ((some (List.replicate ((x204000.length : Int) : Int).toNat 0 : List Int)).bind fun y208 => (impl_FixVariable.l0 k x1 y208 (y208.length : Int) 0 x204000 x204001 x204002 x205000 x205001)) else (none)) else (none))
def impl_FixVariable.l0 : Nat → Int → List Int → Int → Int → List Int → Int → Bool → Int → Int → Option (List Int × Int × Bool × Bool)
 | 0, _, _, _, _, _, _, _, _, _ => none
 | k + 1, x1, x8, x35, x36, x204000, x204001, x204002, x205000, x205001 => if x36 < x35 then (if 0 ≤ x36 then (if x36 < (x204000.length : Int) then (if x36 < (x8.length : Int) then (impl_FixVariable.l0 k x1 (x8.set (x36 : Int).toNat (wrap64 ((rd x204000 x36) * x205001))) x35 (wrap64 (x36 + 1)) x204000 x204001 x204002 x205000 x205001) else (none)) else (none)) else (none)) else (if 0 ≤ x1 then (if x1 < (x8.length : Int) then (if x1 < (x204000.length : Int) then ((impl_makeOf.f k (x8.set (x1 : Int).toNat 0) (wrap64 ((wrap64 (x204001 * x205001)) + (wrap64 ((rd x204000 x1) * x205000)))) x204002).bind fun qp => (some (qp.1, qp.2.1, qp.2.2.1, qp.2.2.2))) else (none)) else (none)) else (none))
end
def impl_FixVariable.f (k : Nat) (l0_0 : List Int) (a0_1 : Int) (a0_2 : Bool) (a1 : Int) (a2_0 : Int) (a2_1 : Int) : Option (List Int × Int × Bool × Bool) := (impl_IsAtom.f k l0_0 a0_1 a0_2).bind fun ze => (if ze = true then ((impl_IsRatio.f k a2_0 a2_1).bind fun qu => (if qu = true then (if a1 < 0 then (impl_FixVariable.j0 k a1 true l0_0 a0_1 a0_2 a2_0 a2_1) else (impl_FixVariable.j0 k a1 (decide (a1 ≥ (l0_0.length : Int))) l0_0 a0_1 a0_2 a2_0 a2_1)) else (impl_FixVariable.j0 k a1 true l0_0 a0_1 a0_2 a2_0 a2_1))) else (impl_FixVariable.j0 k a1 true l0_0 a0_1 a0_2 a2_0 a2_1))
theorem impl_FixVariable.mono_l : ∀ k, (∀ y0 y1 y2 y3 y4 y5 y6, LeO (impl_FixVariable.j0 k y0 y1 y2 y3 y4 y5 y6) (impl_FixVariable.j0 (k + 1) y0 y1 y2 y3 y4 y5 y6)) ∧ (∀ y0 y1 y2 y3 y4 y5 y6 y7 y8, LeO (impl_FixVariable.l0 k y0 y1 y2 y3 y4 y5 y6 y7 y8) (impl_FixVariable.l0 (k + 1) y0 y1 y2 y3 y4 y5 y6 y7 y8))
 | 0 => ⟨fun _ _ _ _ _ _ _ r h => by simp [impl_FixVariable.j0] at h, fun _ _ _ _ _ _ _ _ _ r h => by simp [impl_FixVariable.l0] at h⟩
 | k + 1 => by
  obtain ⟨ih0, ih1⟩ := impl_FixVariable.mono_l k
  refine ⟨?_, ?_⟩
  ·
   intro y0 y1 y2 y3 y4 y5 y6
   unfold impl_FixVariable.j0
   repeat' first
   | (with_reducible exact ih0 _ _ _ _ _ _ _)
   | (with_reducible exact ih1 _ _ _ _ _ _ _ _ _)
   | (with_reducible exact impl_IsAtom.mono _ _ _ _)
   | (with_reducible exact impl_IsRatio.mono _ _ _)
   | (with_reducible exact impl_makeOf.mono _ _ _ _)
   | (with_reducible exact LeO.refl _)
   | (with_reducible exact LeO.none _)
   | (with_reducible refine LeO.ite ?_ ?_)
   | (with_reducible refine LeO.bind ?_ (fun _ => ?_))
   | exact ih0 _ _ _ _ _ _ _
   | exact ih1 _ _ _ _ _ _ _ _ _
   | exact impl_IsAtom.mono _ _ _ _
   | exact impl_IsRatio.mono _ _ _
   | exact impl_makeOf.mono _ _ _ _
   | exact LeO.none _
   | refine LeO.ite ?_ ?_
   | refine LeO.bind ?_ (fun _ => ?_)
  ·
   intro y0 y1 y2 y3 y4 y5 y6 y7 y8
   unfold impl_FixVariable.l0
   repeat' first
   | (with_reducible exact ih0 _ _ _ _ _ _ _)
   | (with_reducible exact ih1 _ _ _ _ _ _ _ _ _)
   | (with_reducible exact impl_IsAtom.mono _ _ _ _)
   | (with_reducible exact impl_IsRatio.mono _ _ _)
   | (with_reducible exact impl_makeOf.mono _ _ _ _)
   | (with_reducible exact LeO.refl _)
   | (with_reducible exact LeO.none _)
   | (with_reducible refine LeO.ite ?_ ?_)
   | (with_reducible refine LeO.bind ?_ (fun _ => ?_))
   | exact ih0 _ _ _ _ _ _ _
   | exact ih1 _ _ _ _ _ _ _ _ _
   | exact impl_IsAtom.mono _ _ _ _
   | exact impl_IsRatio.mono _ _ _
   | exact impl_makeOf.mono _ _ _ _
   | exact LeO.none _
   | refine LeO.ite ?_ ?_
   | refine LeO.bind ?_ (fun _ => ?_)
theorem impl_FixVariable.mono : ∀ a0 a1 a2 a3 a4 a5 k, LeO (impl_FixVariable.f k a0 a1 a2 a3 a4 a5) (impl_FixVariable.f (k + 1) a0 a1 a2 a3 a4 a5) := by
 intro a0 a1 a2 a3 a4 a5 k
 obtain ⟨ih0, ih1⟩ := impl_FixVariable.mono_l k
 unfold impl_FixVariable.f
 repeat' first
   | (with_reducible exact ih0 _ _ _ _ _ _ _)
   | (with_reducible exact ih1 _ _ _ _ _ _ _ _ _)
   | (with_reducible exact impl_IsAtom.mono _ _ _ _)
   | (with_reducible exact impl_IsRatio.mono _ _ _)
   | (with_reducible exact impl_makeOf.mono _ _ _ _)
   | (with_reducible exact LeO.refl _)
   | (with_reducible exact LeO.none _)
   | (with_reducible refine LeO.ite ?_ ?_)
   | (with_reducible refine LeO.bind ?_ (fun _ => ?_))
   | exact ih0 _ _ _ _ _ _ _
   | exact ih1 _ _ _ _ _ _ _ _ _
   | exact impl_IsAtom.mono _ _ _ _
   | exact impl_IsRatio.mono _ _ _
   | exact impl_makeOf.mono _ _ _ _
   | exact LeO.none _
   | refine LeO.ite ?_ ?_
   | refine LeO.bind ?_ (fun _ => ?_)
def impl_FixVariable.T7 : Bool × List (List Nat × List Nat) := (true, [([], []), ([], []), ([], []), ([2], [2]), ([], []), ([3, 4], [3, 4]), ([5], [5]), ([], []), ([7], [7]), ([6, 8], [6, 8]), ([0, 1, 0, 1, 2, 3, 4, 5, 6, 7, 8, 9], [0, 1]), ([10, 9, 0, 1, 2, 3, 4, 5, 6, 7, 8, 9], [9, 10])])
def impl_FixVariable.B7 : List Nat := [0, 0, 0, 4, 0, 28, 60, 0, 128, 508, 1023, 2047]
theorem impl_FixVariable.tab7 : rtab .any (opsOf Try.f36 7) = impl_FixVariable.T7 := by kernel_rfl
theorem impl_FixVariable.bits7 : waitsOk impl_FixVariable.T7.2 impl_FixVariable.B7 = true := by kernel_rfl
def impl_FixVariable.T10 : Bool × List (List Nat × List Nat) := (true, [([], []), ([], []), ([1], [1]), ([], []), ([3], [3]), ([2, 4], [2, 4]), ([], []), ([6], [6]), ([], []), ([7, 8], [7, 8]), ([9], [9]), ([], []), ([11], [11]), ([10, 12], [10, 12]), ([5, 13], [5, 13]), ([], []), ([15], [15]), ([0, 14, 16], [0, 14, 16]), ([17], [17]), ([17], [17]), ([18, 17, 0, 1, 2, 3, 4, 5, 6, 7, 8, 9, 10, 11, 12, 13, 14, 15, 16, 17, 18, 19], [18]), ([19, 20, 0, 1, 2, 3, 4, 5, 6, 7, 8, 9, 10, 11, 12, 13, 14, 15, 16, 17, 18, 19, 20], [19])])
def impl_FixVariable.B10 : List Nat := [0, 0, 2, 0, 8, 30, 0, 64, 0, 448, 960, 0, 2048, 8128, 16382, 0, 32768, 131071, 262143, 262143, 1048575, 2097151]
theorem impl_FixVariable.tab10 : rtab .any (opsOf Try.f36 10) = impl_FixVariable.T10 := by kernel_rfl
theorem impl_FixVariable.bits10 : waitsOk impl_FixVariable.T10.2 impl_FixVariable.B10 = true := by kernel_rfl
set_option maxHeartbeats 8000000 in
set_option maxRecDepth 100000 in
theorem impl_FixVariable.calls (k : Nat) (A0_0 : Option Addr) (c0_0 : Nat) (l0_0 : List Int) (a0_1 : Int) (a0_2 : Bool) (a1 : Int) (a2_0 : Int) (a2_1 : Int) (r1 : List Int) (r2 : Int) (r3 : Bool) (r4 : Bool) (w : World) (hr0_0 : Kd.C (Kd.int .i64) w A0_0 l0_0.length l0_0) (hc0_0 : l0_0.length ≤ c0_0) (h : impl_FixVariable.f k l0_0 a0_1 a0_2 a1 a2_0 a2_1 = some (r1, r2, r3, r4)) :
  Calls Try.prog 36 #[.agg #[.slice A0_0 l0_0.length c0_0, .int .i64 a0_1, .bool a0_2], .int .i64 a1, .agg #[.int .i64 a2_0, .int .i64 a2_1]] w fun e w' => ∃ v0_ : Value, e = .returned (.tuple #[.agg #[v0_, .int .i64 r2, .bool r3], .bool r4]) ∧ Kd.R (Kd.int .i64) 3 w' w.heap.size (fun _ => True) v0_ r1 ∧ Below w.heap.size w w' := by
 have hu26 := Try.underlying26
 have hu56 := Try.underlying56
 have qv := Aside0.mk hr0_0
 have qw := Aside0.mk hc0_0
 clear hr0_0 hc0_0
 have HB := Aside0.mk (Below.refl w.heap.size w)
 have H : ((impl_IsAtom.f k l0_0 a0_1 a0_2).bind fun ze => (if ze = true then ((impl_IsRatio.f k a2_0 a2_1).bind fun qu => (if qu = true then (if a1 < 0 then (impl_FixVariable.j0 k a1 true l0_0 a0_1 a0_2 a2_0 a2_1) else (impl_FixVariable.j0 k a1 (decide (a1 ≥ (l0_0.length : Int))) l0_0 a0_1 a0_2 a2_0 a2_1)) else (impl_FixVariable.j0 k a1 true l0_0 a0_1 a0_2 a2_0 a2_1))) else (impl_FixVariable.j0 k a1 true l0_0 a0_1 a0_2 a2_0 a2_1))) = some (r1, r2, r3, r4) := h
 clear h
 have HC4 := Aside0.mk H
 clear H
 go_enter Try.func36, Try.ntmps36
 go_upto_region 1 with (first | ((with_reducible refine gate_dst (N := 3) rfl ?_); (try (refine gate_guard (by rfl) ?_; dsimp only)); refine box_event ?hg (N := 3) ?hd (cs := #[.slice A0_0 l0_0.length c0_0, .int .i64 a0_1, .bool a0_2]) (t := 26) ?hr ?_; (case hd => rfl); (case hg => rfl); (case hr => first | (go_simp; done) | (go_simp; rfl)); intro qf hg w5 hbox hb; have qa := Aside0.mk (hbox); have zT := Aside0.mk ((by rw [hg]; exact (bz_ HB) : w.heap.size ≤ qf)); have zU := Aside0.mk ((by rw [hg]; exact (bz_ HB) : w.heap.size ≤ qf)); replace HB := bS_ HB hb; clear hb hbox hg) | ((with_reducible refine gate_dst (N := 5) rfl ?_); (try (refine gate_guard (by rfl) ?_; dsimp only)); refine box_event ?hg (N := 5) ?hd (cs := #[.int .i64 a2_0, .int .i64 a2_1]) (t := 56) ?hr ?_; (case hd => rfl); (case hg => rfl); (case hr => first | (go_simp; done) | (go_simp; rfl)); intro qj hg w6 hbox hb; have qb := Aside0.mk (hbox); have zV := Aside0.mk ((by rw [hg]; exact (bz_ HB) : w.heap.size ≤ qj)); have zW := Aside0.mk ((by rw [hg]; exact (bz_ HB) : w.heap.size ≤ qj)); replace HB := bS_ HB hb; have qm := Aside0.mk ((nl_ qa hg : qf ≠ qj)); have qn := Aside0.mk ((ng_ qa hg : qj ≠ qf)); replace qa := kB_ qa hb; clear hb hbox hg) | ((with_reducible refine gate_dst (N := 6) rfl ?_); (try (refine gate_guard (by rfl) ?_; dsimp only)); refine box_event ?hg (N := 6) ?hd (cs := #[.slice none 0 0, .int .i64 0, .bool false]) (t := 26) ?hr ?_; (case hd => rfl); (case hg => rfl); (case hr => first | (go_simp; done) | (go_simp; rfl)); intro qe hg w7 hbox hb; have qc := Aside0.mk (hbox); have qo := Aside0.mk ((by rw [hg]; exact (bz_ HB) : w.heap.size ≤ qe)); have zX := Aside0.mk ((by rw [hg]; exact (bz_ HB) : w.heap.size ≤ qe)); replace HB := bS_ HB hb; have qd := Aside0.mk ((nl_ qa hg : qf ≠ qe)); have qi := Aside0.mk ((ng_ qa hg : qe ≠ qf)); replace qa := kB_ qa hb; have qg := Aside0.mk ((nl_ qb hg : qj ≠ qe)); have ql := Aside0.mk ((ng_ qb hg : qe ≠ qj)); replace qb := kB_ qb hb; clear hb hbox hg))
 (try simp only [Act.put, List.setIfInBounds_toArray, List.set_cons_zero, List.set_cons_succ])
 go_cut [28] (fun v28 wc => ∃ (kq : Nat) (qx : Bool), v28 = .bool qx ∧ Aside0 (impl_FixVariable.j0 kq a1 qx l0_0 a0_1 a0_2 a2_0 a2_1 = some (r1, r2, r3, r4)) ∧ Aside0 (kq ≤ k) ∧ Aside0 (wc.heap[qf]? = some (.cells #[(.slice A0_0 l0_0.length c0_0), .int .i64 a0_1, .bool a0_2] 26 (0, 0))) ∧ Aside0 (wc.heap[qj]? = some (.cells #[.int .i64 a2_0, .int .i64 a2_1] 56 (0, 0))) ∧ Aside0 (wc.heap[qe]? = some (.cells #[(.slice none 0 0), .int .i64 0, .bool false] 26 (0, 0))) ∧ Aside0 (Below w.heap.size w wc))
 case first =>
  have H := HC4.out
  clear HC4
  replace H := Option.bind_eq_some_iff.mp H
  obtain ⟨ze, A80, H⟩ := H
  replace H : (if ze = true then ((impl_IsRatio.f k a2_0 a2_1).bind fun qu => (if qu = true then (if a1 < 0 then (impl_FixVariable.j0 k a1 true l0_0 a0_1 a0_2 a2_0 a2_1) else (impl_FixVariable.j0 k a1 (decide (a1 ≥ (l0_0.length : Int))) l0_0 a0_1 a0_2 a2_0 a2_1)) else (impl_FixVariable.j0 k a1 true l0_0 a0_1 a0_2 a2_0 a2_1))) else (impl_FixVariable.j0 k a1 true l0_0 a0_1 a0_2 a2_0 a2_1)) = some (r1, r2, r3, r4) := H
  have A8 := Aside0.mk A80
  clear A80
  by_cases c9 : ze = true
  ·
   subst c9
   have H1 : ((impl_IsRatio.f k a2_0 a2_1).bind fun qu => (if qu = true then (if a1 < 0 then (impl_FixVariable.j0 k a1 true l0_0 a0_1 a0_2 a2_0 a2_1) else (impl_FixVariable.j0 k a1 (decide (a1 ≥ (l0_0.length : Int))) l0_0 a0_1 a0_2 a2_0 a2_1)) else (impl_FixVariable.j0 k a1 true l0_0 a0_1 a0_2 a2_0 a2_1))) = some (r1, r2, r3, r4) := by rw [if_pos rfl] at H; exact H
   clear H
   have H := H1
   clear H1
   replace H := Option.bind_eq_some_iff.mp H
   obtain ⟨qu, A100, H⟩ := H
   replace H : (if qu = true then (if a1 < 0 then (impl_FixVariable.j0 k a1 true l0_0 a0_1 a0_2 a2_0 a2_1) else (impl_FixVariable.j0 k a1 (decide (a1 ≥ (l0_0.length : Int))) l0_0 a0_1 a0_2 a2_0 a2_1)) else (impl_FixVariable.j0 k a1 true l0_0 a0_1 a0_2 a2_0 a2_1)) = some (r1, r2, r3, r4) := H
   have A10 := Aside0.mk A100
   clear A100
   by_cases c11 : qu = true
   ·
    subst c11
    have H1 : (if a1 < 0 then (impl_FixVariable.j0 k a1 true l0_0 a0_1 a0_2 a2_0 a2_1) else (impl_FixVariable.j0 k a1 (decide (a1 ≥ (l0_0.length : Int))) l0_0 a0_1 a0_2 a2_0 a2_1)) = some (r1, r2, r3, r4) := by rw [if_pos rfl] at H; exact H
    clear H
    have H := H1
    clear H1
    by_cases c12 : a1 < 0
    ·
     rw [if_pos c12] at H
     have qt : decide (a1 < 0) = true := decide_eq_true c12
     clear c12
     (first | rw [qt] | (simp only [i64_w, i32_w]; rw [qt]) | skip)
     have H' := Aside0.mk H
     clear H
     have zY := qm.out
     have zZ := qn.out
     have z0 := qd.out
     have z1 := qi.out
     have qy : w7.cell? ⟨qf, 0, none⟩ = some (.slice A0_0 l0_0.length c0_0) := bc_ qa 0
     have qz : w7.cell? ⟨qf, 1, none⟩ = some (.int .i64 a0_1) := bc_ qa 1
     have qA : w7.cell? ⟨qf, 2, none⟩ = some (.bool a0_2) := bc_ qa 2
     have qB := blk_frozen qa.out 0
     have qC := blk_frozen qa.out 1
     have qD := blk_frozen qa.out 2
     go_wp2_with (first | ((with_reducible refine gate_callee (f := 54) rfl ?_); refine goesL_ (some 11) rfl rfl Try.func54 (by kernel_rfl) rfl #[.agg #[.slice A0_0 l0_0.length c0_0, .int .i64 a0_1, .bool a0_2]] rfl (by (try simp only [List.map_toArray, List.map_cons, List.map_nil]); first | done | rfl | (simp only [List.length_drop, List.length_take]; rfl)) ?_; (with_reducible refine (impl_IsAtom.calls k _ _ l0_0 a0_1 a0_2 true _ ?side1 ?side2 A8.out).mono ?_); (case side1 => exact cb_ qv HB); (case side2 => exact qw.out); rintro e z2 ⟨rfl, hb⟩; refine ⟨_, rfl, ?_⟩; replace qa := kB_ qa hb; replace qb := kB_ qb hb; replace qc := kB_ qc hb; replace HB := bS_ HB hb; (try clear hb); (try clear hb2); (try clear hk); (try clear hi); have z3 := qg.out; have z4 := ql.out; have qE : z2.cell? ⟨qj, 0, none⟩ = some (.int .i64 a2_0) := bc_ qb 0; have qF : z2.cell? ⟨qj, 1, none⟩ = some (.int .i64 a2_1) := bc_ qb 1; have qG := blk_frozen qb.out 0; have qH := blk_frozen qb.out 1) | (go_at_call 70; (with_reducible refine (impl_IsRatio.calls k a2_0 a2_1 true _ A10.out).mono ?_); rintro e jH ⟨rfl, hb⟩; replace qa := kB_ qa hb; replace qb := kB_ qb hb; replace qc := kB_ qc hb; replace HB := bS_ HB hb; (try clear hb); (try clear hb2); (try clear hk); (try clear hi)))
     go_meet
     case rel => exact ⟨_, (true), (by first | rfl | (simp; done) | (simp [*]; done)), H', ⟨by first | omega | exact Nat.le_refl _⟩, ⟨kf_ qa⟩, ⟨kf_ qb⟩, ⟨kf_ qc⟩, ⟨bb_ HB⟩⟩
    ·
     rw [if_neg c12] at H
     have qt : decide (a1 < 0) = false := decide_eq_false c12
     clear c12
     (first | rw [qt] | (simp only [i64_w, i32_w]; rw [qt]) | skip)
     have H' := Aside0.mk H
     clear H
     have z5 := qm.out
     have z6 := qn.out
     have z7 := qd.out
     have z8 := qi.out
     have qI : w7.cell? ⟨qf, 0, none⟩ = some (.slice A0_0 l0_0.length c0_0) := bc_ qa 0
     have qJ : w7.cell? ⟨qf, 1, none⟩ = some (.int .i64 a0_1) := bc_ qa 1
     have qK : w7.cell? ⟨qf, 2, none⟩ = some (.bool a0_2) := bc_ qa 2
     have qL := blk_frozen qa.out 0
     have qM := blk_frozen qa.out 1
     have qN := blk_frozen qa.out 2
     go_wp2_with (first | ((with_reducible refine gate_callee (f := 54) rfl ?_); refine goesL_ (some 11) rfl rfl Try.func54 (by kernel_rfl) rfl #[.agg #[.slice A0_0 l0_0.length c0_0, .int .i64 a0_1, .bool a0_2]] rfl (by (try simp only [List.map_toArray, List.map_cons, List.map_nil]); first | done | rfl | (simp only [List.length_drop, List.length_take]; rfl)) ?_; (with_reducible refine (impl_IsAtom.calls k _ _ l0_0 a0_1 a0_2 true _ ?side1 ?side2 A8.out).mono ?_); (case side1 => exact cb_ qv HB); (case side2 => exact qw.out); rintro e z9 ⟨rfl, hb⟩; refine ⟨_, rfl, ?_⟩; replace qa := kB_ qa hb; replace qb := kB_ qb hb; replace qc := kB_ qc hb; replace HB := bS_ HB hb; (try clear hb); (try clear hb2); (try clear hk); (try clear hi); have ja := qg.out; have jb := ql.out; have qO : z9.cell? ⟨qj, 0, none⟩ = some (.int .i64 a2_0) := bc_ qb 0; have qP : z9.cell? ⟨qj, 1, none⟩ = some (.int .i64 a2_1) := bc_ qb 1; have qQ := blk_frozen qb.out 0; have qR := blk_frozen qb.out 1) | (go_at_call 70; (with_reducible refine (impl_IsRatio.calls k a2_0 a2_1 true _ A10.out).mono ?_); rintro e zN ⟨rfl, hb⟩; replace qa := kB_ qa hb; replace qb := kB_ qb hb; replace qc := kB_ qc hb; replace HB := bS_ HB hb; (try clear hb); (try clear hb2); (try clear hk); (try clear hi); have qS : zN.cell? ⟨qf, 0, none⟩ = some (.slice A0_0 l0_0.length c0_0) := bc_ qa 0; have qT : zN.cell? ⟨qf, 1, none⟩ = some (.int .i64 a0_1) := bc_ qa 1; have qU : zN.cell? ⟨qf, 2, none⟩ = some (.bool a0_2) := bc_ qa 2; have qV := blk_frozen qa.out 0; have qW := blk_frozen qa.out 1; have qX := blk_frozen qa.out 2))
     go_meet
     case rel => exact ⟨_, (decide (a1 ≥ (l0_0.length : Int))), (by first | rfl | (simp; done) | (simp [*]; done)), H', ⟨by first | omega | exact Nat.le_refl _⟩, ⟨kf_ qa⟩, ⟨kf_ qb⟩, ⟨kf_ qc⟩, ⟨bb_ HB⟩⟩
   ·
    replace c11 := Bool.eq_false_iff.mpr c11
    subst c11
    have H1 : (impl_FixVariable.j0 k a1 true l0_0 a0_1 a0_2 a2_0 a2_1) = some (r1, r2, r3, r4) := by rw [if_neg (show ¬ (false = true) by decide)] at H; exact H
    clear H
    have H := H1
    clear H1
    have H' := Aside0.mk H
    clear H
    have jc := qm.out
    have jd := qn.out
    have je := qd.out
    have jf := qi.out
    have qY : w7.cell? ⟨qf, 0, none⟩ = some (.slice A0_0 l0_0.length c0_0) := bc_ qa 0
    have qZ : w7.cell? ⟨qf, 1, none⟩ = some (.int .i64 a0_1) := bc_ qa 1
    have q0 : w7.cell? ⟨qf, 2, none⟩ = some (.bool a0_2) := bc_ qa 2
    have q1 := blk_frozen qa.out 0
    have q2 := blk_frozen qa.out 1
    have q3 := blk_frozen qa.out 2
    go_wp2_with (first | ((with_reducible refine gate_callee (f := 54) rfl ?_); refine goesL_ (some 11) rfl rfl Try.func54 (by kernel_rfl) rfl #[.agg #[.slice A0_0 l0_0.length c0_0, .int .i64 a0_1, .bool a0_2]] rfl (by (try simp only [List.map_toArray, List.map_cons, List.map_nil]); first | done | rfl | (simp only [List.length_drop, List.length_take]; rfl)) ?_; (with_reducible refine (impl_IsAtom.calls k _ _ l0_0 a0_1 a0_2 true _ ?side1 ?side2 A8.out).mono ?_); (case side1 => exact cb_ qv HB); (case side2 => exact qw.out); rintro e jg ⟨rfl, hb⟩; refine ⟨_, rfl, ?_⟩; replace qa := kB_ qa hb; replace qb := kB_ qb hb; replace qc := kB_ qc hb; replace HB := bS_ HB hb; (try clear hb); (try clear hb2); (try clear hk); (try clear hi); have jh := qg.out; have ji := ql.out; have q4 : jg.cell? ⟨qj, 0, none⟩ = some (.int .i64 a2_0) := bc_ qb 0; have q5 : jg.cell? ⟨qj, 1, none⟩ = some (.int .i64 a2_1) := bc_ qb 1; have q6 := blk_frozen qb.out 0; have q7 := blk_frozen qb.out 1) | (go_at_call 70; (with_reducible refine (impl_IsRatio.calls k a2_0 a2_1 false _ A10.out).mono ?_); rintro e jI ⟨rfl, hb⟩; replace qa := kB_ qa hb; replace qb := kB_ qb hb; replace qc := kB_ qc hb; replace HB := bS_ HB hb; (try clear hb); (try clear hb2); (try clear hk); (try clear hi)))
    go_meet
    case rel => exact ⟨_, (true), (by first | rfl | (simp; done) | (simp [*]; done)), H', ⟨by first | omega | exact Nat.le_refl _⟩, ⟨kf_ qa⟩, ⟨kf_ qb⟩, ⟨kf_ qc⟩, ⟨bb_ HB⟩⟩
  ·
   replace c9 := Bool.eq_false_iff.mpr c9
   subst c9
   have H1 : (impl_FixVariable.j0 k a1 true l0_0 a0_1 a0_2 a2_0 a2_1) = some (r1, r2, r3, r4) := by rw [if_neg (show ¬ (false = true) by decide)] at H; exact H
   clear H
   have H := H1
   clear H1
   have H' := Aside0.mk H
   clear H
   have jj := qm.out
   have jk := qn.out
   have jl := qd.out
   have jm := qi.out
   have q8 : w7.cell? ⟨qf, 0, none⟩ = some (.slice A0_0 l0_0.length c0_0) := bc_ qa 0
   have q9 : w7.cell? ⟨qf, 1, none⟩ = some (.int .i64 a0_1) := bc_ qa 1
   have za : w7.cell? ⟨qf, 2, none⟩ = some (.bool a0_2) := bc_ qa 2
   have zb := blk_frozen qa.out 0
   have zc := blk_frozen qa.out 1
   have zd := blk_frozen qa.out 2
   go_wp2_with (first | ((with_reducible refine gate_callee (f := 54) rfl ?_); refine goesL_ (some 11) rfl rfl Try.func54 (by kernel_rfl) rfl #[.agg #[.slice A0_0 l0_0.length c0_0, .int .i64 a0_1, .bool a0_2]] rfl (by (try simp only [List.map_toArray, List.map_cons, List.map_nil]); first | done | rfl | (simp only [List.length_drop, List.length_take]; rfl)) ?_; (with_reducible refine (impl_IsAtom.calls k _ _ l0_0 a0_1 a0_2 false _ ?side1 ?side2 A8.out).mono ?_); (case side1 => exact cb_ qv HB); (case side2 => exact qw.out); rintro e jJ ⟨rfl, hb⟩; refine ⟨_, rfl, ?_⟩; replace qa := kB_ qa hb; replace qb := kB_ qb hb; replace qc := kB_ qc hb; replace HB := bS_ HB hb; (try clear hb); (try clear hb2); (try clear hk); (try clear hi)))
   go_meet
   case rel => exact ⟨_, (true), (by first | rfl | (simp; done) | (simp [*]; done)), H', ⟨by first | omega | exact Nat.le_refl _⟩, ⟨kf_ qa⟩, ⟨kf_ qb⟩, ⟨kf_ qc⟩, ⟨bb_ HB⟩⟩
 case rest =>
  clear HC4
  try clear c1
  try clear c2
  try clear p2
  try clear c3
  try clear c5
  try clear c9
  try clear c11
  try clear c12
  try clear qt
  try clear c13
  try clear c14
  try clear c17
  try clear c20
  try clear c21
  try clear c24
  try clear c28
  try clear c29
  try clear c32
  try clear c35
  try clear c36
  try clear qy
  try clear qz
  try clear qA
  try clear qE
  try clear qF
  try clear qI
  try clear qJ
  try clear qK
  try clear qO
  try clear qP
  try clear qS
  try clear qT
  try clear qU
  try clear qY
  try clear qZ
  try clear q0
  try clear q4
  try clear q5
  try clear q8
  try clear q9
  try clear za
  try clear qB
  try clear qC
  try clear qD
  try clear qG
  try clear qH
  try clear qL
  try clear qM
  try clear qN
  try clear qQ
  try clear qR
  try clear qV
  try clear qW
  try clear qX
  try clear q1
  try clear q2
  try clear q3
  try clear q6
  try clear q7
  try clear zb
  try clear zc
  try clear zd
  obtain ⟨kq, qx, rfl, HA, HJ3, qa, qb, qc, HB⟩ := hcut
  cases kq with
  | zero => exact absurd HA.out (by simp [impl_FixVariable.j0])
  | succ kj3 =>
   have H := HA.out
   clear HA
   simp only [impl_FixVariable.j0] at H
   by_cases c39 : qx = true
   ·
    subst c39
    have H1 : (some (([] : List Int), 0, false, false)) = some (r1, r2, r3, r4) := by rw [if_pos rfl] at H; exact H
    clear H
    have H := H1
    clear H1
    simp only [Option.some.injEq, Prod.mk.injEq] at H
    obtain ⟨rfl, rfl, rfl, rfl⟩ := H
    have jn := qi.out
    have jo := qd.out
    have jp := ql.out
    have jq := qg.out
    have zi : wc.cell? ⟨qe, 0, none⟩ = some (.slice none 0 0) := bc_ qc 0
    have zj : wc.cell? ⟨qe, 1, none⟩ = some (.int .i64 0) := bc_ qc 1
    have zk : wc.cell? ⟨qe, 2, none⟩ = some (.bool false) := bc_ qc 2
    have zl := blk_frozen qc.out 0
    have zm := blk_frozen qc.out 1
    have zn := blk_frozen qc.out 2
    go_wp2
    refine bodyPost_ret (results_ct rfl _ _ qe 26 #[.slice none 0 0, .int .i64 0, .bool false] (0, 0) _ rfl (by (with_reducible repeat (first | refine blk_drewN ?_ _ | refine blk_drew ?_ | refine blk_alloc ?_ _)); refine blk_put (cs := #[.slice none 0 0, .int .i64 0, .bool false]) ?_ 2 _ rfl; (with_reducible repeat (first | refine blk_drewN ?_ _ | refine blk_drew ?_ | refine blk_alloc ?_ _)); refine blk_put (cs := #[.slice none 0 0, .int .i64 0, .bool false]) ?_ 1 _ rfl; (with_reducible repeat (first | refine blk_drewN ?_ _ | refine blk_drew ?_ | refine blk_alloc ?_ _)); refine blk_put (cs := #[.slice none 0 0, .int .i64 0, .bool false]) ?_ 0 _ rfl; (with_reducible repeat (first | refine blk_drewN ?_ _ | refine blk_drew ?_ | refine blk_alloc ?_ _)); exact qc.out) Try.underlying26 rfl (by kernel_rfl)) rfl ?_
    exact ⟨_, by first | rfl | (simp [errW_none, errW_some] <;> rfl) | (simp [*, errW_none, errW_some] <;> rfl), by first | exact Kd.R_nil _ _ _ _ _ | exact Kd.N_nil _ _ _ _ _ | exact Kd.V_nil _ _ _ _ _ | exact Kd.Q_nil _ _ _ _ _ | exact Kd.S_nil _ _ _ _ _, bb_ HB⟩
   ·
    replace c39 := Bool.eq_false_iff.mpr c39
    subst c39
    have H1 : (if 0 ≤ (l0_0.length : Int) then (if ((l0_0.length : Int) : Int).toNat ≤ 35184372088832 then ((some (List.replicate ((l0_0.length : Int) : Int).toNat 0 : List Int)).bind fun y208 => (impl_FixVariable.l0 kj3 a1 y208 (y208.length : Int) 0 l0_0 a0_1 a0_2 a2_0 a2_1)) else (none)) else (none)) = some (r1, r2, r3, r4) := by rw [if_neg (show ¬ (false = true) by decide)] at H; exact H
    clear H
    have H := H1
    clear H1
    by_cases c43 : 0 ≤ (l0_0.length : Int)
    ·
     rw [if_pos c43] at H
     have zF := eq_true c43
     have zG : decide (0 ≤ (l0_0.length : Int)) = true := decide_eq_true c43
     clear c43
     by_cases c44 : ((l0_0.length : Int) : Int).toNat ≤ 35184372088832
     ·
      rw [if_pos c44] at H
      have zH := eq_true c44
      have zI : decide (((l0_0.length : Int) : Int).toNat ≤ 35184372088832) = true := decide_eq_true c44
      clear c44
      obtain ⟨y208, hy208⟩ : ∃ y_ : List Int, y_ = (List.replicate ((l0_0.length : Int) : Int).toNat 0) := ⟨_, rfl⟩
      replace H : (impl_FixVariable.l0 kj3 a1 y208 (y208.length : Int) 0 l0_0 a0_1 a0_2 a2_0 a2_1) = some (r1, r2, r3, r4) := by first | (rw [hy208]; with_reducible exact H) | (have H2_ := (Option.bind_some _ _).symm.trans H; rw [hy208]; with_reducible exact H2_) | (have H2_ := (Option.bind_some _ _).symm.trans H; with_reducible exact H2_) | with_reducible exact H | (rw [hy208]; exact H) | exact H
      have Ny208 := Aside0.mk hy208
      clear hy208
      have H' := Aside0.mk H
      clear H
      have jr := qm.out
      have js := qn.out
      have jt := qd.out
      have ju := qi.out
      have zo : wc.cell? ⟨qf, 0, none⟩ = some (.slice A0_0 l0_0.length c0_0) := bc_ qa 0
      have zp : wc.cell? ⟨qf, 1, none⟩ = some (.int .i64 a0_1) := bc_ qa 1
      have zq : wc.cell? ⟨qf, 2, none⟩ = some (.bool a0_2) := bc_ qa 2
      have zr := blk_frozen qa.out 0
      have zs := blk_frozen qa.out 1
      have zt := blk_frozen qa.out 2
      go_wp2_with (first | ((with_reducible refine gate_dst (N := 33) rfl ?_); (try (refine gate_guard (by rfl) ?_; dsimp only)); refine Kd.R_make (Kd.int .i64) _ 3 rfl (N := 33) rfl 22 _ _ rfl (l0_0.length : Int) rfl rfl Try.underlying22 (.int .i64 0) 8 info3 rfl (by decide) (by omega) 0 (ok := fun _ => True) (okp := fun _ => True) rfl (fun _ hk => hk) trivial (of_decide_eq_true (by first | (with_reducible assumption) | assumption)) (Nat.le_trans (Nat.mul_le_mul_right _ (of_decide_eq_true (by first | (with_reducible assumption) | assumption) : (l0_0.length : Int).toNat ≤ 35184372088832)) (by omega)) (Below.refl _ _) (Nat.le_refl _) ?_; intro jB jK ho49 hb hg_ hnew_; clear hg_ hnew_; (first | rw [← Ny208.out] at ho49 | (simp only [Int.reduceToNat] at ho49; rw [← Ny208.out] at ho49)); have zx := Aside0.mk (Kd.R_lower ho49 (bz_ HB)); replace qa := kB_ qa hb; replace qb := kB_ qb hb; replace qc := kB_ qc hb; replace HB := bS_ HB hb; clear hb ho49; obtain ⟨zO, zB, eo50⟩ := Kd.R_slice zx.out; subst eo50))
      go_loopg [36] kj3 (fun kq v36 w' => ∃ (qq : List Int) (qh : Int), v36 = .int .i64 qh ∧ Aside0 (impl_FixVariable.l0 kq a1 qq (y208.length : Int) qh l0_0 a0_1 a0_2 a2_0 a2_1 = some (r1, r2, r3, r4)) ∧ Aside0 (kq ≤ kj3) ∧ Aside0 (Kd.R (Kd.int .i64) 3 w' w.heap.size (fun _ => True) (.slice zO y208.length zB) qq) ∧ Aside0 (w'.heap[qf]? = some (.cells #[(.slice A0_0 l0_0.length c0_0), .int .i64 a0_1, .bool a0_2] 26 (0, 0))) ∧ Aside0 (w'.heap[qj]? = some (.cells #[.int .i64 a2_0, .int .i64 a2_1] 56 (0, 0))) ∧ Aside0 (w'.heap[qe]? = some (.cells #[(.slice none 0 0), .int .i64 0, .bool false] 26 (0, 0))) ∧ Aside0 (Below w.heap.size w w'))
      case atStart => exact ⟨(y208), (0), (by first | rfl | (simp; done) | (simp [*]; done)), H', ⟨Nat.le_refl _⟩, ⟨by (with_reducible repeat (first | apply Kd.R_alloc | apply Kd.R_drewN | apply Kd.R_drew)); exact zx.out⟩, ⟨kf_ qa⟩, ⟨kf_ qb⟩, ⟨kf_ qc⟩, ⟨bb_ HB⟩⟩
      case round =>
       clear H'
       try clear c1
       try clear c2
       try clear p2
       try clear c3
       try clear c4
       try clear c5
       try clear c9
       try clear c11
       try clear c12
       try clear qt
       try clear c13
       try clear c14
       try clear c17
       try clear c20
       try clear c21
       try clear c24
       try clear c28
       try clear c29
       try clear c32
       try clear c35
       try clear c36
       try clear c39
       try clear c40
       try clear c41
       try clear c43
       try clear zF
       try clear zG
       try clear c44
       try clear zH
       try clear zI
       try clear c45
       try clear c46
       try clear qy
       try clear qz
       try clear qA
       try clear qE
       try clear qF
       try clear qI
       try clear qJ
       try clear qK
       try clear qO
       try clear qP
       try clear qS
       try clear qT
       try clear qU
       try clear qY
       try clear qZ
       try clear q0
       try clear q4
       try clear q5
       try clear q8
       try clear q9
       try clear za
       try clear zi
       try clear zj
       try clear zk
       try clear zo
       try clear zp
       try clear zq
       try clear qB
       try clear qC
       try clear qD
       try clear qG
       try clear qH
       try clear qL
       try clear qM
       try clear qN
       try clear qQ
       try clear qR
       try clear qV
       try clear qW
       try clear qX
       try clear q1
       try clear q2
       try clear q3
       try clear q6
       try clear q7
       try clear zb
       try clear zc
       try clear zd
       try clear zl
       try clear zm
       try clear zn
       try clear zr
       try clear zs
       try clear zt
       try clear p2
       obtain ⟨qq, qh, rfl, HA, HK2, qk, qa, qb, qc, HB⟩ := hrel
       have hl8_2 := (Kd.R_reads' qk.out).1
       rw [hl8_2] at qk
       (try simp only [hl8_2])
       (try simp only [hl8_2] at qa)
       (try simp only [hl8_2] at qb)
       (try simp only [hl8_2] at qc)
       cases gk with
       | zero => exact absurd HA.out (by simp [impl_FixVariable.l0])
       | succ k2 =>
        have H := HA.out
        clear HA
        simp only [impl_FixVariable.l0] at H
        by_cases c51 : qh < (y208.length : Int)
        ·
         rw [if_pos c51] at H
         have zg : decide (qh < (y208.length : Int)) = true := decide_eq_true c51
         have c51z := zg
         (try rw [hl8_2] at c51z)
         clear c51
         by_cases c52 : 0 ≤ qh
         ·
          rw [if_pos c52] at H
          have jv : decide (0 ≤ qh) = true := decide_eq_true c52
          clear c52
          by_cases c53 : qh < (l0_0.length : Int)
          ·
           rw [if_pos c53] at H
           have jw : decide (qh < (l0_0.length : Int)) = true := decide_eq_true c53
           clear c53
           by_cases c54 : qh < (qq.length : Int)
           ·
            rw [if_pos c54] at H
            have jx : decide (qh < (qq.length : Int)) = true := decide_eq_true c54
            clear c54
            obtain ⟨y212, hy212⟩ : ∃ y_ : List Int, y_ = (qq.set (qh : Int).toNat (wrap64 ((rd l0_0 qh) * a2_1))) := ⟨_, rfl⟩
            replace H : (impl_FixVariable.l0 k2 a1 y212 (y208.length : Int) (wrap64 (qh + 1)) l0_0 a0_1 a0_2 a2_0 a2_1) = some (r1, r2, r3, r4) := by first | (rw [hy212]; with_reducible exact H) | (have H2_ := (Option.bind_some _ _).symm.trans H; rw [hy212]; with_reducible exact H2_) | (have H2_ := (Option.bind_some _ _).symm.trans H; with_reducible exact H2_) | with_reducible exact H | (rw [hy212]; exact H) | exact H
            have Ny212 := Aside0.mk hy212
            clear hy212
            have H' := Aside0.mk H
            clear H
            try go_wp2
            replace qk := Aside0.mk (Kd.R_drew qk.out); replace qa := Aside0.mk (blk_drew qa.out); replace qb := Aside0.mk (blk_drew qb.out); replace qc := Aside0.mk (blk_drew qc.out); replace HB := Aside0.mk (below_drew1 HB.out)
            have p211 : 0 ≤ (qh : Int) := of_decide_eq_true (by first | (with_reducible assumption) | assumption)
            have q211 : qh < (l0_0.length : Int) := of_decide_eq_true (by first | (with_reducible assumption) | assumption)
            obtain ⟨zy, e211, qr⟩ := Kd.at_int qv.out qh p211 q211
            have hw211_0 := qr
            cases e211
            replace qr := (HB.out.cell (World.block_lt_of_cell? w _ qr)).trans qr
            replace p211 := eq_true p211
            replace q211 := eq_true q211
            have p55 : 0 ≤ (qh : Int) := of_decide_eq_true (by first | (with_reducible assumption) | assumption)
            have q55 : (qh : Int) < ((qq.length : Int) : Int) := of_decide_eq_true (by first | (with_reducible assumption) | assumption)
            obtain ⟨go55, jC, eo55, zJ, gl55, cl55, HG55⟩ := Kd.R_form qk.out (by omega)
            (first | cases eo55 | (injection eo55 with ea_ en_ ec_; (first | subst ea_ | (injection ea_ with ea_; subst ea_)); subst ec_; clear en_))
            have jD := Aside0.mk zJ
            have zP := Aside0.mk HG55
            clear zJ gl55 HG55
            obtain ⟨zC, hf55_0⟩ := Kd.R_celln 0 qk.out (qh : Int) p55 q55
            replace p55 := eq_true p55
            replace q55 := eq_true q55
            have zD := Kd.R_putn qk.out (qh : Int) (wrap64 ((rd l0_0 qh) * a2_1))
            rw [← Ny212.out] at zD
            have HQ57 := Aside0.mk zD
            clear zD
            refine start_ (n := 12) (S := fun w' => w'.cell? ⟨qf, 0, none⟩ = some (.slice (some zy) l0_0.length c0_0) ∧ w'.cell? ⟨qf, 1, none⟩ = some (.int .i64 a0_1) ∧ w'.cell? ⟨qf, 2, none⟩ = some (.bool a0_2) ∧ w'.cell? ⟨qj, 0, none⟩ = some (.int .i64 a2_0) ∧ w'.cell? ⟨qj, 1, none⟩ = some (.int .i64 a2_1) ∧ w'.cell? (zy.add (qh).toNat) = some (.int .i64 (rd l0_0 qh))) (ds := [11]) #[false, false, false, false, false, false, false, false, false, false, false, false] (by kernel_rfl) rfl rfl ⟨bc_ qa 0, bc_ qa 1, bc_ qa 2, bc_ qb 0, bc_ qb 1, ((HB.out.cell (World.block_lt_of_cell? w _ hw211_0)).trans hw211_0)⟩ (fun hHeld => ?_); refine with_tabW impl_FixVariable.tab7 impl_FixVariable.bits7 (fun HT_ HW_ => ?_)
            generalize wr.drew = jL at qk qa qb qc HB zP HQ57 hf55_0 qr zC hHeld ⊢
            refine pure_ (i := 0) (N := some 39) (v := ?_) (a' := ?_) #[true, false, false, false, false, false, false, false, false, false, false, false] rfl rfl (any_of HT_.out (by kernel_rfl)) (fun _ _ _ h => h) (Or.inl ⟨by rfl, ?_⟩) ?_ ?_
            rotate_left
            ·
             intro w'
             go_simp
             with_reducible rfl
            rotate_left
            ·
             simp only [Act.put, List.setIfInBounds_toArray, List.set_cons_zero, List.set_cons_succ, i64_w, i32_w]
             rfl
            refine pure_ (i := 1) (N := some 40) (v := ?_) (a' := ?_) #[true, true, false, false, false, false, false, false, false, false, false, false] rfl rfl (any_of HT_.out (by kernel_rfl)) (fun _ _ _ h => h) (Or.inl ⟨by rfl, ?_⟩) ?_ ?_
            rotate_left
            ·
             intro w'
             go_simp
             with_reducible rfl
            rotate_left
            ·
             simp only [Act.put, List.setIfInBounds_toArray, List.set_cons_zero, List.set_cons_succ, i64_w, i32_w]
             rfl
            refine pure_ (i := 2) (N := some 41) (v := ?_) (a' := ?_) #[true, true, true, false, false, false, false, false, false, false, false, false] rfl rfl (any_of HT_.out (by kernel_rfl)) (fun _ _ _ h => h) (Or.inl ⟨by rfl, ?_⟩) ?_ ?_
            rotate_left
            ·
             intro w'
             go_simp
             with_reducible rfl
            rotate_left
            ·
             simp only [Act.put, List.setIfInBounds_toArray, List.set_cons_zero, List.set_cons_succ, i64_w, i32_w]
             rfl
            refine pure_ (i := 4) (N := some 43) (v := ?_) (a' := ?_) #[true, true, true, false, true, false, false, false, false, false, false, false] rfl rfl (any_of HT_.out (by kernel_rfl)) (fun _ _ _ h => h) (Or.inl ⟨by rfl, ?_⟩) ?_ ?_
            rotate_left
            ·
             intro w'
             go_simp
             with_reducible rfl
            rotate_left
            ·
             simp only [Act.put, List.setIfInBounds_toArray, List.set_cons_zero, List.set_cons_succ, i64_w, i32_w]
             rfl
            refine pure_ (i := 7) (N := some 46) (v := ?_) (a' := ?_) #[true, true, true, false, true, false, false, true, false, false, false, false] rfl rfl (any_of HT_.out (by kernel_rfl)) (fun _ _ _ h => h) (Or.inl ⟨by rfl, ?_⟩) ?_ ?_
            rotate_left
            ·
             intro w'
             go_simp
             with_reducible rfl
            rotate_left
            ·
             simp only [Act.put, List.setIfInBounds_toArray, List.set_cons_zero, List.set_cons_succ, i64_w, i32_w]
             rfl
            refine take_ (i := 3) (N := some 42) (v := ?_) (a' := ?_) #[true, true, true, true, true, false, false, true, false, false, false, false] rfl rfl (take_ofW HT_.out HW_.out (by kernel_rfl)) (fun _ _ _ h => h) (Or.inl ⟨by rfl, ?_⟩) hHeld ?_ ?_
            rotate_left
            ·
             rintro w' ⟨s0, s1, s2, s3, s4, s5⟩
             go_simp
             with_reducible rfl
            rotate_left
            ·
             simp only [Act.put, List.setIfInBounds_toArray, List.set_cons_zero, List.set_cons_succ, i64_w, i32_w]
             rfl
            refine pure_ (i := 5) (N := some 44) (v := ?_) (a' := ?_) #[true, true, true, true, true, true, false, true, false, false, false, false] rfl rfl (any_of HT_.out (by kernel_rfl)) (fun _ _ _ h => h) (Or.inl ⟨by rfl, ?_⟩) ?_ ?_
            rotate_left
            ·
             intro w'
             go_simp
             with_reducible rfl
            rotate_left
            ·
             simp only [Act.put, List.setIfInBounds_toArray, List.set_cons_zero, List.set_cons_succ, i64_w, i32_w]
             rfl
            refine take_ (i := 6) (N := some 45) (v := ?_) (a' := ?_) #[true, true, true, true, true, true, true, true, false, false, false, false] rfl rfl (take_ofW HT_.out HW_.out (by kernel_rfl)) (fun _ _ _ h => h) (Or.inl ⟨by rfl, ?_⟩) hHeld ?_ ?_
            rotate_left
            ·
             rintro w' ⟨s0, s1, s2, s3, s4, s5⟩
             go_simp
             with_reducible rfl
            rotate_left
            ·
             simp only [Act.put, List.setIfInBounds_toArray, List.set_cons_zero, List.set_cons_succ, i64_w, i32_w]
             rfl
            refine take_ (i := 8) (N := some 47) (v := ?_) (a' := ?_) #[true, true, true, true, true, true, true, true, true, false, false, false] rfl rfl (take_ofW HT_.out HW_.out (by kernel_rfl)) (fun _ _ _ h => h) (Or.inl ⟨by rfl, ?_⟩) hHeld ?_ ?_
            rotate_left
            ·
             rintro w' ⟨s0, s1, s2, s3, s4, s5⟩
             go_simp
             with_reducible rfl
            rotate_left
            ·
             simp only [Act.put, List.setIfInBounds_toArray, List.set_cons_zero, List.set_cons_succ, i64_w, i32_w]
             rfl
            refine pure_ (i := 9) (N := some 48) (v := ?_) (a' := ?_) #[true, true, true, true, true, true, true, true, true, true, false, false] rfl rfl (any_of HT_.out (by kernel_rfl)) (fun _ _ _ h => h) (Or.inl ⟨by rfl, ?_⟩) ?_ ?_
            rotate_left
            ·
             intro w'
             go_simp
             with_reducible rfl
            rotate_left
            ·
             simp only [Act.put, List.setIfInBounds_toArray, List.set_cons_zero, List.set_cons_succ, i64_w, i32_w]
             rfl
            refine pure_ (i := 10) (N := some 49) (v := ?_) (a' := ?_) #[true, true, true, true, true, true, true, true, true, true, true, false] rfl rfl (any_of HT_.out (by kernel_rfl)) (fun _ _ _ h => h) (Or.inl ⟨by rfl, ?_⟩) ?_ ?_
            rotate_left
            ·
             intro w'
             go_simp
             with_reducible rfl
            rotate_left
            ·
             simp only [Act.put, List.setIfInBounds_toArray, List.set_cons_zero, List.set_cons_succ, i64_w, i32_w]
             rfl
            refine last_ (i := 11) (N := none) #[true, true, true, true, true, true, true, true, true, true, true, true] rfl rfl (one_of HT_.out (by kernel_rfl)) (by decide) (fun K hK => ?_)
            refine skip_ (w1 := ?_) (by rfl) rfl ?_ ?_
            rotate_left
            ·
             go_simp
             rfl
            refine hK.out _ _ ?_
            clear hK K
            refine done_ (done_of HT_.out (by kernel_rfl)) ?_
            try go_wp2
            (try simp only [← hl8_2])
            go_roundg k2
            case measure => have := HJ3.out; have := HK2.out; omega
            case rel => exact ⟨(y212), (wrap64 (qh + 1)), (by first | rfl | (simp; done) | (simp [*]; done)), H', ⟨by have := HJ3.out; have := HK2.out; omega⟩, ⟨by (try simp only [hl8_2]); (with_reducible repeat (first | apply Kd.R_alloc | apply Kd.R_drewN | apply Kd.R_drew)); exact HQ57.out⟩, ⟨by (try simp only [hl8_2]); (with_reducible repeat (first | refine blk_drewN ?_ _ | refine blk_drew ?_ | refine blk_alloc ?_ _)); refine blk_far ?_ (by have h_ := Kd.R_ne qk.out qa.out (by decide); intro e_; exact h_ (by rw [e_]; rfl)) _; (with_reducible repeat (first | refine blk_drewN ?_ _ | refine blk_drew ?_ | refine blk_alloc ?_ _)); exact qa.out⟩, ⟨by (try simp only [hl8_2]); (with_reducible repeat (first | refine blk_drewN ?_ _ | refine blk_drew ?_ | refine blk_alloc ?_ _)); refine blk_far ?_ (by have h_ := Kd.R_ne qk.out qb.out (by decide); intro e_; exact h_ (by rw [e_]; rfl)) _; (with_reducible repeat (first | refine blk_drewN ?_ _ | refine blk_drew ?_ | refine blk_alloc ?_ _)); exact qb.out⟩, ⟨by (try simp only [hl8_2]); (with_reducible repeat (first | refine blk_drewN ?_ _ | refine blk_drew ?_ | refine blk_alloc ?_ _)); refine blk_far ?_ (by have h_ := Kd.R_ne qk.out qc.out (by decide); intro e_; exact h_ (by rw [e_]; rfl)) _; (with_reducible repeat (first | refine blk_drewN ?_ _ | refine blk_drew ?_ | refine blk_alloc ?_ _)); exact qc.out⟩, ⟨bb_ HB⟩⟩
           ·
            rw [if_neg c54] at H
            exact absurd H (by simp)
          ·
           rw [if_neg c53] at H
           exact absurd H (by simp)
         ·
          rw [if_neg c52] at H
          exact absurd H (by simp)
        ·
         rw [if_neg c51] at H
         have zg : decide (qh < (y208.length : Int)) = false := decide_eq_false c51
         have c51z := zg
         (try rw [hl8_2] at c51z)
         clear c51
         by_cases c58 : 0 ≤ a1
         ·
          rw [if_pos c58] at H
          have jy : decide (0 ≤ a1) = true := decide_eq_true c58
          clear c58
          by_cases c59 : a1 < (qq.length : Int)
          ·
           rw [if_pos c59] at H
           have jz : decide (a1 < (qq.length : Int)) = true := decide_eq_true c59
           clear c59
           obtain ⟨y213, hy213⟩ : ∃ y_ : List Int, y_ = (qq.set (a1 : Int).toNat 0) := ⟨_, rfl⟩
           replace H : (if a1 < (l0_0.length : Int) then ((impl_makeOf.f k2 y213 (wrap64 ((wrap64 (a0_1 * a2_1)) + (wrap64 ((rd l0_0 a1) * a2_0)))) a0_2).bind fun qp => (some (qp.1, qp.2.1, qp.2.2.1, qp.2.2.2))) else (none)) = some (r1, r2, r3, r4) := by first | (rw [hy213]; with_reducible exact H) | (have H2_ := (Option.bind_some _ _).symm.trans H; rw [hy213]; with_reducible exact H2_) | (have H2_ := (Option.bind_some _ _).symm.trans H; with_reducible exact H2_) | with_reducible exact H | (rw [hy213]; exact H) | exact H
           have Ny213 := Aside0.mk hy213
           clear hy213
           by_cases c61 : a1 < (l0_0.length : Int)
           ·
            rw [if_pos c61] at H
            have jA : decide (a1 < (l0_0.length : Int)) = true := decide_eq_true c61
            clear c61
            replace H := Option.bind_eq_some_iff.mp H
            obtain ⟨⟨zf, zh, zu, zK⟩, A620, H⟩ := H
            replace H : (some (zf, zh, zu, zK)) = some (r1, r2, r3, r4) := H
            have A62 := Aside0.mk A620
            clear A620
            simp only [Option.some.injEq, Prod.mk.injEq] at H
            obtain ⟨rfl, rfl, rfl, rfl⟩ := H
            have p60 : 0 ≤ (a1 : Int) := of_decide_eq_true (by first | (with_reducible assumption) | assumption)
            have q60 : (a1 : Int) < ((qq.length : Int) : Int) := of_decide_eq_true (by first | (with_reducible assumption) | assumption)
            obtain ⟨go60, jE, eo60, zL, gl60, cl60, HG60⟩ := Kd.R_form qk.out (by omega)
            (first | cases eo60 | (injection eo60 with ea_ en_ ec_; (first | subst ea_ | (injection ea_ with ea_; subst ea_)); subst ec_; clear en_))
            have zQ := Aside0.mk zL
            have jF := Aside0.mk HG60
            clear zL gl60 HG60
            obtain ⟨zR, hf60_0⟩ := Kd.R_celln 0 qk.out (a1 : Int) p60 q60
            replace p60 := eq_true p60
            replace q60 := eq_true q60
            have zE := Kd.R_putg qk.out (a1 : Int) 0
            try go_wp2_with (first | ((with_reducible refine gate_store (t := 3) (p := 53) rfl ?_); refine store_event (t := 3) (p := 53) (v := ?vo_w64) (w1 := (wr.setCell ⟨go60, (a1 : Int).toNat, none⟩ (.int .i64 0))) ?hg ?ho ?hn ?hr ?_; (case ho => rfl); (case hg => rfl); (case hn => rfl); (case hr => first | (go_simp; done) | (go_simp; rfl)); intro zM hw; have hg : wr.grownBy zM (some go60) := (by rw [hw]; exact zE.2); have hp_ : Kd.R (Kd.int .i64) 3 zM w.heap.size (fun _ => True) (.slice (some ⟨go60, 0, none⟩) qq.length zB) y213 := (by rw [hw, Ny213.out]; exact zE.1); clear zE; replace qa := Aside0.mk (blk_grown (g := qf) (o := .cells #[.slice A0_0 l0_0.length c0_0, .int .i64 a0_1, .bool a0_2] 26 (0, 0)) (kf_ qa) hg (Kd.R_ne qk.out qa.out (by decide))); replace qb := Aside0.mk (blk_grown (g := qj) (o := .cells #[.int .i64 a2_0, .int .i64 a2_1] 56 (0, 0)) (kf_ qb) hg (Kd.R_ne qk.out qb.out (by decide))); replace qc := Aside0.mk (blk_grown (g := qe) (o := .cells #[.slice none 0 0, .int .i64 0, .bool false] 26 (0, 0)) (kf_ qc) hg (Kd.R_ne qk.out qc.out (by decide))); replace qk := Aside0.mk (hp_); replace HB := Aside0.mk ((by rw [hw]; exact below_set (HB.out) zQ.out : Below w.heap.size w zM)); clear hg hw hp_))
            replace qk := Aside0.mk (Kd.R_drew qk.out); replace qa := Aside0.mk (blk_drew qa.out); replace qb := Aside0.mk (blk_drew qb.out); replace qc := Aside0.mk (blk_drew qc.out); replace HB := Aside0.mk (below_drew1 HB.out)
            have p214 : 0 ≤ (a1 : Int) := of_decide_eq_true (by first | (with_reducible assumption) | assumption)
            have q214 : a1 < (l0_0.length : Int) := of_decide_eq_true (by first | (with_reducible assumption) | assumption)
            obtain ⟨zz, e214, qs⟩ := Kd.at_int qv.out a1 p214 q214
            have hw214_0 := qs
            cases e214
            replace qs := (HB.out.cell (World.block_lt_of_cell? w _ qs)).trans qs
            replace p214 := eq_true p214
            replace q214 := eq_true q214
            refine start_ (n := 22) (S := fun w' => w'.cell? ⟨qf, 0, none⟩ = some (.slice (some zz) l0_0.length c0_0) ∧ w'.cell? ⟨qf, 1, none⟩ = some (.int .i64 a0_1) ∧ w'.cell? ⟨qf, 2, none⟩ = some (.bool a0_2) ∧ w'.cell? ⟨qj, 0, none⟩ = some (.int .i64 a2_0) ∧ w'.cell? ⟨qj, 1, none⟩ = some (.int .i64 a2_1) ∧ w'.cell? (zz.add (a1).toNat) = some (.int .i64 (rd l0_0 a1))) (ds := []) #[false, false, false, false, false, false, false, false, false, false, false, false, false, false, false, false, false, false, false, false, false, false] (by kernel_rfl) rfl rfl ⟨bc_ qa 0, bc_ qa 1, bc_ qa 2, bc_ qb 0, bc_ qb 1, ((HB.out.cell (World.block_lt_of_cell? w _ hw214_0)).trans hw214_0)⟩ (fun hHeld => ?_); refine with_tabW impl_FixVariable.tab10 impl_FixVariable.bits10 (fun HT_ HW_ => ?_)
            generalize zM.drew = jM at qk qa qb qc HB qs hHeld ⊢
            refine pure_ (i := 0) (N := some 54) (v := ?_) (a' := ?_) #[true, false, false, false, false, false, false, false, false, false, false, false, false, false, false, false, false, false, false, false, false, false] rfl rfl (any_of HT_.out (by kernel_rfl)) (fun _ _ _ h => h) (Or.inl ⟨by rfl, ?_⟩) ?_ ?_
            rotate_left
            ·
             intro w'
             go_simp
             with_reducible rfl
            rotate_left
            ·
             simp only [Act.put, List.setIfInBounds_toArray, List.set_cons_zero, List.set_cons_succ, i64_w, i32_w]
             rfl
            refine pure_ (i := 1) (N := some 55) (v := ?_) (a' := ?_) #[true, true, false, false, false, false, false, false, false, false, false, false, false, false, false, false, false, false, false, false, false, false] rfl rfl (any_of HT_.out (by kernel_rfl)) (fun _ _ _ h => h) (Or.inl ⟨by rfl, ?_⟩) ?_ ?_
            rotate_left
            ·
             intro w'
             go_simp
             with_reducible rfl
            rotate_left
            ·
             simp only [Act.put, List.setIfInBounds_toArray, List.set_cons_zero, List.set_cons_succ, i64_w, i32_w]
             rfl
            refine pure_ (i := 3) (N := some 57) (v := ?_) (a' := ?_) #[true, true, false, true, false, false, false, false, false, false, false, false, false, false, false, false, false, false, false, false, false, false] rfl rfl (any_of HT_.out (by kernel_rfl)) (fun _ _ _ h => h) (Or.inl ⟨by rfl, ?_⟩) ?_ ?_
            rotate_left
            ·
             intro w'
             go_simp
             with_reducible rfl
            rotate_left
            ·
             simp only [Act.put, List.setIfInBounds_toArray, List.set_cons_zero, List.set_cons_succ, i64_w, i32_w]
             rfl
            refine pure_ (i := 6) (N := some 60) (v := ?_) (a' := ?_) #[true, true, false, true, false, false, true, false, false, false, false, false, false, false, false, false, false, false, false, false, false, false] rfl rfl (any_of HT_.out (by kernel_rfl)) (fun _ _ _ h => h) (Or.inl ⟨by rfl, ?_⟩) ?_ ?_
            rotate_left
            ·
             intro w'
             go_simp
             with_reducible rfl
            rotate_left
            ·
             simp only [Act.put, List.setIfInBounds_toArray, List.set_cons_zero, List.set_cons_succ, i64_w, i32_w]
             rfl
            refine pure_ (i := 8) (N := some 62) (v := ?_) (a' := ?_) #[true, true, false, true, false, false, true, false, true, false, false, false, false, false, false, false, false, false, false, false, false, false] rfl rfl (any_of HT_.out (by kernel_rfl)) (fun _ _ _ h => h) (Or.inl ⟨by rfl, ?_⟩) ?_ ?_
            rotate_left
            ·
             intro w'
             go_simp
             with_reducible rfl
            rotate_left
            ·
             simp only [Act.put, List.setIfInBounds_toArray, List.set_cons_zero, List.set_cons_succ, i64_w, i32_w]
             rfl
            refine pure_ (i := 11) (N := some 65) (v := ?_) (a' := ?_) #[true, true, false, true, false, false, true, false, true, false, false, true, false, false, false, false, false, false, false, false, false, false] rfl rfl (any_of HT_.out (by kernel_rfl)) (fun _ _ _ h => h) (Or.inl ⟨by rfl, ?_⟩) ?_ ?_
            rotate_left
            ·
             intro w'
             go_simp
             with_reducible rfl
            rotate_left
            ·
             simp only [Act.put, List.setIfInBounds_toArray, List.set_cons_zero, List.set_cons_succ, i64_w, i32_w]
             rfl
            refine pure_ (i := 15) (N := some 69) (v := ?_) (a' := ?_) #[true, true, false, true, false, false, true, false, true, false, false, true, false, false, false, true, false, false, false, false, false, false] rfl rfl (any_of HT_.out (by kernel_rfl)) (fun _ _ _ h => h) (Or.inl ⟨by rfl, ?_⟩) ?_ ?_
            rotate_left
            ·
             intro w'
             go_simp
             with_reducible rfl
            rotate_left
            ·
             simp only [Act.put, List.setIfInBounds_toArray, List.set_cons_zero, List.set_cons_succ, i64_w, i32_w]
             rfl
            refine take_ (i := 2) (N := some 56) (v := ?_) (a' := ?_) #[true, true, true, true, false, false, true, false, true, false, false, true, false, false, false, true, false, false, false, false, false, false] rfl rfl (take_ofW HT_.out HW_.out (by kernel_rfl)) (fun _ _ _ h => h) (Or.inl ⟨by rfl, ?_⟩) hHeld ?_ ?_
            rotate_left
            ·
             rintro w' ⟨s0, s1, s2, s3, s4, s5⟩
             go_simp
             with_reducible rfl
            rotate_left
            ·
             simp only [Act.put, List.setIfInBounds_toArray, List.set_cons_zero, List.set_cons_succ, i64_w, i32_w]
             rfl
            refine take_ (i := 4) (N := some 58) (v := ?_) (a' := ?_) #[true, true, true, true, true, false, true, false, true, false, false, true, false, false, false, true, false, false, false, false, false, false] rfl rfl (take_ofW HT_.out HW_.out (by kernel_rfl)) (fun _ _ _ h => h) (Or.inl ⟨by rfl, ?_⟩) hHeld ?_ ?_
            rotate_left
            ·
             rintro w' ⟨s0, s1, s2, s3, s4, s5⟩
             go_simp
             with_reducible rfl
            rotate_left
            ·
             simp only [Act.put, List.setIfInBounds_toArray, List.set_cons_zero, List.set_cons_succ, i64_w, i32_w]
             rfl
            refine pure_ (i := 5) (N := some 59) (v := ?_) (a' := ?_) #[true, true, true, true, true, true, true, false, true, false, false, true, false, false, false, true, false, false, false, false, false, false] rfl rfl (any_of HT_.out (by kernel_rfl)) (fun _ _ _ h => h) (Or.inl ⟨by rfl, ?_⟩) ?_ ?_
            rotate_left
            ·
             intro w'
             go_simp
             with_reducible rfl
            rotate_left
            ·
             simp only [Act.put, List.setIfInBounds_toArray, List.set_cons_zero, List.set_cons_succ, i64_w, i32_w]
             rfl
            refine take_ (i := 7) (N := some 61) (v := ?_) (a' := ?_) #[true, true, true, true, true, true, true, true, true, false, false, true, false, false, false, true, false, false, false, false, false, false] rfl rfl (take_ofW HT_.out HW_.out (by kernel_rfl)) (fun _ _ _ h => h) (Or.inl ⟨by rfl, ?_⟩) hHeld ?_ ?_
            rotate_left
            ·
             rintro w' ⟨s0, s1, s2, s3, s4, s5⟩
             go_simp
             with_reducible rfl
            rotate_left
            ·
             simp only [Act.put, List.setIfInBounds_toArray, List.set_cons_zero, List.set_cons_succ, i64_w, i32_w]
             rfl
            refine pure_ (i := 9) (N := some 63) (v := ?_) (a' := ?_) #[true, true, true, true, true, true, true, true, true, true, false, true, false, false, false, true, false, false, false, false, false, false] rfl rfl (any_of HT_.out (by kernel_rfl)) (fun _ _ _ h => h) (Or.inl ⟨by rfl, ?_⟩) ?_ ?_
            rotate_left
            ·
             intro w'
             go_simp
             with_reducible rfl
            rotate_left
            ·
             simp only [Act.put, List.setIfInBounds_toArray, List.set_cons_zero, List.set_cons_succ, i64_w, i32_w]
             rfl
            refine take_ (i := 10) (N := some 64) (v := ?_) (a' := ?_) #[true, true, true, true, true, true, true, true, true, true, true, true, false, false, false, true, false, false, false, false, false, false] rfl rfl (take_ofW HT_.out HW_.out (by kernel_rfl)) (fun _ _ _ h => h) (Or.inl ⟨by rfl, ?_⟩) hHeld ?_ ?_
            rotate_left
            ·
             rintro w' ⟨s0, s1, s2, s3, s4, s5⟩
             go_simp
             with_reducible rfl
            rotate_left
            ·
             simp only [Act.put, List.setIfInBounds_toArray, List.set_cons_zero, List.set_cons_succ, i64_w, i32_w]
             rfl
            refine take_ (i := 12) (N := some 66) (v := ?_) (a' := ?_) #[true, true, true, true, true, true, true, true, true, true, true, true, true, false, false, true, false, false, false, false, false, false] rfl rfl (take_ofW HT_.out HW_.out (by kernel_rfl)) (fun _ _ _ h => h) (Or.inl ⟨by rfl, ?_⟩) hHeld ?_ ?_
            rotate_left
            ·
             rintro w' ⟨s0, s1, s2, s3, s4, s5⟩
             go_simp
             with_reducible rfl
            rotate_left
            ·
             simp only [Act.put, List.setIfInBounds_toArray, List.set_cons_zero, List.set_cons_succ, i64_w, i32_w]
             rfl
            refine pure_ (i := 13) (N := some 67) (v := ?_) (a' := ?_) #[true, true, true, true, true, true, true, true, true, true, true, true, true, true, false, true, false, false, false, false, false, false] rfl rfl (any_of HT_.out (by kernel_rfl)) (fun _ _ _ h => h) (Or.inl ⟨by rfl, ?_⟩) ?_ ?_
            rotate_left
            ·
             intro w'
             go_simp
             with_reducible rfl
            rotate_left
            ·
             simp only [Act.put, List.setIfInBounds_toArray, List.set_cons_zero, List.set_cons_succ, i64_w, i32_w]
             rfl
            refine pure_ (i := 14) (N := some 68) (v := ?_) (a' := ?_) #[true, true, true, true, true, true, true, true, true, true, true, true, true, true, true, true, false, false, false, false, false, false] rfl rfl (any_of HT_.out (by kernel_rfl)) (fun _ _ _ h => h) (Or.inl ⟨by rfl, ?_⟩) ?_ ?_
            rotate_left
            ·
             intro w'
             go_simp
             with_reducible rfl
            rotate_left
            ·
             simp only [Act.put, List.setIfInBounds_toArray, List.set_cons_zero, List.set_cons_succ, i64_w, i32_w]
             rfl
            refine take_ (i := 16) (N := some 70) (v := ?_) (a' := ?_) #[true, true, true, true, true, true, true, true, true, true, true, true, true, true, true, true, true, false, false, false, false, false] rfl rfl (take_ofW HT_.out HW_.out (by kernel_rfl)) (fun _ _ _ h => h) (Or.inl ⟨by rfl, ?_⟩) hHeld ?_ ?_
            rotate_left
            ·
             rintro w' ⟨s0, s1, s2, s3, s4, s5⟩
             go_simp
             with_reducible rfl
            rotate_left
            ·
             simp only [Act.put, List.setIfInBounds_toArray, List.set_cons_zero, List.set_cons_succ, i64_w, i32_w]
             rfl
            refine one_ (i := 17) (N := some 71) #[true, true, true, true, true, true, true, true, true, true, true, true, true, true, true, true, true, true, false, false, false, false] rfl rfl (one_of HT_.out (by kernel_rfl)) (by decide) (fun K hK => ?_)
            refine goes_ Try.func59 (by kernel_rfl) rfl #[.slice (some ⟨go60, 0, none⟩) y213.length zB, .int .i64 (wrap64 ((wrap64 (a0_1 * a2_1)) + (wrap64 ((rd l0_0 a1) * a2_0)))), .bool a0_2] (by rfl) rfl rfl (by (try simp only [List.map_toArray, List.map_cons, List.map_nil]); first | done | (rw [show y213.length = qq.length from (Kd.R_reads' qk.out).1.symm] <;> rfl) | rfl | (simp only [List.length_drop, List.length_take]; rfl)) ?_
            with_reducible refine (impl_makeOf.calls k2 _ _ y213 (wrap64 ((wrap64 (a0_1 * a2_1)) + (wrap64 ((rd l0_0 a1) * a2_0)))) a0_2 zf zh zu zK _ ?side1 ?side2 A62.out).mono ?_
            (case side1 => exact cr_ qk)
            (case side2 => rw [show y213.length = qq.length from (Kd.R_reads' qk.out).1.symm]; exact (Kd.R_reads' qk.out).2.1)
            rintro e zS ⟨jG, rfl, ho0, hb⟩
            refine ⟨_, rfl, ?_⟩
            have zA := Aside0.mk (Kd.R_lower (Kd.R_new' ho0 (Kd.R_lt (rm_ qk))) (bz_ HB)); replace qk := Aside0.mk (Kd.R_elder' (rm_ qk) (Kd.R_base ho0) hb); replace qa := kB_ qa hb; replace qb := kB_ qb hb; replace qc := kB_ qc hb; replace HB := bS_ HB hb; (try clear hb); (try clear hb2); (try clear hk); (try clear hi); (try clear ho0)
            obtain ⟨zv, zw, eo67⟩ := Kd.R_slice zA.out
            (first | subst eo67 | (injection eo67 with f1_ f2_ f3_; have f4_ := f1_.symm; have f5_ := f3_.symm; clear f1_ f2_ f3_; subst f4_; subst f5_))
            refine hK.out _ _ ⟨bc_ qa 0, bc_ qa 1, bc_ qa 2, bc_ qb 0, bc_ qb 1, ((HB.out.cell (World.block_lt_of_cell? w _ hw214_0)).trans hw214_0)⟩ (fun hHeld => ?_)
            clear hK K
            refine norm_ (a' := ?_) ?_ ?_
            rotate_left
            ·
             show Act.put _ (some 71) _ = _
             simp only [Act.put, List.setIfInBounds_toArray, List.set_cons_zero, List.set_cons_succ, i64_w, i32_w]
             rfl
            refine pure_ (i := 18) (N := some 72) (v := ?_) (a' := ?_) #[true, true, true, true, true, true, true, true, true, true, true, true, true, true, true, true, true, true, true, false, false, false] rfl rfl (any_of HT_.out (by kernel_rfl)) (fun _ _ _ h => h) (Or.inl ⟨by rfl, ?_⟩) ?_ ?_
            rotate_left
            ·
             intro w'
             go_simp
             with_reducible rfl
            rotate_left
            ·
             simp only [Act.put, List.setIfInBounds_toArray, List.set_cons_zero, List.set_cons_succ, i64_w, i32_w]
             rfl
            refine pure_ (i := 19) (N := some 73) (v := ?_) (a' := ?_) #[true, true, true, true, true, true, true, true, true, true, true, true, true, true, true, true, true, true, true, true, false, false] rfl rfl (any_of HT_.out (by kernel_rfl)) (fun _ _ _ h => h) (Or.inl ⟨by rfl, ?_⟩) ?_ ?_
            rotate_left
            ·
             intro w'
             go_simp
             with_reducible rfl
            rotate_left
            ·
             simp only [Act.put, List.setIfInBounds_toArray, List.set_cons_zero, List.set_cons_succ, i64_w, i32_w]
             rfl
            refine one_ (i := 20) (N := none) #[true, true, true, true, true, true, true, true, true, true, true, true, true, true, true, true, true, true, true, true, true, false] rfl rfl (one_of HT_.out (by kernel_rfl)) (by decide) (fun K hK => ?_)
            have hs68 : zS.cell? ⟨qe, 0, none⟩ = some (.slice none 0 0) := bc_ qc 0
            have hfs68 := blk_frozen qc.out 0
            have hns68_0 := qd.out
            have hns68_1 := qg.out
            have hms68_0 := qi.out
            have hms68_1 := ql.out
            have hs69 : zS.cell? ⟨qe, 1, none⟩ = some (.int .i64 0) := bc_ qc 1
            have hfs69 := blk_frozen qc.out 1
            have hns69_0 := qd.out
            have hns69_1 := qg.out
            have hms69_0 := qi.out
            have hms69_1 := ql.out
            have hs70 : zS.cell? ⟨qe, 2, none⟩ = some (.bool false) := bc_ qc 2
            have hfs70 := blk_frozen qc.out 2
            have hns70_0 := qd.out
            have hns70_1 := qg.out
            have hms70_0 := qi.out
            have hms70_1 := ql.out
            refine skip_ (w1 := ?_) (by rfl) rfl ?_ ?_
            rotate_left
            ·
             go_simp
             rfl
            refine hK.out _ _ ⟨((cell_far (p := ⟨qe, _, none⟩) qd.out _).trans (((cell_far (p := ⟨qe, _, none⟩) qd.out _).trans (((cell_far (p := ⟨qe, _, none⟩) qd.out _).trans (hHeld.1)))))), ((cell_far (p := ⟨qe, _, none⟩) qd.out _).trans (((cell_far (p := ⟨qe, _, none⟩) qd.out _).trans (((cell_far (p := ⟨qe, _, none⟩) qd.out _).trans (hHeld.2.1)))))), ((cell_far (p := ⟨qe, _, none⟩) qd.out _).trans (((cell_far (p := ⟨qe, _, none⟩) qd.out _).trans (((cell_far (p := ⟨qe, _, none⟩) qd.out _).trans (hHeld.2.2.1)))))), ((cell_far (p := ⟨qe, _, none⟩) qg.out _).trans (((cell_far (p := ⟨qe, _, none⟩) qg.out _).trans (((cell_far (p := ⟨qe, _, none⟩) qg.out _).trans (hHeld.2.2.2.1)))))), ((cell_far (p := ⟨qe, _, none⟩) qg.out _).trans (((cell_far (p := ⟨qe, _, none⟩) qg.out _).trans (((cell_far (p := ⟨qe, _, none⟩) qg.out _).trans (hHeld.2.2.2.2.1)))))), ((cell_far (p := ⟨qe, _, none⟩) (by first | exact Nat.ne_of_lt (Nat.lt_of_lt_of_le (by have := World.block_lt_of_cell? _ _ hw214_0; first | rwa [add_block] at this | exact this) qo.out) | (rw [add_block]; exact Nat.ne_of_lt (Nat.lt_of_lt_of_le (by have := World.block_lt_of_cell? _ _ hw214_0; first | rwa [add_block] at this | exact this) qo.out)) | (show (Addr.add _ _).block ≠ _; rw [add_block]; exact Nat.ne_of_lt (Nat.lt_of_lt_of_le (by have := World.block_lt_of_cell? _ _ hw214_0; first | rwa [add_block] at this | exact this) qo.out)) | (dsimp only; exact Nat.ne_of_lt (Nat.lt_of_lt_of_le (by have := World.block_lt_of_cell? _ _ hw214_0; first | rwa [add_block] at this | exact this) qo.out))) _).trans (((cell_far (p := ⟨qe, _, none⟩) (by first | exact Nat.ne_of_lt (Nat.lt_of_lt_of_le (by have := World.block_lt_of_cell? _ _ hw214_0; first | rwa [add_block] at this | exact this) qo.out) | (rw [add_block]; exact Nat.ne_of_lt (Nat.lt_of_lt_of_le (by have := World.block_lt_of_cell? _ _ hw214_0; first | rwa [add_block] at this | exact this) qo.out)) | (show (Addr.add _ _).block ≠ _; rw [add_block]; exact Nat.ne_of_lt (Nat.lt_of_lt_of_le (by have := World.block_lt_of_cell? _ _ hw214_0; first | rwa [add_block] at this | exact this) qo.out)) | (dsimp only; exact Nat.ne_of_lt (Nat.lt_of_lt_of_le (by have := World.block_lt_of_cell? _ _ hw214_0; first | rwa [add_block] at this | exact this) qo.out))) _).trans (((cell_far (p := ⟨qe, _, none⟩) (by first | exact Nat.ne_of_lt (Nat.lt_of_lt_of_le (by have := World.block_lt_of_cell? _ _ hw214_0; first | rwa [add_block] at this | exact this) qo.out) | (rw [add_block]; exact Nat.ne_of_lt (Nat.lt_of_lt_of_le (by have := World.block_lt_of_cell? _ _ hw214_0; first | rwa [add_block] at this | exact this) qo.out)) | (show (Addr.add _ _).block ≠ _; rw [add_block]; exact Nat.ne_of_lt (Nat.lt_of_lt_of_le (by have := World.block_lt_of_cell? _ _ hw214_0; first | rwa [add_block] at this | exact this) qo.out)) | (dsimp only; exact Nat.ne_of_lt (Nat.lt_of_lt_of_le (by have := World.block_lt_of_cell? _ _ hw214_0; first | rwa [add_block] at this | exact this) qo.out))) _).trans (hHeld.2.2.2.2.2))))))⟩ (fun hHeld => ?_)
            clear hK K
            refine pure_ (i := 21) (N := some 7) (v := ?_) (a' := ?_) #[true, true, true, true, true, true, true, true, true, true, true, true, true, true, true, true, true, true, true, true, true, true] rfl rfl (any_of HT_.out (by kernel_rfl)) (fun _ _ _ h => h) (Or.inl ⟨by rfl, ?_⟩) ?_ ?_
            rotate_left
            ·
             intro w'
             go_simp
             with_reducible rfl
            rotate_left
            ·
             simp only [Act.put, List.setIfInBounds_toArray, List.set_cons_zero, List.set_cons_succ, i64_w, i32_w]
             rfl
            refine done_ (done_of HT_.out (by kernel_rfl)) ?_
            try go_wp2
            refine bodyPost_ret (results_ct rfl _ _ qe 26 #[.slice zv zf.length zw, .int .i64 zh, .bool zu] (0, 0) _ rfl (by (with_reducible repeat (first | refine blk_drewN ?_ _ | refine blk_drew ?_ | refine blk_alloc ?_ _)); refine blk_put (cs := #[.slice zv zf.length zw, .int .i64 zh, .bool false]) ?_ 2 _ rfl; (with_reducible repeat (first | refine blk_drewN ?_ _ | refine blk_drew ?_ | refine blk_alloc ?_ _)); refine blk_put (cs := #[.slice zv zf.length zw, .int .i64 0, .bool false]) ?_ 1 _ rfl; (with_reducible repeat (first | refine blk_drewN ?_ _ | refine blk_drew ?_ | refine blk_alloc ?_ _)); refine blk_put (cs := #[.slice none 0 0, .int .i64 0, .bool false]) ?_ 0 _ rfl; (with_reducible repeat (first | refine blk_drewN ?_ _ | refine blk_drew ?_ | refine blk_alloc ?_ _)); exact qc.out) Try.underlying26 rfl (by kernel_rfl)) rfl ?_
            exact ⟨_, by first | rfl | (simp [errW_none, errW_some] <;> rfl) | (simp [*, errW_none, errW_some] <;> rfl), by (with_reducible repeat (first | apply Kd.R_alloc | apply Kd.R_drewN | apply Kd.R_drew)); exact Kd.R_mono (Kd.R_far (p := ⟨qe, 2, none⟩) (Kd.R_far (p := ⟨qe, 1, none⟩) (Kd.R_far (p := ⟨qe, 0, none⟩) (Kd.R_types zA.out qc.out (by decide)) (fun _ hk => hk.2) (.slice zv zf.length zw)) (fun _ hk => hk.2) (.int .i64 zh)) (fun _ hk => hk.2) (.bool zu)) (fun _ hk => trivial), bb_ HB⟩
           ·
            rw [if_neg c61] at H
            exact absurd H (by simp)
          ·
           rw [if_neg c59] at H
           exact absurd H (by simp)
         ·
          rw [if_neg c58] at H
          exact absurd H (by simp)
     ·
      rw [if_neg c44] at H
      exact absurd H (by simp)
    ·
     rw [if_neg c43] at H
     exact absurd H (by simp)

end Go.Proofs.Ytaijkhabcidagaa.PFnExactFixVariable
