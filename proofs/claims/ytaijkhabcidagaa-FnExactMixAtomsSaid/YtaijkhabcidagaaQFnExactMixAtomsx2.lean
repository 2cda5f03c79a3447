/- The functions that the law FnExactMixAtoms reaches, each as a Lean function with the same answers, and the proof that the call comes to exactly these: turned by program out of the printed texts. No condition but those that each theorem names. -/
import Derived.Test.YtaijkhabcidagaaQFnExactMixAtomsx0
import Derived.Test.YtaijkhabcidagaaQFnExactMixAtomsx1
namespace Go.Proofs.Ytaijkhabcidagaa.PFnExactMixAtoms
open Go.RowKit Go.Proofs.YtaijkhabcidagaaW.PrintWords Go.Proofs.YtaijkhabcidagaaW.PrintLast Go.Proofs.YtaijkhabcidagaaW.PrintMore
attribute [local go_sem] max2_int min2_int max_two min_two max_three min_three max_four min_four   -- for this text's walks alone
set_option linter.unusedVariables false
set_option linter.unusedSimpArgs false

/-! ### impl_makeOf: function 59 -/
mutual
def impl_makeOf.j0 : Nat → List Int → Int → Bool → Int → Option (List Int × Int × Bool × Bool)
 | 0, _, _, _, _ => none
 | k + 1, x0, x1, x2, x8 => if 0 ≤ (x0.length : Int) then (if ((x0.length : Int) : Int).toNat ≤ 35184372088832 then (if x8 = 0 then (none) else (impl_makeOf.l0 k x8 x0 (x0.length : Int) 0 (List.replicate ((x0.length : Int) : Int).toNat 0) (wrap64 (Int.tdiv x1 x8)) x2)) else (none)) else (none)
def impl_makeOf.l0 : Nat → Int → List Int → Int → Int → List Int → Int → Bool → Option (List Int × Int × Bool × Bool)
 | 0, _, _, _, _, _, _, _ => none
 | k + 1, x8, x26, x27, x28, x210000, x210001, x210002 => if x28 < x27 then (if 0 ≤ x28 then (if x28 < (x26.length : Int) then (if x8 = 0 then (none) else (if x28 < (x210000.length : Int) then (impl_makeOf.l0 k x8 x26 x27 (wrap64 (x28 + 1)) (x210000.set (x28 : Int).toNat (wrap64 (Int.tdiv (rd x26 x28) x8))) x210001 x210002) else (none))) else (none)) else (none)) else ((impl_IsAtom.f k x210000 x210001 x210002).bind fun qt => (if qt = true then (some (x210000, x210001, x210002, true)) else (some (([] : List Int), 0, false, false))))
end
def impl_makeOf.f (k : Nat) (l0 : List Int) (a1 : Int) (a2 : Bool) : Option (List Int × Int × Bool × Bool) := (impl_divisorOf.f k l0).bind fun qn => ((impl_commonDivisor.f k qn a1).bind fun qk => (if qk = 0 then (impl_makeOf.j0 k l0 a1 a2 1) else (impl_makeOf.j0 k l0 a1 a2 qk)))
theorem impl_makeOf.mono_l : ∀ k, (∀ y0 y1 y2 y3, LeO (impl_makeOf.j0 k y0 y1 y2 y3) (impl_makeOf.j0 (k + 1) y0 y1 y2 y3)) ∧ (∀ y0 y1 y2 y3 y4 y5 y6, LeO (impl_makeOf.l0 k y0 y1 y2 y3 y4 y5 y6) (impl_makeOf.l0 (k + 1) y0 y1 y2 y3 y4 y5 y6))
 | 0 => ⟨fun _ _ _ _ r h => by simp [impl_makeOf.j0] at h, fun _ _ _ _ _ _ _ r h => by simp [impl_makeOf.l0] at h⟩
 | k + 1 => by
  obtain ⟨ih0, ih1⟩ := impl_makeOf.mono_l k
  refine ⟨?_, ?_⟩
  ·
   intro y0 y1 y2 y3
   unfold impl_makeOf.j0
   repeat' first
   | (with_reducible exact ih0 _ _ _ _)
   | (with_reducible exact ih1 _ _ _ _ _ _ _)
   | (with_reducible exact impl_IsAtom.mono _ _ _ _)
   | (with_reducible exact impl_commonDivisor.mono _ _ _)
   | (with_reducible exact impl_divisorOf.mono _ _)
   | (with_reducible exact LeO.refl _)
   | (with_reducible exact LeO.none _)
   | (with_reducible refine LeO.ite ?_ ?_)
   | (with_reducible refine LeO.bind ?_ (fun _ => ?_))
   | exact ih0 _ _ _ _
   | exact ih1 _ _ _ _ _ _ _
   | exact impl_IsAtom.mono _ _ _ _
   | exact impl_commonDivisor.mono _ _ _
   | exact impl_divisorOf.mono _ _
   | exact LeO.none _
   | refine LeO.ite ?_ ?_
   | refine LeO.bind ?_ (fun _ => ?_)
  ·
   intro y0 y1 y2 y3 y4 y5 y6
   unfold impl_makeOf.l0
   repeat' first
   | (with_reducible exact ih0 _ _ _ _)
   | (with_reducible exact ih1 _ _ _ _ _ _ _)
   | (with_reducible exact impl_IsAtom.mono _ _ _ _)
   | (with_reducible exact impl_commonDivisor.mono _ _ _)
   | (with_reducible exact impl_divisorOf.mono _ _)
   | (with_reducible exact LeO.refl _)
   | (with_reducible exact LeO.none _)
   | (with_reducible refine LeO.ite ?_ ?_)
   | (with_reducible refine LeO.bind ?_ (fun _ => ?_))
   | exact ih0 _ _ _ _
   | exact ih1 _ _ _ _ _ _ _
   | exact impl_IsAtom.mono _ _ _ _
   | exact impl_commonDivisor.mono _ _ _
   | exact impl_divisorOf.mono _ _
   | exact LeO.none _
   | refine LeO.ite ?_ ?_
   | refine LeO.bind ?_ (fun _ => ?_)
theorem impl_makeOf.mono : ∀ a0 a1 a2 k, LeO (impl_makeOf.f k a0 a1 a2) (impl_makeOf.f (k + 1) a0 a1 a2) := by
 intro a0 a1 a2 k
 obtain ⟨ih0, ih1⟩ := impl_makeOf.mono_l k
 unfold impl_makeOf.f
 repeat' first
   | (with_reducible exact ih0 _ _ _ _)
   | (with_reducible exact ih1 _ _ _ _ _ _ _)
   | (with_reducible exact impl_IsAtom.mono _ _ _ _)
   | (with_reducible exact impl_commonDivisor.mono _ _ _)
   | (with_reducible exact impl_divisorOf.mono _ _)
   | (with_reducible exact LeO.refl _)
   | (with_reducible exact LeO.none _)
   | (with_reducible refine LeO.ite ?_ ?_)
   | (with_reducible refine LeO.bind ?_ (fun _ => ?_))
   | exact ih0 _ _ _ _
   | exact ih1 _ _ _ _ _ _ _
   | exact impl_IsAtom.mono _ _ _ _
   | exact impl_commonDivisor.mono _ _ _
   | exact impl_divisorOf.mono _ _
   | exact LeO.none _
   | refine LeO.ite ?_ ?_
   | refine LeO.bind ?_ (fun _ => ?_)
def impl_makeOf.T4 : Bool × List (List Nat × List Nat) := (true, [([], []), ([0], [0]), ([1, 1], [1]), ([], []), ([], []), ([3, 4], [3, 4]), ([], []), ([2, 5, 6], [2, 5, 6]), ([], []), ([8, 7, 0, 1, 2, 3, 4, 5, 6, 7, 8], [7, 8])])
def impl_makeOf.B4 : List Nat := [0, 1, 3, 0, 0, 24, 0, 127, 0, 511]
theorem impl_makeOf.tab4 : rtab .any (opsOf Try.f59 4) = impl_makeOf.T4 := by kernel_rfl
theorem impl_makeOf.bits4 : waitsOk impl_makeOf.T4.2 impl_makeOf.B4 = true := by kernel_rfl
def impl_makeOf.T8 : Bool × List (List Nat × List Nat) := (true, [([], []), ([0], [0]), ([], []), ([], []), ([], []), ([3, 4], [3, 4]), ([1, 2, 0, 1, 2, 3, 4, 5], [1, 2]), ([6, 5, 0, 1, 2, 3, 4, 5], [5, 6])])
def impl_makeOf.B8 : List Nat := [0, 1, 0, 0, 0, 24, 63, 127]
theorem impl_makeOf.tab8 : rtab .any (opsOf Try.f59 8) = impl_makeOf.T8 := by kernel_rfl
theorem impl_makeOf.bits8 : waitsOk impl_makeOf.T8.2 impl_makeOf.B8 = true := by kernel_rfl
set_option maxHeartbeats 8000000 in
set_option maxRecDepth 100000 in
theorem impl_makeOf.calls (k : Nat) (A0 : Option Addr) (c0 : Nat) (l0 : List Int) (a1 : Int) (a2 : Bool) (r1 : List Int) (r2 : Int) (r3 : Bool) (r4 : Bool) (w : World) (hr0 : Kd.C (Kd.int .i64) w A0 l0.length l0) (hc0 : l0.length ≤ c0) (h : impl_makeOf.f k l0 a1 a2 = some (r1, r2, r3, r4)) :
  Calls Try.prog 59 #[.slice A0 l0.length c0, .int .i64 a1, .bool a2] w fun e w' => ∃ v0_ : Value, e = .returned (.tuple #[.agg #[v0_, .int .i64 r2, .bool r3], .bool r4]) ∧ Kd.R (Kd.int .i64) 3 w' w.heap.size (fun _ => True) v0_ r1 ∧ Below w.heap.size w w' := by
 have hu26 := Try.underlying26
 have HR0 := Aside0.mk hr0
 have HC0 := Aside0.mk hc0
 clear hr0 hc0
 have HB := Aside0.mk (Below.refl w.heap.size w)
 have H : ((impl_divisorOf.f k l0).bind fun qn => ((impl_commonDivisor.f k qn a1).bind fun qk => (if qk = 0 then (impl_makeOf.j0 k l0 a1 a2 1) else (impl_makeOf.j0 k l0 a1 a2 qk)))) = some (r1, r2, r3, r4) := h
 clear h
 replace H := Option.bind_eq_some_iff.mp H
 obtain ⟨qn, A40, H⟩ := H
 replace H : ((impl_commonDivisor.f k qn a1).bind fun qk => (if qk = 0 then (impl_makeOf.j0 k l0 a1 a2 1) else (impl_makeOf.j0 k l0 a1 a2 qk))) = some (r1, r2, r3, r4) := H
 have A4 := Aside0.mk A40
 clear A40
 replace H := Option.bind_eq_some_iff.mp H
 obtain ⟨qk, A50, H⟩ := H
 replace H : (if qk = 0 then (impl_makeOf.j0 k l0 a1 a2 1) else (impl_makeOf.j0 k l0 a1 a2 qk)) = some (r1, r2, r3, r4) := H
 have A5 := Aside0.mk A50
 clear A50
 have HC6 := Aside0.mk H
 clear H
 go_enter Try.func59, Try.ntmps59
 go_upto_if 17 with (first | ((with_reducible refine gate_dst (N := 6) rfl ?_); refine box_event ?hg (N := 6) ?hd (cs := #[.slice none 0 0, .int .i64 0, .bool false]) (t := 26) ?hr ?_; (case hd => rfl); (case hg => rfl); (case hr => first | (go_simp; done) | (go_simp; rfl)); intro qf hg w7 hbox hb; have qa := Aside0.mk (hbox); have zn := Aside0.mk ((by rw [hg]; exact (bz_ HB) : w.heap.size ≤ qf)); have zo := Aside0.mk ((by rw [hg]; exact (bz_ HB) : w.heap.size ≤ qf)); replace HB := bS_ HB hb; clear hb hbox hg) | ((with_reducible refine gate_callee (f := 83) rfl ?_); refine goesL_ (some 13) rfl rfl Try.func83 (by kernel_rfl) rfl #[.slice A0 l0.length c0] rfl (by (try simp only [List.map_toArray, List.map_cons, List.map_nil]); first | done | rfl | (simp only [List.length_drop, List.length_take]; rfl)) ?_; (with_reducible refine (impl_divisorOf.calls k _ _ l0 qn _ ?side1 ?side2 A4.out).mono ?_); (case side1 => exact cb_ HR0 HB); (case side2 => exact HC0.out); rintro e w' ⟨rfl, ⟨nd, rfl⟩⟩; refine ⟨_, rfl, ?_⟩) | ((with_reducible refine gate_callee (f := 82) rfl ?_); refine goesL_ (some 15) rfl rfl Try.func82 (by kernel_rfl) rfl #[.int .i64 qn, .int .i64 a1] rfl (by (try simp only [List.map_toArray, List.map_cons, List.map_nil]); first | done | rfl | (simp only [List.length_drop, List.length_take]; rfl)) ?_; (with_reducible refine (impl_commonDivisor.calls k qn a1 qk _ A5.out).mono ?_); rintro e w' ⟨rfl, ⟨nd, rfl⟩⟩; refine ⟨_, rfl, ?_⟩))
 (try simp only [Act.put, List.setIfInBounds_toArray, List.set_cons_zero, List.set_cons_succ])
 go_cut [8] (fun v8 wc => ∃ (kq : Nat) (qh : Int), v8 = .int .i64 qh ∧ Aside0 (impl_makeOf.j0 kq l0 a1 a2 qh = some (r1, r2, r3, r4)) ∧ Aside0 (kq ≤ k) ∧ Aside0 (wc.heap[qf]? = some (.cells #[(.slice none 0 0), .int .i64 0, .bool false] 26 (0, 0))) ∧ Aside0 (Below w.heap.size w wc))
 case first =>
  have H := HC6.out
  clear HC6
  by_cases c8 : qk = 0
  ·
   rw [if_pos c8] at H
   have qo : (qk == 0) = true := beq_iff_eq.mpr c8
   have qw : (qk != 0) = false := bne_eq_false_iff_eq.mpr c8
   clear c8
   (first | rw [qo] | (simp only [i64_w, i32_w]; rw [qo]) | skip)
   have H' := Aside0.mk H
   clear H
   go_wp2
   go_meet
   case rel => exact ⟨_, (1), (by first | rfl | (simp; done) | (simp [*]; done)), H', ⟨by first | omega | exact Nat.le_refl _⟩, ⟨kf_ qa⟩, ⟨bb_ HB⟩⟩
  ·
   rw [if_neg c8] at H
   have qo : (qk == 0) = false := beq_eq_false_iff_ne.mpr c8
   have qw : (qk != 0) = true := bne_iff_ne.mpr c8
   (first | rw [qo] | (simp only [i64_w, i32_w]; rw [qo]) | skip)
   have H' := Aside0.mk H
   clear H
   go_wp2
   go_meet
   case rel => exact ⟨_, (qk), (by first | rfl | (simp; done) | (simp [*]; done)), H', ⟨by first | omega | exact Nat.le_refl _⟩, ⟨kf_ qa⟩, ⟨bb_ HB⟩⟩
 case rest =>
  clear HC6
  try clear p2
  try clear c5
  try clear c8
  try clear qo
  try clear qw
  obtain ⟨kq, qh, rfl, HA, HJ5, qa, HB⟩ := hcut
  cases kq with
  | zero => exact absurd HA.out (by simp [impl_makeOf.j0])
  | succ kj5 =>
   have H := HA.out
   clear HA
   simp only [impl_makeOf.j0] at H
   by_cases c9 : 0 ≤ (l0.length : Int)
   ·
    rw [if_pos c9] at H
    have zd := eq_true c9
    have ze : decide (0 ≤ (l0.length : Int)) = true := decide_eq_true c9
    clear c9
    by_cases c10 : ((l0.length : Int) : Int).toNat ≤ 35184372088832
    ·
     rw [if_pos c10] at H
     have qC := eq_true c10
     have qD : decide (((l0.length : Int) : Int).toNat ≤ 35184372088832) = true := decide_eq_true c10
     clear c10
     obtain ⟨y206, hy206⟩ : ∃ y_ : List Int, y_ = (List.replicate ((l0.length : Int) : Int).toNat 0) := ⟨_, rfl⟩
     replace H : (if qh = 0 then (none) else (impl_makeOf.l0 kj5 qh l0 (l0.length : Int) 0 y206 (wrap64 (Int.tdiv a1 qh)) a2)) = some (r1, r2, r3, r4) := by first | (rw [hy206]; with_reducible exact H) | (have H2_ := (Option.bind_some _ _).symm.trans H; rw [hy206]; with_reducible exact H2_) | (have H2_ := (Option.bind_some _ _).symm.trans H; with_reducible exact H2_) | with_reducible exact H | (rw [hy206]; exact H) | exact H
     have Ny206 := Aside0.mk hy206
     clear hy206
     by_cases c11 : qh = 0
     ·
      rw [if_pos c11] at H
      exact absurd H (by simp)
     ·
      rw [if_neg c11] at H
      have qE : (qh == 0) = false := beq_eq_false_iff_ne.mpr c11
      have qF : (qh != 0) = true := bne_iff_ne.mpr c11
      have H' := Aside0.mk H
      clear H
      try go_wp2
      replace qa := Aside0.mk (blk_drew qa.out); replace HB := Aside0.mk (below_drew1 HB.out)
      refine start_ (n := 10) (S := fun w' => True) (ds := []) #[false, false, false, false, false, false, false, false, false, false] (by kernel_rfl) rfl rfl trivial (fun hHeld => ?_); refine with_tabW impl_makeOf.tab4 impl_makeOf.bits4 (fun HT_ HW_ => ?_)
      generalize wc.drew = zB at qa HB hHeld ⊢
      refine pure_ (i := 0) (N := some 18) (v := ?_) (a' := ?_) #[true, false, false, false, false, false, false, false, false, false] rfl rfl (any_of HT_.out (by kernel_rfl)) (fun _ _ _ h => h) (Or.inl ⟨by rfl, ?_⟩) ?_ ?_
      rotate_left
      ·
       intro w'
       go_simp
       with_reducible rfl
      rotate_left
      ·
       simp only [Act.put, List.setIfInBounds_toArray, List.set_cons_zero, List.set_cons_succ, i64_w, i32_w]
       rfl
      refine pure_ (i := 1) (N := some 19) (v := ?_) (a' := ?_) #[true, true, false, false, false, false, false, false, false, false] rfl rfl (any_of HT_.out (by kernel_rfl)) (fun _ _ _ h => h) (Or.inl ⟨by rfl, ?_⟩) ?_ ?_
      rotate_left
      ·
       intro w'
       go_simp
       with_reducible rfl
      rotate_left
      ·
       simp only [Act.put, List.setIfInBounds_toArray, List.set_cons_zero, List.set_cons_succ, i64_w, i32_w]
       rfl
      refine pure_ (i := 3) (N := some 21) (v := ?_) (a' := ?_) #[true, true, false, true, false, false, false, false, false, false] rfl rfl (any_of HT_.out (by kernel_rfl)) (fun _ _ _ h => h) (Or.inl ⟨by rfl, ?_⟩) ?_ ?_
      rotate_left
      ·
       intro w'
       go_simp
       with_reducible rfl
      rotate_left
      ·
       simp only [Act.put, List.setIfInBounds_toArray, List.set_cons_zero, List.set_cons_succ, i64_w, i32_w]
       rfl
      refine pure_ (i := 4) (N := some 22) (v := ?_) (a' := ?_) #[true, true, false, true, true, false, false, false, false, false] rfl rfl (any_of HT_.out (by kernel_rfl)) (fun _ _ _ h => h) (Or.inl ⟨by rfl, ?_⟩) ?_ ?_
      rotate_left
      ·
       intro w'
       go_simp
       with_reducible rfl
      rotate_left
      ·
       simp only [Act.put, List.setIfInBounds_toArray, List.set_cons_zero, List.set_cons_succ, i64_w, i32_w]
       rfl
      refine pure_ (i := 5) (N := some 23) (v := ?_) (a' := ?_) #[true, true, false, true, true, true, false, false, false, false] rfl rfl (any_of HT_.out (by kernel_rfl)) (fun _ _ _ h => h) (Or.inl ⟨by rfl, ?_⟩) ?_ ?_
      rotate_left
      ·
       intro w'
       go_simp
       with_reducible rfl
      rotate_left
      ·
       simp only [Act.put, List.setIfInBounds_toArray, List.set_cons_zero, List.set_cons_succ, i64_w, i32_w]
       rfl
      refine pure_ (i := 6) (N := some 24) (v := ?_) (a' := ?_) #[true, true, false, true, true, true, true, false, false, false] rfl rfl (any_of HT_.out (by kernel_rfl)) (fun _ _ _ h => h) (Or.inl ⟨by rfl, ?_⟩) ?_ ?_
      rotate_left
      ·
       intro w'
       go_simp
       with_reducible rfl
      rotate_left
      ·
       simp only [Act.put, List.setIfInBounds_toArray, List.set_cons_zero, List.set_cons_succ, i64_w, i32_w]
       rfl
      refine join_ (σ := Value × Nat) 1 #[true, true, true, true, true, true, true, true, true, false] (fun s_ => [(20, s_.1), (9, .pointer (some ⟨s_.2, 0, none⟩)), (25, .agg #[s_.1, .int .i64 (wrap64 (Int.tdiv a1 qh)), .bool a2])]) (fun s_ w' => (Kd.R (Kd.int .i64) 3 w' w.heap.size (fun _ => True) s_.1 y206) ∧ (w'.heap[qf]? = some (.cells #[.slice none 0 0, .int .i64 0, .bool false] 26 (0, 0))) ∧ (w'.heap[s_.2]? = some (.cells #[.slice none 0 0, .int .i64 0, .bool false] 26 (0, 0))) ∧ (w.heap.size ≤ s_.2) ∧ (w.heap.size ≤ s_.2) ∧ (qf ≠ s_.2) ∧ (s_.2 ≠ qf) ∧ (Below w.heap.size w w')) ?_ ?_
      rotate_left
      ·
       intro hCont
       refine two_ (i := 2) (j := 8) (Ni := some 20) (Nj := some 9) #[true, true, true, true, true, true, true, false, false, false] #[true, true, false, true, true, true, true, false, true, false] rfl rfl rfl rfl (two_of HT_.out (by kernel_rfl)) (by decide) (by decide) (fun K hK => ?_) (fun K hK => ?_)
       ·
        skip
        refine Kd.R_make_step (Kd.int .i64) _ 3 (by rfl) (N := 20) rfl 22 _ _ rfl (l0.length : Int) rfl rfl Try.underlying22 (.int .i64 0) 8 info3 rfl (by decide) (by omega) 0 (ok := fun _ => True) (okp := fun _ => True) rfl (fun _ hk => hk) trivial (of_decide_eq_true (by first | (with_reducible assumption) | assumption)) (Nat.le_trans (Nat.mul_le_mul_right _ (of_decide_eq_true (by first | (with_reducible assumption) | assumption) : (l0.length : Int).toNat ≤ 35184372088832)) (by omega)) (Below.refl _ _) (Nat.le_refl _) ?_
        intro qx zz ho14 hb hg_ hnew_
        clear hg_ hnew_
        (first | rw [← Ny206.out] at ho14 | (simp only [Int.reduceToNat] at ho14; rw [← Ny206.out] at ho14))
        have ql := Aside0.mk (Kd.R_lower ho14 (bz_ HB)); replace qa := kB_ qa hb; replace HB := bS_ HB hb; clear hb ho14
        obtain ⟨zf, zg, eo15⟩ := Kd.R_slice ql.out
        (first | subst eo15 | (injection eo15 with f1_ f2_ f3_; have f4_ := f1_.symm; have f5_ := f3_.symm; clear f1_ f2_ f3_; subst f4_; subst f5_))
        refine hK.out _ _ trivial (fun hHeld => ?_)
        clear hK K
        refine norm_ (a' := ?_) ?_ ?_
        rotate_left
        ·
         show Act.put _ (some 20) _ = _
         simp only [Act.put, List.setIfInBounds_toArray, List.set_cons_zero, List.set_cons_succ, i64_w, i32_w]
         rfl
        refine pure_ (i := 7) (N := some 25) (v := ?_) (a' := ?_) #[true, true, true, true, true, true, true, true, false, false] rfl rfl (any_of HT_.out (by kernel_rfl)) (fun _ _ _ h => h) (Or.inl ⟨by rfl, ?_⟩) ?_ ?_
        rotate_left
        ·
         intro w'
         go_simp
         with_reducible rfl
        rotate_left
        ·
         simp only [Act.put, List.setIfInBounds_toArray, List.set_cons_zero, List.set_cons_succ, i64_w, i32_w]
         rfl
        refine one_ (i := 8) (N := some 9) #[true, true, true, true, true, true, true, true, true, false] rfl rfl (one_of HT_.out (by kernel_rfl)) (by decide) (fun K hK => ?_)
        refine box_step ?hg (N := 9) ?hd (cs := #[.slice none 0 0, .int .i64 0, .bool false]) (t := 26) ?hr ?_; (case hd => rfl); (case hg => rfl); (case hr => first | (go_simp; done) | (go_simp; rfl))
        intro qe hg zC hbox hb
        replace ql := rB_ ql hb; have qd := Aside0.mk (hbox); have qp := Aside0.mk ((by rw [hg]; exact (bz_ HB) : w.heap.size ≤ qe)); have qq := Aside0.mk ((by rw [hg]; exact (bz_ HB) : w.heap.size ≤ qe)); replace HB := bS_ HB hb; have qi := Aside0.mk ((nl_ qa hg : qf ≠ qe)); have qj := Aside0.mk ((ng_ qa hg : qe ≠ qf)); replace qa := kB_ qa hb; clear hb hbox hg
        refine hK.out _ _ trivial (fun hHeld => ?_)
        clear hK K
        refine norm_ (a' := ?_) ?_ ?_
        rotate_left
        ·
         show Act.put _ (some 9) _ = _
         simp only [Act.put, List.setIfInBounds_toArray, List.set_cons_zero, List.set_cons_succ, i64_w, i32_w]
         rfl
        exact norm_ (by simp only [putAll, Act.put, List.setIfInBounds_toArray, List.set_cons_zero, List.set_cons_succ]) (hCont (.slice zf y206.length zg, qe) _ ⟨(rm_ ql), (kf_ qa), (kf_ qd), qp.out, qq.out, qi.out, qj.out, (bb_ HB)⟩)
       ·
        skip
        refine box_step ?hg (N := 9) ?hd (cs := #[.slice none 0 0, .int .i64 0, .bool false]) (t := 26) ?hr ?_; (case hd => rfl); (case hg => rfl); (case hr => first | (go_simp; done) | (go_simp; rfl))
        intro qe hg zz hbox hb
        have qd := Aside0.mk (hbox); have qp := Aside0.mk ((by rw [hg]; exact (bz_ HB) : w.heap.size ≤ qe)); have qq := Aside0.mk ((by rw [hg]; exact (bz_ HB) : w.heap.size ≤ qe)); replace HB := bS_ HB hb; have qi := Aside0.mk ((nl_ qa hg : qf ≠ qe)); have qj := Aside0.mk ((ng_ qa hg : qe ≠ qf)); replace qa := kB_ qa hb; clear hb hbox hg
        refine hK.out _ _ trivial (fun hHeld => ?_)
        clear hK K
        refine norm_ (a' := ?_) ?_ ?_
        rotate_left
        ·
         show Act.put _ (some 9) _ = _
         simp only [Act.put, List.setIfInBounds_toArray, List.set_cons_zero, List.set_cons_succ, i64_w, i32_w]
         rfl
        refine one_ (i := 2) (N := some 20) #[true, true, true, true, true, true, true, false, true, false] rfl rfl (one_of HT_.out (by kernel_rfl)) (by decide) (fun K hK => ?_)
        refine Kd.R_make_step (Kd.int .i64) _ 3 (by rfl) (N := 20) rfl 22 _ _ rfl (l0.length : Int) rfl rfl Try.underlying22 (.int .i64 0) 8 info3 rfl (by decide) (by omega) 0 (ok := fun _ => True) (okp := fun _ => True) rfl (fun _ hk => hk) trivial (of_decide_eq_true (by first | (with_reducible assumption) | assumption)) (Nat.le_trans (Nat.mul_le_mul_right _ (of_decide_eq_true (by first | (with_reducible assumption) | assumption) : (l0.length : Int).toNat ≤ 35184372088832)) (by omega)) (Below.refl _ _) (Nat.le_refl _) ?_
        intro qx zD ho15 hb hg_ hnew_
        clear hg_ hnew_
        (first | rw [← Ny206.out] at ho15 | (simp only [Int.reduceToNat] at ho15; rw [← Ny206.out] at ho15))
        have ql := Aside0.mk (Kd.R_lower ho15 (bz_ HB)); replace qa := kB_ qa hb; replace qd := kB_ qd hb; replace HB := bS_ HB hb; clear hb ho15
        obtain ⟨zh, zi, eo16⟩ := Kd.R_slice ql.out
        (first | subst eo16 | (injection eo16 with f1_ f2_ f3_; have f4_ := f1_.symm; have f5_ := f3_.symm; clear f1_ f2_ f3_; subst f4_; subst f5_))
        refine hK.out _ _ trivial (fun hHeld => ?_)
        clear hK K
        refine norm_ (a' := ?_) ?_ ?_
        rotate_left
        ·
         show Act.put _ (some 20) _ = _
         simp only [Act.put, List.setIfInBounds_toArray, List.set_cons_zero, List.set_cons_succ, i64_w, i32_w]
         rfl
        refine pure_ (i := 7) (N := some 25) (v := ?_) (a' := ?_) #[true, true, true, true, true, true, true, true, true, false] rfl rfl (any_of HT_.out (by kernel_rfl)) (fun _ _ _ h => h) (Or.inl ⟨by rfl, ?_⟩) ?_ ?_
        rotate_left
        ·
         intro w'
         go_simp
         with_reducible rfl
        rotate_left
        ·
         simp only [Act.put, List.setIfInBounds_toArray, List.set_cons_zero, List.set_cons_succ, i64_w, i32_w]
         rfl
        exact norm_ (by simp only [putAll, Act.put, List.setIfInBounds_toArray, List.set_cons_zero, List.set_cons_succ]) (hCont (.slice zh y206.length zi, qe) _ ⟨(rm_ ql), (kf_ qa), (kf_ qd), qp.out, qq.out, qi.out, qj.out, (bb_ HB)⟩)
      rintro ⟨qx, qe⟩ qy ⟨h0_, h1_, h2_, h3_, h4_, h5_, h6_, h7_⟩
      have n0_ : Aside0 (Kd.R (Kd.int .i64) 3 qy w.heap.size (fun _ => True) qx y206) := ⟨h0_⟩
      have n1_ : Aside0 (qy.heap[qf]? = some (.cells #[.slice none 0 0, .int .i64 0, .bool false] 26 (0, 0))) := ⟨h1_⟩
      have n2_ : Aside0 (qy.heap[qe]? = some (.cells #[.slice none 0 0, .int .i64 0, .bool false] 26 (0, 0))) := ⟨h2_⟩
      have n3_ : Aside0 (w.heap.size ≤ qe) := ⟨h3_⟩
      have n4_ : Aside0 (w.heap.size ≤ qe) := ⟨h4_⟩
      have n5_ : Aside0 (qf ≠ qe) := ⟨h5_⟩
      have n6_ : Aside0 (qe ≠ qf) := ⟨h6_⟩
      have n7_ : Aside0 (Below w.heap.size w qy) := ⟨h7_⟩
      clear qa
      clear HB
      clear h0_ h1_ h2_ h3_ h4_ h5_ h6_ h7_
      have ql := n0_
      have qa := n1_
      have qd := n2_
      have qp := n3_
      have qq := n4_
      have qi := n5_
      have qj := n6_
      have HB := n7_
      clear n0_ n1_ n2_ n3_ n4_ n5_ n6_ n7_
      have hHeld := trivial
      obtain ⟨qu, qv, eo18⟩ := Kd.R_slice ql.out
      (first | subst eo18 | (injection eo18 with f1_ f2_ f3_; have f4_ := f1_.symm; have f5_ := f3_.symm; clear f1_ f2_ f3_; subst f4_; subst f5_))
      refine norm_ (a' := ?_) ?_ ?_
      rotate_left
      ·
       simp only [putAll, Act.put, List.setIfInBounds_toArray, List.set_cons_zero, List.set_cons_succ]
       rfl
      refine one_ (i := 9) (N := none) #[true, true, true, true, true, true, true, true, true, true] rfl rfl (one_of HT_.out (by kernel_rfl)) (by decide) (fun K hK => ?_)
      have hs19 : qy.cell? ⟨qe, 0, none⟩ = some (.slice none 0 0) := bc_ qd 0
      have hfs19 := blk_frozen qd.out 0
      have hns19_0 := qi.out
      have hms19_0 := qj.out
      have hs20 : qy.cell? ⟨qe, 1, none⟩ = some (.int .i64 0) := bc_ qd 1
      have hfs20 := blk_frozen qd.out 1
      have hns20_0 := qi.out
      have hms20_0 := qj.out
      have hs21 : qy.cell? ⟨qe, 2, none⟩ = some (.bool false) := bc_ qd 2
      have hfs21 := blk_frozen qd.out 2
      have hns21_0 := qi.out
      have hms21_0 := qj.out
      refine skip_ (w1 := ?_) (by rfl) rfl ?_ ?_
      rotate_left
      ·
       go_simp
       rfl
      refine hK.out _ _ trivial (fun hHeld => ?_)
      clear hK K
      refine done_ (done_of HT_.out (by kernel_rfl)) ?_
      try go_wp2
      go_loopg [28] kj5 (fun kq v28 w' => ∃ (qg : Int) (qb : List Int) (u210000 : Value), v28 = .int .i64 qg ∧ Aside0 (impl_makeOf.l0 kq qh l0 (l0.length : Int) qg qb (wrap64 (Int.tdiv a1 qh)) a2 = some (r1, r2, r3, r4)) ∧ Aside0 (kq ≤ kj5) ∧ Aside0 (Kd.R (Kd.int .i64) 3 w' w.heap.size (fun _ => True) u210000 qb) ∧ Aside0 (w'.heap[qf]? = some (.cells #[(.slice none 0 0), .int .i64 0, .bool false] 26 (0, 0))) ∧ Aside0 (w'.heap[qe]? = some (.cells #[u210000, .int .i64 (wrap64 (Int.tdiv a1 qh)), .bool a2] 26 (0, 0))) ∧ Aside0 (Below w.heap.size w w'))
      case atStart => exact ⟨(0), (y206), (.slice qu y206.length qv), (by first | rfl | (simp; done) | (simp [*]; done)), H', ⟨Nat.le_refl _⟩, ⟨by (with_reducible repeat (first | apply Kd.R_alloc | apply Kd.R_drewN | apply Kd.R_drew)); exact Kd.R_mono (Kd.R_far (p := ⟨qe, 2, none⟩) (Kd.R_far (p := ⟨qe, 1, none⟩) (Kd.R_far (p := ⟨qe, 0, none⟩) (Kd.R_types ql.out qd.out (by decide)) (fun _ hk => hk.2) (.slice qu y206.length qv)) (fun _ hk => hk.2) (.int .i64 (wrap64 (Int.tdiv a1 qh)))) (fun _ hk => hk.2) (.bool a2)) (fun _ hk => trivial)⟩, ⟨kf_ qa⟩, ⟨by (with_reducible repeat (first | refine blk_drewN ?_ _ | refine blk_drew ?_ | refine blk_alloc ?_ _)); refine blk_put (cs := #[.slice qu y206.length qv, .int .i64 (wrap64 (Int.tdiv a1 qh)), .bool false]) ?_ 2 _ rfl; (with_reducible repeat (first | refine blk_drewN ?_ _ | refine blk_drew ?_ | refine blk_alloc ?_ _)); refine blk_put (cs := #[.slice qu y206.length qv, .int .i64 0, .bool false]) ?_ 1 _ rfl; (with_reducible repeat (first | refine blk_drewN ?_ _ | refine blk_drew ?_ | refine blk_alloc ?_ _)); refine blk_put (cs := #[.slice none 0 0, .int .i64 0, .bool false]) ?_ 0 _ rfl; (with_reducible repeat (first | refine blk_drewN ?_ _ | refine blk_drew ?_ | refine blk_alloc ?_ _)); exact qd.out⟩, ⟨bb_ HB⟩⟩
      case round =>
       clear H'
       try clear c1
       try clear p2
       try clear c5
       try clear p6
       try clear c8
       try clear qo
       try clear qw
       try clear c9
       try clear zd
       try clear ze
       try clear c10
       try clear qC
       try clear qD
       try clear c11
       try clear qE
       try clear qF
       try clear p2
       obtain ⟨qg, qb, u210000, rfl, HA, HK2, qc, qa, qd, HB⟩ := hrel
       cases gk with
       | zero => exact absurd HA.out (by simp [impl_makeOf.l0])
       | succ k2 =>
        have H := HA.out
        clear HA
        simp only [impl_makeOf.l0] at H
        by_cases c22 : qg < (l0.length : Int)
        ·
         rw [if_pos c22] at H
         have qG : decide (qg < (l0.length : Int)) = true := decide_eq_true c22
         clear c22
         by_cases c23 : 0 ≤ qg
         ·
          rw [if_pos c23] at H
          have zp : decide (0 ≤ qg) = true := decide_eq_true c23
          clear c23
          by_cases c24 : qg < (l0.length : Int)
          ·
           rw [if_pos c24] at H
           have zq : decide (qg < (l0.length : Int)) = true := decide_eq_true c24
           clear c24
           by_cases c25 : qh = 0
           ·
            rw [if_pos c25] at H
            exact absurd H (by simp)
           ·
            rw [if_neg c25] at H
            have zr : (qh == 0) = false := beq_eq_false_iff_ne.mpr c25
            have zs : (qh != 0) = true := bne_iff_ne.mpr c25
            by_cases c26 : qg < (qb.length : Int)
            ·
             rw [if_pos c26] at H
             have zt : decide (qg < (qb.length : Int)) = true := decide_eq_true c26
             clear c26
             obtain ⟨y211, hy211⟩ : ∃ y_ : List Int, y_ = (qb.set (qg : Int).toNat (wrap64 (Int.tdiv (rd l0 qg) qh))) := ⟨_, rfl⟩
             replace H : (impl_makeOf.l0 k2 qh l0 (l0.length : Int) (wrap64 (qg + 1)) y211 (wrap64 (Int.tdiv a1 qh)) a2) = some (r1, r2, r3, r4) := by first | (rw [hy211]; with_reducible exact H) | (have H2_ := (Option.bind_some _ _).symm.trans H; rw [hy211]; with_reducible exact H2_) | (have H2_ := (Option.bind_some _ _).symm.trans H; with_reducible exact H2_) | with_reducible exact H | (rw [hy211]; exact H) | exact H
             have Ny211 := Aside0.mk hy211
             clear hy211
             have H' := Aside0.mk H
             clear H
             have p210 : 0 ≤ (qg : Int) := of_decide_eq_true (by first | (with_reducible assumption) | assumption)
             have q210 : qg < (l0.length : Int) := of_decide_eq_true (by first | (with_reducible assumption) | assumption)
             obtain ⟨zu, e210, qm⟩ := Kd.at_int HR0.out qg p210 q210
             cases e210
             replace qm := (HB.out.cell (World.block_lt_of_cell? w _ qm)).trans qm
             replace p210 := eq_true p210
             replace q210 := eq_true q210
             try go_wp2
             replace qc := Aside0.mk (Kd.R_drew qc.out); replace qa := Aside0.mk (blk_drew qa.out); replace qd := Aside0.mk (blk_drew qd.out); replace HB := Aside0.mk (below_drew1 HB.out)
             have p27 : 0 ≤ (qg : Int) := of_decide_eq_true (by first | (with_reducible assumption) | assumption)
             have q27 : (qg : Int) < ((qb.length : Int) : Int) := of_decide_eq_true (by first | (with_reducible assumption) | assumption)
             obtain ⟨go27, qH, eo27, qI, gl27, cl27, HG27⟩ := Kd.R_form qc.out (by omega)
             (first | cases eo27 | (injection eo27 with ea_ en_ ec_; (first | subst ea_ | (injection ea_ with ea_; subst ea_)); subst ec_; clear en_))
             have zA := Aside0.mk qI
             have zj := Aside0.mk HG27
             clear qI gl27 HG27
             obtain ⟨qz, hf27_0⟩ := Kd.R_celln 0 qc.out (qg : Int) p27 q27
             replace p27 := eq_true p27
             replace q27 := eq_true q27
             have qA := Kd.R_putn qc.out (qg : Int) (wrap64 (Int.tdiv (rd l0 qg) qh))
             rw [← Ny211.out] at qA
             have HQ29 := Aside0.mk qA
             clear qA
             refine start_ (n := 8) (S := fun w' => w'.cell? ⟨qe, 0, none⟩ = some (.slice (some ⟨go27, 0, none⟩) qb.length qH) ∧ w'.cell? ⟨qe, 1, none⟩ = some (.int .i64 (wrap64 (Int.tdiv a1 qh))) ∧ w'.cell? ⟨qe, 2, none⟩ = some (.bool a2)) (ds := [7]) #[false, false, false, false, false, false, false, false] (by kernel_rfl) rfl rfl ⟨bc_ qd 0, bc_ qd 1, bc_ qd 2⟩ (fun hHeld => ?_); refine with_tabW impl_makeOf.tab8 impl_makeOf.bits8 (fun HT_ HW_ => ?_)
             generalize wr.drew = zE at qc qa qd HB zj HQ29 hf27_0 qz hHeld ⊢
             refine pure_ (i := 0) (N := some 33) (v := ?_) (a' := ?_) #[true, false, false, false, false, false, false, false] rfl rfl (any_of HT_.out (by kernel_rfl)) (fun _ _ _ h => h) (Or.inl ⟨by rfl, ?_⟩) ?_ ?_
             rotate_left
             ·
              intro w'
              go_simp
              with_reducible rfl
             rotate_left
             ·
              simp only [Act.put, List.setIfInBounds_toArray, List.set_cons_zero, List.set_cons_succ, i64_w, i32_w]
              rfl
             refine pure_ (i := 2) (N := some 35) (v := ?_) (a' := ?_) #[true, false, true, false, false, false, false, false] rfl rfl (any_of HT_.out (by kernel_rfl)) (fun _ _ _ h => h) (Or.inl ⟨by rfl, ?_⟩) ?_ ?_
             rotate_left
             ·
              intro w'
              go_simp
              with_reducible rfl
             rotate_left
             ·
              simp only [Act.put, List.setIfInBounds_toArray, List.set_cons_zero, List.set_cons_succ, i64_w, i32_w]
              rfl
             refine pure_ (i := 3) (N := some 36) (v := ?_) (a' := ?_) #[true, false, true, true, false, false, false, false] rfl rfl (any_of HT_.out (by kernel_rfl)) (fun _ _ _ h => h) (Or.inl ⟨by rfl, ?_⟩) ?_ ?_
             rotate_left
             ·
              intro w'
              go_simp
              with_reducible rfl
             rotate_left
             ·
              simp only [Act.put, List.setIfInBounds_toArray, List.set_cons_zero, List.set_cons_succ, i64_w, i32_w]
              rfl
             refine pure_ (i := 4) (N := some 37) (v := ?_) (a' := ?_) #[true, false, true, true, true, false, false, false] rfl rfl (any_of HT_.out (by kernel_rfl)) (fun _ _ _ h => h) (Or.inl ⟨by rfl, ?_⟩) ?_ ?_
             rotate_left
             ·
              intro w'
              go_simp
              with_reducible rfl
             rotate_left
             ·
              simp only [Act.put, List.setIfInBounds_toArray, List.set_cons_zero, List.set_cons_succ, i64_w, i32_w]
              rfl
             refine pure_ (i := 5) (N := some 38) (v := ?_) (a' := ?_) #[true, false, true, true, true, true, false, false] rfl rfl (any_of HT_.out (by kernel_rfl)) (fun _ _ _ h => h) (Or.inl ⟨by rfl, ?_⟩) ?_ ?_
             rotate_left
             ·
              intro w'
              go_simp
              with_reducible rfl
             rotate_left
             ·
              simp only [Act.put, List.setIfInBounds_toArray, List.set_cons_zero, List.set_cons_succ, i64_w, i32_w]
              rfl
             refine take_ (i := 1) (N := some 34) (v := ?_) (a' := ?_) #[true, true, true, true, true, true, false, false] rfl rfl (take_ofW HT_.out HW_.out (by kernel_rfl)) (fun _ _ _ h => h) (Or.inl ⟨by rfl, ?_⟩) hHeld ?_ ?_
             rotate_left
             ·
              rintro w' ⟨s0, s1, s2⟩
              go_simp
              with_reducible rfl
             rotate_left
             ·
              simp only [Act.put, List.setIfInBounds_toArray, List.set_cons_zero, List.set_cons_succ, i64_w, i32_w]
              rfl
             refine pure_ (i := 6) (N := some 39) (v := ?_) (a' := ?_) #[true, true, true, true, true, true, true, false] rfl rfl (any_of HT_.out (by kernel_rfl)) (fun _ _ _ h => h) (Or.inl ⟨by rfl, ?_⟩) ?_ ?_
             rotate_left
             ·
              intro w'
              go_simp
              with_reducible rfl
             rotate_left
             ·
              simp only [Act.put, List.setIfInBounds_toArray, List.set_cons_zero, List.set_cons_succ, i64_w, i32_w]
              rfl
             refine last_ (i := 7) (N := none) #[true, true, true, true, true, true, true, true] rfl rfl (one_of HT_.out (by kernel_rfl)) (by decide) (fun K hK => ?_)
             refine skip_ (w1 := ?_) (by rfl) rfl ?_ ?_
             rotate_left
             ·
              go_simp
              rfl
             refine hK.out _ _ ?_
             clear hK K
             refine done_ (done_of HT_.out (by kernel_rfl)) ?_
             try go_wp2
             go_roundg k2
             case measure => have := HJ5.out; have := HK2.out; omega
             case rel => exact ⟨(wrap64 (qg + 1)), (y211), (.slice (some ⟨go27, 0, none⟩) qb.length qH), (by first | rfl | (simp; done) | (simp [*]; done)), H', ⟨by have := HJ5.out; have := HK2.out; omega⟩, ⟨by (with_reducible repeat (first | apply Kd.R_alloc | apply Kd.R_drewN | apply Kd.R_drew)); exact HQ29.out⟩, ⟨by (with_reducible repeat (first | refine blk_drewN ?_ _ | refine blk_drew ?_ | refine blk_alloc ?_ _)); refine blk_far ?_ (by have h_ := Kd.R_ne qc.out qa.out (by decide); intro e_; exact h_ (by rw [e_]; rfl)) _; (with_reducible repeat (first | refine blk_drewN ?_ _ | refine blk_drew ?_ | refine blk_alloc ?_ _)); exact qa.out⟩, ⟨by (with_reducible repeat (first | refine blk_drewN ?_ _ | refine blk_drew ?_ | refine blk_alloc ?_ _)); refine blk_far ?_ (by have h_ := Kd.R_ne qc.out qd.out (by decide); intro e_; exact h_ (by rw [e_]; rfl)) _; (with_reducible repeat (first | refine blk_drewN ?_ _ | refine blk_drew ?_ | refine blk_alloc ?_ _)); exact qd.out⟩, ⟨bb_ HB⟩⟩
            ·
             rw [if_neg c26] at H
             exact absurd H (by simp)
          ·
           rw [if_neg c24] at H
           exact absurd H (by simp)
         ·
          rw [if_neg c23] at H
          exact absurd H (by simp)
        ·
         rw [if_neg c22] at H
         have qG : decide (qg < (l0.length : Int)) = false := decide_eq_false c22
         clear c22
         replace H := Option.bind_eq_some_iff.mp H
         obtain ⟨qt, A300, H⟩ := H
         replace H : (if qt = true then (some (qb, (wrap64 (Int.tdiv a1 qh)), a2, true)) else (some (([] : List Int), 0, false, false))) = some (r1, r2, r3, r4) := H
         have A30 := Aside0.mk A300
         clear A300
         by_cases c31 : qt = true
         ·
          subst c31
          have H1 : (some (qb, (wrap64 (Int.tdiv a1 qh)), a2, true)) = some (r1, r2, r3, r4) := by rw [if_pos rfl] at H; exact H
          clear H
          have H := H1
          clear H1
          simp only [Option.some.injEq, Prod.mk.injEq] at H
          obtain ⟨rfl, rfl, rfl, rfl⟩ := H
          have zv := qj.out
          have zw := qi.out
          have qJ : wr.cell? ⟨qe, 0, none⟩ = some (u210000) := bc_ qd 0
          have qK : wr.cell? ⟨qe, 1, none⟩ = some (.int .i64 (wrap64 (Int.tdiv a1 qh))) := bc_ qd 1
          have qL : wr.cell? ⟨qe, 2, none⟩ = some (.bool a2) := bc_ qd 2
          have qM := blk_frozen qd.out 0
          have qN := blk_frozen qd.out 1
          have qO := blk_frozen qd.out 2
          obtain ⟨qr, qs, eo34⟩ := Kd.R_slice qc.out
          subst eo34
          go_wp2_with (first | ((with_reducible refine gate_callee (f := 54) rfl ?_); refine goesL_ (some 42) rfl rfl Try.func54 (by kernel_rfl) rfl #[.agg #[.slice qr qb.length qs, .int .i64 (wrap64 (Int.tdiv a1 qh)), .bool a2]] rfl (by (try simp only [List.map_toArray, List.map_cons, List.map_nil]); first | done | rfl | (simp only [List.length_drop, List.length_take]; rfl)) ?_; (with_reducible refine (impl_IsAtom.calls k2 _ _ qb (wrap64 (Int.tdiv a1 qh)) a2 true _ ?side1 ?side2 A30.out).mono ?_); (case side1 => exact cr_ qc); (case side2 => exact (Kd.R_reads' qc.out).2.1); rintro e qB ⟨rfl, hb⟩; refine ⟨_, rfl, ?_⟩; replace qc := rB_ qc hb; replace qa := kB_ qa hb; replace qd := kB_ qd hb; replace HB := bS_ HB hb; (try clear hb); (try clear hb2); (try clear hk); (try clear hi); have qP : qB.cell? ⟨qe, 0, none⟩ = some (.slice qr qb.length qs) := bc_ qd 0; have qQ : qB.cell? ⟨qe, 1, none⟩ = some (.int .i64 (wrap64 (Int.tdiv a1 qh))) := bc_ qd 1; have qR : qB.cell? ⟨qe, 2, none⟩ = some (.bool a2) := bc_ qd 2; have qS := blk_frozen qd.out 0; have qT := blk_frozen qd.out 1; have qU := blk_frozen qd.out 2; have qV : qB.cell? ⟨qf, 0, none⟩ = some (.slice none 0 0) := bc_ qa 0; have qW : qB.cell? ⟨qf, 1, none⟩ = some (.int .i64 0) := bc_ qa 1; have qX : qB.cell? ⟨qf, 2, none⟩ = some (.bool false) := bc_ qa 2; have qY := blk_frozen qa.out 0; have qZ := blk_frozen qa.out 1; have q0 := blk_frozen qa.out 2))
          refine bodyPost_ret (results_ct rfl _ _ qf 26 #[.slice qr qb.length qs, .int .i64 (wrap64 (Int.tdiv a1 qh)), .bool a2] (0, 0) _ rfl (by (with_reducible repeat (first | refine blk_drewN ?_ _ | refine blk_drew ?_ | refine blk_alloc ?_ _)); refine blk_put (cs := #[.slice qr qb.length qs, .int .i64 (wrap64 (Int.tdiv a1 qh)), .bool false]) ?_ 2 _ rfl; (with_reducible repeat (first | refine blk_drewN ?_ _ | refine blk_drew ?_ | refine blk_alloc ?_ _)); refine blk_put (cs := #[.slice qr qb.length qs, .int .i64 0, .bool false]) ?_ 1 _ rfl; (with_reducible repeat (first | refine blk_drewN ?_ _ | refine blk_drew ?_ | refine blk_alloc ?_ _)); refine blk_put (cs := #[.slice none 0 0, .int .i64 0, .bool false]) ?_ 0 _ rfl; (with_reducible repeat (first | refine blk_drewN ?_ _ | refine blk_drew ?_ | refine blk_alloc ?_ _)); exact qa.out) Try.underlying26 rfl (by kernel_rfl)) rfl ?_
          exact ⟨_, by first | rfl | (simp [errW_none, errW_some] <;> rfl) | (simp [*, errW_none, errW_some] <;> rfl), by (with_reducible repeat (first | apply Kd.R_alloc | apply Kd.R_drewN | apply Kd.R_drew)); exact Kd.R_mono (Kd.R_far (p := ⟨qf, 2, none⟩) (Kd.R_far (p := ⟨qf, 1, none⟩) (Kd.R_far (p := ⟨qf, 0, none⟩) (Kd.R_types qc.out qa.out (by decide)) (fun _ hk => hk.2) (.slice qr qb.length qs)) (fun _ hk => hk.2) (.int .i64 (wrap64 (Int.tdiv a1 qh)))) (fun _ hk => hk.2) (.bool a2)) (fun _ hk => trivial), bb_ HB⟩
         ·
          replace c31 := Bool.eq_false_iff.mpr c31
          subst c31
          have H1 : (some (([] : List Int), 0, false, false)) = some (r1, r2, r3, r4) := by rw [if_neg (show ¬ (false = true) by decide)] at H; exact H
          clear H
          have H := H1
          clear H1
          simp only [Option.some.injEq, Prod.mk.injEq] at H
          obtain ⟨rfl, rfl, rfl, rfl⟩ := H
          have zx := qj.out
          have zy := qi.out
          have q1 : wr.cell? ⟨qe, 0, none⟩ = some (u210000) := bc_ qd 0
          have q2 : wr.cell? ⟨qe, 1, none⟩ = some (.int .i64 (wrap64 (Int.tdiv a1 qh))) := bc_ qd 1
          have q3 : wr.cell? ⟨qe, 2, none⟩ = some (.bool a2) := bc_ qd 2
          have q4 := blk_frozen qd.out 0
          have q5 := blk_frozen qd.out 1
          have q6 := blk_frozen qd.out 2
          obtain ⟨zk, zl, eo40⟩ := Kd.R_slice qc.out
          subst eo40
          go_wp2_with (first | ((with_reducible refine gate_callee (f := 54) rfl ?_); refine goesL_ (some 42) rfl rfl Try.func54 (by kernel_rfl) rfl #[.agg #[.slice zk qb.length zl, .int .i64 (wrap64 (Int.tdiv a1 qh)), .bool a2]] rfl (by (try simp only [List.map_toArray, List.map_cons, List.map_nil]); first | done | rfl | (simp only [List.length_drop, List.length_take]; rfl)) ?_; (with_reducible refine (impl_IsAtom.calls k2 _ _ qb (wrap64 (Int.tdiv a1 qh)) a2 false _ ?side1 ?side2 A30.out).mono ?_); (case side1 => exact cr_ qc); (case side2 => exact (Kd.R_reads' qc.out).2.1); rintro e zm ⟨rfl, hb⟩; refine ⟨_, rfl, ?_⟩; replace qc := rB_ qc hb; replace qa := kB_ qa hb; replace qd := kB_ qd hb; replace HB := bS_ HB hb; (try clear hb); (try clear hb2); (try clear hk); (try clear hi); have q7 : zm.cell? ⟨qf, 0, none⟩ = some (.slice none 0 0) := bc_ qa 0; have q8 : zm.cell? ⟨qf, 1, none⟩ = some (.int .i64 0) := bc_ qa 1; have q9 : zm.cell? ⟨qf, 2, none⟩ = some (.bool false) := bc_ qa 2; have za := blk_frozen qa.out 0; have zb := blk_frozen qa.out 1; have zc := blk_frozen qa.out 2))
          refine bodyPost_ret (results_ct rfl _ _ qf 26 #[.slice none 0 0, .int .i64 0, .bool false] (0, 0) _ rfl (by (with_reducible repeat (first | refine blk_drewN ?_ _ | refine blk_drew ?_ | refine blk_alloc ?_ _)); refine blk_put (cs := #[.slice none 0 0, .int .i64 0, .bool false]) ?_ 2 _ rfl; (with_reducible repeat (first | refine blk_drewN ?_ _ | refine blk_drew ?_ | refine blk_alloc ?_ _)); refine blk_put (cs := #[.slice none 0 0, .int .i64 0, .bool false]) ?_ 1 _ rfl; (with_reducible repeat (first | refine blk_drewN ?_ _ | refine blk_drew ?_ | refine blk_alloc ?_ _)); refine blk_put (cs := #[.slice none 0 0, .int .i64 0, .bool false]) ?_ 0 _ rfl; (with_reducible repeat (first | refine blk_drewN ?_ _ | refine blk_drew ?_ | refine blk_alloc ?_ _)); exact qa.out) Try.underlying26 rfl (by kernel_rfl)) rfl ?_
          exact ⟨_, by first | rfl | (simp [errW_none, errW_some] <;> rfl) | (simp [*, errW_none, errW_some] <;> rfl), by first | exact Kd.R_nil _ _ _ _ _ | exact Kd.N_nil _ _ _ _ _ | exact Kd.V_nil _ _ _ _ _ | exact Kd.Q_nil _ _ _ _ _ | exact Kd.S_nil _ _ _ _ _, bb_ HB⟩
    ·
     rw [if_neg c10] at H
     exact absurd H (by simp)
   ·
    rw [if_neg c9] at H
    exact absurd H (by simp)

/-! ### impl_MixAtoms: function 31 -/
mutual
def impl_MixAtoms.j0 : Nat → Int → Int → Bool → List Int → Int → Bool → List Int → Int → Bool → Option (List Int × Int × Bool × Bool)
 | 0, _, _, _, _, _, _, _, _, _ => none
 | k + 1, x1, x3, x28, x214000, x214001, x214002, x215000, x215001, x215002 => if x28 = true then (some (([] : List Int), 0, false, false)) else (if x1 < 0 then (impl_MixAtoms.j1 k x1 x3 true x214000 x214001 x214002 x215000 x215001 x215002) else (if x1 > 400000000 then (impl_MixAtoms.j1 k x1 x3 true x214000 x214001 x214002 x215000 x215001 x215002) else (if x3 < 0 then (impl_MixAtoms.j1 k x1 x3 true x214000 x214001 x214002 x215000 x215001 x215002) else (impl_MixAtoms.j1 k x1 x3 (decide (x3 > 400000000)) x214000 x214001 x214002 x215000 x215001 x215002))))
def impl_MixAtoms.j1 : Nat → Int → Int → Bool → List Int → Int → Bool → List Int → Int → Bool → Option (List Int × Int × Bool × Bool)
 | 0, _, _, _, _, _, _, _, _, _ => none
 | k + 1, x1, x3, x43, x214000, x214001, x214002, x215000, x215001, x215002 => if x43 = true then (some (([] : List Int), 0, false, false)) else (if 0 ≤ (x214000.length : Int) then (if ((x214000.length : Int) : Int).toNat ≤ 35184372088832 then ((some (List.replicate ((x214000.length : Int) : Int).toNat 0 : List Int)).bind fun y218 => (impl_MixAtoms.l0 k x1 x3 y218 (y218.length : Int) 0 x214000 x214001 x214002 x215000 x215001 x215002)) else (none)) else (none))
def impl_MixAtoms.l0 : Nat → Int → Int → List Int → Int → Int → List Int → Int → Bool → List Int → Int → Bool → Option (List Int × Int × Bool × Bool)
 | 0, _, _, _, _, _, _, _, _, _, _, _ => none
 | k + 1, x1, x3, x10, x50, x51, x214000, x214001, x214002, x215000, x215001, x215002 => if x51 < x50 then (if 0 ≤ x51 then (if x51 < (x214000.length : Int) then (if x51 < (x215000.length : Int) then (if x51 < (x10.length : Int) then (impl_MixAtoms.l0 k x1 x3 (x10.set (x51 : Int).toNat (wrap64 ((wrap64 (x1 * (rd x214000 x51))) + (wrap64 (x3 * (rd x215000 x51)))))) x50 (wrap64 (x51 + 1)) x214000 x214001 x214002 x215000 x215001 x215002) else (none)) else (none)) else (none)) else (none)) else (if x214002 = true then (if x1 = 0 then (if x215002 = true then ((impl_makeOf.f k x10 (wrap64 ((wrap64 (x1 * x214001)) + (wrap64 (x3 * x215001)))) (x3 != 0)).bind fun qp => (some (qp.1, qp.2.1, qp.2.2.1, qp.2.2.2))) else ((impl_makeOf.f k x10 (wrap64 ((wrap64 (x1 * x214001)) + (wrap64 (x3 * x215001)))) false).bind fun qq => (some (qq.1, qq.2.1, qq.2.2.1, qq.2.2.2)))) else ((impl_makeOf.f k x10 (wrap64 ((wrap64 (x1 * x214001)) + (wrap64 (x3 * x215001)))) true).bind fun qt => (some (qt.1, qt.2.1, qt.2.2.1, qt.2.2.2)))) else (if x215002 = true then ((impl_makeOf.f k x10 (wrap64 ((wrap64 (x1 * x214001)) + (wrap64 (x3 * x215001)))) (x3 != 0)).bind fun qr => (some (qr.1, qr.2.1, qr.2.2.1, qr.2.2.2))) else ((impl_makeOf.f k x10 (wrap64 ((wrap64 (x1 * x214001)) + (wrap64 (x3 * x215001)))) false).bind fun qs => (some (qs.1, qs.2.1, qs.2.2.1, qs.2.2.2)))))
end
def impl_MixAtoms.f (k : Nat) (l0_0 : List Int) (a0_1 : Int) (a0_2 : Bool) (a1 : Int) (l2_0 : List Int) (a2_1 : Int) (a2_2 : Bool) (a3 : Int) : Option (List Int × Int × Bool × Bool) := (impl_IsAtom.f k l0_0 a0_1 a0_2).bind fun zp => (if zp = true then ((impl_IsAtom.f k l2_0 a2_1 a2_2).bind fun qx => (if qx = true then (impl_MixAtoms.j0 k a1 a3 ((l0_0.length : Int) != (l2_0.length : Int)) l0_0 a0_1 a0_2 l2_0 a2_1 a2_2) else (impl_MixAtoms.j0 k a1 a3 true l0_0 a0_1 a0_2 l2_0 a2_1 a2_2))) else (impl_MixAtoms.j0 k a1 a3 true l0_0 a0_1 a0_2 l2_0 a2_1 a2_2))
theorem impl_MixAtoms.mono_l : ∀ k, (∀ y0 y1 y2 y3 y4 y5 y6 y7 y8, LeO (impl_MixAtoms.j0 k y0 y1 y2 y3 y4 y5 y6 y7 y8) (impl_MixAtoms.j0 (k + 1) y0 y1 y2 y3 y4 y5 y6 y7 y8)) ∧ (∀ y0 y1 y2 y3 y4 y5 y6 y7 y8, LeO (impl_MixAtoms.j1 k y0 y1 y2 y3 y4 y5 y6 y7 y8) (impl_MixAtoms.j1 (k + 1) y0 y1 y2 y3 y4 y5 y6 y7 y8)) ∧ (∀ y0 y1 y2 y3 y4 y5 y6 y7 y8 y9 y10, LeO (impl_MixAtoms.l0 k y0 y1 y2 y3 y4 y5 y6 y7 y8 y9 y10) (impl_MixAtoms.l0 (k + 1) y0 y1 y2 y3 y4 y5 y6 y7 y8 y9 y10))
 | 0 => ⟨fun _ _ _ _ _ _ _ _ _ r h => by simp [impl_MixAtoms.j0] at h, fun _ _ _ _ _ _ _ _ _ r h => by simp [impl_MixAtoms.j1] at h, fun _ _ _ _ _ _ _ _ _ _ _ r h => by simp [impl_MixAtoms.l0] at h⟩
 | k + 1 => by
  obtain ⟨ih0, ih1, ih2⟩ := impl_MixAtoms.mono_l k
  refine ⟨?_, ?_, ?_⟩
  ·
   intro y0 y1 y2 y3 y4 y5 y6 y7 y8
   unfold impl_MixAtoms.j0
   repeat' first
   | (with_reducible exact ih0 _ _ _ _ _ _ _ _ _)
   | (with_reducible exact ih1 _ _ _ _ _ _ _ _ _)
   | (with_reducible exact ih2 _ _ _ _ _ _ _ _ _ _ _)
   | (with_reducible exact impl_IsAtom.mono _ _ _ _)
   | (with_reducible exact impl_makeOf.mono _ _ _ _)
   | (with_reducible exact LeO.refl _)
   | (with_reducible exact LeO.none _)
   | (with_reducible refine LeO.ite ?_ ?_)
   | (with_reducible refine LeO.bind ?_ (fun _ => ?_))
   | exact ih0 _ _ _ _ _ _ _ _ _
   | exact ih1 _ _ _ _ _ _ _ _ _
   | exact ih2 _ _ _ _ _ _ _ _ _ _ _
   | exact impl_IsAtom.mono _ _ _ _
   | exact impl_makeOf.mono _ _ _ _
   | exact LeO.none _
   | refine LeO.ite ?_ ?_
   | refine LeO.bind ?_ (fun _ => ?_)
  ·
   intro y0 y1 y2 y3 y4 y5 y6 y7 y8
   unfold impl_MixAtoms.j1
   repeat' first
   | (with_reducible exact ih0 _ _ _ _ _ _ _ _ _)
   | (with_reducible exact ih1 _ _ _ _ _ _ _ _ _)
   | (with_reducible exact ih2 _ _ _ _ _ _ _ _ _ _ _)
   | (with_reducible exact impl_IsAtom.mono _ _ _ _)
   | (with_reducible exact impl_makeOf.mono _ _ _ _)
   | (with_reducible exact LeO.refl _)
   | (with_reducible exact LeO.none _)
   | (with_reducible refine LeO.ite ?_ ?_)
   | (with_reducible refine LeO.bind ?_ (fun _ => ?_))
   | exact ih0 _ _ _ _ _ _ _ _ _
   | exact ih1 _ _ _ _ _ _ _ _ _
   | exact ih2 _ _ _ _ _ _ _ _ _ _ _
   | exact impl_IsAtom.mono _ _ _ _
   | exact impl_makeOf.mono _ _ _ _
   | exact LeO.none _
   | refine LeO.ite ?_ ?_
   | refine LeO.bind ?_ (fun _ => ?_)
  ·
   intro y0 y1 y2 y3 y4 y5 y6 y7 y8 y9 y10
   unfold impl_MixAtoms.l0
   repeat' first
   | (with_reducible exact ih0 _ _ _ _ _ _ _ _ _)
   | (with_reducible exact ih1 _ _ _ _ _ _ _ _ _)
   | (with_reducible exact ih2 _ _ _ _ _ _ _ _ _ _ _)
   | (with_reducible exact impl_IsAtom.mono _ _ _ _)
   | (with_reducible exact impl_makeOf.mono _ _ _ _)
   | (with_reducible exact LeO.refl _)
   | (with_reducible exact LeO.none _)
   | (with_reducible refine LeO.ite ?_ ?_)
   | (with_reducible refine LeO.bind ?_ (fun _ => ?_))
   | exact ih0 _ _ _ _ _ _ _ _ _
   | exact ih1 _ _ _ _ _ _ _ _ _
   | exact ih2 _ _ _ _ _ _ _ _ _ _ _
   | exact impl_IsAtom.mono _ _ _ _
   | exact impl_makeOf.mono _ _ _ _
   | exact LeO.none _
   | refine LeO.ite ?_ ?_
   | refine LeO.bind ?_ (fun _ => ?_)
theorem impl_MixAtoms.mono : ∀ a0 a1 a2 a3 a4 a5 a6 a7 k, LeO (impl_MixAtoms.f k a0 a1 a2 a3 a4 a5 a6 a7) (impl_MixAtoms.f (k + 1) a0 a1 a2 a3 a4 a5 a6 a7) := by
 intro a0 a1 a2 a3 a4 a5 a6 a7 k
 obtain ⟨ih0, ih1, ih2⟩ := impl_MixAtoms.mono_l k
 unfold impl_MixAtoms.f
 repeat' first
   | (with_reducible exact ih0 _ _ _ _ _ _ _ _ _)
   | (with_reducible exact ih1 _ _ _ _ _ _ _ _ _)
   | (with_reducible exact ih2 _ _ _ _ _ _ _ _ _ _ _)
   | (with_reducible exact impl_IsAtom.mono _ _ _ _)
   | (with_reducible exact impl_makeOf.mono _ _ _ _)
   | (with_reducible exact LeO.refl _)
   | (with_reducible exact LeO.none _)
   | (with_reducible refine LeO.ite ?_ ?_)
   | (with_reducible refine LeO.bind ?_ (fun _ => ?_))
   | exact ih0 _ _ _ _ _ _ _ _ _
   | exact ih1 _ _ _ _ _ _ _ _ _
   | exact ih2 _ _ _ _ _ _ _ _ _ _ _
   | exact impl_IsAtom.mono _ _ _ _
   | exact impl_makeOf.mono _ _ _ _
   | exact LeO.none _
   | refine LeO.ite ?_ ?_
   | refine LeO.bind ?_ (fun _ => ?_)
def impl_MixAtoms.T9 : Bool × List (List Nat × List Nat) := (true, [([], []), ([], []), ([], []), ([], []), ([3], [3]), ([], []), ([4, 5], [4, 5]), ([6], [6]), ([2, 7], [2, 7]), ([], []), ([], []), ([10], [10]), ([], []), ([11, 12], [11, 12]), ([13], [13]), ([9, 14], [9, 14]), ([8, 15], [8, 15]), ([0, 1, 0, 1, 2, 3, 4, 5, 6, 7, 8, 9, 10, 11, 12, 13, 14, 15, 16], [0, 1]), ([17, 16, 0, 1, 2, 3, 4, 5, 6, 7, 8, 9, 10, 11, 12, 13, 14, 15, 16], [16, 17])])
def impl_MixAtoms.B9 : List Nat := [0, 0, 0, 0, 8, 0, 56, 120, 252, 0, 0, 1024, 0, 7168, 15360, 32256, 65532, 131071, 262143]
theorem impl_MixAtoms.tab9 : rtab .any (opsOf Try.f31 9) = impl_MixAtoms.T9 := by kernel_rfl
theorem impl_MixAtoms.bits9 : waitsOk impl_MixAtoms.T9.2 impl_MixAtoms.B9 = true := by kernel_rfl
set_option maxHeartbeats 8000000 in
set_option maxRecDepth 100000 in
theorem impl_MixAtoms.calls (k : Nat) (A0_0 : Option Addr) (c0_0 : Nat) (l0_0 : List Int) (a0_1 : Int) (a0_2 : Bool) (a1 : Int) (A2_0 : Option Addr) (c2_0 : Nat) (l2_0 : List Int) (a2_1 : Int) (a2_2 : Bool) (a3 : Int) (r1 : List Int) (r2 : Int) (r3 : Bool) (r4 : Bool) (w : World) (hr0_0 : Kd.C (Kd.int .i64) w A0_0 l0_0.length l0_0) (hc0_0 : l0_0.length ≤ c0_0) (hr2_0 : Kd.C (Kd.int .i64) w A2_0 l2_0.length l2_0) (hc2_0 : l2_0.length ≤ c2_0) (h : impl_MixAtoms.f k l0_0 a0_1 a0_2 a1 l2_0 a2_1 a2_2 a3 = some (r1, r2, r3, r4)) :
  Calls Try.prog 31 #[.agg #[.slice A0_0 l0_0.length c0_0, .int .i64 a0_1, .bool a0_2], .int .i64 a1, .agg #[.slice A2_0 l2_0.length c2_0, .int .i64 a2_1, .bool a2_2], .int .i64 a3] w fun e w' => ∃ v0_ : Value, e = .returned (.tuple #[.agg #[v0_, .int .i64 r2, .bool r3], .bool r4]) ∧ Kd.R (Kd.int .i64) 3 w' w.heap.size (fun _ => True) v0_ r1 ∧ Below w.heap.size w w' := by
 have hu26 := Try.underlying26
 have zf := Aside0.mk hr0_0
 have zx := Aside0.mk hc0_0
 clear hr0_0 hc0_0
 have zy := Aside0.mk hr2_0
 have z6 := Aside0.mk hc2_0
 clear hr2_0 hc2_0
 have HB := Aside0.mk (Below.refl w.heap.size w)
 have H : ((impl_IsAtom.f k l0_0 a0_1 a0_2).bind fun zp => (if zp = true then ((impl_IsAtom.f k l2_0 a2_1 a2_2).bind fun qx => (if qx = true then (impl_MixAtoms.j0 k a1 a3 ((l0_0.length : Int) != (l2_0.length : Int)) l0_0 a0_1 a0_2 l2_0 a2_1 a2_2) else (impl_MixAtoms.j0 k a1 a3 true l0_0 a0_1 a0_2 l2_0 a2_1 a2_2))) else (impl_MixAtoms.j0 k a1 a3 true l0_0 a0_1 a0_2 l2_0 a2_1 a2_2))) = some (r1, r2, r3, r4) := h
 clear h
 have HC5 := Aside0.mk H
 clear H
 go_enter Try.func31, Try.ntmps31
 go_upto_region 1 with (first | ((with_reducible refine gate_dst (N := 4) rfl ?_); (try (refine gate_guard (by rfl) ?_; dsimp only)); refine box_event ?hg (N := 4) ?hd (cs := #[.slice A0_0 l0_0.length c0_0, .int .i64 a0_1, .bool a0_2]) (t := 26) ?hr ?_; (case hd => rfl); (case hg => rfl); (case hr => first | (go_simp; done) | (go_simp; rfl)); intro qe hg w6 hbox hb; have qa := Aside0.mk (hbox); have Zc := Aside0.mk ((by rw [hg]; exact (bz_ HB) : w.heap.size ≤ qe)); have Zd := Aside0.mk ((by rw [hg]; exact (bz_ HB) : w.heap.size ≤ qe)); replace HB := bS_ HB hb; clear hb hbox hg) | ((with_reducible refine gate_dst (N := 6) rfl ?_); (try (refine gate_guard (by rfl) ?_; dsimp only)); refine box_event ?hg (N := 6) ?hd (cs := #[.slice A2_0 l2_0.length c2_0, .int .i64 a2_1, .bool a2_2]) (t := 26) ?hr ?_; (case hd => rfl); (case hg => rfl); (case hr => first | (go_simp; done) | (go_simp; rfl)); intro qf hg w7 hbox hb; have qb := Aside0.mk (hbox); have Ze := Aside0.mk ((by rw [hg]; exact (bz_ HB) : w.heap.size ≤ qf)); have Zf := Aside0.mk ((by rw [hg]; exact (bz_ HB) : w.heap.size ≤ qf)); replace HB := bS_ HB hb; have ql := Aside0.mk ((nl_ qa hg : qe ≠ qf)); have qm := Aside0.mk ((ng_ qa hg : qf ≠ qe)); replace qa := kB_ qa hb; clear hb hbox hg) | ((with_reducible refine gate_dst (N := 8) rfl ?_); (try (refine gate_guard (by rfl) ?_; dsimp only)); refine box_event ?hg (N := 8) ?hd (cs := #[.slice none 0 0, .int .i64 0, .bool false]) (t := 26) ?hr ?_; (case hd => rfl); (case hg => rfl); (case hr => first | (go_simp; done) | (go_simp; rfl)); intro qd hg w8 hbox hb; have qc := Aside0.mk (hbox); have Zg := Aside0.mk ((by rw [hg]; exact (bz_ HB) : w.heap.size ≤ qd)); have Zh := Aside0.mk ((by rw [hg]; exact (bz_ HB) : w.heap.size ≤ qd)); replace HB := bS_ HB hb; have qi := Aside0.mk ((nl_ qa hg : qe ≠ qd)); have qj := Aside0.mk ((ng_ qa hg : qd ≠ qe)); replace qa := kB_ qa hb; have qn := Aside0.mk ((nl_ qb hg : qf ≠ qd)); have qo := Aside0.mk ((ng_ qb hg : qd ≠ qf)); replace qb := kB_ qb hb; clear hb hbox hg))
 (try simp only [Act.put, List.setIfInBounds_toArray, List.set_cons_zero, List.set_cons_succ])
 go_cut [28] (fun v28 wc => ∃ (kq : Nat) (zg : Bool), v28 = .bool zg ∧ Aside0 (impl_MixAtoms.j0 kq a1 a3 zg l0_0 a0_1 a0_2 l2_0 a2_1 a2_2 = some (r1, r2, r3, r4)) ∧ Aside0 (kq ≤ k) ∧ Aside0 (wc.heap[qe]? = some (.cells #[(.slice A0_0 l0_0.length c0_0), .int .i64 a0_1, .bool a0_2] 26 (0, 0))) ∧ Aside0 (wc.heap[qf]? = some (.cells #[(.slice A2_0 l2_0.length c2_0), .int .i64 a2_1, .bool a2_2] 26 (0, 0))) ∧ Aside0 (wc.heap[qd]? = some (.cells #[(.slice none 0 0), .int .i64 0, .bool false] 26 (0, 0))) ∧ Aside0 (Below w.heap.size w wc))
 case first =>
  have H := HC5.out
  clear HC5
  replace H := Option.bind_eq_some_iff.mp H
  obtain ⟨zp, A90, H⟩ := H
  replace H : (if zp = true then ((impl_IsAtom.f k l2_0 a2_1 a2_2).bind fun qx => (if qx = true then (impl_MixAtoms.j0 k a1 a3 ((l0_0.length : Int) != (l2_0.length : Int)) l0_0 a0_1 a0_2 l2_0 a2_1 a2_2) else (impl_MixAtoms.j0 k a1 a3 true l0_0 a0_1 a0_2 l2_0 a2_1 a2_2))) else (impl_MixAtoms.j0 k a1 a3 true l0_0 a0_1 a0_2 l2_0 a2_1 a2_2)) = some (r1, r2, r3, r4) := H
  have A9 := Aside0.mk A90
  clear A90
  by_cases c10 : zp = true
  ·
   subst c10
   have H1 : ((impl_IsAtom.f k l2_0 a2_1 a2_2).bind fun qx => (if qx = true then (impl_MixAtoms.j0 k a1 a3 ((l0_0.length : Int) != (l2_0.length : Int)) l0_0 a0_1 a0_2 l2_0 a2_1 a2_2) else (impl_MixAtoms.j0 k a1 a3 true l0_0 a0_1 a0_2 l2_0 a2_1 a2_2))) = some (r1, r2, r3, r4) := by rw [if_pos rfl] at H; exact H
   clear H
   have H := H1
   clear H1
   replace H := Option.bind_eq_some_iff.mp H
   obtain ⟨qx, A110, H⟩ := H
   replace H : (if qx = true then (impl_MixAtoms.j0 k a1 a3 ((l0_0.length : Int) != (l2_0.length : Int)) l0_0 a0_1 a0_2 l2_0 a2_1 a2_2) else (impl_MixAtoms.j0 k a1 a3 true l0_0 a0_1 a0_2 l2_0 a2_1 a2_2)) = some (r1, r2, r3, r4) := H
   have A11 := Aside0.mk A110
   clear A110
   by_cases c12 : qx = true
   ·
    subst c12
    have H1 : (impl_MixAtoms.j0 k a1 a3 ((l0_0.length : Int) != (l2_0.length : Int)) l0_0 a0_1 a0_2 l2_0 a2_1 a2_2) = some (r1, r2, r3, r4) := by rw [if_pos rfl] at H; exact H
    clear H
    have H := H1
    clear H1
    have H' := Aside0.mk H
    clear H
    have Zi := ql.out
    have Zj := qm.out
    have Zk := qi.out
    have Zl := qj.out
    have qy : w8.cell? ⟨qe, 0, none⟩ = some (.slice A0_0 l0_0.length c0_0) := bc_ qa 0
    have qz : w8.cell? ⟨qe, 1, none⟩ = some (.int .i64 a0_1) := bc_ qa 1
    have qA : w8.cell? ⟨qe, 2, none⟩ = some (.bool a0_2) := bc_ qa 2
    have qB := blk_frozen qa.out 0
    have qC := blk_frozen qa.out 1
    have qD := blk_frozen qa.out 2
    go_wp2_with (first | ((with_reducible refine gate_callee (f := 54) rfl ?_); refine goesL_ (some 13) rfl rfl Try.func54 (by kernel_rfl) rfl #[.agg #[.slice A0_0 l0_0.length c0_0, .int .i64 a0_1, .bool a0_2]] rfl (by (try simp only [List.map_toArray, List.map_cons, List.map_nil]); first | done | rfl | (simp only [List.length_drop, List.length_take]; rfl)) ?_; (with_reducible refine (impl_IsAtom.calls k _ _ l0_0 a0_1 a0_2 true _ ?side1 ?side2 A9.out).mono ?_); (case side1 => exact cb_ zf HB); (case side2 => exact zx.out); rintro e QZ ⟨rfl, hb⟩; refine ⟨_, rfl, ?_⟩; replace qa := kB_ qa hb; replace qb := kB_ qb hb; replace qc := kB_ qc hb; replace HB := bS_ HB hb; (try clear hb); (try clear hb2); (try clear hk); (try clear hi); have Zm := qn.out; have Zn := qo.out; have qE : QZ.cell? ⟨qf, 0, none⟩ = some (.slice A2_0 l2_0.length c2_0) := bc_ qb 0; have qF : QZ.cell? ⟨qf, 1, none⟩ = some (.int .i64 a2_1) := bc_ qb 1; have qG : QZ.cell? ⟨qf, 2, none⟩ = some (.bool a2_2) := bc_ qb 2; have qH := blk_frozen qb.out 0; have qI := blk_frozen qb.out 1; have qJ := blk_frozen qb.out 2) | (go_at_call 54; (with_reducible refine (impl_IsAtom.calls k _ _ l2_0 a2_1 a2_2 true _ ?side1 ?side2 A11.out).mono ?_); (case side1 => exact cb_ zy HB); (case side2 => exact z6.out); rintro e ji ⟨rfl, hb⟩; replace qa := kB_ qa hb; replace qb := kB_ qb hb; replace qc := kB_ qc hb; replace HB := bS_ HB hb; (try clear hb); (try clear hb2); (try clear hk); (try clear hi); have qK : ji.cell? ⟨qe, 0, none⟩ = some (.slice A0_0 l0_0.length c0_0) := bc_ qa 0; have qL : ji.cell? ⟨qe, 1, none⟩ = some (.int .i64 a0_1) := bc_ qa 1; have qM : ji.cell? ⟨qe, 2, none⟩ = some (.bool a0_2) := bc_ qa 2; have qN := blk_frozen qa.out 0; have qO := blk_frozen qa.out 1; have qP := blk_frozen qa.out 2; have qQ : ji.cell? ⟨qf, 0, none⟩ = some (.slice A2_0 l2_0.length c2_0) := bc_ qb 0; have qR : ji.cell? ⟨qf, 1, none⟩ = some (.int .i64 a2_1) := bc_ qb 1; have qS : ji.cell? ⟨qf, 2, none⟩ = some (.bool a2_2) := bc_ qb 2; have qT := blk_frozen qb.out 0; have qU := blk_frozen qb.out 1; have qV := blk_frozen qb.out 2))
    go_meet
    case rel => exact ⟨_, (((l0_0.length : Int) != (l2_0.length : Int))), (by first | rfl | (simp; done) | (simp [*]; done)), H', ⟨by first | omega | exact Nat.le_refl _⟩, ⟨kf_ qa⟩, ⟨kf_ qb⟩, ⟨kf_ qc⟩, ⟨bb_ HB⟩⟩
   ·
    replace c12 := Bool.eq_false_iff.mpr c12
    subst c12
    have H1 : (impl_MixAtoms.j0 k a1 a3 true l0_0 a0_1 a0_2 l2_0 a2_1 a2_2) = some (r1, r2, r3, r4) := by rw [if_neg (show ¬ (false = true) by decide)] at H; exact H
    clear H
    have H := H1
    clear H1
    have H' := Aside0.mk H
    clear H
    have Zo := ql.out
    have Zp := qm.out
    have Zq := qi.out
    have Zr := qj.out
    have qW : w8.cell? ⟨qe, 0, none⟩ = some (.slice A0_0 l0_0.length c0_0) := bc_ qa 0
    have qX : w8.cell? ⟨qe, 1, none⟩ = some (.int .i64 a0_1) := bc_ qa 1
    have qY : w8.cell? ⟨qe, 2, none⟩ = some (.bool a0_2) := bc_ qa 2
    have qZ := blk_frozen qa.out 0
    have q0 := blk_frozen qa.out 1
    have q1 := blk_frozen qa.out 2
    go_wp2_with (first | ((with_reducible refine gate_callee (f := 54) rfl ?_); refine goesL_ (some 13) rfl rfl Try.func54 (by kernel_rfl) rfl #[.agg #[.slice A0_0 l0_0.length c0_0, .int .i64 a0_1, .bool a0_2]] rfl (by (try simp only [List.map_toArray, List.map_cons, List.map_nil]); first | done | rfl | (simp only [List.length_drop, List.length_take]; rfl)) ?_; (with_reducible refine (impl_IsAtom.calls k _ _ l0_0 a0_1 a0_2 true _ ?side1 ?side2 A9.out).mono ?_); (case side1 => exact cb_ zf HB); (case side2 => exact zx.out); rintro e Q0 ⟨rfl, hb⟩; refine ⟨_, rfl, ?_⟩; replace qa := kB_ qa hb; replace qb := kB_ qb hb; replace qc := kB_ qc hb; replace HB := bS_ HB hb; (try clear hb); (try clear hb2); (try clear hk); (try clear hi); have Zs := qn.out; have Zt := qo.out; have q2 : Q0.cell? ⟨qf, 0, none⟩ = some (.slice A2_0 l2_0.length c2_0) := bc_ qb 0; have q3 : Q0.cell? ⟨qf, 1, none⟩ = some (.int .i64 a2_1) := bc_ qb 1; have q4 : Q0.cell? ⟨qf, 2, none⟩ = some (.bool a2_2) := bc_ qb 2; have q5 := blk_frozen qb.out 0; have q6 := blk_frozen qb.out 1; have q7 := blk_frozen qb.out 2) | (go_at_call 54; (with_reducible refine (impl_IsAtom.calls k _ _ l2_0 a2_1 a2_2 false _ ?side1 ?side2 A11.out).mono ?_); (case side1 => exact cb_ zy HB); (case side2 => exact z6.out); rintro e Jk ⟨rfl, hb⟩; replace qa := kB_ qa hb; replace qb := kB_ qb hb; replace qc := kB_ qc hb; replace HB := bS_ HB hb; (try clear hb); (try clear hb2); (try clear hk); (try clear hi)))
    go_meet
    case rel => exact ⟨_, (true), (by first | rfl | (simp; done) | (simp [*]; done)), H', ⟨by first | omega | exact Nat.le_refl _⟩, ⟨kf_ qa⟩, ⟨kf_ qb⟩, ⟨kf_ qc⟩, ⟨bb_ HB⟩⟩
  ·
   replace c10 := Bool.eq_false_iff.mpr c10
   subst c10
   have H1 : (impl_MixAtoms.j0 k a1 a3 true l0_0 a0_1 a0_2 l2_0 a2_1 a2_2) = some (r1, r2, r3, r4) := by rw [if_neg (show ¬ (false = true) by decide)] at H; exact H
   clear H
   have H := H1
   clear H1
   have H' := Aside0.mk H
   clear H
   have Zu := ql.out
   have Zv := qm.out
   have Zw := qi.out
   have Zx := qj.out
   have q8 : w8.cell? ⟨qe, 0, none⟩ = some (.slice A0_0 l0_0.length c0_0) := bc_ qa 0
   have q9 : w8.cell? ⟨qe, 1, none⟩ = some (.int .i64 a0_1) := bc_ qa 1
   have za : w8.cell? ⟨qe, 2, none⟩ = some (.bool a0_2) := bc_ qa 2
   have zb := blk_frozen qa.out 0
   have zc := blk_frozen qa.out 1
   have zd := blk_frozen qa.out 2
   go_wp2_with (first | ((with_reducible refine gate_callee (f := 54) rfl ?_); refine goesL_ (some 13) rfl rfl Try.func54 (by kernel_rfl) rfl #[.agg #[.slice A0_0 l0_0.length c0_0, .int .i64 a0_1, .bool a0_2]] rfl (by (try simp only [List.map_toArray, List.map_cons, List.map_nil]); first | done | rfl | (simp only [List.length_drop, List.length_take]; rfl)) ?_; (with_reducible refine (impl_IsAtom.calls k _ _ l0_0 a0_1 a0_2 false _ ?side1 ?side2 A9.out).mono ?_); (case side1 => exact cb_ zf HB); (case side2 => exact zx.out); rintro e Jl ⟨rfl, hb⟩; refine ⟨_, rfl, ?_⟩; replace qa := kB_ qa hb; replace qb := kB_ qb hb; replace qc := kB_ qc hb; replace HB := bS_ HB hb; (try clear hb); (try clear hb2); (try clear hk); (try clear hi)))
   go_meet
   case rel => exact ⟨_, (true), (by first | rfl | (simp; done) | (simp [*]; done)), H', ⟨by first | omega | exact Nat.le_refl _⟩, ⟨kf_ qa⟩, ⟨kf_ qb⟩, ⟨kf_ qc⟩, ⟨bb_ HB⟩⟩
 case rest =>
  clear HC5
  try clear c1
  try clear c2
  try clear p2
  try clear c3
  try clear c5
  try clear c10
  try clear c12
  try clear c13
  try clear c14
  try clear c17
  try clear c22
  try clear c23
  try clear c26
  try clear c29
  try clear c30
  try clear c31
  try clear qy
  try clear qz
  try clear qA
  try clear qE
  try clear qF
  try clear qG
  try clear qK
  try clear qL
  try clear qM
  try clear qQ
  try clear qR
  try clear qS
  try clear qW
  try clear qX
  try clear qY
  try clear q2
  try clear q3
  try clear q4
  try clear q8
  try clear q9
  try clear za
  try clear qB
  try clear qC
  try clear qD
  try clear qH
  try clear qI
  try clear qJ
  try clear qN
  try clear qO
  try clear qP
  try clear qT
  try clear qU
  try clear qV
  try clear qZ
  try clear q0
  try clear q1
  try clear q5
  try clear q6
  try clear q7
  try clear zb
  try clear zc
  try clear zd
  obtain ⟨kq, zg, rfl, HA, HJ4, qa, qb, qc, HB⟩ := hcut
  cases kq with
  | zero => exact absurd HA.out (by simp [impl_MixAtoms.j0])
  | succ kj4 =>
   have H := HA.out
   clear HA
   simp only [impl_MixAtoms.j0] at H
   by_cases c33 : zg = true
   ·
    subst c33
    have H1 : (some (([] : List Int), 0, false, false)) = some (r1, r2, r3, r4) := by rw [if_pos rfl] at H; exact H
    clear H
    have H := H1
    clear H1
    simp only [Option.some.injEq, Prod.mk.injEq] at H
    obtain ⟨rfl, rfl, rfl, rfl⟩ := H
    have Zy := qj.out
    have Zz := qi.out
    have ZA := qo.out
    have ZB := qn.out
    have zh : wc.cell? ⟨qd, 0, none⟩ = some (.slice none 0 0) := bc_ qc 0
    have zi : wc.cell? ⟨qd, 1, none⟩ = some (.int .i64 0) := bc_ qc 1
    have zj : wc.cell? ⟨qd, 2, none⟩ = some (.bool false) := bc_ qc 2
    have zk := blk_frozen qc.out 0
    have zl := blk_frozen qc.out 1
    have zm := blk_frozen qc.out 2
    go_wp2
    refine bodyPost_ret (results_ct rfl _ _ qd 26 #[.slice none 0 0, .int .i64 0, .bool false] (0, 0) _ rfl (by (with_reducible repeat (first | refine blk_drewN ?_ _ | refine blk_drew ?_ | refine blk_alloc ?_ _)); refine blk_put (cs := #[.slice none 0 0, .int .i64 0, .bool false]) ?_ 2 _ rfl; (with_reducible repeat (first | refine blk_drewN ?_ _ | refine blk_drew ?_ | refine blk_alloc ?_ _)); refine blk_put (cs := #[.slice none 0 0, .int .i64 0, .bool false]) ?_ 1 _ rfl; (with_reducible repeat (first | refine blk_drewN ?_ _ | refine blk_drew ?_ | refine blk_alloc ?_ _)); refine blk_put (cs := #[.slice none 0 0, .int .i64 0, .bool false]) ?_ 0 _ rfl; (with_reducible repeat (first | refine blk_drewN ?_ _ | refine blk_drew ?_ | refine blk_alloc ?_ _)); exact qc.out) Try.underlying26 rfl (by kernel_rfl)) rfl ?_
    exact ⟨_, by first | rfl | (simp [errW_none, errW_some] <;> rfl) | (simp [*, errW_none, errW_some] <;> rfl), by first | exact Kd.R_nil _ _ _ _ _ | exact Kd.N_nil _ _ _ _ _ | exact Kd.V_nil _ _ _ _ _ | exact Kd.Q_nil _ _ _ _ _ | exact Kd.S_nil _ _ _ _ _, bb_ HB⟩
   ·
    replace c33 := Bool.eq_false_iff.mpr c33
    subst c33
    have H1 : (if a1 < 0 then (impl_MixAtoms.j1 kj4 a1 a3 true l0_0 a0_1 a0_2 l2_0 a2_1 a2_2) else (if a1 > 400000000 then (impl_MixAtoms.j1 kj4 a1 a3 true l0_0 a0_1 a0_2 l2_0 a2_1 a2_2) else (if a3 < 0 then (impl_MixAtoms.j1 kj4 a1 a3 true l0_0 a0_1 a0_2 l2_0 a2_1 a2_2) else (impl_MixAtoms.j1 kj4 a1 a3 (decide (a3 > 400000000)) l0_0 a0_1 a0_2 l2_0 a2_1 a2_2)))) = some (r1, r2, r3, r4) := by rw [if_neg (show ¬ (false = true) by decide)] at H; exact H
    clear H
    have H := H1
    clear H1
    have HC37 := Aside0.mk H
    clear H
    go_upto_region 3 with (fail)
    go_cut [43] (fun v43 wc => ∃ (kq : Nat) (ze : Bool), v43 = .bool ze ∧ Aside0 (impl_MixAtoms.j1 kq a1 a3 ze l0_0 a0_1 a0_2 l2_0 a2_1 a2_2 = some (r1, r2, r3, r4)) ∧ Aside0 (kq ≤ kj4) ∧ Aside0 (wc.heap[qe]? = some (.cells #[(.slice A0_0 l0_0.length c0_0), .int .i64 a0_1, .bool a0_2] 26 (0, 0))) ∧ Aside0 (wc.heap[qf]? = some (.cells #[(.slice A2_0 l2_0.length c2_0), .int .i64 a2_1, .bool a2_2] 26 (0, 0))) ∧ Aside0 (wc.heap[qd]? = some (.cells #[(.slice none 0 0), .int .i64 0, .bool false] 26 (0, 0))) ∧ Aside0 (Below w.heap.size w wc))
    case first =>
     have H := HC37.out
     clear HC37
     by_cases c38 : a1 < 0
     ·
      rw [if_pos c38] at H
      have qw : decide (a1 < 0) = true := decide_eq_true c38
      clear c38
      (first | rw [qw] | (simp only [i64_w, i32_w]; rw [qw]) | skip)
      have H' := Aside0.mk H
      clear H
      go_wp2
      go_meet
      case rel => exact ⟨_, (true), (by first | rfl | (simp; done) | (simp [*]; done)), H', ⟨by have := HJ4.out; first | omega | exact Nat.le_refl _⟩, ⟨kf_ qa⟩, ⟨kf_ qb⟩, ⟨kf_ qc⟩, ⟨bb_ HB⟩⟩
     ·
      rw [if_neg c38] at H
      have qw : decide (a1 < 0) = false := decide_eq_false c38
      clear c38
      (first | rw [qw] | (simp only [i64_w, i32_w]; rw [qw]) | skip)
      by_cases c39 : a1 > 400000000
      ·
       rw [if_pos c39] at H
       have zz : decide (400000000 < a1) = true := decide_eq_true c39
       clear c39
       have H' := Aside0.mk H
       clear H
       go_wp2
       go_meet
       case rel => exact ⟨_, (true), (by first | rfl | (simp; done) | (simp [*]; done)), H', ⟨by have := HJ4.out; first | omega | exact Nat.le_refl _⟩, ⟨kf_ qa⟩, ⟨kf_ qb⟩, ⟨kf_ qc⟩, ⟨bb_ HB⟩⟩
      ·
       rw [if_neg c39] at H
       have zz : decide (400000000 < a1) = false := decide_eq_false c39
       clear c39
       by_cases c40 : a3 < 0
       ·
        rw [if_pos c40] at H
        have zA : decide (a3 < 0) = true := decide_eq_true c40
        clear c40
        have H' := Aside0.mk H
        clear H
        go_wp2
        go_meet
        case rel => exact ⟨_, (true), (by first | rfl | (simp; done) | (simp [*]; done)), H', ⟨by have := HJ4.out; first | omega | exact Nat.le_refl _⟩, ⟨kf_ qa⟩, ⟨kf_ qb⟩, ⟨kf_ qc⟩, ⟨bb_ HB⟩⟩
       ·
        rw [if_neg c40] at H
        have zA : decide (a3 < 0) = false := decide_eq_false c40
        clear c40
        have H' := Aside0.mk H
        clear H
        go_wp2
        go_meet
        case rel => exact ⟨_, (decide (a3 > 400000000)), (by first | rfl | (simp; done) | (simp [*]; done)), H', ⟨by have := HJ4.out; first | omega | exact Nat.le_refl _⟩, ⟨kf_ qa⟩, ⟨kf_ qb⟩, ⟨kf_ qc⟩, ⟨bb_ HB⟩⟩
    case rest =>
     clear HC37
     try clear c1
     try clear c2
     try clear p2
     try clear c3
     try clear c4
     try clear c5
     try clear c10
     try clear c12
     try clear c13
     try clear c14
     try clear c17
     try clear c22
     try clear c23
     try clear c26
     try clear c29
     try clear c30
     try clear c31
     try clear c33
     try clear c34
     try clear c35
     try clear c38
     try clear qw
     try clear c39
     try clear zz
     try clear c40
     try clear zA
     try clear qy
     try clear qz
     try clear qA
     try clear qE
     try clear qF
     try clear qG
     try clear qK
     try clear qL
     try clear qM
     try clear qQ
     try clear qR
     try clear qS
     try clear qW
     try clear qX
     try clear qY
     try clear q2
     try clear q3
     try clear q4
     try clear q8
     try clear q9
     try clear za
     try clear zh
     try clear zi
     try clear zj
     try clear qB
     try clear qC
     try clear qD
     try clear qH
     try clear qI
     try clear qJ
     try clear qN
     try clear qO
     try clear qP
     try clear qT
     try clear qU
     try clear qV
     try clear qZ
     try clear q0
     try clear q1
     try clear q5
     try clear q6
     try clear q7
     try clear zb
     try clear zc
     try clear zd
     try clear zk
     try clear zl
     try clear zm
     try clear p2
     obtain ⟨kq, ze, rfl, HA, HJ36, qa, qb, qc, HB⟩ := hcut
     cases kq with
     | zero => exact absurd HA.out (by simp [impl_MixAtoms.j1])
     | succ kj36 =>
      have H := HA.out
      clear HA
      simp only [impl_MixAtoms.j1] at H
      by_cases c41 : ze = true
      ·
       subst c41
       have H1 : (some (([] : List Int), 0, false, false)) = some (r1, r2, r3, r4) := by rw [if_pos rfl] at H; exact H
       clear H
       have H := H1
       clear H1
       simp only [Option.some.injEq, Prod.mk.injEq] at H
       obtain ⟨rfl, rfl, rfl, rfl⟩ := H
       have ZC := qj.out
       have ZD := qi.out
       have ZE := qo.out
       have ZF := qn.out
       have zH : wc.cell? ⟨qd, 0, none⟩ = some (.slice none 0 0) := bc_ qc 0
       have zI : wc.cell? ⟨qd, 1, none⟩ = some (.int .i64 0) := bc_ qc 1
       have zJ : wc.cell? ⟨qd, 2, none⟩ = some (.bool false) := bc_ qc 2
       have zK := blk_frozen qc.out 0
       have zL := blk_frozen qc.out 1
       have zM := blk_frozen qc.out 2
       go_wp2
       refine bodyPost_ret (results_ct rfl _ _ qd 26 #[.slice none 0 0, .int .i64 0, .bool false] (0, 0) _ rfl (by (with_reducible repeat (first | refine blk_drewN ?_ _ | refine blk_drew ?_ | refine blk_alloc ?_ _)); refine blk_put (cs := #[.slice none 0 0, .int .i64 0, .bool false]) ?_ 2 _ rfl; (with_reducible repeat (first | refine blk_drewN ?_ _ | refine blk_drew ?_ | refine blk_alloc ?_ _)); refine blk_put (cs := #[.slice none 0 0, .int .i64 0, .bool false]) ?_ 1 _ rfl; (with_reducible repeat (first | refine blk_drewN ?_ _ | refine blk_drew ?_ | refine blk_alloc ?_ _)); refine blk_put (cs := #[.slice none 0 0, .int .i64 0, .bool false]) ?_ 0 _ rfl; (with_reducible repeat (first | refine blk_drewN ?_ _ | refine blk_drew ?_ | refine blk_alloc ?_ _)); exact qc.out) Try.underlying26 rfl (by kernel_rfl)) rfl ?_
       exact ⟨_, by first | rfl | (simp [errW_none, errW_some] <;> rfl) | (simp [*, errW_none, errW_some] <;> rfl), by first | exact Kd.R_nil _ _ _ _ _ | exact Kd.N_nil _ _ _ _ _ | exact Kd.V_nil _ _ _ _ _ | exact Kd.Q_nil _ _ _ _ _ | exact Kd.S_nil _ _ _ _ _, bb_ HB⟩
      ·
       replace c41 := Bool.eq_false_iff.mpr c41
       subst c41
       have H1 : (if 0 ≤ (l0_0.length : Int) then (if ((l0_0.length : Int) : Int).toNat ≤ 35184372088832 then ((some (List.replicate ((l0_0.length : Int) : Int).toNat 0 : List Int)).bind fun y218 => (impl_MixAtoms.l0 kj36 a1 a3 y218 (y218.length : Int) 0 l0_0 a0_1 a0_2 l2_0 a2_1 a2_2)) else (none)) else (none)) = some (r1, r2, r3, r4) := by rw [if_neg (show ¬ (false = true) by decide)] at H; exact H
       clear H
       have H := H1
       clear H1
       by_cases c45 : 0 ≤ (l0_0.length : Int)
       ·
        rw [if_pos c45] at H
        have jj := eq_true c45
        have jk : decide (0 ≤ (l0_0.length : Int)) = true := decide_eq_true c45
        clear c45
        by_cases c46 : ((l0_0.length : Int) : Int).toNat ≤ 35184372088832
        ·
         rw [if_pos c46] at H
         have jl := eq_true c46
         have jm : decide (((l0_0.length : Int) : Int).toNat ≤ 35184372088832) = true := decide_eq_true c46
         clear c46
         obtain ⟨y218, hy218⟩ : ∃ y_ : List Int, y_ = (List.replicate ((l0_0.length : Int) : Int).toNat 0) := ⟨_, rfl⟩
         replace H : (impl_MixAtoms.l0 kj36 a1 a3 y218 (y218.length : Int) 0 l0_0 a0_1 a0_2 l2_0 a2_1 a2_2) = some (r1, r2, r3, r4) := by first | (rw [hy218]; with_reducible exact H) | (have H2_ := (Option.bind_some _ _).symm.trans H; rw [hy218]; with_reducible exact H2_) | (have H2_ := (Option.bind_some _ _).symm.trans H; with_reducible exact H2_) | with_reducible exact H | (rw [hy218]; exact H) | exact H
         have Ny218 := Aside0.mk hy218
         clear hy218
         have H' := Aside0.mk H
         clear H
         have ZG := ql.out
         have ZH := qm.out
         have ZI := qi.out
         have ZJ := qj.out
         have zN : wc.cell? ⟨qe, 0, none⟩ = some (.slice A0_0 l0_0.length c0_0) := bc_ qa 0
         have zO : wc.cell? ⟨qe, 1, none⟩ = some (.int .i64 a0_1) := bc_ qa 1
         have zP : wc.cell? ⟨qe, 2, none⟩ = some (.bool a0_2) := bc_ qa 2
         have zQ := blk_frozen qa.out 0
         have zR := blk_frozen qa.out 1
         have zS := blk_frozen qa.out 2
         go_wp2_with (first | ((with_reducible refine gate_dst (N := 48) rfl ?_); (try (refine gate_guard (by rfl) ?_; dsimp only)); refine Kd.R_make (Kd.int .i64) _ 3 rfl (N := 48) rfl 22 _ _ rfl (l0_0.length : Int) rfl rfl Try.underlying22 (.int .i64 0) 8 info3 rfl (by decide) (by omega) 0 (ok := fun _ => True) (okp := fun _ => True) rfl (fun _ hk => hk) trivial (of_decide_eq_true (by first | (with_reducible assumption) | assumption)) (Nat.le_trans (Nat.mul_le_mul_right _ (of_decide_eq_true (by first | (with_reducible assumption) | assumption) : (l0_0.length : Int).toNat ≤ 35184372088832)) (by omega)) (Below.refl _ _) (Nat.le_refl _) ?_; intro Jc Jm ho51 hb hg_ hnew_; clear hg_ hnew_; (first | rw [← Ny218.out] at ho51 | (simp only [Int.reduceToNat] at ho51; rw [← Ny218.out] at ho51)); have z7 := Aside0.mk (Kd.R_lower ho51 (bz_ HB)); replace qa := kB_ qa hb; replace qb := kB_ qb hb; replace qc := kB_ qc hb; replace HB := bS_ HB hb; clear hb ho51; obtain ⟨zq, zr, eo52⟩ := Kd.R_slice z7.out; subst eo52))
         go_loopg [51] kj36 (fun kq v51 w' => ∃ (qk : List Int) (qh : Int), v51 = .int .i64 qh ∧ Aside0 (impl_MixAtoms.l0 kq a1 a3 qk (y218.length : Int) qh l0_0 a0_1 a0_2 l2_0 a2_1 a2_2 = some (r1, r2, r3, r4)) ∧ Aside0 (kq ≤ kj36) ∧ Aside0 (Kd.R (Kd.int .i64) 3 w' w.heap.size (fun _ => True) (.slice zq y218.length zr) qk) ∧ Aside0 (w'.heap[qe]? = some (.cells #[(.slice A0_0 l0_0.length c0_0), .int .i64 a0_1, .bool a0_2] 26 (0, 0))) ∧ Aside0 (w'.heap[qf]? = some (.cells #[(.slice A2_0 l2_0.length c2_0), .int .i64 a2_1, .bool a2_2] 26 (0, 0))) ∧ Aside0 (w'.heap[qd]? = some (.cells #[(.slice none 0 0), .int .i64 0, .bool false] 26 (0, 0))) ∧ Aside0 (Below w.heap.size w w'))
         case atStart => exact ⟨(y218), (0), (by first | rfl | (simp; done) | (simp [*]; done)), H', ⟨Nat.le_refl _⟩, ⟨by (with_reducible repeat (first | apply Kd.R_alloc | apply Kd.R_drewN | apply Kd.R_drew)); exact z7.out⟩, ⟨kf_ qa⟩, ⟨kf_ qb⟩, ⟨kf_ qc⟩, ⟨bb_ HB⟩⟩
         case round =>
          clear H'
          try clear c1
          try clear c2
          try clear p2
          try clear c3
          try clear c4
          try clear c5
          try clear c10
          try clear c12
          try clear c13
          try clear c14
          try clear c17
          try clear c22
          try clear c23
          try clear c26
          try clear c29
          try clear c30
          try clear c31
          try clear c33
          try clear c34
          try clear c35
          try clear c38
          try clear qw
          try clear c39
          try clear zz
          try clear c40
          try clear zA
          try clear c41
          try clear c42
          try clear c43
          try clear c45
          try clear jj
          try clear jk
          try clear c46
          try clear jl
          try clear jm
          try clear c47
          try clear c48
          try clear qy
          try clear qz
          try clear qA
          try clear qE
          try clear qF
          try clear qG
          try clear qK
          try clear qL
          try clear qM
          try clear qQ
          try clear qR
          try clear qS
          try clear qW
          try clear qX
          try clear qY
          try clear q2
          try clear q3
          try clear q4
          try clear q8
          try clear q9
          try clear za
          try clear zh
          try clear zi
          try clear zj
          try clear zH
          try clear zI
          try clear zJ
          try clear zN
          try clear zO
          try clear zP
          try clear qB
          try clear qC
          try clear qD
          try clear qH
          try clear qI
          try clear qJ
          try clear qN
          try clear qO
          try clear qP
          try clear qT
          try clear qU
          try clear qV
          try clear qZ
          try clear q0
          try clear q1
          try clear q5
          try clear q6
          try clear q7
          try clear zb
          try clear zc
          try clear zd
          try clear zk
          try clear zl
          try clear zm
          try clear zK
          try clear zL
          try clear zM
          try clear zQ
          try clear zR
          try clear zS
          try clear p2
          obtain ⟨qk, qh, rfl, HA, HK3, qg, qa, qb, qc, HB⟩ := hrel
          have hl10_3 := (Kd.R_reads' qg.out).1
          rw [hl10_3] at qg
          (try simp only [hl10_3])
          (try simp only [hl10_3] at qa)
          (try simp only [hl10_3] at qb)
          (try simp only [hl10_3] at qc)
          cases gk with
          | zero => exact absurd HA.out (by simp [impl_MixAtoms.l0])
          | succ k3 =>
           have H := HA.out
           clear HA
           simp only [impl_MixAtoms.l0] at H
           by_cases c53 : qh < (y218.length : Int)
           ·
            rw [if_pos c53] at H
            have zB : decide (qh < (y218.length : Int)) = true := decide_eq_true c53
            have c53z := zB
            (try rw [hl10_3] at c53z)
            clear c53
            by_cases c54 : 0 ≤ qh
            ·
             rw [if_pos c54] at H
             have ZK : decide (0 ≤ qh) = true := decide_eq_true c54
             clear c54
             by_cases c55 : qh < (l0_0.length : Int)
             ·
              rw [if_pos c55] at H
              have ZL : decide (qh < (l0_0.length : Int)) = true := decide_eq_true c55
              clear c55
              by_cases c56 : qh < (l2_0.length : Int)
              ·
               rw [if_pos c56] at H
               have ZM : decide (qh < (l2_0.length : Int)) = true := decide_eq_true c56
               clear c56
               by_cases c57 : qh < (qk.length : Int)
               ·
                rw [if_pos c57] at H
                have ZN : decide (qh < (qk.length : Int)) = true := decide_eq_true c57
                clear c57
                obtain ⟨y223, hy223⟩ : ∃ y_ : List Int, y_ = (qk.set (qh : Int).toNat (wrap64 ((wrap64 (a1 * (rd l0_0 qh))) + (wrap64 (a3 * (rd l2_0 qh)))))) := ⟨_, rfl⟩
                replace H : (impl_MixAtoms.l0 k3 a1 a3 y223 (y218.length : Int) (wrap64 (qh + 1)) l0_0 a0_1 a0_2 l2_0 a2_1 a2_2) = some (r1, r2, r3, r4) := by first | (rw [hy223]; with_reducible exact H) | (have H2_ := (Option.bind_some _ _).symm.trans H; rw [hy223]; with_reducible exact H2_) | (have H2_ := (Option.bind_some _ _).symm.trans H; with_reducible exact H2_) | with_reducible exact H | (rw [hy223]; exact H) | exact H
                have Ny223 := Aside0.mk hy223
                clear hy223
                have H' := Aside0.mk H
                clear H
                try go_wp2
                replace qg := Aside0.mk (Kd.R_drew qg.out); replace qa := Aside0.mk (blk_drew qa.out); replace qb := Aside0.mk (blk_drew qb.out); replace qc := Aside0.mk (blk_drew qc.out); replace HB := Aside0.mk (below_drew1 HB.out)
                have p221 : 0 ≤ (qh : Int) := of_decide_eq_true (by first | (with_reducible assumption) | assumption)
                have q221 : qh < (l0_0.length : Int) := of_decide_eq_true (by first | (with_reducible assumption) | assumption)
                obtain ⟨z8, e221, qu⟩ := Kd.at_int zf.out qh p221 q221
                have hw221_0 := qu
                cases e221
                replace qu := (HB.out.cell (World.block_lt_of_cell? w _ qu)).trans qu
                replace p221 := eq_true p221
                replace q221 := eq_true q221
                have p222 : 0 ≤ (qh : Int) := of_decide_eq_true (by first | (with_reducible assumption) | assumption)
                have q222 : qh < (l2_0.length : Int) := of_decide_eq_true (by first | (with_reducible assumption) | assumption)
                obtain ⟨z9, e222, qv⟩ := Kd.at_int zy.out qh p222 q222
                have hw222_0 := qv
                cases e222
                replace qv := (HB.out.cell (World.block_lt_of_cell? w _ qv)).trans qv
                replace p222 := eq_true p222
                replace q222 := eq_true q222
                have p58 : 0 ≤ (qh : Int) := of_decide_eq_true (by first | (with_reducible assumption) | assumption)
                have q58 : (qh : Int) < ((qk.length : Int) : Int) := of_decide_eq_true (by first | (with_reducible assumption) | assumption)
                obtain ⟨go58, Jd, eo58, jn, gl58, cl58, HG58⟩ := Kd.R_form qg.out (by omega)
                (first | cases eo58 | (injection eo58 with ea_ en_ ec_; (first | subst ea_ | (injection ea_ with ea_; subst ea_)); subst ec_; clear en_))
                have Je := Aside0.mk jn
                have Q1 := Aside0.mk HG58
                clear jn gl58 HG58
                obtain ⟨jf, hf58_0⟩ := Kd.R_celln 0 qg.out (qh : Int) p58 q58
                replace p58 := eq_true p58
                replace q58 := eq_true q58
                have jg := Kd.R_putn qg.out (qh : Int) (wrap64 ((wrap64 (a1 * (rd l0_0 qh))) + (wrap64 (a3 * (rd l2_0 qh)))))
                rw [← Ny223.out] at jg
                have HQ60 := Aside0.mk jg
                clear jg
                refine start_ (n := 19) (S := fun w' => w'.cell? ⟨qe, 0, none⟩ = some (.slice (some z8) l0_0.length c0_0) ∧ w'.cell? ⟨qe, 1, none⟩ = some (.int .i64 a0_1) ∧ w'.cell? ⟨qe, 2, none⟩ = some (.bool a0_2) ∧ w'.cell? ⟨qf, 0, none⟩ = some (.slice (some z9) l2_0.length c2_0) ∧ w'.cell? ⟨qf, 1, none⟩ = some (.int .i64 a2_1) ∧ w'.cell? ⟨qf, 2, none⟩ = some (.bool a2_2) ∧ w'.cell? (z8.add (qh).toNat) = some (.int .i64 (rd l0_0 qh)) ∧ w'.cell? (z9.add (qh).toNat) = some (.int .i64 (rd l2_0 qh))) (ds := [18]) #[false, false, false, false, false, false, false, false, false, false, false, false, false, false, false, false, false, false, false] (by kernel_rfl) rfl rfl ⟨bc_ qa 0, bc_ qa 1, bc_ qa 2, bc_ qb 0, bc_ qb 1, bc_ qb 2, ((HB.out.cell (World.block_lt_of_cell? w _ hw221_0)).trans hw221_0), ((HB.out.cell (World.block_lt_of_cell? w _ hw222_0)).trans hw222_0)⟩ (fun hHeld => ?_); refine with_tabW impl_MixAtoms.tab9 impl_MixAtoms.bits9 (fun HT_ HW_ => ?_)
                generalize wr.drew = Jn at qg qa qb qc HB Q1 HQ60 hf58_0 qu qv jf hHeld ⊢
                refine pure_ (i := 0) (N := some 54) (v := ?_) (a' := ?_) #[true, false, false, false, false, false, false, false, false, false, false, false, false, false, false, false, false, false, false] rfl rfl (any_of HT_.out (by kernel_rfl)) (fun _ _ _ h => h) (Or.inl ⟨by rfl, ?_⟩) ?_ ?_
                rotate_left
                ·
                 intro w'
                 go_simp
                 with_reducible rfl
                rotate_left
                ·
                 simp only [Act.put, List.setIfInBounds_toArray, List.set_cons_zero, List.set_cons_succ, i64_w, i32_w]
                 rfl
                refine pure_ (i := 1) (N := some 55) (v := ?_) (a' := ?_) #[true, true, false, false, false, false, false, false, false, false, false, false, false, false, false, false, false, false, false] rfl rfl (any_of HT_.out (by kernel_rfl)) (fun _ _ _ h => h) (Or.inl ⟨by rfl, ?_⟩) ?_ ?_
                rotate_left
                ·
                 intro w'
                 go_simp
                 with_reducible rfl
                rotate_left
                ·
                 simp only [Act.put, List.setIfInBounds_toArray, List.set_cons_zero, List.set_cons_succ, i64_w, i32_w]
                 rfl
                refine pure_ (i := 2) (N := some 56) (v := ?_) (a' := ?_) #[true, true, true, false, false, false, false, false, false, false, false, false, false, false, false, false, false, false, false] rfl rfl (any_of HT_.out (by kernel_rfl)) (fun _ _ _ h => h) (Or.inl ⟨by rfl, ?_⟩) ?_ ?_
                rotate_left
                ·
                 intro w'
                 go_simp
                 with_reducible rfl
                rotate_left
                ·
                 simp only [Act.put, List.setIfInBounds_toArray, List.set_cons_zero, List.set_cons_succ, i64_w, i32_w]
                 rfl
                refine pure_ (i := 3) (N := some 57) (v := ?_) (a' := ?_) #[true, true, true, true, false, false, false, false, false, false, false, false, false, false, false, false, false, false, false] rfl rfl (any_of HT_.out (by kernel_rfl)) (fun _ _ _ h => h) (Or.inl ⟨by rfl, ?_⟩) ?_ ?_
                rotate_left
                ·
                 intro w'
                 go_simp
                 with_reducible rfl
                rotate_left
                ·
                 simp only [Act.put, List.setIfInBounds_toArray, List.set_cons_zero, List.set_cons_succ, i64_w, i32_w]
                 rfl
                refine pure_ (i := 5) (N := some 59) (v := ?_) (a' := ?_) #[true, true, true, true, false, true, false, false, false, false, false, false, false, false, false, false, false, false, false] rfl rfl (any_of HT_.out (by kernel_rfl)) (fun _ _ _ h => h) (Or.inl ⟨by rfl, ?_⟩) ?_ ?_
                rotate_left
                ·
                 intro w'
                 go_simp
                 with_reducible rfl
                rotate_left
                ·
                 simp only [Act.put, List.setIfInBounds_toArray, List.set_cons_zero, List.set_cons_succ, i64_w, i32_w]
                 rfl
                refine pure_ (i := 9) (N := some 63) (v := ?_) (a' := ?_) #[true, true, true, true, false, true, false, false, false, true, false, false, false, false, false, false, false, false, false] rfl rfl (any_of HT_.out (by kernel_rfl)) (fun _ _ _ h => h) (Or.inl ⟨by rfl, ?_⟩) ?_ ?_
                rotate_left
                ·
                 intro w'
                 go_simp
                 with_reducible rfl
                rotate_left
                ·
                 simp only [Act.put, List.setIfInBounds_toArray, List.set_cons_zero, List.set_cons_succ, i64_w, i32_w]
                 rfl
                refine pure_ (i := 10) (N := some 64) (v := ?_) (a' := ?_) #[true, true, true, true, false, true, false, false, false, true, true, false, false, false, false, false, false, false, false] rfl rfl (any_of HT_.out (by kernel_rfl)) (fun _ _ _ h => h) (Or.inl ⟨by rfl, ?_⟩) ?_ ?_
                rotate_left
                ·
                 intro w'
                 go_simp
                 with_reducible rfl
                rotate_left
                ·
                 simp only [Act.put, List.setIfInBounds_toArray, List.set_cons_zero, List.set_cons_succ, i64_w, i32_w]
                 rfl
                refine pure_ (i := 12) (N := some 66) (v := ?_) (a' := ?_) #[true, true, true, true, false, true, false, false, false, true, true, false, true, false, false, false, false, false, false] rfl rfl (any_of HT_.out (by kernel_rfl)) (fun _ _ _ h => h) (Or.inl ⟨by rfl, ?_⟩) ?_ ?_
                rotate_left
                ·
                 intro w'
                 go_simp
                 with_reducible rfl
                rotate_left
                ·
                 simp only [Act.put, List.setIfInBounds_toArray, List.set_cons_zero, List.set_cons_succ, i64_w, i32_w]
                 rfl
                refine take_ (i := 4) (N := some 58) (v := ?_) (a' := ?_) #[true, true, true, true, true, true, false, false, false, true, true, false, true, false, false, false, false, false, false] rfl rfl (take_ofW HT_.out HW_.out (by kernel_rfl)) (fun _ _ _ h => h) (Or.inl ⟨by rfl, ?_⟩) hHeld ?_ ?_
                rotate_left
                ·
                 rintro w' ⟨s0, s1, s2, s3, s4, s5, s6, s7⟩
                 go_simp
                 with_reducible rfl
                rotate_left
                ·
                 simp only [Act.put, List.setIfInBounds_toArray, List.set_cons_zero, List.set_cons_succ, i64_w, i32_w]
                 rfl
                refine pure_ (i := 6) (N := some 60) (v := ?_) (a' := ?_) #[true, true, true, true, true, true, true, false, false, true, true, false, true, false, false, false, false, false, false] rfl rfl (any_of HT_.out (by kernel_rfl)) (fun _ _ _ h => h) (Or.inl ⟨by rfl, ?_⟩) ?_ ?_
                rotate_left
                ·
                 intro w'
                 go_simp
                 with_reducible rfl
                rotate_left
                ·
                 simp only [Act.put, List.setIfInBounds_toArray, List.set_cons_zero, List.set_cons_succ, i64_w, i32_w]
                 rfl
                refine take_ (i := 7) (N := some 61) (v := ?_) (a' := ?_) #[true, true, true, true, true, true, true, true, false, true, true, false, true, false, false, false, false, false, false] rfl rfl (take_ofW HT_.out HW_.out (by kernel_rfl)) (fun _ _ _ h => h) (Or.inl ⟨by rfl, ?_⟩) hHeld ?_ ?_
                rotate_left
                ·
                 rintro w' ⟨s0, s1, s2, s3, s4, s5, s6, s7⟩
                 go_simp
                 with_reducible rfl
                rotate_left
                ·
                 simp only [Act.put, List.setIfInBounds_toArray, List.set_cons_zero, List.set_cons_succ, i64_w, i32_w]
                 rfl
                refine pure_ (i := 8) (N := some 62) (v := ?_) (a' := ?_) #[true, true, true, true, true, true, true, true, true, true, true, false, true, false, false, false, false, false, false] rfl rfl (any_of HT_.out (by kernel_rfl)) (fun _ _ _ h => h) (Or.inl ⟨by rfl, ?_⟩) ?_ ?_
                rotate_left
                ·
                 intro w'
                 go_simp
                 with_reducible rfl
                rotate_left
                ·
                 simp only [Act.put, List.setIfInBounds_toArray, List.set_cons_zero, List.set_cons_succ, i64_w, i32_w]
                 rfl
                refine take_ (i := 11) (N := some 65) (v := ?_) (a' := ?_) #[true, true, true, true, true, true, true, true, true, true, true, true, true, false, false, false, false, false, false] rfl rfl (take_ofW HT_.out HW_.out (by kernel_rfl)) (fun _ _ _ h => h) (Or.inl ⟨by rfl, ?_⟩) hHeld ?_ ?_
                rotate_left
                ·
                 rintro w' ⟨s0, s1, s2, s3, s4, s5, s6, s7⟩
                 go_simp
                 with_reducible rfl
                rotate_left
                ·
                 simp only [Act.put, List.setIfInBounds_toArray, List.set_cons_zero, List.set_cons_succ, i64_w, i32_w]
                 rfl
                refine pure_ (i := 13) (N := some 67) (v := ?_) (a' := ?_) #[true, true, true, true, true, true, true, true, true, true, true, true, true, true, false, false, false, false, false] rfl rfl (any_of HT_.out (by kernel_rfl)) (fun _ _ _ h => h) (Or.inl ⟨by rfl, ?_⟩) ?_ ?_
                rotate_left
                ·
                 intro w'
                 go_simp
                 with_reducible rfl
                rotate_left
                ·
                 simp only [Act.put, List.setIfInBounds_toArray, List.set_cons_zero, List.set_cons_succ, i64_w, i32_w]
                 rfl
                refine take_ (i := 14) (N := some 68) (v := ?_) (a' := ?_) #[true, true, true, true, true, true, true, true, true, true, true, true, true, true, true, false, false, false, false] rfl rfl (take_ofW HT_.out HW_.out (by kernel_rfl)) (fun _ _ _ h => h) (Or.inl ⟨by rfl, ?_⟩) hHeld ?_ ?_
                rotate_left
                ·
                 rintro w' ⟨s0, s1, s2, s3, s4, s5, s6, s7⟩
                 go_simp
                 with_reducible rfl
                rotate_left
                ·
                 simp only [Act.put, List.setIfInBounds_toArray, List.set_cons_zero, List.set_cons_succ, i64_w, i32_w]
                 rfl
                refine pure_ (i := 15) (N := some 69) (v := ?_) (a' := ?_) #[true, true, true, true, true, true, true, true, true, true, true, true, true, true, true, true, false, false, false] rfl rfl (any_of HT_.out (by kernel_rfl)) (fun _ _ _ h => h) (Or.inl ⟨by rfl, ?_⟩) ?_ ?_
                rotate_left
                ·
                 intro w'
                 go_simp
                 with_reducible rfl
                rotate_left
                ·
                 simp only [Act.put, List.setIfInBounds_toArray, List.set_cons_zero, List.set_cons_succ, i64_w, i32_w]
                 rfl
                refine pure_ (i := 16) (N := some 70) (v := ?_) (a' := ?_) #[true, true, true, true, true, true, true, true, true, true, true, true, true, true, true, true, true, false, false] rfl rfl (any_of HT_.out (by kernel_rfl)) (fun _ _ _ h => h) (Or.inl ⟨by rfl, ?_⟩) ?_ ?_
                rotate_left
                ·
                 intro w'
                 go_simp
                 with_reducible rfl
                rotate_left
                ·
                 simp only [Act.put, List.setIfInBounds_toArray, List.set_cons_zero, List.set_cons_succ, i64_w, i32_w]
                 rfl
                refine pure_ (i := 17) (N := some 71) (v := ?_) (a' := ?_) #[true, true, true, true, true, true, true, true, true, true, true, true, true, true, true, true, true, true, false] rfl rfl (any_of HT_.out (by kernel_rfl)) (fun _ _ _ h => h) (Or.inl ⟨by rfl, ?_⟩) ?_ ?_
                rotate_left
                ·
                 intro w'
                 go_simp
                 with_reducible rfl
                rotate_left
                ·
                 simp only [Act.put, List.setIfInBounds_toArray, List.set_cons_zero, List.set_cons_succ, i64_w, i32_w]
                 rfl
                refine last_ (i := 18) (N := none) #[true, true, true, true, true, true, true, true, true, true, true, true, true, true, true, true, true, true, true] rfl rfl (one_of HT_.out (by kernel_rfl)) (by decide) (fun K hK => ?_)
                refine skip_ (w1 := ?_) (by rfl) rfl ?_ ?_
                rotate_left
                ·
                 go_simp
                 rfl
                refine hK.out _ _ ?_
                clear hK K
                refine done_ (done_of HT_.out (by kernel_rfl)) ?_
                try go_wp2
                (try simp only [← hl10_3])
                go_roundg k3
                case measure => have := HJ4.out; have := HJ36.out; have := HK3.out; omega
                case rel => exact ⟨(y223), (wrap64 (qh + 1)), (by first | rfl | (simp; done) | (simp [*]; done)), H', ⟨by have := HJ4.out; have := HJ36.out; have := HK3.out; omega⟩, ⟨by (try simp only [hl10_3]); (with_reducible repeat (first | apply Kd.R_alloc | apply Kd.R_drewN | apply Kd.R_drew)); exact HQ60.out⟩, ⟨by (try simp only [hl10_3]); (with_reducible repeat (first | refine blk_drewN ?_ _ | refine blk_drew ?_ | refine blk_alloc ?_ _)); refine blk_far ?_ (by have h_ := Kd.R_ne qg.out qa.out (by decide); intro e_; exact h_ (by rw [e_]; rfl)) _; (with_reducible repeat (first | refine blk_drewN ?_ _ | refine blk_drew ?_ | refine blk_alloc ?_ _)); exact qa.out⟩, ⟨by (try simp only [hl10_3]); (with_reducible repeat (first | refine blk_drewN ?_ _ | refine blk_drew ?_ | refine blk_alloc ?_ _)); refine blk_far ?_ (by have h_ := Kd.R_ne qg.out qb.out (by decide); intro e_; exact h_ (by rw [e_]; rfl)) _; (with_reducible repeat (first | refine blk_drewN ?_ _ | refine blk_drew ?_ | refine blk_alloc ?_ _)); exact qb.out⟩, ⟨by (try simp only [hl10_3]); (with_reducible repeat (first | refine blk_drewN ?_ _ | refine blk_drew ?_ | refine blk_alloc ?_ _)); refine blk_far ?_ (by have h_ := Kd.R_ne qg.out qc.out (by decide); intro e_; exact h_ (by rw [e_]; rfl)) _; (with_reducible repeat (first | refine blk_drewN ?_ _ | refine blk_drew ?_ | refine blk_alloc ?_ _)); exact qc.out⟩, ⟨bb_ HB⟩⟩
               ·
                rw [if_neg c57] at H
                exact absurd H (by simp)
              ·
               rw [if_neg c56] at H
               exact absurd H (by simp)
             ·
              rw [if_neg c55] at H
              exact absurd H (by simp)
            ·
             rw [if_neg c54] at H
             exact absurd H (by simp)
           ·
            rw [if_neg c53] at H
            have zB : decide (qh < (y218.length : Int)) = false := decide_eq_false c53
            have c53z := zB
            (try rw [hl10_3] at c53z)
            clear c53
            by_cases c61 : a0_2 = true
            ·
             subst c61
             have H1 : (if a1 = 0 then (if a2_2 = true then ((impl_makeOf.f k3 qk (wrap64 ((wrap64 (a1 * a0_1)) + (wrap64 (a3 * a2_1)))) (a3 != 0)).bind fun qp => (some (qp.1, qp.2.1, qp.2.2.1, qp.2.2.2))) else ((impl_makeOf.f k3 qk (wrap64 ((wrap64 (a1 * a0_1)) + (wrap64 (a3 * a2_1)))) false).bind fun qq => (some (qq.1, qq.2.1, qq.2.2.1, qq.2.2.2)))) else ((impl_makeOf.f k3 qk (wrap64 ((wrap64 (a1 * a0_1)) + (wrap64 (a3 * a2_1)))) true).bind fun qt => (some (qt.1, qt.2.1, qt.2.2.1, qt.2.2.2)))) = some (r1, r2, r3, r4) := by rw [if_pos rfl] at H; exact H
             clear H
             have H := H1
             clear H1
             by_cases c62 : a1 = 0
             ·
              rw [if_pos c62] at H
              have jo : (a1 == 0) = true := beq_iff_eq.mpr c62
              have jp : (a1 != 0) = false := bne_eq_false_iff_eq.mpr c62
              clear c62
              by_cases c63 : a2_2 = true
              ·
               subst c63
               have H1 : ((impl_makeOf.f k3 qk (wrap64 ((wrap64 (a1 * a0_1)) + (wrap64 (a3 * a2_1)))) (a3 != 0)).bind fun qp => (some (qp.1, qp.2.1, qp.2.2.1, qp.2.2.2))) = some (r1, r2, r3, r4) := by rw [if_pos rfl] at H; exact H
               clear H
               have H := H1
               clear H1
               replace H := Option.bind_eq_some_iff.mp H
               obtain ⟨⟨zs, zC, zT, jq⟩, A640, H⟩ := H
               replace H : (some (zs, zC, zT, jq)) = some (r1, r2, r3, r4) := H
               have A64 := Aside0.mk A640
               clear A640
               simp only [Option.some.injEq, Prod.mk.injEq] at H
               obtain ⟨rfl, rfl, rfl, rfl⟩ := H
               have ZO := ql.out
               have ZP := qm.out
               have ZQ := qi.out
               have ZR := qj.out
               have jT : wr.cell? ⟨qe, 0, none⟩ = some (.slice A0_0 l0_0.length c0_0) := bc_ qa 0
               have jU : wr.cell? ⟨qe, 1, none⟩ = some (.int .i64 a0_1) := bc_ qa 1
               have jV : wr.cell? ⟨qe, 2, none⟩ = some (.bool true) := bc_ qa 2
               have jW := blk_frozen qa.out 0
               have jX := blk_frozen qa.out 1
               have jY := blk_frozen qa.out 2
               have ZS := qn.out
               have ZT := qo.out
               have jZ : wr.cell? ⟨qf, 0, none⟩ = some (.slice A2_0 l2_0.length c2_0) := bc_ qb 0
               have j2 : wr.cell? ⟨qf, 1, none⟩ = some (.int .i64 a2_1) := bc_ qb 1
               have j3 : wr.cell? ⟨qf, 2, none⟩ = some (.bool true) := bc_ qb 2
               have j4 := blk_frozen qb.out 0
               have j5 := blk_frozen qb.out 1
               have j6 := blk_frozen qb.out 2
               go_wp2_with (first | ((with_reducible refine gate_callee (f := 59) rfl ?_); refine goesL_ (some 97) rfl rfl Try.func59 (by kernel_rfl) rfl #[.slice zq qk.length zr, .int .i64 (wrap64 ((wrap64 (a1 * a0_1)) + (wrap64 (a3 * a2_1)))), .bool (a3 != 0)] rfl (by (try simp only [List.map_toArray, List.map_cons, List.map_nil]); first | done | rfl | (simp only [List.length_drop, List.length_take]; rfl)) ?_; (with_reducible refine (impl_makeOf.calls k3 _ _ qk (wrap64 ((wrap64 (a1 * a0_1)) + (wrap64 (a3 * a2_1)))) (a3 != 0) zs zC zT jq _ ?side1 ?side2 A64.out).mono ?_); (case side1 => exact cr_ qg); (case side2 => exact (Kd.R_reads' qg.out).2.1); rintro e Q2 ⟨Jf, rfl, ho0, hb⟩; refine ⟨_, rfl, ?_⟩; have ja := Aside0.mk (Kd.R_lower (Kd.R_new' ho0 (Kd.R_lt (rm_ qg))) (bz_ HB)); replace qg := Aside0.mk (Kd.R_elder' (rm_ qg) (Kd.R_base ho0) hb); replace qa := kB_ qa hb; replace qb := kB_ qb hb; replace qc := kB_ qc hb; replace HB := bS_ HB hb; (try clear hb); (try clear hb2); (try clear hk); (try clear hi); (try clear ho0); obtain ⟨zU, zV, eo71⟩ := Kd.R_slice ja.out; subst eo71; have j7 : Q2.cell? ⟨qd, 0, none⟩ = some (.slice none 0 0) := bc_ qc 0; have j8 : Q2.cell? ⟨qd, 1, none⟩ = some (.int .i64 0) := bc_ qc 1; have j9 : Q2.cell? ⟨qd, 2, none⟩ = some (.bool false) := bc_ qc 2; have Qa := blk_frozen qc.out 0; have Qb := blk_frozen qc.out 1; have Qc := blk_frozen qc.out 2))
               refine bodyPost_ret (results_ct rfl _ _ qd 26 #[.slice zU zs.length zV, .int .i64 zC, .bool zT] (0, 0) _ rfl (by (with_reducible repeat (first | refine blk_drewN ?_ _ | refine blk_drew ?_ | refine blk_alloc ?_ _)); refine blk_put (cs := #[.slice zU zs.length zV, .int .i64 zC, .bool false]) ?_ 2 _ rfl; (with_reducible repeat (first | refine blk_drewN ?_ _ | refine blk_drew ?_ | refine blk_alloc ?_ _)); refine blk_put (cs := #[.slice zU zs.length zV, .int .i64 0, .bool false]) ?_ 1 _ rfl; (with_reducible repeat (first | refine blk_drewN ?_ _ | refine blk_drew ?_ | refine blk_alloc ?_ _)); refine blk_put (cs := #[.slice none 0 0, .int .i64 0, .bool false]) ?_ 0 _ rfl; (with_reducible repeat (first | refine blk_drewN ?_ _ | refine blk_drew ?_ | refine blk_alloc ?_ _)); exact qc.out) Try.underlying26 rfl (by kernel_rfl)) rfl ?_
               exact ⟨_, by first | rfl | (simp [errW_none, errW_some] <;> rfl) | (simp [*, errW_none, errW_some] <;> rfl), by (with_reducible repeat (first | apply Kd.R_alloc | apply Kd.R_drewN | apply Kd.R_drew)); exact Kd.R_mono (Kd.R_far (p := ⟨qd, 2, none⟩) (Kd.R_far (p := ⟨qd, 1, none⟩) (Kd.R_far (p := ⟨qd, 0, none⟩) (Kd.R_types ja.out qc.out (by decide)) (fun _ hk => hk.2) (.slice zU zs.length zV)) (fun _ hk => hk.2) (.int .i64 zC)) (fun _ hk => hk.2) (.bool zT)) (fun _ hk => trivial), bb_ HB⟩
              ·
               replace c63 := Bool.eq_false_iff.mpr c63
               subst c63
               have H1 : ((impl_makeOf.f k3 qk (wrap64 ((wrap64 (a1 * a0_1)) + (wrap64 (a3 * a2_1)))) false).bind fun qq => (some (qq.1, qq.2.1, qq.2.2.1, qq.2.2.2))) = some (r1, r2, r3, r4) := by rw [if_neg (show ¬ (false = true) by decide)] at H; exact H
               clear H
               have H := H1
               clear H1
               replace H := Option.bind_eq_some_iff.mp H
               obtain ⟨⟨zt, zD, zW, jr⟩, A730, H⟩ := H
               replace H : (some (zt, zD, zW, jr)) = some (r1, r2, r3, r4) := H
               have A73 := Aside0.mk A730
               clear A730
               simp only [Option.some.injEq, Prod.mk.injEq] at H
               obtain ⟨rfl, rfl, rfl, rfl⟩ := H
               have ZU := ql.out
               have ZV := qm.out
               have ZW := qi.out
               have ZX := qj.out
               have Qd : wr.cell? ⟨qe, 0, none⟩ = some (.slice A0_0 l0_0.length c0_0) := bc_ qa 0
               have Qe : wr.cell? ⟨qe, 1, none⟩ = some (.int .i64 a0_1) := bc_ qa 1
               have Qf : wr.cell? ⟨qe, 2, none⟩ = some (.bool true) := bc_ qa 2
               have Qg := blk_frozen qa.out 0
               have Qh := blk_frozen qa.out 1
               have Qi := blk_frozen qa.out 2
               have ZY := qn.out
               have ZZ := qo.out
               have Qj : wr.cell? ⟨qf, 0, none⟩ = some (.slice A2_0 l2_0.length c2_0) := bc_ qb 0
               have Qk : wr.cell? ⟨qf, 1, none⟩ = some (.int .i64 a2_1) := bc_ qb 1
               have Ql : wr.cell? ⟨qf, 2, none⟩ = some (.bool false) := bc_ qb 2
               have Qm := blk_frozen qb.out 0
               have Qn := blk_frozen qb.out 1
               have Qo := blk_frozen qb.out 2
               go_wp2_with (first | ((with_reducible refine gate_callee (f := 59) rfl ?_); refine goesL_ (some 97) rfl rfl Try.func59 (by kernel_rfl) rfl #[.slice zq qk.length zr, .int .i64 (wrap64 ((wrap64 (a1 * a0_1)) + (wrap64 (a3 * a2_1)))), .bool false] rfl (by (try simp only [List.map_toArray, List.map_cons, List.map_nil]); first | done | rfl | (simp only [List.length_drop, List.length_take]; rfl)) ?_; (with_reducible refine (impl_makeOf.calls k3 _ _ qk (wrap64 ((wrap64 (a1 * a0_1)) + (wrap64 (a3 * a2_1)))) false zt zD zW jr _ ?side1 ?side2 A73.out).mono ?_); (case side1 => exact cr_ qg); (case side2 => exact (Kd.R_reads' qg.out).2.1); rintro e Q3 ⟨Jg, rfl, ho0, hb⟩; refine ⟨_, rfl, ?_⟩; have jb := Aside0.mk (Kd.R_lower (Kd.R_new' ho0 (Kd.R_lt (rm_ qg))) (bz_ HB)); replace qg := Aside0.mk (Kd.R_elder' (rm_ qg) (Kd.R_base ho0) hb); replace qa := kB_ qa hb; replace qb := kB_ qb hb; replace qc := kB_ qc hb; replace HB := bS_ HB hb; (try clear hb); (try clear hb2); (try clear hk); (try clear hi); (try clear ho0); obtain ⟨zX, zY, eo80⟩ := Kd.R_slice jb.out; subst eo80; have Qp : Q3.cell? ⟨qd, 0, none⟩ = some (.slice none 0 0) := bc_ qc 0; have Qq : Q3.cell? ⟨qd, 1, none⟩ = some (.int .i64 0) := bc_ qc 1; have Qr : Q3.cell? ⟨qd, 2, none⟩ = some (.bool false) := bc_ qc 2; have Qs := blk_frozen qc.out 0; have Qt := blk_frozen qc.out 1; have Qu := blk_frozen qc.out 2))
               refine bodyPost_ret (results_ct rfl _ _ qd 26 #[.slice zX zt.length zY, .int .i64 zD, .bool zW] (0, 0) _ rfl (by (with_reducible repeat (first | refine blk_drewN ?_ _ | refine blk_drew ?_ | refine blk_alloc ?_ _)); refine blk_put (cs := #[.slice zX zt.length zY, .int .i64 zD, .bool false]) ?_ 2 _ rfl; (with_reducible repeat (first | refine blk_drewN ?_ _ | refine blk_drew ?_ | refine blk_alloc ?_ _)); refine blk_put (cs := #[.slice zX zt.length zY, .int .i64 0, .bool false]) ?_ 1 _ rfl; (with_reducible repeat (first | refine blk_drewN ?_ _ | refine blk_drew ?_ | refine blk_alloc ?_ _)); refine blk_put (cs := #[.slice none 0 0, .int .i64 0, .bool false]) ?_ 0 _ rfl; (with_reducible repeat (first | refine blk_drewN ?_ _ | refine blk_drew ?_ | refine blk_alloc ?_ _)); exact qc.out) Try.underlying26 rfl (by kernel_rfl)) rfl ?_
               exact ⟨_, by first | rfl | (simp [errW_none, errW_some] <;> rfl) | (simp [*, errW_none, errW_some] <;> rfl), by (with_reducible repeat (first | apply Kd.R_alloc | apply Kd.R_drewN | apply Kd.R_drew)); exact Kd.R_mono (Kd.R_far (p := ⟨qd, 2, none⟩) (Kd.R_far (p := ⟨qd, 1, none⟩) (Kd.R_far (p := ⟨qd, 0, none⟩) (Kd.R_types jb.out qc.out (by decide)) (fun _ hk => hk.2) (.slice zX zt.length zY)) (fun _ hk => hk.2) (.int .i64 zD)) (fun _ hk => hk.2) (.bool zW)) (fun _ hk => trivial), bb_ HB⟩
             ·
              rw [if_neg c62] at H
              have jo : (a1 == 0) = false := beq_eq_false_iff_ne.mpr c62
              have jp : (a1 != 0) = true := bne_iff_ne.mpr c62
              replace H := Option.bind_eq_some_iff.mp H
              obtain ⟨⟨zu, zE, zZ, js⟩, A820, H⟩ := H
              replace H : (some (zu, zE, zZ, js)) = some (r1, r2, r3, r4) := H
              have A82 := Aside0.mk A820
              clear A820
              simp only [Option.some.injEq, Prod.mk.injEq] at H
              obtain ⟨rfl, rfl, rfl, rfl⟩ := H
              have Z0 := ql.out
              have Z1 := qm.out
              have Z2 := qi.out
              have Z3 := qj.out
              have Qv : wr.cell? ⟨qe, 0, none⟩ = some (.slice A0_0 l0_0.length c0_0) := bc_ qa 0
              have Qw : wr.cell? ⟨qe, 1, none⟩ = some (.int .i64 a0_1) := bc_ qa 1
              have Qx : wr.cell? ⟨qe, 2, none⟩ = some (.bool true) := bc_ qa 2
              have Qy := blk_frozen qa.out 0
              have Qz := blk_frozen qa.out 1
              have QA := blk_frozen qa.out 2
              have Z4 := qn.out
              have Z5 := qo.out
              have QB : wr.cell? ⟨qf, 0, none⟩ = some (.slice A2_0 l2_0.length c2_0) := bc_ qb 0
              have QC : wr.cell? ⟨qf, 1, none⟩ = some (.int .i64 a2_1) := bc_ qb 1
              have QD : wr.cell? ⟨qf, 2, none⟩ = some (.bool a2_2) := bc_ qb 2
              have QE := blk_frozen qb.out 0
              have QF := blk_frozen qb.out 1
              have QG := blk_frozen qb.out 2
              go_wp2_with (first | ((with_reducible refine gate_callee (f := 59) rfl ?_); refine goesL_ (some 97) rfl rfl Try.func59 (by kernel_rfl) rfl #[.slice zq qk.length zr, .int .i64 (wrap64 ((wrap64 (a1 * a0_1)) + (wrap64 (a3 * a2_1)))), .bool true] rfl (by (try simp only [List.map_toArray, List.map_cons, List.map_nil]); first | done | rfl | (simp only [List.length_drop, List.length_take]; rfl)) ?_; (with_reducible refine (impl_makeOf.calls k3 _ _ qk (wrap64 ((wrap64 (a1 * a0_1)) + (wrap64 (a3 * a2_1)))) true zu zE zZ js _ ?side1 ?side2 A82.out).mono ?_); (case side1 => exact cr_ qg); (case side2 => exact (Kd.R_reads' qg.out).2.1); rintro e Q4 ⟨Jh, rfl, ho0, hb⟩; refine ⟨_, rfl, ?_⟩; have jc := Aside0.mk (Kd.R_lower (Kd.R_new' ho0 (Kd.R_lt (rm_ qg))) (bz_ HB)); replace qg := Aside0.mk (Kd.R_elder' (rm_ qg) (Kd.R_base ho0) hb); replace qa := kB_ qa hb; replace qb := kB_ qb hb; replace qc := kB_ qc hb; replace HB := bS_ HB hb; (try clear hb); (try clear hb2); (try clear hk); (try clear hi); (try clear ho0); obtain ⟨z0, z1, eo89⟩ := Kd.R_slice jc.out; subst eo89; have QH : Q4.cell? ⟨qd, 0, none⟩ = some (.slice none 0 0) := bc_ qc 0; have QI : Q4.cell? ⟨qd, 1, none⟩ = some (.int .i64 0) := bc_ qc 1; have QJ : Q4.cell? ⟨qd, 2, none⟩ = some (.bool false) := bc_ qc 2; have QK := blk_frozen qc.out 0; have QL := blk_frozen qc.out 1; have QM := blk_frozen qc.out 2))
              refine bodyPost_ret (results_ct rfl _ _ qd 26 #[.slice z0 zu.length z1, .int .i64 zE, .bool zZ] (0, 0) _ rfl (by (with_reducible repeat (first | refine blk_drewN ?_ _ | refine blk_drew ?_ | refine blk_alloc ?_ _)); refine blk_put (cs := #[.slice z0 zu.length z1, .int .i64 zE, .bool false]) ?_ 2 _ rfl; (with_reducible repeat (first | refine blk_drewN ?_ _ | refine blk_drew ?_ | refine blk_alloc ?_ _)); refine blk_put (cs := #[.slice z0 zu.length z1, .int .i64 0, .bool false]) ?_ 1 _ rfl; (with_reducible repeat (first | refine blk_drewN ?_ _ | refine blk_drew ?_ | refine blk_alloc ?_ _)); refine blk_put (cs := #[.slice none 0 0, .int .i64 0, .bool false]) ?_ 0 _ rfl; (with_reducible repeat (first | refine blk_drewN ?_ _ | refine blk_drew ?_ | refine blk_alloc ?_ _)); exact qc.out) Try.underlying26 rfl (by kernel_rfl)) rfl ?_
              exact ⟨_, by first | rfl | (simp [errW_none, errW_some] <;> rfl) | (simp [*, errW_none, errW_some] <;> rfl), by (with_reducible repeat (first | apply Kd.R_alloc | apply Kd.R_drewN | apply Kd.R_drew)); exact Kd.R_mono (Kd.R_far (p := ⟨qd, 2, none⟩) (Kd.R_far (p := ⟨qd, 1, none⟩) (Kd.R_far (p := ⟨qd, 0, none⟩) (Kd.R_types jc.out qc.out (by decide)) (fun _ hk => hk.2) (.slice z0 zu.length z1)) (fun _ hk => hk.2) (.int .i64 zE)) (fun _ hk => hk.2) (.bool zZ)) (fun _ hk => trivial), bb_ HB⟩
            ·
             replace c61 := Bool.eq_false_iff.mpr c61
             subst c61
             have H1 : (if a2_2 = true then ((impl_makeOf.f k3 qk (wrap64 ((wrap64 (a1 * a0_1)) + (wrap64 (a3 * a2_1)))) (a3 != 0)).bind fun qr => (some (qr.1, qr.2.1, qr.2.2.1, qr.2.2.2))) else ((impl_makeOf.f k3 qk (wrap64 ((wrap64 (a1 * a0_1)) + (wrap64 (a3 * a2_1)))) false).bind fun qs => (some (qs.1, qs.2.1, qs.2.2.1, qs.2.2.2)))) = some (r1, r2, r3, r4) := by rw [if_neg (show ¬ (false = true) by decide)] at H; exact H
             clear H
             have H := H1
             clear H1
             by_cases c91 : a2_2 = true
             ·
              subst c91
              have H1 : ((impl_makeOf.f k3 qk (wrap64 ((wrap64 (a1 * a0_1)) + (wrap64 (a3 * a2_1)))) (a3 != 0)).bind fun qr => (some (qr.1, qr.2.1, qr.2.2.1, qr.2.2.2))) = some (r1, r2, r3, r4) := by rw [if_pos rfl] at H; exact H
              clear H
              have H := H1
              clear H1
              replace H := Option.bind_eq_some_iff.mp H
              obtain ⟨⟨zv, zF, z2, jt⟩, A920, H⟩ := H
              replace H : (some (zv, zF, z2, jt)) = some (r1, r2, r3, r4) := H
              have A92 := Aside0.mk A920
              clear A920
              simp only [Option.some.injEq, Prod.mk.injEq] at H
              obtain ⟨rfl, rfl, rfl, rfl⟩ := H
              have Z6 := ql.out
              have Z7 := qm.out
              have Z8 := qi.out
              have Z9 := qj.out
              have QN : wr.cell? ⟨qe, 0, none⟩ = some (.slice A0_0 l0_0.length c0_0) := bc_ qa 0
              have QO : wr.cell? ⟨qe, 1, none⟩ = some (.int .i64 a0_1) := bc_ qa 1
              have QP : wr.cell? ⟨qe, 2, none⟩ = some (.bool false) := bc_ qa 2
              have QQ := blk_frozen qa.out 0
              have QR := blk_frozen qa.out 1
              have QS := blk_frozen qa.out 2
              have Ja := qn.out
              have Jb := qo.out
              have QT : wr.cell? ⟨qf, 0, none⟩ = some (.slice A2_0 l2_0.length c2_0) := bc_ qb 0
              have QU : wr.cell? ⟨qf, 1, none⟩ = some (.int .i64 a2_1) := bc_ qb 1
              have QV : wr.cell? ⟨qf, 2, none⟩ = some (.bool true) := bc_ qb 2
              have QW := blk_frozen qb.out 0
              have QX := blk_frozen qb.out 1
              have QY := blk_frozen qb.out 2
              go_wp2_with (first | ((with_reducible refine gate_callee (f := 59) rfl ?_); refine goesL_ (some 97) rfl rfl Try.func59 (by kernel_rfl) rfl #[.slice zq qk.length zr, .int .i64 (wrap64 ((wrap64 (a1 * a0_1)) + (wrap64 (a3 * a2_1)))), .bool (a3 != 0)] rfl (by (try simp only [List.map_toArray, List.map_cons, List.map_nil]); first | done | rfl | (simp only [List.length_drop, List.length_take]; rfl)) ?_; (with_reducible refine (impl_makeOf.calls k3 _ _ qk (wrap64 ((wrap64 (a1 * a0_1)) + (wrap64 (a3 * a2_1)))) (a3 != 0) zv zF z2 jt _ ?side1 ?side2 A92.out).mono ?_); (case side1 => exact cr_ qg); (case side2 => exact (Kd.R_reads' qg.out).2.1); rintro e Q5 ⟨Ji, rfl, ho0, hb⟩; refine ⟨_, rfl, ?_⟩; have jd := Aside0.mk (Kd.R_lower (Kd.R_new' ho0 (Kd.R_lt (rm_ qg))) (bz_ HB)); replace qg := Aside0.mk (Kd.R_elder' (rm_ qg) (Kd.R_base ho0) hb); replace qa := kB_ qa hb; replace qb := kB_ qb hb; replace qc := kB_ qc hb; replace HB := bS_ HB hb; (try clear hb); (try clear hb2); (try clear hk); (try clear hi); (try clear ho0); obtain ⟨z3, z4, eo99⟩ := Kd.R_slice jd.out; subst eo99; have ju : Q5.cell? ⟨qd, 0, none⟩ = some (.slice none 0 0) := bc_ qc 0; have jv : Q5.cell? ⟨qd, 1, none⟩ = some (.int .i64 0) := bc_ qc 1; have jw : Q5.cell? ⟨qd, 2, none⟩ = some (.bool false) := bc_ qc 2; have jx := blk_frozen qc.out 0; have jy := blk_frozen qc.out 1; have jz := blk_frozen qc.out 2))
              refine bodyPost_ret (results_ct rfl _ _ qd 26 #[.slice z3 zv.length z4, .int .i64 zF, .bool z2] (0, 0) _ rfl (by (with_reducible repeat (first | refine blk_drewN ?_ _ | refine blk_drew ?_ | refine blk_alloc ?_ _)); refine blk_put (cs := #[.slice z3 zv.length z4, .int .i64 zF, .bool false]) ?_ 2 _ rfl; (with_reducible repeat (first | refine blk_drewN ?_ _ | refine blk_drew ?_ | refine blk_alloc ?_ _)); refine blk_put (cs := #[.slice z3 zv.length z4, .int .i64 0, .bool false]) ?_ 1 _ rfl; (with_reducible repeat (first | refine blk_drewN ?_ _ | refine blk_drew ?_ | refine blk_alloc ?_ _)); refine blk_put (cs := #[.slice none 0 0, .int .i64 0, .bool false]) ?_ 0 _ rfl; (with_reducible repeat (first | refine blk_drewN ?_ _ | refine blk_drew ?_ | refine blk_alloc ?_ _)); exact qc.out) Try.underlying26 rfl (by kernel_rfl)) rfl ?_
              exact ⟨_, by first | rfl | (simp [errW_none, errW_some] <;> rfl) | (simp [*, errW_none, errW_some] <;> rfl), by (with_reducible repeat (first | apply Kd.R_alloc | apply Kd.R_drewN | apply Kd.R_drew)); exact Kd.R_mono (Kd.R_far (p := ⟨qd, 2, none⟩) (Kd.R_far (p := ⟨qd, 1, none⟩) (Kd.R_far (p := ⟨qd, 0, none⟩) (Kd.R_types jd.out qc.out (by decide)) (fun _ hk => hk.2) (.slice z3 zv.length z4)) (fun _ hk => hk.2) (.int .i64 zF)) (fun _ hk => hk.2) (.bool z2)) (fun _ hk => trivial), bb_ HB⟩
             ·
              replace c91 := Bool.eq_false_iff.mpr c91
              subst c91
              have H1 : ((impl_makeOf.f k3 qk (wrap64 ((wrap64 (a1 * a0_1)) + (wrap64 (a3 * a2_1)))) false).bind fun qs => (some (qs.1, qs.2.1, qs.2.2.1, qs.2.2.2))) = some (r1, r2, r3, r4) := by rw [if_neg (show ¬ (false = true) by decide)] at H; exact H
              clear H
              have H := H1
              clear H1
              replace H := Option.bind_eq_some_iff.mp H
              obtain ⟨⟨zw, zG, z5, jA⟩, A1010, H⟩ := H
              replace H : (some (zw, zG, z5, jA)) = some (r1, r2, r3, r4) := H
              have A101 := Aside0.mk A1010
              clear A1010
              simp only [Option.some.injEq, Prod.mk.injEq] at H
              obtain ⟨rfl, rfl, rfl, rfl⟩ := H
              have Q6 := ql.out
              have Q7 := qm.out
              have Q8 := qi.out
              have Q9 := qj.out
              have jB : wr.cell? ⟨qe, 0, none⟩ = some (.slice A0_0 l0_0.length c0_0) := bc_ qa 0
              have jC : wr.cell? ⟨qe, 1, none⟩ = some (.int .i64 a0_1) := bc_ qa 1
              have jD : wr.cell? ⟨qe, 2, none⟩ = some (.bool false) := bc_ qa 2
              have jE := blk_frozen qa.out 0
              have jF := blk_frozen qa.out 1
              have jG := blk_frozen qa.out 2
              have Za := qn.out
              have Zb := qo.out
              have jH : wr.cell? ⟨qf, 0, none⟩ = some (.slice A2_0 l2_0.length c2_0) := bc_ qb 0
              have jI : wr.cell? ⟨qf, 1, none⟩ = some (.int .i64 a2_1) := bc_ qb 1
              have jJ : wr.cell? ⟨qf, 2, none⟩ = some (.bool false) := bc_ qb 2
              have jK := blk_frozen qb.out 0
              have jL := blk_frozen qb.out 1
              have jM := blk_frozen qb.out 2
              go_wp2_with (first | ((with_reducible refine gate_callee (f := 59) rfl ?_); refine goesL_ (some 97) rfl rfl Try.func59 (by kernel_rfl) rfl #[.slice zq qk.length zr, .int .i64 (wrap64 ((wrap64 (a1 * a0_1)) + (wrap64 (a3 * a2_1)))), .bool false] rfl (by (try simp only [List.map_toArray, List.map_cons, List.map_nil]); first | done | rfl | (simp only [List.length_drop, List.length_take]; rfl)) ?_; (with_reducible refine (impl_makeOf.calls k3 _ _ qk (wrap64 ((wrap64 (a1 * a0_1)) + (wrap64 (a3 * a2_1)))) false zw zG z5 jA _ ?side1 ?side2 A101.out).mono ?_); (case side1 => exact cr_ qg); (case side2 => exact (Kd.R_reads' qg.out).2.1); rintro e jh ⟨Jj, rfl, ho0, hb⟩; refine ⟨_, rfl, ?_⟩; have je := Aside0.mk (Kd.R_lower (Kd.R_new' ho0 (Kd.R_lt (rm_ qg))) (bz_ HB)); replace qg := Aside0.mk (Kd.R_elder' (rm_ qg) (Kd.R_base ho0) hb); replace qa := kB_ qa hb; replace qb := kB_ qb hb; replace qc := kB_ qc hb; replace HB := bS_ HB hb; (try clear hb); (try clear hb2); (try clear hk); (try clear hi); (try clear ho0); obtain ⟨zn, zo, eo108⟩ := Kd.R_slice je.out; subst eo108; have jN : jh.cell? ⟨qd, 0, none⟩ = some (.slice none 0 0) := bc_ qc 0; have jO : jh.cell? ⟨qd, 1, none⟩ = some (.int .i64 0) := bc_ qc 1; have jP : jh.cell? ⟨qd, 2, none⟩ = some (.bool false) := bc_ qc 2; have jQ := blk_frozen qc.out 0; have jR := blk_frozen qc.out 1; have jS := blk_frozen qc.out 2))
              refine bodyPost_ret (results_ct rfl _ _ qd 26 #[.slice zn zw.length zo, .int .i64 zG, .bool z5] (0, 0) _ rfl (by (with_reducible repeat (first | refine blk_drewN ?_ _ | refine blk_drew ?_ | refine blk_alloc ?_ _)); refine blk_put (cs := #[.slice zn zw.length zo, .int .i64 zG, .bool false]) ?_ 2 _ rfl; (with_reducible repeat (first | refine blk_drewN ?_ _ | refine blk_drew ?_ | refine blk_alloc ?_ _)); refine blk_put (cs := #[.slice zn zw.length zo, .int .i64 0, .bool false]) ?_ 1 _ rfl; (with_reducible repeat (first | refine blk_drewN ?_ _ | refine blk_drew ?_ | refine blk_alloc ?_ _)); refine blk_put (cs := #[.slice none 0 0, .int .i64 0, .bool false]) ?_ 0 _ rfl; (with_reducible repeat (first | refine blk_drewN ?_ _ | refine blk_drew ?_ | refine blk_alloc ?_ _)); exact qc.out) Try.underlying26 rfl (by kernel_rfl)) rfl ?_
              exact ⟨_, by first | rfl | (simp [errW_none, errW_some] <;> rfl) | (simp [*, errW_none, errW_some] <;> rfl), by (with_reducible repeat (first | apply Kd.R_alloc | apply Kd.R_drewN | apply Kd.R_drew)); exact Kd.R_mono (Kd.R_far (p := ⟨qd, 2, none⟩) (Kd.R_far (p := ⟨qd, 1, none⟩) (Kd.R_far (p := ⟨qd, 0, none⟩) (Kd.R_types je.out qc.out (by decide)) (fun _ hk => hk.2) (.slice zn zw.length zo)) (fun _ hk => hk.2) (.int .i64 zG)) (fun _ hk => hk.2) (.bool z5)) (fun _ hk => trivial), bb_ HB⟩
        ·
         rw [if_neg c46] at H
         exact absurd H (by simp)
       ·
        rw [if_neg c45] at H
        exact absurd H (by simp)

/-! ### laws_FnExactMixAtoms: function 6 -/
mutual
def laws_FnExactMixAtoms.j0 : Nat → Int → Int → Bool → Bool → Bool → List Int → Int → Bool → List Int → Int → Bool → List Int → Int → Bool → List Int → Int → Bool → List Int → Int → Bool → List Int → Int → Bool → Option (Bool)
 | 0, _, _, _, _, _, _, _, _, _, _, _, _, _, _, _, _, _, _, _, _, _, _, _ => none
 | k + 1, x1, x3, x11, x15, x61, x255000, x255001, x255002, x256000, x256001, x256002, x275000, x275001, x275002, x281000, x281001, x281002, x287000, x287001, x287002, x294000, x294001, x294002 => if x61 = true then (some false) else ((laws_toAtom.f k x255000 x255001 x255002).bind fun jD => ((laws_eqAtom.f k x281000 x281001 x281002 jD.1 jD.2.1 jD.2.2).bind fun jZ => (if jZ = true then ((laws_toAtom.f k x256000 x256001 x256002).bind fun zE => ((laws_eqAtom.f k x287000 x287001 x287002 zE.1 zE.2.1 zE.2.2).bind fun jd => (if jd = true then ((laws_markAtom.f k x281000 x281001 x281002 1).bind fun zM => ((laws_markAtom.f k x287000 x287001 x287002 zM.1).bind fun zJ => (if zJ.1 < 0 then (laws_FnExactMixAtoms.j1 k x1 x3 x11 true x255000 x255001 x255002 x256000 x256001 x256002 x275000 x275001 x275002 x294000 x294001 x294002) else ((laws_eqAtom.f k x294000 x294001 x294002 x275000 x275001 x275002).bind fun zP => (if zP = true then (laws_FnExactMixAtoms.j1 k x1 x3 x11 (x15 != x11) x255000 x255001 x255002 x256000 x256001 x256002 x275000 x275001 x275002 x294000 x294001 x294002) else (laws_FnExactMixAtoms.j1 k x1 x3 x11 true x255000 x255001 x255002 x256000 x256001 x256002 x275000 x275001 x275002 x294000 x294001 x294002)))))) else (some false)))) else (some false))))
def laws_FnExactMixAtoms.j1 : Nat → Int → Int → Bool → Bool → List Int → Int → Bool → List Int → Int → Bool → List Int → Int → Bool → List Int → Int → Bool → Option (Bool)
 | 0, _, _, _, _, _, _, _, _, _, _, _, _, _, _, _, _ => none
 | k + 1, x1, x3, x11, x90, x255000, x255001, x255002, x256000, x256001, x256002, x275000, x275001, x275002, x294000, x294001, x294002 => if x90 = true then (some false) else ((laws_markAtom.f k x294000 x294001 x294002 1).bind fun zS => ((laws_heldAtom.f k zS.2 x294001 x294002 1).bind fun zQ => (if zQ < 0 then (some false) else (if zQ = zS.1 then ((laws_toAtom.f k x255000 x255001 x255002).bind fun zN => ((laws_toAtom.f k x256000 x256001 x256002).bind fun zF => ((impl_MixAtoms.f k zN.1 zN.2.1 zN.2.2 x1 zF.1 zF.2.1 zF.2.2 x3).bind fun zm => ((laws_eqAtom.f k zm.1 zm.2.1 zm.2.2.1 x275000 x275001 x275002).bind fun ja => (if ja = true then (laws_FnExactMixAtoms.j2 k zS.1 (zm.2.2.2 != x11) zS.2 x294001 x294002) else (laws_FnExactMixAtoms.j2 k zS.1 true zS.2 x294001 x294002)))))) else (some false)))))
def laws_FnExactMixAtoms.j2 : Nat → Int → Bool → List Int → Int → Bool → Option (Bool)
 | 0, _, _, _, _, _ => none
 | k + 1, x17, x120, x294000, x294001, x294002 => if x120 = true then (some false) else ((laws_heldAtom.f k x294000 x294001 x294002 1).bind fun zX => (if zX < 0 then (some false) else (if zX = x17 then (some true) else (some false))))
end
def laws_FnExactMixAtoms.f (k : Nat) (l0_0 : List Int) (a0_1 : Int) (a0_2 : Bool) (a1 : Int) (l2_0 : List Int) (a2_1 : Int) (a2_2 : Bool) (a3 : Int) : Option (Bool) := (laws_szAtom.f l0_0 a0_1 a0_2 1048576).bind fun zY => (if zY < 0 then (some true) else ((laws_szAtom.f l2_0 a2_1 a2_2 zY).bind fun jz => (if jz < 0 then (some true) else ((laws_toAtom.f k l0_0 a0_1 a0_2).bind fun zO => ((laws_toAtom.f k l2_0 a2_1 a2_2).bind fun zG => ((spec_MixAtoms.f k zO.1 zO.2.1 zO.2.2 a1 zG.1 zG.2.1 zG.2.2 a3).bind fun qu => ((laws_toAtom.f k l0_0 a0_1 a0_2).bind fun qB => ((laws_toAtom.f k l2_0 a2_1 a2_2).bind fun qt => ((impl_MixAtoms.f k qB.1 qB.2.1 qB.2.2 a1 qt.1 qt.2.1 qt.2.2 a3).bind fun qk => ((laws_eqAtom.f k qk.1 qk.2.1 qk.2.2.1 qu.1 qu.2.1 qu.2.2.1).bind fun zR => (if zR = true then (laws_FnExactMixAtoms.j0 k a1 a3 qu.2.2.2 qk.2.2.2 (qk.2.2.2 != qu.2.2.2) l0_0 a0_1 a0_2 l2_0 a2_1 a2_2 qu.1 qu.2.1 qu.2.2.1 qB.1 qB.2.1 qB.2.2 qt.1 qt.2.1 qt.2.2 qk.1 qk.2.1 qk.2.2.1) else (laws_FnExactMixAtoms.j0 k a1 a3 qu.2.2.2 qk.2.2.2 true l0_0 a0_1 a0_2 l2_0 a2_1 a2_2 qu.1 qu.2.1 qu.2.2.1 qB.1 qB.2.1 qB.2.2 qt.1 qt.2.1 qt.2.2 qk.1 qk.2.1 qk.2.2.1))))))))))))
def laws_FnExactMixAtoms.T8 : Bool × List (List Nat × List Nat) := (true, [([], []), ([0], [0]), ([], []), ([], []), ([3, 1], [3]), ([], []), ([1, 2, 4, 5, 4], [1, 2, 4, 5]), ([6], [6]), ([7], [7]), ([7], [7]), ([], []), ([10, 8, 6, 0, 1, 2, 3, 4, 5, 6, 7, 8, 10], [8, 10]), ([9, 11, 0, 1, 2, 3, 4, 5, 6, 7, 8, 9, 10, 11], [9])])
def laws_FnExactMixAtoms.B8 : List Nat := [0, 1, 0, 0, 11, 0, 63, 127, 255, 255, 0, 1535, 4095]
theorem laws_FnExactMixAtoms.tab8 : rtab .any (opsOf Try.f6 8) = laws_FnExactMixAtoms.T8 := by kernel_rfl
theorem laws_FnExactMixAtoms.bits8 : waitsOk laws_FnExactMixAtoms.T8.2 laws_FnExactMixAtoms.B8 = true := by kernel_rfl
def laws_FnExactMixAtoms.T31 : Bool × List (List Nat × List Nat) := (true, [([], []), ([0], [0]), ([], []), ([], []), ([3, 1], [3]), ([], []), ([1, 2, 4, 5, 4], [1, 2, 4, 5]), ([6], [6]), ([7], [7]), ([7], [7]), ([], []), ([10, 8, 6, 0, 1, 2, 3, 4, 5, 6, 7, 8, 10], [8, 10]), ([9, 11, 0, 1, 2, 3, 4, 5, 6, 7, 8, 9, 10, 11], [9])])
def laws_FnExactMixAtoms.B31 : List Nat := [0, 1, 0, 0, 11, 0, 63, 127, 255, 255, 0, 1535, 4095]
theorem laws_FnExactMixAtoms.tab31 : rtab .any (opsOf Try.f6 31) = laws_FnExactMixAtoms.T31 := by kernel_rfl
theorem laws_FnExactMixAtoms.bits31 : waitsOk laws_FnExactMixAtoms.T31.2 laws_FnExactMixAtoms.B31 = true := by kernel_rfl
end Go.Proofs.Ytaijkhabcidagaa.PFnExactMixAtoms
