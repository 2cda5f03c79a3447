/- The functions that the law FnMixed reaches, each as a Lean function with the same answers, and the proof that the call comes to exactly these: turned by program out of the printed texts. No condition but those that each theorem names. -/
import Derived.Test.YtohoibekddhneaaQFnMixedx0
import Derived.Test.YtohoibekddhneaaQFnMixedx2
namespace Go.Proofs.Ytohoibekddhneaa.PFnMixed
open Go.RowKit Go.Proofs.YtohoibekddhneaaW.PrintWords Go.Proofs.YtohoibekddhneaaW.PrintLast Go.Proofs.YtohoibekddhneaaW.PrintMore
attribute [local go_sem] max2_int min2_int max_two min_two max_three min_three max_four min_four   -- for this text's walks alone
set_option linter.unusedVariables false
set_option linter.unusedSimpArgs false

/-! ### laws_point: function 11 -/
def laws_point.l0 : Nat → List Int → Int → List (S37) → Int → Option ((List (S37)))
 | 0, _, _, _, _ => none
 | k + 1, x0, x1, x5, x6 => if x6 < x1 then (if x6 < (x0.length : Int) then (if 0 ≤ x6 then ((spec_MakeRatio.f k (wrap64 ((Int.tmod (wrap64 (rd x0 x6)) 17) - 8)) (wrap64 (1 + (Int.tmod (wrap64 (Int.tdiv (wrap64 (rd x0 x6)) 17)) 3)))).bind fun qi => (if x5.length < 8796093022208 then (laws_point.l0 k x0 x1 (x5 ++ [(⟨qi.1, qi.2⟩ : S37)]) (wrap64 (x6 + 1))) else (none))) else (none)) else ((spec_MakeRatio.f k (wrap64 ((Int.tmod x6 17) - 8)) (wrap64 (1 + (Int.tmod (wrap64 (Int.tdiv x6 17)) 3)))).bind fun qj => (if x5.length < 8796093022208 then (laws_point.l0 k x0 x1 (x5 ++ [(⟨qj.1, qj.2⟩ : S37)]) (wrap64 (x6 + 1))) else (none)))) else (some x5)
def laws_point.f (k : Nat) (l0 : List Int) (a1 : Int) : Option ((List (S37))) := laws_point.l0 k l0 a1 (([] : List (S37))) 0
theorem laws_point.mono_l : ∀ k, (∀ y0 y1 y2 y3, LeO (laws_point.l0 k y0 y1 y2 y3) (laws_point.l0 (k + 1) y0 y1 y2 y3))
 | 0 => fun _ _ _ _ r h => by simp [laws_point.l0] at h
 | k + 1 => by
  have ih0 := laws_point.mono_l k
  ·
   intro y0 y1 y2 y3
   unfold laws_point.l0
   repeat' first
   | (with_reducible exact ih0 _ _ _ _)
   | (with_reducible exact spec_MakeRatio.mono _ _ _)
   | (with_reducible exact LeO.refl _)
   | (with_reducible exact LeO.none _)
   | (with_reducible refine LeO.ite ?_ ?_)
   | (with_reducible refine LeO.bind ?_ (fun _ => ?_))
   | exact ih0 _ _ _ _
   | exact spec_MakeRatio.mono _ _ _
   | exact LeO.none _
   | refine LeO.ite ?_ ?_
   | refine LeO.bind ?_ (fun _ => ?_)
theorem laws_point.mono : ∀ a0 a1 k, LeO (laws_point.f k a0 a1) (laws_point.f (k + 1) a0 a1) := by
 intro a0 a1 k
 have ih0 := laws_point.mono_l k
 unfold laws_point.f
 repeat' first
   | (with_reducible exact ih0 _ _ _ _)
   | (with_reducible exact spec_MakeRatio.mono _ _ _)
   | (with_reducible exact LeO.refl _)
   | (with_reducible exact LeO.none _)
   | (with_reducible refine LeO.ite ?_ ?_)
   | (with_reducible refine LeO.bind ?_ (fun _ => ?_))
   | exact ih0 _ _ _ _
   | exact spec_MakeRatio.mono _ _ _
   | exact LeO.none _
   | refine LeO.ite ?_ ?_
   | refine LeO.bind ?_ (fun _ => ?_)
set_option maxHeartbeats 8000000 in
set_option maxRecDepth 100000 in
theorem laws_point.calls (k : Nat) (A0 : Option Addr) (c0 : Nat) (l0 : List Int) (a1 : Int) (r : List (S37)) (w : World) (hr0 : Kd.C (Kd.int .u8) w A0 l0.length l0) (hc0 : l0.length ≤ c0) (h : laws_point.f k l0 a1 = some r) :
  Calls Try.prog 11 #[.slice A0 l0.length c0, .int .i64 a1] w fun e w' => ∃ v0_ : Value, e = .returned (v0_) ∧ Kd.R k37 37 w' w.heap.size (fun _ => True) v0_ r ∧ Below w.heap.size w w' := by
 have HR0 := Aside0.mk hr0
 have HC0 := Aside0.mk hc0
 clear hr0 hc0
 have HB := Aside0.mk (Below.refl w.heap.size w)
 have H : (laws_point.l0 k l0 a1 (([] : List (S37))) 0) = some r := h
 clear h
 obtain ⟨y367, hy367⟩ : ∃ y_ : List (S37), y_ = (([] : List (S37))) := ⟨_, rfl⟩
 replace H : (laws_point.l0 k l0 a1 y367 0) = some r := by first | (rw [hy367]; with_reducible exact H) | (have H2_ := (Option.bind_some _ _).symm.trans H; rw [hy367]; with_reducible exact H2_) | (have H2_ := (Option.bind_some _ _).symm.trans H; with_reducible exact H2_) | with_reducible exact H | (rw [hy367]; exact H) | exact H
 have Ny367 := Aside0.mk hy367
 clear hy367
 have H' := Aside0.mk H
 clear H
 go_enter Try.func11, Try.ntmps11
 go_wp2_with (first | ((with_reducible refine gate_dst (N := 8) rfl ?_); refine Kd.R_lit k37 _ 37 ?hg (N := 8) ?hd (xs := ([] : List (S37))) (inner := []) (ok := fun _ => True) (okp := fun _ => True) ?hr ?hp (fun _ hk => hk) trivial (Below.refl _ _) (Nat.le_refl _) (by simp) ?_; (case hd => rfl); (case hg => rfl); (case hr => first | (go_simp; done) | (go_simp; rfl)); (case hp => exact (Reps.none _ _)); intro qq w3 ho4 hb hg_ hnew_; clear hg_ hnew_; (first | rw [← Ny367.out] at ho4 | (simp only [Int.reduceToNat] at ho4; rw [← Ny367.out] at ho4)); have qk := Aside0.mk (Kd.R_lower ho4 (bz_ HB)); replace HB := bS_ HB hb; clear hb ho4))
 go_loopg [5, 6] k (fun kq v5 v6 w' => ∃ (qb : List (S37)) (qa : Int), v6 = .int .i64 qa ∧ Aside0 (laws_point.l0 kq l0 a1 qb qa = some r) ∧ Aside0 (kq ≤ k) ∧ Aside0 (Kd.R k37 37 w' w.heap.size (fun _ => True) v5 qb) ∧ Aside0 (Below w.heap.size w w'))
 case atStart => exact ⟨(y367), (0), (by first | rfl | (simp; done) | (simp [*]; done)), H', ⟨Nat.le_refl _⟩, ⟨by (with_reducible repeat (first | apply Kd.R_alloc | apply Kd.R_drewN | apply Kd.R_drew)); exact qk.out⟩, ⟨bb_ HB⟩⟩
 case round =>
  clear H'
  try clear c1
  try clear p2
  obtain ⟨qb, qa, rfl, HA, HK1, qc, HB⟩ := hrel
  cases gk with
  | zero => exact absurd HA.out (by simp [laws_point.l0])
  | succ k1 =>
   have H := HA.out
   clear HA
   simp only [laws_point.l0] at H
   by_cases c5 : qa < a1
   ·
    rw [if_pos c5] at H
    have qn : decide (qa < a1) = true := decide_eq_true c5
    clear c5
    by_cases c6 : qa < (l0.length : Int)
    ·
     rw [if_pos c6] at H
     have qo : decide (qa < (l0.length : Int)) = true := decide_eq_true c6
     clear c6
     by_cases c7 : 0 ≤ qa
     ·
      rw [if_pos c7] at H
      have qr : decide (0 ≤ qa) = true := decide_eq_true c7
      clear c7
      replace H := Option.bind_eq_some_iff.mp H
      obtain ⟨⟨qe, qf⟩, A80, H⟩ := H
      replace H : (if qb.length < 8796093022208 then (laws_point.l0 k1 l0 a1 (qb ++ [(⟨qe, qf⟩ : S37)]) (wrap64 (qa + 1))) else (none)) = some r := H
      have A8 := Aside0.mk A80
      clear A80
      by_cases c9 : qb.length < 8796093022208
      ·
       rw [if_pos c9] at H
       have LMc9 := Aside0.mk c9
       clear c9
       obtain ⟨y373, hy373⟩ : ∃ y_ : List (S37), y_ = (qb ++ [(⟨qe, qf⟩ : S37)]) := ⟨_, rfl⟩
       replace H : (laws_point.l0 k1 l0 a1 y373 (wrap64 (qa + 1))) = some r := by first | (rw [hy373]; with_reducible exact H) | (have H2_ := (Option.bind_some _ _).symm.trans H; rw [hy373]; with_reducible exact H2_) | (have H2_ := (Option.bind_some _ _).symm.trans H; with_reducible exact H2_) | with_reducible exact H | (rw [hy373]; exact H) | exact H
       have Ny373 := Aside0.mk hy373
       clear hy373
       have H' := Aside0.mk H
       clear H
       have p370 : 0 ≤ (qa : Int) := of_decide_eq_true (by first | (with_reducible assumption) | assumption)
       have q370 : qa < (l0.length : Int) := of_decide_eq_true (by first | (with_reducible assumption) | assumption)
       obtain ⟨qp, e370, qd⟩ := Kd.at_int HR0.out qa p370 q370
       cases e370
       replace qd := (HB.out.cell (World.block_lt_of_cell? w _ qd)).trans qd
       replace p370 := eq_true p370
       replace q370 := eq_true q370
       go_wp2_with (first | ((with_reducible refine gate_callee (f := 43) rfl ?_); refine goesL_ (some 32) rfl rfl Try.func43 (by kernel_rfl) rfl #[.int .i64 (wrap64 ((Int.tmod (wrap64 (rd l0 qa)) 17) - 8)), .int .i64 (wrap64 (1 + (Int.tmod (wrap64 (Int.tdiv (wrap64 (rd l0 qa)) 17)) 3)))] rfl (by (try simp only [List.map_toArray, List.map_cons, List.map_nil]); first | done | rfl | (simp only [List.length_drop, List.length_take]; rfl)) ?_; (with_reducible refine (spec_MakeRatio.calls k1 (wrap64 ((Int.tmod (wrap64 (rd l0 qa)) 17) - 8)) (wrap64 (1 + (Int.tmod (wrap64 (Int.tdiv (wrap64 (rd l0 qa)) 17)) 3))) qe qf _ A8.out).mono ?_); rintro e qu ⟨rfl, hb⟩; refine ⟨_, rfl, ?_⟩; replace qc := rB_ qc hb; replace HB := bS_ HB hb; (try clear hb); (try clear hb2); (try clear hk); (try clear hi)) | ((with_reducible refine gate_builtin (b := .append) (xs := #[.tmp 24, .tmp 33]) rfl ?_); at_builtin; refine Kd.R_append k37 (w0 := w) w.heap.size rfl (.tmp 24) (.tmp 33) 31 37 (.agg #[(.int .i64 0), (.int .i64 0)]) 16 rfl Try.underlying31 info37 rfl (by decide) (by omega) u5 qb (⟨qe, qf⟩ : S37) [.int .i64 qe, .int .i64 qf] (fun _ => True) (fun _ => False) rfl rfl ?aP (fun _ hk => hk.elim) ?aF ?aO ?aB ?aS ?aL ?_; (case aP => exact k37_mkM _ _ _ (⟨qe, qf⟩ : S37)); (case aB => exact (bb_ HB)); (case aF => exact (fun _ _ => trivial)); (case aO => exact (rm_ qc)); (case aS => exact (bz_ HB)); (case aL => have := LMc9.out; omega); intro qs qv ho hb hg hat; rw [← Ny373.out] at ho; replace HB := Aside0.mk (hb); have ql := Aside0.mk (ho); clear qc; clear ho hb hg hat))
       go_roundg k1
       case measure => have := HK1.out; omega
       case rel => exact ⟨(y373), (wrap64 (qa + 1)), (by first | rfl | (simp; done) | (simp [*]; done)), H', ⟨by have := HK1.out; omega⟩, ⟨by (with_reducible repeat (first | apply Kd.R_alloc | apply Kd.R_drewN | apply Kd.R_drew)); exact ql.out⟩, ⟨bb_ HB⟩⟩
      ·
       rw [if_neg c9] at H
       exact absurd H (by simp)
     ·
      rw [if_neg c7] at H
      exact absurd H (by simp)
    ·
     rw [if_neg c6] at H
     have qo : decide (qa < (l0.length : Int)) = false := decide_eq_false c6
     clear c6
     replace H := Option.bind_eq_some_iff.mp H
     obtain ⟨⟨qg, qh⟩, A120, H⟩ := H
     replace H : (if qb.length < 8796093022208 then (laws_point.l0 k1 l0 a1 (qb ++ [(⟨qg, qh⟩ : S37)]) (wrap64 (qa + 1))) else (none)) = some r := H
     have A12 := Aside0.mk A120
     clear A120
     by_cases c13 : qb.length < 8796093022208
     ·
      rw [if_pos c13] at H
      have LMc13 := Aside0.mk c13
      clear c13
      obtain ⟨y378, hy378⟩ : ∃ y_ : List (S37), y_ = (qb ++ [(⟨qg, qh⟩ : S37)]) := ⟨_, rfl⟩
      replace H : (laws_point.l0 k1 l0 a1 y378 (wrap64 (qa + 1))) = some r := by first | (rw [hy378]; with_reducible exact H) | (have H2_ := (Option.bind_some _ _).symm.trans H; rw [hy378]; with_reducible exact H2_) | (have H2_ := (Option.bind_some _ _).symm.trans H; with_reducible exact H2_) | with_reducible exact H | (rw [hy378]; exact H) | exact H
      have Ny378 := Aside0.mk hy378
      clear hy378
      have H' := Aside0.mk H
      clear H
      go_wp2_with (first | ((with_reducible refine gate_callee (f := 43) rfl ?_); refine goesL_ (some 32) rfl rfl Try.func43 (by kernel_rfl) rfl #[.int .i64 (wrap64 ((Int.tmod qa 17) - 8)), .int .i64 (wrap64 (1 + (Int.tmod (wrap64 (Int.tdiv qa 17)) 3)))] rfl (by (try simp only [List.map_toArray, List.map_cons, List.map_nil]); first | done | rfl | (simp only [List.length_drop, List.length_take]; rfl)) ?_; (with_reducible refine (spec_MakeRatio.calls k1 (wrap64 ((Int.tmod qa 17) - 8)) (wrap64 (1 + (Int.tmod (wrap64 (Int.tdiv qa 17)) 3))) qg qh _ A12.out).mono ?_); rintro e qw ⟨rfl, hb⟩; refine ⟨_, rfl, ?_⟩; replace qc := rB_ qc hb; replace HB := bS_ HB hb; (try clear hb); (try clear hb2); (try clear hk); (try clear hi)) | ((with_reducible refine gate_builtin (b := .append) (xs := #[.tmp 24, .tmp 33]) rfl ?_); at_builtin; refine Kd.R_append k37 (w0 := w) w.heap.size rfl (.tmp 24) (.tmp 33) 31 37 (.agg #[(.int .i64 0), (.int .i64 0)]) 16 rfl Try.underlying31 info37 rfl (by decide) (by omega) u5 qb (⟨qg, qh⟩ : S37) [.int .i64 qg, .int .i64 qh] (fun _ => True) (fun _ => False) rfl rfl ?aP (fun _ hk => hk.elim) ?aF ?aO ?aB ?aS ?aL ?_; (case aP => exact k37_mkM _ _ _ (⟨qg, qh⟩ : S37)); (case aB => exact (bb_ HB)); (case aF => exact (fun _ _ => trivial)); (case aO => exact (rm_ qc)); (case aS => exact (bz_ HB)); (case aL => have := LMc13.out; omega); intro qt qx ho hb hg hat; rw [← Ny378.out] at ho; replace HB := Aside0.mk (hb); have qm := Aside0.mk (ho); clear qc; clear ho hb hg hat))
      go_roundg k1
      case measure => have := HK1.out; omega
      case rel => exact ⟨(y378), (wrap64 (qa + 1)), (by first | rfl | (simp; done) | (simp [*]; done)), H', ⟨by have := HK1.out; omega⟩, ⟨by (with_reducible repeat (first | apply Kd.R_alloc | apply Kd.R_drewN | apply Kd.R_drew)); exact qm.out⟩, ⟨bb_ HB⟩⟩
     ·
      rw [if_neg c13] at H
      exact absurd H (by simp)
   ·
    rw [if_neg c5] at H
    have qn : decide (qa < a1) = false := decide_eq_false c5
    clear c5
    obtain rfl := Option.some.inj H
    go_wp2
    go_ret
    exact ⟨_, by first | rfl | (simp [errW_none, errW_some] <;> rfl) | (simp [*, errW_none, errW_some] <;> rfl), by (with_reducible repeat (first | apply Kd.R_alloc | apply Kd.R_drewN | apply Kd.R_drew)); exact qc.out, bb_ HB⟩

/-! ### impl_GcdOf: function 78 -/
def impl_GcdOf.f (k : Nat) (a0 : Int) (a1 : Int) : Option (Int) := (impl_IsNumber.f a0).bind fun qc => (if qc = true then ((impl_IsNumber.f a1).bind fun qb => (if qb = true then ((impl_commonDivisor.f k a0 a1).bind fun qa => (some qa)) else (some 0))) else (some 0))
theorem impl_GcdOf.mono : ∀ a0 a1 k, LeO (impl_GcdOf.f k a0 a1) (impl_GcdOf.f (k + 1) a0 a1) := by
 intro a0 a1 k
 unfold impl_GcdOf.f
 repeat' first
   | (with_reducible exact impl_commonDivisor.mono _ _ _)
   | (with_reducible exact LeO.refl _)
   | (with_reducible exact LeO.none _)
   | (with_reducible refine LeO.ite ?_ ?_)
   | (with_reducible refine LeO.bind ?_ (fun _ => ?_))
   | exact impl_commonDivisor.mono _ _ _
   | exact LeO.none _
   | refine LeO.ite ?_ ?_
   | refine LeO.bind ?_ (fun _ => ?_)
set_option maxHeartbeats 8000000 in
set_option maxRecDepth 100000 in
theorem impl_GcdOf.calls (k : Nat) (a0 : Int) (a1 : Int) (r : Int) (w : World) (h : impl_GcdOf.f k a0 a1 = some r) :
  Calls Try.prog 78 #[.int .i64 a0, .int .i64 a1] w fun e w' => e = .returned (.int .i64 r) ∧ Drawn0 w w' := by
 have H : ((impl_IsNumber.f a0).bind fun qc => (if qc = true then ((impl_IsNumber.f a1).bind fun qb => (if qb = true then ((impl_commonDivisor.f k a0 a1).bind fun qa => (some qa)) else (some 0))) else (some 0))) = some r := h
 clear h
 replace H := Option.bind_eq_some_iff.mp H
 obtain ⟨qc, A30, H⟩ := H
 replace H : (if qc = true then ((impl_IsNumber.f a1).bind fun qb => (if qb = true then ((impl_commonDivisor.f k a0 a1).bind fun qa => (some qa)) else (some 0))) else (some 0)) = some r := H
 have A3 := Aside0.mk A30
 clear A30
 by_cases c4 : qc = true
 ·
  subst c4
  have H1 : ((impl_IsNumber.f a1).bind fun qb => (if qb = true then ((impl_commonDivisor.f k a0 a1).bind fun qa => (some qa)) else (some 0))) = some r := by rw [if_pos rfl] at H; exact H
  clear H
  have H := H1
  clear H1
  replace H := Option.bind_eq_some_iff.mp H
  obtain ⟨qb, A50, H⟩ := H
  replace H : (if qb = true then ((impl_commonDivisor.f k a0 a1).bind fun qa => (some qa)) else (some 0)) = some r := H
  have A5 := Aside0.mk A50
  clear A50
  by_cases c6 : qb = true
  ·
   subst c6
   have H1 : ((impl_commonDivisor.f k a0 a1).bind fun qa => (some qa)) = some r := by rw [if_pos rfl] at H; exact H
   clear H
   have H := H1
   clear H1
   replace H := Option.bind_eq_some_iff.mp H
   obtain ⟨qa, A70, H⟩ := H
   replace H : (some qa) = some r := H
   have A7 := Aside0.mk A70
   clear A70
   obtain rfl := Option.some.inj H
   go_enter Try.func78, Try.ntmps78
   go_wp2_with (first | ((with_reducible refine gate_callee (f := 70) rfl ?_); refine goesL_ (some 6) rfl rfl Try.func70 (by kernel_rfl) rfl #[.int .i64 a0] rfl (by (try simp only [List.map_toArray, List.map_cons, List.map_nil]); first | done | rfl | (simp only [List.length_drop, List.length_take]; rfl)) ?_; (with_reducible refine (impl_IsNumber.calls a0 true _ A3.out).mono ?_); rintro e w' ⟨rfl, ⟨nd, rfl⟩⟩; refine ⟨_, rfl, ?_⟩) | (go_at_call 70; (with_reducible refine (impl_IsNumber.calls a1 true _ A5.out).mono ?_); rintro e w' ⟨rfl, ⟨nd, rfl⟩⟩) | ((with_reducible refine gate_callee (f := 71) rfl ?_); refine goesL_ (some 15) rfl rfl Try.func71 (by kernel_rfl) rfl #[.int .i64 a0, .int .i64 a1] rfl (by (try simp only [List.map_toArray, List.map_cons, List.map_nil]); first | done | rfl | (simp only [List.length_drop, List.length_take]; rfl)) ?_; (with_reducible refine (impl_commonDivisor.calls k a0 a1 qa _ A7.out).mono ?_); rintro e w' ⟨rfl, ⟨nd, rfl⟩⟩; refine ⟨_, rfl, ?_⟩))
   go_ret
   exact ⟨by first | rfl | (simp; done) | (simp [*]; done), by repeat (first | exact Drawn0.refl _ | apply Drawn0.step)⟩
  ·
   replace c6 := Bool.eq_false_iff.mpr c6
   subst c6
   have H1 : (some 0) = some r := by rw [if_neg (show ¬ (false = true) by decide)] at H; exact H
   clear H
   have H := H1
   clear H1
   obtain rfl := Option.some.inj H
   go_enter Try.func78, Try.ntmps78
   go_wp2_with (first | ((with_reducible refine gate_callee (f := 70) rfl ?_); refine goesL_ (some 6) rfl rfl Try.func70 (by kernel_rfl) rfl #[.int .i64 a0] rfl (by (try simp only [List.map_toArray, List.map_cons, List.map_nil]); first | done | rfl | (simp only [List.length_drop, List.length_take]; rfl)) ?_; (with_reducible refine (impl_IsNumber.calls a0 true _ A3.out).mono ?_); rintro e w' ⟨rfl, ⟨nd, rfl⟩⟩; refine ⟨_, rfl, ?_⟩) | (go_at_call 70; (with_reducible refine (impl_IsNumber.calls a1 false _ A5.out).mono ?_); rintro e w' ⟨rfl, ⟨nd, rfl⟩⟩))
   go_ret
   exact ⟨by first | rfl | (simp; done) | (simp [*]; done), by repeat (first | exact Drawn0.refl _ | apply Drawn0.step)⟩
 ·
  replace c4 := Bool.eq_false_iff.mpr c4
  subst c4
  have H1 : (some 0) = some r := by rw [if_neg (show ¬ (false = true) by decide)] at H; exact H
  clear H
  have H := H1
  clear H1
  obtain rfl := Option.some.inj H
  go_enter Try.func78, Try.ntmps78
  go_wp2_with (first | ((with_reducible refine gate_callee (f := 70) rfl ?_); refine goesL_ (some 6) rfl rfl Try.func70 (by kernel_rfl) rfl #[.int .i64 a0] rfl (by (try simp only [List.map_toArray, List.map_cons, List.map_nil]); first | done | rfl | (simp only [List.length_drop, List.length_take]; rfl)) ?_; (with_reducible refine (impl_IsNumber.calls a0 false _ A3.out).mono ?_); rintro e w' ⟨rfl, ⟨nd, rfl⟩⟩; refine ⟨_, rfl, ?_⟩))
  go_ret
  exact ⟨by first | rfl | (simp; done) | (simp [*]; done), by repeat (first | exact Drawn0.refl _ | apply Drawn0.step)⟩

/-! ### impl_IsRatio: function 45 -/
def impl_IsRatio.f (k : Nat) (a0_0 : Int) (a0_1 : Int) : Option (Bool) := if a0_1 ≥ 1 then (if a0_1 ≤ 400000000 then ((impl_IsNumber.f a0_0).bind fun qd => (if qd = true then ((impl_GcdOf.f k a0_0 a0_1).bind fun qc => (some (qc == 1))) else (some false))) else (some false)) else (some false)
theorem impl_IsRatio.mono : ∀ a0 a1 k, LeO (impl_IsRatio.f k a0 a1) (impl_IsRatio.f (k + 1) a0 a1) := by
 intro a0 a1 k
 unfold impl_IsRatio.f
 repeat' first
   | (with_reducible exact impl_GcdOf.mono _ _ _)
   | (with_reducible exact LeO.refl _)
   | (with_reducible exact LeO.none _)
   | (with_reducible refine LeO.ite ?_ ?_)
   | (with_reducible refine LeO.bind ?_ (fun _ => ?_))
   | exact impl_GcdOf.mono _ _ _
   | exact LeO.none _
   | refine LeO.ite ?_ ?_
   | refine LeO.bind ?_ (fun _ => ?_)
set_option maxHeartbeats 8000000 in
set_option maxRecDepth 100000 in
theorem impl_IsRatio.calls (k : Nat) (a0_0 : Int) (a0_1 : Int) (r : Bool) (w : World) (h : impl_IsRatio.f k a0_0 a0_1 = some r) :
  Calls Try.prog 45 #[.agg #[.int .i64 a0_0, .int .i64 a0_1]] w fun e w' => e = .returned (.bool r) ∧ Below w.heap.size w w' := by
 have hu37 := Try.underlying37
 have HB := Aside0.mk (Below.refl w.heap.size w)
 have H : (if a0_1 ≥ 1 then (if a0_1 ≤ 400000000 then ((impl_IsNumber.f a0_0).bind fun qd => (if qd = true then ((impl_GcdOf.f k a0_0 a0_1).bind fun qc => (some (qc == 1))) else (some false))) else (some false)) else (some false)) = some r := h
 clear h
 by_cases c2 : a0_1 ≥ 1
 ·
  rw [if_pos c2] at H
  have qs : decide (1 ≤ a0_1) = true := decide_eq_true c2
  clear c2
  by_cases c3 : a0_1 ≤ 400000000
  ·
   rw [if_pos c3] at H
   have qt : decide (a0_1 ≤ 400000000) = true := decide_eq_true c3
   clear c3
   replace H := Option.bind_eq_some_iff.mp H
   obtain ⟨qd, A40, H⟩ := H
   replace H : (if qd = true then ((impl_GcdOf.f k a0_0 a0_1).bind fun qc => (some (qc == 1))) else (some false)) = some r := H
   have A4 := Aside0.mk A40
   clear A40
   by_cases c5 : qd = true
   ·
    subst c5
    have H1 : ((impl_GcdOf.f k a0_0 a0_1).bind fun qc => (some (qc == 1))) = some r := by rw [if_pos rfl] at H; exact H
    clear H
    have H := H1
    clear H1
    replace H := Option.bind_eq_some_iff.mp H
    obtain ⟨qc, A60, H⟩ := H
    replace H : (some (qc == 1)) = some r := H
    have A6 := Aside0.mk A60
    clear A60
    obtain rfl := Option.some.inj H
    go_enter Try.func45, Try.ntmps45
    go_wp2_with (first | ((with_reducible refine gate_dst (N := 1) rfl ?_); refine box_event ?hg (N := 1) ?hd (cs := #[.int .i64 a0_0, .int .i64 a0_1]) (t := 37) ?hr ?_; (case hd => rfl); (case hg => rfl); (case hr => first | (go_simp; done) | (go_simp; rfl)); intro qa hg w7 hbox hb; have qb := Aside0.mk (hbox); have qe := Aside0.mk ((by rw [hg]; exact (bz_ HB) : w.heap.size ≤ qa)); have qf := Aside0.mk ((by rw [hg]; exact (bz_ HB) : w.heap.size ≤ qa)); replace HB := bS_ HB hb; clear hb hbox hg; have qu : w7.cell? ⟨qa, 0, none⟩ = some (.int .i64 a0_0) := bc_ qb 0; have qv : w7.cell? ⟨qa, 1, none⟩ = some (.int .i64 a0_1) := bc_ qb 1; have qw := blk_frozen qb.out 0; have qx := blk_frozen qb.out 1) | (go_at_call 70; (with_reducible refine (impl_IsNumber.calls a0_0 true _ A4.out).mono ?_); rintro e w' ⟨rfl, ⟨nd, rfl⟩⟩) | (go_at_call 78; (with_reducible refine (impl_GcdOf.calls k a0_0 a0_1 qc _ A6.out).mono ?_); rintro e w' ⟨rfl, ⟨nd, rfl⟩⟩))
    go_ret
    exact ⟨by first | rfl | (simp [errW_none, errW_some] <;> rfl) | (simp [*, errW_none, errW_some] <;> rfl), bb_ HB⟩
   ·
    replace c5 := Bool.eq_false_iff.mpr c5
    subst c5
    have H1 : (some false) = some r := by rw [if_neg (show ¬ (false = true) by decide)] at H; exact H
    clear H
    have H := H1
    clear H1
    obtain rfl := Option.some.inj H
    go_enter Try.func45, Try.ntmps45
    go_wp2_with (first | ((with_reducible refine gate_dst (N := 1) rfl ?_); refine box_event ?hg (N := 1) ?hd (cs := #[.int .i64 a0_0, .int .i64 a0_1]) (t := 37) ?hr ?_; (case hd => rfl); (case hg => rfl); (case hr => first | (go_simp; done) | (go_simp; rfl)); intro qa hg w9 hbox hb; have qb := Aside0.mk (hbox); have qe := Aside0.mk ((by rw [hg]; exact (bz_ HB) : w.heap.size ≤ qa)); have qf := Aside0.mk ((by rw [hg]; exact (bz_ HB) : w.heap.size ≤ qa)); replace HB := bS_ HB hb; clear hb hbox hg; have qg : w9.cell? ⟨qa, 0, none⟩ = some (.int .i64 a0_0) := bc_ qb 0; have qh : w9.cell? ⟨qa, 1, none⟩ = some (.int .i64 a0_1) := bc_ qb 1; have qi := blk_frozen qb.out 0; have qj := blk_frozen qb.out 1) | (go_at_call 70; (with_reducible refine (impl_IsNumber.calls a0_0 false _ A4.out).mono ?_); rintro e w' ⟨rfl, ⟨nd, rfl⟩⟩))
    go_ret
    exact ⟨by first | rfl | (simp [errW_none, errW_some] <;> rfl) | (simp [*, errW_none, errW_some] <;> rfl), bb_ HB⟩
  ·
   rw [if_neg c3] at H
   have qt : decide (a0_1 ≤ 400000000) = false := decide_eq_false c3
   clear c3
   obtain rfl := Option.some.inj H
   go_enter Try.func45, Try.ntmps45
   go_wp2_with (first | ((with_reducible refine gate_dst (N := 1) rfl ?_); refine box_event ?hg (N := 1) ?hd (cs := #[.int .i64 a0_0, .int .i64 a0_1]) (t := 37) ?hr ?_; (case hd => rfl); (case hg => rfl); (case hr => first | (go_simp; done) | (go_simp; rfl)); intro qa hg qy hbox hb; have qb := Aside0.mk (hbox); have qe := Aside0.mk ((by rw [hg]; exact (bz_ HB) : w.heap.size ≤ qa)); have qf := Aside0.mk ((by rw [hg]; exact (bz_ HB) : w.heap.size ≤ qa)); replace HB := bS_ HB hb; clear hb hbox hg; have qk : qy.cell? ⟨qa, 0, none⟩ = some (.int .i64 a0_0) := bc_ qb 0; have ql : qy.cell? ⟨qa, 1, none⟩ = some (.int .i64 a0_1) := bc_ qb 1; have qm := blk_frozen qb.out 0; have qn := blk_frozen qb.out 1))
   go_ret
   exact ⟨by first | rfl | (simp [errW_none, errW_some] <;> rfl) | (simp [*, errW_none, errW_some] <;> rfl), bb_ HB⟩
 ·
  rw [if_neg c2] at H
  have qs : decide (1 ≤ a0_1) = false := decide_eq_false c2
  clear c2
  obtain rfl := Option.some.inj H
  go_enter Try.func45, Try.ntmps45
  go_wp2_with (first | ((with_reducible refine gate_dst (N := 1) rfl ?_); refine box_event ?hg (N := 1) ?hd (cs := #[.int .i64 a0_0, .int .i64 a0_1]) (t := 37) ?hr ?_; (case hd => rfl); (case hg => rfl); (case hr => first | (go_simp; done) | (go_simp; rfl)); intro qa hg qz hbox hb; have qb := Aside0.mk (hbox); have qe := Aside0.mk ((by rw [hg]; exact (bz_ HB) : w.heap.size ≤ qa)); have qf := Aside0.mk ((by rw [hg]; exact (bz_ HB) : w.heap.size ≤ qa)); replace HB := bS_ HB hb; clear hb hbox hg; have qo : qz.cell? ⟨qa, 0, none⟩ = some (.int .i64 a0_0) := bc_ qb 0; have qp : qz.cell? ⟨qa, 1, none⟩ = some (.int .i64 a0_1) := bc_ qb 1; have qq := blk_frozen qb.out 0; have qr := blk_frozen qb.out 1))
  go_ret
  exact ⟨by first | rfl | (simp [errW_none, errW_some] <;> rfl) | (simp [*, errW_none, errW_some] <;> rfl), bb_ HB⟩

/-! ### impl_IsPoint: function 59 -/
def impl_IsPoint.l0 : Nat → List (S37) → Int → Int → Option (Bool)
 | 0, _, _, _ => none
 | k + 1, x11, x12, x13 => if x13 < x12 then (if 0 ≤ x13 then (if x13 < (x11.length : Int) then ((impl_IsRatio.f k ((rd_T37 x11 x13).f0) ((rd_T37 x11 x13).f1)).bind fun qf => (if qf = true then (impl_IsPoint.l0 k x11 x12 (wrap64 (x13 + 1))) else (some false))) else (none)) else (none)) else (some true)
def impl_IsPoint.f (k : Nat) (l0 : List (S37)) (a1 : Int) : Option (Bool) := if (l0.length : Int) = a1 then (impl_IsPoint.l0 k l0 (l0.length : Int) 0) else (some false)
theorem impl_IsPoint.mono_l : ∀ k, (∀ y0 y1 y2, LeO (impl_IsPoint.l0 k y0 y1 y2) (impl_IsPoint.l0 (k + 1) y0 y1 y2))
 | 0 => fun _ _ _ r h => by simp [impl_IsPoint.l0] at h
 | k + 1 => by
  have ih0 := impl_IsPoint.mono_l k
  ·
   intro y0 y1 y2
   unfold impl_IsPoint.l0
   repeat' first
   | (with_reducible exact ih0 _ _ _)
   | (with_reducible exact impl_IsRatio.mono _ _ _)
   | (with_reducible exact LeO.refl _)
   | (with_reducible exact LeO.none _)
   | (with_reducible refine LeO.ite ?_ ?_)
   | (with_reducible refine LeO.bind ?_ (fun _ => ?_))
   | exact ih0 _ _ _
   | exact impl_IsRatio.mono _ _ _
   | exact LeO.none _
   | refine LeO.ite ?_ ?_
   | refine LeO.bind ?_ (fun _ => ?_)
theorem impl_IsPoint.mono : ∀ a0 a1 k, LeO (impl_IsPoint.f k a0 a1) (impl_IsPoint.f (k + 1) a0 a1) := by
 intro a0 a1 k
 have ih0 := impl_IsPoint.mono_l k
 unfold impl_IsPoint.f
 repeat' first
   | (with_reducible exact ih0 _ _ _)
   | (with_reducible exact impl_IsRatio.mono _ _ _)
   | (with_reducible exact LeO.refl _)
   | (with_reducible exact LeO.none _)
   | (with_reducible refine LeO.ite ?_ ?_)
   | (with_reducible refine LeO.bind ?_ (fun _ => ?_))
   | exact ih0 _ _ _
   | exact impl_IsRatio.mono _ _ _
   | exact LeO.none _
   | refine LeO.ite ?_ ?_
   | refine LeO.bind ?_ (fun _ => ?_)
set_option maxHeartbeats 8000000 in
set_option maxRecDepth 100000 in
theorem impl_IsPoint.calls (k : Nat) (A0 : Option Addr) (c0 : Nat) (l0 : List (S37)) (a1 : Int) (r : Bool) (w : World) (hr0 : Kd.C k37 w A0 l0.length l0) (hc0 : l0.length ≤ c0) (h : impl_IsPoint.f k l0 a1 = some r) :
  Calls Try.prog 59 #[.slice A0 l0.length c0, .int .i64 a1] w fun e w' => e = .returned (.bool r) ∧ Below w.heap.size w w' := by
 have hu37 := Try.underlying37
 have HR0 := Aside0.mk hr0
 have HC0 := Aside0.mk hc0
 clear hr0 hc0
 have HB := Aside0.mk (Below.refl w.heap.size w)
 have H : (if (l0.length : Int) = a1 then (impl_IsPoint.l0 k l0 (l0.length : Int) 0) else (some false)) = some r := h
 clear h
 by_cases c3 : (l0.length : Int) = a1
 ·
  rw [if_pos c3] at H
  have qg : ((l0.length : Int) == a1) = true := beq_iff_eq.mpr c3
  have qh : ((l0.length : Int) != a1) = false := bne_eq_false_iff_eq.mpr c3
  clear c3
  have H' := Aside0.mk H
  clear H
  go_enter Try.func59, Try.ntmps59
  go_wp2
  go_loopg [13] k (fun kq v13 w' => ∃ (qa : Int), v13 = .int .i64 qa ∧ Aside0 (impl_IsPoint.l0 kq l0 (l0.length : Int) qa = some r) ∧ Aside0 (kq ≤ k) ∧ Aside0 (Below w.heap.size w w'))
  case atStart => exact ⟨(0), (by first | rfl | (simp; done) | (simp [*]; done)), H', ⟨Nat.le_refl _⟩, ⟨bb_ HB⟩⟩
  case round =>
   clear H'
   try clear p2
   try clear c3
   try clear qg
   try clear qh
   obtain ⟨qa, rfl, HA, HK1, HB⟩ := hrel
   cases gk with
   | zero => exact absurd HA.out (by simp [impl_IsPoint.l0])
   | succ k1 =>
    have H := HA.out
    clear HA
    simp only [impl_IsPoint.l0] at H
    by_cases c4 : qa < (l0.length : Int)
    ·
     rw [if_pos c4] at H
     have qt : decide (qa < (l0.length : Int)) = true := decide_eq_true c4
     clear c4
     by_cases c5 : 0 ≤ qa
     ·
      rw [if_pos c5] at H
      have qv : decide (0 ≤ qa) = true := decide_eq_true c5
      clear c5
      by_cases c6 : qa < (l0.length : Int)
      ·
       rw [if_pos c6] at H
       have qw : decide (qa < (l0.length : Int)) = true := decide_eq_true c6
       clear c6
       replace H := Option.bind_eq_some_iff.mp H
       obtain ⟨qf, A70, H⟩ := H
       replace H : (if qf = true then (impl_IsPoint.l0 k1 l0 (l0.length : Int) (wrap64 (qa + 1))) else (some false)) = some r := H
       have A7 := Aside0.mk A70
       clear A70
       by_cases c8 : qf = true
       ·
        subst c8
        have H1 : (impl_IsPoint.l0 k1 l0 (l0.length : Int) (wrap64 (qa + 1))) = some r := by rw [if_pos rfl] at H; exact H
        clear H
        have H := H1
        clear H1
        have H' := Aside0.mk H
        clear H
        have p387 : 0 ≤ (qa : Int) := of_decide_eq_true (by first | (with_reducible assumption) | assumption)
        have q387 : qa < (l0.length : Int) := of_decide_eq_true (by first | (with_reducible assumption) | assumption)
        obtain ⟨qi, e387, qc, qd⟩ := at_T37 HR0.out qa p387 q387
        cases e387
        replace qc := (HB.out.cell (World.block_lt_of_cell? w _ qc)).trans qc
        replace qd := (HB.out.cell (World.block_lt_of_cell? w _ qd)).trans qd
        replace p387 := eq_true p387
        replace q387 := eq_true q387
        go_wp2_with (first | ((with_reducible refine gate_dst (N := 6) rfl ?_); refine box_event ?hg (N := 6) ?hd (cs := #[.int .i64 0, .int .i64 0]) (t := 37) ?hr ?_; (case hd => rfl); (case hg => rfl); (case hr => first | (go_simp; done) | (go_simp; rfl)); intro qe hg w9 hbox hb; have qb := Aside0.mk (hbox); have qj := Aside0.mk ((by rw [hg]; exact (bz_ HB) : w.heap.size ≤ qe)); have qk := Aside0.mk ((by rw [hg]; exact (bz_ HB) : w.heap.size ≤ qe)); replace HB := bS_ HB hb; clear hb hbox hg; have ql : w9.cell? ⟨qe, 0, none⟩ = some (.int .i64 0) := bc_ qb 0; have qm : w9.cell? ⟨qe, 1, none⟩ = some (.int .i64 0) := bc_ qb 1; have qn := blk_frozen qb.out 0; have qo := blk_frozen qb.out 1) | ((with_reducible refine gate_callee (f := 45) rfl ?_); refine goesL_ (some 18) rfl rfl Try.func45 (by kernel_rfl) rfl #[.agg #[.int .i64 ((rd_T37 l0 qa).f0), .int .i64 ((rd_T37 l0 qa).f1)]] rfl (by (try simp only [List.map_toArray, List.map_cons, List.map_nil]); first | done | rfl | (simp only [List.length_drop, List.length_take]; rfl)) ?_; (with_reducible refine (impl_IsRatio.calls k1 ((rd_T37 l0 qa).f0) ((rd_T37 l0 qa).f1) true _ A7.out).mono ?_); rintro e qx ⟨rfl, hb⟩; refine ⟨_, rfl, ?_⟩; replace qb := Aside0.mk (blk_below (g := qe) (o := .cells #[.int .i64 ((rd_T37 l0 qa).f0), .int .i64 ((rd_T37 l0 qa).f1)] 37 (0, 0)) (by (with_reducible repeat (first | refine blk_drewN ?_ _ | refine blk_drew ?_ | refine blk_alloc ?_ _)); refine blk_put (cs := #[.int .i64 ((rd_T37 l0 qa).f0), .int .i64 0]) ?_ 1 _ rfl; (with_reducible repeat (first | refine blk_drewN ?_ _ | refine blk_drew ?_ | refine blk_alloc ?_ _)); refine blk_put (cs := #[.int .i64 0, .int .i64 0]) ?_ 0 _ rfl; (with_reducible repeat (first | refine blk_drewN ?_ _ | refine blk_drew ?_ | refine blk_alloc ?_ _)); exact qb.out) hb); replace HB := bS_ HB hb; (try clear hb); (try clear hb2); (try clear hk); (try clear hi)))
        go_roundg k1
        case measure => have := HK1.out; omega
        case rel => exact ⟨(wrap64 (qa + 1)), (by first | rfl | (simp; done) | (simp [*]; done)), H', ⟨by have := HK1.out; omega⟩, ⟨bb_ HB⟩⟩
       ·
        replace c8 := Bool.eq_false_iff.mpr c8
        subst c8
        have H1 : (some false) = some r := by rw [if_neg (show ¬ (false = true) by decide)] at H; exact H
        clear H
        have H := H1
        clear H1
        obtain rfl := Option.some.inj H
        have p387 : 0 ≤ (qa : Int) := of_decide_eq_true (by first | (with_reducible assumption) | assumption)
        have q387 : qa < (l0.length : Int) := of_decide_eq_true (by first | (with_reducible assumption) | assumption)
        obtain ⟨qi, e387, qc, qd⟩ := at_T37 HR0.out qa p387 q387
        cases e387
        replace qc := (HB.out.cell (World.block_lt_of_cell? w _ qc)).trans qc
        replace qd := (HB.out.cell (World.block_lt_of_cell? w _ qd)).trans qd
        replace p387 := eq_true p387
        replace q387 := eq_true q387
        go_wp2_with (first | ((with_reducible refine gate_dst (N := 6) rfl ?_); refine box_event ?hg (N := 6) ?hd (cs := #[.int .i64 0, .int .i64 0]) (t := 37) ?hr ?_; (case hd => rfl); (case hg => rfl); (case hr => first | (go_simp; done) | (go_simp; rfl)); intro qe hg qu hbox hb; have qb := Aside0.mk (hbox); have qj := Aside0.mk ((by rw [hg]; exact (bz_ HB) : w.heap.size ≤ qe)); have qk := Aside0.mk ((by rw [hg]; exact (bz_ HB) : w.heap.size ≤ qe)); replace HB := bS_ HB hb; clear hb hbox hg; have qp : qu.cell? ⟨qe, 0, none⟩ = some (.int .i64 0) := bc_ qb 0; have qq : qu.cell? ⟨qe, 1, none⟩ = some (.int .i64 0) := bc_ qb 1; have qr := blk_frozen qb.out 0; have qs := blk_frozen qb.out 1) | ((with_reducible refine gate_callee (f := 45) rfl ?_); refine goesL_ (some 18) rfl rfl Try.func45 (by kernel_rfl) rfl #[.agg #[.int .i64 ((rd_T37 l0 qa).f0), .int .i64 ((rd_T37 l0 qa).f1)]] rfl (by (try simp only [List.map_toArray, List.map_cons, List.map_nil]); first | done | rfl | (simp only [List.length_drop, List.length_take]; rfl)) ?_; (with_reducible refine (impl_IsRatio.calls k1 ((rd_T37 l0 qa).f0) ((rd_T37 l0 qa).f1) false _ A7.out).mono ?_); rintro e qy ⟨rfl, hb⟩; refine ⟨_, rfl, ?_⟩; replace qb := Aside0.mk (blk_below (g := qe) (o := .cells #[.int .i64 ((rd_T37 l0 qa).f0), .int .i64 ((rd_T37 l0 qa).f1)] 37 (0, 0)) (by (with_reducible repeat (first | refine blk_drewN ?_ _ | refine blk_drew ?_ | refine blk_alloc ?_ _)); refine blk_put (cs := #[.int .i64 ((rd_T37 l0 qa).f0), .int .i64 0]) ?_ 1 _ rfl; (with_reducible repeat (first | refine blk_drewN ?_ _ | refine blk_drew ?_ | refine blk_alloc ?_ _)); refine blk_put (cs := #[.int .i64 0, .int .i64 0]) ?_ 0 _ rfl; (with_reducible repeat (first | refine blk_drewN ?_ _ | refine blk_drew ?_ | refine blk_alloc ?_ _)); exact qb.out) hb); replace HB := bS_ HB hb; (try clear hb); (try clear hb2); (try clear hk); (try clear hi)))
        go_ret
        exact ⟨by first | rfl | (simp [errW_none, errW_some] <;> rfl) | (simp [*, errW_none, errW_some] <;> rfl), bb_ HB⟩
      ·
       rw [if_neg c6] at H
       exact absurd H (by simp)
     ·
      rw [if_neg c5] at H
      exact absurd H (by simp)
    ·
     rw [if_neg c4] at H
     have qt : decide (qa < (l0.length : Int)) = false := decide_eq_false c4
     clear c4
     obtain rfl := Option.some.inj H
     go_wp2
     go_ret
     exact ⟨by first | rfl | (simp [errW_none, errW_some] <;> rfl) | (simp [*, errW_none, errW_some] <;> rfl), bb_ HB⟩
 ·
  rw [if_neg c3] at H
  have qg : ((l0.length : Int) == a1) = false := beq_eq_false_iff_ne.mpr c3
  have qh : ((l0.length : Int) != a1) = true := bne_iff_ne.mpr c3
  obtain rfl := Option.some.inj H
  go_enter Try.func59, Try.ntmps59
  go_wp2
  go_ret
  exact ⟨by first | rfl | (simp [errW_none, errW_some] <;> rfl) | (simp [*, errW_none, errW_some] <;> rfl), bb_ HB⟩

/-! ### impl_reducedRatio: function 88 -/
def impl_reducedRatio.j0 : Nat → Int → Int → Option (Int × Int)
 | 0, _, _ => none
 | k + 1, x0, x1 => (impl_commonDivisor.f k x0 x1).bind fun qb => (if qb = 0 then (none) else ((impl_IsRatio.f k (wrap64 (Int.tdiv x0 qb)) (wrap64 (Int.tdiv x1 qb))).bind fun qj => (if qj = true then (some (wrap64 (Int.tdiv x0 qb), wrap64 (Int.tdiv x1 qb))) else (some (0, 0)))))
def impl_reducedRatio.f (k : Nat) (a0 : Int) (a1 : Int) : Option (Int × Int) := if a1 = 0 then (some (0, 0)) else (if a1 < 0 then (impl_reducedRatio.j0 k (wrap64 (-a0)) (wrap64 (-a1))) else (impl_reducedRatio.j0 k a0 a1))
theorem impl_reducedRatio.mono_l : ∀ k, (∀ y0 y1, LeO (impl_reducedRatio.j0 k y0 y1) (impl_reducedRatio.j0 (k + 1) y0 y1))
 | 0 => fun _ _ r h => by simp [impl_reducedRatio.j0] at h
 | k + 1 => by
  have ih0 := impl_reducedRatio.mono_l k
  ·
   intro y0 y1
   unfold impl_reducedRatio.j0
   repeat' first
   | (with_reducible exact ih0 _ _)
   | (with_reducible exact impl_IsRatio.mono _ _ _)
   | (with_reducible exact impl_commonDivisor.mono _ _ _)
   | (with_reducible exact LeO.refl _)
   | (with_reducible exact LeO.none _)
   | (with_reducible refine LeO.ite ?_ ?_)
   | (with_reducible refine LeO.bind ?_ (fun _ => ?_))
   | exact ih0 _ _
   | exact impl_IsRatio.mono _ _ _
   | exact impl_commonDivisor.mono _ _ _
   | exact LeO.none _
   | refine LeO.ite ?_ ?_
   | refine LeO.bind ?_ (fun _ => ?_)
theorem impl_reducedRatio.mono : ∀ a0 a1 k, LeO (impl_reducedRatio.f k a0 a1) (impl_reducedRatio.f (k + 1) a0 a1) := by
 intro a0 a1 k
 have ih0 := impl_reducedRatio.mono_l k
 unfold impl_reducedRatio.f
 repeat' first
   | (with_reducible exact ih0 _ _)
   | (with_reducible exact impl_IsRatio.mono _ _ _)
   | (with_reducible exact impl_commonDivisor.mono _ _ _)
   | (with_reducible exact LeO.refl _)
   | (with_reducible exact LeO.none _)
   | (with_reducible refine LeO.ite ?_ ?_)
   | (with_reducible refine LeO.bind ?_ (fun _ => ?_))
   | exact ih0 _ _
   | exact impl_IsRatio.mono _ _ _
   | exact impl_commonDivisor.mono _ _ _
   | exact LeO.none _
   | refine LeO.ite ?_ ?_
   | refine LeO.bind ?_ (fun _ => ?_)
def impl_reducedRatio.T6 : Bool × List (List Nat × List Nat) := (true, [([], []), ([], []), ([0, 1], [0, 1]), ([], []), ([], []), ([3, 4], [3, 4]), ([2, 5], [2, 5]), ([], []), ([7, 6, 0, 1, 2, 3, 4, 5, 6, 7], [6, 7])])
def impl_reducedRatio.B6 : List Nat := [0, 0, 3, 0, 0, 24, 63, 0, 255]
theorem impl_reducedRatio.tab6 : rtab .any (opsOf Try.f88 6) = impl_reducedRatio.T6 := by kernel_rfl
theorem impl_reducedRatio.bits6 : waitsOk impl_reducedRatio.T6.2 impl_reducedRatio.B6 = true := by kernel_rfl
set_option maxHeartbeats 8000000 in
set_option maxRecDepth 100000 in
theorem impl_reducedRatio.calls (k : Nat) (a0 : Int) (a1 : Int) (r1 : Int) (r2 : Int) (w : World) (h : impl_reducedRatio.f k a0 a1 = some (r1, r2)) :
  Calls Try.prog 88 #[.int .i64 a0, .int .i64 a1] w fun e w' => e = .returned (.agg #[.int .i64 r1, .int .i64 r2]) ∧ Below w.heap.size w w' := by
 have hu37 := Try.underlying37
 have HB := Aside0.mk (Below.refl w.heap.size w)
 have H : (if a1 = 0 then (some (0, 0)) else (if a1 < 0 then (impl_reducedRatio.j0 k (wrap64 (-a0)) (wrap64 (-a1))) else (impl_reducedRatio.j0 k a0 a1))) = some (r1, r2) := h
 clear h
 by_cases c3 : a1 = 0
 ·
  rw [if_pos c3] at H
  have qp : (a1 == 0) = true := beq_iff_eq.mpr c3
  have qq : (a1 != 0) = false := bne_eq_false_iff_eq.mpr c3
  clear c3
  simp only [Option.some.injEq, Prod.mk.injEq] at H
  obtain ⟨rfl, rfl⟩ := H
  go_enter Try.func88, Try.ntmps88
  go_wp2_with (first | ((with_reducible refine gate_dst (N := 4) rfl ?_); refine box_event ?hg (N := 4) ?hd (cs := #[.int .i64 0, .int .i64 0]) (t := 37) ?hr ?_; (case hd => rfl); (case hg => rfl); (case hr => first | (go_simp; done) | (go_simp; rfl)); intro qd hg w4 hbox hb; have qa := Aside0.mk (hbox); have qr := Aside0.mk ((by rw [hg]; exact (bz_ HB) : w.heap.size ≤ qd)); have qs := Aside0.mk ((by rw [hg]; exact (bz_ HB) : w.heap.size ≤ qd)); replace HB := bS_ HB hb; clear hb hbox hg; have ql : w4.cell? ⟨qd, 0, none⟩ = some (.int .i64 0) := bc_ qa 0; have qm : w4.cell? ⟨qd, 1, none⟩ = some (.int .i64 0) := bc_ qa 1; have qn := blk_frozen qa.out 0; have qo := blk_frozen qa.out 1))
  refine bodyPost_ret (results_cell_row rfl _ _ qd 37 #[.int .i64 0, .int .i64 0] (0, 0) _ rfl (by (with_reducible repeat (first | refine blk_drewN ?_ _ | refine blk_drew ?_ | refine blk_alloc ?_ _)); refine blk_put (cs := #[.int .i64 0, .int .i64 0]) ?_ 1 _ rfl; (with_reducible repeat (first | refine blk_drewN ?_ _ | refine blk_drew ?_ | refine blk_alloc ?_ _)); refine blk_put (cs := #[.int .i64 0, .int .i64 0]) ?_ 0 _ rfl; (with_reducible repeat (first | refine blk_drewN ?_ _ | refine blk_drew ?_ | refine blk_alloc ?_ _)); exact qa.out) Try.underlying37 rfl (by kernel_rfl)) rfl ?_
  exact ⟨by first | rfl | (simp [errW_none, errW_some] <;> rfl) | (simp [*, errW_none, errW_some] <;> rfl), bb_ HB⟩
 ·
  rw [if_neg c3] at H
  have qp : (a1 == 0) = false := beq_eq_false_iff_ne.mpr c3
  have qq : (a1 != 0) = true := bne_iff_ne.mpr c3
  have HC6 := Aside0.mk H
  clear H
  go_enter Try.func88, Try.ntmps88
  go_upto_if 11 with (first | ((with_reducible refine gate_dst (N := 4) rfl ?_); refine box_event ?hg (N := 4) ?hd (cs := #[.int .i64 0, .int .i64 0]) (t := 37) ?hr ?_; (case hd => rfl); (case hg => rfl); (case hr => first | (go_simp; done) | (go_simp; rfl)); intro qd hg w7 hbox hb; have qa := Aside0.mk (hbox); have qr := Aside0.mk ((by rw [hg]; exact (bz_ HB) : w.heap.size ≤ qd)); have qs := Aside0.mk ((by rw [hg]; exact (bz_ HB) : w.heap.size ≤ qd)); replace HB := bS_ HB hb; clear hb hbox hg))
  (try simp only [Act.put, List.setIfInBounds_toArray, List.set_cons_zero, List.set_cons_succ])
  go_cut [0, 1] (fun v0 v1 wc => ∃ (kq : Nat) (qh : Int) (qi : Int), v0 = .int .i64 qh ∧ v1 = .int .i64 qi ∧ Aside0 (impl_reducedRatio.j0 kq qh qi = some (r1, r2)) ∧ Aside0 (kq ≤ k) ∧ Aside0 (wc.heap[qd]? = some (.cells #[.int .i64 0, .int .i64 0] 37 (0, 0))) ∧ Aside0 (Below w.heap.size w wc))
  case first =>
   have H := HC6.out
   clear HC6
   by_cases c8 : a1 < 0
   ·
    rw [if_pos c8] at H
    have qk : decide (a1 < 0) = true := decide_eq_true c8
    clear c8
    (first | rw [qk] | (simp only [i64_w, i32_w]; rw [qk]) | skip)
    have H' := Aside0.mk H
    clear H
    go_wp2
    go_meet
    case rel => exact ⟨_, (wrap64 (-a0)), (wrap64 (-a1)), (by first | rfl | (simp; done) | (simp [*]; done)), (by first | rfl | (simp; done) | (simp [*]; done)), H', ⟨by first | omega | exact Nat.le_refl _⟩, ⟨kf_ qa⟩, ⟨bb_ HB⟩⟩
   ·
    rw [if_neg c8] at H
    have qk : decide (a1 < 0) = false := decide_eq_false c8
    clear c8
    (first | rw [qk] | (simp only [i64_w, i32_w]; rw [qk]) | skip)
    have H' := Aside0.mk H
    clear H
    go_wp2
    go_meet
    case rel => exact ⟨_, (a0), (a1), (by first | rfl | (simp; done) | (simp [*]; done)), (by first | rfl | (simp; done) | (simp [*]; done)), H', ⟨by first | omega | exact Nat.le_refl _⟩, ⟨kf_ qa⟩, ⟨bb_ HB⟩⟩
  case rest =>
   clear HC6
   try clear p2
   try clear c3
   try clear qp
   try clear qq
   try clear p6
   try clear c8
   try clear qk
   try clear ql
   try clear qm
   try clear qn
   try clear qo
   obtain ⟨kq, qh, qi, rfl, rfl, HA, HJ5, qa, HB⟩ := hcut
   cases kq with
   | zero => exact absurd HA.out (by simp [impl_reducedRatio.j0])
   | succ kj5 =>
    have H := HA.out
    clear HA
    simp only [impl_reducedRatio.j0] at H
    replace H := Option.bind_eq_some_iff.mp H
    obtain ⟨qb, A90, H⟩ := H
    replace H : (if qb = 0 then (none) else ((impl_IsRatio.f kj5 (wrap64 (Int.tdiv qh qb)) (wrap64 (Int.tdiv qi qb))).bind fun qj => (if qj = true then (some (wrap64 (Int.tdiv qh qb), wrap64 (Int.tdiv qi qb))) else (some (0, 0))))) = some (r1, r2) := H
    have A9 := Aside0.mk A90
    clear A90
    by_cases c10 : qb = 0
    ·
     rw [if_pos c10] at H
     exact absurd H (by simp)
    ·
     rw [if_neg c10] at H
     have qS : (qb == 0) = false := beq_eq_false_iff_ne.mpr c10
     have qT : (qb != 0) = true := bne_iff_ne.mpr c10
     replace H := Option.bind_eq_some_iff.mp H
     obtain ⟨qj, A110, H⟩ := H
     replace H : (if qj = true then (some (wrap64 (Int.tdiv qh qb), wrap64 (Int.tdiv qi qb))) else (some (0, 0))) = some (r1, r2) := H
     have A11 := Aside0.mk A110
     clear A110
     by_cases c12 : qj = true
     ·
      subst c12
      have H1 : (some (wrap64 (Int.tdiv qh qb), wrap64 (Int.tdiv qi qb))) = some (r1, r2) := by rw [if_pos rfl] at H; exact H
      clear H
      have H := H1
      clear H1
      simp only [Option.some.injEq, Prod.mk.injEq] at H
      obtain ⟨rfl, rfl⟩ := H
      try go_wp2_with (first | ((with_reducible refine gate_callee (f := 71) rfl ?_); refine goesL_ (some 18) rfl rfl Try.func71 (by kernel_rfl) rfl #[.int .i64 qh, .int .i64 qi] rfl (by (try simp only [List.map_toArray, List.map_cons, List.map_nil]); first | done | rfl | (simp only [List.length_drop, List.length_take]; rfl)) ?_; (with_reducible refine (impl_commonDivisor.calls kj5 qh qi qb _ A9.out).mono ?_); rintro e w' ⟨rfl, ⟨nd, rfl⟩⟩; refine ⟨_, rfl, ?_⟩; (try (rw [drewN_self wc]; generalize hq_ : World.drewN wc _ = wc; have n0_ : Aside0 (wc.heap[qd]? = some (.cells #[.int .i64 0, .int .i64 0] 37 (0, 0))) := ⟨by rw [← hq_]; exact (kf_ qa)⟩; have n1_ : Aside0 (Below w.heap.size w wc) := ⟨by rw [← hq_]; exact (bb_ HB)⟩; clear qa HB hq_; have qa := n0_; have HB := n1_; clear n0_ n1_))))
      replace qa := Aside0.mk (blk_drew qa.out); replace HB := Aside0.mk (below_drew1 HB.out)
      refine start_ (n := 9) (S := fun w' => True) (ds := []) #[false, false, false, false, false, false, false, false, false] (by kernel_rfl) rfl rfl trivial (fun hHeld => ?_); refine with_tabW impl_reducedRatio.tab6 impl_reducedRatio.bits6 (fun HT_ HW_ => ?_)
      generalize wc.drew = qZ at qa HB hHeld ⊢
      refine pure_ (i := 0) (N := some 19) (v := ?_) (a' := ?_) #[true, false, false, false, false, false, false, false, false] rfl rfl (any_of HT_.out (by kernel_rfl)) (fun _ _ _ h => h) (Or.inl ⟨by rfl, ?_⟩) ?_ ?_
      rotate_left
      ·
       intro w'
       go_simp
       with_reducible rfl
      rotate_left
      ·
       simp only [Act.put, List.setIfInBounds_toArray, List.set_cons_zero, List.set_cons_succ, i64_w, i32_w]
       rfl
      refine pure_ (i := 1) (N := some 20) (v := ?_) (a' := ?_) #[true, true, false, false, false, false, false, false, false] rfl rfl (any_of HT_.out (by kernel_rfl)) (fun _ _ _ h => h) (Or.inl ⟨by rfl, ?_⟩) ?_ ?_
      rotate_left
      ·
       intro w'
       go_simp
       with_reducible rfl
      rotate_left
      ·
       simp only [Act.put, List.setIfInBounds_toArray, List.set_cons_zero, List.set_cons_succ, i64_w, i32_w]
       rfl
      refine pure_ (i := 2) (N := some 21) (v := ?_) (a' := ?_) #[true, true, true, false, false, false, false, false, false] rfl rfl (any_of HT_.out (by kernel_rfl)) (fun _ _ _ h => h) (Or.inl ⟨by rfl, ?_⟩) ?_ ?_
      rotate_left
      ·
       intro w'
       go_simp
       with_reducible rfl
      rotate_left
      ·
       simp only [Act.put, List.setIfInBounds_toArray, List.set_cons_zero, List.set_cons_succ, i64_w, i32_w]
       rfl
      refine pure_ (i := 3) (N := some 22) (v := ?_) (a' := ?_) #[true, true, true, true, false, false, false, false, false] rfl rfl (any_of HT_.out (by kernel_rfl)) (fun _ _ _ h => h) (Or.inl ⟨by rfl, ?_⟩) ?_ ?_
      rotate_left
      ·
       intro w'
       go_simp
       with_reducible rfl
      rotate_left
      ·
       simp only [Act.put, List.setIfInBounds_toArray, List.set_cons_zero, List.set_cons_succ, i64_w, i32_w]
       rfl
      refine pure_ (i := 4) (N := some 23) (v := ?_) (a' := ?_) #[true, true, true, true, true, false, false, false, false] rfl rfl (any_of HT_.out (by kernel_rfl)) (fun _ _ _ h => h) (Or.inl ⟨by rfl, ?_⟩) ?_ ?_
      rotate_left
      ·
       intro w'
       go_simp
       with_reducible rfl
      rotate_left
      ·
       simp only [Act.put, List.setIfInBounds_toArray, List.set_cons_zero, List.set_cons_succ, i64_w, i32_w]
       rfl
      refine pure_ (i := 5) (N := some 24) (v := ?_) (a' := ?_) #[true, true, true, true, true, true, false, false, false] rfl rfl (any_of HT_.out (by kernel_rfl)) (fun _ _ _ h => h) (Or.inl ⟨by rfl, ?_⟩) ?_ ?_
      rotate_left
      ·
       intro w'
       go_simp
       with_reducible rfl
      rotate_left
      ·
       simp only [Act.put, List.setIfInBounds_toArray, List.set_cons_zero, List.set_cons_succ, i64_w, i32_w]
       rfl
      refine pure_ (i := 6) (N := some 25) (v := ?_) (a' := ?_) #[true, true, true, true, true, true, true, false, false] rfl rfl (any_of HT_.out (by kernel_rfl)) (fun _ _ _ h => h) (Or.inl ⟨by rfl, ?_⟩) ?_ ?_
      rotate_left
      ·
       intro w'
       go_simp
       with_reducible rfl
      rotate_left
      ·
       simp only [Act.put, List.setIfInBounds_toArray, List.set_cons_zero, List.set_cons_succ, i64_w, i32_w]
       rfl
      refine one_ (i := 7) (N := some 6) #[true, true, true, true, true, true, true, true, false] rfl rfl (one_of HT_.out (by kernel_rfl)) (by decide) (fun K hK => ?_)
      refine box_step ?hg (N := 6) ?hd (cs := #[.int .i64 0, .int .i64 0]) (t := 37) ?hr ?_; (case hd => rfl); (case hg => rfl); (case hr => first | (go_simp; done) | (go_simp; rfl))
      intro qe hg qv hbox hb
      have qc := Aside0.mk (hbox); have qt := Aside0.mk ((by rw [hg]; exact (bz_ HB) : w.heap.size ≤ qe)); have qu := Aside0.mk ((by rw [hg]; exact (bz_ HB) : w.heap.size ≤ qe)); replace HB := bS_ HB hb; have qf := Aside0.mk ((nl_ qa hg : qd ≠ qe)); have qg := Aside0.mk ((ng_ qa hg : qe ≠ qd)); replace qa := kB_ qa hb; clear hb hbox hg
      refine hK.out _ _ trivial (fun hHeld => ?_)
      clear hK K
      refine norm_ (a' := ?_) ?_ ?_
      rotate_left
      ·
       show Act.put _ (some 6) _ = _
       simp only [Act.put, List.setIfInBounds_toArray, List.set_cons_zero, List.set_cons_succ, i64_w, i32_w]
       rfl
      refine one_ (i := 8) (N := none) #[true, true, true, true, true, true, true, true, true] rfl rfl (one_of HT_.out (by kernel_rfl)) (by decide) (fun K hK => ?_)
      have hs15 : qv.cell? ⟨qe, 0, none⟩ = some (.int .i64 0) := bc_ qc 0
      have hfs15 := blk_frozen qc.out 0
      have hns15_0 := qf.out
      have hms15_0 := qg.out
      have hs16 : qv.cell? ⟨qe, 1, none⟩ = some (.int .i64 0) := bc_ qc 1
      have hfs16 := blk_frozen qc.out 1
      have hns16_0 := qf.out
      have hms16_0 := qg.out
      refine skip_ (w1 := ?_) (by rfl) rfl ?_ ?_
      rotate_left
      ·
       go_simp
       rfl
      refine hK.out _ _ trivial (fun hHeld => ?_)
      clear hK K
      refine done_ (done_of HT_.out (by kernel_rfl)) ?_
      have qU := qg.out
      have qV := qf.out
      have qw : qv.cell? ⟨qe, 0, none⟩ = some (.int .i64 0) := bc_ qc 0
      have qx : qv.cell? ⟨qe, 1, none⟩ = some (.int .i64 0) := bc_ qc 1
      have qy := blk_frozen qc.out 0
      have qz := blk_frozen qc.out 1
      try go_wp2_with (first | ((with_reducible refine gate_callee (f := 45) rfl ?_); refine goesL_ (some 27) rfl rfl Try.func45 (by kernel_rfl) rfl #[.agg #[.int .i64 (wrap64 (Int.tdiv qh qb)), .int .i64 (wrap64 (Int.tdiv qi qb))]] rfl (by (try simp only [List.map_toArray, List.map_cons, List.map_nil]); first | done | rfl | (simp only [List.length_drop, List.length_take]; rfl)) ?_; (with_reducible refine (impl_IsRatio.calls kj5 (wrap64 (Int.tdiv qh qb)) (wrap64 (Int.tdiv qi qb)) true _ A11.out).mono ?_); rintro e qA ⟨rfl, hb⟩; refine ⟨_, rfl, ?_⟩; replace qa := Aside0.mk (blk_below (g := qd) (o := .cells #[.int .i64 0, .int .i64 0] 37 (0, 0)) (kf_ qa) hb); replace qc := Aside0.mk (blk_below (g := qe) (o := .cells #[.int .i64 (wrap64 (Int.tdiv qh qb)), .int .i64 (wrap64 (Int.tdiv qi qb))] 37 (0, 0)) (by (with_reducible repeat (first | refine blk_drewN ?_ _ | refine blk_drew ?_ | refine blk_alloc ?_ _)); refine blk_put (cs := #[.int .i64 (wrap64 (Int.tdiv qh qb)), .int .i64 0]) ?_ 1 _ rfl; (with_reducible repeat (first | refine blk_drewN ?_ _ | refine blk_drew ?_ | refine blk_alloc ?_ _)); refine blk_put (cs := #[.int .i64 0, .int .i64 0]) ?_ 0 _ rfl; (with_reducible repeat (first | refine blk_drewN ?_ _ | refine blk_drew ?_ | refine blk_alloc ?_ _)); exact qc.out) hb); replace HB := bS_ HB hb; (try clear hb); (try clear hb2); (try clear hk); (try clear hi); have qB : qA.cell? ⟨qe, 0, none⟩ = some (.int .i64 (wrap64 (Int.tdiv qh qb))) := bc_ qc 0; have qC : qA.cell? ⟨qe, 1, none⟩ = some (.int .i64 (wrap64 (Int.tdiv qi qb))) := bc_ qc 1; have qD := blk_frozen qc.out 0; have qE := blk_frozen qc.out 1; have qF : qA.cell? ⟨qd, 0, none⟩ = some (.int .i64 0) := bc_ qa 0; have qG : qA.cell? ⟨qd, 1, none⟩ = some (.int .i64 0) := bc_ qa 1; have qH := blk_frozen qa.out 0; have qI := blk_frozen qa.out 1))
      refine bodyPost_ret (results_cell_row rfl _ _ qd 37 #[.int .i64 (wrap64 (Int.tdiv qh qb)), .int .i64 (wrap64 (Int.tdiv qi qb))] (0, 0) _ rfl (by (with_reducible repeat (first | refine blk_drewN ?_ _ | refine blk_drew ?_ | refine blk_alloc ?_ _)); refine blk_put (cs := #[.int .i64 (wrap64 (Int.tdiv qh qb)), .int .i64 0]) ?_ 1 _ rfl; (with_reducible repeat (first | refine blk_drewN ?_ _ | refine blk_drew ?_ | refine blk_alloc ?_ _)); refine blk_put (cs := #[.int .i64 0, .int .i64 0]) ?_ 0 _ rfl; (with_reducible repeat (first | refine blk_drewN ?_ _ | refine blk_drew ?_ | refine blk_alloc ?_ _)); exact qa.out) Try.underlying37 rfl (by kernel_rfl)) rfl ?_
      exact ⟨by first | rfl | (simp [errW_none, errW_some] <;> rfl) | (simp [*, errW_none, errW_some] <;> rfl), bb_ HB⟩
     ·
      replace c12 := Bool.eq_false_iff.mpr c12
      subst c12
      have H1 : (some (0, 0)) = some (r1, r2) := by rw [if_neg (show ¬ (false = true) by decide)] at H; exact H
      clear H
      have H := H1
      clear H1
      simp only [Option.some.injEq, Prod.mk.injEq] at H
      obtain ⟨rfl, rfl⟩ := H
      try go_wp2_with (first | ((with_reducible refine gate_callee (f := 71) rfl ?_); refine goesL_ (some 18) rfl rfl Try.func71 (by kernel_rfl) rfl #[.int .i64 qh, .int .i64 qi] rfl (by (try simp only [List.map_toArray, List.map_cons, List.map_nil]); first | done | rfl | (simp only [List.length_drop, List.length_take]; rfl)) ?_; (with_reducible refine (impl_commonDivisor.calls kj5 qh qi qb _ A9.out).mono ?_); rintro e w' ⟨rfl, ⟨nd, rfl⟩⟩; refine ⟨_, rfl, ?_⟩; (try (rw [drewN_self wc]; generalize hq_ : World.drewN wc _ = wc; have n0_ : Aside0 (wc.heap[qd]? = some (.cells #[.int .i64 0, .int .i64 0] 37 (0, 0))) := ⟨by rw [← hq_]; exact (kf_ qa)⟩; have n1_ : Aside0 (Below w.heap.size w wc) := ⟨by rw [← hq_]; exact (bb_ HB)⟩; clear qa HB hq_; have qa := n0_; have HB := n1_; clear n0_ n1_))))
      replace qa := Aside0.mk (blk_drew qa.out); replace HB := Aside0.mk (below_drew1 HB.out)
      refine start_ (n := 9) (S := fun w' => True) (ds := []) #[false, false, false, false, false, false, false, false, false] (by kernel_rfl) rfl rfl trivial (fun hHeld => ?_); refine with_tabW impl_reducedRatio.tab6 impl_reducedRatio.bits6 (fun HT_ HW_ => ?_)
      generalize wc.drew = q0 at qa HB hHeld ⊢
      refine pure_ (i := 0) (N := some 19) (v := ?_) (a' := ?_) #[true, false, false, false, false, false, false, false, false] rfl rfl (any_of HT_.out (by kernel_rfl)) (fun _ _ _ h => h) (Or.inl ⟨by rfl, ?_⟩) ?_ ?_
      rotate_left
      ·
       intro w'
       go_simp
       with_reducible rfl
      rotate_left
      ·
       simp only [Act.put, List.setIfInBounds_toArray, List.set_cons_zero, List.set_cons_succ, i64_w, i32_w]
       rfl
      refine pure_ (i := 1) (N := some 20) (v := ?_) (a' := ?_) #[true, true, false, false, false, false, false, false, false] rfl rfl (any_of HT_.out (by kernel_rfl)) (fun _ _ _ h => h) (Or.inl ⟨by rfl, ?_⟩) ?_ ?_
      rotate_left
      ·
       intro w'
       go_simp
       with_reducible rfl
      rotate_left
      ·
       simp only [Act.put, List.setIfInBounds_toArray, List.set_cons_zero, List.set_cons_succ, i64_w, i32_w]
       rfl
      refine pure_ (i := 2) (N := some 21) (v := ?_) (a' := ?_) #[true, true, true, false, false, false, false, false, false] rfl rfl (any_of HT_.out (by kernel_rfl)) (fun _ _ _ h => h) (Or.inl ⟨by rfl, ?_⟩) ?_ ?_
      rotate_left
      ·
       intro w'
       go_simp
       with_reducible rfl
      rotate_left
      ·
       simp only [Act.put, List.setIfInBounds_toArray, List.set_cons_zero, List.set_cons_succ, i64_w, i32_w]
       rfl
      refine pure_ (i := 3) (N := some 22) (v := ?_) (a' := ?_) #[true, true, true, true, false, false, false, false, false] rfl rfl (any_of HT_.out (by kernel_rfl)) (fun _ _ _ h => h) (Or.inl ⟨by rfl, ?_⟩) ?_ ?_
      rotate_left
      ·
       intro w'
       go_simp
       with_reducible rfl
      rotate_left
      ·
       simp only [Act.put, List.setIfInBounds_toArray, List.set_cons_zero, List.set_cons_succ, i64_w, i32_w]
       rfl
      refine pure_ (i := 4) (N := some 23) (v := ?_) (a' := ?_) #[true, true, true, true, true, false, false, false, false] rfl rfl (any_of HT_.out (by kernel_rfl)) (fun _ _ _ h => h) (Or.inl ⟨by rfl, ?_⟩) ?_ ?_
      rotate_left
      ·
       intro w'
       go_simp
       with_reducible rfl
      rotate_left
      ·
       simp only [Act.put, List.setIfInBounds_toArray, List.set_cons_zero, List.set_cons_succ, i64_w, i32_w]
       rfl
      refine pure_ (i := 5) (N := some 24) (v := ?_) (a' := ?_) #[true, true, true, true, true, true, false, false, false] rfl rfl (any_of HT_.out (by kernel_rfl)) (fun _ _ _ h => h) (Or.inl ⟨by rfl, ?_⟩) ?_ ?_
      rotate_left
      ·
       intro w'
       go_simp
       with_reducible rfl
      rotate_left
      ·
       simp only [Act.put, List.setIfInBounds_toArray, List.set_cons_zero, List.set_cons_succ, i64_w, i32_w]
       rfl
      refine pure_ (i := 6) (N := some 25) (v := ?_) (a' := ?_) #[true, true, true, true, true, true, true, false, false] rfl rfl (any_of HT_.out (by kernel_rfl)) (fun _ _ _ h => h) (Or.inl ⟨by rfl, ?_⟩) ?_ ?_
      rotate_left
      ·
       intro w'
       go_simp
       with_reducible rfl
      rotate_left
      ·
       simp only [Act.put, List.setIfInBounds_toArray, List.set_cons_zero, List.set_cons_succ, i64_w, i32_w]
       rfl
      refine one_ (i := 7) (N := some 6) #[true, true, true, true, true, true, true, true, false] rfl rfl (one_of HT_.out (by kernel_rfl)) (by decide) (fun K hK => ?_)
      refine box_step ?hg (N := 6) ?hd (cs := #[.int .i64 0, .int .i64 0]) (t := 37) ?hr ?_; (case hd => rfl); (case hg => rfl); (case hr => first | (go_simp; done) | (go_simp; rfl))
      intro qe hg qJ hbox hb
      have qc := Aside0.mk (hbox); have qt := Aside0.mk ((by rw [hg]; exact (bz_ HB) : w.heap.size ≤ qe)); have qu := Aside0.mk ((by rw [hg]; exact (bz_ HB) : w.heap.size ≤ qe)); replace HB := bS_ HB hb; have qf := Aside0.mk ((nl_ qa hg : qd ≠ qe)); have qg := Aside0.mk ((ng_ qa hg : qe ≠ qd)); replace qa := kB_ qa hb; clear hb hbox hg
      refine hK.out _ _ trivial (fun hHeld => ?_)
      clear hK K
      refine norm_ (a' := ?_) ?_ ?_
      rotate_left
      ·
       show Act.put _ (some 6) _ = _
       simp only [Act.put, List.setIfInBounds_toArray, List.set_cons_zero, List.set_cons_succ, i64_w, i32_w]
       rfl
      refine one_ (i := 8) (N := none) #[true, true, true, true, true, true, true, true, true] rfl rfl (one_of HT_.out (by kernel_rfl)) (by decide) (fun K hK => ?_)
      have hs24 : qJ.cell? ⟨qe, 0, none⟩ = some (.int .i64 0) := bc_ qc 0
      have hfs24 := blk_frozen qc.out 0
      have hns24_0 := qf.out
      have hms24_0 := qg.out
      have hs25 : qJ.cell? ⟨qe, 1, none⟩ = some (.int .i64 0) := bc_ qc 1
      have hfs25 := blk_frozen qc.out 1
      have hns25_0 := qf.out
      have hms25_0 := qg.out
      refine skip_ (w1 := ?_) (by rfl) rfl ?_ ?_
      rotate_left
      ·
       go_simp
       rfl
      refine hK.out _ _ trivial (fun hHeld => ?_)
      clear hK K
      refine done_ (done_of HT_.out (by kernel_rfl)) ?_
      have qW := qg.out
      have qX := qf.out
      have qK : qJ.cell? ⟨qe, 0, none⟩ = some (.int .i64 0) := bc_ qc 0
      have qL : qJ.cell? ⟨qe, 1, none⟩ = some (.int .i64 0) := bc_ qc 1
      have qM := blk_frozen qc.out 0
      have qN := blk_frozen qc.out 1
      try go_wp2_with (first | ((with_reducible refine gate_callee (f := 45) rfl ?_); refine goesL_ (some 27) rfl rfl Try.func45 (by kernel_rfl) rfl #[.agg #[.int .i64 (wrap64 (Int.tdiv qh qb)), .int .i64 (wrap64 (Int.tdiv qi qb))]] rfl (by (try simp only [List.map_toArray, List.map_cons, List.map_nil]); first | done | rfl | (simp only [List.length_drop, List.length_take]; rfl)) ?_; (with_reducible refine (impl_IsRatio.calls kj5 (wrap64 (Int.tdiv qh qb)) (wrap64 (Int.tdiv qi qb)) false _ A11.out).mono ?_); rintro e qY ⟨rfl, hb⟩; refine ⟨_, rfl, ?_⟩; replace qa := Aside0.mk (blk_below (g := qd) (o := .cells #[.int .i64 0, .int .i64 0] 37 (0, 0)) (kf_ qa) hb); replace qc := Aside0.mk (blk_below (g := qe) (o := .cells #[.int .i64 (wrap64 (Int.tdiv qh qb)), .int .i64 (wrap64 (Int.tdiv qi qb))] 37 (0, 0)) (by (with_reducible repeat (first | refine blk_drewN ?_ _ | refine blk_drew ?_ | refine blk_alloc ?_ _)); refine blk_put (cs := #[.int .i64 (wrap64 (Int.tdiv qh qb)), .int .i64 0]) ?_ 1 _ rfl; (with_reducible repeat (first | refine blk_drewN ?_ _ | refine blk_drew ?_ | refine blk_alloc ?_ _)); refine blk_put (cs := #[.int .i64 0, .int .i64 0]) ?_ 0 _ rfl; (with_reducible repeat (first | refine blk_drewN ?_ _ | refine blk_drew ?_ | refine blk_alloc ?_ _)); exact qc.out) hb); replace HB := bS_ HB hb; (try clear hb); (try clear hb2); (try clear hk); (try clear hi); have qO : qY.cell? ⟨qd, 0, none⟩ = some (.int .i64 0) := bc_ qa 0; have qP : qY.cell? ⟨qd, 1, none⟩ = some (.int .i64 0) := bc_ qa 1; have qQ := blk_frozen qa.out 0; have qR := blk_frozen qa.out 1))
      refine bodyPost_ret (results_cell_row rfl _ _ qd 37 #[.int .i64 0, .int .i64 0] (0, 0) _ rfl (by (with_reducible repeat (first | refine blk_drewN ?_ _ | refine blk_drew ?_ | refine blk_alloc ?_ _)); refine blk_put (cs := #[.int .i64 0, .int .i64 0]) ?_ 1 _ rfl; (with_reducible repeat (first | refine blk_drewN ?_ _ | refine blk_drew ?_ | refine blk_alloc ?_ _)); refine blk_put (cs := #[.int .i64 0, .int .i64 0]) ?_ 0 _ rfl; (with_reducible repeat (first | refine blk_drewN ?_ _ | refine blk_drew ?_ | refine blk_alloc ?_ _)); exact qa.out) Try.underlying37 rfl (by kernel_rfl)) rfl ?_
      exact ⟨by first | rfl | (simp [errW_none, errW_some] <;> rfl) | (simp [*, errW_none, errW_some] <;> rfl), bb_ HB⟩

/-! ### impl_AddRatios: function 76 -/
def impl_AddRatios.f (k : Nat) (a0_0 : Int) (a0_1 : Int) (a1_0 : Int) (a1_1 : Int) : Option (Int × Int) := (impl_IsRatio.f k a0_0 a0_1).bind fun qo => (if qo = true then ((impl_IsRatio.f k a1_0 a1_1).bind fun qn => (if qn = true then ((impl_reducedRatio.f k (wrap64 ((wrap64 (a0_0 * a1_1)) + (wrap64 (a1_0 * a0_1)))) (wrap64 (a0_1 * a1_1))).bind fun qg => (some (qg.1, qg.2))) else (some (0, 0)))) else (some (0, 0)))
theorem impl_AddRatios.mono : ∀ a0 a1 a2 a3 k, LeO (impl_AddRatios.f k a0 a1 a2 a3) (impl_AddRatios.f (k + 1) a0 a1 a2 a3) := by
 intro a0 a1 a2 a3 k
 unfold impl_AddRatios.f
 repeat' first
   | (with_reducible exact impl_IsRatio.mono _ _ _)
   | (with_reducible exact impl_reducedRatio.mono _ _ _)
   | (with_reducible exact LeO.refl _)
   | (with_reducible exact LeO.none _)
   | (with_reducible refine LeO.ite ?_ ?_)
   | (with_reducible refine LeO.bind ?_ (fun _ => ?_))
   | exact impl_IsRatio.mono _ _ _
   | exact impl_reducedRatio.mono _ _ _
   | exact LeO.none _
   | refine LeO.ite ?_ ?_
   | refine LeO.bind ?_ (fun _ => ?_)
set_option maxHeartbeats 8000000 in
set_option maxRecDepth 100000 in
theorem impl_AddRatios.calls (k : Nat) (a0_0 : Int) (a0_1 : Int) (a1_0 : Int) (a1_1 : Int) (r1 : Int) (r2 : Int) (w : World) (h : impl_AddRatios.f k a0_0 a0_1 a1_0 a1_1 = some (r1, r2)) :
  Calls Try.prog 76 #[.agg #[.int .i64 a0_0, .int .i64 a0_1], .agg #[.int .i64 a1_0, .int .i64 a1_1]] w fun e w' => e = .returned (.agg #[.int .i64 r1, .int .i64 r2]) ∧ Below w.heap.size w w' := by
 have hu37 := Try.underlying37
 have HB := Aside0.mk (Below.refl w.heap.size w)
 have H : ((impl_IsRatio.f k a0_0 a0_1).bind fun qo => (if qo = true then ((impl_IsRatio.f k a1_0 a1_1).bind fun qn => (if qn = true then ((impl_reducedRatio.f k (wrap64 ((wrap64 (a0_0 * a1_1)) + (wrap64 (a1_0 * a0_1)))) (wrap64 (a0_1 * a1_1))).bind fun qg => (some (qg.1, qg.2))) else (some (0, 0)))) else (some (0, 0)))) = some (r1, r2) := h
 clear h
 replace H := Option.bind_eq_some_iff.mp H
 obtain ⟨qo, A30, H⟩ := H
 replace H : (if qo = true then ((impl_IsRatio.f k a1_0 a1_1).bind fun qn => (if qn = true then ((impl_reducedRatio.f k (wrap64 ((wrap64 (a0_0 * a1_1)) + (wrap64 (a1_0 * a0_1)))) (wrap64 (a0_1 * a1_1))).bind fun qg => (some (qg.1, qg.2))) else (some (0, 0)))) else (some (0, 0))) = some (r1, r2) := H
 have A3 := Aside0.mk A30
 clear A30
 by_cases c4 : qo = true
 ·
  subst c4
  have H1 : ((impl_IsRatio.f k a1_0 a1_1).bind fun qn => (if qn = true then ((impl_reducedRatio.f k (wrap64 ((wrap64 (a0_0 * a1_1)) + (wrap64 (a1_0 * a0_1)))) (wrap64 (a0_1 * a1_1))).bind fun qg => (some (qg.1, qg.2))) else (some (0, 0)))) = some (r1, r2) := by rw [if_pos rfl] at H; exact H
  clear H
  have H := H1
  clear H1
  replace H := Option.bind_eq_some_iff.mp H
  obtain ⟨qn, A50, H⟩ := H
  replace H : (if qn = true then ((impl_reducedRatio.f k (wrap64 ((wrap64 (a0_0 * a1_1)) + (wrap64 (a1_0 * a0_1)))) (wrap64 (a0_1 * a1_1))).bind fun qg => (some (qg.1, qg.2))) else (some (0, 0))) = some (r1, r2) := H
  have A5 := Aside0.mk A50
  clear A50
  by_cases c6 : qn = true
  ·
   subst c6
   have H1 : ((impl_reducedRatio.f k (wrap64 ((wrap64 (a0_0 * a1_1)) + (wrap64 (a1_0 * a0_1)))) (wrap64 (a0_1 * a1_1))).bind fun qg => (some (qg.1, qg.2))) = some (r1, r2) := by rw [if_pos rfl] at H; exact H
   clear H
   have H := H1
   clear H1
   replace H := Option.bind_eq_some_iff.mp H
   obtain ⟨⟨qp, qw⟩, A70, H⟩ := H
   replace H : (some (qp, qw)) = some (r1, r2) := H
   have A7 := Aside0.mk A70
   clear A70
   simp only [Option.some.injEq, Prod.mk.injEq] at H
   obtain ⟨rfl, rfl⟩ := H
   go_enter Try.func76, Try.ntmps76
   go_wp2_with (first | ((with_reducible refine gate_dst (N := 2) rfl ?_); refine box_event ?hg (N := 2) ?hd (cs := #[.int .i64 a0_0, .int .i64 a0_1]) (t := 37) ?hr ?_; (case hd => rfl); (case hg => rfl); (case hr => first | (go_simp; done) | (go_simp; rfl)); intro qe hg w8 hbox hb; have qa := Aside0.mk (hbox); have qq := Aside0.mk ((by rw [hg]; exact (bz_ HB) : w.heap.size ≤ qe)); have qr := Aside0.mk ((by rw [hg]; exact (bz_ HB) : w.heap.size ≤ qe)); replace HB := bS_ HB hb; clear hb hbox hg) | ((with_reducible refine gate_dst (N := 3) rfl ?_); refine box_event ?hg (N := 3) ?hd (cs := #[.int .i64 a1_0, .int .i64 a1_1]) (t := 37) ?hr ?_; (case hd => rfl); (case hg => rfl); (case hr => first | (go_simp; done) | (go_simp; rfl)); intro qf hg w9 hbox hb; have qb := Aside0.mk (hbox); have qs := Aside0.mk ((by rw [hg]; exact (bz_ HB) : w.heap.size ≤ qf)); have qt := Aside0.mk ((by rw [hg]; exact (bz_ HB) : w.heap.size ≤ qf)); replace HB := bS_ HB hb; have qh := Aside0.mk ((nl_ qa hg : qe ≠ qf)); have qi := Aside0.mk ((ng_ qa hg : qf ≠ qe)); replace qa := kB_ qa hb; clear hb hbox hg) | ((with_reducible refine gate_dst (N := 4) rfl ?_); refine box_event ?hg (N := 4) ?hd (cs := #[.int .i64 0, .int .i64 0]) (t := 37) ?hr ?_; (case hd => rfl); (case hg => rfl); (case hr => first | (go_simp; done) | (go_simp; rfl)); intro qc hg zc hbox hb; have qd := Aside0.mk (hbox); have qu := Aside0.mk ((by rw [hg]; exact (bz_ HB) : w.heap.size ≤ qc)); have qv := Aside0.mk ((by rw [hg]; exact (bz_ HB) : w.heap.size ≤ qc)); replace HB := bS_ HB hb; have qj := Aside0.mk ((nl_ qa hg : qe ≠ qc)); have qk := Aside0.mk ((ng_ qa hg : qc ≠ qe)); replace qa := kB_ qa hb; have ql := Aside0.mk ((nl_ qb hg : qf ≠ qc)); have qm := Aside0.mk ((ng_ qb hg : qc ≠ qf)); replace qb := kB_ qb hb; clear hb hbox hg; have zd := qh.out; have ze := qi.out; have zf := qj.out; have zg := qk.out; have qx : zc.cell? ⟨qe, 0, none⟩ = some (.int .i64 a0_0) := bc_ qa 0; have qy : zc.cell? ⟨qe, 1, none⟩ = some (.int .i64 a0_1) := bc_ qa 1; have qz := blk_frozen qa.out 0; have qA := blk_frozen qa.out 1) | ((with_reducible refine gate_callee (f := 45) rfl ?_); refine goesL_ (some 6) rfl rfl Try.func45 (by kernel_rfl) rfl #[.agg #[.int .i64 a0_0, .int .i64 a0_1]] rfl (by (try simp only [List.map_toArray, List.map_cons, List.map_nil]); first | done | rfl | (simp only [List.length_drop, List.length_take]; rfl)) ?_; (with_reducible refine (impl_IsRatio.calls k a0_0 a0_1 true _ A3.out).mono ?_); rintro e zh ⟨rfl, hb⟩; refine ⟨_, rfl, ?_⟩; replace qa := kB_ qa hb; replace qb := kB_ qb hb; replace qd := kB_ qd hb; replace HB := bS_ HB hb; (try clear hb); (try clear hb2); (try clear hk); (try clear hi); have zi := ql.out; have zj := qm.out; have qB : zh.cell? ⟨qf, 0, none⟩ = some (.int .i64 a1_0) := bc_ qb 0; have qC : zh.cell? ⟨qf, 1, none⟩ = some (.int .i64 a1_1) := bc_ qb 1; have qD := blk_frozen qb.out 0; have qE := blk_frozen qb.out 1) | (go_at_call 45; (with_reducible refine (impl_IsRatio.calls k a1_0 a1_1 true _ A5.out).mono ?_); rintro e qF ⟨rfl, hb⟩; replace qa := kB_ qa hb; replace qb := kB_ qb hb; replace qd := kB_ qd hb; replace HB := bS_ HB hb; (try clear hb); (try clear hb2); (try clear hk); (try clear hi); have qG : qF.cell? ⟨qe, 0, none⟩ = some (.int .i64 a0_0) := bc_ qa 0; have qH : qF.cell? ⟨qe, 1, none⟩ = some (.int .i64 a0_1) := bc_ qa 1; have qI := blk_frozen qa.out 0; have qJ := blk_frozen qa.out 1; have qK : qF.cell? ⟨qf, 0, none⟩ = some (.int .i64 a1_0) := bc_ qb 0; have qL : qF.cell? ⟨qf, 1, none⟩ = some (.int .i64 a1_1) := bc_ qb 1; have qM := blk_frozen qb.out 0; have qN := blk_frozen qb.out 1) | ((with_reducible refine gate_callee (f := 88) rfl ?_); refine goesL_ (some 30) rfl rfl Try.func88 (by kernel_rfl) rfl #[.int .i64 (wrap64 ((wrap64 (a0_0 * a1_1)) + (wrap64 (a1_0 * a0_1)))), .int .i64 (wrap64 (a0_1 * a1_1))] rfl (by (try simp only [List.map_toArray, List.map_cons, List.map_nil]); first | done | rfl | (simp only [List.length_drop, List.length_take]; rfl)) ?_; (with_reducible refine (impl_reducedRatio.calls k (wrap64 ((wrap64 (a0_0 * a1_1)) + (wrap64 (a1_0 * a0_1)))) (wrap64 (a0_1 * a1_1)) qp qw _ A7.out).mono ?_); rintro e zk ⟨rfl, hb⟩; refine ⟨_, rfl, ?_⟩; replace qa := kB_ qa hb; replace qb := kB_ qb hb; replace qd := kB_ qd hb; replace HB := bS_ HB hb; (try clear hb); (try clear hb2); (try clear hk); (try clear hi); have qO : zk.cell? ⟨qc, 0, none⟩ = some (.int .i64 0) := bc_ qd 0; have qP : zk.cell? ⟨qc, 1, none⟩ = some (.int .i64 0) := bc_ qd 1; have qQ := blk_frozen qd.out 0; have qR := blk_frozen qd.out 1))
   refine bodyPost_ret (results_cell_row rfl _ _ qc 37 #[.int .i64 qp, .int .i64 qw] (0, 0) _ rfl (by (with_reducible repeat (first | refine blk_drewN ?_ _ | refine blk_drew ?_ | refine blk_alloc ?_ _)); refine blk_put (cs := #[.int .i64 qp, .int .i64 0]) ?_ 1 _ rfl; (with_reducible repeat (first | refine blk_drewN ?_ _ | refine blk_drew ?_ | refine blk_alloc ?_ _)); refine blk_put (cs := #[.int .i64 0, .int .i64 0]) ?_ 0 _ rfl; (with_reducible repeat (first | refine blk_drewN ?_ _ | refine blk_drew ?_ | refine blk_alloc ?_ _)); exact qd.out) Try.underlying37 rfl (by kernel_rfl)) rfl ?_
   exact ⟨by first | rfl | (simp [errW_none, errW_some] <;> rfl) | (simp [*, errW_none, errW_some] <;> rfl), bb_ HB⟩
  ·
   replace c6 := Bool.eq_false_iff.mpr c6
   subst c6
   have H1 : (some (0, 0)) = some (r1, r2) := by rw [if_neg (show ¬ (false = true) by decide)] at H; exact H
   clear H
   have H := H1
   clear H1
   simp only [Option.some.injEq, Prod.mk.injEq] at H
   obtain ⟨rfl, rfl⟩ := H
   go_enter Try.func76, Try.ntmps76
   go_wp2_with (first | ((with_reducible refine gate_dst (N := 2) rfl ?_); refine box_event ?hg (N := 2) ?hd (cs := #[.int .i64 a0_0, .int .i64 a0_1]) (t := 37) ?hr ?_; (case hd => rfl); (case hg => rfl); (case hr => first | (go_simp; done) | (go_simp; rfl)); intro qe hg zC hbox hb; have qa := Aside0.mk (hbox); have qq := Aside0.mk ((by rw [hg]; exact (bz_ HB) : w.heap.size ≤ qe)); have qr := Aside0.mk ((by rw [hg]; exact (bz_ HB) : w.heap.size ≤ qe)); replace HB := bS_ HB hb; clear hb hbox hg) | ((with_reducible refine gate_dst (N := 3) rfl ?_); refine box_event ?hg (N := 3) ?hd (cs := #[.int .i64 a1_0, .int .i64 a1_1]) (t := 37) ?hr ?_; (case hd => rfl); (case hg => rfl); (case hr => first | (go_simp; done) | (go_simp; rfl)); intro qf hg zD hbox hb; have qb := Aside0.mk (hbox); have qs := Aside0.mk ((by rw [hg]; exact (bz_ HB) : w.heap.size ≤ qf)); have qt := Aside0.mk ((by rw [hg]; exact (bz_ HB) : w.heap.size ≤ qf)); replace HB := bS_ HB hb; have qh := Aside0.mk ((nl_ qa hg : qe ≠ qf)); have qi := Aside0.mk ((ng_ qa hg : qf ≠ qe)); replace qa := kB_ qa hb; clear hb hbox hg) | ((with_reducible refine gate_dst (N := 4) rfl ?_); refine box_event ?hg (N := 4) ?hd (cs := #[.int .i64 0, .int .i64 0]) (t := 37) ?hr ?_; (case hd => rfl); (case hg => rfl); (case hr => first | (go_simp; done) | (go_simp; rfl)); intro qc hg zl hbox hb; have qd := Aside0.mk (hbox); have qu := Aside0.mk ((by rw [hg]; exact (bz_ HB) : w.heap.size ≤ qc)); have qv := Aside0.mk ((by rw [hg]; exact (bz_ HB) : w.heap.size ≤ qc)); replace HB := bS_ HB hb; have qj := Aside0.mk ((nl_ qa hg : qe ≠ qc)); have qk := Aside0.mk ((ng_ qa hg : qc ≠ qe)); replace qa := kB_ qa hb; have ql := Aside0.mk ((nl_ qb hg : qf ≠ qc)); have qm := Aside0.mk ((ng_ qb hg : qc ≠ qf)); replace qb := kB_ qb hb; clear hb hbox hg; have zm := qh.out; have zn := qi.out; have zo := qj.out; have zp := qk.out; have qS : zl.cell? ⟨qe, 0, none⟩ = some (.int .i64 a0_0) := bc_ qa 0; have qT : zl.cell? ⟨qe, 1, none⟩ = some (.int .i64 a0_1) := bc_ qa 1; have qU := blk_frozen qa.out 0; have qV := blk_frozen qa.out 1) | ((with_reducible refine gate_callee (f := 45) rfl ?_); refine goesL_ (some 6) rfl rfl Try.func45 (by kernel_rfl) rfl #[.agg #[.int .i64 a0_0, .int .i64 a0_1]] rfl (by (try simp only [List.map_toArray, List.map_cons, List.map_nil]); first | done | rfl | (simp only [List.length_drop, List.length_take]; rfl)) ?_; (with_reducible refine (impl_IsRatio.calls k a0_0 a0_1 true _ A3.out).mono ?_); rintro e zq ⟨rfl, hb⟩; refine ⟨_, rfl, ?_⟩; replace qa := kB_ qa hb; replace qb := kB_ qb hb; replace qd := kB_ qd hb; replace HB := bS_ HB hb; (try clear hb); (try clear hb2); (try clear hk); (try clear hi); have zr := ql.out; have zs := qm.out; have qW : zq.cell? ⟨qf, 0, none⟩ = some (.int .i64 a1_0) := bc_ qb 0; have qX : zq.cell? ⟨qf, 1, none⟩ = some (.int .i64 a1_1) := bc_ qb 1; have qY := blk_frozen qb.out 0; have qZ := blk_frozen qb.out 1) | (go_at_call 45; (with_reducible refine (impl_IsRatio.calls k a1_0 a1_1 false _ A5.out).mono ?_); rintro e zt ⟨rfl, hb⟩; replace qa := kB_ qa hb; replace qb := kB_ qb hb; replace qd := kB_ qd hb; replace HB := bS_ HB hb; (try clear hb); (try clear hb2); (try clear hk); (try clear hi); have q0 : zt.cell? ⟨qc, 0, none⟩ = some (.int .i64 0) := bc_ qd 0; have q1 : zt.cell? ⟨qc, 1, none⟩ = some (.int .i64 0) := bc_ qd 1; have q2 := blk_frozen qd.out 0; have q3 := blk_frozen qd.out 1))
   refine bodyPost_ret (results_cell_row rfl _ _ qc 37 #[.int .i64 0, .int .i64 0] (0, 0) _ rfl (by (with_reducible repeat (first | refine blk_drewN ?_ _ | refine blk_drew ?_ | refine blk_alloc ?_ _)); refine blk_put (cs := #[.int .i64 0, .int .i64 0]) ?_ 1 _ rfl; (with_reducible repeat (first | refine blk_drewN ?_ _ | refine blk_drew ?_ | refine blk_alloc ?_ _)); refine blk_put (cs := #[.int .i64 0, .int .i64 0]) ?_ 0 _ rfl; (with_reducible repeat (first | refine blk_drewN ?_ _ | refine blk_drew ?_ | refine blk_alloc ?_ _)); exact qd.out) Try.underlying37 rfl (by kernel_rfl)) rfl ?_
   exact ⟨by first | rfl | (simp [errW_none, errW_some] <;> rfl) | (simp [*, errW_none, errW_some] <;> rfl), bb_ HB⟩
 ·
  replace c4 := Bool.eq_false_iff.mpr c4
  subst c4
  have H1 : (some (0, 0)) = some (r1, r2) := by rw [if_neg (show ¬ (false = true) by decide)] at H; exact H
  clear H
  have H := H1
  clear H1
  simp only [Option.some.injEq, Prod.mk.injEq] at H
  obtain ⟨rfl, rfl⟩ := H
  go_enter Try.func76, Try.ntmps76
  go_wp2_with (first | ((with_reducible refine gate_dst (N := 2) rfl ?_); refine box_event ?hg (N := 2) ?hd (cs := #[.int .i64 a0_0, .int .i64 a0_1]) (t := 37) ?hr ?_; (case hd => rfl); (case hg => rfl); (case hr => first | (go_simp; done) | (go_simp; rfl)); intro qe hg zE hbox hb; have qa := Aside0.mk (hbox); have qq := Aside0.mk ((by rw [hg]; exact (bz_ HB) : w.heap.size ≤ qe)); have qr := Aside0.mk ((by rw [hg]; exact (bz_ HB) : w.heap.size ≤ qe)); replace HB := bS_ HB hb; clear hb hbox hg) | ((with_reducible refine gate_dst (N := 3) rfl ?_); refine box_event ?hg (N := 3) ?hd (cs := #[.int .i64 a1_0, .int .i64 a1_1]) (t := 37) ?hr ?_; (case hd => rfl); (case hg => rfl); (case hr => first | (go_simp; done) | (go_simp; rfl)); intro qf hg zF hbox hb; have qb := Aside0.mk (hbox); have qs := Aside0.mk ((by rw [hg]; exact (bz_ HB) : w.heap.size ≤ qf)); have qt := Aside0.mk ((by rw [hg]; exact (bz_ HB) : w.heap.size ≤ qf)); replace HB := bS_ HB hb; have qh := Aside0.mk ((nl_ qa hg : qe ≠ qf)); have qi := Aside0.mk ((ng_ qa hg : qf ≠ qe)); replace qa := kB_ qa hb; clear hb hbox hg) | ((with_reducible refine gate_dst (N := 4) rfl ?_); refine box_event ?hg (N := 4) ?hd (cs := #[.int .i64 0, .int .i64 0]) (t := 37) ?hr ?_; (case hd => rfl); (case hg => rfl); (case hr => first | (go_simp; done) | (go_simp; rfl)); intro qc hg zu hbox hb; have qd := Aside0.mk (hbox); have qu := Aside0.mk ((by rw [hg]; exact (bz_ HB) : w.heap.size ≤ qc)); have qv := Aside0.mk ((by rw [hg]; exact (bz_ HB) : w.heap.size ≤ qc)); replace HB := bS_ HB hb; have qj := Aside0.mk ((nl_ qa hg : qe ≠ qc)); have qk := Aside0.mk ((ng_ qa hg : qc ≠ qe)); replace qa := kB_ qa hb; have ql := Aside0.mk ((nl_ qb hg : qf ≠ qc)); have qm := Aside0.mk ((ng_ qb hg : qc ≠ qf)); replace qb := kB_ qb hb; clear hb hbox hg; have zv := qh.out; have zw := qi.out; have zx := qj.out; have zy := qk.out; have q4 : zu.cell? ⟨qe, 0, none⟩ = some (.int .i64 a0_0) := bc_ qa 0; have q5 : zu.cell? ⟨qe, 1, none⟩ = some (.int .i64 a0_1) := bc_ qa 1; have q6 := blk_frozen qa.out 0; have q7 := blk_frozen qa.out 1) | ((with_reducible refine gate_callee (f := 45) rfl ?_); refine goesL_ (some 6) rfl rfl Try.func45 (by kernel_rfl) rfl #[.agg #[.int .i64 a0_0, .int .i64 a0_1]] rfl (by (try simp only [List.map_toArray, List.map_cons, List.map_nil]); first | done | rfl | (simp only [List.length_drop, List.length_take]; rfl)) ?_; (with_reducible refine (impl_IsRatio.calls k a0_0 a0_1 false _ A3.out).mono ?_); rintro e zz ⟨rfl, hb⟩; refine ⟨_, rfl, ?_⟩; replace qa := kB_ qa hb; replace qb := kB_ qb hb; replace qd := kB_ qd hb; replace HB := bS_ HB hb; (try clear hb); (try clear hb2); (try clear hk); (try clear hi); have zA := qm.out; have zB := ql.out; have q8 : zz.cell? ⟨qc, 0, none⟩ = some (.int .i64 0) := bc_ qd 0; have q9 : zz.cell? ⟨qc, 1, none⟩ = some (.int .i64 0) := bc_ qd 1; have za := blk_frozen qd.out 0; have zb := blk_frozen qd.out 1))
  refine bodyPost_ret (results_cell_row rfl _ _ qc 37 #[.int .i64 0, .int .i64 0] (0, 0) _ rfl (by (with_reducible repeat (first | refine blk_drewN ?_ _ | refine blk_drew ?_ | refine blk_alloc ?_ _)); refine blk_put (cs := #[.int .i64 0, .int .i64 0]) ?_ 1 _ rfl; (with_reducible repeat (first | refine blk_drewN ?_ _ | refine blk_drew ?_ | refine blk_alloc ?_ _)); refine blk_put (cs := #[.int .i64 0, .int .i64 0]) ?_ 0 _ rfl; (with_reducible repeat (first | refine blk_drewN ?_ _ | refine blk_drew ?_ | refine blk_alloc ?_ _)); exact qd.out) Try.underlying37 rfl (by kernel_rfl)) rfl ?_
  exact ⟨by first | rfl | (simp [errW_none, errW_some] <;> rfl) | (simp [*, errW_none, errW_some] <;> rfl), bb_ HB⟩

/-! ### impl_MultiplyRatios: function 77 -/
def impl_MultiplyRatios.f (k : Nat) (a0_0 : Int) (a0_1 : Int) (a1_0 : Int) (a1_1 : Int) : Option (Int × Int) := (impl_IsRatio.f k a0_0 a0_1).bind fun qo => (if qo = true then ((impl_IsRatio.f k a1_0 a1_1).bind fun qn => (if qn = true then ((impl_reducedRatio.f k (wrap64 (a0_0 * a1_0)) (wrap64 (a0_1 * a1_1))).bind fun qg => (some (qg.1, qg.2))) else (some (0, 0)))) else (some (0, 0)))
theorem impl_MultiplyRatios.mono : ∀ a0 a1 a2 a3 k, LeO (impl_MultiplyRatios.f k a0 a1 a2 a3) (impl_MultiplyRatios.f (k + 1) a0 a1 a2 a3) := by
 intro a0 a1 a2 a3 k
 unfold impl_MultiplyRatios.f
 repeat' first
   | (with_reducible exact impl_IsRatio.mono _ _ _)
   | (with_reducible exact impl_reducedRatio.mono _ _ _)
   | (with_reducible exact LeO.refl _)
   | (with_reducible exact LeO.none _)
   | (with_reducible refine LeO.ite ?_ ?_)
   | (with_reducible refine LeO.bind ?_ (fun _ => ?_))
   | exact impl_IsRatio.mono _ _ _
   | exact impl_reducedRatio.mono _ _ _
   | exact LeO.none _
   | refine LeO.ite ?_ ?_
   | refine LeO.bind ?_ (fun _ => ?_)
set_option maxHeartbeats 8000000 in
set_option maxRecDepth 100000 in
theorem impl_MultiplyRatios.calls (k : Nat) (a0_0 : Int) (a0_1 : Int) (a1_0 : Int) (a1_1 : Int) (r1 : Int) (r2 : Int) (w : World) (h : impl_MultiplyRatios.f k a0_0 a0_1 a1_0 a1_1 = some (r1, r2)) :
  Calls Try.prog 77 #[.agg #[.int .i64 a0_0, .int .i64 a0_1], .agg #[.int .i64 a1_0, .int .i64 a1_1]] w fun e w' => e = .returned (.agg #[.int .i64 r1, .int .i64 r2]) ∧ Below w.heap.size w w' := by
 have hu37 := Try.underlying37
 have HB := Aside0.mk (Below.refl w.heap.size w)
 have H : ((impl_IsRatio.f k a0_0 a0_1).bind fun qo => (if qo = true then ((impl_IsRatio.f k a1_0 a1_1).bind fun qn => (if qn = true then ((impl_reducedRatio.f k (wrap64 (a0_0 * a1_0)) (wrap64 (a0_1 * a1_1))).bind fun qg => (some (qg.1, qg.2))) else (some (0, 0)))) else (some (0, 0)))) = some (r1, r2) := h
 clear h
 replace H := Option.bind_eq_some_iff.mp H
 obtain ⟨qo, A30, H⟩ := H
 replace H : (if qo = true then ((impl_IsRatio.f k a1_0 a1_1).bind fun qn => (if qn = true then ((impl_reducedRatio.f k (wrap64 (a0_0 * a1_0)) (wrap64 (a0_1 * a1_1))).bind fun qg => (some (qg.1, qg.2))) else (some (0, 0)))) else (some (0, 0))) = some (r1, r2) := H
 have A3 := Aside0.mk A30
 clear A30
 by_cases c4 : qo = true
 ·
  subst c4
  have H1 : ((impl_IsRatio.f k a1_0 a1_1).bind fun qn => (if qn = true then ((impl_reducedRatio.f k (wrap64 (a0_0 * a1_0)) (wrap64 (a0_1 * a1_1))).bind fun qg => (some (qg.1, qg.2))) else (some (0, 0)))) = some (r1, r2) := by rw [if_pos rfl] at H; exact H
  clear H
  have H := H1
  clear H1
  replace H := Option.bind_eq_some_iff.mp H
  obtain ⟨qn, A50, H⟩ := H
  replace H : (if qn = true then ((impl_reducedRatio.f k (wrap64 (a0_0 * a1_0)) (wrap64 (a0_1 * a1_1))).bind fun qg => (some (qg.1, qg.2))) else (some (0, 0))) = some (r1, r2) := H
  have A5 := Aside0.mk A50
  clear A50
  by_cases c6 : qn = true
  ·
   subst c6
   have H1 : ((impl_reducedRatio.f k (wrap64 (a0_0 * a1_0)) (wrap64 (a0_1 * a1_1))).bind fun qg => (some (qg.1, qg.2))) = some (r1, r2) := by rw [if_pos rfl] at H; exact H
   clear H
   have H := H1
   clear H1
   replace H := Option.bind_eq_some_iff.mp H
   obtain ⟨⟨qp, qw⟩, A70, H⟩ := H
   replace H : (some (qp, qw)) = some (r1, r2) := H
   have A7 := Aside0.mk A70
   clear A70
   simp only [Option.some.injEq, Prod.mk.injEq] at H
   obtain ⟨rfl, rfl⟩ := H
   go_enter Try.func77, Try.ntmps77
   go_wp2_with (first | ((with_reducible refine gate_dst (N := 2) rfl ?_); refine box_event ?hg (N := 2) ?hd (cs := #[.int .i64 a0_0, .int .i64 a0_1]) (t := 37) ?hr ?_; (case hd => rfl); (case hg => rfl); (case hr => first | (go_simp; done) | (go_simp; rfl)); intro qe hg w8 hbox hb; have qa := Aside0.mk (hbox); have qq := Aside0.mk ((by rw [hg]; exact (bz_ HB) : w.heap.size ≤ qe)); have qr := Aside0.mk ((by rw [hg]; exact (bz_ HB) : w.heap.size ≤ qe)); replace HB := bS_ HB hb; clear hb hbox hg) | ((with_reducible refine gate_dst (N := 3) rfl ?_); refine box_event ?hg (N := 3) ?hd (cs := #[.int .i64 a1_0, .int .i64 a1_1]) (t := 37) ?hr ?_; (case hd => rfl); (case hg => rfl); (case hr => first | (go_simp; done) | (go_simp; rfl)); intro qf hg w9 hbox hb; have qb := Aside0.mk (hbox); have qs := Aside0.mk ((by rw [hg]; exact (bz_ HB) : w.heap.size ≤ qf)); have qt := Aside0.mk ((by rw [hg]; exact (bz_ HB) : w.heap.size ≤ qf)); replace HB := bS_ HB hb; have qh := Aside0.mk ((nl_ qa hg : qe ≠ qf)); have qi := Aside0.mk ((ng_ qa hg : qf ≠ qe)); replace qa := kB_ qa hb; clear hb hbox hg) | ((with_reducible refine gate_dst (N := 4) rfl ?_); refine box_event ?hg (N := 4) ?hd (cs := #[.int .i64 0, .int .i64 0]) (t := 37) ?hr ?_; (case hd => rfl); (case hg => rfl); (case hr => first | (go_simp; done) | (go_simp; rfl)); intro qc hg zc hbox hb; have qd := Aside0.mk (hbox); have qu := Aside0.mk ((by rw [hg]; exact (bz_ HB) : w.heap.size ≤ qc)); have qv := Aside0.mk ((by rw [hg]; exact (bz_ HB) : w.heap.size ≤ qc)); replace HB := bS_ HB hb; have qj := Aside0.mk ((nl_ qa hg : qe ≠ qc)); have qk := Aside0.mk ((ng_ qa hg : qc ≠ qe)); replace qa := kB_ qa hb; have ql := Aside0.mk ((nl_ qb hg : qf ≠ qc)); have qm := Aside0.mk ((ng_ qb hg : qc ≠ qf)); replace qb := kB_ qb hb; clear hb hbox hg; have zd := qh.out; have ze := qi.out; have zf := qj.out; have zg := qk.out; have qx : zc.cell? ⟨qe, 0, none⟩ = some (.int .i64 a0_0) := bc_ qa 0; have qy : zc.cell? ⟨qe, 1, none⟩ = some (.int .i64 a0_1) := bc_ qa 1; have qz := blk_frozen qa.out 0; have qA := blk_frozen qa.out 1) | ((with_reducible refine gate_callee (f := 45) rfl ?_); refine goesL_ (some 6) rfl rfl Try.func45 (by kernel_rfl) rfl #[.agg #[.int .i64 a0_0, .int .i64 a0_1]] rfl (by (try simp only [List.map_toArray, List.map_cons, List.map_nil]); first | done | rfl | (simp only [List.length_drop, List.length_take]; rfl)) ?_; (with_reducible refine (impl_IsRatio.calls k a0_0 a0_1 true _ A3.out).mono ?_); rintro e zh ⟨rfl, hb⟩; refine ⟨_, rfl, ?_⟩; replace qa := kB_ qa hb; replace qb := kB_ qb hb; replace qd := kB_ qd hb; replace HB := bS_ HB hb; (try clear hb); (try clear hb2); (try clear hk); (try clear hi); have zi := ql.out; have zj := qm.out; have qB : zh.cell? ⟨qf, 0, none⟩ = some (.int .i64 a1_0) := bc_ qb 0; have qC : zh.cell? ⟨qf, 1, none⟩ = some (.int .i64 a1_1) := bc_ qb 1; have qD := blk_frozen qb.out 0; have qE := blk_frozen qb.out 1) | (go_at_call 45; (with_reducible refine (impl_IsRatio.calls k a1_0 a1_1 true _ A5.out).mono ?_); rintro e qF ⟨rfl, hb⟩; replace qa := kB_ qa hb; replace qb := kB_ qb hb; replace qd := kB_ qd hb; replace HB := bS_ HB hb; (try clear hb); (try clear hb2); (try clear hk); (try clear hi); have qG : qF.cell? ⟨qe, 0, none⟩ = some (.int .i64 a0_0) := bc_ qa 0; have qH : qF.cell? ⟨qe, 1, none⟩ = some (.int .i64 a0_1) := bc_ qa 1; have qI := blk_frozen qa.out 0; have qJ := blk_frozen qa.out 1; have qK : qF.cell? ⟨qf, 0, none⟩ = some (.int .i64 a1_0) := bc_ qb 0; have qL : qF.cell? ⟨qf, 1, none⟩ = some (.int .i64 a1_1) := bc_ qb 1; have qM := blk_frozen qb.out 0; have qN := blk_frozen qb.out 1) | ((with_reducible refine gate_callee (f := 88) rfl ?_); refine goesL_ (some 24) rfl rfl Try.func88 (by kernel_rfl) rfl #[.int .i64 (wrap64 (a0_0 * a1_0)), .int .i64 (wrap64 (a0_1 * a1_1))] rfl (by (try simp only [List.map_toArray, List.map_cons, List.map_nil]); first | done | rfl | (simp only [List.length_drop, List.length_take]; rfl)) ?_; (with_reducible refine (impl_reducedRatio.calls k (wrap64 (a0_0 * a1_0)) (wrap64 (a0_1 * a1_1)) qp qw _ A7.out).mono ?_); rintro e zk ⟨rfl, hb⟩; refine ⟨_, rfl, ?_⟩; replace qa := kB_ qa hb; replace qb := kB_ qb hb; replace qd := kB_ qd hb; replace HB := bS_ HB hb; (try clear hb); (try clear hb2); (try clear hk); (try clear hi); have qO : zk.cell? ⟨qc, 0, none⟩ = some (.int .i64 0) := bc_ qd 0; have qP : zk.cell? ⟨qc, 1, none⟩ = some (.int .i64 0) := bc_ qd 1; have qQ := blk_frozen qd.out 0; have qR := blk_frozen qd.out 1))
   refine bodyPost_ret (results_cell_row rfl _ _ qc 37 #[.int .i64 qp, .int .i64 qw] (0, 0) _ rfl (by (with_reducible repeat (first | refine blk_drewN ?_ _ | refine blk_drew ?_ | refine blk_alloc ?_ _)); refine blk_put (cs := #[.int .i64 qp, .int .i64 0]) ?_ 1 _ rfl; (with_reducible repeat (first | refine blk_drewN ?_ _ | refine blk_drew ?_ | refine blk_alloc ?_ _)); refine blk_put (cs := #[.int .i64 0, .int .i64 0]) ?_ 0 _ rfl; (with_reducible repeat (first | refine blk_drewN ?_ _ | refine blk_drew ?_ | refine blk_alloc ?_ _)); exact qd.out) Try.underlying37 rfl (by kernel_rfl)) rfl ?_
   exact ⟨by first | rfl | (simp [errW_none, errW_some] <;> rfl) | (simp [*, errW_none, errW_some] <;> rfl), bb_ HB⟩
  ·
   replace c6 := Bool.eq_false_iff.mpr c6
   subst c6
   have H1 : (some (0, 0)) = some (r1, r2) := by rw [if_neg (show ¬ (false = true) by decide)] at H; exact H
   clear H
   have H := H1
   clear H1
   simp only [Option.some.injEq, Prod.mk.injEq] at H
   obtain ⟨rfl, rfl⟩ := H
   go_enter Try.func77, Try.ntmps77
   go_wp2_with (first | ((with_reducible refine gate_dst (N := 2) rfl ?_); refine box_event ?hg (N := 2) ?hd (cs := #[.int .i64 a0_0, .int .i64 a0_1]) (t := 37) ?hr ?_; (case hd => rfl); (case hg => rfl); (case hr => first | (go_simp; done) | (go_simp; rfl)); intro qe hg zC hbox hb; have qa := Aside0.mk (hbox); have qq := Aside0.mk ((by rw [hg]; exact (bz_ HB) : w.heap.size ≤ qe)); have qr := Aside0.mk ((by rw [hg]; exact (bz_ HB) : w.heap.size ≤ qe)); replace HB := bS_ HB hb; clear hb hbox hg) | ((with_reducible refine gate_dst (N := 3) rfl ?_); refine box_event ?hg (N := 3) ?hd (cs := #[.int .i64 a1_0, .int .i64 a1_1]) (t := 37) ?hr ?_; (case hd => rfl); (case hg => rfl); (case hr => first | (go_simp; done) | (go_simp; rfl)); intro qf hg zD hbox hb; have qb := Aside0.mk (hbox); have qs := Aside0.mk ((by rw [hg]; exact (bz_ HB) : w.heap.size ≤ qf)); have qt := Aside0.mk ((by rw [hg]; exact (bz_ HB) : w.heap.size ≤ qf)); replace HB := bS_ HB hb; have qh := Aside0.mk ((nl_ qa hg : qe ≠ qf)); have qi := Aside0.mk ((ng_ qa hg : qf ≠ qe)); replace qa := kB_ qa hb; clear hb hbox hg) | ((with_reducible refine gate_dst (N := 4) rfl ?_); refine box_event ?hg (N := 4) ?hd (cs := #[.int .i64 0, .int .i64 0]) (t := 37) ?hr ?_; (case hd => rfl); (case hg => rfl); (case hr => first | (go_simp; done) | (go_simp; rfl)); intro qc hg zl hbox hb; have qd := Aside0.mk (hbox); have qu := Aside0.mk ((by rw [hg]; exact (bz_ HB) : w.heap.size ≤ qc)); have qv := Aside0.mk ((by rw [hg]; exact (bz_ HB) : w.heap.size ≤ qc)); replace HB := bS_ HB hb; have qj := Aside0.mk ((nl_ qa hg : qe ≠ qc)); have qk := Aside0.mk ((ng_ qa hg : qc ≠ qe)); replace qa := kB_ qa hb; have ql := Aside0.mk ((nl_ qb hg : qf ≠ qc)); have qm := Aside0.mk ((ng_ qb hg : qc ≠ qf)); replace qb := kB_ qb hb; clear hb hbox hg; have zm := qh.out; have zn := qi.out; have zo := qj.out; have zp := qk.out; have qS : zl.cell? ⟨qe, 0, none⟩ = some (.int .i64 a0_0) := bc_ qa 0; have qT : zl.cell? ⟨qe, 1, none⟩ = some (.int .i64 a0_1) := bc_ qa 1; have qU := blk_frozen qa.out 0; have qV := blk_frozen qa.out 1) | ((with_reducible refine gate_callee (f := 45) rfl ?_); refine goesL_ (some 6) rfl rfl Try.func45 (by kernel_rfl) rfl #[.agg #[.int .i64 a0_0, .int .i64 a0_1]] rfl (by (try simp only [List.map_toArray, List.map_cons, List.map_nil]); first | done | rfl | (simp only [List.length_drop, List.length_take]; rfl)) ?_; (with_reducible refine (impl_IsRatio.calls k a0_0 a0_1 true _ A3.out).mono ?_); rintro e zq ⟨rfl, hb⟩; refine ⟨_, rfl, ?_⟩; replace qa := kB_ qa hb; replace qb := kB_ qb hb; replace qd := kB_ qd hb; replace HB := bS_ HB hb; (try clear hb); (try clear hb2); (try clear hk); (try clear hi); have zr := ql.out; have zs := qm.out; have qW : zq.cell? ⟨qf, 0, none⟩ = some (.int .i64 a1_0) := bc_ qb 0; have qX : zq.cell? ⟨qf, 1, none⟩ = some (.int .i64 a1_1) := bc_ qb 1; have qY := blk_frozen qb.out 0; have qZ := blk_frozen qb.out 1) | (go_at_call 45; (with_reducible refine (impl_IsRatio.calls k a1_0 a1_1 false _ A5.out).mono ?_); rintro e zt ⟨rfl, hb⟩; replace qa := kB_ qa hb; replace qb := kB_ qb hb; replace qd := kB_ qd hb; replace HB := bS_ HB hb; (try clear hb); (try clear hb2); (try clear hk); (try clear hi); have q0 : zt.cell? ⟨qc, 0, none⟩ = some (.int .i64 0) := bc_ qd 0; have q1 : zt.cell? ⟨qc, 1, none⟩ = some (.int .i64 0) := bc_ qd 1; have q2 := blk_frozen qd.out 0; have q3 := blk_frozen qd.out 1))
   refine bodyPost_ret (results_cell_row rfl _ _ qc 37 #[.int .i64 0, .int .i64 0] (0, 0) _ rfl (by (with_reducible repeat (first | refine blk_drewN ?_ _ | refine blk_drew ?_ | refine blk_alloc ?_ _)); refine blk_put (cs := #[.int .i64 0, .int .i64 0]) ?_ 1 _ rfl; (with_reducible repeat (first | refine blk_drewN ?_ _ | refine blk_drew ?_ | refine blk_alloc ?_ _)); refine blk_put (cs := #[.int .i64 0, .int .i64 0]) ?_ 0 _ rfl; (with_reducible repeat (first | refine blk_drewN ?_ _ | refine blk_drew ?_ | refine blk_alloc ?_ _)); exact qd.out) Try.underlying37 rfl (by kernel_rfl)) rfl ?_
   exact ⟨by first | rfl | (simp [errW_none, errW_some] <;> rfl) | (simp [*, errW_none, errW_some] <;> rfl), bb_ HB⟩
 ·
  replace c4 := Bool.eq_false_iff.mpr c4
  subst c4
  have H1 : (some (0, 0)) = some (r1, r2) := by rw [if_neg (show ¬ (false = true) by decide)] at H; exact H
  clear H
  have H := H1
  clear H1
  simp only [Option.some.injEq, Prod.mk.injEq] at H
  obtain ⟨rfl, rfl⟩ := H
  go_enter Try.func77, Try.ntmps77
  go_wp2_with (first | ((with_reducible refine gate_dst (N := 2) rfl ?_); refine box_event ?hg (N := 2) ?hd (cs := #[.int .i64 a0_0, .int .i64 a0_1]) (t := 37) ?hr ?_; (case hd => rfl); (case hg => rfl); (case hr => first | (go_simp; done) | (go_simp; rfl)); intro qe hg zE hbox hb; have qa := Aside0.mk (hbox); have qq := Aside0.mk ((by rw [hg]; exact (bz_ HB) : w.heap.size ≤ qe)); have qr := Aside0.mk ((by rw [hg]; exact (bz_ HB) : w.heap.size ≤ qe)); replace HB := bS_ HB hb; clear hb hbox hg) | ((with_reducible refine gate_dst (N := 3) rfl ?_); refine box_event ?hg (N := 3) ?hd (cs := #[.int .i64 a1_0, .int .i64 a1_1]) (t := 37) ?hr ?_; (case hd => rfl); (case hg => rfl); (case hr => first | (go_simp; done) | (go_simp; rfl)); intro qf hg zF hbox hb; have qb := Aside0.mk (hbox); have qs := Aside0.mk ((by rw [hg]; exact (bz_ HB) : w.heap.size ≤ qf)); have qt := Aside0.mk ((by rw [hg]; exact (bz_ HB) : w.heap.size ≤ qf)); replace HB := bS_ HB hb; have qh := Aside0.mk ((nl_ qa hg : qe ≠ qf)); have qi := Aside0.mk ((ng_ qa hg : qf ≠ qe)); replace qa := kB_ qa hb; clear hb hbox hg) | ((with_reducible refine gate_dst (N := 4) rfl ?_); refine box_event ?hg (N := 4) ?hd (cs := #[.int .i64 0, .int .i64 0]) (t := 37) ?hr ?_; (case hd => rfl); (case hg => rfl); (case hr => first | (go_simp; done) | (go_simp; rfl)); intro qc hg zu hbox hb; have qd := Aside0.mk (hbox); have qu := Aside0.mk ((by rw [hg]; exact (bz_ HB) : w.heap.size ≤ qc)); have qv := Aside0.mk ((by rw [hg]; exact (bz_ HB) : w.heap.size ≤ qc)); replace HB := bS_ HB hb; have qj := Aside0.mk ((nl_ qa hg : qe ≠ qc)); have qk := Aside0.mk ((ng_ qa hg : qc ≠ qe)); replace qa := kB_ qa hb; have ql := Aside0.mk ((nl_ qb hg : qf ≠ qc)); have qm := Aside0.mk ((ng_ qb hg : qc ≠ qf)); replace qb := kB_ qb hb; clear hb hbox hg; have zv := qh.out; have zw := qi.out; have zx := qj.out; have zy := qk.out; have q4 : zu.cell? ⟨qe, 0, none⟩ = some (.int .i64 a0_0) := bc_ qa 0; have q5 : zu.cell? ⟨qe, 1, none⟩ = some (.int .i64 a0_1) := bc_ qa 1; have q6 := blk_frozen qa.out 0; have q7 := blk_frozen qa.out 1) | ((with_reducible refine gate_callee (f := 45) rfl ?_); refine goesL_ (some 6) rfl rfl Try.func45 (by kernel_rfl) rfl #[.agg #[.int .i64 a0_0, .int .i64 a0_1]] rfl (by (try simp only [List.map_toArray, List.map_cons, List.map_nil]); first | done | rfl | (simp only [List.length_drop, List.length_take]; rfl)) ?_; (with_reducible refine (impl_IsRatio.calls k a0_0 a0_1 false _ A3.out).mono ?_); rintro e zz ⟨rfl, hb⟩; refine ⟨_, rfl, ?_⟩; replace qa := kB_ qa hb; replace qb := kB_ qb hb; replace qd := kB_ qd hb; replace HB := bS_ HB hb; (try clear hb); (try clear hb2); (try clear hk); (try clear hi); have zA := qm.out; have zB := ql.out; have q8 : zz.cell? ⟨qc, 0, none⟩ = some (.int .i64 0) := bc_ qd 0; have q9 : zz.cell? ⟨qc, 1, none⟩ = some (.int .i64 0) := bc_ qd 1; have za := blk_frozen qd.out 0; have zb := blk_frozen qd.out 1))
  refine bodyPost_ret (results_cell_row rfl _ _ qc 37 #[.int .i64 0, .int .i64 0] (0, 0) _ rfl (by (with_reducible repeat (first | refine blk_drewN ?_ _ | refine blk_drew ?_ | refine blk_alloc ?_ _)); refine blk_put (cs := #[.int .i64 0, .int .i64 0]) ?_ 1 _ rfl; (with_reducible repeat (first | refine blk_drewN ?_ _ | refine blk_drew ?_ | refine blk_alloc ?_ _)); refine blk_put (cs := #[.int .i64 0, .int .i64 0]) ?_ 0 _ rfl; (with_reducible repeat (first | refine blk_drewN ?_ _ | refine blk_drew ?_ | refine blk_alloc ?_ _)); exact qd.out) Try.underlying37 rfl (by kernel_rfl)) rfl ?_
  exact ⟨by first | rfl | (simp [errW_none, errW_some] <;> rfl) | (simp [*, errW_none, errW_some] <;> rfl), bb_ HB⟩

/-! ### impl_ValueOf: function 44 -/
mutual
def impl_ValueOf.j0 : Nat → List (S37) → Bool → List Int → Int → Bool → Option (Int × Int × Bool)
 | 0, _, _, _, _, _ => none
 | k + 1, x1, x19, x409000, x409001, x409002 => if x19 = true then (some (0, 0, false)) else (impl_ValueOf.l0 k x1 x409000 (x409000.length : Int) 0 x409001 1)
def impl_ValueOf.l0 : Nat → List (S37) → List Int → Int → Int → Int → Int → Option (Int × Int × Bool)
 | 0, _, _, _, _, _, _ => none
 | k + 1, x1, x25, x26, x27, x413000, x413001 => if x27 < x26 then (if 0 ≤ x27 then (if x27 < (x25.length : Int) then (if x27 < (x1.length : Int) then ((impl_MultiplyRatios.f k (rd x25 x27) 1 ((rd_T37 x1 x27).f0) ((rd_T37 x1 x27).f1)).bind fun ze => ((impl_AddRatios.f k x413000 x413001 ze.1 ze.2).bind fun qt => (impl_ValueOf.l0 k x1 x25 x26 (wrap64 (x27 + 1)) qt.1 qt.2))) else (none)) else (none)) else (none)) else ((impl_IsRatio.f k x413000 x413001).bind fun qQ => (some (x413000, x413001, qQ)))
end
def impl_ValueOf.f (k : Nat) (l0_0 : List Int) (a0_1 : Int) (a0_2 : Bool) (l1 : List (S37)) : Option (Int × Int × Bool) := (impl_IsAtom.f k l0_0 a0_1 a0_2).bind fun qN => (if qN = true then ((impl_IsPoint.f k l1 (l0_0.length : Int)).bind fun qr => (impl_ValueOf.j0 k l1 (!qr) l0_0 a0_1 a0_2)) else (impl_ValueOf.j0 k l1 true l0_0 a0_1 a0_2))
theorem impl_ValueOf.mono_l : ∀ k, (∀ y0 y1 y2 y3 y4, LeO (impl_ValueOf.j0 k y0 y1 y2 y3 y4) (impl_ValueOf.j0 (k + 1) y0 y1 y2 y3 y4)) ∧ (∀ y0 y1 y2 y3 y4 y5, LeO (impl_ValueOf.l0 k y0 y1 y2 y3 y4 y5) (impl_ValueOf.l0 (k + 1) y0 y1 y2 y3 y4 y5))
 | 0 => ⟨fun _ _ _ _ _ r h => by simp [impl_ValueOf.j0] at h, fun _ _ _ _ _ _ r h => by simp [impl_ValueOf.l0] at h⟩
 | k + 1 => by
  obtain ⟨ih0, ih1⟩ := impl_ValueOf.mono_l k
  refine ⟨?_, ?_⟩
  ·
   intro y0 y1 y2 y3 y4
   unfold impl_ValueOf.j0
   repeat' first
   | (with_reducible exact ih0 _ _ _ _ _)
   | (with_reducible exact ih1 _ _ _ _ _ _)
   | (with_reducible exact impl_AddRatios.mono _ _ _ _ _)
   | (with_reducible exact impl_IsAtom.mono _ _ _ _)
   | (with_reducible exact impl_IsPoint.mono _ _ _)
   | (with_reducible exact impl_IsRatio.mono _ _ _)
   | (with_reducible exact impl_MultiplyRatios.mono _ _ _ _ _)
   | (with_reducible exact LeO.refl _)
   | (with_reducible exact LeO.none _)
   | (with_reducible refine LeO.ite ?_ ?_)
   | (with_reducible refine LeO.bind ?_ (fun _ => ?_))
   | exact ih0 _ _ _ _ _
   | exact ih1 _ _ _ _ _ _
   | exact impl_AddRatios.mono _ _ _ _ _
   | exact impl_IsAtom.mono _ _ _ _
   | exact impl_IsPoint.mono _ _ _
   | exact impl_IsRatio.mono _ _ _
   | exact impl_MultiplyRatios.mono _ _ _ _ _
   | exact LeO.none _
   | refine LeO.ite ?_ ?_
   | refine LeO.bind ?_ (fun _ => ?_)
  ·
   intro y0 y1 y2 y3 y4 y5
   unfold impl_ValueOf.l0
   repeat' first
   | (with_reducible exact ih0 _ _ _ _ _)
   | (with_reducible exact ih1 _ _ _ _ _ _)
   | (with_reducible exact impl_AddRatios.mono _ _ _ _ _)
   | (with_reducible exact impl_IsAtom.mono _ _ _ _)
   | (with_reducible exact impl_IsPoint.mono _ _ _)
   | (with_reducible exact impl_IsRatio.mono _ _ _)
   | (with_reducible exact impl_MultiplyRatios.mono _ _ _ _ _)
   | (with_reducible exact LeO.refl _)
   | (with_reducible exact LeO.none _)
   | (with_reducible refine LeO.ite ?_ ?_)
   | (with_reducible refine LeO.bind ?_ (fun _ => ?_))
   | exact ih0 _ _ _ _ _
   | exact ih1 _ _ _ _ _ _
   | exact impl_AddRatios.mono _ _ _ _ _
   | exact impl_IsAtom.mono _ _ _ _
   | exact impl_IsPoint.mono _ _ _
   | exact impl_IsRatio.mono _ _ _
   | exact impl_MultiplyRatios.mono _ _ _ _ _
   | exact LeO.none _
   | refine LeO.ite ?_ ?_
   | refine LeO.bind ?_ (fun _ => ?_)
theorem impl_ValueOf.mono : ∀ a0 a1 a2 a3 k, LeO (impl_ValueOf.f k a0 a1 a2 a3) (impl_ValueOf.f (k + 1) a0 a1 a2 a3) := by
 intro a0 a1 a2 a3 k
 obtain ⟨ih0, ih1⟩ := impl_ValueOf.mono_l k
 unfold impl_ValueOf.f
 repeat' first
   | (with_reducible exact ih0 _ _ _ _ _)
   | (with_reducible exact ih1 _ _ _ _ _ _)
   | (with_reducible exact impl_AddRatios.mono _ _ _ _ _)
   | (with_reducible exact impl_IsAtom.mono _ _ _ _)
   | (with_reducible exact impl_IsPoint.mono _ _ _)
   | (with_reducible exact impl_IsRatio.mono _ _ _)
   | (with_reducible exact impl_MultiplyRatios.mono _ _ _ _ _)
   | (with_reducible exact LeO.refl _)
   | (with_reducible exact LeO.none _)
   | (with_reducible refine LeO.ite ?_ ?_)
   | (with_reducible refine LeO.bind ?_ (fun _ => ?_))
   | exact ih0 _ _ _ _ _
   | exact ih1 _ _ _ _ _ _
   | exact impl_AddRatios.mono _ _ _ _ _
   | exact impl_IsAtom.mono _ _ _ _
   | exact impl_IsPoint.mono _ _ _
   | exact impl_IsRatio.mono _ _ _
   | exact impl_MultiplyRatios.mono _ _ _ _ _
   | exact LeO.none _
   | refine LeO.ite ?_ ?_
   | refine LeO.bind ?_ (fun _ => ?_)
def impl_ValueOf.T7 : Bool × List (List Nat × List Nat) := (true, [([], []), ([], []), ([1], [1]), ([], []), ([], []), ([3, 4], [3, 4]), ([5], [5]), ([2, 6], [2, 6]), ([0, 7, 7], [0, 7]), ([8, 8, 0, 1, 2, 3, 4, 5, 6, 7, 8], [8])])
def impl_ValueOf.B7 : List Nat := [0, 0, 2, 0, 0, 24, 56, 126, 255, 511]
theorem impl_ValueOf.tab7 : rtab .any (opsOf Try.f44 7) = impl_ValueOf.T7 := by kernel_rfl
theorem impl_ValueOf.bits7 : waitsOk impl_ValueOf.T7.2 impl_ValueOf.B7 = true := by kernel_rfl
set_option maxHeartbeats 8000000 in
set_option maxRecDepth 100000 in
theorem impl_ValueOf.calls (k : Nat) (A0_0 : Option Addr) (c0_0 : Nat) (l0_0 : List Int) (a0_1 : Int) (a0_2 : Bool) (A1 : Option Addr) (c1 : Nat) (l1 : List (S37)) (r1 : Int) (r2 : Int) (r3 : Bool) (w : World) (hr0_0 : Kd.C (Kd.int .i64) w A0_0 l0_0.length l0_0) (hc0_0 : l0_0.length ≤ c0_0) (hr1 : Kd.C k37 w A1 l1.length l1) (hc1 : l1.length ≤ c1) (h : impl_ValueOf.f k l0_0 a0_1 a0_2 l1 = some (r1, r2, r3)) :
  Calls Try.prog 44 #[.agg #[.slice A0_0 l0_0.length c0_0, .int .i64 a0_1, .bool a0_2], .slice A1 l1.length c1] w fun e w' => e = .returned (.tuple #[.agg #[.int .i64 r1, .int .i64 r2], .bool r3]) ∧ Below w.heap.size w w' := by
 have hu26 := Try.underlying26
 have hu37 := Try.underlying37
 have qO := Aside0.mk hr0_0
 have zf := Aside0.mk hc0_0
 clear hr0_0 hc0_0
 have HR1 := Aside0.mk hr1
 have HC1 := Aside0.mk hc1
 clear hr1 hc1
 have HB := Aside0.mk (Below.refl w.heap.size w)
 have H : ((impl_IsAtom.f k l0_0 a0_1 a0_2).bind fun qN => (if qN = true then ((impl_IsPoint.f k l1 (l0_0.length : Int)).bind fun qr => (impl_ValueOf.j0 k l1 (!qr) l0_0 a0_1 a0_2)) else (impl_ValueOf.j0 k l1 true l0_0 a0_1 a0_2))) = some (r1, r2, r3) := h
 clear h
 have HC3 := Aside0.mk H
 clear H
 go_enter Try.func44, Try.ntmps44
 go_upto_region 1 with (first | ((with_reducible refine gate_dst (N := 2) rfl ?_); (try (refine gate_guard (by rfl) ?_; dsimp only)); refine box_event ?hg (N := 2) ?hd (cs := #[.slice A0_0 l0_0.length c0_0, .int .i64 a0_1, .bool a0_2]) (t := 26) ?hr ?_; (case hd => rfl); (case hg => rfl); (case hr => first | (go_simp; done) | (go_simp; rfl)); intro qg hg w4 hbox hb; have qa := Aside0.mk (hbox); have zk := Aside0.mk ((by rw [hg]; exact (bz_ HB) : w.heap.size ≤ qg)); have zl := Aside0.mk ((by rw [hg]; exact (bz_ HB) : w.heap.size ≤ qg)); replace HB := bS_ HB hb; clear hb hbox hg) | ((with_reducible refine gate_dst (N := 4) rfl ?_); (try (refine gate_guard (by rfl) ?_; dsimp only)); refine box_event ?hg (N := 4) ?hd (cs := #[.int .i64 0, .int .i64 0]) (t := 37) ?hr ?_; (case hd => rfl); (case hg => rfl); (case hr => first | (go_simp; done) | (go_simp; rfl)); intro qi hg w5 hbox hb; have qb := Aside0.mk (hbox); have zm := Aside0.mk ((by rw [hg]; exact (bz_ HB) : w.heap.size ≤ qi)); have zn := Aside0.mk ((by rw [hg]; exact (bz_ HB) : w.heap.size ≤ qi)); replace HB := bS_ HB hb; have qj := Aside0.mk ((nl_ qa hg : qg ≠ qi)); have qk := Aside0.mk ((ng_ qa hg : qi ≠ qg)); replace qa := kB_ qa hb; clear hb hbox hg))
 (try simp only [Act.put, List.setIfInBounds_toArray, List.set_cons_zero, List.set_cons_succ])
 go_cut [19] (fun v19 wc => ∃ (kq : Nat) (qu : Bool), v19 = .bool qu ∧ Aside0 (impl_ValueOf.j0 kq l1 qu l0_0 a0_1 a0_2 = some (r1, r2, r3)) ∧ Aside0 (kq ≤ k) ∧ Aside0 (wc.heap[qg]? = some (.cells #[(.slice A0_0 l0_0.length c0_0), .int .i64 a0_1, .bool a0_2] 26 (0, 0))) ∧ Aside0 (wc.heap[qi]? = some (.cells #[.int .i64 0, .int .i64 0] 37 (0, 0))) ∧ Aside0 (Below w.heap.size w wc))
 case first =>
  have H := HC3.out
  clear HC3
  replace H := Option.bind_eq_some_iff.mp H
  obtain ⟨qN, A60, H⟩ := H
  replace H : (if qN = true then ((impl_IsPoint.f k l1 (l0_0.length : Int)).bind fun qr => (impl_ValueOf.j0 k l1 (!qr) l0_0 a0_1 a0_2)) else (impl_ValueOf.j0 k l1 true l0_0 a0_1 a0_2)) = some (r1, r2, r3) := H
  have A6 := Aside0.mk A60
  clear A60
  by_cases c7 : qN = true
  ·
   subst c7
   have H1 : ((impl_IsPoint.f k l1 (l0_0.length : Int)).bind fun qr => (impl_ValueOf.j0 k l1 (!qr) l0_0 a0_1 a0_2)) = some (r1, r2, r3) := by rw [if_pos rfl] at H; exact H
   clear H
   have H := H1
   clear H1
   replace H := Option.bind_eq_some_iff.mp H
   obtain ⟨qr, A80, H⟩ := H
   replace H : (impl_ValueOf.j0 k l1 (!qr) l0_0 a0_1 a0_2) = some (r1, r2, r3) := H
   have A8 := Aside0.mk A80
   clear A80
   have H' := Aside0.mk H
   clear H
   have zG := qj.out
   have zH := qk.out
   have qv : w5.cell? ⟨qg, 0, none⟩ = some (.slice A0_0 l0_0.length c0_0) := bc_ qa 0
   have qw : w5.cell? ⟨qg, 1, none⟩ = some (.int .i64 a0_1) := bc_ qa 1
   have qx : w5.cell? ⟨qg, 2, none⟩ = some (.bool a0_2) := bc_ qa 2
   have qy := blk_frozen qa.out 0
   have qz := blk_frozen qa.out 1
   have qA := blk_frozen qa.out 2
   go_wp2_with (first | ((with_reducible refine gate_callee (f := 38) rfl ?_); refine goesL_ (some 10) rfl rfl Try.func38 (by kernel_rfl) rfl #[.agg #[.slice A0_0 l0_0.length c0_0, .int .i64 a0_1, .bool a0_2]] rfl (by (try simp only [List.map_toArray, List.map_cons, List.map_nil]); first | done | rfl | (simp only [List.length_drop, List.length_take]; rfl)) ?_; (with_reducible refine (impl_IsAtom.calls k _ _ l0_0 a0_1 a0_2 true _ ?side1 ?side2 A6.out).mono ?_); (case side1 => exact cb_ qO HB); (case side2 => exact zf.out); rintro e zj ⟨rfl, hb⟩; refine ⟨_, rfl, ?_⟩; replace qa := kB_ qa hb; replace qb := kB_ qb hb; replace HB := bS_ HB hb; (try clear hb); (try clear hb2); (try clear hk); (try clear hi); have qB : zj.cell? ⟨qg, 0, none⟩ = some (.slice A0_0 l0_0.length c0_0) := bc_ qa 0; have qC : zj.cell? ⟨qg, 1, none⟩ = some (.int .i64 a0_1) := bc_ qa 1; have qD : zj.cell? ⟨qg, 2, none⟩ = some (.bool a0_2) := bc_ qa 2; have qE := blk_frozen qa.out 0; have qF := blk_frozen qa.out 1; have qG := blk_frozen qa.out 2) | (go_at_call 59; (with_reducible refine (impl_IsPoint.calls k _ _ l1 (l0_0.length : Int) qr _ ?side1 ?side2 A8.out).mono ?_); (case side1 => exact cb_ HR1 HB); (case side2 => exact HC1.out); rintro e zI ⟨rfl, hb⟩; replace qa := kB_ qa hb; replace qb := kB_ qb hb; replace HB := bS_ HB hb; (try clear hb); (try clear hb2); (try clear hk); (try clear hi)))
   go_meet
   case rel => exact ⟨_, (!qr), (by first | rfl | (simp; done) | (simp [*]; done)), H', ⟨by first | omega | exact Nat.le_refl _⟩, ⟨kf_ qa⟩, ⟨kf_ qb⟩, ⟨bb_ HB⟩⟩
  ·
   replace c7 := Bool.eq_false_iff.mpr c7
   subst c7
   have H1 : (impl_ValueOf.j0 k l1 true l0_0 a0_1 a0_2) = some (r1, r2, r3) := by rw [if_neg (show ¬ (false = true) by decide)] at H; exact H
   clear H
   have H := H1
   clear H1
   have H' := Aside0.mk H
   clear H
   have zo := qj.out
   have zp := qk.out
   have qH : w5.cell? ⟨qg, 0, none⟩ = some (.slice A0_0 l0_0.length c0_0) := bc_ qa 0
   have qI : w5.cell? ⟨qg, 1, none⟩ = some (.int .i64 a0_1) := bc_ qa 1
   have qJ : w5.cell? ⟨qg, 2, none⟩ = some (.bool a0_2) := bc_ qa 2
   have qK := blk_frozen qa.out 0
   have qL := blk_frozen qa.out 1
   have qM := blk_frozen qa.out 2
   go_wp2_with (first | ((with_reducible refine gate_callee (f := 38) rfl ?_); refine goesL_ (some 10) rfl rfl Try.func38 (by kernel_rfl) rfl #[.agg #[.slice A0_0 l0_0.length c0_0, .int .i64 a0_1, .bool a0_2]] rfl (by (try simp only [List.map_toArray, List.map_cons, List.map_nil]); first | done | rfl | (simp only [List.length_drop, List.length_take]; rfl)) ?_; (with_reducible refine (impl_IsAtom.calls k _ _ l0_0 a0_1 a0_2 false _ ?side1 ?side2 A6.out).mono ?_); (case side1 => exact cb_ qO HB); (case side2 => exact zf.out); rintro e zJ ⟨rfl, hb⟩; refine ⟨_, rfl, ?_⟩; replace qa := kB_ qa hb; replace qb := kB_ qb hb; replace HB := bS_ HB hb; (try clear hb); (try clear hb2); (try clear hk); (try clear hi)))
   go_meet
   case rel => exact ⟨_, (true), (by first | rfl | (simp; done) | (simp [*]; done)), H', ⟨by first | omega | exact Nat.le_refl _⟩, ⟨kf_ qa⟩, ⟨kf_ qb⟩, ⟨bb_ HB⟩⟩
 case rest =>
  clear HC3
  try clear c1
  try clear p2
  try clear c3
  try clear c4
  try clear c7
  try clear c9
  try clear c14
  try clear qv
  try clear qw
  try clear qx
  try clear qB
  try clear qC
  try clear qD
  try clear qH
  try clear qI
  try clear qJ
  try clear qy
  try clear qz
  try clear qA
  try clear qE
  try clear qF
  try clear qG
  try clear qK
  try clear qL
  try clear qM
  obtain ⟨kq, qu, rfl, HA, HJ2, qa, qb, HB⟩ := hcut
  cases kq with
  | zero => exact absurd HA.out (by simp [impl_ValueOf.j0])
  | succ kj2 =>
   have H := HA.out
   clear HA
   simp only [impl_ValueOf.j0] at H
   by_cases c17 : qu = true
   ·
    subst c17
    have H1 : (some (0, 0, false)) = some (r1, r2, r3) := by rw [if_pos rfl] at H; exact H
    clear H
    have H := H1
    clear H1
    simp only [Option.some.injEq, Prod.mk.injEq] at H
    obtain ⟨rfl, rfl, rfl⟩ := H
    have zq := qk.out
    have zr := qj.out
    have qR : wc.cell? ⟨qi, 0, none⟩ = some (.int .i64 0) := bc_ qb 0
    have qS : wc.cell? ⟨qi, 1, none⟩ = some (.int .i64 0) := bc_ qb 1
    have qT := blk_frozen qb.out 0
    have qU := blk_frozen qb.out 1
    go_wp2
    refine bodyPost_ret (results_ct rfl _ _ qi 37 #[.int .i64 0, .int .i64 0] (0, 0) _ rfl (by (with_reducible repeat (first | refine blk_drewN ?_ _ | refine blk_drew ?_ | refine blk_alloc ?_ _)); refine blk_put (cs := #[.int .i64 0, .int .i64 0]) ?_ 1 _ rfl; (with_reducible repeat (first | refine blk_drewN ?_ _ | refine blk_drew ?_ | refine blk_alloc ?_ _)); refine blk_put (cs := #[.int .i64 0, .int .i64 0]) ?_ 0 _ rfl; (with_reducible repeat (first | refine blk_drewN ?_ _ | refine blk_drew ?_ | refine blk_alloc ?_ _)); exact qb.out) Try.underlying37 rfl (by kernel_rfl)) rfl ?_
    exact ⟨by first | rfl | (simp [errW_none, errW_some] <;> rfl) | (simp [*, errW_none, errW_some] <;> rfl), bb_ HB⟩
   ·
    replace c17 := Bool.eq_false_iff.mpr c17
    subst c17
    have H1 : (impl_ValueOf.l0 kj2 l1 l0_0 (l0_0.length : Int) 0 a0_1 1) = some (r1, r2, r3) := by rw [if_neg (show ¬ (false = true) by decide)] at H; exact H
    clear H
    have H := H1
    clear H1
    have H' := Aside0.mk H
    clear H
    have zs := qj.out
    have zt := qk.out
    have qV : wc.cell? ⟨qg, 0, none⟩ = some (.slice A0_0 l0_0.length c0_0) := bc_ qa 0
    have qW : wc.cell? ⟨qg, 1, none⟩ = some (.int .i64 a0_1) := bc_ qa 1
    have qX : wc.cell? ⟨qg, 2, none⟩ = some (.bool a0_2) := bc_ qa 2
    have qY := blk_frozen qa.out 0
    have qZ := blk_frozen qa.out 1
    have q0 := blk_frozen qa.out 2
    go_wp2_with (first | ((with_reducible refine gate_dst (N := 6) rfl ?_); (try (refine gate_guard (by rfl) ?_; dsimp only)); refine box_event ?hg (N := 6) ?hd (cs := #[.int .i64 0, .int .i64 0]) (t := 37) ?hr ?_; (case hd => rfl); (case hg => rfl); (case hr => first | (go_simp; done) | (go_simp; rfl)); intro ql hg zh hbox hb; have qe := Aside0.mk (hbox); have zu := Aside0.mk ((by rw [hg]; exact (bz_ HB) : w.heap.size ≤ ql)); have zv := Aside0.mk ((by rw [hg]; exact (bz_ HB) : w.heap.size ≤ ql)); replace HB := bS_ HB hb; have qp := Aside0.mk ((nl_ qa hg : qg ≠ ql)); have qq := Aside0.mk ((ng_ qa hg : ql ≠ qg)); replace qa := kB_ qa hb; have qm := Aside0.mk ((nl_ qb hg : qi ≠ ql)); have qh := Aside0.mk ((ng_ qb hg : ql ≠ qi)); replace qb := kB_ qb hb; clear hb hbox hg; have zw := qq.out; have zx := qp.out; have zy := qh.out; have zz := qm.out; have q1 : zh.cell? ⟨ql, 0, none⟩ = some (.int .i64 0) := bc_ qe 0; have q2 : zh.cell? ⟨ql, 1, none⟩ = some (.int .i64 0) := bc_ qe 1; have q3 := blk_frozen qe.out 0; have q4 := blk_frozen qe.out 1; have q5 : zh.cell? ⟨qg, 0, none⟩ = some (.slice A0_0 l0_0.length c0_0) := bc_ qa 0; have q6 : zh.cell? ⟨qg, 1, none⟩ = some (.int .i64 a0_1) := bc_ qa 1; have q7 : zh.cell? ⟨qg, 2, none⟩ = some (.bool a0_2) := bc_ qa 2; have q8 := blk_frozen qa.out 0; have q9 := blk_frozen qa.out 1; have za := blk_frozen qa.out 2))
    go_loopg [27] kj2 (fun kq v27 w' => ∃ (qf : Int) (qc : Int) (qd : Int), v27 = .int .i64 qf ∧ Aside0 (impl_ValueOf.l0 kq l1 l0_0 (l0_0.length : Int) qf qc qd = some (r1, r2, r3)) ∧ Aside0 (kq ≤ kj2) ∧ Aside0 (w'.heap[qg]? = some (.cells #[(.slice A0_0 l0_0.length c0_0), .int .i64 a0_1, .bool a0_2] 26 (0, 0))) ∧ Aside0 (w'.heap[qi]? = some (.cells #[.int .i64 0, .int .i64 0] 37 (0, 0))) ∧ Aside0 (w'.heap[ql]? = some (.cells #[.int .i64 qc, .int .i64 qd] 37 (0, 0))) ∧ Aside0 (Below w.heap.size w w'))
    case atStart => exact ⟨(0), (a0_1), (1), (by first | rfl | (simp; done) | (simp [*]; done)), H', ⟨Nat.le_refl _⟩, ⟨kf_ qa⟩, ⟨kf_ qb⟩, ⟨by (with_reducible repeat (first | refine blk_drewN ?_ _ | refine blk_drew ?_ | refine blk_alloc ?_ _)); refine blk_put (cs := #[.int .i64 a0_1, .int .i64 0]) ?_ 1 _ rfl; (with_reducible repeat (first | refine blk_drewN ?_ _ | refine blk_drew ?_ | refine blk_alloc ?_ _)); refine blk_put (cs := #[.int .i64 0, .int .i64 0]) ?_ 0 _ rfl; (with_reducible repeat (first | refine blk_drewN ?_ _ | refine blk_drew ?_ | refine blk_alloc ?_ _)); exact qe.out⟩, ⟨bb_ HB⟩⟩
    case round =>
     clear H'
     try clear c1
     try clear c2
     try clear p2
     try clear c3
     try clear c4
     try clear c7
     try clear c9
     try clear c14
     try clear c17
     try clear c18
     try clear c20
     try clear c23
     try clear c24
     try clear qv
     try clear qw
     try clear qx
     try clear qB
     try clear qC
     try clear qD
     try clear qH
     try clear qI
     try clear qJ
     try clear qR
     try clear qS
     try clear qV
     try clear qW
     try clear qX
     try clear q1
     try clear q2
     try clear q5
     try clear q6
     try clear q7
     try clear qy
     try clear qz
     try clear qA
     try clear qE
     try clear qF
     try clear qG
     try clear qK
     try clear qL
     try clear qM
     try clear qT
     try clear qU
     try clear qY
     try clear qZ
     try clear q0
     try clear q3
     try clear q4
     try clear q8
     try clear q9
     try clear za
     try clear p2
     obtain ⟨qf, qc, qd, rfl, HA, HK2, qa, qb, qe, HB⟩ := hrel
     cases gk with
     | zero => exact absurd HA.out (by simp [impl_ValueOf.l0])
     | succ k2 =>
      have H := HA.out
      clear HA
      simp only [impl_ValueOf.l0] at H
      by_cases c27 : qf < (l0_0.length : Int)
      ·
       rw [if_pos c27] at H
       have zi : decide (qf < (l0_0.length : Int)) = true := decide_eq_true c27
       clear c27
       by_cases c28 : 0 ≤ qf
       ·
        rw [if_pos c28] at H
        have zA : decide (0 ≤ qf) = true := decide_eq_true c28
        clear c28
        by_cases c29 : qf < (l0_0.length : Int)
        ·
         rw [if_pos c29] at H
         have zB : decide (qf < (l0_0.length : Int)) = true := decide_eq_true c29
         clear c29
         by_cases c30 : qf < (l1.length : Int)
         ·
          rw [if_pos c30] at H
          have zC : decide (qf < (l1.length : Int)) = true := decide_eq_true c30
          clear c30
          replace H := Option.bind_eq_some_iff.mp H
          obtain ⟨⟨zb, zc⟩, A310, H⟩ := H
          replace H : ((impl_AddRatios.f k2 qc qd zb zc).bind fun qt => (impl_ValueOf.l0 k2 l1 l0_0 (l0_0.length : Int) (wrap64 (qf + 1)) qt.1 qt.2)) = some (r1, r2, r3) := H
          have A31 := Aside0.mk A310
          clear A310
          replace H := Option.bind_eq_some_iff.mp H
          obtain ⟨⟨zd, zg⟩, A320, H⟩ := H
          replace H : (impl_ValueOf.l0 k2 l1 l0_0 (l0_0.length : Int) (wrap64 (qf + 1)) zd zg) = some (r1, r2, r3) := H
          have A32 := Aside0.mk A320
          clear A320
          have H' := Aside0.mk H
          clear H
          have p413 : 0 ≤ (qf : Int) := of_decide_eq_true (by first | (with_reducible assumption) | assumption)
          have q413 : qf < (l0_0.length : Int) := of_decide_eq_true (by first | (with_reducible assumption) | assumption)
          obtain ⟨zD, e413, qs⟩ := Kd.at_int qO.out qf p413 q413
          cases e413
          replace qs := (HB.out.cell (World.block_lt_of_cell? w _ qs)).trans qs
          replace p413 := eq_true p413
          replace q413 := eq_true q413
          try go_wp2
          replace qa := Aside0.mk (blk_drew qa.out); replace qb := Aside0.mk (blk_drew qb.out); replace qe := Aside0.mk (blk_drew qe.out); replace HB := Aside0.mk (below_drew1 HB.out)
          have p414 : 0 ≤ (qf : Int) := of_decide_eq_true (by first | (with_reducible assumption) | assumption)
          have q414 : qf < (l1.length : Int) := of_decide_eq_true (by first | (with_reducible assumption) | assumption)
          obtain ⟨qP, e414, qn, qo⟩ := at_T37 HR1.out qf p414 q414
          have hw414_1 := qo
          have hw414_0 := qn
          cases e414
          replace qn := (HB.out.cell (World.block_lt_of_cell? w _ qn)).trans qn
          replace qo := (HB.out.cell (World.block_lt_of_cell? w _ qo)).trans qo
          replace p414 := eq_true p414
          replace q414 := eq_true q414
          refine start_ (n := 10) (S := fun w' => w'.cell? ⟨ql, 0, none⟩ = some (.int .i64 qc) ∧ w'.cell? ⟨ql, 1, none⟩ = some (.int .i64 qd) ∧ w'.cell? (qP.add ((qf).toNat * 2)) = some (.int .i64 ((rd_T37 l1 qf).f0)) ∧ w'.cell? ⟨(qP.add ((qf).toNat * 2)).block, (qP.add ((qf).toNat * 2)).off + 1, none⟩ = some (.int .i64 ((rd_T37 l1 qf).f1))) (ds := [9]) #[false, false, false, false, false, false, false, false, false, false] (by kernel_rfl) rfl rfl ⟨bc_ qe 0, bc_ qe 1, ((HB.out.cell (World.block_lt_of_cell? w _ hw414_0)).trans hw414_0), ((HB.out.cell (World.block_lt_of_cell? w _ hw414_1)).trans hw414_1)⟩ (fun hHeld => ?_); refine with_tabW impl_ValueOf.tab7 impl_ValueOf.bits7 (fun HT_ HW_ => ?_)
          generalize wr.drew = zK at qa qb qe HB qn qo hHeld ⊢
          refine pure_ (i := 1) (N := some 33) (v := ?_) (a' := ?_) #[false, true, false, false, false, false, false, false, false, false] rfl rfl (any_of HT_.out (by kernel_rfl)) (fun _ _ _ h => h) (Or.inl ⟨by rfl, ?_⟩) ?_ ?_
          rotate_left
          ·
           intro w'
           go_simp
           with_reducible rfl
          rotate_left
          ·
           simp only [Act.put, List.setIfInBounds_toArray, List.set_cons_zero, List.set_cons_succ, i64_w, i32_w]
           rfl
          refine pure_ (i := 2) (N := some 34) (v := ?_) (a' := ?_) #[false, true, true, false, false, false, false, false, false, false] rfl rfl (any_of HT_.out (by kernel_rfl)) (fun _ _ _ h => h) (Or.inl ⟨by rfl, ?_⟩) ?_ ?_
          rotate_left
          ·
           intro w'
           go_simp
           with_reducible rfl
          rotate_left
          ·
           simp only [Act.put, List.setIfInBounds_toArray, List.set_cons_zero, List.set_cons_succ, i64_w, i32_w]
           rfl
          refine pure_ (i := 3) (N := some 35) (v := ?_) (a' := ?_) #[false, true, true, true, false, false, false, false, false, false] rfl rfl (any_of HT_.out (by kernel_rfl)) (fun _ _ _ h => h) (Or.inl ⟨by rfl, ?_⟩) ?_ ?_
          rotate_left
          ·
           intro w'
           go_simp
           with_reducible rfl
          rotate_left
          ·
           simp only [Act.put, List.setIfInBounds_toArray, List.set_cons_zero, List.set_cons_succ, i64_w, i32_w]
           rfl
          refine pure_ (i := 4) (N := some 36) (v := ?_) (a' := ?_) #[false, true, true, true, true, false, false, false, false, false] rfl rfl (any_of HT_.out (by kernel_rfl)) (fun _ _ _ h => h) (Or.inl ⟨by rfl, ?_⟩) ?_ ?_
          rotate_left
          ·
           intro w'
           go_simp
           with_reducible rfl
          rotate_left
          ·
           simp only [Act.put, List.setIfInBounds_toArray, List.set_cons_zero, List.set_cons_succ, i64_w, i32_w]
           rfl
          refine pure_ (i := 5) (N := some 37) (v := ?_) (a' := ?_) #[false, true, true, true, true, true, false, false, false, false] rfl rfl (any_of HT_.out (by kernel_rfl)) (fun _ _ _ h => h) (Or.inl ⟨by rfl, ?_⟩) ?_ ?_
          rotate_left
          ·
           intro w'
           go_simp
           with_reducible rfl
          rotate_left
          ·
           simp only [Act.put, List.setIfInBounds_toArray, List.set_cons_zero, List.set_cons_succ, i64_w, i32_w]
           rfl
          refine take_ (i := 0) (N := some 32) (v := ?_) (a' := ?_) #[true, true, true, true, true, true, false, false, false, false] rfl rfl (take_ofW HT_.out HW_.out (by kernel_rfl)) (fun _ _ _ h => h) (Or.inl ⟨by rfl, ?_⟩) hHeld ?_ ?_
          rotate_left
          ·
           rintro w' ⟨s0, s1, s2, s3⟩
           go_simp
           with_reducible rfl
          rotate_left
          ·
           simp only [Act.put, List.setIfInBounds_toArray, List.set_cons_zero, List.set_cons_succ, i64_w, i32_w]
           rfl
          refine take_ (i := 6) (N := some 38) (v := ?_) (a' := ?_) #[true, true, true, true, true, true, true, false, false, false] rfl rfl (take_ofW HT_.out HW_.out (by kernel_rfl)) (fun _ _ _ h => h) (Or.inl ⟨by rfl, ?_⟩) hHeld ?_ ?_
          rotate_left
          ·
           rintro w' ⟨s0, s1, s2, s3⟩
           go_simp
           with_reducible rfl
          rotate_left
          ·
           simp only [Act.put, List.setIfInBounds_toArray, List.set_cons_zero, List.set_cons_succ, i64_w, i32_w]
           rfl
          refine one_ (i := 7) (N := some 39) #[true, true, true, true, true, true, true, true, false, false] rfl rfl (one_of HT_.out (by kernel_rfl)) (by decide) (fun K hK => ?_)
          refine goes_ Try.func77 (by kernel_rfl) rfl #[.agg #[.int .i64 (rd l0_0 qf), .int .i64 1], .agg #[.int .i64 ((rd_T37 l1 qf).f0), .int .i64 ((rd_T37 l1 qf).f1)]] (by rfl) rfl rfl (by (try simp only [List.map_toArray, List.map_cons, List.map_nil]); first | done | rfl | (simp only [List.length_drop, List.length_take]; rfl)) ?_
          with_reducible refine (impl_MultiplyRatios.calls k2 (rd l0_0 qf) 1 ((rd_T37 l1 qf).f0) ((rd_T37 l1 qf).f1) zb zc _ A31.out).mono ?_
          rintro e zL ⟨rfl, hb⟩
          refine ⟨_, rfl, ?_⟩
          replace qa := kB_ qa hb; replace qb := kB_ qb hb; replace qe := kB_ qe hb; replace HB := bS_ HB hb; (try clear hb); (try clear hb2); (try clear hk); (try clear hi)
          refine hK.out _ _ ⟨bc_ qe 0, bc_ qe 1, ((HB.out.cell (World.block_lt_of_cell? w _ hw414_0)).trans hw414_0), ((HB.out.cell (World.block_lt_of_cell? w _ hw414_1)).trans hw414_1)⟩ (fun hHeld => ?_)
          clear hK K
          refine norm_ (a' := ?_) ?_ ?_
          rotate_left
          ·
           show Act.put _ (some 39) _ = _
           simp only [Act.put, List.setIfInBounds_toArray, List.set_cons_zero, List.set_cons_succ, i64_w, i32_w]
           rfl
          refine one_ (i := 8) (N := some 40) #[true, true, true, true, true, true, true, true, true, false] rfl rfl (one_of HT_.out (by kernel_rfl)) (by decide) (fun K hK => ?_)
          refine goes_ Try.func76 (by kernel_rfl) rfl #[.agg #[.int .i64 qc, .int .i64 qd], .agg #[.int .i64 zb, .int .i64 zc]] (by rfl) rfl rfl (by (try simp only [List.map_toArray, List.map_cons, List.map_nil]); first | done | rfl | (simp only [List.length_drop, List.length_take]; rfl)) ?_
          with_reducible refine (impl_AddRatios.calls k2 qc qd zb zc zd zg _ A32.out).mono ?_
          rintro e zE ⟨rfl, hb⟩
          refine ⟨_, rfl, ?_⟩
          replace qa := kB_ qa hb; replace qb := kB_ qb hb; replace qe := kB_ qe hb; replace HB := bS_ HB hb; (try clear hb); (try clear hb2); (try clear hk); (try clear hi)
          refine hK.out _ _ ⟨bc_ qe 0, bc_ qe 1, ((HB.out.cell (World.block_lt_of_cell? w _ hw414_0)).trans hw414_0), ((HB.out.cell (World.block_lt_of_cell? w _ hw414_1)).trans hw414_1)⟩ (fun hHeld => ?_)
          clear hK K
          refine norm_ (a' := ?_) ?_ ?_
          rotate_left
          ·
           show Act.put _ (some 40) _ = _
           simp only [Act.put, List.setIfInBounds_toArray, List.set_cons_zero, List.set_cons_succ, i64_w, i32_w]
           rfl
          refine last_ (i := 9) (N := none) #[true, true, true, true, true, true, true, true, true, true] rfl rfl (one_of HT_.out (by kernel_rfl)) (by decide) (fun K hK => ?_)
          have hs36 : zE.cell? ⟨ql, 0, none⟩ = some (.int .i64 qc) := bc_ qe 0
          have hfs36 := blk_frozen qe.out 0
          have hns36_0 := qp.out
          have hns36_1 := qm.out
          have hms36_0 := qq.out
          have hms36_1 := qh.out
          have hs37 : zE.cell? ⟨ql, 1, none⟩ = some (.int .i64 qd) := bc_ qe 1
          have hfs37 := blk_frozen qe.out 1
          have hns37_0 := qp.out
          have hns37_1 := qm.out
          have hms37_0 := qq.out
          have hms37_1 := qh.out
          refine skip_ (w1 := ?_) (by rfl) rfl ?_ ?_
          rotate_left
          ·
           go_simp
           rfl
          refine hK.out _ _ ?_
          clear hK K
          refine done_ (done_of HT_.out (by kernel_rfl)) ?_
          try go_wp2
          go_roundg k2
          case measure => have := HJ2.out; have := HK2.out; omega
          case rel => exact ⟨(wrap64 (qf + 1)), (zd), (zg), (by first | rfl | (simp; done) | (simp [*]; done)), H', ⟨by have := HJ2.out; have := HK2.out; omega⟩, ⟨kf_ qa⟩, ⟨kf_ qb⟩, ⟨by (with_reducible repeat (first | refine blk_drewN ?_ _ | refine blk_drew ?_ | refine blk_alloc ?_ _)); refine blk_put (cs := #[.int .i64 zd, .int .i64 qd]) ?_ 1 _ rfl; (with_reducible repeat (first | refine blk_drewN ?_ _ | refine blk_drew ?_ | refine blk_alloc ?_ _)); refine blk_put (cs := #[.int .i64 qc, .int .i64 qd]) ?_ 0 _ rfl; (with_reducible repeat (first | refine blk_drewN ?_ _ | refine blk_drew ?_ | refine blk_alloc ?_ _)); exact qe.out⟩, ⟨bb_ HB⟩⟩
         ·
          rw [if_neg c30] at H
          exact absurd H (by simp)
        ·
         rw [if_neg c29] at H
         exact absurd H (by simp)
       ·
        rw [if_neg c28] at H
        exact absurd H (by simp)
      ·
       rw [if_neg c27] at H
       have zi : decide (qf < (l0_0.length : Int)) = false := decide_eq_false c27
       clear c27
       replace H := Option.bind_eq_some_iff.mp H
       obtain ⟨qQ, A380, H⟩ := H
       replace H : (some (qc, qd, qQ)) = some (r1, r2, r3) := H
       have A38 := Aside0.mk A380
       clear A380
       simp only [Option.some.injEq, Prod.mk.injEq] at H
       obtain ⟨rfl, rfl, rfl⟩ := H
       try go_wp2
       replace qa := Aside0.mk (blk_drew qa.out); replace qb := Aside0.mk (blk_drew qb.out); replace qe := Aside0.mk (blk_drew qe.out); replace HB := Aside0.mk (below_drew1 HB.out)
       refine start_ (n := 5) (S := fun w' => w'.cell? ⟨ql, 0, none⟩ = some (.int .i64 qc) ∧ w'.cell? ⟨ql, 1, none⟩ = some (.int .i64 qd)) (ds := []) #[false, false, false, false, false] (by kernel_rfl) rfl rfl ⟨bc_ qe 0, bc_ qe 1⟩ (fun hHeld => ?_)
       generalize wr.drew = zM at qa qb qe HB hHeld ⊢
       refine take_ (i := 0) (N := some 42) (v := ?_) (a' := ?_) #[true, false, false, false, false] rfl rfl (by kernel_rfl) (fun _ _ _ h => h) (Or.inl ⟨by rfl, ?_⟩) hHeld ?_ ?_
       rotate_left
       ·
        rintro w' ⟨s0, s1⟩
        go_simp
        with_reducible rfl
       rotate_left
       ·
        simp only [Act.put, List.setIfInBounds_toArray, List.set_cons_zero, List.set_cons_succ, i64_w, i32_w]
        rfl
       refine take_ (i := 1) (N := some 43) (v := ?_) (a' := ?_) #[true, true, false, false, false] rfl rfl (by kernel_rfl) (fun _ _ _ h => h) (Or.inl ⟨by rfl, ?_⟩) hHeld ?_ ?_
       rotate_left
       ·
        rintro w' ⟨s0, s1⟩
        go_simp
        with_reducible rfl
       rotate_left
       ·
        simp only [Act.put, List.setIfInBounds_toArray, List.set_cons_zero, List.set_cons_succ, i64_w, i32_w]
        rfl
       refine one_ (i := 2) (N := some 44) #[true, true, true, false, false] rfl rfl (by kernel_rfl) (by decide) (fun K hK => ?_)
       refine goes_ Try.func45 (by kernel_rfl) rfl #[.agg #[.int .i64 qc, .int .i64 qd]] (by rfl) rfl rfl (by (try simp only [List.map_toArray, List.map_cons, List.map_nil]); first | done | rfl | (simp only [List.length_drop, List.length_take]; rfl)) ?_
       with_reducible refine (impl_IsRatio.calls k2 qc qd qQ _ A38.out).mono ?_
       rintro e zF ⟨rfl, hb⟩
       refine ⟨_, rfl, ?_⟩
       replace qa := kB_ qa hb; replace qb := kB_ qb hb; replace qe := kB_ qe hb; replace HB := bS_ HB hb; (try clear hb); (try clear hb2); (try clear hk); (try clear hi)
       refine hK.out _ _ ⟨bc_ qe 0, bc_ qe 1⟩ (fun hHeld => ?_)
       clear hK K
       refine norm_ (a' := ?_) ?_ ?_
       rotate_left
       ·
        show Act.put _ (some 44) _ = _
        simp only [Act.put, List.setIfInBounds_toArray, List.set_cons_zero, List.set_cons_succ, i64_w, i32_w]
        rfl
       refine one_ (i := 3) (N := none) #[true, true, true, true, false] rfl rfl (by kernel_rfl) (by decide) (fun K hK => ?_)
       have hs41 : zF.cell? ⟨qi, 0, none⟩ = some (.int .i64 0) := bc_ qb 0
       have hfs41 := blk_frozen qb.out 0
       have hns41_0 := qj.out
       have hns41_2 := qh.out
       have hms41_0 := qk.out
       have hms41_2 := qm.out
       have hs42 : zF.cell? ⟨qi, 1, none⟩ = some (.int .i64 0) := bc_ qb 1
       have hfs42 := blk_frozen qb.out 1
       have hns42_0 := qj.out
       have hns42_2 := qh.out
       have hms42_0 := qk.out
       have hms42_2 := qm.out
       refine skip_ (w1 := ?_) (by rfl) rfl ?_ ?_
       rotate_left
       ·
        go_simp
        rfl
       refine hK.out _ _ ⟨((cell_far (p := ⟨qi, _, none⟩) qh.out _).trans (((cell_far (p := ⟨qi, _, none⟩) qh.out _).trans (hHeld.1)))), ((cell_far (p := ⟨qi, _, none⟩) qh.out _).trans (((cell_far (p := ⟨qi, _, none⟩) qh.out _).trans (hHeld.2))))⟩ (fun hHeld => ?_)
       clear hK K
       refine pure_ (i := 4) (N := some 5) (v := ?_) (a' := ?_) #[true, true, true, true, true] rfl rfl (by kernel_rfl) (fun _ _ _ h => h) (Or.inl ⟨by rfl, ?_⟩) ?_ ?_
       rotate_left
       ·
        intro w'
        go_simp
        with_reducible rfl
       rotate_left
       ·
        simp only [Act.put, List.setIfInBounds_toArray, List.set_cons_zero, List.set_cons_succ, i64_w, i32_w]
        rfl
       refine done_ (by kernel_rfl) ?_
       try go_wp2
       refine bodyPost_ret (results_ct rfl _ _ qi 37 #[.int .i64 qc, .int .i64 qd] (0, 0) _ rfl (by (with_reducible repeat (first | refine blk_drewN ?_ _ | refine blk_drew ?_ | refine blk_alloc ?_ _)); refine blk_put (cs := #[.int .i64 qc, .int .i64 0]) ?_ 1 _ rfl; (with_reducible repeat (first | refine blk_drewN ?_ _ | refine blk_drew ?_ | refine blk_alloc ?_ _)); refine blk_put (cs := #[.int .i64 0, .int .i64 0]) ?_ 0 _ rfl; (with_reducible repeat (first | refine blk_drewN ?_ _ | refine blk_drew ?_ | refine blk_alloc ?_ _)); exact qb.out) Try.underlying37 rfl (by kernel_rfl)) rfl ?_
       exact ⟨by first | rfl | (simp [errW_none, errW_some] <;> rfl) | (simp [*, errW_none, errW_some] <;> rfl), bb_ HB⟩

/-! ### impl_HoldsAt: function 12 -/
def impl_HoldsAt.f (k : Nat) (l0_0 : List Int) (a0_1 : Int) (a0_2 : Bool) (l1 : List (S37)) : Option (Bool × Bool) := (impl_ValueOf.f k l0_0 a0_1 a0_2 l1).bind fun qh => (if qh.2.2 = true then (if qh.1 < 0 then (some (true, true)) else (if qh.1 = 0 then (some (!a0_2, true)) else (some (false, true)))) else (some (false, false)))
theorem impl_HoldsAt.mono : ∀ a0 a1 a2 a3 k, LeO (impl_HoldsAt.f k a0 a1 a2 a3) (impl_HoldsAt.f (k + 1) a0 a1 a2 a3) := by
 intro a0 a1 a2 a3 k
 unfold impl_HoldsAt.f
 repeat' first
   | (with_reducible exact impl_ValueOf.mono _ _ _ _ _)
   | (with_reducible exact LeO.refl _)
   | (with_reducible exact LeO.none _)
   | (with_reducible refine LeO.ite ?_ ?_)
   | (with_reducible refine LeO.bind ?_ (fun _ => ?_))
   | exact impl_ValueOf.mono _ _ _ _ _
   | exact LeO.none _
   | refine LeO.ite ?_ ?_
   | refine LeO.bind ?_ (fun _ => ?_)
set_option maxHeartbeats 8000000 in
set_option maxRecDepth 100000 in
theorem impl_HoldsAt.calls (k : Nat) (A0_0 : Option Addr) (c0_0 : Nat) (l0_0 : List Int) (a0_1 : Int) (a0_2 : Bool) (A1 : Option Addr) (c1 : Nat) (l1 : List (S37)) (r1 : Bool) (r2 : Bool) (w : World) (hr0_0 : Kd.C (Kd.int .i64) w A0_0 l0_0.length l0_0) (hc0_0 : l0_0.length ≤ c0_0) (hr1 : Kd.C k37 w A1 l1.length l1) (hc1 : l1.length ≤ c1) (h : impl_HoldsAt.f k l0_0 a0_1 a0_2 l1 = some (r1, r2)) :
  Calls Try.prog 12 #[.agg #[.slice A0_0 l0_0.length c0_0, .int .i64 a0_1, .bool a0_2], .slice A1 l1.length c1] w fun e w' => e = .returned (.tuple #[.bool r1, .bool r2]) ∧ Below w.heap.size w w' := by
 have hu26 := Try.underlying26
 have hu37 := Try.underlying37
 have qi := Aside0.mk hr0_0
 have qj := Aside0.mk hc0_0
 clear hr0_0 hc0_0
 have HR1 := Aside0.mk hr1
 have HC1 := Aside0.mk hc1
 clear hr1 hc1
 have HB := Aside0.mk (Below.refl w.heap.size w)
 have H : ((impl_ValueOf.f k l0_0 a0_1 a0_2 l1).bind fun qh => (if qh.2.2 = true then (if qh.1 < 0 then (some (true, true)) else (if qh.1 = 0 then (some (!a0_2, true)) else (some (false, true)))) else (some (false, false)))) = some (r1, r2) := h
 clear h
 replace H := Option.bind_eq_some_iff.mp H
 obtain ⟨⟨qg, qo, qp⟩, A30, H⟩ := H
 replace H : (if qp = true then (if qg < 0 then (some (true, true)) else (if qg = 0 then (some (!a0_2, true)) else (some (false, true)))) else (some (false, false))) = some (r1, r2) := H
 have A3 := Aside0.mk A30
 clear A30
 by_cases c4 : qp = true
 ·
  subst c4
  have H1 : (if qg < 0 then (some (true, true)) else (if qg = 0 then (some (!a0_2, true)) else (some (false, true)))) = some (r1, r2) := by rw [if_pos rfl] at H; exact H
  clear H
  have H := H1
  clear H1
  by_cases c5 : qg < 0
  ·
   rw [if_pos c5] at H
   have q7 : decide (qg < 0) = true := decide_eq_true c5
   clear c5
   simp only [Option.some.injEq, Prod.mk.injEq] at H
   obtain ⟨rfl, rfl⟩ := H
   go_enter Try.func12, Try.ntmps12
   go_wp2_with (first | ((with_reducible refine gate_dst (N := 2) rfl ?_); refine box_event ?hg (N := 2) ?hd (cs := #[.slice A0_0 l0_0.length c0_0, .int .i64 a0_1, .bool a0_2]) (t := 26) ?hr ?_; (case hd => rfl); (case hg => rfl); (case hr => first | (go_simp; done) | (go_simp; rfl)); intro qb hg w6 hbox hb; have qa := Aside0.mk (hbox); have qk := Aside0.mk ((by rw [hg]; exact (bz_ HB) : w.heap.size ≤ qb)); have ql := Aside0.mk ((by rw [hg]; exact (bz_ HB) : w.heap.size ≤ qb)); replace HB := bS_ HB hb; clear hb hbox hg; have q8 : w6.cell? ⟨qb, 0, none⟩ = some (.slice A0_0 l0_0.length c0_0) := bc_ qa 0; have q9 : w6.cell? ⟨qb, 1, none⟩ = some (.int .i64 a0_1) := bc_ qa 1; have za : w6.cell? ⟨qb, 2, none⟩ = some (.bool a0_2) := bc_ qa 2; have zb := blk_frozen qa.out 0; have zc := blk_frozen qa.out 1; have zd := blk_frozen qa.out 2) | ((with_reducible refine gate_callee (f := 44) rfl ?_); refine goesL_ (some 11) rfl rfl Try.func44 (by kernel_rfl) rfl #[.agg #[.slice A0_0 l0_0.length c0_0, .int .i64 a0_1, .bool a0_2], .slice A1 l1.length c1] rfl (by (try simp only [List.map_toArray, List.map_cons, List.map_nil]); first | done | rfl | (simp only [List.length_drop, List.length_take]; rfl)) ?_; (with_reducible refine (impl_ValueOf.calls k _ _ l0_0 a0_1 a0_2 _ _ l1 qg qo true _ ?side1 ?side2 ?side3 ?side4 A3.out).mono ?_); (case side1 => exact cb_ qi HB); (case side2 => exact qj.out); (case side3 => exact cb_ HR1 HB); (case side4 => exact HC1.out); rintro e w8 ⟨rfl, hb⟩; refine ⟨_, rfl, ?_⟩; replace qa := kB_ qa hb; replace HB := bS_ HB hb; (try clear hb); (try clear hb2); (try clear hk); (try clear hi)) | ((with_reducible refine gate_dst (N := 6) rfl ?_); refine box_event ?hg (N := 6) ?hd (cs := #[.int .i64 0, .int .i64 0]) (t := 37) ?hr ?_; (case hd => rfl); (case hg => rfl); (case hr => first | (go_simp; done) | (go_simp; rfl)); intro qc hg w9 hbox hb; have qd := Aside0.mk (hbox); have qm := Aside0.mk ((by rw [hg]; exact (bz_ HB) : w.heap.size ≤ qc)); have qn := Aside0.mk ((by rw [hg]; exact (bz_ HB) : w.heap.size ≤ qc)); replace HB := bS_ HB hb; have qe := Aside0.mk ((nl_ qa hg : qb ≠ qc)); have qf := Aside0.mk ((ng_ qa hg : qc ≠ qb)); replace qa := kB_ qa hb; clear hb hbox hg; have zh := qf.out; have zi := qe.out; have qt : w9.cell? ⟨qc, 0, none⟩ = some (.int .i64 0) := bc_ qd 0; have qu : w9.cell? ⟨qc, 1, none⟩ = some (.int .i64 0) := bc_ qd 1; have qv := blk_frozen qd.out 0; have qw := blk_frozen qd.out 1))
   go_ret2
   exact ⟨by first | rfl | (simp [errW_none, errW_some] <;> rfl) | (simp [*, errW_none, errW_some] <;> rfl), bb_ HB⟩
  ·
   rw [if_neg c5] at H
   have q7 : decide (qg < 0) = false := decide_eq_false c5
   clear c5
   by_cases c12 : qg = 0
   ·
    rw [if_pos c12] at H
    have qq : (qg == 0) = true := beq_iff_eq.mpr c12
    have qr : (qg != 0) = false := bne_eq_false_iff_eq.mpr c12
    clear c12
    simp only [Option.some.injEq, Prod.mk.injEq] at H
    obtain ⟨rfl, rfl⟩ := H
    go_enter Try.func12, Try.ntmps12
    go_wp2_with (first | ((with_reducible refine gate_dst (N := 2) rfl ?_); refine box_event ?hg (N := 2) ?hd (cs := #[.slice A0_0 l0_0.length c0_0, .int .i64 a0_1, .bool a0_2]) (t := 26) ?hr ?_; (case hd => rfl); (case hg => rfl); (case hr => first | (go_simp; done) | (go_simp; rfl)); intro qb hg ze hbox hb; have qa := Aside0.mk (hbox); have qk := Aside0.mk ((by rw [hg]; exact (bz_ HB) : w.heap.size ≤ qb)); have ql := Aside0.mk ((by rw [hg]; exact (bz_ HB) : w.heap.size ≤ qb)); replace HB := bS_ HB hb; clear hb hbox hg; have qx : ze.cell? ⟨qb, 0, none⟩ = some (.slice A0_0 l0_0.length c0_0) := bc_ qa 0; have qy : ze.cell? ⟨qb, 1, none⟩ = some (.int .i64 a0_1) := bc_ qa 1; have qz : ze.cell? ⟨qb, 2, none⟩ = some (.bool a0_2) := bc_ qa 2; have qA := blk_frozen qa.out 0; have qB := blk_frozen qa.out 1; have qC := blk_frozen qa.out 2) | ((with_reducible refine gate_callee (f := 44) rfl ?_); refine goesL_ (some 11) rfl rfl Try.func44 (by kernel_rfl) rfl #[.agg #[.slice A0_0 l0_0.length c0_0, .int .i64 a0_1, .bool a0_2], .slice A1 l1.length c1] rfl (by (try simp only [List.map_toArray, List.map_cons, List.map_nil]); first | done | rfl | (simp only [List.length_drop, List.length_take]; rfl)) ?_; (with_reducible refine (impl_ValueOf.calls k _ _ l0_0 a0_1 a0_2 _ _ l1 qg qo true _ ?side1 ?side2 ?side3 ?side4 A3.out).mono ?_); (case side1 => exact cb_ qi HB); (case side2 => exact qj.out); (case side3 => exact cb_ HR1 HB); (case side4 => exact HC1.out); rintro e zr ⟨rfl, hb⟩; refine ⟨_, rfl, ?_⟩; replace qa := kB_ qa hb; replace HB := bS_ HB hb; (try clear hb); (try clear hb2); (try clear hk); (try clear hi)) | ((with_reducible refine gate_dst (N := 6) rfl ?_); refine box_event ?hg (N := 6) ?hd (cs := #[.int .i64 0, .int .i64 0]) (t := 37) ?hr ?_; (case hd => rfl); (case hg => rfl); (case hr => first | (go_simp; done) | (go_simp; rfl)); intro qc hg qs hbox hb; have qd := Aside0.mk (hbox); have qm := Aside0.mk ((by rw [hg]; exact (bz_ HB) : w.heap.size ≤ qc)); have qn := Aside0.mk ((by rw [hg]; exact (bz_ HB) : w.heap.size ≤ qc)); replace HB := bS_ HB hb; have qe := Aside0.mk ((nl_ qa hg : qb ≠ qc)); have qf := Aside0.mk ((ng_ qa hg : qc ≠ qb)); replace qa := kB_ qa hb; clear hb hbox hg; have zj := qf.out; have zk := qe.out; have qD : qs.cell? ⟨qc, 0, none⟩ = some (.int .i64 0) := bc_ qd 0; have qE : qs.cell? ⟨qc, 1, none⟩ = some (.int .i64 0) := bc_ qd 1; have qF := blk_frozen qd.out 0; have qG := blk_frozen qd.out 1; have qH : qs.cell? ⟨qb, 0, none⟩ = some (.slice A0_0 l0_0.length c0_0) := bc_ qa 0; have qI : qs.cell? ⟨qb, 1, none⟩ = some (.int .i64 a0_1) := bc_ qa 1; have qJ : qs.cell? ⟨qb, 2, none⟩ = some (.bool a0_2) := bc_ qa 2; have qK := blk_frozen qa.out 0; have qL := blk_frozen qa.out 1; have qM := blk_frozen qa.out 2))
    go_ret2
    exact ⟨by first | rfl | (simp [errW_none, errW_some] <;> rfl) | (simp [*, errW_none, errW_some] <;> rfl), bb_ HB⟩
   ·
    rw [if_neg c12] at H
    have qq : (qg == 0) = false := beq_eq_false_iff_ne.mpr c12
    have qr : (qg != 0) = true := bne_iff_ne.mpr c12
    simp only [Option.some.injEq, Prod.mk.injEq] at H
    obtain ⟨rfl, rfl⟩ := H
    go_enter Try.func12, Try.ntmps12
    go_wp2_with (first | ((with_reducible refine gate_dst (N := 2) rfl ?_); refine box_event ?hg (N := 2) ?hd (cs := #[.slice A0_0 l0_0.length c0_0, .int .i64 a0_1, .bool a0_2]) (t := 26) ?hr ?_; (case hd => rfl); (case hg => rfl); (case hr => first | (go_simp; done) | (go_simp; rfl)); intro qb hg zf hbox hb; have qa := Aside0.mk (hbox); have qk := Aside0.mk ((by rw [hg]; exact (bz_ HB) : w.heap.size ≤ qb)); have ql := Aside0.mk ((by rw [hg]; exact (bz_ HB) : w.heap.size ≤ qb)); replace HB := bS_ HB hb; clear hb hbox hg; have qN : zf.cell? ⟨qb, 0, none⟩ = some (.slice A0_0 l0_0.length c0_0) := bc_ qa 0; have qO : zf.cell? ⟨qb, 1, none⟩ = some (.int .i64 a0_1) := bc_ qa 1; have qP : zf.cell? ⟨qb, 2, none⟩ = some (.bool a0_2) := bc_ qa 2; have qQ := blk_frozen qa.out 0; have qR := blk_frozen qa.out 1; have qS := blk_frozen qa.out 2) | ((with_reducible refine gate_callee (f := 44) rfl ?_); refine goesL_ (some 11) rfl rfl Try.func44 (by kernel_rfl) rfl #[.agg #[.slice A0_0 l0_0.length c0_0, .int .i64 a0_1, .bool a0_2], .slice A1 l1.length c1] rfl (by (try simp only [List.map_toArray, List.map_cons, List.map_nil]); first | done | rfl | (simp only [List.length_drop, List.length_take]; rfl)) ?_; (with_reducible refine (impl_ValueOf.calls k _ _ l0_0 a0_1 a0_2 _ _ l1 qg qo true _ ?side1 ?side2 ?side3 ?side4 A3.out).mono ?_); (case side1 => exact cb_ qi HB); (case side2 => exact qj.out); (case side3 => exact cb_ HR1 HB); (case side4 => exact HC1.out); rintro e zs ⟨rfl, hb⟩; refine ⟨_, rfl, ?_⟩; replace qa := kB_ qa hb; replace HB := bS_ HB hb; (try clear hb); (try clear hb2); (try clear hk); (try clear hi)) | ((with_reducible refine gate_dst (N := 6) rfl ?_); refine box_event ?hg (N := 6) ?hd (cs := #[.int .i64 0, .int .i64 0]) (t := 37) ?hr ?_; (case hd => rfl); (case hg => rfl); (case hr => first | (go_simp; done) | (go_simp; rfl)); intro qc hg zl hbox hb; have qd := Aside0.mk (hbox); have qm := Aside0.mk ((by rw [hg]; exact (bz_ HB) : w.heap.size ≤ qc)); have qn := Aside0.mk ((by rw [hg]; exact (bz_ HB) : w.heap.size ≤ qc)); replace HB := bS_ HB hb; have qe := Aside0.mk ((nl_ qa hg : qb ≠ qc)); have qf := Aside0.mk ((ng_ qa hg : qc ≠ qb)); replace qa := kB_ qa hb; clear hb hbox hg; have zm := qf.out; have zn := qe.out; have qT : zl.cell? ⟨qc, 0, none⟩ = some (.int .i64 0) := bc_ qd 0; have qU : zl.cell? ⟨qc, 1, none⟩ = some (.int .i64 0) := bc_ qd 1; have qV := blk_frozen qd.out 0; have qW := blk_frozen qd.out 1))
    go_ret2
    exact ⟨by first | rfl | (simp [errW_none, errW_some] <;> rfl) | (simp [*, errW_none, errW_some] <;> rfl), bb_ HB⟩
 ·
  replace c4 := Bool.eq_false_iff.mpr c4
  subst c4
  have H1 : (some (false, false)) = some (r1, r2) := by rw [if_neg (show ¬ (false = true) by decide)] at H; exact H
  clear H
  have H := H1
  clear H1
  simp only [Option.some.injEq, Prod.mk.injEq] at H
  obtain ⟨rfl, rfl⟩ := H
  go_enter Try.func12, Try.ntmps12
  go_wp2_with (first | ((with_reducible refine gate_dst (N := 2) rfl ?_); refine box_event ?hg (N := 2) ?hd (cs := #[.slice A0_0 l0_0.length c0_0, .int .i64 a0_1, .bool a0_2]) (t := 26) ?hr ?_; (case hd => rfl); (case hg => rfl); (case hr => first | (go_simp; done) | (go_simp; rfl)); intro qb hg zg hbox hb; have qa := Aside0.mk (hbox); have qk := Aside0.mk ((by rw [hg]; exact (bz_ HB) : w.heap.size ≤ qb)); have ql := Aside0.mk ((by rw [hg]; exact (bz_ HB) : w.heap.size ≤ qb)); replace HB := bS_ HB hb; clear hb hbox hg; have qX : zg.cell? ⟨qb, 0, none⟩ = some (.slice A0_0 l0_0.length c0_0) := bc_ qa 0; have qY : zg.cell? ⟨qb, 1, none⟩ = some (.int .i64 a0_1) := bc_ qa 1; have qZ : zg.cell? ⟨qb, 2, none⟩ = some (.bool a0_2) := bc_ qa 2; have q0 := blk_frozen qa.out 0; have q1 := blk_frozen qa.out 1; have q2 := blk_frozen qa.out 2) | ((with_reducible refine gate_callee (f := 44) rfl ?_); refine goesL_ (some 11) rfl rfl Try.func44 (by kernel_rfl) rfl #[.agg #[.slice A0_0 l0_0.length c0_0, .int .i64 a0_1, .bool a0_2], .slice A1 l1.length c1] rfl (by (try simp only [List.map_toArray, List.map_cons, List.map_nil]); first | done | rfl | (simp only [List.length_drop, List.length_take]; rfl)) ?_; (with_reducible refine (impl_ValueOf.calls k _ _ l0_0 a0_1 a0_2 _ _ l1 qg qo false _ ?side1 ?side2 ?side3 ?side4 A3.out).mono ?_); (case side1 => exact cb_ qi HB); (case side2 => exact qj.out); (case side3 => exact cb_ HR1 HB); (case side4 => exact HC1.out); rintro e zt ⟨rfl, hb⟩; refine ⟨_, rfl, ?_⟩; replace qa := kB_ qa hb; replace HB := bS_ HB hb; (try clear hb); (try clear hb2); (try clear hk); (try clear hi)) | ((with_reducible refine gate_dst (N := 6) rfl ?_); refine box_event ?hg (N := 6) ?hd (cs := #[.int .i64 0, .int .i64 0]) (t := 37) ?hr ?_; (case hd => rfl); (case hg => rfl); (case hr => first | (go_simp; done) | (go_simp; rfl)); intro qc hg zo hbox hb; have qd := Aside0.mk (hbox); have qm := Aside0.mk ((by rw [hg]; exact (bz_ HB) : w.heap.size ≤ qc)); have qn := Aside0.mk ((by rw [hg]; exact (bz_ HB) : w.heap.size ≤ qc)); replace HB := bS_ HB hb; have qe := Aside0.mk ((nl_ qa hg : qb ≠ qc)); have qf := Aside0.mk ((ng_ qa hg : qc ≠ qb)); replace qa := kB_ qa hb; clear hb hbox hg; have zp := qf.out; have zq := qe.out; have q3 : zo.cell? ⟨qc, 0, none⟩ = some (.int .i64 0) := bc_ qd 0; have q4 : zo.cell? ⟨qc, 1, none⟩ = some (.int .i64 0) := bc_ qd 1; have q5 := blk_frozen qd.out 0; have q6 := blk_frozen qd.out 1))
  go_ret2
  exact ⟨by first | rfl | (simp [errW_none, errW_some] <;> rfl) | (simp [*, errW_none, errW_some] <;> rfl), bb_ HB⟩

/-! ### impl_FixVariable: function 13 -/
mutual
def impl_FixVariable.j0 : Nat → Int → Bool → List Int → Int → Bool → Int → Int → Option (List Int × Int × Bool × Bool)
 | 0, _, _, _, _, _, _, _ => none
 | k + 1, x1, x28, x426000, x426001, x426002, x427000, x427001 => if x28 = true then (some (([] : List Int), 0, false, false)) else (if 0 ≤ (x426000.length : Int) then (if ((x426000.length : Int) : Int).toNat ≤ 35184372088832 then ((some (List.replicate ((x426000.length : Int) : Int).toNat 0 : List Int)).bind fun y430 => (impl_FixVariable.l0 k x1 y430 (y430.length : Int) 0 x426000 x426001 x426002 x427000 x427001)) else (none)) else (none))
def impl_FixVariable.l0 : Nat → Int → List Int → Int → Int → List Int → Int → Bool → Int → Int → Option (List Int × Int × Bool × Bool)
 | 0, _, _, _, _, _, _, _, _, _ => none
 | k + 1, x1, x8, x35, x36, x426000, x426001, x426002, x427000, x427001 => if x36 < x35 then (if 0 ≤ x36 then (if x36 < (x426000.length : Int) then (if x36 < (x8.length : Int) then (impl_FixVariable.l0 k x1 (x8.set (x36 : Int).toNat (wrap64 ((rd x426000 x36) * x427001))) x35 (wrap64 (x36 + 1)) x426000 x426001 x426002 x427000 x427001) else (none)) else (none)) else (none)) else (if 0 ≤ x1 then (if x1 < (x8.length : Int) then (if x1 < (x426000.length : Int) then ((impl_makeOf.f k (x8.set (x1 : Int).toNat 0) (wrap64 ((wrap64 (x426001 * x427001)) + (wrap64 ((rd x426000 x1) * x427000)))) x426002).bind fun qp => (some (qp.1, qp.2.1, qp.2.2.1, qp.2.2.2))) else (none)) else (none)) else (none))
end
def impl_FixVariable.f (k : Nat) (l0_0 : List Int) (a0_1 : Int) (a0_2 : Bool) (a1 : Int) (a2_0 : Int) (a2_1 : Int) : Option (List Int × Int × Bool × Bool) := (impl_IsAtom.f k l0_0 a0_1 a0_2).bind fun ze => (if ze = true then ((impl_IsRatio.f k a2_0 a2_1).bind fun qu => (if qu = true then (if a1 < 0 then (impl_FixVariable.j0 k a1 true l0_0 a0_1 a0_2 a2_0 a2_1) else (impl_FixVariable.j0 k a1 (decide (a1 ≥ (l0_0.length : Int))) l0_0 a0_1 a0_2 a2_0 a2_1)) else (impl_FixVariable.j0 k a1 true l0_0 a0_1 a0_2 a2_0 a2_1))) else (impl_FixVariable.j0 k a1 true l0_0 a0_1 a0_2 a2_0 a2_1))
theorem impl_FixVariable.mono_l : ∀ k, (∀ y0 y1 y2 y3 y4 y5 y6, LeO (impl_FixVariable.j0 k y0 y1 y2 y3 y4 y5 y6) (impl_FixVariable.j0 (k + 1) y0 y1 y2 y3 y4 y5 y6)) ∧ (∀ y0 y1 y2 y3 y4 y5 y6 y7 y8, LeO (impl_FixVariable.l0 k y0 y1 y2 y3 y4 y5 y6 y7 y8) (impl_FixVariable.l0 (k + 1) y0 y1 y2 y3 y4 y5 y6 y7 y8))
 | 0 => ⟨fun _ _ _ _ _ _ _ r h => by simp [impl_FixVariable.j0] at h, fun _ _ _ _ _ _ _ _ _ r h => by simp [impl_FixVariable.l0] at h⟩
 | k + 1 => by
  obtain ⟨ih0, ih1⟩ := impl_FixVariable.mono_l k
  refine ⟨?_, ?_⟩
  ·
   intro y0 y1 y2 y3 y4 y5 y6
   unfold impl_FixVariable.j0
   repeat' first
   | (with_reducible exact ih0 _ _ _ _ _ _ _)
   | (with_reducible exact ih1 _ _ _ _ _ _ _ _ _)
   | (with_reducible exact impl_IsAtom.mono _ _ _ _)
   | (with_reducible exact impl_IsRatio.mono _ _ _)
   | (with_reducible exact impl_makeOf.mono _ _ _ _)
   | (with_reducible exact LeO.refl _)
   | (with_reducible exact LeO.none _)
   | (with_reducible refine LeO.ite ?_ ?_)
   | (with_reducible refine LeO.bind ?_ (fun _ => ?_))
   | exact ih0 _ _ _ _ _ _ _
   | exact ih1 _ _ _ _ _ _ _ _ _
   | exact impl_IsAtom.mono _ _ _ _
   | exact impl_IsRatio.mono _ _ _
   | exact impl_makeOf.mono _ _ _ _
   | exact LeO.none _
   | refine LeO.ite ?_ ?_
   | refine LeO.bind ?_ (fun _ => ?_)
  ·
   intro y0 y1 y2 y3 y4 y5 y6 y7 y8
   unfold impl_FixVariable.l0
   repeat' first
   | (with_reducible exact ih0 _ _ _ _ _ _ _)
   | (with_reducible exact ih1 _ _ _ _ _ _ _ _ _)
   | (with_reducible exact impl_IsAtom.mono _ _ _ _)
   | (with_reducible exact impl_IsRatio.mono _ _ _)
   | (with_reducible exact impl_makeOf.mono _ _ _ _)
   | (with_reducible exact LeO.refl _)
   | (with_reducible exact LeO.none _)
   | (with_reducible refine LeO.ite ?_ ?_)
   | (with_reducible refine LeO.bind ?_ (fun _ => ?_))
   | exact ih0 _ _ _ _ _ _ _
   | exact ih1 _ _ _ _ _ _ _ _ _
   | exact impl_IsAtom.mono _ _ _ _
   | exact impl_IsRatio.mono _ _ _
   | exact impl_makeOf.mono _ _ _ _
   | exact LeO.none _
   | refine LeO.ite ?_ ?_
   | refine LeO.bind ?_ (fun _ => ?_)
theorem impl_FixVariable.mono : ∀ a0 a1 a2 a3 a4 a5 k, LeO (impl_FixVariable.f k a0 a1 a2 a3 a4 a5) (impl_FixVariable.f (k + 1) a0 a1 a2 a3 a4 a5) := by
 intro a0 a1 a2 a3 a4 a5 k
 obtain ⟨ih0, ih1⟩ := impl_FixVariable.mono_l k
 unfold impl_FixVariable.f
 repeat' first
   | (with_reducible exact ih0 _ _ _ _ _ _ _)
   | (with_reducible exact ih1 _ _ _ _ _ _ _ _ _)
   | (with_reducible exact impl_IsAtom.mono _ _ _ _)
   | (with_reducible exact impl_IsRatio.mono _ _ _)
   | (with_reducible exact impl_makeOf.mono _ _ _ _)
   | (with_reducible exact LeO.refl _)
   | (with_reducible exact LeO.none _)
   | (with_reducible refine LeO.ite ?_ ?_)
   | (with_reducible refine LeO.bind ?_ (fun _ => ?_))
   | exact ih0 _ _ _ _ _ _ _
   | exact ih1 _ _ _ _ _ _ _ _ _
   | exact impl_IsAtom.mono _ _ _ _
   | exact impl_IsRatio.mono _ _ _
   | exact impl_makeOf.mono _ _ _ _
   | exact LeO.none _
   | refine LeO.ite ?_ ?_
   | refine LeO.bind ?_ (fun _ => ?_)
def impl_FixVariable.T7 : Bool × List (List Nat × List Nat) := (true, [([], []), ([], []), ([], []), ([2], [2]), ([], []), ([3, 4], [3, 4]), ([5], [5]), ([], []), ([7], [7]), ([6, 8], [6, 8]), ([0, 1, 0, 1, 2, 3, 4, 5, 6, 7, 8, 9], [0, 1]), ([10, 9, 0, 1, 2, 3, 4, 5, 6, 7, 8, 9], [9, 10])])
def impl_FixVariable.B7 : List Nat := [0, 0, 0, 4, 0, 28, 60, 0, 128, 508, 1023, 2047]
theorem impl_FixVariable.tab7 : rtab .any (opsOf Try.f13 7) = impl_FixVariable.T7 := by kernel_rfl
theorem impl_FixVariable.bits7 : waitsOk impl_FixVariable.T7.2 impl_FixVariable.B7 = true := by kernel_rfl
def impl_FixVariable.T10 : Bool × List (List Nat × List Nat) := (true, [([], []), ([], []), ([1], [1]), ([], []), ([3], [3]), ([2, 4], [2, 4]), ([], []), ([6], [6]), ([], []), ([7, 8], [7, 8]), ([9], [9]), ([], []), ([11], [11]), ([10, 12], [10, 12]), ([5, 13], [5, 13]), ([], []), ([15], [15]), ([0, 14, 16], [0, 14, 16]), ([17], [17]), ([17], [17]), ([18, 17, 0, 1, 2, 3, 4, 5, 6, 7, 8, 9, 10, 11, 12, 13, 14, 15, 16, 17, 18, 19], [18]), ([19, 20, 0, 1, 2, 3, 4, 5, 6, 7, 8, 9, 10, 11, 12, 13, 14, 15, 16, 17, 18, 19, 20], [19])])
def impl_FixVariable.B10 : List Nat := [0, 0, 2, 0, 8, 30, 0, 64, 0, 448, 960, 0, 2048, 8128, 16382, 0, 32768, 131071, 262143, 262143, 1048575, 2097151]
theorem impl_FixVariable.tab10 : rtab .any (opsOf Try.f13 10) = impl_FixVariable.T10 := by kernel_rfl
theorem impl_FixVariable.bits10 : waitsOk impl_FixVariable.T10.2 impl_FixVariable.B10 = true := by kernel_rfl
set_option maxHeartbeats 8000000 in
set_option maxRecDepth 100000 in
theorem impl_FixVariable.calls (k : Nat) (A0_0 : Option Addr) (c0_0 : Nat) (l0_0 : List Int) (a0_1 : Int) (a0_2 : Bool) (a1 : Int) (a2_0 : Int) (a2_1 : Int) (r1 : List Int) (r2 : Int) (r3 : Bool) (r4 : Bool) (w : World) (hr0_0 : Kd.C (Kd.int .i64) w A0_0 l0_0.length l0_0) (hc0_0 : l0_0.length ≤ c0_0) (h : impl_FixVariable.f k l0_0 a0_1 a0_2 a1 a2_0 a2_1 = some (r1, r2, r3, r4)) :
  Calls Try.prog 13 #[.agg #[.slice A0_0 l0_0.length c0_0, .int .i64 a0_1, .bool a0_2], .int .i64 a1, .agg #[.int .i64 a2_0, .int .i64 a2_1]] w fun e w' => ∃ v0_ : Value, e = .returned (.tuple #[.agg #[v0_, .int .i64 r2, .bool r3], .bool r4]) ∧ Kd.R (Kd.int .i64) 3 w' w.heap.size (fun _ => True) v0_ r1 ∧ Below w.heap.size w w' := by
 have hu26 := Try.underlying26
 have hu37 := Try.underlying37
 have qv := Aside0.mk hr0_0
 have qw := Aside0.mk hc0_0
 clear hr0_0 hc0_0
 have HB := Aside0.mk (Below.refl w.heap.size w)
 have H : ((impl_IsAtom.f k l0_0 a0_1 a0_2).bind fun ze => (if ze = true then ((impl_IsRatio.f k a2_0 a2_1).bind fun qu => (if qu = true then (if a1 < 0 then (impl_FixVariable.j0 k a1 true l0_0 a0_1 a0_2 a2_0 a2_1) else (impl_FixVariable.j0 k a1 (decide (a1 ≥ (l0_0.length : Int))) l0_0 a0_1 a0_2 a2_0 a2_1)) else (impl_FixVariable.j0 k a1 true l0_0 a0_1 a0_2 a2_0 a2_1))) else (impl_FixVariable.j0 k a1 true l0_0 a0_1 a0_2 a2_0 a2_1))) = some (r1, r2, r3, r4) := h
 clear h
 have HC4 := Aside0.mk H
 clear H
 go_enter Try.func13, Try.ntmps13
 go_upto_region 1 with (first | ((with_reducible refine gate_dst (N := 3) rfl ?_); (try (refine gate_guard (by rfl) ?_; dsimp only)); refine box_event ?hg (N := 3) ?hd (cs := #[.slice A0_0 l0_0.length c0_0, .int .i64 a0_1, .bool a0_2]) (t := 26) ?hr ?_; (case hd => rfl); (case hg => rfl); (case hr => first | (go_simp; done) | (go_simp; rfl)); intro qf hg w5 hbox hb; have qa := Aside0.mk (hbox); have zT := Aside0.mk ((by rw [hg]; exact (bz_ HB) : w.heap.size ≤ qf)); have zU := Aside0.mk ((by rw [hg]; exact (bz_ HB) : w.heap.size ≤ qf)); replace HB := bS_ HB hb; clear hb hbox hg) | ((with_reducible refine gate_dst (N := 5) rfl ?_); (try (refine gate_guard (by rfl) ?_; dsimp only)); refine box_event ?hg (N := 5) ?hd (cs := #[.int .i64 a2_0, .int .i64 a2_1]) (t := 37) ?hr ?_; (case hd => rfl); (case hg => rfl); (case hr => first | (go_simp; done) | (go_simp; rfl)); intro qj hg w6 hbox hb; have qb := Aside0.mk (hbox); have zV := Aside0.mk ((by rw [hg]; exact (bz_ HB) : w.heap.size ≤ qj)); have zW := Aside0.mk ((by rw [hg]; exact (bz_ HB) : w.heap.size ≤ qj)); replace HB := bS_ HB hb; have qm := Aside0.mk ((nl_ qa hg : qf ≠ qj)); have qn := Aside0.mk ((ng_ qa hg : qj ≠ qf)); replace qa := kB_ qa hb; clear hb hbox hg) | ((with_reducible refine gate_dst (N := 6) rfl ?_); (try (refine gate_guard (by rfl) ?_; dsimp only)); refine box_event ?hg (N := 6) ?hd (cs := #[.slice none 0 0, .int .i64 0, .bool false]) (t := 26) ?hr ?_; (case hd => rfl); (case hg => rfl); (case hr => first | (go_simp; done) | (go_simp; rfl)); intro qe hg w7 hbox hb; have qc := Aside0.mk (hbox); have qo := Aside0.mk ((by rw [hg]; exact (bz_ HB) : w.heap.size ≤ qe)); have zX := Aside0.mk ((by rw [hg]; exact (bz_ HB) : w.heap.size ≤ qe)); replace HB := bS_ HB hb; have qd := Aside0.mk ((nl_ qa hg : qf ≠ qe)); have qi := Aside0.mk ((ng_ qa hg : qe ≠ qf)); replace qa := kB_ qa hb; have qg := Aside0.mk ((nl_ qb hg : qj ≠ qe)); have ql := Aside0.mk ((ng_ qb hg : qe ≠ qj)); replace qb := kB_ qb hb; clear hb hbox hg))
 (try simp only [Act.put, List.setIfInBounds_toArray, List.set_cons_zero, List.set_cons_succ])
 go_cut [28] (fun v28 wc => ∃ (kq : Nat) (qx : Bool), v28 = .bool qx ∧ Aside0 (impl_FixVariable.j0 kq a1 qx l0_0 a0_1 a0_2 a2_0 a2_1 = some (r1, r2, r3, r4)) ∧ Aside0 (kq ≤ k) ∧ Aside0 (wc.heap[qf]? = some (.cells #[(.slice A0_0 l0_0.length c0_0), .int .i64 a0_1, .bool a0_2] 26 (0, 0))) ∧ Aside0 (wc.heap[qj]? = some (.cells #[.int .i64 a2_0, .int .i64 a2_1] 37 (0, 0))) ∧ Aside0 (wc.heap[qe]? = some (.cells #[(.slice none 0 0), .int .i64 0, .bool false] 26 (0, 0))) ∧ Aside0 (Below w.heap.size w wc))
 case first =>
  have H := HC4.out
  clear HC4
  replace H := Option.bind_eq_some_iff.mp H
  obtain ⟨ze, A80, H⟩ := H
  replace H : (if ze = true then ((impl_IsRatio.f k a2_0 a2_1).bind fun qu => (if qu = true then (if a1 < 0 then (impl_FixVariable.j0 k a1 true l0_0 a0_1 a0_2 a2_0 a2_1) else (impl_FixVariable.j0 k a1 (decide (a1 ≥ (l0_0.length : Int))) l0_0 a0_1 a0_2 a2_0 a2_1)) else (impl_FixVariable.j0 k a1 true l0_0 a0_1 a0_2 a2_0 a2_1))) else (impl_FixVariable.j0 k a1 true l0_0 a0_1 a0_2 a2_0 a2_1)) = some (r1, r2, r3, r4) := H
  have A8 := Aside0.mk A80
  clear A80
  by_cases c9 : ze = true
  ·
   subst c9
   have H1 : ((impl_IsRatio.f k a2_0 a2_1).bind fun qu => (if qu = true then (if a1 < 0 then (impl_FixVariable.j0 k a1 true l0_0 a0_1 a0_2 a2_0 a2_1) else (impl_FixVariable.j0 k a1 (decide (a1 ≥ (l0_0.length : Int))) l0_0 a0_1 a0_2 a2_0 a2_1)) else (impl_FixVariable.j0 k a1 true l0_0 a0_1 a0_2 a2_0 a2_1))) = some (r1, r2, r3, r4) := by rw [if_pos rfl] at H; exact H
   clear H
   have H := H1
   clear H1
   replace H := Option.bind_eq_some_iff.mp H
   obtain ⟨qu, A100, H⟩ := H
   replace H : (if qu = true then (if a1 < 0 then (impl_FixVariable.j0 k a1 true l0_0 a0_1 a0_2 a2_0 a2_1) else (impl_FixVariable.j0 k a1 (decide (a1 ≥ (l0_0.length : Int))) l0_0 a0_1 a0_2 a2_0 a2_1)) else (impl_FixVariable.j0 k a1 true l0_0 a0_1 a0_2 a2_0 a2_1)) = some (r1, r2, r3, r4) := H
   have A10 := Aside0.mk A100
   clear A100
   by_cases c11 : qu = true
   ·
    subst c11
    have H1 : (if a1 < 0 then (impl_FixVariable.j0 k a1 true l0_0 a0_1 a0_2 a2_0 a2_1) else (impl_FixVariable.j0 k a1 (decide (a1 ≥ (l0_0.length : Int))) l0_0 a0_1 a0_2 a2_0 a2_1)) = some (r1, r2, r3, r4) := by rw [if_pos rfl] at H; exact H
    clear H
    have H := H1
    clear H1
    by_cases c12 : a1 < 0
    ·
     rw [if_pos c12] at H
     have qt : decide (a1 < 0) = true := decide_eq_true c12
     clear c12
     (first | rw [qt] | (simp only [i64_w, i32_w]; rw [qt]) | skip)
     have H' := Aside0.mk H
     clear H
     have zY := qm.out
     have zZ := qn.out
     have z0 := qd.out
     have z1 := qi.out
     have qy : w7.cell? ⟨qf, 0, none⟩ = some (.slice A0_0 l0_0.length c0_0) := bc_ qa 0
     have qz : w7.cell? ⟨qf, 1, none⟩ = some (.int .i64 a0_1) := bc_ qa 1
     have qA : w7.cell? ⟨qf, 2, none⟩ = some (.bool a0_2) := bc_ qa 2
     have qB := blk_frozen qa.out 0
     have qC := blk_frozen qa.out 1
     have qD := blk_frozen qa.out 2
     go_wp2_with (first | ((with_reducible refine gate_callee (f := 38) rfl ?_); refine goesL_ (some 11) rfl rfl Try.func38 (by kernel_rfl) rfl #[.agg #[.slice A0_0 l0_0.length c0_0, .int .i64 a0_1, .bool a0_2]] rfl (by (try simp only [List.map_toArray, List.map_cons, List.map_nil]); first | done | rfl | (simp only [List.length_drop, List.length_take]; rfl)) ?_; (with_reducible refine (impl_IsAtom.calls k _ _ l0_0 a0_1 a0_2 true _ ?side1 ?side2 A8.out).mono ?_); (case side1 => exact cb_ qv HB); (case side2 => exact qw.out); rintro e z2 ⟨rfl, hb⟩; refine ⟨_, rfl, ?_⟩; replace qa := kB_ qa hb; replace qb := kB_ qb hb; replace qc := kB_ qc hb; replace HB := bS_ HB hb; (try clear hb); (try clear hb2); (try clear hk); (try clear hi); have z3 := qg.out; have z4 := ql.out; have qE : z2.cell? ⟨qj, 0, none⟩ = some (.int .i64 a2_0) := bc_ qb 0; have qF : z2.cell? ⟨qj, 1, none⟩ = some (.int .i64 a2_1) := bc_ qb 1; have qG := blk_frozen qb.out 0; have qH := blk_frozen qb.out 1) | (go_at_call 45; (with_reducible refine (impl_IsRatio.calls k a2_0 a2_1 true _ A10.out).mono ?_); rintro e jH ⟨rfl, hb⟩; replace qa := kB_ qa hb; replace qb := kB_ qb hb; replace qc := kB_ qc hb; replace HB := bS_ HB hb; (try clear hb); (try clear hb2); (try clear hk); (try clear hi)))
     go_meet
     case rel => exact ⟨_, (true), (by first | rfl | (simp; done) | (simp [*]; done)), H', ⟨by first | omega | exact Nat.le_refl _⟩, ⟨kf_ qa⟩, ⟨kf_ qb⟩, ⟨kf_ qc⟩, ⟨bb_ HB⟩⟩
    ·
     rw [if_neg c12] at H
     have qt : decide (a1 < 0) = false := decide_eq_false c12
     clear c12
     (first | rw [qt] | (simp only [i64_w, i32_w]; rw [qt]) | skip)
     have H' := Aside0.mk H
     clear H
     have z5 := qm.out
     have z6 := qn.out
     have z7 := qd.out
     have z8 := qi.out
     have qI : w7.cell? ⟨qf, 0, none⟩ = some (.slice A0_0 l0_0.length c0_0) := bc_ qa 0
     have qJ : w7.cell? ⟨qf, 1, none⟩ = some (.int .i64 a0_1) := bc_ qa 1
     have qK : w7.cell? ⟨qf, 2, none⟩ = some (.bool a0_2) := bc_ qa 2
     have qL := blk_frozen qa.out 0
     have qM := blk_frozen qa.out 1
     have qN := blk_frozen qa.out 2
     go_wp2_with (first | ((with_reducible refine gate_callee (f := 38) rfl ?_); refine goesL_ (some 11) rfl rfl Try.func38 (by kernel_rfl) rfl #[.agg #[.slice A0_0 l0_0.length c0_0, .int .i64 a0_1, .bool a0_2]] rfl (by (try simp only [List.map_toArray, List.map_cons, List.map_nil]); first | done | rfl | (simp only [List.length_drop, List.length_take]; rfl)) ?_; (with_reducible refine (impl_IsAtom.calls k _ _ l0_0 a0_1 a0_2 true _ ?side1 ?side2 A8.out).mono ?_); (case side1 => exact cb_ qv HB); (case side2 => exact qw.out); rintro e z9 ⟨rfl, hb⟩; refine ⟨_, rfl, ?_⟩; replace qa := kB_ qa hb; replace qb := kB_ qb hb; replace qc := kB_ qc hb; replace HB := bS_ HB hb; (try clear hb); (try clear hb2); (try clear hk); (try clear hi); have ja := qg.out; have jb := ql.out; have qO : z9.cell? ⟨qj, 0, none⟩ = some (.int .i64 a2_0) := bc_ qb 0; have qP : z9.cell? ⟨qj, 1, none⟩ = some (.int .i64 a2_1) := bc_ qb 1; have qQ := blk_frozen qb.out 0; have qR := blk_frozen qb.out 1) | (go_at_call 45; (with_reducible refine (impl_IsRatio.calls k a2_0 a2_1 true _ A10.out).mono ?_); rintro e zN ⟨rfl, hb⟩; replace qa := kB_ qa hb; replace qb := kB_ qb hb; replace qc := kB_ qc hb; replace HB := bS_ HB hb; (try clear hb); (try clear hb2); (try clear hk); (try clear hi); have qS : zN.cell? ⟨qf, 0, none⟩ = some (.slice A0_0 l0_0.length c0_0) := bc_ qa 0; have qT : zN.cell? ⟨qf, 1, none⟩ = some (.int .i64 a0_1) := bc_ qa 1; have qU : zN.cell? ⟨qf, 2, none⟩ = some (.bool a0_2) := bc_ qa 2; have qV := blk_frozen qa.out 0; have qW := blk_frozen qa.out 1; have qX := blk_frozen qa.out 2))
     go_meet
     case rel => exact ⟨_, (decide (a1 ≥ (l0_0.length : Int))), (by first | rfl | (simp; done) | (simp [*]; done)), H', ⟨by first | omega | exact Nat.le_refl _⟩, ⟨kf_ qa⟩, ⟨kf_ qb⟩, ⟨kf_ qc⟩, ⟨bb_ HB⟩⟩
   ·
    replace c11 := Bool.eq_false_iff.mpr c11
    subst c11
    have H1 : (impl_FixVariable.j0 k a1 true l0_0 a0_1 a0_2 a2_0 a2_1) = some (r1, r2, r3, r4) := by rw [if_neg (show ¬ (false = true) by decide)] at H; exact H
    clear H
    have H := H1
    clear H1
    have H' := Aside0.mk H
    clear H
    have jc := qm.out
    have jd := qn.out
    have je := qd.out
    have jf := qi.out
    have qY : w7.cell? ⟨qf, 0, none⟩ = some (.slice A0_0 l0_0.length c0_0) := bc_ qa 0
    have qZ : w7.cell? ⟨qf, 1, none⟩ = some (.int .i64 a0_1) := bc_ qa 1
    have q0 : w7.cell? ⟨qf, 2, none⟩ = some (.bool a0_2) := bc_ qa 2
    have q1 := blk_frozen qa.out 0
    have q2 := blk_frozen qa.out 1
    have q3 := blk_frozen qa.out 2
    go_wp2_with (first | ((with_reducible refine gate_callee (f := 38) rfl ?_); refine goesL_ (some 11) rfl rfl Try.func38 (by kernel_rfl) rfl #[.agg #[.slice A0_0 l0_0.length c0_0, .int .i64 a0_1, .bool a0_2]] rfl (by (try simp only [List.map_toArray, List.map_cons, List.map_nil]); first | done | rfl | (simp only [List.length_drop, List.length_take]; rfl)) ?_; (with_reducible refine (impl_IsAtom.calls k _ _ l0_0 a0_1 a0_2 true _ ?side1 ?side2 A8.out).mono ?_); (case side1 => exact cb_ qv HB); (case side2 => exact qw.out); rintro e jg ⟨rfl, hb⟩; refine ⟨_, rfl, ?_⟩; replace qa := kB_ qa hb; replace qb := kB_ qb hb; replace qc := kB_ qc hb; replace HB := bS_ HB hb; (try clear hb); (try clear hb2); (try clear hk); (try clear hi); have jh := qg.out; have ji := ql.out; have q4 : jg.cell? ⟨qj, 0, none⟩ = some (.int .i64 a2_0) := bc_ qb 0; have q5 : jg.cell? ⟨qj, 1, none⟩ = some (.int .i64 a2_1) := bc_ qb 1; have q6 := blk_frozen qb.out 0; have q7 := blk_frozen qb.out 1) | (go_at_call 45; (with_reducible refine (impl_IsRatio.calls k a2_0 a2_1 false _ A10.out).mono ?_); rintro e jI ⟨rfl, hb⟩; replace qa := kB_ qa hb; replace qb := kB_ qb hb; replace qc := kB_ qc hb; replace HB := bS_ HB hb; (try clear hb); (try clear hb2); (try clear hk); (try clear hi)))
    go_meet
    case rel => exact ⟨_, (true), (by first | rfl | (simp; done) | (simp [*]; done)), H', ⟨by first | omega | exact Nat.le_refl _⟩, ⟨kf_ qa⟩, ⟨kf_ qb⟩, ⟨kf_ qc⟩, ⟨bb_ HB⟩⟩
  ·
   replace c9 := Bool.eq_false_iff.mpr c9
   subst c9
   have H1 : (impl_FixVariable.j0 k a1 true l0_0 a0_1 a0_2 a2_0 a2_1) = some (r1, r2, r3, r4) := by rw [if_neg (show ¬ (false = true) by decide)] at H; exact H
   clear H
   have H := H1
   clear H1
   have H' := Aside0.mk H
   clear H
   have jj := qm.out
   have jk := qn.out
   have jl := qd.out
   have jm := qi.out
   have q8 : w7.cell? ⟨qf, 0, none⟩ = some (.slice A0_0 l0_0.length c0_0) := bc_ qa 0
   have q9 : w7.cell? ⟨qf, 1, none⟩ = some (.int .i64 a0_1) := bc_ qa 1
   have za : w7.cell? ⟨qf, 2, none⟩ = some (.bool a0_2) := bc_ qa 2
   have zb := blk_frozen qa.out 0
   have zc := blk_frozen qa.out 1
   have zd := blk_frozen qa.out 2
   go_wp2_with (first | ((with_reducible refine gate_callee (f := 38) rfl ?_); refine goesL_ (some 11) rfl rfl Try.func38 (by kernel_rfl) rfl #[.agg #[.slice A0_0 l0_0.length c0_0, .int .i64 a0_1, .bool a0_2]] rfl (by (try simp only [List.map_toArray, List.map_cons, List.map_nil]); first | done | rfl | (simp only [List.length_drop, List.length_take]; rfl)) ?_; (with_reducible refine (impl_IsAtom.calls k _ _ l0_0 a0_1 a0_2 false _ ?side1 ?side2 A8.out).mono ?_); (case side1 => exact cb_ qv HB); (case side2 => exact qw.out); rintro e jJ ⟨rfl, hb⟩; refine ⟨_, rfl, ?_⟩; replace qa := kB_ qa hb; replace qb := kB_ qb hb; replace qc := kB_ qc hb; replace HB := bS_ HB hb; (try clear hb); (try clear hb2); (try clear hk); (try clear hi)))
   go_meet
   case rel => exact ⟨_, (true), (by first | rfl | (simp; done) | (simp [*]; done)), H', ⟨by first | omega | exact Nat.le_refl _⟩, ⟨kf_ qa⟩, ⟨kf_ qb⟩, ⟨kf_ qc⟩, ⟨bb_ HB⟩⟩
 case rest =>
  clear HC4
  try clear c1
  try clear c2
  try clear p2
  try clear c3
  try clear c9
  try clear c11
  try clear c12
  try clear qt
  try clear c13
  try clear c14
  try clear c17
  try clear c20
  try clear c21
  try clear c24
  try clear c28
  try clear c29
  try clear c32
  try clear c35
  try clear c36
  try clear c38
  try clear qy
  try clear qz
  try clear qA
  try clear qE
  try clear qF
  try clear qI
  try clear qJ
  try clear qK
  try clear qO
  try clear qP
  try clear qS
  try clear qT
  try clear qU
  try clear qY
  try clear qZ
  try clear q0
  try clear q4
  try clear q5
  try clear q8
  try clear q9
  try clear za
  try clear qB
  try clear qC
  try clear qD
  try clear qG
  try clear qH
  try clear qL
  try clear qM
  try clear qN
  try clear qQ
  try clear qR
  try clear qV
  try clear qW
  try clear qX
  try clear q1
  try clear q2
  try clear q3
  try clear q6
  try clear q7
  try clear zb
  try clear zc
  try clear zd
  obtain ⟨kq, qx, rfl, HA, HJ3, qa, qb, qc, HB⟩ := hcut
  cases kq with
  | zero => exact absurd HA.out (by simp [impl_FixVariable.j0])
  | succ kj3 =>
   have H := HA.out
   clear HA
   simp only [impl_FixVariable.j0] at H
   by_cases c39 : qx = true
   ·
    subst c39
    have H1 : (some (([] : List Int), 0, false, false)) = some (r1, r2, r3, r4) := by rw [if_pos rfl] at H; exact H
    clear H
    have H := H1
    clear H1
    simp only [Option.some.injEq, Prod.mk.injEq] at H
    obtain ⟨rfl, rfl, rfl, rfl⟩ := H
    have jn := qi.out
    have jo := qd.out
    have jp := ql.out
    have jq := qg.out
    have zi : wc.cell? ⟨qe, 0, none⟩ = some (.slice none 0 0) := bc_ qc 0
    have zj : wc.cell? ⟨qe, 1, none⟩ = some (.int .i64 0) := bc_ qc 1
    have zk : wc.cell? ⟨qe, 2, none⟩ = some (.bool false) := bc_ qc 2
    have zl := blk_frozen qc.out 0
    have zm := blk_frozen qc.out 1
    have zn := blk_frozen qc.out 2
    go_wp2
    refine bodyPost_ret (results_ct rfl _ _ qe 26 #[.slice none 0 0, .int .i64 0, .bool false] (0, 0) _ rfl (by (with_reducible repeat (first | refine blk_drewN ?_ _ | refine blk_drew ?_ | refine blk_alloc ?_ _)); refine blk_put (cs := #[.slice none 0 0, .int .i64 0, .bool false]) ?_ 2 _ rfl; (with_reducible repeat (first | refine blk_drewN ?_ _ | refine blk_drew ?_ | refine blk_alloc ?_ _)); refine blk_put (cs := #[.slice none 0 0, .int .i64 0, .bool false]) ?_ 1 _ rfl; (with_reducible repeat (first | refine blk_drewN ?_ _ | refine blk_drew ?_ | refine blk_alloc ?_ _)); refine blk_put (cs := #[.slice none 0 0, .int .i64 0, .bool false]) ?_ 0 _ rfl; (with_reducible repeat (first | refine blk_drewN ?_ _ | refine blk_drew ?_ | refine blk_alloc ?_ _)); exact qc.out) Try.underlying26 rfl (by kernel_rfl)) rfl ?_
    exact ⟨_, by first | rfl | (simp [errW_none, errW_some] <;> rfl) | (simp [*, errW_none, errW_some] <;> rfl), by first | exact Kd.R_nil _ _ _ _ _ | exact Kd.N_nil _ _ _ _ _ | exact Kd.V_nil _ _ _ _ _ | exact Kd.Q_nil _ _ _ _ _ | exact Kd.S_nil _ _ _ _ _, bb_ HB⟩
   ·
    replace c39 := Bool.eq_false_iff.mpr c39
    subst c39
    have H1 : (if 0 ≤ (l0_0.length : Int) then (if ((l0_0.length : Int) : Int).toNat ≤ 35184372088832 then ((some (List.replicate ((l0_0.length : Int) : Int).toNat 0 : List Int)).bind fun y430 => (impl_FixVariable.l0 kj3 a1 y430 (y430.length : Int) 0 l0_0 a0_1 a0_2 a2_0 a2_1)) else (none)) else (none)) = some (r1, r2, r3, r4) := by rw [if_neg (show ¬ (false = true) by decide)] at H; exact H
    clear H
    have H := H1
    clear H1
    by_cases c43 : 0 ≤ (l0_0.length : Int)
    ·
     rw [if_pos c43] at H
     have zF := eq_true c43
     have zG : decide (0 ≤ (l0_0.length : Int)) = true := decide_eq_true c43
     clear c43
     by_cases c44 : ((l0_0.length : Int) : Int).toNat ≤ 35184372088832
     ·
      rw [if_pos c44] at H
      have zH := eq_true c44
      have zI : decide (((l0_0.length : Int) : Int).toNat ≤ 35184372088832) = true := decide_eq_true c44
      clear c44
      obtain ⟨y430, hy430⟩ : ∃ y_ : List Int, y_ = (List.replicate ((l0_0.length : Int) : Int).toNat 0) := ⟨_, rfl⟩
      replace H : (impl_FixVariable.l0 kj3 a1 y430 (y430.length : Int) 0 l0_0 a0_1 a0_2 a2_0 a2_1) = some (r1, r2, r3, r4) := by first | (rw [hy430]; with_reducible exact H) | (have H2_ := (Option.bind_some _ _).symm.trans H; rw [hy430]; with_reducible exact H2_) | (have H2_ := (Option.bind_some _ _).symm.trans H; with_reducible exact H2_) | with_reducible exact H | (rw [hy430]; exact H) | exact H
      have Ny430 := Aside0.mk hy430
      clear hy430
      have H' := Aside0.mk H
      clear H
      have jr := qm.out
      have js := qn.out
      have jt := qd.out
      have ju := qi.out
      have zo : wc.cell? ⟨qf, 0, none⟩ = some (.slice A0_0 l0_0.length c0_0) := bc_ qa 0
      have zp : wc.cell? ⟨qf, 1, none⟩ = some (.int .i64 a0_1) := bc_ qa 1
      have zq : wc.cell? ⟨qf, 2, none⟩ = some (.bool a0_2) := bc_ qa 2
      have zr := blk_frozen qa.out 0
      have zs := blk_frozen qa.out 1
      have zt := blk_frozen qa.out 2
      go_wp2_with (first | ((with_reducible refine gate_dst (N := 33) rfl ?_); (try (refine gate_guard (by rfl) ?_; dsimp only)); refine Kd.R_make (Kd.int .i64) _ 3 rfl (N := 33) rfl 24 _ _ rfl (l0_0.length : Int) rfl rfl Try.underlying24 (.int .i64 0) 8 info3 rfl (by decide) (by omega) 0 (ok := fun _ => True) (okp := fun _ => True) rfl (fun _ hk => hk) trivial (of_decide_eq_true (by first | (with_reducible assumption) | assumption)) (Nat.le_trans (Nat.mul_le_mul_right _ (of_decide_eq_true (by first | (with_reducible assumption) | assumption) : (l0_0.length : Int).toNat ≤ 35184372088832)) (by omega)) (Below.refl _ _) (Nat.le_refl _) ?_; intro jB jK ho49 hb hg_ hnew_; clear hg_ hnew_; (first | rw [← Ny430.out] at ho49 | (simp only [Int.reduceToNat] at ho49; rw [← Ny430.out] at ho49)); have zx := Aside0.mk (Kd.R_lower ho49 (bz_ HB)); replace qa := kB_ qa hb; replace qb := kB_ qb hb; replace qc := kB_ qc hb; replace HB := bS_ HB hb; clear hb ho49; obtain ⟨zO, zB, eo50⟩ := Kd.R_slice zx.out; subst eo50))
      go_loopg [36] kj3 (fun kq v36 w' => ∃ (qq : List Int) (qh : Int), v36 = .int .i64 qh ∧ Aside0 (impl_FixVariable.l0 kq a1 qq (y430.length : Int) qh l0_0 a0_1 a0_2 a2_0 a2_1 = some (r1, r2, r3, r4)) ∧ Aside0 (kq ≤ kj3) ∧ Aside0 (Kd.R (Kd.int .i64) 3 w' w.heap.size (fun _ => True) (.slice zO y430.length zB) qq) ∧ Aside0 (w'.heap[qf]? = some (.cells #[(.slice A0_0 l0_0.length c0_0), .int .i64 a0_1, .bool a0_2] 26 (0, 0))) ∧ Aside0 (w'.heap[qj]? = some (.cells #[.int .i64 a2_0, .int .i64 a2_1] 37 (0, 0))) ∧ Aside0 (w'.heap[qe]? = some (.cells #[(.slice none 0 0), .int .i64 0, .bool false] 26 (0, 0))) ∧ Aside0 (Below w.heap.size w w'))
      case atStart => exact ⟨(y430), (0), (by first | rfl | (simp; done) | (simp [*]; done)), H', ⟨Nat.le_refl _⟩, ⟨by (with_reducible repeat (first | apply Kd.R_alloc | apply Kd.R_drewN | apply Kd.R_drew)); exact zx.out⟩, ⟨kf_ qa⟩, ⟨kf_ qb⟩, ⟨kf_ qc⟩, ⟨bb_ HB⟩⟩
      case round =>
       clear H'
       try clear c1
       try clear c2
       try clear p2
       try clear c3
       try clear c4
       try clear c9
       try clear c11
       try clear c12
       try clear qt
       try clear c13
       try clear c14
       try clear c17
       try clear c20
       try clear c21
       try clear c24
       try clear c28
       try clear c29
       try clear c32
       try clear c35
       try clear c36
       try clear c38
       try clear c39
       try clear c40
       try clear c41
       try clear c43
       try clear zF
       try clear zG
       try clear c44
       try clear zH
       try clear zI
       try clear c45
       try clear c46
       try clear qy
       try clear qz
       try clear qA
       try clear qE
       try clear qF
       try clear qI
       try clear qJ
       try clear qK
       try clear qO
       try clear qP
       try clear qS
       try clear qT
       try clear qU
       try clear qY
       try clear qZ
       try clear q0
       try clear q4
       try clear q5
       try clear q8
       try clear q9
       try clear za
       try clear zi
       try clear zj
       try clear zk
       try clear zo
       try clear zp
       try clear zq
       try clear qB
       try clear qC
       try clear qD
       try clear qG
       try clear qH
       try clear qL
       try clear qM
       try clear qN
       try clear qQ
       try clear qR
       try clear qV
       try clear qW
       try clear qX
       try clear q1
       try clear q2
       try clear q3
       try clear q6
       try clear q7
       try clear zb
       try clear zc
       try clear zd
       try clear zl
       try clear zm
       try clear zn
       try clear zr
       try clear zs
       try clear zt
       try clear p2
       obtain ⟨qq, qh, rfl, HA, HK2, qk, qa, qb, qc, HB⟩ := hrel
       have hl8_2 := (Kd.R_reads' qk.out).1
       rw [hl8_2] at qk
       (try simp only [hl8_2])
       (try simp only [hl8_2] at qa)
       (try simp only [hl8_2] at qb)
       (try simp only [hl8_2] at qc)
       cases gk with
       | zero => exact absurd HA.out (by simp [impl_FixVariable.l0])
       | succ k2 =>
        have H := HA.out
        clear HA
        simp only [impl_FixVariable.l0] at H
        by_cases c51 : qh < (y430.length : Int)
        ·
         rw [if_pos c51] at H
         have zg : decide (qh < (y430.length : Int)) = true := decide_eq_true c51
         have c51z := zg
         (try rw [hl8_2] at c51z)
         clear c51
         by_cases c52 : 0 ≤ qh
         ·
          rw [if_pos c52] at H
          have jv : decide (0 ≤ qh) = true := decide_eq_true c52
          clear c52
          by_cases c53 : qh < (l0_0.length : Int)
          ·
           rw [if_pos c53] at H
           have jw : decide (qh < (l0_0.length : Int)) = true := decide_eq_true c53
           clear c53
           by_cases c54 : qh < (qq.length : Int)
           ·
            rw [if_pos c54] at H
            have jx : decide (qh < (qq.length : Int)) = true := decide_eq_true c54
            clear c54
            obtain ⟨y434, hy434⟩ : ∃ y_ : List Int, y_ = (qq.set (qh : Int).toNat (wrap64 ((rd l0_0 qh) * a2_1))) := ⟨_, rfl⟩
            replace H : (impl_FixVariable.l0 k2 a1 y434 (y430.length : Int) (wrap64 (qh + 1)) l0_0 a0_1 a0_2 a2_0 a2_1) = some (r1, r2, r3, r4) := by first | (rw [hy434]; with_reducible exact H) | (have H2_ := (Option.bind_some _ _).symm.trans H; rw [hy434]; with_reducible exact H2_) | (have H2_ := (Option.bind_some _ _).symm.trans H; with_reducible exact H2_) | with_reducible exact H | (rw [hy434]; exact H) | exact H
            have Ny434 := Aside0.mk hy434
            clear hy434
            have H' := Aside0.mk H
            clear H
            try go_wp2
            replace qk := Aside0.mk (Kd.R_drew qk.out); replace qa := Aside0.mk (blk_drew qa.out); replace qb := Aside0.mk (blk_drew qb.out); replace qc := Aside0.mk (blk_drew qc.out); replace HB := Aside0.mk (below_drew1 HB.out)
            have p433 : 0 ≤ (qh : Int) := of_decide_eq_true (by first | (with_reducible assumption) | assumption)
            have q433 : qh < (l0_0.length : Int) := of_decide_eq_true (by first | (with_reducible assumption) | assumption)
            obtain ⟨zy, e433, qr⟩ := Kd.at_int qv.out qh p433 q433
            have hw433_0 := qr
            cases e433
            replace qr := (HB.out.cell (World.block_lt_of_cell? w _ qr)).trans qr
            replace p433 := eq_true p433
            replace q433 := eq_true q433
            have p55 : 0 ≤ (qh : Int) := of_decide_eq_true (by first | (with_reducible assumption) | assumption)
            have q55 : (qh : Int) < ((qq.length : Int) : Int) := of_decide_eq_true (by first | (with_reducible assumption) | assumption)
            obtain ⟨go55, jC, eo55, zJ, gl55, cl55, HG55⟩ := Kd.R_form qk.out (by omega)
            (first | cases eo55 | (injection eo55 with ea_ en_ ec_; (first | subst ea_ | (injection ea_ with ea_; subst ea_)); subst ec_; clear en_))
            have jD := Aside0.mk zJ
            have zP := Aside0.mk HG55
            clear zJ gl55 HG55
            obtain ⟨zC, hf55_0⟩ := Kd.R_celln 0 qk.out (qh : Int) p55 q55
            replace p55 := eq_true p55
            replace q55 := eq_true q55
            have zD := Kd.R_putn qk.out (qh : Int) (wrap64 ((rd l0_0 qh) * a2_1))
            rw [← Ny434.out] at zD
            have HQ57 := Aside0.mk zD
            clear zD
            refine start_ (n := 12) (S := fun w' => w'.cell? ⟨qf, 0, none⟩ = some (.slice (some zy) l0_0.length c0_0) ∧ w'.cell? ⟨qf, 1, none⟩ = some (.int .i64 a0_1) ∧ w'.cell? ⟨qf, 2, none⟩ = some (.bool a0_2) ∧ w'.cell? ⟨qj, 0, none⟩ = some (.int .i64 a2_0) ∧ w'.cell? ⟨qj, 1, none⟩ = some (.int .i64 a2_1) ∧ w'.cell? (zy.add (qh).toNat) = some (.int .i64 (rd l0_0 qh))) (ds := [11]) #[false, false, false, false, false, false, false, false, false, false, false, false] (by kernel_rfl) rfl rfl ⟨bc_ qa 0, bc_ qa 1, bc_ qa 2, bc_ qb 0, bc_ qb 1, ((HB.out.cell (World.block_lt_of_cell? w _ hw433_0)).trans hw433_0)⟩ (fun hHeld => ?_); refine with_tabW impl_FixVariable.tab7 impl_FixVariable.bits7 (fun HT_ HW_ => ?_)
            generalize wr.drew = jL at qk qa qb qc HB zP HQ57 hf55_0 qr zC hHeld ⊢
            refine pure_ (i := 0) (N := some 39) (v := ?_) (a' := ?_) #[true, false, false, false, false, false, false, false, false, false, false, false] rfl rfl (any_of HT_.out (by kernel_rfl)) (fun _ _ _ h => h) (Or.inl ⟨by rfl, ?_⟩) ?_ ?_
            rotate_left
            ·
             intro w'
             go_simp
             with_reducible rfl
            rotate_left
            ·
             simp only [Act.put, List.setIfInBounds_toArray, List.set_cons_zero, List.set_cons_succ, i64_w, i32_w]
             rfl
            refine pure_ (i := 1) (N := some 40) (v := ?_) (a' := ?_) #[true, true, false, false, false, false, false, false, false, false, false, false] rfl rfl (any_of HT_.out (by kernel_rfl)) (fun _ _ _ h => h) (Or.inl ⟨by rfl, ?_⟩) ?_ ?_
            rotate_left
            ·
             intro w'
             go_simp
             with_reducible rfl
            rotate_left
            ·
             simp only [Act.put, List.setIfInBounds_toArray, List.set_cons_zero, List.set_cons_succ, i64_w, i32_w]
             rfl
            refine pure_ (i := 2) (N := some 41) (v := ?_) (a' := ?_) #[true, true, true, false, false, false, false, false, false, false, false, false] rfl rfl (any_of HT_.out (by kernel_rfl)) (fun _ _ _ h => h) (Or.inl ⟨by rfl, ?_⟩) ?_ ?_
            rotate_left
            ·
             intro w'
             go_simp
             with_reducible rfl
            rotate_left
            ·
             simp only [Act.put, List.setIfInBounds_toArray, List.set_cons_zero, List.set_cons_succ, i64_w, i32_w]
             rfl
            refine pure_ (i := 4) (N := some 43) (v := ?_) (a' := ?_) #[true, true, true, false, true, false, false, false, false, false, false, false] rfl rfl (any_of HT_.out (by kernel_rfl)) (fun _ _ _ h => h) (Or.inl ⟨by rfl, ?_⟩) ?_ ?_
            rotate_left
            ·
             intro w'
             go_simp
             with_reducible rfl
            rotate_left
            ·
             simp only [Act.put, List.setIfInBounds_toArray, List.set_cons_zero, List.set_cons_succ, i64_w, i32_w]
             rfl
            refine pure_ (i := 7) (N := some 46) (v := ?_) (a' := ?_) #[true, true, true, false, true, false, false, true, false, false, false, false] rfl rfl (any_of HT_.out (by kernel_rfl)) (fun _ _ _ h => h) (Or.inl ⟨by rfl, ?_⟩) ?_ ?_
            rotate_left
            ·
             intro w'
             go_simp
             with_reducible rfl
            rotate_left
            ·
             simp only [Act.put, List.setIfInBounds_toArray, List.set_cons_zero, List.set_cons_succ, i64_w, i32_w]
             rfl
            refine take_ (i := 3) (N := some 42) (v := ?_) (a' := ?_) #[true, true, true, true, true, false, false, true, false, false, false, false] rfl rfl (take_ofW HT_.out HW_.out (by kernel_rfl)) (fun _ _ _ h => h) (Or.inl ⟨by rfl, ?_⟩) hHeld ?_ ?_
            rotate_left
            ·
             rintro w' ⟨s0, s1, s2, s3, s4, s5⟩
             go_simp
             with_reducible rfl
            rotate_left
            ·
             simp only [Act.put, List.setIfInBounds_toArray, List.set_cons_zero, List.set_cons_succ, i64_w, i32_w]
             rfl
            refine pure_ (i := 5) (N := some 44) (v := ?_) (a' := ?_) #[true, true, true, true, true, true, false, true, false, false, false, false] rfl rfl (any_of HT_.out (by kernel_rfl)) (fun _ _ _ h => h) (Or.inl ⟨by rfl, ?_⟩) ?_ ?_
            rotate_left
            ·
             intro w'
             go_simp
             with_reducible rfl
            rotate_left
            ·
             simp only [Act.put, List.setIfInBounds_toArray, List.set_cons_zero, List.set_cons_succ, i64_w, i32_w]
             rfl
            refine take_ (i := 6) (N := some 45) (v := ?_) (a' := ?_) #[true, true, true, true, true, true, true, true, false, false, false, false] rfl rfl (take_ofW HT_.out HW_.out (by kernel_rfl)) (fun _ _ _ h => h) (Or.inl ⟨by rfl, ?_⟩) hHeld ?_ ?_
            rotate_left
            ·
             rintro w' ⟨s0, s1, s2, s3, s4, s5⟩
             go_simp
             with_reducible rfl
            rotate_left
            ·
             simp only [Act.put, List.setIfInBounds_toArray, List.set_cons_zero, List.set_cons_succ, i64_w, i32_w]
             rfl
            refine take_ (i := 8) (N := some 47) (v := ?_) (a' := ?_) #[true, true, true, true, true, true, true, true, true, false, false, false] rfl rfl (take_ofW HT_.out HW_.out (by kernel_rfl)) (fun _ _ _ h => h) (Or.inl ⟨by rfl, ?_⟩) hHeld ?_ ?_
            rotate_left
            ·
             rintro w' ⟨s0, s1, s2, s3, s4, s5⟩
             go_simp
             with_reducible rfl
            rotate_left
            ·
             simp only [Act.put, List.setIfInBounds_toArray, List.set_cons_zero, List.set_cons_succ, i64_w, i32_w]
             rfl
            refine pure_ (i := 9) (N := some 48) (v := ?_) (a' := ?_) #[true, true, true, true, true, true, true, true, true, true, false, false] rfl rfl (any_of HT_.out (by kernel_rfl)) (fun _ _ _ h => h) (Or.inl ⟨by rfl, ?_⟩) ?_ ?_
            rotate_left
            ·
             intro w'
             go_simp
             with_reducible rfl
            rotate_left
            ·
             simp only [Act.put, List.setIfInBounds_toArray, List.set_cons_zero, List.set_cons_succ, i64_w, i32_w]
             rfl
            refine pure_ (i := 10) (N := some 49) (v := ?_) (a' := ?_) #[true, true, true, true, true, true, true, true, true, true, true, false] rfl rfl (any_of HT_.out (by kernel_rfl)) (fun _ _ _ h => h) (Or.inl ⟨by rfl, ?_⟩) ?_ ?_
            rotate_left
            ·
             intro w'
             go_simp
             with_reducible rfl
            rotate_left
            ·
             simp only [Act.put, List.setIfInBounds_toArray, List.set_cons_zero, List.set_cons_succ, i64_w, i32_w]
             rfl
            refine last_ (i := 11) (N := none) #[true, true, true, true, true, true, true, true, true, true, true, true] rfl rfl (one_of HT_.out (by kernel_rfl)) (by decide) (fun K hK => ?_)
            refine skip_ (w1 := ?_) (by rfl) rfl ?_ ?_
            rotate_left
            ·
             go_simp
             rfl
            refine hK.out _ _ ?_
            clear hK K
            refine done_ (done_of HT_.out (by kernel_rfl)) ?_
            try go_wp2
            (try simp only [← hl8_2])
            go_roundg k2
            case measure => have := HJ3.out; have := HK2.out; omega
            case rel => exact ⟨(y434), (wrap64 (qh + 1)), (by first | rfl | (simp; done) | (simp [*]; done)), H', ⟨by have := HJ3.out; have := HK2.out; omega⟩, ⟨by (try simp only [hl8_2]); (with_reducible repeat (first | apply Kd.R_alloc | apply Kd.R_drewN | apply Kd.R_drew)); exact HQ57.out⟩, ⟨by (try simp only [hl8_2]); (with_reducible repeat (first | refine blk_drewN ?_ _ | refine blk_drew ?_ | refine blk_alloc ?_ _)); refine blk_far ?_ (by have h_ := Kd.R_ne qk.out qa.out (by decide); intro e_; exact h_ (by rw [e_]; rfl)) _; (with_reducible repeat (first | refine blk_drewN ?_ _ | refine blk_drew ?_ | refine blk_alloc ?_ _)); exact qa.out⟩, ⟨by (try simp only [hl8_2]); (with_reducible repeat (first | refine blk_drewN ?_ _ | refine blk_drew ?_ | refine blk_alloc ?_ _)); refine blk_far ?_ (by have h_ := Kd.R_ne qk.out qb.out (by decide); intro e_; exact h_ (by rw [e_]; rfl)) _; (with_reducible repeat (first | refine blk_drewN ?_ _ | refine blk_drew ?_ | refine blk_alloc ?_ _)); exact qb.out⟩, ⟨by (try simp only [hl8_2]); (with_reducible repeat (first | refine blk_drewN ?_ _ | refine blk_drew ?_ | refine blk_alloc ?_ _)); refine blk_far ?_ (by have h_ := Kd.R_ne qk.out qc.out (by decide); intro e_; exact h_ (by rw [e_]; rfl)) _; (with_reducible repeat (first | refine blk_drewN ?_ _ | refine blk_drew ?_ | refine blk_alloc ?_ _)); exact qc.out⟩, ⟨bb_ HB⟩⟩
           ·
            rw [if_neg c54] at H
            exact absurd H (by simp)
          ·
           rw [if_neg c53] at H
           exact absurd H (by simp)
         ·
          rw [if_neg c52] at H
          exact absurd H (by simp)
        ·
         rw [if_neg c51] at H
         have zg : decide (qh < (y430.length : Int)) = false := decide_eq_false c51
         have c51z := zg
         (try rw [hl8_2] at c51z)
         clear c51
         by_cases c58 : 0 ≤ a1
         ·
          rw [if_pos c58] at H
          have jy : decide (0 ≤ a1) = true := decide_eq_true c58
          clear c58
          by_cases c59 : a1 < (qq.length : Int)
          ·
           rw [if_pos c59] at H
           have jz : decide (a1 < (qq.length : Int)) = true := decide_eq_true c59
           clear c59
           obtain ⟨y435, hy435⟩ : ∃ y_ : List Int, y_ = (qq.set (a1 : Int).toNat 0) := ⟨_, rfl⟩
           replace H : (if a1 < (l0_0.length : Int) then ((impl_makeOf.f k2 y435 (wrap64 ((wrap64 (a0_1 * a2_1)) + (wrap64 ((rd l0_0 a1) * a2_0)))) a0_2).bind fun qp => (some (qp.1, qp.2.1, qp.2.2.1, qp.2.2.2))) else (none)) = some (r1, r2, r3, r4) := by first | (rw [hy435]; with_reducible exact H) | (have H2_ := (Option.bind_some _ _).symm.trans H; rw [hy435]; with_reducible exact H2_) | (have H2_ := (Option.bind_some _ _).symm.trans H; with_reducible exact H2_) | with_reducible exact H | (rw [hy435]; exact H) | exact H
           have Ny435 := Aside0.mk hy435
           clear hy435
           by_cases c61 : a1 < (l0_0.length : Int)
           ·
            rw [if_pos c61] at H
            have jA : decide (a1 < (l0_0.length : Int)) = true := decide_eq_true c61
            clear c61
            replace H := Option.bind_eq_some_iff.mp H
            obtain ⟨⟨zf, zh, zu, zK⟩, A620, H⟩ := H
            replace H : (some (zf, zh, zu, zK)) = some (r1, r2, r3, r4) := H
            have A62 := Aside0.mk A620
            clear A620
            simp only [Option.some.injEq, Prod.mk.injEq] at H
            obtain ⟨rfl, rfl, rfl, rfl⟩ := H
            have p60 : 0 ≤ (a1 : Int) := of_decide_eq_true (by first | (with_reducible assumption) | assumption)
            have q60 : (a1 : Int) < ((qq.length : Int) : Int) := of_decide_eq_true (by first | (with_reducible assumption) | assumption)
            obtain ⟨go60, jE, eo60, zL, gl60, cl60, HG60⟩ := Kd.R_form qk.out (by omega)
            (first | cases eo60 | (injection eo60 with ea_ en_ ec_; (first | subst ea_ | (injection ea_ with ea_; subst ea_)); subst ec_; clear en_))
            have zQ := Aside0.mk zL
            have jF := Aside0.mk HG60
            clear zL gl60 HG60
            obtain ⟨zR, hf60_0⟩ := Kd.R_celln 0 qk.out (a1 : Int) p60 q60
            replace p60 := eq_true p60
            replace q60 := eq_true q60
            have zE := Kd.R_putg qk.out (a1 : Int) 0
            try go_wp2_with (first | ((with_reducible refine gate_store (t := 3) (p := 53) rfl ?_); refine store_event (t := 3) (p := 53) (v := ?vo_w64) (w1 := (wr.setCell ⟨go60, (a1 : Int).toNat, none⟩ (.int .i64 0))) ?hg ?ho ?hn ?hr ?_; (case ho => rfl); (case hg => rfl); (case hn => rfl); (case hr => first | (go_simp; done) | (go_simp; rfl)); intro zM hw; have hg : wr.grownBy zM (some go60) := (by rw [hw]; exact zE.2); have hp_ : Kd.R (Kd.int .i64) 3 zM w.heap.size (fun _ => True) (.slice (some ⟨go60, 0, none⟩) qq.length zB) y435 := (by rw [hw, Ny435.out]; exact zE.1); clear zE; replace qa := Aside0.mk (blk_grown (g := qf) (o := .cells #[.slice A0_0 l0_0.length c0_0, .int .i64 a0_1, .bool a0_2] 26 (0, 0)) (kf_ qa) hg (Kd.R_ne qk.out qa.out (by decide))); replace qb := Aside0.mk (blk_grown (g := qj) (o := .cells #[.int .i64 a2_0, .int .i64 a2_1] 37 (0, 0)) (kf_ qb) hg (Kd.R_ne qk.out qb.out (by decide))); replace qc := Aside0.mk (blk_grown (g := qe) (o := .cells #[.slice none 0 0, .int .i64 0, .bool false] 26 (0, 0)) (kf_ qc) hg (Kd.R_ne qk.out qc.out (by decide))); replace qk := Aside0.mk (hp_); replace HB := Aside0.mk ((by rw [hw]; exact below_set (HB.out) zQ.out : Below w.heap.size w zM)); clear hg hw hp_))
            replace qk := Aside0.mk (Kd.R_drew qk.out); replace qa := Aside0.mk (blk_drew qa.out); replace qb := Aside0.mk (blk_drew qb.out); replace qc := Aside0.mk (blk_drew qc.out); replace HB := Aside0.mk (below_drew1 HB.out)
            have p436 : 0 ≤ (a1 : Int) := of_decide_eq_true (by first | (with_reducible assumption) | assumption)
            have q436 : a1 < (l0_0.length : Int) := of_decide_eq_true (by first | (with_reducible assumption) | assumption)
            obtain ⟨zz, e436, qs⟩ := Kd.at_int qv.out a1 p436 q436
            have hw436_0 := qs
            cases e436
            replace qs := (HB.out.cell (World.block_lt_of_cell? w _ qs)).trans qs
            replace p436 := eq_true p436
            replace q436 := eq_true q436
            refine start_ (n := 22) (S := fun w' => w'.cell? ⟨qf, 0, none⟩ = some (.slice (some zz) l0_0.length c0_0) ∧ w'.cell? ⟨qf, 1, none⟩ = some (.int .i64 a0_1) ∧ w'.cell? ⟨qf, 2, none⟩ = some (.bool a0_2) ∧ w'.cell? ⟨qj, 0, none⟩ = some (.int .i64 a2_0) ∧ w'.cell? ⟨qj, 1, none⟩ = some (.int .i64 a2_1) ∧ w'.cell? (zz.add (a1).toNat) = some (.int .i64 (rd l0_0 a1))) (ds := []) #[false, false, false, false, false, false, false, false, false, false, false, false, false, false, false, false, false, false, false, false, false, false] (by kernel_rfl) rfl rfl ⟨bc_ qa 0, bc_ qa 1, bc_ qa 2, bc_ qb 0, bc_ qb 1, ((HB.out.cell (World.block_lt_of_cell? w _ hw436_0)).trans hw436_0)⟩ (fun hHeld => ?_); refine with_tabW impl_FixVariable.tab10 impl_FixVariable.bits10 (fun HT_ HW_ => ?_)
            generalize zM.drew = jM at qk qa qb qc HB qs hHeld ⊢
            refine pure_ (i := 0) (N := some 54) (v := ?_) (a' := ?_) #[true, false, false, false, false, false, false, false, false, false, false, false, false, false, false, false, false, false, false, false, false, false] rfl rfl (any_of HT_.out (by kernel_rfl)) (fun _ _ _ h => h) (Or.inl ⟨by rfl, ?_⟩) ?_ ?_
            rotate_left
            ·
             intro w'
             go_simp
             with_reducible rfl
            rotate_left
            ·
             simp only [Act.put, List.setIfInBounds_toArray, List.set_cons_zero, List.set_cons_succ, i64_w, i32_w]
             rfl
            refine pure_ (i := 1) (N := some 55) (v := ?_) (a' := ?_) #[true, true, false, false, false, false, false, false, false, false, false, false, false, false, false, false, false, false, false, false, false, false] rfl rfl (any_of HT_.out (by kernel_rfl)) (fun _ _ _ h => h) (Or.inl ⟨by rfl, ?_⟩) ?_ ?_
            rotate_left
            ·
             intro w'
             go_simp
             with_reducible rfl
            rotate_left
            ·
             simp only [Act.put, List.setIfInBounds_toArray, List.set_cons_zero, List.set_cons_succ, i64_w, i32_w]
             rfl
            refine pure_ (i := 3) (N := some 57) (v := ?_) (a' := ?_) #[true, true, false, true, false, false, false, false, false, false, false, false, false, false, false, false, false, false, false, false, false, false] rfl rfl (any_of HT_.out (by kernel_rfl)) (fun _ _ _ h => h) (Or.inl ⟨by rfl, ?_⟩) ?_ ?_
            rotate_left
            ·
             intro w'
             go_simp
             with_reducible rfl
            rotate_left
            ·
             simp only [Act.put, List.setIfInBounds_toArray, List.set_cons_zero, List.set_cons_succ, i64_w, i32_w]
             rfl
            refine pure_ (i := 6) (N := some 60) (v := ?_) (a' := ?_) #[true, true, false, true, false, false, true, false, false, false, false, false, false, false, false, false, false, false, false, false, false, false] rfl rfl (any_of HT_.out (by kernel_rfl)) (fun _ _ _ h => h) (Or.inl ⟨by rfl, ?_⟩) ?_ ?_
            rotate_left
            ·
             intro w'
             go_simp
             with_reducible rfl
            rotate_left
            ·
             simp only [Act.put, List.setIfInBounds_toArray, List.set_cons_zero, List.set_cons_succ, i64_w, i32_w]
             rfl
            refine pure_ (i := 8) (N := some 62) (v := ?_) (a' := ?_) #[true, true, false, true, false, false, true, false, true, false, false, false, false, false, false, false, false, false, false, false, false, false] rfl rfl (any_of HT_.out (by kernel_rfl)) (fun _ _ _ h => h) (Or.inl ⟨by rfl, ?_⟩) ?_ ?_
            rotate_left
            ·
             intro w'
             go_simp
             with_reducible rfl
            rotate_left
            ·
             simp only [Act.put, List.setIfInBounds_toArray, List.set_cons_zero, List.set_cons_succ, i64_w, i32_w]
             rfl
            refine pure_ (i := 11) (N := some 65) (v := ?_) (a' := ?_) #[true, true, false, true, false, false, true, false, true, false, false, true, false, false, false, false, false, false, false, false, false, false] rfl rfl (any_of HT_.out (by kernel_rfl)) (fun _ _ _ h => h) (Or.inl ⟨by rfl, ?_⟩) ?_ ?_
            rotate_left
            ·
             intro w'
             go_simp
             with_reducible rfl
            rotate_left
            ·
             simp only [Act.put, List.setIfInBounds_toArray, List.set_cons_zero, List.set_cons_succ, i64_w, i32_w]
             rfl
            refine pure_ (i := 15) (N := some 69) (v := ?_) (a' := ?_) #[true, true, false, true, false, false, true, false, true, false, false, true, false, false, false, true, false, false, false, false, false, false] rfl rfl (any_of HT_.out (by kernel_rfl)) (fun _ _ _ h => h) (Or.inl ⟨by rfl, ?_⟩) ?_ ?_
            rotate_left
            ·
             intro w'
             go_simp
             with_reducible rfl
            rotate_left
            ·
             simp only [Act.put, List.setIfInBounds_toArray, List.set_cons_zero, List.set_cons_succ, i64_w, i32_w]
             rfl
            refine take_ (i := 2) (N := some 56) (v := ?_) (a' := ?_) #[true, true, true, true, false, false, true, false, true, false, false, true, false, false, false, true, false, false, false, false, false, false] rfl rfl (take_ofW HT_.out HW_.out (by kernel_rfl)) (fun _ _ _ h => h) (Or.inl ⟨by rfl, ?_⟩) hHeld ?_ ?_
            rotate_left
            ·
             rintro w' ⟨s0, s1, s2, s3, s4, s5⟩
             go_simp
             with_reducible rfl
            rotate_left
            ·
             simp only [Act.put, List.setIfInBounds_toArray, List.set_cons_zero, List.set_cons_succ, i64_w, i32_w]
             rfl
            refine take_ (i := 4) (N := some 58) (v := ?_) (a' := ?_) #[true, true, true, true, true, false, true, false, true, false, false, true, false, false, false, true, false, false, false, false, false, false] rfl rfl (take_ofW HT_.out HW_.out (by kernel_rfl)) (fun _ _ _ h => h) (Or.inl ⟨by rfl, ?_⟩) hHeld ?_ ?_
            rotate_left
            ·
             rintro w' ⟨s0, s1, s2, s3, s4, s5⟩
             go_simp
             with_reducible rfl
            rotate_left
            ·
             simp only [Act.put, List.setIfInBounds_toArray, List.set_cons_zero, List.set_cons_succ, i64_w, i32_w]
             rfl
            refine pure_ (i := 5) (N := some 59) (v := ?_) (a' := ?_) #[true, true, true, true, true, true, true, false, true, false, false, true, false, false, false, true, false, false, false, false, false, false] rfl rfl (any_of HT_.out (by kernel_rfl)) (fun _ _ _ h => h) (Or.inl ⟨by rfl, ?_⟩) ?_ ?_
            rotate_left
            ·
             intro w'
             go_simp
             with_reducible rfl
            rotate_left
            ·
             simp only [Act.put, List.setIfInBounds_toArray, List.set_cons_zero, List.set_cons_succ, i64_w, i32_w]
             rfl
            refine take_ (i := 7) (N := some 61) (v := ?_) (a' := ?_) #[true, true, true, true, true, true, true, true, true, false, false, true, false, false, false, true, false, false, false, false, false, false] rfl rfl (take_ofW HT_.out HW_.out (by kernel_rfl)) (fun _ _ _ h => h) (Or.inl ⟨by rfl, ?_⟩) hHeld ?_ ?_
            rotate_left
            ·
             rintro w' ⟨s0, s1, s2, s3, s4, s5⟩
             go_simp
             with_reducible rfl
            rotate_left
            ·
             simp only [Act.put, List.setIfInBounds_toArray, List.set_cons_zero, List.set_cons_succ, i64_w, i32_w]
             rfl
            refine pure_ (i := 9) (N := some 63) (v := ?_) (a' := ?_) #[true, true, true, true, true, true, true, true, true, true, false, true, false, false, false, true, false, false, false, false, false, false] rfl rfl (any_of HT_.out (by kernel_rfl)) (fun _ _ _ h => h) (Or.inl ⟨by rfl, ?_⟩) ?_ ?_
            rotate_left
            ·
             intro w'
             go_simp
             with_reducible rfl
            rotate_left
            ·
             simp only [Act.put, List.setIfInBounds_toArray, List.set_cons_zero, List.set_cons_succ, i64_w, i32_w]
             rfl
            refine take_ (i := 10) (N := some 64) (v := ?_) (a' := ?_) #[true, true, true, true, true, true, true, true, true, true, true, true, false, false, false, true, false, false, false, false, false, false] rfl rfl (take_ofW HT_.out HW_.out (by kernel_rfl)) (fun _ _ _ h => h) (Or.inl ⟨by rfl, ?_⟩) hHeld ?_ ?_
            rotate_left
            ·
             rintro w' ⟨s0, s1, s2, s3, s4, s5⟩
             go_simp
             with_reducible rfl
            rotate_left
            ·
             simp only [Act.put, List.setIfInBounds_toArray, List.set_cons_zero, List.set_cons_succ, i64_w, i32_w]
             rfl
            refine take_ (i := 12) (N := some 66) (v := ?_) (a' := ?_) #[true, true, true, true, true, true, true, true, true, true, true, true, true, false, false, true, false, false, false, false, false, false] rfl rfl (take_ofW HT_.out HW_.out (by kernel_rfl)) (fun _ _ _ h => h) (Or.inl ⟨by rfl, ?_⟩) hHeld ?_ ?_
            rotate_left
            ·
             rintro w' ⟨s0, s1, s2, s3, s4, s5⟩
             go_simp
             with_reducible rfl
            rotate_left
            ·
             simp only [Act.put, List.setIfInBounds_toArray, List.set_cons_zero, List.set_cons_succ, i64_w, i32_w]
             rfl
            refine pure_ (i := 13) (N := some 67) (v := ?_) (a' := ?_) #[true, true, true, true, true, true, true, true, true, true, true, true, true, true, false, true, false, false, false, false, false, false] rfl rfl (any_of HT_.out (by kernel_rfl)) (fun _ _ _ h => h) (Or.inl ⟨by rfl, ?_⟩) ?_ ?_
            rotate_left
            ·
             intro w'
             go_simp
             with_reducible rfl
            rotate_left
            ·
             simp only [Act.put, List.setIfInBounds_toArray, List.set_cons_zero, List.set_cons_succ, i64_w, i32_w]
             rfl
            refine pure_ (i := 14) (N := some 68) (v := ?_) (a' := ?_) #[true, true, true, true, true, true, true, true, true, true, true, true, true, true, true, true, false, false, false, false, false, false] rfl rfl (any_of HT_.out (by kernel_rfl)) (fun _ _ _ h => h) (Or.inl ⟨by rfl, ?_⟩) ?_ ?_
            rotate_left
            ·
             intro w'
             go_simp
             with_reducible rfl
            rotate_left
            ·
             simp only [Act.put, List.setIfInBounds_toArray, List.set_cons_zero, List.set_cons_succ, i64_w, i32_w]
             rfl
            refine take_ (i := 16) (N := some 70) (v := ?_) (a' := ?_) #[true, true, true, true, true, true, true, true, true, true, true, true, true, true, true, true, true, false, false, false, false, false] rfl rfl (take_ofW HT_.out HW_.out (by kernel_rfl)) (fun _ _ _ h => h) (Or.inl ⟨by rfl, ?_⟩) hHeld ?_ ?_
            rotate_left
            ·
             rintro w' ⟨s0, s1, s2, s3, s4, s5⟩
             go_simp
             with_reducible rfl
            rotate_left
            ·
             simp only [Act.put, List.setIfInBounds_toArray, List.set_cons_zero, List.set_cons_succ, i64_w, i32_w]
             rfl
            refine one_ (i := 17) (N := some 71) #[true, true, true, true, true, true, true, true, true, true, true, true, true, true, true, true, true, true, false, false, false, false] rfl rfl (one_of HT_.out (by kernel_rfl)) (by decide) (fun K hK => ?_)
            refine goes_ Try.func39 (by kernel_rfl) rfl #[.slice (some ⟨go60, 0, none⟩) y435.length zB, .int .i64 (wrap64 ((wrap64 (a0_1 * a2_1)) + (wrap64 ((rd l0_0 a1) * a2_0)))), .bool a0_2] (by rfl) rfl rfl (by (try simp only [List.map_toArray, List.map_cons, List.map_nil]); first | done | (rw [show y435.length = qq.length from (Kd.R_reads' qk.out).1.symm] <;> rfl) | rfl | (simp only [List.length_drop, List.length_take]; rfl)) ?_
            with_reducible refine (impl_makeOf.calls k2 _ _ y435 (wrap64 ((wrap64 (a0_1 * a2_1)) + (wrap64 ((rd l0_0 a1) * a2_0)))) a0_2 zf zh zu zK _ ?side1 ?side2 A62.out).mono ?_
            (case side1 => exact cr_ qk)
            (case side2 => rw [show y435.length = qq.length from (Kd.R_reads' qk.out).1.symm]; exact (Kd.R_reads' qk.out).2.1)
            rintro e zS ⟨jG, rfl, ho0, hb⟩
            refine ⟨_, rfl, ?_⟩
            have zA := Aside0.mk (Kd.R_lower (Kd.R_new' ho0 (Kd.R_lt (rm_ qk))) (bz_ HB)); replace qk := Aside0.mk (Kd.R_elder' (rm_ qk) (Kd.R_base ho0) hb); replace qa := kB_ qa hb; replace qb := kB_ qb hb; replace qc := kB_ qc hb; replace HB := bS_ HB hb; (try clear hb); (try clear hb2); (try clear hk); (try clear hi); (try clear ho0)
            obtain ⟨zv, zw, eo67⟩ := Kd.R_slice zA.out
            (first | subst eo67 | (injection eo67 with f1_ f2_ f3_; have f4_ := f1_.symm; have f5_ := f3_.symm; clear f1_ f2_ f3_; subst f4_; subst f5_))
            refine hK.out _ _ ⟨bc_ qa 0, bc_ qa 1, bc_ qa 2, bc_ qb 0, bc_ qb 1, ((HB.out.cell (World.block_lt_of_cell? w _ hw436_0)).trans hw436_0)⟩ (fun hHeld => ?_)
            clear hK K
            refine norm_ (a' := ?_) ?_ ?_
            rotate_left
            ·
             show Act.put _ (some 71) _ = _
             simp only [Act.put, List.setIfInBounds_toArray, List.set_cons_zero, List.set_cons_succ, i64_w, i32_w]
             rfl
            refine pure_ (i := 18) (N := some 72) (v := ?_) (a' := ?_) #[true, true, true, true, true, true, true, true, true, true, true, true, true, true, true, true, true, true, true, false, false, false] rfl rfl (any_of HT_.out (by kernel_rfl)) (fun _ _ _ h => h) (Or.inl ⟨by rfl, ?_⟩) ?_ ?_
            rotate_left
            ·
             intro w'
             go_simp
             with_reducible rfl
            rotate_left
            ·
             simp only [Act.put, List.setIfInBounds_toArray, List.set_cons_zero, List.set_cons_succ, i64_w, i32_w]
             rfl
            refine pure_ (i := 19) (N := some 73) (v := ?_) (a' := ?_) #[true, true, true, true, true, true, true, true, true, true, true, true, true, true, true, true, true, true, true, true, false, false] rfl rfl (any_of HT_.out (by kernel_rfl)) (fun _ _ _ h => h) (Or.inl ⟨by rfl, ?_⟩) ?_ ?_
            rotate_left
            ·
             intro w'
             go_simp
             with_reducible rfl
            rotate_left
            ·
             simp only [Act.put, List.setIfInBounds_toArray, List.set_cons_zero, List.set_cons_succ, i64_w, i32_w]
             rfl
            refine one_ (i := 20) (N := none) #[true, true, true, true, true, true, true, true, true, true, true, true, true, true, true, true, true, true, true, true, true, false] rfl rfl (one_of HT_.out (by kernel_rfl)) (by decide) (fun K hK => ?_)
            have hs68 : zS.cell? ⟨qe, 0, none⟩ = some (.slice none 0 0) := bc_ qc 0
            have hfs68 := blk_frozen qc.out 0
            have hns68_0 := qd.out
            have hns68_1 := qg.out
            have hms68_0 := qi.out
            have hms68_1 := ql.out
            have hs69 : zS.cell? ⟨qe, 1, none⟩ = some (.int .i64 0) := bc_ qc 1
            have hfs69 := blk_frozen qc.out 1
            have hns69_0 := qd.out
            have hns69_1 := qg.out
            have hms69_0 := qi.out
            have hms69_1 := ql.out
            have hs70 : zS.cell? ⟨qe, 2, none⟩ = some (.bool false) := bc_ qc 2
            have hfs70 := blk_frozen qc.out 2
            have hns70_0 := qd.out
            have hns70_1 := qg.out
            have hms70_0 := qi.out
            have hms70_1 := ql.out
            refine skip_ (w1 := ?_) (by rfl) rfl ?_ ?_
            rotate_left
            ·
             go_simp
             rfl
            refine hK.out _ _ ⟨((cell_far (p := ⟨qe, _, none⟩) qd.out _).trans (((cell_far (p := ⟨qe, _, none⟩) qd.out _).trans (((cell_far (p := ⟨qe, _, none⟩) qd.out _).trans (hHeld.1)))))), ((cell_far (p := ⟨qe, _, none⟩) qd.out _).trans (((cell_far (p := ⟨qe, _, none⟩) qd.out _).trans (((cell_far (p := ⟨qe, _, none⟩) qd.out _).trans (hHeld.2.1)))))), ((cell_far (p := ⟨qe, _, none⟩) qd.out _).trans (((cell_far (p := ⟨qe, _, none⟩) qd.out _).trans (((cell_far (p := ⟨qe, _, none⟩) qd.out _).trans (hHeld.2.2.1)))))), ((cell_far (p := ⟨qe, _, none⟩) qg.out _).trans (((cell_far (p := ⟨qe, _, none⟩) qg.out _).trans (((cell_far (p := ⟨qe, _, none⟩) qg.out _).trans (hHeld.2.2.2.1)))))), ((cell_far (p := ⟨qe, _, none⟩) qg.out _).trans (((cell_far (p := ⟨qe, _, none⟩) qg.out _).trans (((cell_far (p := ⟨qe, _, none⟩) qg.out _).trans (hHeld.2.2.2.2.1)))))), ((cell_far (p := ⟨qe, _, none⟩) (by first | exact Nat.ne_of_lt (Nat.lt_of_lt_of_le (by have := World.block_lt_of_cell? _ _ hw436_0; first | rwa [add_block] at this | exact this) qo.out) | (rw [add_block]; exact Nat.ne_of_lt (Nat.lt_of_lt_of_le (by have := World.block_lt_of_cell? _ _ hw436_0; first | rwa [add_block] at this | exact this) qo.out)) | (show (Addr.add _ _).block ≠ _; rw [add_block]; exact Nat.ne_of_lt (Nat.lt_of_lt_of_le (by have := World.block_lt_of_cell? _ _ hw436_0; first | rwa [add_block] at this | exact this) qo.out)) | (dsimp only; exact Nat.ne_of_lt (Nat.lt_of_lt_of_le (by have := World.block_lt_of_cell? _ _ hw436_0; first | rwa [add_block] at this | exact this) qo.out))) _).trans (((cell_far (p := ⟨qe, _, none⟩) (by first | exact Nat.ne_of_lt (Nat.lt_of_lt_of_le (by have := World.block_lt_of_cell? _ _ hw436_0; first | rwa [add_block] at this | exact this) qo.out) | (rw [add_block]; exact Nat.ne_of_lt (Nat.lt_of_lt_of_le (by have := World.block_lt_of_cell? _ _ hw436_0; first | rwa [add_block] at this | exact this) qo.out)) | (show (Addr.add _ _).block ≠ _; rw [add_block]; exact Nat.ne_of_lt (Nat.lt_of_lt_of_le (by have := World.block_lt_of_cell? _ _ hw436_0; first | rwa [add_block] at this | exact this) qo.out)) | (dsimp only; exact Nat.ne_of_lt (Nat.lt_of_lt_of_le (by have := World.block_lt_of_cell? _ _ hw436_0; first | rwa [add_block] at this | exact this) qo.out))) _).trans (((cell_far (p := ⟨qe, _, none⟩) (by first | exact Nat.ne_of_lt (Nat.lt_of_lt_of_le (by have := World.block_lt_of_cell? _ _ hw436_0; first | rwa [add_block] at this | exact this) qo.out) | (rw [add_block]; exact Nat.ne_of_lt (Nat.lt_of_lt_of_le (by have := World.block_lt_of_cell? _ _ hw436_0; first | rwa [add_block] at this | exact this) qo.out)) | (show (Addr.add _ _).block ≠ _; rw [add_block]; exact Nat.ne_of_lt (Nat.lt_of_lt_of_le (by have := World.block_lt_of_cell? _ _ hw436_0; first | rwa [add_block] at this | exact this) qo.out)) | (dsimp only; exact Nat.ne_of_lt (Nat.lt_of_lt_of_le (by have := World.block_lt_of_cell? _ _ hw436_0; first | rwa [add_block] at this | exact this) qo.out))) _).trans (hHeld.2.2.2.2.2))))))⟩ (fun hHeld => ?_)
            clear hK K
            refine pure_ (i := 21) (N := some 7) (v := ?_) (a' := ?_) #[true, true, true, true, true, true, true, true, true, true, true, true, true, true, true, true, true, true, true, true, true, true] rfl rfl (any_of HT_.out (by kernel_rfl)) (fun _ _ _ h => h) (Or.inl ⟨by rfl, ?_⟩) ?_ ?_
            rotate_left
            ·
             intro w'
             go_simp
             with_reducible rfl
            rotate_left
            ·
             simp only [Act.put, List.setIfInBounds_toArray, List.set_cons_zero, List.set_cons_succ, i64_w, i32_w]
             rfl
            refine done_ (done_of HT_.out (by kernel_rfl)) ?_
            try go_wp2
            refine bodyPost_ret (results_ct rfl _ _ qe 26 #[.slice zv zf.length zw, .int .i64 zh, .bool zu] (0, 0) _ rfl (by (with_reducible repeat (first | refine blk_drewN ?_ _ | refine blk_drew ?_ | refine blk_alloc ?_ _)); refine blk_put (cs := #[.slice zv zf.length zw, .int .i64 zh, .bool false]) ?_ 2 _ rfl; (with_reducible repeat (first | refine blk_drewN ?_ _ | refine blk_drew ?_ | refine blk_alloc ?_ _)); refine blk_put (cs := #[.slice zv zf.length zw, .int .i64 0, .bool false]) ?_ 1 _ rfl; (with_reducible repeat (first | refine blk_drewN ?_ _ | refine blk_drew ?_ | refine blk_alloc ?_ _)); refine blk_put (cs := #[.slice none 0 0, .int .i64 0, .bool false]) ?_ 0 _ rfl; (with_reducible repeat (first | refine blk_drewN ?_ _ | refine blk_drew ?_ | refine blk_alloc ?_ _)); exact qc.out) Try.underlying26 rfl (by kernel_rfl)) rfl ?_
            exact ⟨_, by first | rfl | (simp [errW_none, errW_some] <;> rfl) | (simp [*, errW_none, errW_some] <;> rfl), by (with_reducible repeat (first | apply Kd.R_alloc | apply Kd.R_drewN | apply Kd.R_drew)); exact Kd.R_mono (Kd.R_far (p := ⟨qe, 2, none⟩) (Kd.R_far (p := ⟨qe, 1, none⟩) (Kd.R_far (p := ⟨qe, 0, none⟩) (Kd.R_types zA.out qc.out (by decide)) (fun _ hk => hk.2) (.slice zv zf.length zw)) (fun _ hk => hk.2) (.int .i64 zh)) (fun _ hk => hk.2) (.bool zu)) (fun _ hk => trivial), bb_ HB⟩
           ·
            rw [if_neg c61] at H
            exact absurd H (by simp)
          ·
           rw [if_neg c59] at H
           exact absurd H (by simp)
         ·
          rw [if_neg c58] at H
          exact absurd H (by simp)
     ·
      rw [if_neg c44] at H
      exact absurd H (by simp)
    ·
     rw [if_neg c43] at H
     exact absurd H (by simp)

/-! ### laws_FnMixed: function 3 -/
mutual
def laws_FnMixed.j0 : Nat → List (S37) → Bool → Bool → Bool → List Int → Int → Bool → Option (Bool)
 | 0, _, _, _, _, _, _, _ => none
 | k + 1, x11, x12, x13, x96, x457000, x457001, x457002 => if x96 = true then (some false) else (laws_FnMixed.l0 k x11 x12 x13 0 x457000 x457001 x457002)
def laws_FnMixed.l0 : Nat → List (S37) → Bool → Bool → Int → List Int → Int → Bool → Option (Bool)
 | 0, _, _, _, _, _, _, _ => none
 | k + 1, x11, x12, x13, x18, x457000, x457001, x457002 => if x18 < (x11.length : Int) then (if 0 ≤ x18 then ((impl_FixVariable.f k x457000 x457001 x457002 x18 ((rd_T37 x11 x18).f0) ((rd_T37 x11 x18).f1)).bind fun z5 => ((impl_HoldsAt.f k z5.1 z5.2.1 z5.2.2.1 x11).bind fun z2 => (if z5.2.2.2 = true then (if z2.2 = true then (if x13 = true then (if (z2.1 != x12) = true then (some false) else (laws_FnMixed.l0 k x11 x12 x13 (wrap64 (x18 + 1)) x457000 x457001 x457002)) else (laws_FnMixed.l0 k x11 x12 x13 (wrap64 (x18 + 1)) x457000 x457001 x457002)) else (laws_FnMixed.l0 k x11 x12 x13 (wrap64 (x18 + 1)) x457000 x457001 x457002)) else (laws_FnMixed.l0 k x11 x12 x13 (wrap64 (x18 + 1)) x457000 x457001 x457002)))) else (none)) else (some true)
end
def laws_FnMixed.f (k : Nat) (l0 : List Int) : Option (Bool) := (laws_big.f l0).bind fun QF => (if QF = true then (some true) else ((spec_DrawMixAtoms.f k l0).bind fun qp => ((impl_MixAtoms.f k qp.1 qp.2.1 qp.2.2.1 qp.2.2.2.1 qp.2.2.2.2.1 qp.2.2.2.2.2.1 qp.2.2.2.2.2.2.1 qp.2.2.2.2.2.2.2).bind fun q2 => ((spec_MixAtoms.f k qp.1 qp.2.1 qp.2.2.1 qp.2.2.2.1 qp.2.2.2.2.1 qp.2.2.2.2.2.1 qp.2.2.2.2.2.2.1 qp.2.2.2.2.2.2.2).bind fun zM => (if (q2.2.2.2 != zM.2.2.2) = true then (some false) else (if q2.2.2.2 = true then ((laws_point.f k l0 (qp.1.length : Int)).bind fun qn => ((impl_HoldsAt.f k qp.1 qp.2.1 qp.2.2.1 qn).bind fun qs => ((impl_HoldsAt.f k qp.2.2.2.2.1 qp.2.2.2.2.2.1 qp.2.2.2.2.2.2.1 qn).bind fun q8 => ((impl_HoldsAt.f k q2.1 q2.2.1 q2.2.2.1 qn).bind fun q6 => (if qs.2 = true then (if q8.2 = true then (if q6.2 = true then (if qs.1 = true then (if q8.1 = true then (laws_FnMixed.j0 k qn qs.1 qs.2 (!q6.1) qp.1 qp.2.1 qp.2.2.1) else (laws_FnMixed.j0 k qn qs.1 qs.2 false qp.1 qp.2.1 qp.2.2.1)) else (laws_FnMixed.j0 k qn qs.1 qs.2 false qp.1 qp.2.1 qp.2.2.1)) else (laws_FnMixed.j0 k qn qs.1 qs.2 false qp.1 qp.2.1 qp.2.2.1)) else (laws_FnMixed.j0 k qn qs.1 qs.2 false qp.1 qp.2.1 qp.2.2.1)) else (laws_FnMixed.j0 k qn qs.1 qs.2 false qp.1 qp.2.1 qp.2.2.1)))))) else (some ((q2.1.length : Int) == 0))))))))
def laws_FnMixed.T19 : Bool × List (List Nat × List Nat) := (true, [([], []), ([], []), ([], []), ([], []), ([2, 3], [2, 3]), ([4], [4]), ([0, 1, 5], [0, 1, 5]), ([6], [6]), ([7], [7]), ([7], [7]), ([], []), ([10, 8, 6, 0, 1, 2, 3, 4, 5, 6, 7, 8, 10], [8, 10]), ([9, 11, 0, 1, 2, 3, 4, 5, 6, 7, 8, 9, 10, 11], [9])])
def laws_FnMixed.B19 : List Nat := [0, 0, 0, 0, 12, 28, 63, 127, 255, 255, 0, 1535, 4095]
theorem laws_FnMixed.tab19 : rtab .any (opsOf Try.f3 19) = laws_FnMixed.T19 := by kernel_rfl
theorem laws_FnMixed.bits19 : waitsOk laws_FnMixed.T19.2 laws_FnMixed.B19 = true := by kernel_rfl
end Go.Proofs.Ytohoibekddhneaa.PFnMixed
