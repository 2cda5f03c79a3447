/- The plain statement of the law FnMixed, over numbers and lists alone: the call answers true. -/
import Derived.Test.YtohoibekddhneaaLibFnMixed
set_option linter.unusedVariables false
set_option linter.unusedSimpArgs false
namespace Go.Proofs.Ytohoibekddhneaa.FinFnMixed
open Go.RowKit Go.Proofs.Ytohoibekddhneaa.PFnMixed Go.Proofs.Ytohoibekddhneaa.Pl Go.Proofs.Ytohoibekddhneaa.LFnMixed Go.Proofs.YtohoibekddhneaaW.PrintWords Go.Proofs.YtohoibekddhneaaW.PrintLast

theorem mkAt_no {l : List Int} {c : Int} {s : Bool} (h : ¬ (mkAt l c s).2.2.2 = true) : (mkAt l c s).1.length = 0 := by
  unfold mkAt at h ⊢
  simp only [] at h ⊢
  split
  · rename_i hi; rw [if_pos hi] at h; exact absurd rfl h
  · rfl
theorem mixAt_no {l1 : List Int} {c1 : Int} {s1 : Bool} {p : Int} {l2 : List Int} {c2 : Int} {s2 : Bool} {q : Int} (h : ¬ (mixAt l1 c1 s1 p l2 c2 s2 q).2.2.2 = true) : (mixAt l1 c1 s1 p l2 c2 s2 q).1.length = 0 := by
  unfold mixAt at h ⊢
  split
  · rename_i hi; rw [if_pos hi] at h; exact mkAt_no h
  · rfl
theorem mixAt_hold {l1 : List Int} {c1 : Int} {s1 : Bool} {p : Int} {l2 : List Int} {c2 : Int} {s2 : Bool} {q : Int} {r : List (Int × Int)} (h : (mixAt l1 c1 s1 p l2 c2 s2 q).2.2.2 = true)
    (o1 : (holdAt l1 c1 s1 r).2 = true) (o2 : (holdAt l2 c2 s2 r).2 = true) (o3 : (holdAt (mixAt l1 c1 s1 p l2 c2 s2 q).1 (mixAt l1 c1 s1 p l2 c2 s2 q).2.1 (mixAt l1 c1 s1 p l2 c2 s2 q).2.2.1 r).2 = true)
    (h1 : (holdAt l1 c1 s1 r).1 = true) (h2 : (holdAt l2 c2 s2 r).1 = true) : (holdAt (mixAt l1 c1 s1 p l2 c2 s2 q).1 (mixAt l1 c1 s1 p l2 c2 s2 q).2.1 (mixAt l1 c1 s1 p l2 c2 s2 q).2.2.1 r).1 = true := by
  rw [(holdAt_ex o1).1] at h1
  rw [(holdAt_ex o2).1] at h2
  rw [(holdAt_ex o3).1]
  unfold mixAt at h ⊢
  split at h
  · rename_i hi
    rw [if_pos hi]
    simp only [Bool.and_eq_true, decide_eq_true_eq] at hi
    obtain ⟨e1, e2⟩ := mkAt_ex h (s1 && decide (0 < p) || s2 && decide (0 < q)) r
    rw [e1, ← e2]
    exact exH_mix hi.1.2.1 hi.2.1 hi.1.1.2 h1 h2
  · simp [noAt] at h
theorem fixAt_hold {l : List Int} {c : Int} {s : Bool} {i : Nat} {n d : Int} {r : List (Int × Int)} (h : (fixAt l c s (i : Int) n d).2.2.2 = true) (hr : r[i]? = some (n, d))
    (o1 : (holdAt l c s r).2 = true) (o2 : (holdAt (fixAt l c s (i : Int) n d).1 (fixAt l c s (i : Int) n d).2.1 (fixAt l c s (i : Int) n d).2.2.1 r).2 = true) :
    (holdAt (fixAt l c s (i : Int) n d).1 (fixAt l c s (i : Int) n d).2.1 (fixAt l c s (i : Int) n d).2.2.1 r).1 = (holdAt l c s r).1 := by
  rw [(holdAt_ex o1).1, (holdAt_ex o2).1]
  unfold fixAt at h ⊢
  split at h
  · rename_i hi
    rw [if_pos hi]
    simp only [Bool.and_eq_true, decide_eq_true_eq] at hi
    obtain ⟨e1, e2⟩ := mkAt_ex h s r
    rw [e1, ← e2]
    simp only [Int.toNat_natCast]
    exact exH_fix (isRat_den hi.1.2) (by omega) hr s
  · simp [noAt] at h
theorem l0_ev (t : List S37) (l : List Int) (c : Int) (s : Bool) (b o : Bool) (ht : t.length ≤ 1048576) (hl : l.length ≤ 1048576) (hb : (holdAt l c s (ptOf t)).1 = b) (ho : (holdAt l c s (ptOf t)).2 = o) :
    Ev (fun k => laws_FnMixed.l0 k t b o 0 l c s) true := by
  have key : ∀ i, i ≤ t.length → Ev (fun k => laws_FnMixed.l0 k t b o (i : Nat) l c s) true := by
    refine down t.length ?_ ?_
    · exact Ev.step (f := fun _ => some true) (fun k => by rw [laws_FnMixed.l0, if_neg (by omega)]) (Ev.now _)
    · intro i hi ih
      refine Ev.step (fun k => by rw [laws_FnMixed.l0]) ?_
      refine ev_pos (by omega) (ev_pos (by omega) ?_)
      simp only [rd_T37, Int.toNat_natCast, getD_of_lt hi]
      rw [w64_succ (by omega)]
      have h4 := fixAt_len l c s i t[i].f0 t[i].f1
      refine Ev.bind (impl_FixVariable_ev l c s i _ _ hl) (Ev.bind (impl_HoldsAt_ev _ _ _ t (by omega) ht) ?_)
      refine ev_ite (fun h1 => ev_ite (fun h2 => ev_ite (fun h3 => ?_) (fun _ => ih)) (fun _ => ih)) (fun _ => ih)
      have e := fixAt_hold (r := ptOf t) h1 (by simp [ptOf, rtOf, hi]) (by rw [ho]; exact h3) h2
      rw [hb] at e
      exact ev_neg (by rw [e]; simp) ih
  exact key 0 (by omega)
theorem j0_ev (t : List S37) (l : List Int) (c : Int) (s : Bool) (b o e : Bool) (he : e = false) (ht : t.length ≤ 1048576) (hl : l.length ≤ 1048576) (hb : (holdAt l c s (ptOf t)).1 = b) (ho : (holdAt l c s (ptOf t)).2 = o) :
    Ev (fun k => laws_FnMixed.j0 k t b o e l c s) true := by
  subst he
  refine Ev.step (fun k => by rw [laws_FnMixed.j0]) ?_
  exact ev_neg (by simp) (l0_ev t l c s b o ht hl hb ho)
theorem fin {P Q : Prop} (l : List Int) (_ : P) (_ : Q) : ∃ k, laws_FnMixed.f k l = some true := by
  refine Ev.rounds ?_
  unfold laws_FnMixed.f
  simp only [laws_big_eq, Option.bind_some]
  refine ev_ite (fun _ => Ev.now _) (fun h => ?_)
  have hl : l.length ≤ 1048576 := by simp only [decide_eq_true_eq] at h; omega
  obtain ⟨⟨l1, c1, s1, p, l2, c2, s2, q⟩, hd, h1, h2⟩ := spec_DrawMixAtoms_tot l hl
  simp only at h1 h2
  refine Ev.bind hd ?_
  have h4 := mixAt_len l1 c1 s1 p l2 c2 s2 q
  refine Ev.bind (impl_MixAtoms_ev l1 c1 s1 p l2 c2 s2 q (by omega) (by omega)) (Ev.bind (spec_MixAtoms_ev l1 c1 s1 p l2 c2 s2 q (by omega) (by omega)) ?_)
  refine ev_neg (by simp) (ev_ite (fun hm => ?_) (fun hm => ?_))
  · obtain ⟨t, ht, htl⟩ := laws_point_tot l (l1.length : Int) hl (by omega)
    refine Ev.bind ht (Ev.bind (impl_HoldsAt_ev l1 c1 s1 t (by omega) htl) (Ev.bind (impl_HoldsAt_ev l2 c2 s2 t (by omega) htl) (Ev.bind (impl_HoldsAt_ev _ _ _ t (by omega) htl) ?_)))
    have no := fun e he => j0_ev t l1 c1 s1 _ _ e he htl (by omega) rfl rfl
    refine ev_ite (fun o1 => ev_ite (fun o2 => ev_ite (fun o3 => ev_ite (fun b1 => ev_ite (fun b2 => ?_) (fun _ => no _ rfl)) (fun _ => no _ rfl)) (fun _ => no _ rfl)) (fun _ => no _ rfl)) (fun _ => no _ rfl)
    refine no _ ?_
    rw [mixAt_hold hm o1 o2 o3 b1 b2]
    rfl
  · rw [mixAt_no hm]
    exact Ev.now _

end Go.Proofs.Ytohoibekddhneaa.FinFnMixed
