/- Texts of the abs road (plain values, what code does to them, and the contracts of the functions that the law reaches). No condition. -/
import Derived.Test.YtjknjekemolndaaGreatG9FnExactNeatRegion
namespace Go.Proofs.YtjknjekemolndaaGreat.ZL
open Go Go.Proofs.YtjknjekemolndaaGreat.Abs Go.Proofs.YtjknjekemolndaaGreat.Abs.Pl Go.RowKit Go.Proofs
set_option linter.unusedVariables false
set_option linter.unusedSimpArgs false
theorem nxtR_w : ∀ (L : List Ce) (m : Int), nxtR L m ≤ m + 2 * wCs L
  | [], m => by simp [-Bool.exists_bool, -Int.not_le, -Int.not_lt, -getElem?_pos, -List.getD_eq_getElem?_getD, nxtR, wCs, wS]
  | c :: L, m => by
    have := nxtR_w L (nxtS c.2 (m + 1))
    have := nxtS_w c.2 (m + 1)
    simp only [nxtR, wCs, wS, wC, List.length_cons] at *
    omega
theorem SmallM.input {L : List Ce} (h : wCs L ≤ 1048576) : SmallM L := ⟨(wCs_small h).1, fun c hc => ((wCs_small h).2 c hc).1, fun c hc => ((wCs_small h).2 c hc).2⟩
theorem nxtR_bd (B : Nat) : ∀ (L : List Ce) (m : Int), (∀ c ∈ L, ∀ m, nxtS c.2 m ≤ m + B) → nxtR L m ≤ m + L.length * (B + 1)
  | [], m, _ => by simp [-Bool.exists_bool, -Int.not_le, -Int.not_lt, -getElem?_pos, -List.getD_eq_getElem?_getD, nxtR]
  | c :: L, m, h => by
    have h1 := nxtR_bd B L (nxtS c.2 (m + 1)) fun x hx => h x (List.mem_cons_of_mem _ hx)
    have h0 := h c List.mem_cons_self (m + 1)
    have e : ((c :: L).length : Int) * (B + 1) = L.length * (B + 1) + (B + 1) := by
      rw [List.length_cons, Int.natCast_add, Int.add_mul]; simp [-Bool.exists_bool, -Int.not_le, -Int.not_lt, -getElem?_pos, -List.getD_eq_getElem?_getD]
    simp only [nxtR]
    rw [e]
    omega
structure SmallN (L : List Ce) : Prop where
  m : SmallM L
  nxt : nxtR L 1 ≤ 100000000000
theorem SmallN.nil : SmallN [] := ⟨⟨by simp [-Bool.exists_bool, -Int.not_le, -Int.not_lt, -getElem?_pos, -List.getD_eq_getElem?_getD], (fun c h => by cases h), (fun c h => by cases h)⟩, by simp [-Bool.exists_bool, -Int.not_le, -Int.not_lt, -getElem?_pos, -List.getD_eq_getElem?_getD, nxtR]⟩
theorem SmallN.ok {d : Int} {L : List Ce} (h : okCs d L) : SmallN L := by
  have hc : ∀ c ∈ L, c.2.length ≤ 16 ∧ ∀ a ∈ c.2, a.1.length ≤ 4 := fun c hc => ⟨isCe_l (h.2 c hc).2, fun a ha => (okA_num (isCe_a (h.2 c hc).2 a ha)).2.2⟩
  refine ⟨⟨by have := h.1; omega, fun c hc' => by have := (hc c hc').1; omega, fun c hc' a ha => by have := (hc c hc').2 a ha; omega⟩, ?_⟩
  have := nxtR_bd 96 L 1 (fun c hc' m => by
    have h1 := nxtS_bd 4 c.2 m (hc c hc').2
    have h2 := (hc c hc').1
    have h3 : (c.2.length : Int) * (4 + 2) ≤ 96 := by omega
    simp [-Bool.exists_bool, -Int.not_le, -Int.not_lt, -getElem?_pos, -List.getD_eq_getElem?_getD] at h1
    omega)
  have h1 := h.1
  have h3 : (L.length : Int) * (96 + 1) ≤ 1164 := by omega
  simp [-Bool.exists_bool, -Int.not_le, -Int.not_lt, -getElem?_pos, -List.getD_eq_getElem?_getD] at this
  omega
theorem neatD_small (d : Int) (L : List Ce) : SmallN (neatD d L).2.1 := by
  unfold neatD
  split
  · rename_i hr
    obtain ⟨hd, h12, hok⟩ := isRe_ok hr
    cases hq : neatGo L [] with
    | none => exact SmallN.nil
    | some x => exact SmallN.ok (neatGo_ok hok ⟨by simp [-Bool.exists_bool, -Int.not_le, -Int.not_lt, -getElem?_pos, -List.getD_eq_getElem?_getD], by simp [-Bool.exists_bool, -Int.not_le, -Int.not_lt, -getElem?_pos, -List.getD_eq_getElem?_getD]⟩ hq)
  · exact SmallN.nil
theorem neatD_f {d : Int} {L : List Ce} (h : ¬ (neatD d L).2.2 = true) : neatD d L = (0, [], false) := by
  unfold neatD at h ⊢
  split
  · rename_i hr
    rw [if_pos hr] at h
    cases hq : neatGo L [] with
    | none => rfl
    | some x => rw [hq] at h; exact absurd rfl h
  · rfl
theorem rC_noSh (f : Nat → Key) : ∀ (R : List Ce) (i : Nat), noShL (rC f i R) = true
  | [], _ => rfl
  | c :: R, i => by simp [-Bool.exists_bool, -Int.not_le, -Int.not_lt, -getElem?_pos, -List.getD_eq_getElem?_getD, rC, noShL, noSh, noShD, rC_noSh f R]
theorem rA_noSh (f : Nat → Key) : ∀ (R : List At) (i : Nat), noShL (rA f i R) = true
  | [], _ => rfl
  | c :: R, i => by simp [-Bool.exists_bool, -Int.not_le, -Int.not_lt, -getElem?_pos, -List.getD_eq_getElem?_getD, rA, noShL, noSh, noShD, rA_noSh f R]
theorem noSh_regR (R : List Ce) (k : Key) (e : Ent) (h : regR R k = some e) : noShE e = true := by
  unfold regR at h
  split at h
  · unfold regS at h
    split at h
    · rw [← Option.some.inj h]
      cases decR k.2 with
      | row => simp only [entR, noShE, rC_noSh]
      | cel i => simp only [entR, noShE, rA_noSh]
      | co i j =>
        simp only [entR, rowA, noShE, noShL_all]
        rw [List.all_eq_true]
        intro x hx
        obtain ⟨d, hd, rfl⟩ := List.mem_map.1 hx
        obtain ⟨n, _, rfl⟩ := List.mem_map.1 hd
        rfl
    · cases h
  · cases h
theorem markCellS0 (m : Int) : Cn Tryz.prog 78 [Cs [], I m] (I m) hemp := by
  refine Cn.of [] mixed Tryz.func78 rfl Tryz.call78 (by kernel_rfl) rfl ?_
  simp -implicitDefEqProofs -dsimp +contextual [-Bool.exists_bool, -Int.not_le, -Int.not_lt, -getElem?_pos, -List.getD_eq_getElem?_getD, Tryz.f78]
  refine WP.loop mixed [] (fun i : Nat => ⟨tl [(0, Cs []), (1, I m), (5, I 0)], hl [], 1⟩) (fun i => i ≤ 0) (fun i => 0 - i) 0 (by kernel_rfl) ?_ ?_ ?_
  · refine Le.told [] ?_ ?_ ?_ <;> simp [-Bool.exists_bool, -Int.not_le, -Int.not_lt, -getElem?_pos, -List.getD_eq_getElem?_getD]
  · simp [-Bool.exists_bool, -Int.not_le, -Int.not_lt, -getElem?_pos, -List.getD_eq_getElem?_getD]
  · intro i hi
    simp -implicitDefEqProofs -dsimp +contextual [-Bool.exists_bool, -Int.not_le, -Int.not_lt, -getElem?_pos, -List.getD_eq_getElem?_getD]
    exact RLe.pure 1 (by simp [-Bool.exists_bool, -Int.not_le, -Int.not_lt, -getElem?_pos, -List.getD_eq_getElem?_getD])
theorem markRegion0 (d m : Int) : Cn Tryz.prog 30 [R1 d [], I m] (I m) hemp := by
  refine Cn.of [] mixed Tryz.func30 rfl Tryz.call30 (by kernel_rfl) rfl ?_
  simp -implicitDefEqProofs -dsimp +contextual [-Bool.exists_bool, -Int.not_le, -Int.not_lt, -getElem?_pos, -List.getD_eq_getElem?_getD, Tryz.f30]
  refine CallJ.pure (markCellS0 m) rfl (by simp [-Bool.exists_bool, -Int.not_le, -Int.not_lt, -getElem?_pos, -List.getD_eq_getElem?_getD]) ?_
  simp -implicitDefEqProofs -dsimp +contextual [-Bool.exists_bool, -Int.not_le, -Int.not_lt, -getElem?_pos, -List.getD_eq_getElem?_getD]
  exact RLe.pure 1 (by simp [-Bool.exists_bool, -Int.not_le, -Int.not_lt, -getElem?_pos, -List.getD_eq_getElem?_getD])
theorem heldRegion0 (d m : Int) (hm : 0 ≤ m ∧ m ≤ 100000000000) : Cn Tryz.prog 31 [R1 d [], I m] (I m) hemp := heldRegion d [] m hm SmallN.nil.m
theorem lendsR1 {H : Store} {s : Nat} {L : List Ce} {d : Int} (h : OwnsF true H (kS s) L) : lendVs true H 3 [.agg [I d, .ref (s, 0) L.length]] = some ([R1 d L], (s, 0) :: keyR (kS s) 0 L) := by
  have hl := h.lend 0 d
  simp only [lendVs, show lendV true H 3 (.agg [I d, .ref (s, 0) L.length]) = _ from hl]
  simp [-Bool.exists_bool, -Int.not_le, -Int.not_lt, -getElem?_pos, -List.getD_eq_getElem?_getD, encR]
theorem lendsR1k {s nx : Nat} {L : List Ce} (h : s < nx) : ∀ k ∈ (s, 0) :: keyR (kS s) 0 L, k.1 < nx := fun k hk => by
  rcases List.mem_cons.1 hk with rfl | hk
  · exact h
  · exact keyR_lt (fun a => h) _ _ k hk
theorem lawNeatRegion (d : Int) (L : List Ce) (hw : wfCs L) : Cn Tryz.prog 5 [R1 d L] (B true) hemp := by
  refine Cn.of [] mixed Tryz.func5 rfl Tryz.call5 (by kernel_rfl) rfl ?_
  simp -implicitDefEqProofs -dsimp +contextual [-Bool.exists_bool, -Int.not_le, -Int.not_lt, -getElem?_pos, -List.getD_eq_getElem?_getD, Tryz.f5]
  refine CallJ.pure (szRegion d L 1048576 ok20 hw) rfl (by simp [-Bool.exists_bool, -Int.not_le, -Int.not_lt, -getElem?_pos, -List.getD_eq_getElem?_getD]) ?_
  simp -implicitDefEqProofs -dsimp +contextual [-Bool.exists_bool, -Int.not_le, -Int.not_lt, -getElem?_pos, -List.getD_eq_getElem?_getD]
  refine ⟨fun _ => RLe.bb rfl, fun h => ?_⟩
  obtain ⟨w1, hk⟩ := lft_2 ok20 h
  obtain ⟨h20, hc⟩ := wCs_small w1
  have hc1 : ∀ c ∈ L, c.2.length ≤ 1048576 := fun c h => (hc c h).1
  have hM : SmallM L := SmallM.input w1
  have hN := nxtR_w L 1
  have hN0 := nxtR_le L 1
  refine CallJ.pure (toRegion d L h20 hc) rfl (by simp [-Bool.exists_bool, -Int.not_le, -Int.not_lt, -getElem?_pos, -List.getD_eq_getElem?_getD]) ?_
  simp -implicitDefEqProofs -dsimp +contextual [-Bool.exists_bool, -Int.not_le, -Int.not_lt, -getElem?_pos, -List.getD_eq_getElem?_getD, h]
  refine CallJ.pure (NeatRegion d L h20 hc1) rfl (by simp [-Bool.exists_bool, -Int.not_le, -Int.not_lt, -getElem?_pos, -List.getD_eq_getElem?_getD]) ?_
  simp -implicitDefEqProofs -dsimp +contextual [-Bool.exists_bool, -Int.not_le, -Int.not_lt, -getElem?_pos, -List.getD_eq_getElem?_getD, h]
  refine CallJ.pure (toRegionO d L h20 hc) rfl (by simp [-Bool.exists_bool, -Int.not_le, -Int.not_lt, -getElem?_pos, -List.getD_eq_getElem?_getD]) ?_
  simp -implicitDefEqProofs -dsimp +contextual [-Bool.exists_bool, -Int.not_le, -Int.not_lt, -getElem?_pos, -List.getD_eq_getElem?_getD, h]
  have hL := iNeatRegionO d L h20 hc1
  have hW := iNeatRegion d L h20 hc1
  have hR := neatD_small d L
  have hr0 := neatD_f (d := d) (L := L)
  generalize neatD d L = r at *
  have p1 := nxtR_le r.2.1 1
  have q1 : ¬ nxtR r.2.1 1 < 0 := by omega
  have q2 : ¬ nxtR L 1 < 0 := by omega
  by_cases hr : r.2.2 = true
  · rw [oRV_t hr, oRH_t hr] at hL
    refine CallJ.lent (ks := (19, 0) :: keyR (kS 19) 0 L) 3 hL (lendsR1 ?_) (fun k hk => .inl (lendsR1k (by omega) k hk)) (by simp [-Bool.exists_bool, -Int.not_le, -Int.not_lt, -getElem?_pos, -List.getD_eq_getElem?_getD, noSh, noShL, noShD]) (fun k e h => noSh_regR _ k e h) ?_
    · repeat first | exact OwnsF.call _ (hM).cel _ | exact OwnsF.marked _ (hM) _ | refine OwnsF.set ?_ (by simp [-Bool.exists_bool, -Int.not_le, -Int.not_lt, -getElem?_pos, -List.getD_eq_getElem?_getD]) | refine OwnsF.other ?_ (by omega) | refine OwnsF.otherM ?_ (by omega)
    simp -implicitDefEqProofs -dsimp +contextual [-Bool.exists_bool, -Int.not_le, -Int.not_lt, -getElem?_pos, -List.getD_eq_getElem?_getD, h, hr, q1, q2]
    refine OwnsF.eqR (s := 23) (L := r.2.1) r.1 hR.m ?_ (by omega) ?_
    · repeat first | exact OwnsF.call _ (hR.m).cel _ | exact OwnsF.marked _ (hR.m) _ | refine OwnsF.set ?_ (by simp [-Bool.exists_bool, -Int.not_le, -Int.not_lt, -getElem?_pos, -List.getD_eq_getElem?_getD]) | refine OwnsF.other ?_ (by omega) | refine OwnsF.otherM ?_ (by omega)
    simp -implicitDefEqProofs -dsimp +contextual [-Bool.exists_bool, -Int.not_le, -Int.not_lt, -getElem?_pos, -List.getD_eq_getElem?_getD, h, hr, q1, q2]
    refine CallJ.pure (toRegion d L h20 hc) rfl (by simp [-Bool.exists_bool, -Int.not_le, -Int.not_lt, -getElem?_pos, -List.getD_eq_getElem?_getD]) ?_
    simp -implicitDefEqProofs -dsimp +contextual [-Bool.exists_bool, -Int.not_le, -Int.not_lt, -getElem?_pos, -List.getD_eq_getElem?_getD, h, hr, q1, q2]
    refine OwnsF.eqR (s := 19) (L := L) d hM ?_ (by omega) ?_
    · repeat first | exact OwnsF.call _ (hM).cel _ | exact OwnsF.marked _ (hM) _ | refine OwnsF.set ?_ (by simp [-Bool.exists_bool, -Int.not_le, -Int.not_lt, -getElem?_pos, -List.getD_eq_getElem?_getD]) | refine OwnsF.other ?_ (by omega) | refine OwnsF.otherM ?_ (by omega)
    simp -implicitDefEqProofs -dsimp +contextual [-Bool.exists_bool, -Int.not_le, -Int.not_lt, -getElem?_pos, -List.getD_eq_getElem?_getD, h, hr, q1, q2]
    refine OwnsF.marks (s0 := 19) (L := L) ?_ d 1 ⟨by omega, by omega⟩ hM (by omega) (by omega) ?_
    · repeat first | exact OwnsF.call _ (hM).cel _ | exact OwnsF.marked _ (hM) _ | refine OwnsF.set ?_ (by simp [-Bool.exists_bool, -Int.not_le, -Int.not_lt, -getElem?_pos, -List.getD_eq_getElem?_getD]) | refine OwnsF.other ?_ (by omega) | refine OwnsF.otherM ?_ (by omega)
    simp -implicitDefEqProofs -dsimp +contextual [-Bool.exists_bool, -Int.not_le, -Int.not_lt, -getElem?_pos, -List.getD_eq_getElem?_getD, h, hr, q1, q2]
    refine OwnsF.eqR (s := 23) (L := r.2.1) r.1 hR.m ?_ (by omega) ?_
    · repeat first | exact OwnsF.call _ (hR.m).cel _ | exact OwnsF.marked _ (hR.m) _ | refine OwnsF.set ?_ (by simp [-Bool.exists_bool, -Int.not_le, -Int.not_lt, -getElem?_pos, -List.getD_eq_getElem?_getD]) | refine OwnsF.other ?_ (by omega) | refine OwnsF.otherM ?_ (by omega)
    simp -implicitDefEqProofs -dsimp +contextual [-Bool.exists_bool, -Int.not_le, -Int.not_lt, -getElem?_pos, -List.getD_eq_getElem?_getD, h, hr, q1, q2]
    refine OwnsF.marks (s0 := 23) (L := r.2.1) ?_ r.1 1 ⟨by omega, hR.nxt⟩ hR.m (by omega) (by omega) ?_
    · repeat first | exact OwnsF.call _ (hR.m).cel _ | exact OwnsF.marked _ (hR.m) _ | refine OwnsF.set ?_ (by simp [-Bool.exists_bool, -Int.not_le, -Int.not_lt, -getElem?_pos, -List.getD_eq_getElem?_getD]) | refine OwnsF.other ?_ (by omega) | refine OwnsF.otherM ?_ (by omega)
    simp -implicitDefEqProofs -dsimp +contextual [-Bool.exists_bool, -Int.not_le, -Int.not_lt, -getElem?_pos, -List.getD_eq_getElem?_getD, h, hr, q1, q2]
    refine OwnsF.held (s := 23) (L := r.2.1) r.1 1 ⟨by omega, hR.nxt⟩ hR.m ?_ (by omega) ?_
    · repeat first | exact OwnsF.call _ (hR.m).cel _ | exact OwnsF.marked _ (hR.m) _ | refine OwnsF.set ?_ (by simp [-Bool.exists_bool, -Int.not_le, -Int.not_lt, -getElem?_pos, -List.getD_eq_getElem?_getD]) | refine OwnsF.other ?_ (by omega) | refine OwnsF.otherM ?_ (by omega)
    simp -implicitDefEqProofs -dsimp +contextual [-Bool.exists_bool, -Int.not_le, -Int.not_lt, -getElem?_pos, -List.getD_eq_getElem?_getD, h, hr, q1, q2]
    refine CallJ.pure (toRegion d L h20 hc) rfl (by simp [-Bool.exists_bool, -Int.not_le, -Int.not_lt, -getElem?_pos, -List.getD_eq_getElem?_getD]) ?_
    simp -implicitDefEqProofs -dsimp +contextual [-Bool.exists_bool, -Int.not_le, -Int.not_lt, -getElem?_pos, -List.getD_eq_getElem?_getD, h, hr, q1, q2]
    refine CallJ.pure (hW) rfl (by simp [-Bool.exists_bool, -Int.not_le, -Int.not_lt, -getElem?_pos, -List.getD_eq_getElem?_getD]) ?_
    simp -implicitDefEqProofs -dsimp +contextual [-Bool.exists_bool, -Int.not_le, -Int.not_lt, -getElem?_pos, -List.getD_eq_getElem?_getD, h, hr, q1, q2]
    refine CallJ.pure (eqRegion r.1 r.2.1 hR.m.len fun c hc => ⟨hR.m.cel c hc, hR.m.dir c hc⟩) rfl (by simp [-Bool.exists_bool, -Int.not_le, -Int.not_lt, -getElem?_pos, -List.getD_eq_getElem?_getD]) ?_
    simp -implicitDefEqProofs -dsimp +contextual [-Bool.exists_bool, -Int.not_le, -Int.not_lt, -getElem?_pos, -List.getD_eq_getElem?_getD, h, hr, q1, q2]
    refine OwnsF.held (s := 23) (L := r.2.1) r.1 1 ⟨by omega, hR.nxt⟩ hR.m ?_ (by omega) ?_
    · repeat first | exact OwnsF.call _ (hR.m).cel _ | exact OwnsF.marked _ (hR.m) _ | refine OwnsF.set ?_ (by simp [-Bool.exists_bool, -Int.not_le, -Int.not_lt, -getElem?_pos, -List.getD_eq_getElem?_getD]) | refine OwnsF.other ?_ (by omega) | refine OwnsF.otherM ?_ (by omega)
    simp -implicitDefEqProofs -dsimp +contextual [-Bool.exists_bool, -Int.not_le, -Int.not_lt, -getElem?_pos, -List.getD_eq_getElem?_getD, h, hr, q1, q2]
    exact RLe.bb rfl
  · rw [oRV_f hr, oRH_f hr] at hL
    obtain rfl := hr0 hr
    refine CallJ.lent (ks := (19, 0) :: keyR (kS 19) 0 L) 3 hL (lendsR1 ?_) (fun k hk => .inl (lendsR1k (by omega) k hk)) rfl (by simp [-Bool.exists_bool, -Int.not_le, -Int.not_lt, -getElem?_pos, -List.getD_eq_getElem?_getD]) ?_
    · repeat first | exact OwnsF.call _ (hM).cel _ | exact OwnsF.marked _ (hM) _ | refine OwnsF.set ?_ (by simp [-Bool.exists_bool, -Int.not_le, -Int.not_lt, -getElem?_pos, -List.getD_eq_getElem?_getD]) | refine OwnsF.other ?_ (by omega) | refine OwnsF.otherM ?_ (by omega)
    simp -implicitDefEqProofs -dsimp +contextual [-Bool.exists_bool, -Int.not_le, -Int.not_lt, -getElem?_pos, -List.getD_eq_getElem?_getD, h, q2]
    refine CallJ.pure (ks := []) (eqRegion 0 [] (by simp [-Bool.exists_bool, -Int.not_le, -Int.not_lt, -getElem?_pos, -List.getD_eq_getElem?_getD]) (by simp [-Bool.exists_bool, -Int.not_le, -Int.not_lt, -getElem?_pos, -List.getD_eq_getElem?_getD])) (by simp [-Bool.exists_bool, -Int.not_le, -Int.not_lt, -getElem?_pos, -List.getD_eq_getElem?_getD, csD]) (by simp [-Bool.exists_bool, -Int.not_le, -Int.not_lt, -getElem?_pos, -List.getD_eq_getElem?_getD]) ?_
    simp -implicitDefEqProofs -dsimp +contextual [-Bool.exists_bool, -Int.not_le, -Int.not_lt, -getElem?_pos, -List.getD_eq_getElem?_getD, h, q2]
    refine CallJ.pure (toRegion d L h20 hc) rfl (by simp [-Bool.exists_bool, -Int.not_le, -Int.not_lt, -getElem?_pos, -List.getD_eq_getElem?_getD]) ?_
    simp -implicitDefEqProofs -dsimp +contextual [-Bool.exists_bool, -Int.not_le, -Int.not_lt, -getElem?_pos, -List.getD_eq_getElem?_getD, h, q2]
    refine OwnsF.eqR (s := 19) (L := L) d hM ?_ (by omega) ?_
    · repeat first | exact OwnsF.call _ (hM).cel _ | exact OwnsF.marked _ (hM) _ | refine OwnsF.set ?_ (by simp [-Bool.exists_bool, -Int.not_le, -Int.not_lt, -getElem?_pos, -List.getD_eq_getElem?_getD]) | refine OwnsF.other ?_ (by omega) | refine OwnsF.otherM ?_ (by omega)
    simp -implicitDefEqProofs -dsimp +contextual [-Bool.exists_bool, -Int.not_le, -Int.not_lt, -getElem?_pos, -List.getD_eq_getElem?_getD, h, q2]
    refine OwnsF.marks (s0 := 19) (L := L) ?_ d 1 ⟨by omega, by omega⟩ hM (by omega) (by omega) ?_
    · repeat first | exact OwnsF.call _ (hM).cel _ | exact OwnsF.marked _ (hM) _ | refine OwnsF.set ?_ (by simp [-Bool.exists_bool, -Int.not_le, -Int.not_lt, -getElem?_pos, -List.getD_eq_getElem?_getD]) | refine OwnsF.other ?_ (by omega) | refine OwnsF.otherM ?_ (by omega)
    simp -implicitDefEqProofs -dsimp +contextual [-Bool.exists_bool, -Int.not_le, -Int.not_lt, -getElem?_pos, -List.getD_eq_getElem?_getD, h, q2]
    refine CallJ.pure (ks := []) (eqRegion 0 [] (by simp [-Bool.exists_bool, -Int.not_le, -Int.not_lt, -getElem?_pos, -List.getD_eq_getElem?_getD]) (by simp [-Bool.exists_bool, -Int.not_le, -Int.not_lt, -getElem?_pos, -List.getD_eq_getElem?_getD])) (by simp [-Bool.exists_bool, -Int.not_le, -Int.not_lt, -getElem?_pos, -List.getD_eq_getElem?_getD, csD]) (by simp [-Bool.exists_bool, -Int.not_le, -Int.not_lt, -getElem?_pos, -List.getD_eq_getElem?_getD]) ?_
    simp -implicitDefEqProofs -dsimp +contextual [-Bool.exists_bool, -Int.not_le, -Int.not_lt, -getElem?_pos, -List.getD_eq_getElem?_getD, h, q2]
    refine CallJ.pure (ks := []) (markRegion0 0 1) (by simp [-Bool.exists_bool, -Int.not_le, -Int.not_lt, -getElem?_pos, -List.getD_eq_getElem?_getD, csD]) (by simp [-Bool.exists_bool, -Int.not_le, -Int.not_lt, -getElem?_pos, -List.getD_eq_getElem?_getD]) ?_
    simp -implicitDefEqProofs -dsimp +contextual [-Bool.exists_bool, -Int.not_le, -Int.not_lt, -getElem?_pos, -List.getD_eq_getElem?_getD, h, q2]
    refine CallJ.pure (ks := []) (heldRegion0 0 1 (by omega)) (by simp [-Bool.exists_bool, -Int.not_le, -Int.not_lt, -getElem?_pos, -List.getD_eq_getElem?_getD, csD]) (by simp [-Bool.exists_bool, -Int.not_le, -Int.not_lt, -getElem?_pos, -List.getD_eq_getElem?_getD]) ?_
    simp -implicitDefEqProofs -dsimp +contextual [-Bool.exists_bool, -Int.not_le, -Int.not_lt, -getElem?_pos, -List.getD_eq_getElem?_getD, h, q2]
    refine CallJ.pure (toRegion d L h20 hc) rfl (by simp [-Bool.exists_bool, -Int.not_le, -Int.not_lt, -getElem?_pos, -List.getD_eq_getElem?_getD]) ?_
    simp -implicitDefEqProofs -dsimp +contextual [-Bool.exists_bool, -Int.not_le, -Int.not_lt, -getElem?_pos, -List.getD_eq_getElem?_getD, h, q2]
    refine CallJ.pure (hW) rfl (by simp [-Bool.exists_bool, -Int.not_le, -Int.not_lt, -getElem?_pos, -List.getD_eq_getElem?_getD]) ?_
    simp -implicitDefEqProofs -dsimp +contextual [-Bool.exists_bool, -Int.not_le, -Int.not_lt, -getElem?_pos, -List.getD_eq_getElem?_getD, h, q2]
    refine CallJ.pure (ks := []) (eqRegion 0 [] (by simp [-Bool.exists_bool, -Int.not_le, -Int.not_lt, -getElem?_pos, -List.getD_eq_getElem?_getD]) (by simp [-Bool.exists_bool, -Int.not_le, -Int.not_lt, -getElem?_pos, -List.getD_eq_getElem?_getD])) (by simp [-Bool.exists_bool, -Int.not_le, -Int.not_lt, -getElem?_pos, -List.getD_eq_getElem?_getD, csD]) (by simp [-Bool.exists_bool, -Int.not_le, -Int.not_lt, -getElem?_pos, -List.getD_eq_getElem?_getD]) ?_
    simp -implicitDefEqProofs -dsimp +contextual [-Bool.exists_bool, -Int.not_le, -Int.not_lt, -getElem?_pos, -List.getD_eq_getElem?_getD, h, q2]
    refine CallJ.pure (ks := []) (heldRegion0 0 1 (by omega)) (by simp [-Bool.exists_bool, -Int.not_le, -Int.not_lt, -getElem?_pos, -List.getD_eq_getElem?_getD, csD]) (by simp [-Bool.exists_bool, -Int.not_le, -Int.not_lt, -getElem?_pos, -List.getD_eq_getElem?_getD]) ?_
    simp -implicitDefEqProofs -dsimp +contextual [-Bool.exists_bool, -Int.not_le, -Int.not_lt, -getElem?_pos, -List.getD_eq_getElem?_getD, h, q2]
    exact RLe.bb rfl
end Go.Proofs.YtjknjekemolndaaGreat.ZL
