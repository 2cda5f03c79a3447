/- Texts of the abs road (plain values, what code does to them, and the contracts of the functions that the law reaches). No condition. -/
import Derived.Test.YtkicjflhokckgaaG7FnExactMinimalCell
import Derived.Shelf.Spec.SlicesGrow
import Derived.Test.YtkicjflhokckgaaProg
namespace Go.Proofs
open Go.Shelf
def Try.growL_ren : Go.Shelf.Ren := ⟨fun | 4 => 101 | n => n, fun | 22 => 26 | 25 => 52 | 3 => 3 | 4 => 4 | 9 => 9 | 20 => 20 | 0 => 0 | n => n, fun | n => n⟩
theorem Try.growL : Go.Proofs.Lays8.n4 Try.prog Try.growL_ren := {
  mixed := by kernel_rfl
  f4 := ⟨Try.f101.name, by decide, Try.func101.trans (congrArg some (by kernel_rfl))⟩
  t0 := Try.underlying0
  a0 := Try.isAgg0
  z0 := Try.sizeOf0
  v0 := Try.zeroValue0
  t3 := Try.underlying3
  a3 := Try.isAgg3
  z3 := Try.sizeOf3
  v3 := Try.zeroValue3
  t4 := Try.underlying4
  a4 := Try.isAgg4
  z4 := Try.sizeOf4
  v4 := Try.zeroValue4
  t9 := Try.underlying9
  a9 := Try.isAgg9
  z9 := Try.sizeOf9
  v9 := Try.zeroValue9
  t20 := Try.underlying20
  a20 := Try.isAgg20
  z20 := Try.sizeOf20
  v20 := Try.zeroValue20
  t22 := Try.underlying26
  a22 := Try.isAgg26
  z22 := Try.sizeOf26
  v22 := Try.zeroValue26 }
end Go.Proofs
namespace Go.Proofs.Ytkicjflhokckgaa.ZL
open Go Go.Proofs.Ytkicjflhokckgaa.Abs Go.Proofs.Ytkicjflhokckgaa.Abs.Pl Go.RowKit Go.Proofs
set_option linter.unusedVariables false
set_option linter.unusedSimpArgs false
theorem iGrow (n : Nat) (hn : n ≤ 1048576) : Cn Try.prog 101 [.nil, I n] (.ref (0, 0) 0) (hl [((0, 0), .row 52 0 [])]) := by
  refine ⟨Try.call101, fun w F args hF hden => ?_⟩
  obtain ⟨A, rfl⟩ : ∃ A, args = #[.slice A 0 0, .int .i64 n] := by
    unfold DenVs at hden
    obtain ⟨u, r, h1, h2, h3⟩ := hden
    unfold DenVs at h3
    obtain ⟨u', r', rfl, h4, h5⟩ := h3
    unfold DenVs at h5
    subst h5
    unfold DenV at h2
    obtain ⟨A, h6⟩ := h2
    exact ⟨A, Array.toList_inj.1 (by rw [h1, h6, h4.int])⟩
  obtain ⟨i0, hi, hz, hzero⟩ : ∃ i0, Try.prog.info? 52 = some i0 ∧ i0.size = 3 ∧ i0.bytes = 40 := digest_size dg52
  obtain ⟨i1, z, h1, h2, h3⟩ := digest_zero dg52
  rw [hi] at h1
  obtain rfl := Option.some.inj h1
  have hzc : z.cells.size = 3 := by
    have := congrArg List.length h3
    simpa [-Bool.exists_bool, -Int.not_le, -Int.not_lt, -getElem?_pos, -List.getD_eq_getElem?_getD] using this.symm
  by_cases h0 : n = 0
  · subst h0
    have hS := Any8.slices_Grow_room (P := Try.prog) (ρ := Try.growL_ren) Try.growL A 0 0 0 w (by omega) (by omega) (by omega) (by omega)
    change Calls Try.prog 101 _ _ _ at hS
    refine hS.mono ?_
    rintro e w' ⟨rfl, rfl⟩
    refine ⟨_, fun k => if k = (0, 0) then some (.slice A 0 0) else none, F, rfl, fun b h => h, ?_, ⟨fun k e hk => ?_, fun k k' e e' u u' b hk hk' _ _ _ _ _ _ => ?_⟩, Chg.refl _ _, fun k e u b hk _ hu hb => ?_, fun k hk => if_neg (fun e => hk (by rw [e]))⟩
    · unfold DenV; exact ⟨rfl, A, 0, rfl, .inl rfl, Nat.le_refl _⟩
    · simp only [hl] at hk
      split at hk
      · rename_i h; subst h
        obtain rfl := Option.some.inj hk
        exact ⟨_, rfl, .inr ⟨A, rfl, rfl, rfl⟩, fun _ b hb => by cases A <;> simp [-Bool.exists_bool, -Int.not_le, -Int.not_lt, -getElem?_pos, -List.getD_eq_getElem?_getD, blkOf] at hb⟩
      · exact absurd hk (by simp [-Bool.exists_bool, -Int.not_le, -Int.not_lt, -getElem?_pos, -List.getD_eq_getElem?_getD])
    · simp only [hl] at hk hk'
      split at hk <;> split at hk'
      · rename_i h h'; rw [h, h']
      · exact absurd hk' (by simp [-Bool.exists_bool, -Int.not_le, -Int.not_lt, -getElem?_pos, -List.getD_eq_getElem?_getD])
      · exact absurd hk (by simp [-Bool.exists_bool, -Int.not_le, -Int.not_lt, -getElem?_pos, -List.getD_eq_getElem?_getD])
      · exact absurd hk (by simp [-Bool.exists_bool, -Int.not_le, -Int.not_lt, -getElem?_pos, -List.getD_eq_getElem?_getD])
    · simp only at hu
      split at hu
      · obtain rfl := Option.some.inj hu; cases A <;> simp [-Bool.exists_bool, -Int.not_le, -Int.not_lt, -getElem?_pos, -List.getD_eq_getElem?_getD, blkOf] at hb
      · exact absurd hu (by simp [-Bool.exists_bool, -Int.not_le, -Int.not_lt, -getElem?_pos, -List.getD_eq_getElem?_getD])
  · have hS := Any8.slices_Grow_grow (P := Try.prog) (ρ := Try.growL_ren) Try.growL i0 z hi h2 (by omega) A 0 0 n [] w (by omega) (by omega) (by rw [hzero]; omega) (by omega) (by simp [-Bool.exists_bool, -Int.not_le, -Int.not_lt, -getElem?_pos, -List.getD_eq_getElem?_getD]) (fun _ => rfl) (fun a _ j v h => by simp [-Bool.exists_bool, -Int.not_le, -Int.not_lt, -getElem?_pos, -List.getD_eq_getElem?_getD] at h)
    change Calls Try.prog 101 _ _ _ at hS
    refine hS.mono ?_
    rintro e w' ⟨rfl, rfl⟩
    have hge := grownCap_ge w (0 + n) 0 52
    have hle := grownCap_le_maxLen w (0 + n) 0 52 (by unfold maxLen; omega)
    have et : Try.growL_ren.t 25 = 52 := rfl
    rw [et]
    generalize grownCap w (0 + n) 0 52 = cp at hge hle ⊢
    have hb0 : blkOf (.slice (some ⟨w.heap.size, 0, none⟩) 0 cp) = some w.heap.size := by simp only [blkOf]; rw [if_neg (by omega)]
    refine ⟨_, fun k => if k = (0, 0) then some (.slice (some ⟨w.heap.size, 0, none⟩) 0 cp) else none, fun b => F b ∨ b = w.heap.size, rfl, fun b h => .inl h, ?_, ⟨fun k e hk => ?_, fun k k' e e' u u' b hk hk' _ _ _ _ _ _ => ?_⟩, ⟨rfl, rfl, rfl, by simp [-Bool.exists_bool, -Int.not_le, -Int.not_lt, -getElem?_pos, -List.getD_eq_getElem?_getD], fun b _ h => (Chg.alloc (fun _ => False) w.drew _).block b (fun h => h) h, Nat.le_succ _⟩, fun k e u b hk _ hu hb => ?_, fun k hk => if_neg (fun e => hk (by rw [e]))⟩
    · unfold DenV; exact ⟨rfl, _, cp, rfl, .inl rfl, Nat.zero_le _⟩
    · simp only [hl] at hk
      split at hk
      · rename_i h; subst h
        obtain rfl := Option.some.inj hk
        refine ⟨_, rfl, .inl ⟨[], i0, hi, ⟨by simp [-Bool.exists_bool, -Int.not_le, -Int.not_lt, -getElem?_pos, -List.getD_eq_getElem?_getD], .inr ⟨w.heap.size, cp, _, rfl, Nat.zero_le _, heap_alloc_new w.drew _, Nat.zero_le _, hle, ?_, by simp [-Bool.exists_bool, -Int.not_le, -Int.not_lt, -getElem?_pos, -List.getD_eq_getElem?_getD]⟩⟩, DenVs.nil⟩, fun _ b hb => ?_⟩
        · simp only [Array.size_append, List.size_toArray, size_zeroCells, hzc, hz, List.length_nil]
          omega
        · rw [hb0] at hb; exact .inr (Option.some.inj hb).symm
      · exact absurd hk (by simp [-Bool.exists_bool, -Int.not_le, -Int.not_lt, -getElem?_pos, -List.getD_eq_getElem?_getD])
    · simp only [hl] at hk hk'
      split at hk <;> split at hk'
      · rename_i h h'; rw [h, h']
      · exact absurd hk' (by simp [-Bool.exists_bool, -Int.not_le, -Int.not_lt, -getElem?_pos, -List.getD_eq_getElem?_getD])
      · exact absurd hk (by simp [-Bool.exists_bool, -Int.not_le, -Int.not_lt, -getElem?_pos, -List.getD_eq_getElem?_getD])
      · exact absurd hk (by simp [-Bool.exists_bool, -Int.not_le, -Int.not_lt, -getElem?_pos, -List.getD_eq_getElem?_getD])
    · simp only at hu
      split at hu
      · obtain rfl := Option.some.inj hu; rw [hb0] at hb; have := Option.some.inj hb; omega
      · exact absurd hu (by simp [-Bool.exists_bool, -Int.not_le, -Int.not_lt, -getElem?_pos, -List.getD_eq_getElem?_getD])
end Go.Proofs.Ytkicjflhokckgaa.ZL
namespace Go.Proofs.Ytkicjflhokckgaa.ZL
open Go Go.Proofs.Ytkicjflhokckgaa.Abs Go.Proofs.Ytkicjflhokckgaa.Abs.Pl Go.RowKit Go.Proofs
set_option linter.unusedVariables false
set_option linter.unusedSimpArgs false
theorem negAt_t {a : At} (h : isAt a.1 a.2.1 = true) : negAt a.1 a.2.1 a.2.2 = (a.1.map (- ·), -a.2.1, !a.2.2, true) := if_pos h
theorem negAt_f {a : At} (h : isAt a.1 a.2.1 = false) : negAt a.1 a.2.1 a.2.2 = noAt := if_neg (by rw [h]; simp [-Bool.exists_bool, -Int.not_le, -Int.not_lt, -getElem?_pos, -List.getD_eq_getElem?_getD])
theorem NegateAtom (a : At) : Cn Try.prog 69 [A1 a] (A2 (negAt a.1 a.2.1 a.2.2)) hemp := by
  refine Cn.of [] mixed Try.func69 rfl Try.call69 (by kernel_rfl) rfl ?_
  simp -implicitDefEqProofs -dsimp +contextual [-Bool.exists_bool, -Int.not_le, -Int.not_lt, -getElem?_pos, -List.getD_eq_getElem?_getD, Try.f69]
  refine CallJ.pure (IsAtom a) rfl (by simp [-Bool.exists_bool, -Int.not_le, -Int.not_lt, -getElem?_pos, -List.getD_eq_getElem?_getD]) ?_
  simp -implicitDefEqProofs -dsimp +contextual [-Bool.exists_bool, -Int.not_le, -Int.not_lt, -getElem?_pos, -List.getD_eq_getElem?_getD]
  refine ⟨fun ha => ?_, fun ha => RLe.pure 3 (by rw [negAt_f ha]; simp [-Bool.exists_bool, -Int.not_le, -Int.not_lt, -getElem?_pos, -List.getD_eq_getElem?_getD, noAt, setH])⟩
  rw [negAt_t ha]
  have p := isAt_iff.1 ha
  have ng : ∀ {x : Int}, isNum x = true → IntKind.wrap .i64 (-x) = -x := fun {x} h => by
    have := isNum_iff.1 h
    exact wr (by omega) (by omega)
  rw [ng p.2.1]
  refine WP.loop mixed [] (fun i : Nat => ⟨tl [(1, .ptr (0, 0) 0), (2, .ptr (1, 0) 0), (4, .ptr (2, 0) 0), (5, I i)], hl [((0, 0), .box (aV a)), ((1, 0), .box [.nil, I 0, B false]), ((2, 0), .box [.ref (3, 0) i, I (-a.2.1), B (!a.2.2)]), ((3, 0), .row 3 i (dl ((a.1.take i).map fun x => .int .i64 (-x))))], 4⟩) (fun i => i ≤ a.1.length) (fun i => a.1.length - i) 0 (by kernel_rfl) ?_ ?_ ?_
  · refine Le.trans (Le.nilBox (13, 0) 0 3 (c := [.nil, I (-a.2.1), B (!a.2.2)]) (by simp [-Bool.exists_bool, -Int.not_le, -Int.not_lt, -getElem?_pos, -List.getD_eq_getElem?_getD, setH]) rfl) (Le.told [((2, 0), (13, 0)), ((3, 0), (16, 0))] ?_ ?_ ?_) <;> simp [-Bool.exists_bool, -Int.not_le, -Int.not_lt, -getElem?_pos, -List.getD_eq_getElem?_getD, setH, ELe]
  · simp [-Bool.exists_bool, -Int.not_le, -Int.not_lt, -getElem?_pos, -List.getD_eq_getElem?_getD]
  · intro i hi
    by_cases h : i < a.1.length
    · simp -implicitDefEqProofs -dsimp +contextual [-Bool.exists_bool, -Int.not_le, -Int.not_lt, -getElem?_pos, -List.getD_eq_getElem?_getD, h]
      rw [ng (p.2.2.1 _ (nth_mem h))]
      refine ⟨⟨by omega, by simp [-Bool.exists_bool, -Int.not_le, -Int.not_lt, -getElem?_pos, -List.getD_eq_getElem?_getD, maxLen]; omega⟩, by kernel_rfl, i + 1, h, by omega, ?_⟩
      rw [wr (by omega) (by omega)]
      refine Le.told [((3, 0), (18, 0))] ?_ ?_ ?_ <;> simp [-Bool.exists_bool, -Int.not_le, -Int.not_lt, -getElem?_pos, -List.getD_eq_getElem?_getD]
      rw [← List.map_take, ← List.map_take, nth_take h, List.map_append]
      rfl
    · obtain rfl : i = a.1.length := by omega
      simp -implicitDefEqProofs -dsimp +contextual [-Bool.exists_bool, -Int.not_le, -Int.not_lt, -getElem?_pos, -List.getD_eq_getElem?_getD, h]
      refine RLe.pure 3 ?_
      simp [-Bool.exists_bool, -Int.not_le, -Int.not_lt, -getElem?_pos, -List.getD_eq_getElem?_getD, setH]
def negs (l : List Int) (i : Nat) : List Int := (l.take i).map (- ·) ++ List.replicate (l.length - i) 0
theorem negs_len (l : List Int) (i : Nat) (h : i ≤ l.length) : (negs l i).length = l.length := by simp [-Bool.exists_bool, -Int.not_le, -Int.not_lt, -getElem?_pos, -List.getD_eq_getElem?_getD, negs]; omega
theorem negs_set (l : List Int) (i : Nat) (h : i < l.length) : (negs l i).set i (-nth l i) = negs l (i + 1) := by
  have e : l.length - i = (l.length - (i + 1)) + 1 := by omega
  unfold negs
  rw [e, List.replicate_succ, nth_take h, List.set_append_right _ _ (by simp [-Bool.exists_bool, -Int.not_le, -Int.not_lt, -getElem?_pos, -List.getD_eq_getElem?_getD]; omega)]
  simp [-Bool.exists_bool, -Int.not_le, -Int.not_lt, -getElem?_pos, -List.getD_eq_getElem?_getD, Nat.min_eq_left (Nat.le_of_lt h)]
theorem iNegateAtom (a : At) : Cn Try.prog 71 [A1 a] (A2 (negAt a.1 a.2.1 a.2.2)) hemp := by
  refine Cn.of [] mixed Try.func71 rfl Try.call71 (by kernel_rfl) rfl ?_
  simp -implicitDefEqProofs -dsimp +contextual [-Bool.exists_bool, -Int.not_le, -Int.not_lt, -getElem?_pos, -List.getD_eq_getElem?_getD, Try.f71]
  refine CallJ.pure (iIsAtom a) rfl (by simp [-Bool.exists_bool, -Int.not_le, -Int.not_lt, -getElem?_pos, -List.getD_eq_getElem?_getD]) ?_
  simp -implicitDefEqProofs -dsimp +contextual [-Bool.exists_bool, -Int.not_le, -Int.not_lt, -getElem?_pos, -List.getD_eq_getElem?_getD]
  refine ⟨fun ha => ?_, fun ha => RLe.pure 3 (by rw [negAt_f ha]; simp [-Bool.exists_bool, -Int.not_le, -Int.not_lt, -getElem?_pos, -List.getD_eq_getElem?_getD, noAt, setH])⟩
  rw [negAt_t ha]
  have p := isAt_iff.1 ha
  have ng : ∀ {x : Int}, isNum x = true → IntKind.wrap .i64 (-x) = -x := fun {x} h => by
    have := isNum_iff.1 h
    exact wr (by omega) (by omega)
  rw [ng p.2.1]
  refine ⟨⟨by omega, by simp [-Bool.exists_bool, -Int.not_le, -Int.not_lt, -getElem?_pos, -List.getD_eq_getElem?_getD, maxLen]; omega⟩, ?_⟩
  refine WP.loop mixed [] (fun i : Nat => ⟨tl [(2, .ptr (1, 0) 0), (4, .ptr (2, 0) 0), (23, Is a.1), (24, I a.1.length), (25, I i)], hl [((1, 0), .box [.nil, I 0, B false]), ((2, 0), .box [.ref (3, 0) a.1.length, I (-a.2.1), B (!a.2.2)]), ((3, 0), .row 3 a.1.length (dl ((negs a.1 i).map (.int .i64))))], 4⟩) (fun i => i ≤ a.1.length) (fun i => a.1.length - i) 0 (by kernel_rfl) ?_ ?_ ?_
  · refine Le.told [((2, 0), (17, 0)), ((3, 0), (9, 0))] ?_ ?_ ?_ <;> simp [-Bool.exists_bool, -Int.not_le, -Int.not_lt, -getElem?_pos, -List.getD_eq_getElem?_getD, setH, negs]
  · simp [-Bool.exists_bool, -Int.not_le, -Int.not_lt, -getElem?_pos, -List.getD_eq_getElem?_getD]
  · intro i hi
    by_cases h : i < a.1.length
    · have h1 : i + 1 ≤ (negs a.1 i).length := by rw [negs_len _ i hi]; exact h
      simp -implicitDefEqProofs -dsimp +contextual [-Bool.exists_bool, -Int.not_le, -Int.not_lt, -getElem?_pos, -List.getD_eq_getElem?_getD, h, h1]
      rw [ng (p.2.2.1 _ (nth_mem h))]
      refine ⟨i + 1, h, by omega, ?_⟩
      rw [wr (by omega) (by omega)]
      refine Le.told [] ?_ ?_ ?_ <;> simp [-Bool.exists_bool, -Int.not_le, -Int.not_lt, -getElem?_pos, -List.getD_eq_getElem?_getD]
      rw [← negs_set a.1 i h, List.map_set, List.set_eq_take_append_cons_drop, if_pos (by rw [List.length_map]; exact h1)]
    · obtain rfl : i = a.1.length := by omega
      simp -implicitDefEqProofs -dsimp +contextual [-Bool.exists_bool, -Int.not_le, -Int.not_lt, -getElem?_pos, -List.getD_eq_getElem?_getD, h]
      refine RLe.pure 3 ?_
      simp [-Bool.exists_bool, -Int.not_le, -Int.not_lt, -getElem?_pos, -List.getD_eq_getElem?_getD, setH, negs]
theorem _root_.Go.Proofs.Ytkicjflhokckgaa.Abs.CallJ.same {P : Program} {N nx s f : Nat} {H : Store} {vs : List V} {r : V} {Hr : Store} {K : Eff → Prop} (h : Cn P f vs r Hr) (ha : allKs (fun _ => False) vs)
    (hk : K ⟨mapK (atS s) r, [], [], upCall s Hr⟩) : CallJ P N nx s H f vs K := by
  refine ⟨_, hk, h.enter, upCall_ups, fun k hk => absurd hk (by simp [-Bool.exists_bool, -Int.not_le, -Int.not_lt, -getElem?_pos, -List.getD_eq_getElem?_getD]), fun k hk => absurd hk (by simp [-Bool.exists_bool, -Int.not_le, -Int.not_lt, -getElem?_pos, -List.getD_eq_getElem?_getD]), fun {w0 F0 E0 fr T Hc a w M F us dst} hfr hat hden hH hd => ?_⟩
  let Fc : Nat → Prop := fun b => F b ∧ b < w.heap.size
  have hm : DenVs M Fc w vs us.toList := hden.move (fun _ _ h => h) ⟨fun b hb => .inl hb.1, fun _ _ _ => rfl⟩
  refine (h.run w Fc us (fun b hb => hb.2) (DenVs.cong (M := M) (g := fun k => k) (p := fun _ => False) (fun k h => h.elim) ha (by rw [mapL_id]; exact hm))).mono ?_
  rintro e w' ⟨v, M', F', rfl, hFF, hr, hR, hc, hnew, hM0⟩
  refine ⟨v, rfl, hat.called (F2 := fun b => F' b ∧ (F b ∨ w.heap.size ≤ b)) hfr hd hc (fun b hb => hb.2) (fun b h1 h2 => ⟨hFF b ⟨h1, h2⟩, .inl h1⟩) hM0 ?_ ?_ hnew⟩
  · exact hr.move (fun _ _ h => h) ⟨fun b hb => .inl hb.1, fun _ _ _ => rfl⟩
  · refine hR.mono (fun b hb => hb.1) fun k e u b h1 h2 h3 h4 => ⟨?_, .inr (hnew k e u b h1 h2 h3 h4)⟩
    obtain ⟨u', hu', _, hF⟩ := hR.ent k e h1
    rw [h3] at hu'
    obtain rfl := Option.some.inj hu'
    exact hF h2 b h4
def sD (L : List At) : D := .sl L.length (asD L)
abbrev Ss (Ls : List (List At)) : V := .d (.sl Ls.length (Ls.map sD))
theorem Ss_get (Ls : List (List At)) (i : Nat) (h : i < Ls.length) : (Ls.map sD)[i]? = some (sD (nth Ls i)) := by rw [List.getElem?_map, nth_some h]; rfl
def tot : List (List At) → Nat
  | [] => 0
  | L :: Ls => L.length + tot Ls
theorem tot_flat : ∀ Ls : List (List At), Ls.flatten.length = tot Ls
  | [] => rfl
  | L :: Ls => by simp [-Bool.exists_bool, -Int.not_le, -Int.not_lt, -getElem?_pos, -List.getD_eq_getElem?_getD, tot, tot_flat Ls]
theorem tot_drop (Ls : List (List At)) (i : Nat) : tot (Ls.drop i) ≤ tot Ls := by
  induction Ls generalizing i with
  | nil => simp [-Bool.exists_bool, -Int.not_le, -Int.not_lt, -getElem?_pos, -List.getD_eq_getElem?_getD]
  | cons L Ls ih => cases i with
    | zero => exact Nat.le_refl _
    | succ i => have := ih i; simp [-Bool.exists_bool, -Int.not_le, -Int.not_lt, -getElem?_pos, -List.getD_eq_getElem?_getD, tot]; omega
theorem iConcat (Ls : List (List At)) (h : Ls.length ≤ 1048576) (ht : tot Ls ≤ 1048576) : Cn Try.prog 59 [Ss Ls] (.ref (0, 0) Ls.flatten.length) (Go.Proofs.Ytkicjflhokckgaa.Abs.hl [((0, 0), .row 52 Ls.flatten.length (dl (asD Ls.flatten)))]) := by
  refine Cn.of [] mixed Try.func59 rfl Try.call59 (by kernel_rfl) rfl ?_
  simp -implicitDefEqProofs -dsimp +contextual [-Bool.exists_bool, -Int.not_le, -Int.not_lt, -getElem?_pos, -List.getD_eq_getElem?_getD, Try.f59]
  refine WP.loop mixed [] (fun p : Nat × Nat => ⟨tl [(0, Ss Ls), (3, I p.2), (9, Ss Ls), (10, I Ls.length), (11, I p.1)], hl [], 1⟩) (fun p => p.1 ≤ Ls.length ∧ p.2 + tot (Ls.drop p.1) = tot Ls) (fun p => Ls.length - p.1) (0, 0) (by kernel_rfl) ?_ ?_ ?_
  · refine Le.told [] ?_ ?_ ?_ <;> simp [-Bool.exists_bool, -Int.not_le, -Int.not_lt, -getElem?_pos, -List.getD_eq_getElem?_getD]
  · exact ⟨Nat.zero_le _, by simp [-Bool.exists_bool, -Int.not_le, -Int.not_lt, -getElem?_pos, -List.getD_eq_getElem?_getD]⟩
  · rintro ⟨i, n⟩ ⟨hi, hn⟩
    simp only at hi hn
    by_cases h1 : i < Ls.length
    · have hg := Ss_get Ls i h1
      simp only [sD] at hg
      rw [nth_drop h1, tot] at hn
      have hw : IntKind.wrap .i64 ((n : Int) + (nth Ls i).length) = (n : Int) + (nth Ls i).length := wr (by omega) (by omega)
      have h0 : ¬ ((n : Int) + (nth Ls i).length < 0) := by omega
      simp -implicitDefEqProofs -dsimp +contextual [-Bool.exists_bool, -Int.not_le, -Int.not_lt, -getElem?_pos, -List.getD_eq_getElem?_getD, h1, hg, hw, h0, sD]
      refine ⟨i + 1, n + (nth Ls i).length, ⟨h1, by omega⟩, by omega, ?_⟩
      rw [wr (by omega) (by omega)]
      refine Le.told [] ?_ ?_ ?_ <;> simp [-Bool.exists_bool, -Int.not_le, -Int.not_lt, -getElem?_pos, -List.getD_eq_getElem?_getD]
    · rw [drop_nil (by omega), tot, Nat.add_zero] at hn
      simp -implicitDefEqProofs -dsimp +contextual [-Bool.exists_bool, -Int.not_le, -Int.not_lt, -getElem?_pos, -List.getD_eq_getElem?_getD, h1]
      refine CallJ.same (iGrow n (by omega)) (by simp [-Bool.exists_bool, -Int.not_le, -Int.not_lt, -getElem?_pos, -List.getD_eq_getElem?_getD, allKs, allK]) ?_
      simp -implicitDefEqProofs -dsimp +contextual [-Bool.exists_bool, -Int.not_le, -Int.not_lt, -getElem?_pos, -List.getD_eq_getElem?_getD]
      refine WP.loop mixed [] (fun i : Nat => ⟨tl [(6, .ref (3, 0) (Ls.take i).flatten.length), (25, Ss Ls), (26, I Ls.length), (27, I i)], Go.Proofs.Ytkicjflhokckgaa.Abs.hl [((3, 0), .row 52 (Ls.take i).flatten.length (dl (asD (Ls.take i).flatten)))], 4⟩) (fun i => i ≤ Ls.length) (fun i => Ls.length - i) 0 (by kernel_rfl) ?_ ?_ ?_
      · refine Le.told [] ?_ ?_ ?_ <;> simp [-Bool.exists_bool, -Int.not_le, -Int.not_lt, -getElem?_pos, -List.getD_eq_getElem?_getD, asD, dl_nil]
      · simp [-Bool.exists_bool, -Int.not_le, -Int.not_lt, -getElem?_pos, -List.getD_eq_getElem?_getD]
      · intro i hi
        by_cases h2 : i < Ls.length
        · have hg := Ss_get Ls i h2
          simp only [sD] at hg
          have hf : (Ls.take (i + 1)).flatten = (Ls.take i).flatten ++ nth Ls i := by rw [nth_take h2]; simp [-Bool.exists_bool, -Int.not_le, -Int.not_lt, -getElem?_pos, -List.getD_eq_getElem?_getD]
          have hfl : (Ls.take i).flatten.length + (nth Ls i).length ≤ 1048576 := by
            have e : Ls.flatten = (Ls.take (i + 1)).flatten ++ (Ls.drop (i + 1)).flatten := by rw [← List.flatten_append, List.take_append_drop]
            have e2 := congrArg List.length e
            rw [hf, List.length_append, List.length_append, tot_flat] at e2
            omega
          have hs := congrArg List.length hf
          simp only [List.length_append, List.length_flatten, List.map_take] at hs
          simp -implicitDefEqProofs -dsimp +contextual [-Bool.exists_bool, -Int.not_le, -Int.not_lt, -getElem?_pos, -List.getD_eq_getElem?_getD, h2, hg, sD]
          refine ⟨⟨by simp [-Bool.exists_bool, -Int.not_le, -Int.not_lt, -getElem?_pos, -List.getD_eq_getElem?_getD] at hfl; omega, by simp [-Bool.exists_bool, -Int.not_le, -Int.not_lt, -getElem?_pos, -List.getD_eq_getElem?_getD] at hfl; simp [-Bool.exists_bool, -Int.not_le, -Int.not_lt, -getElem?_pos, -List.getD_eq_getElem?_getD, maxLen]; omega⟩, i + 1, h2, by omega, ?_⟩
          rw [wr (by omega) (by omega)]
          refine Le.told [((3, 0), (10, 0))] ?_ ?_ ?_ <;> simp [-Bool.exists_bool, -Int.not_le, -Int.not_lt, -getElem?_pos, -List.getD_eq_getElem?_getD, hf, asD_append, hs]
        · obtain rfl : i = Ls.length := by omega
          simp -implicitDefEqProofs -dsimp +contextual [-Bool.exists_bool, -Int.not_le, -Int.not_lt, -getElem?_pos, -List.getD_eq_getElem?_getD, h2]
          refine RLe.told [((0, 0), (3, 0))] ?_ ?_ ?_ <;> simp [-Bool.exists_bool, -Int.not_le, -Int.not_lt, -getElem?_pos, -List.getD_eq_getElem?_getD]
theorem iConcatW (Ls : List (List At)) (h : Ls.length ≤ 1048576) (ht : tot Ls ≤ 1048576) : Cn Try.prog 59 [Ss Ls] (As Ls.flatten) hemp := Cn.freeze 2 (iConcat Ls h ht) (by simp [-Bool.exists_bool, -Int.not_le, -Int.not_lt, -getElem?_pos, -List.getD_eq_getElem?_getD, lendT, lendV])
def meetC (a b : Ce) : Int × List At × Bool := if isCe a.1 a.2 = true ∧ isCe b.1 b.2 = true ∧ a.1 = b.1 then limN a.1 (a.2 ++ b.2) else (0, [], false)
theorem meetC_f {a b : Ce} (h : ¬ (meetC a b).2.2 = true) : meetC a b = (0, [], false) := by
  unfold meetC at h ⊢
  split
  · rename_i h2; rw [if_pos h2] at h; exact limN_f h
  · rfl
end Go.Proofs.Ytkicjflhokckgaa.ZL
namespace Go.Proofs.Ytkicjflhokckgaa.ZL
open Go Go.Proofs.Ytkicjflhokckgaa.Abs Go.Proofs.Ytkicjflhokckgaa.Abs.Pl Go.RowKit Go.Proofs
set_option linter.unusedVariables false
set_option linter.unusedSimpArgs false
set_option linter.unnecessarySimpa false
section
variable {H : Store} {nx : Nat} {inv : Key → Key} {p : Key → Prop}
mutual
theorem VLe_inv (hp : ∀ k, p k → inv k = k ∧ k.1 < nx) : ∀ {v : V}, allK p v → VLe H inv nx v v
  | .unk, _ => by unfold VLe; trivial
  | .d x, _ => by unfold VLe asDz; rfl
  | .nil, _ => by unfold VLe; rfl
  | .ref k n, h => by unfold allK at h; unfold VLe; rw [(hp k h).1]; exact ⟨rfl, (hp k h).2⟩
  | .sub k z o n, h => by unfold allK at h; unfold VLe; rw [(hp k h).1]; exact ⟨rfl, (hp k h).2⟩
  | .ptr k o, h => by unfold allK at h; unfold VLe; rw [(hp k h).1]; exact ⟨rfl, (hp k h).2⟩
  | .adr s o, h => by unfold allK at h; unfold VLe; exact ⟨rfl, VLe_inv hp h⟩
  | .agg c, h => by unfold allK at h; unfold VLe; exact VLes_inv hp h
  | .tup c, h => by unfold allK at h; unfold VLe; exact VLes_inv hp h
  | .fn f c, h => by unfold allK at h; unfold VLe; exact ⟨rfl, VLes_inv hp h⟩
theorem VLes_inv (hp : ∀ k, p k → inv k = k ∧ k.1 < nx) : ∀ {c : List V}, allKs p c → VLes H inv nx c c
  | [], _ => by unfold VLes; rfl
  | v :: r, h => by unfold allKs at h; unfold VLes; exact ⟨VLe_inv hp h.1, VLes_inv hp h.2⟩
end
end
mutual
theorem allK_mono {p q : Key → Prop} (hpq : ∀ k, p k → q k) : ∀ {v : V}, allK p v → allK q v
  | .unk, _ => by unfold allK; trivial
  | .d x, _ => by unfold allK; trivial
  | .nil, _ => by unfold allK; trivial
  | .ref k n, h => by unfold allK at h ⊢; exact hpq _ h
  | .sub k z o n, h => by unfold allK at h ⊢; exact hpq _ h
  | .ptr k o, h => by unfold allK at h ⊢; exact hpq _ h
  | .adr s o, h => by unfold allK at h ⊢; exact allK_mono hpq h
  | .agg c, h => by unfold allK at h ⊢; exact allKs_mono hpq h
  | .tup c, h => by unfold allK at h ⊢; exact allKs_mono hpq h
  | .fn f c, h => by unfold allK at h ⊢; exact allKs_mono hpq h
theorem allKs_mono {p q : Key → Prop} (hpq : ∀ k, p k → q k) : ∀ {c : List V}, allKs p c → allKs q c
  | [], _ => by unfold allKs; trivial
  | v :: r, h => by unfold allKs at h ⊢; exact ⟨allK_mono hpq h.1, allKs_mono hpq h.2⟩
end
theorem allKs_take {p : Key → Prop} {c : List V} (h : allKs p c) (i : Nat) : allKs p (c.take i) := allKs_iff.2 fun v hv => allKs_iff.1 h v (List.mem_of_mem_take hv)
theorem allKs_drop {p : Key → Prop} {c : List V} (h : allKs p c) (i : Nat) : allKs p (c.drop i) := allKs_iff.2 fun v hv => allKs_iff.1 h v (List.mem_of_mem_drop hv)
theorem allKs_app {p : Key → Prop} {c d : List V} (h : allKs p c) (h' : allKs p d) : allKs p (c ++ d) := allKs_iff.2 fun v hv => (List.mem_append.1 hv).elim (allKs_iff.1 h v) (allKs_iff.1 h' v)
theorem invK_id {k : Key} (hk : k.1 = 0) : ∀ {iv : List (Key × Key)}, allP (fun p : Key × Key => p.1.1 ≠ 0) iv → invK iv k = k
  | [], _ => rfl
  | p :: iv, h => by
    have h1 : p.1.1 ≠ 0 := h.1
    unfold invK
    rw [if_neg (fun e => h1 (by rw [← e]; exact hk))]
    exact invK_id hk h.2
theorem RLm.toldL {P : Program} {A : Key → Prop} {H : Store} {r v : V} {K : List (Key × Ent)} (iv : List (Key × Key)) (hid : allP (fun p : Key × Key => p.1.1 ≠ 0) iv) (hv : VLe H (invK iv) 2 v r) (hr : allK (okKey A) r)
    (hK : allP (fun p : Key × Ent => p.1.1 < 2 ∧ okKey A p.1 ∧ allKE (okKey A) p.2 ∧ entIs (H (invK iv p.1)) fun e => ELe H (invK iv) 2 e p.2) K) (hn : (K.map fun p => invK iv p.1).Nodup) : RLm P A H v r (hl K) := by
  refine RLm.mk (invK iv) (fun k hk => invK_id hk hid) hv hr (fun k e' hk => ?_) (fun k k' e e' h1 h2 h => ?_)
  · obtain ⟨h1, h2, h3, h4⟩ := allP_mem hK _ (hl_mem hk)
    simp only [entIs] at h4
    refine ⟨h1, h2, h3, ?_⟩
    cases hq : H (invK iv k) with
    | none => rw [hq] at h4; exact h4.elim
    | some e => rw [hq] at h4; exact ⟨e, rfl, h4⟩
  · have := nodup_told hn _ (hl_mem h1) _ (hl_mem h2) h
    exact congrArg Prod.fst this
def kA (b : Nat) (k : Key) : Prop := k.1 = 0 ∧ 1 ≤ k.2 ∧ k.2 ≤ b
def szC (i m : Nat) : Nat → Nat
  | 0 => 0
  | 1 => i
  | _ => i + m
def acC (c : List V) (i : Nat) : Nat → List V
  | 0 => []
  | 1 => c.take (i * 3)
  | _ => c.take (i * 3) ++ c.drop ((i + 1) * 3)
theorem iConcatO (b : Nat) (c : List V) (n i m : Nat) (hb : 2 ≤ b) (hn : c.length = n * 3) (hm : i + 1 + m = n) (h16 : n ≤ 1000) (hone : c.all V.one = true) (hk : allKs (kA b) c) : Cm Try.prog 59 (kA b) [.ref (0, 1) 2] (hl [((0, 1), .row 26 2 [.sub (0, 2) 3 0 i, .sub (0, 2) 3 (i + 1) m]), ((0, 2), .row 52 n c)])
    (.ref (1, 0) (i + m)) (hl [((0, 2), .row 52 n c), ((1, 0), .row 52 (i + m) (c.take (i * 3) ++ c.drop ((i + 1) * 3)))]) := by
  refine Cm.of [] mixed Try.func59 rfl Try.call59 (by kernel_rfl) rfl ?_
  simp -implicitDefEqProofs -dsimp +contextual [-Bool.exists_bool, -Int.not_le, -Int.not_lt, -getElem?_pos, -List.getD_eq_getElem?_getD, Try.f59]
  have hs0 : szC i m 0 = 0 := rfl
  have hs1 : szC i m 1 = i := rfl
  have hs2 : szC i m 2 = i + m := rfl
  have wi : IntKind.wrap .i64 (i : Int) = i := wr (by omega) (by omega)
  have wim : IntKind.wrap .i64 ((i : Int) + m) = (i : Int) + m := wr (by omega) (by omega)
  have ni : ¬ ((i : Int) < 0) := by omega
  have nim : ¬ ((i : Int) + m < 0) := by omega
  have w11 : IntKind.wrap .i64 (1 : Int) = 1 := wr (by omega) (by omega)
  have w22 : IntKind.wrap .i64 (2 : Int) = 2 := wr (by omega) (by omega)
  have f0 : ∀ {nx : Nat}, 0 < nx → ∀ k : Key, kA b k → (fun x : Key => x) k = k ∧ k.1 < nx := fun h k hk => ⟨rfl, by rw [hk.1]; exact h⟩
  have f1 : ∀ {nx j : Nat}, 0 < nx → ∀ k : Key, kA b k → (fun x : Key => if x = (3, 0) then (j, 0) else x) k = k ∧ k.1 < nx := fun h k hk => ⟨if_neg (fun e => by have := hk.1; rw [e] at this; cases this), by rw [hk.1]; exact h⟩
  refine WP.loop mixed [] (fun k : Nat => ⟨tl [(0, .ref (0, 1) 2), (3, I (szC i m k)), (9, .ref (0, 1) 2), (10, I 2), (11, I k)], hl [((0, 1), .row 26 2 [.sub (0, 2) 3 0 i, .sub (0, 2) 3 (i + 1) m]), ((0, 2), .row 52 n c)], 2⟩) (fun k => k ≤ 2) (fun k => 2 - k) 0 (by kernel_rfl) ?_ ?_ ?_
  · refine Le.told [] ?_ ?_ ?_ <;> simp [-Bool.exists_bool, -Int.not_le, -Int.not_lt, -getElem?_pos, -List.getD_eq_getElem?_getD, hs0]
    exact VLes_inv (f0 (by omega)) hk
  · simp [-Bool.exists_bool, -Int.not_le, -Int.not_lt, -getElem?_pos, -List.getD_eq_getElem?_getD]
  · intro k hk2
    have : k = 0 ∨ k = 1 ∨ k = 2 := by omega
    rcases this with rfl | rfl | rfl
    · simp -implicitDefEqProofs -dsimp +contextual [-Bool.exists_bool, -Int.not_le, -Int.not_lt, -getElem?_pos, -List.getD_eq_getElem?_getD, hs0, wi, ni]
      refine ⟨1, by omega, by decide, ?_⟩
      refine Le.told [] ?_ ?_ ?_ <;> simp [-Bool.exists_bool, -Int.not_le, -Int.not_lt, -getElem?_pos, -List.getD_eq_getElem?_getD, hs1, w11]
      exact VLes_inv (f0 (by omega)) hk
    · simp -implicitDefEqProofs -dsimp +contextual [-Bool.exists_bool, -Int.not_le, -Int.not_lt, -getElem?_pos, -List.getD_eq_getElem?_getD, hs1, wim, nim]
      refine ⟨2, by omega, by decide, ?_⟩
      refine Le.told [] ?_ ?_ ?_ <;> simp [-Bool.exists_bool, -Int.not_le, -Int.not_lt, -getElem?_pos, -List.getD_eq_getElem?_getD, hs2, w22]
      exact VLes_inv (f0 (by omega)) hk
    · simp -implicitDefEqProofs -dsimp +contextual [-Bool.exists_bool, -Int.not_le, -Int.not_lt, -getElem?_pos, -List.getD_eq_getElem?_getD, hs2]
      rw [show ((i : Int) + m) = ((i + m : Nat) : Int) by omega]
      refine CallJ.same (iGrow (i + m) (by omega)) (by simp [-Bool.exists_bool, -Int.not_le, -Int.not_lt, -getElem?_pos, -List.getD_eq_getElem?_getD, allKs, allK]) ?_
      simp -implicitDefEqProofs -dsimp +contextual [-Bool.exists_bool, -Int.not_le, -Int.not_lt, -getElem?_pos, -List.getD_eq_getElem?_getD]
      have ha0 : acC c i 0 = [] := rfl
      have ha1 : acC c i 1 = c.take (i * 3) := rfl
      have ha2 : acC c i 2 = c.take (i * 3) ++ c.drop ((i + 1) * 3) := rfl
      have ho1 : (c.take (i * 3)).all V.one = true := by
        rw [List.all_eq_true] at hone ⊢
        exact fun v hv => hone v (List.mem_of_mem_take hv)
      have ho2 : (c.drop ((i + 1) * 3)).all V.one = true := by
        rw [List.all_eq_true] at hone ⊢
        exact fun v hv => hone v (List.mem_of_mem_drop hv)
      have hd2 : (c.drop ((i + 1) * 3)).take (m * 3) = c.drop ((i + 1) * 3) := List.take_of_length_le (by simp [-Bool.exists_bool, -Int.not_le, -Int.not_lt, -getElem?_pos, -List.getD_eq_getElem?_getD]; omega)
      refine WP.loop mixed [] (fun k : Nat => ⟨tl [(0, .ref (0, 1) 2), (6, .ref (3, 0) (szC i m k)), (25, .ref (0, 1) 2), (26, I 2), (27, I k)], hl [((0, 1), .row 26 2 [.sub (0, 2) 3 0 i, .sub (0, 2) 3 (i + 1) m]), ((0, 2), .row 52 n c), ((3, 0), .row 52 (szC i m k) (acC c i k))], 4⟩) (fun k => k ≤ 2) (fun k => 2 - k) 0 (by kernel_rfl) ?_ ?_ ?_
      · refine Le.told [((3, 0), (4, 0))] ?_ ?_ ?_ <;> simp [-Bool.exists_bool, -Int.not_le, -Int.not_lt, -getElem?_pos, -List.getD_eq_getElem?_getD, hs0, ha0]
        exact VLes_inv (f1 (by omega)) hk
      · simp [-Bool.exists_bool, -Int.not_le, -Int.not_lt, -getElem?_pos, -List.getD_eq_getElem?_getD]
      · intro k hk2
        have : k = 0 ∨ k = 1 ∨ k = 2 := by omega
        rcases this with rfl | rfl | rfl
        · simp -implicitDefEqProofs -dsimp +contextual [-Bool.exists_bool, -Int.not_le, -Int.not_lt, -getElem?_pos, -List.getD_eq_getElem?_getD, hs0, ha0, ho1]
          refine ⟨⟨by omega, by omega, by simp [-Bool.exists_bool, -Int.not_le, -Int.not_lt, -getElem?_pos, -List.getD_eq_getElem?_getD, maxLen]; omega⟩, 1, by omega, by decide, ?_⟩
          refine Le.told [((3, 0), (10, 0))] ?_ ?_ ?_ <;> simp [-Bool.exists_bool, -Int.not_le, -Int.not_lt, -getElem?_pos, -List.getD_eq_getElem?_getD, hs1, ha1, w11]
          exact ⟨VLes_inv (f1 (by omega)) hk, VLes_inv (f1 (by omega)) (allKs_take hk _)⟩
        · simp -implicitDefEqProofs -dsimp +contextual [-Bool.exists_bool, -Int.not_le, -Int.not_lt, -getElem?_pos, -List.getD_eq_getElem?_getD, hs1, ha1, ho2, hd2]
          refine ⟨⟨by omega, by omega, by simp [-Bool.exists_bool, -Int.not_le, -Int.not_lt, -getElem?_pos, -List.getD_eq_getElem?_getD, maxLen]; omega⟩, 2, by omega, by decide, ?_⟩
          refine Le.told [((3, 0), (10, 0))] ?_ ?_ ?_ <;> simp [-Bool.exists_bool, -Int.not_le, -Int.not_lt, -getElem?_pos, -List.getD_eq_getElem?_getD, hs2, ha2, w22]
          exact ⟨VLes_inv (f1 (by omega)) hk, VLes_inv (f1 (by omega)) (allKs_app (allKs_take hk _) (allKs_drop hk _))⟩
        · simp -implicitDefEqProofs -dsimp +contextual [-Bool.exists_bool, -Int.not_le, -Int.not_lt, -getElem?_pos, -List.getD_eq_getElem?_getD, hs2, ha2]
          refine RLm.toldL [((1, 0), (3, 0))] ?_ ?_ ?_ ?_ ?_
          · simp [-Bool.exists_bool, -Int.not_le, -Int.not_lt, -getElem?_pos, -List.getD_eq_getElem?_getD, oneV]
          · simp [-Bool.exists_bool, -Int.not_le, -Int.not_lt, -getElem?_pos, -List.getD_eq_getElem?_getD, oneV]
          · simp [-Bool.exists_bool, -Int.not_le, -Int.not_lt, -getElem?_pos, -List.getD_eq_getElem?_getD, allK, okKey]
          · simp [-Bool.exists_bool, -Int.not_le, -Int.not_lt, -getElem?_pos, -List.getD_eq_getElem?_getD, okKey, kA]
            have f2 : ∀ k : Key, kA b k → (fun x : Key => if x = (1, 0) then (3, 0) else x) k = k ∧ k.1 < 2 := fun k hk => ⟨if_neg (fun e => by have := hk.1; rw [e] at this; cases this), by rw [hk.1]; omega⟩
            have hj : allKs (okKey (kA b)) c := allKs_mono (p := kA b) (q := okKey (kA b)) (fun k hk _ => hk) hk
            exact ⟨⟨hb, hj, VLes_inv f2 hk⟩, allKs_app (allKs_take hj _) (allKs_drop hj _), VLes_inv f2 (allKs_app (allKs_take hk _) (allKs_drop hk _))⟩
          · simp [-Bool.exists_bool, -Int.not_le, -Int.not_lt, -getElem?_pos, -List.getD_eq_getElem?_getD, oneV]
end Go.Proofs.Ytkicjflhokckgaa.ZL
namespace Go.Proofs.Ytkicjflhokckgaa.ZL
open Go Go.Proofs.Ytkicjflhokckgaa.Abs Go.Proofs.Ytkicjflhokckgaa.Abs.Pl Go.RowKit Go.Proofs
set_option linter.unusedVariables false
set_option linter.unusedSimpArgs false
theorem MeetCells (a b : Ce) (ha : a.2.length ≤ 1048576) (hb : b.2.length ≤ 1048576) : Cn Try.prog 21 [.agg (cV a), .agg (cV b)] (D2 (meetC a b)) hemp := by
  refine Cn.of [0] mixed Try.func21 rfl Try.call21 (by kernel_rfl) rfl ?_
  simp -implicitDefEqProofs -dsimp +contextual [-Bool.exists_bool, -Int.not_le, -Int.not_lt, -getElem?_pos, -List.getD_eq_getElem?_getD, Try.f21]
  have no : ∀ {H : Store}, ¬ (isCe a.1 a.2 = true ∧ isCe b.1 b.2 = true ∧ a.1 = b.1) → RLe Try.prog H (V.tup [V.agg [V.d (D.int IntKind.i64 0), V.nil], V.d (D.bool false)]) (D2 (meetC a b)) hemp := fun h => by
    rw [meetC, if_neg h]
    exact RLe.pure 2 (by simp [-Bool.exists_bool, -Int.not_le, -Int.not_lt, -getElem?_pos, -List.getD_eq_getElem?_getD, asD])
  refine CallJ.pure (IsCell a.1 a.2 ha) rfl (by simp [-Bool.exists_bool, -Int.not_le, -Int.not_lt, -getElem?_pos, -List.getD_eq_getElem?_getD]) ?_
  simp -implicitDefEqProofs -dsimp +contextual [-Bool.exists_bool, -Int.not_le, -Int.not_lt, -getElem?_pos, -List.getD_eq_getElem?_getD]
  refine ⟨fun h1 => ?_, fun h1 => no (by simp [-Bool.exists_bool, -Int.not_le, -Int.not_lt, -getElem?_pos, -List.getD_eq_getElem?_getD, h1])⟩
  refine CallJ.pure (IsCell b.1 b.2 hb) rfl (by simp [-Bool.exists_bool, -Int.not_le, -Int.not_lt, -getElem?_pos, -List.getD_eq_getElem?_getD]) ?_
  simp -implicitDefEqProofs -dsimp +contextual [-Bool.exists_bool, -Int.not_le, -Int.not_lt, -getElem?_pos, -List.getD_eq_getElem?_getD, h1]
  refine ⟨fun h2 => ⟨fun h3 => ?_, fun h3 => no (by simp [-Bool.exists_bool, -Int.not_le, -Int.not_lt, -getElem?_pos, -List.getD_eq_getElem?_getD, h3])⟩, fun h2 => no (by simp [-Bool.exists_bool, -Int.not_le, -Int.not_lt, -getElem?_pos, -List.getD_eq_getElem?_getD, h2])⟩
  rw [meetC, if_pos ⟨h1, h2, h3⟩]
  have hd := isCe_d h1
  have ha16 := isCe_l h1
  have hb16 := isCe_l h2
  have hall : allOk a.1 (a.2 ++ b.2) := fun x hx => by
    rcases List.mem_append.1 hx with hx | hx
    · exact isCe_a h1 x hx
    · rw [h3]; exact isCe_a h2 x hx
  refine ⟨⟨by omega, by simp [-Bool.exists_bool, -Int.not_le, -Int.not_lt, -getElem?_pos, -List.getD_eq_getElem?_getD, maxLen]; omega⟩, ⟨by omega, by simp [-Bool.exists_bool, -Int.not_le, -Int.not_lt, -getElem?_pos, -List.getD_eq_getElem?_getD, maxLen]; omega⟩, Quiet.of [2] (by kernel_rfl) (by simp [-Bool.exists_bool, -Int.not_le, -Int.not_lt, -getElem?_pos, -List.getD_eq_getElem?_getD, offB]), ?_⟩
  refine CallJ.frz (t := 52) (n := a.2.length + b.2.length) (c := dl (asD a.2 ++ asD b.2)) (c' := asD a.2 ++ asD b.2) (27, 0) (l3Normal b.1 (h3 ▸ hd) (a.2 ++ b.2) (by simp [-Bool.exists_bool, -Int.not_le, -Int.not_lt, -getElem?_pos, -List.getD_eq_getElem?_getD]; omega) (h3 ▸ hall)) (by simp [-Bool.exists_bool, -Int.not_le, -Int.not_lt, -getElem?_pos, -List.getD_eq_getElem?_getD]) (dl_asDs _) (ks := [(27, 0)]) (by simp [-Bool.exists_bool, -Int.not_le, -Int.not_lt, -getElem?_pos, -List.getD_eq_getElem?_getD, setH, asD_append]) (by simp [-Bool.exists_bool, -Int.not_le, -Int.not_lt, -getElem?_pos, -List.getD_eq_getElem?_getD, slotsL, slotsV]) ?_
  simp -implicitDefEqProofs -dsimp +contextual [-Bool.exists_bool, -Int.not_le, -Int.not_lt, -getElem?_pos, -List.getD_eq_getElem?_getD]
  refine ⟨Quiet.of [] (by kernel_rfl) (by simp [-Bool.exists_bool, -Int.not_le, -Int.not_lt, -getElem?_pos, -List.getD_eq_getElem?_getD, allP]), Quiet.of [] (by kernel_rfl) (by simp [-Bool.exists_bool, -Int.not_le, -Int.not_lt, -getElem?_pos, -List.getD_eq_getElem?_getD, allP]), fun hb => ?_, fun hb => ?_⟩
  · refine RLe.pure 3 ?_
    rw [h3, limN, if_pos (by omega)]
    simp [-Bool.exists_bool, -Int.not_le, -Int.not_lt, -getElem?_pos, -List.getD_eq_getElem?_getD, asD]
  · refine RLe.pure 3 ?_
    rw [h3, limN, if_neg (by omega)]
    simp [-Bool.exists_bool, -Int.not_le, -Int.not_lt, -getElem?_pos, -List.getD_eq_getElem?_getD]
theorem iMeetCells (a b : Ce) (ha : a.2.length ≤ 1048576) (hb : b.2.length ≤ 1048576) : Cn Try.prog 22 [.agg (cV a), .agg (cV b)] (oV (meetC a b)) (oH (meetC a b)) := by
  refine Cn.of [] mixed Try.func22 rfl Try.call22 (by kernel_rfl) rfl ?_
  simp -implicitDefEqProofs -dsimp +contextual [-Bool.exists_bool, -Int.not_le, -Int.not_lt, -getElem?_pos, -List.getD_eq_getElem?_getD, Try.f22]
  have no : ∀ {H : Store}, ¬ (isCe a.1 a.2 = true ∧ isCe b.1 b.2 = true ∧ a.1 = b.1) → RLe Try.prog H (V.tup [V.agg [V.d (D.int IntKind.i64 0), V.nil], V.d (D.bool false)]) (oV (meetC a b)) (oH (meetC a b)) := fun h => by
    rw [meetC, if_neg h, oV_f (by simp [-Bool.exists_bool, -Int.not_le, -Int.not_lt, -getElem?_pos, -List.getD_eq_getElem?_getD]), oH_f (by simp [-Bool.exists_bool, -Int.not_le, -Int.not_lt, -getElem?_pos, -List.getD_eq_getElem?_getD])]
    exact RLe.emp (by simp [-Bool.exists_bool, -Int.not_le, -Int.not_lt, -getElem?_pos, -List.getD_eq_getElem?_getD])
  refine CallJ.pure (iIsCell a.1 a.2 ha) rfl (by simp [-Bool.exists_bool, -Int.not_le, -Int.not_lt, -getElem?_pos, -List.getD_eq_getElem?_getD]) ?_
  simp -implicitDefEqProofs -dsimp +contextual [-Bool.exists_bool, -Int.not_le, -Int.not_lt, -getElem?_pos, -List.getD_eq_getElem?_getD]
  refine ⟨fun h1 => ?_, fun h1 => no (by simp [-Bool.exists_bool, -Int.not_le, -Int.not_lt, -getElem?_pos, -List.getD_eq_getElem?_getD, h1])⟩
  refine CallJ.pure (iIsCell b.1 b.2 hb) rfl (by simp [-Bool.exists_bool, -Int.not_le, -Int.not_lt, -getElem?_pos, -List.getD_eq_getElem?_getD]) ?_
  simp -implicitDefEqProofs -dsimp +contextual [-Bool.exists_bool, -Int.not_le, -Int.not_lt, -getElem?_pos, -List.getD_eq_getElem?_getD, h1]
  refine ⟨fun h2 => ⟨fun h3 => ?_, fun h3 => no (by simp [-Bool.exists_bool, -Int.not_le, -Int.not_lt, -getElem?_pos, -List.getD_eq_getElem?_getD, h3])⟩, fun h2 => no (by simp [-Bool.exists_bool, -Int.not_le, -Int.not_lt, -getElem?_pos, -List.getD_eq_getElem?_getD, h2])⟩
  have hd := isCe_d h1
  have ha16 := isCe_l h1
  have hb16 := isCe_l h2
  have hall : allOk a.1 (a.2 ++ b.2) := fun x hx => by
    rcases List.mem_append.1 hx with hx | hx
    · exact isCe_a h1 x hx
    · rw [h3]; exact isCe_a h2 x hx
  have hm : meetC a b = limN a.1 (a.2 ++ b.2) := by rw [meetC, if_pos ⟨h1, h2, h3⟩]
  rw [hm]
  have e2 : repV 2 [V.nil] = [V.nil, V.nil] := rfl
  simp -implicitDefEqProofs -dsimp +contextual [-Bool.exists_bool, -Int.not_le, -Int.not_lt, -getElem?_pos, -List.getD_eq_getElem?_getD, e2]
  have hf : [a.2, b.2].flatten = a.2 ++ b.2 := by simp [-Bool.exists_bool, -Int.not_le, -Int.not_lt, -getElem?_pos, -List.getD_eq_getElem?_getD]
  refine CallJ.pure (iConcatW [a.2, b.2] (by simp [-Bool.exists_bool, -Int.not_le, -Int.not_lt, -getElem?_pos, -List.getD_eq_getElem?_getD]) (by simp [-Bool.exists_bool, -Int.not_le, -Int.not_lt, -getElem?_pos, -List.getD_eq_getElem?_getD, tot]; omega)) (by simp [-Bool.exists_bool, -Int.not_le, -Int.not_lt, -getElem?_pos, -List.getD_eq_getElem?_getD, sD]; rfl) (by simp [-Bool.exists_bool, -Int.not_le, -Int.not_lt, -getElem?_pos, -List.getD_eq_getElem?_getD]) ?_
  rw [hf]
  simp -implicitDefEqProofs -dsimp +contextual [-Bool.exists_bool, -Int.not_le, -Int.not_lt, -getElem?_pos, -List.getD_eq_getElem?_getD]
  have hL := iLimitedNormal a.1 hd (a.2 ++ b.2) (by simp [-Bool.exists_bool, -Int.not_le, -Int.not_lt, -getElem?_pos, -List.getD_eq_getElem?_getD]; omega) hall
  by_cases hr : (limN a.1 (a.2 ++ b.2)).2.2 = true
  · rw [oV_t hr, oH_t hr] at hL ⊢
    refine CallJ.pure (ks := []) hL (by simp [-Bool.exists_bool, -Int.not_le, -Int.not_lt, -getElem?_pos, -List.getD_eq_getElem?_getD, h3]) (by simp [-Bool.exists_bool, -Int.not_le, -Int.not_lt, -getElem?_pos, -List.getD_eq_getElem?_getD]) ?_
    simp -implicitDefEqProofs -dsimp +contextual [-Bool.exists_bool, -Int.not_le, -Int.not_lt, -getElem?_pos, -List.getD_eq_getElem?_getD]
    refine RLe.pass 27 _ ?_ ?_ ?_
    · simp [-Bool.exists_bool, -Int.not_le, -Int.not_lt, -getElem?_pos, -List.getD_eq_getElem?_getD, invO]
    · simp [-Bool.exists_bool, -Int.not_le, -Int.not_lt, -getElem?_pos, -List.getD_eq_getElem?_getD, setH, upOwn_0]
    · intro j hj; simp [-Bool.exists_bool, -Int.not_le, -Int.not_lt, -getElem?_pos, -List.getD_eq_getElem?_getD, setH, upOwn_j _ _ _ _ hj]
  · rw [oV_f hr, oH_f hr] at hL ⊢
    refine CallJ.pure (ks := []) hL (by simp [-Bool.exists_bool, -Int.not_le, -Int.not_lt, -getElem?_pos, -List.getD_eq_getElem?_getD, h3]) (by simp [-Bool.exists_bool, -Int.not_le, -Int.not_lt, -getElem?_pos, -List.getD_eq_getElem?_getD]) ?_
    simp -implicitDefEqProofs -dsimp +contextual [-Bool.exists_bool, -Int.not_le, -Int.not_lt, -getElem?_pos, -List.getD_eq_getElem?_getD]
    exact RLe.emp (by simp [-Bool.exists_bool, -Int.not_le, -Int.not_lt, -getElem?_pos, -List.getD_eq_getElem?_getD])
end Go.Proofs.Ytkicjflhokckgaa.ZL
namespace Go.Proofs.Ytkicjflhokckgaa.ZL
open Go Go.Proofs.Ytkicjflhokckgaa.Abs Go.Proofs.Ytkicjflhokckgaa.Abs.Pl Go.RowKit Go.Proofs
set_option linter.unusedVariables false
set_option linter.unusedSimpArgs false
theorem toAtomW (a : At) (h : a.1.length ≤ 1048576) : Cn Try.prog 32 [A1 a] (A1 a) hemp := Cn.freeze 2 (toAtom a h) (by simp [-Bool.exists_bool, -Int.not_le, -Int.not_lt, -getElem?_pos, -List.getD_eq_getElem?_getD, lendT, lendV])
def impA (c : Ce) (a : At) : Bool × Bool := if isAt a.1 a.2.1 = true then (if (meetC c (a.1.length, [(a.1.map (- ·), -a.2.1, !a.2.2)])).2.2 = true then emptyC (meetC c (a.1.length, [(a.1.map (- ·), -a.2.1, !a.2.2)])).1 (meetC c (a.1.length, [(a.1.map (- ·), -a.2.1, !a.2.2)])).2.1 else (false, false)) else (false, false)
theorem meetC_16 {a b : Ce} : (meetC a b).2.1.length ≤ 16 := by
  unfold meetC
  split
  · unfold limN; split
    · simp [-Bool.exists_bool, -Int.not_le, -Int.not_lt, -getElem?_pos, -List.getD_eq_getElem?_getD]
    · simp [-Bool.exists_bool, -Int.not_le, -Int.not_lt, -getElem?_pos, -List.getD_eq_getElem?_getD]; omega
  · simp [-Bool.exists_bool, -Int.not_le, -Int.not_lt, -getElem?_pos, -List.getD_eq_getElem?_getD]
theorem ImpliesAtom (c : Ce) (a : At) (hc : c.2.length ≤ 1048576) (ha : a.1.length ≤ 1048576) : Cn Try.prog 31 [.agg (cV c), A1 a] (B2 (impA c a)) hemp := by
  refine Cn.of [] mixed Try.func31 rfl Try.call31 (by kernel_rfl) rfl ?_
  simp -implicitDefEqProofs -dsimp +contextual [-Bool.exists_bool, -Int.not_le, -Int.not_lt, -getElem?_pos, -List.getD_eq_getElem?_getD, Try.f31]
  refine CallJ.pure (NegateAtom a) rfl (by simp [-Bool.exists_bool, -Int.not_le, -Int.not_lt, -getElem?_pos, -List.getD_eq_getElem?_getD]) ?_
  by_cases h : isAt a.1 a.2.1 = true
  · rw [negAt_t h, impA, if_pos h]
    simp -implicitDefEqProofs -dsimp +contextual [-Bool.exists_bool, -Int.not_le, -Int.not_lt, -getElem?_pos, -List.getD_eq_getElem?_getD]
    refine CallJ.pure (ks := []) (MeetCells c (a.1.length, [(a.1.map (- ·), -a.2.1, !a.2.2)]) hc (by simp [-Bool.exists_bool, -Int.not_le, -Int.not_lt, -getElem?_pos, -List.getD_eq_getElem?_getD])) (by simp [-Bool.exists_bool, -Int.not_le, -Int.not_lt, -getElem?_pos, -List.getD_eq_getElem?_getD, asD, aD]) (by simp [-Bool.exists_bool, -Int.not_le, -Int.not_lt, -getElem?_pos, -List.getD_eq_getElem?_getD]) ?_
    have h16 : (meetC c (a.1.length, [(a.1.map (- ·), -a.2.1, !a.2.2)])).2.1.length ≤ 16 := meetC_16
    generalize meetC c (a.1.length, [(a.1.map (- ·), -a.2.1, !a.2.2)]) = m at *
    simp -implicitDefEqProofs -dsimp +contextual [-Bool.exists_bool, -Int.not_le, -Int.not_lt, -getElem?_pos, -List.getD_eq_getElem?_getD]
    refine ⟨fun hm => ?_, fun hm => ?_⟩
    · refine CallJ.pure (IsEmptyCell m.1 m.2.1 (by omega)) rfl (by simp [-Bool.exists_bool, -Int.not_le, -Int.not_lt, -getElem?_pos, -List.getD_eq_getElem?_getD]) ?_
      simp -implicitDefEqProofs -dsimp +contextual [-Bool.exists_bool, -Int.not_le, -Int.not_lt, -getElem?_pos, -List.getD_eq_getElem?_getD, hm]
      exact RLe.pure 2 (by simp [-Bool.exists_bool, -Int.not_le, -Int.not_lt, -getElem?_pos, -List.getD_eq_getElem?_getD])
    · exact RLe.pure 2 (by simp [-Bool.exists_bool, -Int.not_le, -Int.not_lt, -getElem?_pos, -List.getD_eq_getElem?_getD])
  · rw [negAt_f (by simpa [-Bool.exists_bool, -Int.not_le, -Int.not_lt, -getElem?_pos, -List.getD_eq_getElem?_getD] using h), impA, if_neg h]
    simp -implicitDefEqProofs -dsimp +contextual [-Bool.exists_bool, -Int.not_le, -Int.not_lt, -getElem?_pos, -List.getD_eq_getElem?_getD]
    refine CallJ.pure (ks := []) (MeetCells c (a.1.length, [(noAt.1, noAt.2.1, noAt.2.2.1)]) hc (by simp [-Bool.exists_bool, -Int.not_le, -Int.not_lt, -getElem?_pos, -List.getD_eq_getElem?_getD])) (by simp [-Bool.exists_bool, -Int.not_le, -Int.not_lt, -getElem?_pos, -List.getD_eq_getElem?_getD, asD, aD]) (by simp [-Bool.exists_bool, -Int.not_le, -Int.not_lt, -getElem?_pos, -List.getD_eq_getElem?_getD]) ?_
    simp -implicitDefEqProofs -dsimp +contextual [-Bool.exists_bool, -Int.not_le, -Int.not_lt, -getElem?_pos, -List.getD_eq_getElem?_getD, noAt]
    exact RLe.pure 2 (by simp [-Bool.exists_bool, -Int.not_le, -Int.not_lt, -getElem?_pos, -List.getD_eq_getElem?_getD])
theorem iMeetCellsW (a b : Ce) (ha : a.2.length ≤ 1048576) (hb : b.2.length ≤ 1048576) : Cn Try.prog 22 [.agg (cV a), .agg (cV b)] (D2 (meetC a b)) hemp := Cn.weak meetC_f (iMeetCells a b ha hb)
theorem iImpliesAtom (c : Ce) (a : At) (hc : c.2.length ≤ 1048576) (ha : a.1.length ≤ 1048576) : Cn Try.prog 33 [.agg (cV c), A1 a] (B2 (impA c a)) hemp := by
  refine Cn.of [] mixed Try.func33 rfl Try.call33 (by kernel_rfl) rfl ?_
  simp -implicitDefEqProofs -dsimp +contextual [-Bool.exists_bool, -Int.not_le, -Int.not_lt, -getElem?_pos, -List.getD_eq_getElem?_getD, Try.f33]
  refine CallJ.pure (iNegateAtom a) rfl (by simp [-Bool.exists_bool, -Int.not_le, -Int.not_lt, -getElem?_pos, -List.getD_eq_getElem?_getD]) ?_
  by_cases h : isAt a.1 a.2.1 = true
  · rw [negAt_t h, impA, if_pos h]
    simp -implicitDefEqProofs -dsimp +contextual [-Bool.exists_bool, -Int.not_le, -Int.not_lt, -getElem?_pos, -List.getD_eq_getElem?_getD]
    refine CallJ.pure (ks := []) (iMeetCellsW c (a.1.length, [(a.1.map (- ·), -a.2.1, !a.2.2)]) hc (by simp [-Bool.exists_bool, -Int.not_le, -Int.not_lt, -getElem?_pos, -List.getD_eq_getElem?_getD])) (by simp [-Bool.exists_bool, -Int.not_le, -Int.not_lt, -getElem?_pos, -List.getD_eq_getElem?_getD, asD, aD]) (by simp [-Bool.exists_bool, -Int.not_le, -Int.not_lt, -getElem?_pos, -List.getD_eq_getElem?_getD]) ?_
    have h16 : (meetC c (a.1.length, [(a.1.map (- ·), -a.2.1, !a.2.2)])).2.1.length ≤ 16 := meetC_16
    generalize meetC c (a.1.length, [(a.1.map (- ·), -a.2.1, !a.2.2)]) = m at *
    simp -implicitDefEqProofs -dsimp +contextual [-Bool.exists_bool, -Int.not_le, -Int.not_lt, -getElem?_pos, -List.getD_eq_getElem?_getD]
    refine ⟨fun hm => ?_, fun hm => ?_⟩
    · refine CallJ.pure (iIsEmptyCell m.1 m.2.1 (by omega)) rfl (by simp [-Bool.exists_bool, -Int.not_le, -Int.not_lt, -getElem?_pos, -List.getD_eq_getElem?_getD]) ?_
      simp -implicitDefEqProofs -dsimp +contextual [-Bool.exists_bool, -Int.not_le, -Int.not_lt, -getElem?_pos, -List.getD_eq_getElem?_getD, hm]
      exact RLe.pure 2 (by simp [-Bool.exists_bool, -Int.not_le, -Int.not_lt, -getElem?_pos, -List.getD_eq_getElem?_getD])
    · exact RLe.pure 2 (by simp [-Bool.exists_bool, -Int.not_le, -Int.not_lt, -getElem?_pos, -List.getD_eq_getElem?_getD])
  · rw [negAt_f (by simpa [-Bool.exists_bool, -Int.not_le, -Int.not_lt, -getElem?_pos, -List.getD_eq_getElem?_getD] using h), impA, if_neg h]
    simp -implicitDefEqProofs -dsimp +contextual [-Bool.exists_bool, -Int.not_le, -Int.not_lt, -getElem?_pos, -List.getD_eq_getElem?_getD, noAt]
    exact RLe.pure 2 (by simp [-Bool.exists_bool, -Int.not_le, -Int.not_lt, -getElem?_pos, -List.getD_eq_getElem?_getD])
theorem lft_2 {k : Int} {n : Nat} (hk : okL k) (h : ¬ lft k n < 0) : n ≤ 1048576 ∧ okL (lft k n) := by
  unfold lft okL at *
  split at h
  · omega
  · rename_i h2; rw [if_neg h2]; omega
theorem lawImpliesAtom (c : Ce) (a : At) (hc : wfC c) (ha : wfA a) : Cn Try.prog 8 [.agg (cV c), A1 a] (B true) hemp := by
  refine Cn.of [] mixed Try.func8 rfl Try.call8 (by kernel_rfl) rfl ?_
  simp -implicitDefEqProofs -dsimp +contextual [-Bool.exists_bool, -Int.not_le, -Int.not_lt, -getElem?_pos, -List.getD_eq_getElem?_getD, Try.f8]
  refine CallJ.pure (szCell c 1048576 ok20 hc) rfl (by simp [-Bool.exists_bool, -Int.not_le, -Int.not_lt, -getElem?_pos, -List.getD_eq_getElem?_getD]) ?_
  simp -implicitDefEqProofs -dsimp +contextual [-Bool.exists_bool, -Int.not_le, -Int.not_lt, -getElem?_pos, -List.getD_eq_getElem?_getD]
  refine ⟨fun _ => RLe.bb rfl, fun h => ?_⟩
  obtain ⟨w1, hk⟩ := lft_2 ok20 h
  obtain ⟨hc1, hc2⟩ := wAs_small w1
  refine CallJ.pure (szAtom a _ hk ha) rfl (by simp [-Bool.exists_bool, -Int.not_le, -Int.not_lt, -getElem?_pos, -List.getD_eq_getElem?_getD]) ?_
  simp -implicitDefEqProofs -dsimp +contextual [-Bool.exists_bool, -Int.not_le, -Int.not_lt, -getElem?_pos, -List.getD_eq_getElem?_getD, h]
  refine ⟨fun _ => RLe.bb rfl, fun h2 => ?_⟩
  obtain ⟨ha1, _⟩ := lft_2 hk h2
  refine CallJ.pure (toCellW c hc1 hc2) rfl (by simp [-Bool.exists_bool, -Int.not_le, -Int.not_lt, -getElem?_pos, -List.getD_eq_getElem?_getD]) ?_
  simp -implicitDefEqProofs -dsimp +contextual [-Bool.exists_bool, -Int.not_le, -Int.not_lt, -getElem?_pos, -List.getD_eq_getElem?_getD, h, h2]
  refine CallJ.pure (toAtomW a ha1) rfl (by simp [-Bool.exists_bool, -Int.not_le, -Int.not_lt, -getElem?_pos, -List.getD_eq_getElem?_getD]) ?_
  simp -implicitDefEqProofs -dsimp +contextual [-Bool.exists_bool, -Int.not_le, -Int.not_lt, -getElem?_pos, -List.getD_eq_getElem?_getD, h, h2]
  refine CallJ.pure (ImpliesAtom c a hc1 ha1) rfl (by simp [-Bool.exists_bool, -Int.not_le, -Int.not_lt, -getElem?_pos, -List.getD_eq_getElem?_getD]) ?_
  simp -implicitDefEqProofs -dsimp +contextual [-Bool.exists_bool, -Int.not_le, -Int.not_lt, -getElem?_pos, -List.getD_eq_getElem?_getD, h, h2]
  refine CallJ.pure (toCellW c hc1 hc2) rfl (by simp [-Bool.exists_bool, -Int.not_le, -Int.not_lt, -getElem?_pos, -List.getD_eq_getElem?_getD]) ?_
  simp -implicitDefEqProofs -dsimp +contextual [-Bool.exists_bool, -Int.not_le, -Int.not_lt, -getElem?_pos, -List.getD_eq_getElem?_getD, h, h2]
  refine CallJ.pure (toAtomW a ha1) rfl (by simp [-Bool.exists_bool, -Int.not_le, -Int.not_lt, -getElem?_pos, -List.getD_eq_getElem?_getD]) ?_
  simp -implicitDefEqProofs -dsimp +contextual [-Bool.exists_bool, -Int.not_le, -Int.not_lt, -getElem?_pos, -List.getD_eq_getElem?_getD, h, h2]
  refine CallJ.pure (iImpliesAtom c a hc1 ha1) rfl (by simp [-Bool.exists_bool, -Int.not_le, -Int.not_lt, -getElem?_pos, -List.getD_eq_getElem?_getD]) ?_
  simp -implicitDefEqProofs -dsimp +contextual [-Bool.exists_bool, -Int.not_le, -Int.not_lt, -getElem?_pos, -List.getD_eq_getElem?_getD, h, h2]
  refine CallJ.pure (toCellW c hc1 hc2) rfl (by simp [-Bool.exists_bool, -Int.not_le, -Int.not_lt, -getElem?_pos, -List.getD_eq_getElem?_getD]) ?_
  simp -implicitDefEqProofs -dsimp +contextual [-Bool.exists_bool, -Int.not_le, -Int.not_lt, -getElem?_pos, -List.getD_eq_getElem?_getD, h, h2]
  refine CallJ.pure (eqCell c hc1 hc2) rfl (by simp [-Bool.exists_bool, -Int.not_le, -Int.not_lt, -getElem?_pos, -List.getD_eq_getElem?_getD]) ?_
  simp -implicitDefEqProofs -dsimp +contextual [-Bool.exists_bool, -Int.not_le, -Int.not_lt, -getElem?_pos, -List.getD_eq_getElem?_getD, h, h2]
  refine CallJ.pure (toAtomW a ha1) rfl (by simp [-Bool.exists_bool, -Int.not_le, -Int.not_lt, -getElem?_pos, -List.getD_eq_getElem?_getD]) ?_
  simp -implicitDefEqProofs -dsimp +contextual [-Bool.exists_bool, -Int.not_le, -Int.not_lt, -getElem?_pos, -List.getD_eq_getElem?_getD, h, h2]
  refine CallJ.pure (eqAtom a ha1) rfl (by simp [-Bool.exists_bool, -Int.not_le, -Int.not_lt, -getElem?_pos, -List.getD_eq_getElem?_getD]) ?_
  simp -implicitDefEqProofs -dsimp +contextual [-Bool.exists_bool, -Int.not_le, -Int.not_lt, -getElem?_pos, -List.getD_eq_getElem?_getD, h, h2]
  exact RLe.bb rfl
end Go.Proofs.Ytkicjflhokckgaa.ZL
namespace Go.Proofs.Ytkicjflhokckgaa.ZL
open Go Go.Proofs.Ytkicjflhokckgaa.Abs Go.Proofs.Ytkicjflhokckgaa.Abs.Pl Go.RowKit Go.Proofs
set_option linter.unusedVariables false
set_option linter.unusedSimpArgs false
def covGo (b : Ce) : List At → Bool × Bool
  | [] => (true, true)
  | x :: r => if (impA b x).2 = true ∧ (impA b x).1 = true then covGo b r else (false, (impA b x).2)
def covC (a b : Ce) : Bool × Bool := if isCe a.1 a.2 = true ∧ isCe b.1 b.2 = true ∧ a.1 = b.1 then covGo b a.2 else (false, false)
theorem okA_small {d : Int} {x : At} (h : okA d x) : x.1.length ≤ 1048576 := by have := (okA_num h).2.2; omega
theorem CoversCell (a b : Ce) (ha : a.2.length ≤ 1048576) (hb : b.2.length ≤ 1048576) : Cn Try.prog 42 [.agg (cV a), .agg (cV b)] (B2 (covC a b)) hemp := by
  refine Cn.of [] mixed Try.func42 rfl Try.call42 (by kernel_rfl) rfl ?_
  simp -implicitDefEqProofs -dsimp +contextual [-Bool.exists_bool, -Int.not_le, -Int.not_lt, -getElem?_pos, -List.getD_eq_getElem?_getD, Try.f42]
  have no : ∀ {H : Store}, ¬ (isCe a.1 a.2 = true ∧ isCe b.1 b.2 = true ∧ a.1 = b.1) → RLe Try.prog H (V.tup [V.d (D.bool false), V.d (D.bool false)]) (B2 (covC a b)) hemp := fun h => by
    rw [covC, if_neg h]
    exact RLe.pure 2 (by simp [-Bool.exists_bool, -Int.not_le, -Int.not_lt, -getElem?_pos, -List.getD_eq_getElem?_getD])
  refine CallJ.pure (IsCell a.1 a.2 ha) rfl (by simp [-Bool.exists_bool, -Int.not_le, -Int.not_lt, -getElem?_pos, -List.getD_eq_getElem?_getD]) ?_
  simp -implicitDefEqProofs -dsimp +contextual [-Bool.exists_bool, -Int.not_le, -Int.not_lt, -getElem?_pos, -List.getD_eq_getElem?_getD]
  refine ⟨fun h1 => ?_, fun h1 => no (by simp [-Bool.exists_bool, -Int.not_le, -Int.not_lt, -getElem?_pos, -List.getD_eq_getElem?_getD, h1])⟩
  refine CallJ.pure (IsCell b.1 b.2 hb) rfl (by simp [-Bool.exists_bool, -Int.not_le, -Int.not_lt, -getElem?_pos, -List.getD_eq_getElem?_getD]) ?_
  simp -implicitDefEqProofs -dsimp +contextual [-Bool.exists_bool, -Int.not_le, -Int.not_lt, -getElem?_pos, -List.getD_eq_getElem?_getD, h1]
  refine ⟨fun h2 => ⟨fun h3 => ?_, fun h3 => no (by simp [-Bool.exists_bool, -Int.not_le, -Int.not_lt, -getElem?_pos, -List.getD_eq_getElem?_getD, h3])⟩, fun h2 => no (by simp [-Bool.exists_bool, -Int.not_le, -Int.not_lt, -getElem?_pos, -List.getD_eq_getElem?_getD, h2])⟩
  have e0 : covC a b = covGo b a.2 := by rw [covC, if_pos ⟨h1, h2, h3⟩]
  refine WP.loop mixed [] (fun i : Nat => ⟨tl [(2, .ptr (0, 0) 0), (3, .ptr (1, 0) 0), (6, I i)], hl [((0, 0), .box (cV a)), ((1, 0), .box (cV b))], 5⟩) (fun i => i ≤ a.2.length ∧ covC a b = covGo b (a.2.drop i)) (fun i => a.2.length - i) 0 (by kernel_rfl) ?_ ?_ ?_
  · refine Le.told [] ?_ ?_ ?_ <;> simp [-Bool.exists_bool, -Int.not_le, -Int.not_lt, -getElem?_pos, -List.getD_eq_getElem?_getD]
  · exact ⟨Nat.zero_le _, e0⟩
  · rintro i ⟨hi, he⟩
    simp -implicitDefEqProofs -dsimp +contextual [-Bool.exists_bool, -Int.not_le, -Int.not_lt, -getElem?_pos, -List.getD_eq_getElem?_getD]
    refine ⟨fun h => ?_, fun h => ?_⟩
    · refine CallJ.pure (ImpliesAtom b (nth a.2 i) hb (okA_small (isCe_a h1 _ (nth_mem h)))) rfl (by simp [-Bool.exists_bool, -Int.not_le, -Int.not_lt, -getElem?_pos, -List.getD_eq_getElem?_getD]) ?_
      rw [nth_drop h, covGo] at he
      generalize impA b (nth a.2 i) = q at he ⊢
      simp -implicitDefEqProofs -dsimp +contextual [-Bool.exists_bool, -Int.not_le, -Int.not_lt, -getElem?_pos, -List.getD_eq_getElem?_getD, h]
      refine ⟨fun hf => ⟨fun ht => ?_, fun ht => RLe.pure 2 (by rw [he]; simp [-Bool.exists_bool, -Int.not_le, -Int.not_lt, -getElem?_pos, -List.getD_eq_getElem?_getD, ht, hf])⟩, fun hf => RLe.pure 2 (by rw [he]; simp [-Bool.exists_bool, -Int.not_le, -Int.not_lt, -getElem?_pos, -List.getD_eq_getElem?_getD, hf])⟩
      rw [if_pos ⟨hf, ht⟩] at he
      refine ⟨i + 1, ⟨h, he⟩, by omega, ?_⟩
      rw [wr (by omega) (by omega)]
      refine Le.told [] ?_ ?_ ?_ <;> simp [-Bool.exists_bool, -Int.not_le, -Int.not_lt, -getElem?_pos, -List.getD_eq_getElem?_getD]
    · rw [drop_nil (by omega)] at he
      refine RLe.pure 3 (by rw [he]; simp [-Bool.exists_bool, -Int.not_le, -Int.not_lt, -getElem?_pos, -List.getD_eq_getElem?_getD, covGo])
theorem iCoversCell (a b : Ce) (ha : a.2.length ≤ 1048576) (hb : b.2.length ≤ 1048576) : Cn Try.prog 43 [.agg (cV a), .agg (cV b)] (B2 (covC a b)) hemp := by
  refine Cn.of [] mixed Try.func43 rfl Try.call43 (by kernel_rfl) rfl ?_
  simp -implicitDefEqProofs -dsimp +contextual [-Bool.exists_bool, -Int.not_le, -Int.not_lt, -getElem?_pos, -List.getD_eq_getElem?_getD, Try.f43]
  have no : ∀ {H : Store}, ¬ (isCe a.1 a.2 = true ∧ isCe b.1 b.2 = true ∧ a.1 = b.1) → RLe Try.prog H (V.tup [V.d (D.bool false), V.d (D.bool false)]) (B2 (covC a b)) hemp := fun h => by
    rw [covC, if_neg h]
    exact RLe.pure 2 (by simp [-Bool.exists_bool, -Int.not_le, -Int.not_lt, -getElem?_pos, -List.getD_eq_getElem?_getD])
  refine CallJ.pure (iIsCell a.1 a.2 ha) rfl (by simp [-Bool.exists_bool, -Int.not_le, -Int.not_lt, -getElem?_pos, -List.getD_eq_getElem?_getD]) ?_
  simp -implicitDefEqProofs -dsimp +contextual [-Bool.exists_bool, -Int.not_le, -Int.not_lt, -getElem?_pos, -List.getD_eq_getElem?_getD]
  refine ⟨fun h1 => ?_, fun h1 => no (by simp [-Bool.exists_bool, -Int.not_le, -Int.not_lt, -getElem?_pos, -List.getD_eq_getElem?_getD, h1])⟩
  refine CallJ.pure (iIsCell b.1 b.2 hb) rfl (by simp [-Bool.exists_bool, -Int.not_le, -Int.not_lt, -getElem?_pos, -List.getD_eq_getElem?_getD]) ?_
  simp -implicitDefEqProofs -dsimp +contextual [-Bool.exists_bool, -Int.not_le, -Int.not_lt, -getElem?_pos, -List.getD_eq_getElem?_getD, h1]
  refine ⟨fun h2 => ⟨fun h3 => ?_, fun h3 => no (by simp [-Bool.exists_bool, -Int.not_le, -Int.not_lt, -getElem?_pos, -List.getD_eq_getElem?_getD, h3])⟩, fun h2 => no (by simp [-Bool.exists_bool, -Int.not_le, -Int.not_lt, -getElem?_pos, -List.getD_eq_getElem?_getD, h2])⟩
  have e0 : covC a b = covGo b a.2 := by rw [covC, if_pos ⟨h1, h2, h3⟩]
  refine WP.loop mixed [] (fun i : Nat => ⟨tl [(2, .ptr (0, 0) 0), (3, .ptr (1, 0) 0), (26, As a.2), (27, I a.2.length), (28, I i)], hl [((0, 0), .box (cV a)), ((1, 0), .box (cV b))], 5⟩) (fun i => i ≤ a.2.length ∧ covC a b = covGo b (a.2.drop i)) (fun i => a.2.length - i) 0 (by kernel_rfl) ?_ ?_ ?_
  · refine Le.told [] ?_ ?_ ?_ <;> simp [-Bool.exists_bool, -Int.not_le, -Int.not_lt, -getElem?_pos, -List.getD_eq_getElem?_getD]
  · exact ⟨Nat.zero_le _, e0⟩
  · rintro i ⟨hi, he⟩
    simp -implicitDefEqProofs -dsimp +contextual [-Bool.exists_bool, -Int.not_le, -Int.not_lt, -getElem?_pos, -List.getD_eq_getElem?_getD]
    refine ⟨fun h => ?_, fun h => ?_⟩
    · refine CallJ.pure (iImpliesAtom b (nth a.2 i) hb (okA_small (isCe_a h1 _ (nth_mem h)))) rfl (by simp [-Bool.exists_bool, -Int.not_le, -Int.not_lt, -getElem?_pos, -List.getD_eq_getElem?_getD]) ?_
      rw [nth_drop h, covGo] at he
      generalize impA b (nth a.2 i) = q at he ⊢
      simp -implicitDefEqProofs -dsimp +contextual [-Bool.exists_bool, -Int.not_le, -Int.not_lt, -getElem?_pos, -List.getD_eq_getElem?_getD, h]
      refine ⟨fun hf => ⟨fun ht => ?_, fun ht => RLe.pure 2 (by rw [he]; simp [-Bool.exists_bool, -Int.not_le, -Int.not_lt, -getElem?_pos, -List.getD_eq_getElem?_getD, ht, hf])⟩, fun hf => RLe.pure 2 (by rw [he]; simp [-Bool.exists_bool, -Int.not_le, -Int.not_lt, -getElem?_pos, -List.getD_eq_getElem?_getD, hf])⟩
      rw [if_pos ⟨hf, ht⟩] at he
      refine ⟨i + 1, ⟨h, he⟩, by omega, ?_⟩
      rw [wr (by omega) (by omega)]
      refine Le.told [] ?_ ?_ ?_ <;> simp [-Bool.exists_bool, -Int.not_le, -Int.not_lt, -getElem?_pos, -List.getD_eq_getElem?_getD]
    · rw [drop_nil (by omega)] at he
      refine RLe.pure 3 (by rw [he]; simp [-Bool.exists_bool, -Int.not_le, -Int.not_lt, -getElem?_pos, -List.getD_eq_getElem?_getD, covGo])
theorem lawCoversCell (a b : Ce) (ha : wfC a) (hb : wfC b) : Cn Try.prog 11 [.agg (cV a), .agg (cV b)] (B true) hemp := by
  refine Cn.of [] mixed Try.func11 rfl Try.call11 (by kernel_rfl) rfl ?_
  simp -implicitDefEqProofs -dsimp +contextual [-Bool.exists_bool, -Int.not_le, -Int.not_lt, -getElem?_pos, -List.getD_eq_getElem?_getD, Try.f11]
  refine CallJ.pure (szCell a 1048576 ok20 ha) rfl (by simp [-Bool.exists_bool, -Int.not_le, -Int.not_lt, -getElem?_pos, -List.getD_eq_getElem?_getD]) ?_
  simp -implicitDefEqProofs -dsimp +contextual [-Bool.exists_bool, -Int.not_le, -Int.not_lt, -getElem?_pos, -List.getD_eq_getElem?_getD]
  refine ⟨fun _ => RLe.bb rfl, fun h => ?_⟩
  obtain ⟨w1, hk⟩ := lft_2 ok20 h
  obtain ⟨a1, a2⟩ := wAs_small w1
  refine CallJ.pure (szCell b _ hk hb) rfl (by simp [-Bool.exists_bool, -Int.not_le, -Int.not_lt, -getElem?_pos, -List.getD_eq_getElem?_getD]) ?_
  simp -implicitDefEqProofs -dsimp +contextual [-Bool.exists_bool, -Int.not_le, -Int.not_lt, -getElem?_pos, -List.getD_eq_getElem?_getD, h]
  refine ⟨fun _ => RLe.bb rfl, fun h2 => ?_⟩
  obtain ⟨w2, _⟩ := lft_2 hk h2
  obtain ⟨b1, b2⟩ := wAs_small w2
  refine CallJ.pure (toCellW a a1 a2) rfl (by simp [-Bool.exists_bool, -Int.not_le, -Int.not_lt, -getElem?_pos, -List.getD_eq_getElem?_getD]) ?_
  simp -implicitDefEqProofs -dsimp +contextual [-Bool.exists_bool, -Int.not_le, -Int.not_lt, -getElem?_pos, -List.getD_eq_getElem?_getD, h, h2]
  refine CallJ.pure (toCellW b b1 b2) rfl (by simp [-Bool.exists_bool, -Int.not_le, -Int.not_lt, -getElem?_pos, -List.getD_eq_getElem?_getD]) ?_
  simp -implicitDefEqProofs -dsimp +contextual [-Bool.exists_bool, -Int.not_le, -Int.not_lt, -getElem?_pos, -List.getD_eq_getElem?_getD, h, h2]
  refine CallJ.pure (CoversCell a b a1 b1) rfl (by simp [-Bool.exists_bool, -Int.not_le, -Int.not_lt, -getElem?_pos, -List.getD_eq_getElem?_getD]) ?_
  simp -implicitDefEqProofs -dsimp +contextual [-Bool.exists_bool, -Int.not_le, -Int.not_lt, -getElem?_pos, -List.getD_eq_getElem?_getD, h, h2]
  refine CallJ.pure (toCellW a a1 a2) rfl (by simp [-Bool.exists_bool, -Int.not_le, -Int.not_lt, -getElem?_pos, -List.getD_eq_getElem?_getD]) ?_
  simp -implicitDefEqProofs -dsimp +contextual [-Bool.exists_bool, -Int.not_le, -Int.not_lt, -getElem?_pos, -List.getD_eq_getElem?_getD, h, h2]
  refine CallJ.pure (toCellW b b1 b2) rfl (by simp [-Bool.exists_bool, -Int.not_le, -Int.not_lt, -getElem?_pos, -List.getD_eq_getElem?_getD]) ?_
  simp -implicitDefEqProofs -dsimp +contextual [-Bool.exists_bool, -Int.not_le, -Int.not_lt, -getElem?_pos, -List.getD_eq_getElem?_getD, h, h2]
  refine CallJ.pure (iCoversCell a b a1 b1) rfl (by simp [-Bool.exists_bool, -Int.not_le, -Int.not_lt, -getElem?_pos, -List.getD_eq_getElem?_getD]) ?_
  simp -implicitDefEqProofs -dsimp +contextual [-Bool.exists_bool, -Int.not_le, -Int.not_lt, -getElem?_pos, -List.getD_eq_getElem?_getD, h, h2]
  refine CallJ.pure (toCellW a a1 a2) rfl (by simp [-Bool.exists_bool, -Int.not_le, -Int.not_lt, -getElem?_pos, -List.getD_eq_getElem?_getD]) ?_
  simp -implicitDefEqProofs -dsimp +contextual [-Bool.exists_bool, -Int.not_le, -Int.not_lt, -getElem?_pos, -List.getD_eq_getElem?_getD, h, h2]
  refine CallJ.pure (eqCell a a1 a2) rfl (by simp [-Bool.exists_bool, -Int.not_le, -Int.not_lt, -getElem?_pos, -List.getD_eq_getElem?_getD]) ?_
  simp -implicitDefEqProofs -dsimp +contextual [-Bool.exists_bool, -Int.not_le, -Int.not_lt, -getElem?_pos, -List.getD_eq_getElem?_getD, h, h2]
  refine CallJ.pure (toCellW b b1 b2) rfl (by simp [-Bool.exists_bool, -Int.not_le, -Int.not_lt, -getElem?_pos, -List.getD_eq_getElem?_getD]) ?_
  simp -implicitDefEqProofs -dsimp +contextual [-Bool.exists_bool, -Int.not_le, -Int.not_lt, -getElem?_pos, -List.getD_eq_getElem?_getD, h, h2]
  refine CallJ.pure (eqCell b b1 b2) rfl (by simp [-Bool.exists_bool, -Int.not_le, -Int.not_lt, -getElem?_pos, -List.getD_eq_getElem?_getD]) ?_
  simp -implicitDefEqProofs -dsimp +contextual [-Bool.exists_bool, -Int.not_le, -Int.not_lt, -getElem?_pos, -List.getD_eq_getElem?_getD, h, h2]
  exact RLe.bb rfl
end Go.Proofs.Ytkicjflhokckgaa.ZL
namespace Go.Proofs.Ytkicjflhokckgaa.ZL
open Go Go.Proofs.Ytkicjflhokckgaa.Abs Go.Proofs.Ytkicjflhokckgaa.Abs.Pl Go.RowKit Go.Proofs
set_option linter.unusedVariables false
set_option linter.unusedSimpArgs false
def kMe (P : Program) (A : Key → Prop) (H : Store) (r : V) (Hr : Store) (vs : List V) : Prop := RLm P A H (oneV vs) r Hr
section
variable {P : Program} {A : Key → Prop} {H : Store} {r v : V} {Hr : Store} {S : St} {rs : List ResultVar}
theorem retM_ret : retM P rs A r Hr .ret S = resS P S.T S.H rs (kMe P A S.H r Hr) := rfl
theorem kMe_1 : kMe P A H r Hr [v] = RLm P A H v r Hr := rfl
theorem RLm.told {K : List (Key × Ent)} (hv : VLe H (fun k => k) 2 v r) (hr : allK (okKey A) r)
    (hK : allP (fun p : Key × Ent => p.1.1 < 2 ∧ okKey A p.1 ∧ allKE (okKey A) p.2 ∧ entIs (H p.1) fun e => ELe H (fun k => k) 2 e p.2) K) : RLm P A H v r (hl K) :=
  RLm.mk (fun k => k) (fun _ _ => rfl) hv hr (fun k e' hk => by
    obtain ⟨h1, h2, h3, h4⟩ := allP_mem hK _ (hl_mem hk)
    simp only [entIs] at h4
    refine ⟨h1, h2, h3, ?_⟩
    cases hq : H k with
    | none => rw [hq] at h4; exact h4.elim
    | some e => rw [hq] at h4; exact ⟨e, rfl, h4⟩) (fun _ _ _ _ _ _ h => h)
end
theorem allKs_dl (p : Key → Prop) : ∀ cs : List D, allKs p (dl cs)
  | [] => trivial
  | d :: cs => ⟨trivial, allKs_dl p cs⟩
attribute [simp ↓] retM_ret kMe_1
attribute [simp] allKs_dl
def markI (n : Nat) (m : Int) : List Int := (List.range n).map fun i : Nat => m + i
def rowI (l : List Int) : Ent := .row 3 l.length (dl (l.map (.int .i64)))
def curI (l : List Int) (m : Int) (i : Nat) : List Int := markI i m ++ l.drop i
theorem markI_len (n : Nat) (m : Int) : (markI n m).length = n := by simp [-Bool.exists_bool, -Int.not_le, -Int.not_lt, -getElem?_pos, -List.getD_eq_getElem?_getD, markI]
theorem curI_len (l : List Int) (m : Int) (i : Nat) (h : i ≤ l.length) : (curI l m i).length = l.length := by simp [-Bool.exists_bool, -Int.not_le, -Int.not_lt, -getElem?_pos, -List.getD_eq_getElem?_getD, curI, markI_len]; omega
theorem curI_set (l : List Int) (m : Int) (i : Nat) (h : i < l.length) : (curI l m i).set i (m + i) = curI l m (i + 1) := by
  unfold curI
  rw [List.set_append_right _ _ (by rw [markI_len]; exact Nat.le_refl _), markI_len, nth_drop h]
  simp [-Bool.exists_bool, -Int.not_le, -Int.not_lt, -getElem?_pos, -List.getD_eq_getElem?_getD, markI, List.range_succ]
theorem markIntS (l : List Int) (m : Int) (hm : 0 ≤ m ∧ m ≤ 1000000000000) (h20 : l.length ≤ 1048576) : Cm Try.prog 99 (fun k => k = (0, 1)) [.ref (0, 1) l.length, I m] (hl [((0, 1), rowI l)]) (I (m + l.length)) (hl [((0, 1), rowI (markI l.length m))]) := by
  refine Cm.of [] mixed Try.func99 rfl Try.call99 (by kernel_rfl) rfl ?_
  simp -implicitDefEqProofs -dsimp +contextual [-Bool.exists_bool, -Int.not_le, -Int.not_lt, -getElem?_pos, -List.getD_eq_getElem?_getD, Try.f99]
  refine WP.loop mixed [] (fun i : Nat => ⟨tl [(0, .ref (0, 1) l.length), (1, I (m + i)), (5, I i)], hl [((0, 1), .row 3 l.length (dl ((curI l m i).map (.int .i64))))], 2⟩) (fun i => i ≤ l.length) (fun i => l.length - i) 0 (by kernel_rfl) ?_ ?_ ?_
  · refine Le.told [] ?_ ?_ ?_ <;> simp [-Bool.exists_bool, -Int.not_le, -Int.not_lt, -getElem?_pos, -List.getD_eq_getElem?_getD, rowI, curI, markI]
  · simp [-Bool.exists_bool, -Int.not_le, -Int.not_lt, -getElem?_pos, -List.getD_eq_getElem?_getD]
  · intro i hi
    by_cases h : i < l.length
    · have h1 : i + 1 ≤ (curI l m i).length := by rw [curI_len _ _ i hi]; exact h
      simp -implicitDefEqProofs -dsimp +contextual [-Bool.exists_bool, -Int.not_le, -Int.not_lt, -getElem?_pos, -List.getD_eq_getElem?_getD, h, h1]
      refine ⟨i + 1, h, by omega, ?_⟩
      rw [wr (by omega) (by omega), wr (by omega) (by omega)]
      have hs := curI_set l m i h
      refine Le.told [] ?_ ?_ ?_ <;> simp [-Bool.exists_bool, -Int.not_le, -Int.not_lt, -getElem?_pos, -List.getD_eq_getElem?_getD]
      · omega
      · rw [← hs, List.map_set, List.set_eq_take_append_cons_drop, if_pos (by rw [List.length_map]; exact h1)]
    · obtain rfl : i = l.length := by omega
      simp -implicitDefEqProofs -dsimp +contextual [-Bool.exists_bool, -Int.not_le, -Int.not_lt, -getElem?_pos, -List.getD_eq_getElem?_getD, h]
      refine RLm.told ?_ ?_ ?_
      · simp [-Bool.exists_bool, -Int.not_le, -Int.not_lt, -getElem?_pos, -List.getD_eq_getElem?_getD]
      · simp [-Bool.exists_bool, -Int.not_le, -Int.not_lt, -getElem?_pos, -List.getD_eq_getElem?_getD, allK]
      · simp [-Bool.exists_bool, -Int.not_le, -Int.not_lt, -getElem?_pos, -List.getD_eq_getElem?_getD, okKey, allKE, rowI, markI_len, curI]
def markA (a : At) (m : Int) : At := (markI a.1.length m, m + a.1.length, decide ((m + a.1.length + 1).tmod 3 = 0))
def markS : List At → Int → List At
  | [], _ => []
  | a :: L, m => markA a m :: markS L (m + a.1.length + 2)
def nxtS : List At → Int → Int
  | [], m => m
  | a :: L, m => nxtS L (m + a.1.length + 2)
theorem markA_len (a : At) (m : Int) : (markA a m).1.length = a.1.length := markI_len ..
theorem markS_len : ∀ (L : List At) (m : Int), (markS L m).length = L.length
  | [], _ => rfl
  | a :: L, m => by simp [-Bool.exists_bool, -Int.not_le, -Int.not_lt, -getElem?_pos, -List.getD_eq_getElem?_getD, markS, markS_len L]
theorem nxtS_app : ∀ (L M : List At) (m : Int), nxtS (L ++ M) m = nxtS M (nxtS L m)
  | [], M, m => rfl
  | a :: L, M, m => by simp [-Bool.exists_bool, -Int.not_le, -Int.not_lt, -getElem?_pos, -List.getD_eq_getElem?_getD, nxtS, nxtS_app L]
theorem markS_app : ∀ (L M : List At) (m : Int), markS (L ++ M) m = markS L m ++ markS M (nxtS L m)
  | [], M, m => rfl
  | a :: L, M, m => by simp [-Bool.exists_bool, -Int.not_le, -Int.not_lt, -getElem?_pos, -List.getD_eq_getElem?_getD, markS, nxtS, markS_app L]
def curA (L : List At) (m : Int) (i : Nat) : List At := markS (L.take i) m ++ L.drop i
theorem curA_len (L : List At) (m : Int) (i : Nat) (h : i ≤ L.length) : (curA L m i).length = L.length := by simp [-Bool.exists_bool, -Int.not_le, -Int.not_lt, -getElem?_pos, -List.getD_eq_getElem?_getD, curA, markS_len]; omega
theorem curA_set (L : List At) (m : Int) (i : Nat) (h : i < L.length) : (curA L m i).set i (markA (nth L i) (nxtS (L.take i) m)) = curA L m (i + 1) := by
  unfold curA
  have hl : (markS (L.take i) m).length = i := by rw [markS_len]; simp [-Bool.exists_bool, -Int.not_le, -Int.not_lt, -getElem?_pos, -List.getD_eq_getElem?_getD]; omega
  rw [List.set_append_right _ _ (by rw [hl]; exact Nat.le_refl _), hl, nth_drop h, nth_take h, markS_app]
  simp [-Bool.exists_bool, -Int.not_le, -Int.not_lt, -getElem?_pos, -List.getD_eq_getElem?_getD, markS]
theorem curA_nth (L : List At) (m : Int) (i j : Nat) (h : i ≤ j) (hj : j < L.length) : nth (curA L m i) j = nth L j := by
  have hl : (markS (L.take i) m).length = i := by rw [markS_len]; simp [-Bool.exists_bool, -Int.not_le, -Int.not_lt, -getElem?_pos, -List.getD_eq_getElem?_getD]; omega
  rw [nth_eq (by rw [curA_len _ _ _ (by omega)]; exact hj), nth_eq hj]
  unfold curA
  rw [List.getElem_append_right (by rw [hl]; exact h)]
  simp only [hl, List.getElem_drop]
  congr 1
  omega
def mFam (L : List At) : Store := fun k => if k.1 = 0 then (match k.2 with
    | 0 => none
    | 1 => some (.row 52 L.length (rA (fun j => (0, j + 2)) 0 L))
    | j + 2 => ownA L j) else none
def mKey (n : Nat) (k : Key) : Prop := k.1 = 0 ∧ 1 ≤ k.2 ∧ k.2 ≤ n + 1
theorem mFam_1 (L : List At) : mFam L (0, 1) = some (.row 52 L.length (rA (fun j => (0, j + 2)) 0 L)) := rfl
theorem mFam_j (L : List At) (j : Nat) : mFam L (0, j + 2) = ownA L j := rfl
theorem mFam_some {L : List At} {k : Key} {e : Ent} (h : mFam L k = some e) : (k = (0, 1) ∧ e = .row 52 L.length (rA (fun j => (0, j + 2)) 0 L)) ∨ ∃ j, j < L.length ∧ k = (0, j + 2) ∧ e = rowA (nth L j) := by
  obtain ⟨a, b⟩ := k
  unfold mFam at h
  simp only at h
  split at h
  · rename_i ha
    subst ha
    split at h
    · exact absurd h (by simp [-Bool.exists_bool, -Int.not_le, -Int.not_lt, -getElem?_pos, -List.getD_eq_getElem?_getD])
    · exact .inl ⟨rfl, (Option.some.inj h).symm⟩
    · rename_i j
      obtain ⟨h1, h2⟩ := ownA_some h
      exact .inr ⟨j, h1, rfl, h2⟩
  · exact absurd h (by simp [-Bool.exists_bool, -Int.not_le, -Int.not_lt, -getElem?_pos, -List.getD_eq_getElem?_getD])
theorem Le.mfam {P : Program} {N : Nat} {T : Nat → V} {H : Store} {nx : Nat} {Lt : List (Nat × V)} (L : List At) (hT : allP (fun p : Nat × V => VLe H (fun k => k) 2 (T p.1) p.2) Lt) (h1 : H (0, 1) = some (.row 52 L.length (rA (fun j => (0, j + 2)) 0 L)))
    (hF : ∀ j, j < L.length → H (0, j + 2) = some (rowA (nth L j))) : Le P N ⟨T, H, nx⟩ ⟨tl Lt, mFam L, 2⟩ := by
  refine Le.mk (fun k => k) (.inr (by show 0 < 2; omega)) (fun _ _ _ _ => rfl) (tl_cond (allP_mem hT)) (fun k e' hk => ?_) (fun _ _ _ _ _ _ h => h)
  rcases mFam_some hk with ⟨rfl, rfl⟩ | ⟨j, hj, rfl, rfl⟩
  · refine ⟨by show 0 < 2; omega, _, h1, ?_⟩
    simp only [ELe, true_and]
    exact rA_VLes L 0 fun i hi => ⟨rfl, by show 0 < 2; omega⟩
  · refine ⟨by show 0 < 2; omega, _, hF j hj, ?_⟩
    simp only [rowA, ELe, true_and]
    exact (dl_VLes ..).2 rfl
theorem rA_0 (f : Nat → Key) (L : List At) (i : Nat) (h : i < L.length) : (rA f 0 L)[i * 3]? = some (.ref (f i) (nth L i).1.length) := by
  have := rA_nth f L i 0 h
  rw [Nat.zero_add] at this
  rw [show (rA f 0 L)[i * 3]? = ((rA f 0 L).drop (i * 3))[0]? by rw [List.getElem?_drop, Nat.add_zero], this]
  rfl
theorem nxtS_le : ∀ (L : List At) (m : Int), m ≤ nxtS L m
  | [], m => Int.le_refl _
  | a :: L, m => by have := nxtS_le L (m + a.1.length + 2); simp only [nxtS]; omega
theorem nxtS_take (L : List At) (m : Int) (i : Nat) : nxtS (L.take i) m ≤ nxtS L m := by
  have := nxtS_le (L.drop i) (nxtS (L.take i) m)
  rwa [← nxtS_app, List.take_append_drop] at this
theorem rA_allKs {p : Key → Prop} (f : Nat → Key) : ∀ (L : List At) (j : Nat), (∀ i, i < L.length → p (f (j + i))) → allKs p (rA f j L)
  | [], _, _ => trivial
  | a :: L, j, h => ⟨by have := h 0 (by simp [-Bool.exists_bool, -Int.not_le, -Int.not_lt, -getElem?_pos, -List.getD_eq_getElem?_getD]); exact this, trivial, trivial, rA_allKs f L (j + 1) fun i hi => by have := h (i + 1) (by simp [-Bool.exists_bool, -Int.not_le, -Int.not_lt, -getElem?_pos, -List.getD_eq_getElem?_getD]; omega); rwa [show j + (i + 1) = j + 1 + i by omega] at this⟩
theorem rA_put (f : Nat → Key) (L : List At) (i : Nat) (h : i < L.length) (a : At) (hl : a.1.length = (nth L i).1.length) :
    (((rA f 0 L).take (i * 3 + 1) ++ I a.2.1 :: (rA f 0 L).drop (i * 3 + 1 + 1)).take (i * 3 + 2) ++ B a.2.2 :: ((rA f 0 L).take (i * 3 + 1) ++ I a.2.1 :: (rA f 0 L).drop (i * 3 + 1 + 1)).drop (i * 3 + 2 + 1)) = rA f 0 (L.set i a) := by
  have e1 : L = L.take i ++ nth L i :: L.drop (i + 1) := by rw [← nth_drop h, List.take_append_drop]
  have e2 : L.set i a = L.take i ++ a :: L.drop (i + 1) := by rw [List.set_eq_take_append_cons_drop, if_pos h]
  have hti : (L.take i).length = i := by simp [-Bool.exists_bool, -Int.not_le, -Int.not_lt, -getElem?_pos, -List.getD_eq_getElem?_getD]; omega
  have hR : rA f 0 L = rA f 0 (L.take i) ++ (.ref (f i) (nth L i).1.length :: I (nth L i).2.1 :: B (nth L i).2.2 :: rA f (i + 1) (L.drop (i + 1))) := by
    rw [congrArg (rA f 0) e1, rA_append, hti, Nat.zero_add]; rfl
  have hS : rA f 0 (L.set i a) = rA f 0 (L.take i) ++ (.ref (f i) (nth L i).1.length :: I a.2.1 :: B a.2.2 :: rA f (i + 1) (L.drop (i + 1))) := by
    rw [e2, rA_append, hti, Nat.zero_add, ← hl]; rfl
  rw [hS, hR]
  have hA : (rA f 0 (L.take i)).length = i * 3 := by rw [rA_len, hti]
  generalize rA f 0 (L.take i) = A at hA
  rw [← hA]
  have t1 : A.take (A.length + 1) = A := List.take_of_length_le (by omega)
  have t2 : A.take (A.length + 2) = A := List.take_of_length_le (by omega)
  have d1 : A.drop (A.length + 1 + 1) = [] := List.drop_eq_nil_of_le (by omega)
  have d2 : A.drop (A.length + 2 + 1) = [] := List.drop_eq_nil_of_le (by omega)
  have k1 : A.length + 1 + 1 - A.length = 2 := by omega
  have k2 : A.length + 2 + 1 - A.length = 3 := by omega
  simp [-Bool.exists_bool, -Int.not_le, -Int.not_lt, -getElem?_pos, -List.getD_eq_getElem?_getD, List.take_append, List.drop_append, t1, t2, d1, d2, k1, k2]
theorem callMarkI {N nx s : Nat} {H : Store} {K : Eff → Prop} (k0 : Key) (l : List Int) (m : Int) (hm : 0 ≤ m ∧ m ≤ 1000000000000) (h20 : l.length ≤ 1048576) (hH : H k0 = some (rowI l)) (hs : k0.1 ≠ s) (hn : k0.1 < nx)
    (hk : K ⟨I (m + l.length), [k0], [k0], up1 k0 (some (rowI (markI l.length m))) noUp⟩) : CallJ Try.prog N nx s H 99 [.ref k0 l.length, I m] K := by
  have hup : upMut (fun _ => k0) (fun k => if k = k0 then some 0 else none) s (hl [((0, 1), rowI (markI l.length m))]) = up1 k0 (some (rowI (markI l.length m))) noUp := by
    funext k
    unfold upMut up1
    by_cases h1 : k = k0
    · subst h1
      rw [if_neg hs, if_pos rfl]
      simp [-Bool.exists_bool, -Int.not_le, -Int.not_lt, -getElem?_pos, -List.getD_eq_getElem?_getD, rowI, mapE]
    · rw [if_neg h1]
      simp [-Bool.exists_bool, -Int.not_le, -Int.not_lt, -getElem?_pos, -List.getD_eq_getElem?_getD, h1, noUp]
  rw [← hup] at hk
  refine CallJ.mut (fun _ => k0) (fun k => if k = k0 then some 0 else none) [k0] [] (markIntS l m hm h20) ?_ ?_ ?_ ?_ ?_ ?_ ?_ ?_ (by simpa [-Bool.exists_bool, -Int.not_le, -Int.not_lt, -getElem?_pos, -List.getD_eq_getElem?_getD] using hk)
  · simp [-Bool.exists_bool, -Int.not_le, -Int.not_lt, -getElem?_pos, -List.getD_eq_getElem?_getD, gk]
  · simp [-Bool.exists_bool, -Int.not_le, -Int.not_lt, -getElem?_pos, -List.getD_eq_getElem?_getD, allKs, allK]
  · rintro k rfl; simp [-Bool.exists_bool, -Int.not_le, -Int.not_lt, -getElem?_pos, -List.getD_eq_getElem?_getD, hH]
  · intro k e h
    simp [-Bool.exists_bool, -Int.not_le, -Int.not_lt, -getElem?_pos, -List.getD_eq_getElem?_getD] at h
    obtain ⟨rfl, rfl⟩ := h
    simp [-Bool.exists_bool, -Int.not_le, -Int.not_lt, -getElem?_pos, -List.getD_eq_getElem?_getD, hH, rowI, mapE, allKE]
  · intro k j h
    simp [-Bool.exists_bool, -Int.not_le, -Int.not_lt, -getElem?_pos, -List.getD_eq_getElem?_getD] at h
    obtain ⟨rfl, rfl⟩ := h
    simp [-Bool.exists_bool, -Int.not_le, -Int.not_lt, -getElem?_pos, -List.getD_eq_getElem?_getD]
  · simp [-Bool.exists_bool, -Int.not_le, -Int.not_lt, -getElem?_pos, -List.getD_eq_getElem?_getD]
  · intro k e h
    simp [-Bool.exists_bool, -Int.not_le, -Int.not_lt, -getElem?_pos, -List.getD_eq_getElem?_getD] at h
    obtain ⟨rfl, rfl⟩ := h
    simp [-Bool.exists_bool, -Int.not_le, -Int.not_lt, -getElem?_pos, -List.getD_eq_getElem?_getD]
  · simp [-Bool.exists_bool, -Int.not_le, -Int.not_lt, -getElem?_pos, -List.getD_eq_getElem?_getD, hH, hn]
theorem markAtomS (L : List At) (m : Int) (hm : 0 ≤ m ∧ nxtS L m ≤ 100000000000) (h20 : L.length ≤ 1048576) (ha : ∀ a ∈ L, a.1.length ≤ 1048576) : Cm Try.prog 56 (mKey L.length) [.ref (0, 1) L.length, I m] (mFam L) (I (nxtS L m)) (mFam (markS L m)) := by
  refine Cm.of [] mixed Try.func56 rfl Try.call56 (by kernel_rfl) rfl ?_
  simp -implicitDefEqProofs -dsimp +contextual [-Bool.exists_bool, -Int.not_le, -Int.not_lt, -getElem?_pos, -List.getD_eq_getElem?_getD, Try.f56]
  refine WP.loop mixed [] (fun i : Nat => ⟨tl [(0, .ref (0, 1) L.length), (1, I (nxtS (L.take i) m)), (5, I i)], mFam (curA L m i), 2⟩) (fun i => i ≤ L.length) (fun i => L.length - i) 0 (by kernel_rfl) ?_ ?_ ?_
  · refine Le.mfam _ ?_ ?_ ?_ 
    · simp [-Bool.exists_bool, -Int.not_le, -Int.not_lt, -getElem?_pos, -List.getD_eq_getElem?_getD, nxtS]
    · simp [-Bool.exists_bool, -Int.not_le, -Int.not_lt, -getElem?_pos, -List.getD_eq_getElem?_getD, curA, markS, mFam_1]
    · intro j hj; simp [-Bool.exists_bool, -Int.not_le, -Int.not_lt, -getElem?_pos, -List.getD_eq_getElem?_getD, curA, markS] at hj ⊢; rw [mFam_j, ownA_lt hj]
  · simp [-Bool.exists_bool, -Int.not_le, -Int.not_lt, -getElem?_pos, -List.getD_eq_getElem?_getD]
  · intro i hi
    by_cases h : i < L.length
    · have hlc := curA_len L m i hi
      have hc0 := rA_0 (fun j => (0, j + 2)) (curA L m i) i (by omega)
      rw [curA_nth L m i i (Nat.le_refl _) h] at hc0
      have hm0 := nxtS_le (L.take i) m
      have hm1 := nxtS_take L m (i + 1)
      rw [nth_take h, nxtS_app] at hm1
      simp only [nxtS] at hm1
      simp -implicitDefEqProofs -dsimp +contextual [-Bool.exists_bool, -Int.not_le, -Int.not_lt, -getElem?_pos, -List.getD_eq_getElem?_getD, h, mFam_1, hc0]
      refine callMarkI (0, i + 2) (nth L i).1 _ (by omega) (ha _ (nth_mem h)) (by rw [mFam_j, ownA_lt (by omega), curA_nth L m i i (Nat.le_refl _) h]; rfl) (by simp [-Bool.exists_bool, -Int.not_le, -Int.not_lt, -getElem?_pos, -List.getD_eq_getElem?_getD]) (by simp [-Bool.exists_bool, -Int.not_le, -Int.not_lt, -getElem?_pos, -List.getD_eq_getElem?_getD]) ?_
      have hb1 : i * 3 + 1 + 1 ≤ (curA L m i).length * 3 := by omega
      have hb2 : i * 3 + 2 + 1 ≤ min (i * 3 + 1) ((curA L m i).length * 3) + ((curA L m i).length * 3 - (i * 3 + 1 + 1) + 1) := by omega
      simp -implicitDefEqProofs -dsimp +contextual [-Bool.exists_bool, -Int.not_le, -Int.not_lt, -getElem?_pos, -List.getD_eq_getElem?_getD, h, mFam_1, hb1, hb2]
      refine ⟨i + 1, h, by omega, ?_⟩
      have hs := curA_set L m i h
      have hp := rA_put (fun j => (0, j + 2)) (curA L m i) i (by omega) (markA (nth L i) (nxtS (L.take i) m)) (by rw [markA_len, curA_nth L m i i (Nat.le_refl _) h])
      rw [hs] at hp
      simp only [markA] at hp
      have w1 : IntKind.wrap .i64 (nxtS (L.take i) m + (nth L i).1.length + 1) = nxtS (L.take i) m + (nth L i).1.length + 1 := wr (by omega) (by omega)
      rw [w1, wr (by omega) (by omega), wr (by omega) (by omega), hp]
      refine Le.mfam _ ?_ ?_ ?_
      · simp [-Bool.exists_bool, -Int.not_le, -Int.not_lt, -getElem?_pos, -List.getD_eq_getElem?_getD, nth_take h, nxtS_app, nxtS]
        omega
      · simp [-Bool.exists_bool, -Int.not_le, -Int.not_lt, -getElem?_pos, -List.getD_eq_getElem?_getD, setH, hlc, curA_len L m (i + 1) h]
      · intro j hj
        rw [curA_len L m (i + 1) h] at hj
        by_cases hij : j = i
        · subst hij
          have : nth (curA L m (j + 1)) j = markA (nth L j) (nxtS (L.take j) m) := by
            rw [← hs, nth_eq (by rw [List.length_set, hlc]; exact hj)]
            simp [-Bool.exists_bool, -Int.not_le, -Int.not_lt, -getElem?_pos, -List.getD_eq_getElem?_getD]
          rw [this]
          simp [-Bool.exists_bool, -Int.not_le, -Int.not_lt, -getElem?_pos, -List.getD_eq_getElem?_getD, setH, rowA, rowI, markA, markI_len]
        · have : nth (curA L m (i + 1)) j = nth (curA L m i) j := by
            rw [← hs, nth_eq (by rw [List.length_set, hlc]; exact hj)]
            simp [-Bool.exists_bool, -Int.not_le, -Int.not_lt, -getElem?_pos, -List.getD_eq_getElem?_getD, Ne.symm hij]
            exact (nth_eq _).symm
          rw [this]
          simp [-Bool.exists_bool, -Int.not_le, -Int.not_lt, -getElem?_pos, -List.getD_eq_getElem?_getD, setH, hij, mFam_j, ownA_lt (show j < (curA L m i).length by rw [hlc]; exact hj)]
    · obtain rfl : i = L.length := by omega
      simp -implicitDefEqProofs -dsimp +contextual [-Bool.exists_bool, -Int.not_le, -Int.not_lt, -getElem?_pos, -List.getD_eq_getElem?_getD, h]
      have e : curA L m L.length = markS L m := by simp [-Bool.exists_bool, -Int.not_le, -Int.not_lt, -getElem?_pos, -List.getD_eq_getElem?_getD, curA]
      rw [e]
      refine RLm.mk (fun k => k) (fun _ _ => rfl) (by simp [-Bool.exists_bool, -Int.not_le, -Int.not_lt, -getElem?_pos, -List.getD_eq_getElem?_getD]) (by simp [-Bool.exists_bool, -Int.not_le, -Int.not_lt, -getElem?_pos, -List.getD_eq_getElem?_getD, allK]) (fun k e' hk => ?_) (fun _ _ _ _ _ _ h => h)
      rcases mFam_some hk with ⟨rfl, rfl⟩ | ⟨j, hj, rfl, rfl⟩
      · refine ⟨by show 0 < 2; omega, fun _ => ⟨rfl, by simp [-Bool.exists_bool, -Int.not_le, -Int.not_lt, -getElem?_pos, -List.getD_eq_getElem?_getD], by simp [-Bool.exists_bool, -Int.not_le, -Int.not_lt, -getElem?_pos, -List.getD_eq_getElem?_getD]⟩, ?_, _, mFam_1 _, ?_⟩
        · simp only [allKE]
          exact rA_allKs _ _ 0 fun i hi _ => ⟨rfl, by simp [-Bool.exists_bool, -Int.not_le, -Int.not_lt, -getElem?_pos, -List.getD_eq_getElem?_getD], by rw [markS_len] at hi; simp [-Bool.exists_bool, -Int.not_le, -Int.not_lt, -getElem?_pos, -List.getD_eq_getElem?_getD]; omega⟩
        · simp only [ELe, true_and]
          exact rA_VLes _ 0 fun i hi => ⟨rfl, by show 0 < 2; omega⟩
      · rw [markS_len] at hj
        refine ⟨by show 0 < 2; omega, fun _ => ⟨rfl, by simp [-Bool.exists_bool, -Int.not_le, -Int.not_lt, -getElem?_pos, -List.getD_eq_getElem?_getD], by simp [-Bool.exists_bool, -Int.not_le, -Int.not_lt, -getElem?_pos, -List.getD_eq_getElem?_getD]; omega⟩, by simp [-Bool.exists_bool, -Int.not_le, -Int.not_lt, -getElem?_pos, -List.getD_eq_getElem?_getD, rowA, allKE], _, by rw [mFam_j, ownA_lt (by rw [markS_len]; exact hj)], ?_⟩
        simp only [rowA, ELe, true_and]
        exact (dl_VLes ..).2 rfl
end Go.Proofs.Ytkicjflhokckgaa.ZL
namespace Go.Proofs.Ytkicjflhokckgaa.ZL
open Go Go.Proofs.Ytkicjflhokckgaa.Abs Go.Proofs.Ytkicjflhokckgaa.Abs.Pl Go.RowKit Go.Proofs
set_option linter.unusedVariables false
set_option linter.unusedSimpArgs false
def upMark (s0 o : Nat) (L : List At) : Key → Option (Option Ent) := fun k => if k.1 = s0 then (if k.2 = o then some (some (.row 52 L.length (rA (fun j => (s0, j + o + 1)) 0 L))) else
    if o < k.2 ∧ k.2 ≤ o + L.length then some (ownA L (k.2 - o - 1)) else none) else none
section
variable {H : Store}
theorem upMark_0 (s0 o : Nat) (L : List At) : app (upMark s0 o L) H (s0, o) = some (.row 52 L.length (rA (fun j => (s0, j + o + 1)) 0 L)) := by simp [-Bool.exists_bool, -Int.not_le, -Int.not_lt, -getElem?_pos, -List.getD_eq_getElem?_getD, app, upMark]
theorem upMark_j (s0 o : Nat) (L : List At) (j : Nat) (h : j < L.length) : app (upMark s0 o L) H (s0, j + o + 1) = some (rowA (nth L j)) := by
  have h1 : ¬ j + o + 1 = o := by omega
  have h2 : o < j + o + 1 ∧ j + o + 1 ≤ o + L.length := by omega
  have h3 : j + o + 1 - o - 1 = j := by omega
  simp only [app, upMark, if_true, if_neg h1, if_pos h2, h3, ownA_lt h]
theorem upMark_ne (s0 o : Nat) (L : List At) (a b : Nat) (h : a ≠ s0) : app (upMark s0 o L) H (a, b) = H (a, b) := by simp [-Bool.exists_bool, -Int.not_le, -Int.not_lt, -getElem?_pos, -List.getD_eq_getElem?_getD, app, upMark, h]
end
def famK (s0 o n : Nat) : List Key := (s0, o) :: (List.range n).map fun j => (s0, j + o + 1)
theorem callMark {N nx s f : Nat} {H : Store} {K : Eff → Prop} {vs vs' : List V} {x : Int} (s0 o : Nat) (L L' : List At) (hl : L'.length = L.length) (h : Cm Try.prog f (mKey L.length) vs' (mFam L) (I x) (mFam L'))
    (hv : vs = mapL (gk (fun j => (s0, j + o)) s) vs') (hvk : allKs (mKey L.length) vs') (h0 : H (s0, o) = some (.row 52 L.length (rA (fun j => (s0, j + o + 1)) 0 L))) (hF : ∀ j, j < L.length → H (s0, j + o + 1) = some (rowA (nth L j)))
    (hs : s0 ≠ s) (hn : s0 < nx) (hk : K ⟨I x, famK s0 o L.length, famK s0 o L.length, upMark s0 o L'⟩) : CallJ Try.prog N nx s H f vs K := by
  let g : Nat → Key := fun j => (s0, j + o)
  let gi : Key → Option Nat := fun k => if k.1 = s0 ∧ o ≤ k.2 ∧ k.2 ≤ o + L.length then some (k.2 - o) else none
  have hat : ∀ j, j < L.length → (s0, j + o + 1) ∈ famK s0 o L.length := fun j hj => List.mem_cons_of_mem _ (List.mem_map.2 ⟨j, by simpa [-Bool.exists_bool, -Int.not_le, -Int.not_lt, -getElem?_pos, -List.getD_eq_getElem?_getD] using hj, rfl⟩)
  have hfam : ∀ k ∈ famK s0 o L.length, k.1 = s0 ∧ ∃ j, j ≤ L.length ∧ k = (s0, j + o) ∧ (H k).isSome = true := fun k hk => by
    rcases List.mem_cons.1 hk with rfl | hk
    · exact ⟨rfl, 0, Nat.zero_le _, by simp [-Bool.exists_bool, -Int.not_le, -Int.not_lt, -getElem?_pos, -List.getD_eq_getElem?_getD], by rw [h0]; rfl⟩
    · obtain ⟨j, hj, rfl⟩ := List.mem_map.1 hk
      have hj' : j < L.length := by simpa [-Bool.exists_bool, -Int.not_le, -Int.not_lt, -getElem?_pos, -List.getD_eq_getElem?_getD] using hj
      exact ⟨rfl, j + 1, hj', by show (s0, j + o + 1) = (s0, j + 1 + o); rw [show j + o + 1 = j + 1 + o by omega], by rw [hF j (by simpa [-Bool.exists_bool, -Int.not_le, -Int.not_lt, -getElem?_pos, -List.getD_eq_getElem?_getD] using hj)]; rfl⟩
  have hgk : ∀ k, mKey L.length k → (H (g (k.2 - 1))).isSome = true ∧ g (k.2 - 1) ∈ famK s0 o L.length := fun k hk => by
    obtain ⟨h1, h2, h3⟩ := hk
    by_cases h4 : k.2 = 1
    · have : g (k.2 - 1) = (s0, o) := by show (s0, k.2 - 1 + o) = _; rw [h4]; simp [-Bool.exists_bool, -Int.not_le, -Int.not_lt, -getElem?_pos, -List.getD_eq_getElem?_getD]
      rw [this]
      exact ⟨by rw [h0]; rfl, List.mem_cons_self⟩
    · have : g (k.2 - 1) = (s0, (k.2 - 2) + o + 1) := by show (s0, k.2 - 1 + o) = _; rw [show k.2 - 1 + o = k.2 - 2 + o + 1 by omega]
      rw [this]
      exact ⟨by rw [hF (k.2 - 2) (by omega)]; rfl, hat _ (by omega)⟩
  have hup : upMut g gi s (mFam L') = upMark s0 o L' := by
    funext k
    unfold upMut upMark
    by_cases h1 : k.1 = s
    · rw [if_pos h1, if_neg (fun h2 => hs (h2.symm.trans h1))]
      have : mFam L' (1, k.2) = none := by simp [-Bool.exists_bool, -Int.not_le, -Int.not_lt, -getElem?_pos, -List.getD_eq_getElem?_getD, mFam]
      rw [this]
    · rw [if_neg h1]
      by_cases h2 : k.1 = s0
      · rw [if_pos h2]
        by_cases h3 : o ≤ k.2 ∧ k.2 ≤ o + L.length
        · have e : gi k = some (k.2 - o) := by show (if k.1 = s0 ∧ o ≤ k.2 ∧ k.2 ≤ o + L.length then some (k.2 - o) else none) = _; rw [if_pos ⟨h2, h3⟩]
          rw [e]
          simp only []
          by_cases h4 : k.2 = o
          · rw [if_pos h4, show k.2 - o + 1 = 1 by omega, mFam_1]
            simp only [Option.map_some, mapE, rA_mapL]
            have : (fun i => gk g s (0, i + 2)) = fun j => (s0, j + o + 1) := by
              funext i
              show (s0, i + 2 - 1 + o) = _
              rw [show i + 2 - 1 + o = i + o + 1 by omega]
            rw [this]
          · rw [if_neg h4, if_pos ⟨by omega, by omega⟩, show k.2 - o + 1 = (k.2 - o - 1) + 2 by omega, mFam_j, ownA_lt (by omega)]
            simp [-Bool.exists_bool, -Int.not_le, -Int.not_lt, -getElem?_pos, -List.getD_eq_getElem?_getD, mapE, rowA]
        · have e : gi k = none := by show (if k.1 = s0 ∧ o ≤ k.2 ∧ k.2 ≤ o + L.length then some (k.2 - o) else none) = _; rw [if_neg (fun h => h3 h.2)]
          rw [e, if_neg (by omega), if_neg (by omega)]
      · have e : gi k = none := by show (if k.1 = s0 ∧ o ≤ k.2 ∧ k.2 ≤ o + L.length then some (k.2 - o) else none) = _; rw [if_neg (fun h => h2 h.1)]
        rw [e, if_neg h2]
  rw [← hup] at hk
  refine CallJ.mut g gi (famK s0 o L.length) [] h hv hvk (fun k hk => ⟨hk.1, hk.2.1, (hgk k hk).1, by rw [List.append_nil]; exact (hgk k hk).2⟩) ?_ ?_ ?_ ?_ ?_ (by simpa [-Bool.exists_bool, -Int.not_le, -Int.not_lt, -getElem?_pos, -List.getD_eq_getElem?_getD] using hk)
  · intro k e hk
    rcases mFam_some hk with ⟨rfl, rfl⟩ | ⟨j, hj, rfl, rfl⟩
    · refine ⟨⟨rfl, by simp [-Bool.exists_bool, -Int.not_le, -Int.not_lt, -getElem?_pos, -List.getD_eq_getElem?_getD], by simp [-Bool.exists_bool, -Int.not_le, -Int.not_lt, -getElem?_pos, -List.getD_eq_getElem?_getD]⟩, ?_, ?_, ?_⟩
      · show H (s0, 0 + o) = _
        rw [Nat.zero_add, h0]
        simp only [mapE, rA_mapL]
        have : (fun i => gk g s (0, i + 2)) = fun j => (s0, j + o + 1) := by
          funext i
          show (s0, i + 2 - 1 + o) = _
          rw [show i + 2 - 1 + o = i + o + 1 by omega]
        rw [this]
      · simp only [allKE]
        exact rA_allKs _ _ 0 fun i hi => ⟨rfl, by simp [-Bool.exists_bool, -Int.not_le, -Int.not_lt, -getElem?_pos, -List.getD_eq_getElem?_getD], by simp [-Bool.exists_bool, -Int.not_le, -Int.not_lt, -getElem?_pos, -List.getD_eq_getElem?_getD]; omega⟩
      · show (if s0 = s0 ∧ o ≤ 0 + o ∧ 0 + o ≤ o + L.length then some (0 + o - o) else none) = some 0
        rw [if_pos ⟨rfl, by omega, by omega⟩]; simp [-Bool.exists_bool, -Int.not_le, -Int.not_lt, -getElem?_pos, -List.getD_eq_getElem?_getD]
    · refine ⟨⟨rfl, by simp [-Bool.exists_bool, -Int.not_le, -Int.not_lt, -getElem?_pos, -List.getD_eq_getElem?_getD], by simp [-Bool.exists_bool, -Int.not_le, -Int.not_lt, -getElem?_pos, -List.getD_eq_getElem?_getD]; omega⟩, ?_, by simp [-Bool.exists_bool, -Int.not_le, -Int.not_lt, -getElem?_pos, -List.getD_eq_getElem?_getD, rowA, allKE], ?_⟩
      · show H (s0, j + 1 + o) = _
        rw [show j + 1 + o = j + o + 1 by omega, hF j hj]
        simp [-Bool.exists_bool, -Int.not_le, -Int.not_lt, -getElem?_pos, -List.getD_eq_getElem?_getD, mapE, rowA]
      · show (if s0 = s0 ∧ o ≤ j + 1 + o ∧ j + 1 + o ≤ o + L.length then some (j + 1 + o - o) else none) = some (j + 1)
        rw [if_pos ⟨rfl, by omega, by omega⟩]; simp [-Bool.exists_bool, -Int.not_le, -Int.not_lt, -getElem?_pos, -List.getD_eq_getElem?_getD]
  · intro k j hgj
    have hgj : (if k.1 = s0 ∧ o ≤ k.2 ∧ k.2 ≤ o + L.length then some (k.2 - o) else none) = some j := hgj
    split at hgj
    · rename_i hc
      obtain rfl := Option.some.inj hgj
      refine ⟨?_, ?_, ?_⟩
      · show (s0, k.2 - o + o) = k
        rw [Nat.sub_add_cancel hc.2.1, ← hc.1]
      · by_cases h4 : k.2 = o
        · rw [show k.2 - o + 1 = 1 by omega, mFam_1]; rfl
        · rw [show k.2 - o + 1 = (k.2 - o - 1) + 2 by omega, mFam_j, ownA_lt (by omega)]; rfl
      · have e : k = (s0, k.2) := by rw [← hc.1]
        rw [e]
        by_cases h4 : k.2 = o
        · rw [h4]; exact List.mem_cons_self
        · have := hat (k.2 - o - 1) (by omega)
          rwa [show k.2 - o - 1 + o + 1 = k.2 by omega] at this
    · exact absurd hgj (by simp [-Bool.exists_bool, -Int.not_le, -Int.not_lt, -getElem?_pos, -List.getD_eq_getElem?_getD])
  · intro k hk
    obtain ⟨h1, j, hj, rfl, _⟩ := hfam k hk
    show (if s0 = s0 ∧ o ≤ j + o ∧ j + o ≤ o + L.length then some (j + o - o) else none).isSome = true
    rw [if_pos ⟨rfl, by omega, by omega⟩]; rfl
  · intro k e hk
    rcases mFam_some hk with ⟨rfl, rfl⟩ | ⟨j, hj, rfl, rfl⟩
    · exact ⟨by show 0 < 2; omega, fun _ => by rw [mFam_1]; rfl⟩
    · exact ⟨by show 0 < 2; omega, fun _ => by rw [mFam_j, ownA_lt (by omega)]; rfl⟩
  · intro k hk
    rw [List.append_nil] at hk
    obtain ⟨h1, j, hj, rfl, h2⟩ := hfam k hk
    exact ⟨h2, .inl hn⟩
theorem RLm.mfam {P : Program} {H : Store} {n : Nat} {x : Int} (L : List At) (hl : L.length = n) (h1 : H (0, 1) = some (.row 52 L.length (rA (fun j => (0, j + 2)) 0 L))) (hF : ∀ j, j < L.length → H (0, j + 2) = some (rowA (nth L j))) : RLm P (mKey n) H (I x) (I x) (mFam L) := by
  subst hl
  refine RLm.mk (fun k => k) (fun _ _ => rfl) (by simp [-Bool.exists_bool, -Int.not_le, -Int.not_lt, -getElem?_pos, -List.getD_eq_getElem?_getD]) (by simp [-Bool.exists_bool, -Int.not_le, -Int.not_lt, -getElem?_pos, -List.getD_eq_getElem?_getD, allK]) (fun k e' hk => ?_) (fun _ _ _ _ _ _ h => h)
  rcases mFam_some hk with ⟨rfl, rfl⟩ | ⟨j, hj, rfl, rfl⟩
  · refine ⟨by show 0 < 2; omega, fun _ => ⟨rfl, by simp [-Bool.exists_bool, -Int.not_le, -Int.not_lt, -getElem?_pos, -List.getD_eq_getElem?_getD], by simp [-Bool.exists_bool, -Int.not_le, -Int.not_lt, -getElem?_pos, -List.getD_eq_getElem?_getD]⟩, ?_, _, h1, ?_⟩
    · simp only [allKE]
      exact rA_allKs _ _ 0 fun i hi _ => ⟨rfl, by simp [-Bool.exists_bool, -Int.not_le, -Int.not_lt, -getElem?_pos, -List.getD_eq_getElem?_getD], by simp [-Bool.exists_bool, -Int.not_le, -Int.not_lt, -getElem?_pos, -List.getD_eq_getElem?_getD]; omega⟩
    · simp only [ELe, true_and]
      exact rA_VLes _ 0 fun i hi => ⟨rfl, by show 0 < 2; omega⟩
  · refine ⟨by show 0 < 2; omega, fun _ => ⟨rfl, by simp [-Bool.exists_bool, -Int.not_le, -Int.not_lt, -getElem?_pos, -List.getD_eq_getElem?_getD], by simp [-Bool.exists_bool, -Int.not_le, -Int.not_lt, -getElem?_pos, -List.getD_eq_getElem?_getD]; omega⟩, by simp [-Bool.exists_bool, -Int.not_le, -Int.not_lt, -getElem?_pos, -List.getD_eq_getElem?_getD, rowA, allKE], _, hF j hj, ?_⟩
    simp only [rowA, ELe, true_and]
    exact (dl_VLes ..).2 rfl
theorem markCell (d : Int) (L : List At) (m : Int) (hm : 0 ≤ m ∧ nxtS L m ≤ 100000000000) (h20 : L.length ≤ 1048576) (ha : ∀ a ∈ L, a.1.length ≤ 1048576) : Cm Try.prog 19 (mKey L.length) [.agg [I d, .ref (0, 1) L.length], I m] (mFam L) (I (nxtS L m)) (mFam (markS L m)) := by
  refine Cm.of [] mixed Try.func19 rfl Try.call19 (by kernel_rfl) rfl ?_
  simp -implicitDefEqProofs -dsimp +contextual [-Bool.exists_bool, -Int.not_le, -Int.not_lt, -getElem?_pos, -List.getD_eq_getElem?_getD, Try.f19]
  refine callMark 0 1 L (markS L m) (markS_len L m) (markAtomS L m hm h20 ha) ?_ ?_ ?_ ?_ ?_ ?_ ?_
  · simp [-Bool.exists_bool, -Int.not_le, -Int.not_lt, -getElem?_pos, -List.getD_eq_getElem?_getD, gk]
  · simp [-Bool.exists_bool, -Int.not_le, -Int.not_lt, -getElem?_pos, -List.getD_eq_getElem?_getD, allKs, allK, mKey]
  · simp [-Bool.exists_bool, -Int.not_le, -Int.not_lt, -getElem?_pos, -List.getD_eq_getElem?_getD, setH, mFam_1]
  · intro j hj; simp [-Bool.exists_bool, -Int.not_le, -Int.not_lt, -getElem?_pos, -List.getD_eq_getElem?_getD, setH, mFam_j, ownA_lt hj]
  · simp [-Bool.exists_bool, -Int.not_le, -Int.not_lt, -getElem?_pos, -List.getD_eq_getElem?_getD]
  · simp [-Bool.exists_bool, -Int.not_le, -Int.not_lt, -getElem?_pos, -List.getD_eq_getElem?_getD]
  simp -implicitDefEqProofs -dsimp +contextual [-Bool.exists_bool, -Int.not_le, -Int.not_lt, -getElem?_pos, -List.getD_eq_getElem?_getD]
  refine RLm.mfam _ (markS_len L m) (upMark_0 0 1 _) fun j hj => upMark_j 0 1 _ j hj
end Go.Proofs.Ytkicjflhokckgaa.ZL
namespace Go.Proofs.Ytkicjflhokckgaa.ZL
open Go Go.Proofs.Ytkicjflhokckgaa.Abs Go.Proofs.Ytkicjflhokckgaa.Abs.Pl Go.RowKit Go.Proofs
set_option linter.unusedVariables false
set_option linter.unusedSimpArgs false
theorem heldIntS (n : Nat) (m : Int) (hm : 0 ≤ m ∧ m ≤ 1000000000000) (h20 : n ≤ 1048576) : Cn Try.prog 100 [Is (markI n m), I m] (I (m + n)) hemp := by
  refine Cn.of [] mixed Try.func100 rfl Try.call100 (by kernel_rfl) rfl ?_
  simp -implicitDefEqProofs -dsimp +contextual [-Bool.exists_bool, -Int.not_le, -Int.not_lt, -getElem?_pos, -List.getD_eq_getElem?_getD, Try.f100]
  refine WP.loop mixed [] (fun i : Nat => ⟨tl [(0, Is (markI n m)), (1, I (m + i)), (5, I i)], hl [], 1⟩) (fun i => i ≤ n) (fun i => n - i) 0 (by kernel_rfl) ?_ ?_ ?_
  · refine Le.told [] ?_ ?_ ?_ <;> simp [-Bool.exists_bool, -Int.not_le, -Int.not_lt, -getElem?_pos, -List.getD_eq_getElem?_getD]
  · simp [-Bool.exists_bool, -Int.not_le, -Int.not_lt, -getElem?_pos, -List.getD_eq_getElem?_getD]
  · intro i hi
    have hl := markI_len n m
    by_cases h : i < n
    · have hg : (markI n m)[i]? = some (m + i) := by rw [markI, List.getElem?_map, List.getElem?_range h]; rfl
      simp -implicitDefEqProofs -dsimp +contextual [-Bool.exists_bool, -Int.not_le, -Int.not_lt, -getElem?_pos, -List.getD_eq_getElem?_getD, h, hl, hg]
      refine ⟨i + 1, h, by omega, ?_⟩
      rw [wr (by omega) (by omega), wr (by omega) (by omega)]
      refine Le.told [] ?_ ?_ ?_ <;> simp [-Bool.exists_bool, -Int.not_le, -Int.not_lt, -getElem?_pos, -List.getD_eq_getElem?_getD]
      omega
    · simp -implicitDefEqProofs -dsimp +contextual [-Bool.exists_bool, -Int.not_le, -Int.not_lt, -getElem?_pos, -List.getD_eq_getElem?_getD, h, hl]
      obtain rfl : i = n := by omega
      exact RLe.pure 1 (by simp [-Bool.exists_bool, -Int.not_le, -Int.not_lt, -getElem?_pos, -List.getD_eq_getElem?_getD])
theorem markS_nth : ∀ (L : List At) (m : Int) (i : Nat), i < L.length → nth (markS L m) i = markA (nth L i) (nxtS (L.take i) m)
  | [], _, i, h => absurd h (by simp [-Bool.exists_bool, -Int.not_le, -Int.not_lt, -getElem?_pos, -List.getD_eq_getElem?_getD])
  | a :: L, m, 0, _ => rfl
  | a :: L, m, i + 1, h => by
    have := markS_nth L (m + a.1.length + 2) i (by simpa [-Bool.exists_bool, -Int.not_le, -Int.not_lt, -getElem?_pos, -List.getD_eq_getElem?_getD] using h)
    exact this
theorem heldAtomS (L : List At) (m : Int) (hm : 0 ≤ m ∧ nxtS L m ≤ 100000000000) (h20 : L.length ≤ 1048576) (ha : ∀ a ∈ L, a.1.length ≤ 1048576) : Cn Try.prog 57 [As (markS L m), I m] (I (nxtS L m)) hemp := by
  refine Cn.of [] mixed Try.func57 rfl Try.call57 (by kernel_rfl) rfl ?_
  simp -implicitDefEqProofs -dsimp +contextual [-Bool.exists_bool, -Int.not_le, -Int.not_lt, -getElem?_pos, -List.getD_eq_getElem?_getD, Try.f57]
  refine WP.loop mixed [] (fun i : Nat => ⟨tl [(0, As (markS L m)), (1, I (nxtS (L.take i) m)), (5, I i)], hl [], 1⟩) (fun i => i ≤ L.length) (fun i => L.length - i) 0 (by kernel_rfl) ?_ ?_ ?_
  · refine Le.told [] ?_ ?_ ?_ <;> simp [-Bool.exists_bool, -Int.not_le, -Int.not_lt, -getElem?_pos, -List.getD_eq_getElem?_getD, nxtS]
  · simp [-Bool.exists_bool, -Int.not_le, -Int.not_lt, -getElem?_pos, -List.getD_eq_getElem?_getD]
  · intro i hi
    have hll := markS_len L m
    by_cases h : i < L.length
    · have hM : i < (markS L m).length := by omega
      have hn := markS_nth L m i h
      have hm0 := nxtS_le (L.take i) m
      have hm1 := nxtS_take L m (i + 1)
      rw [nth_take h, nxtS_app] at hm1
      simp only [nxtS] at hm1
      simp -implicitDefEqProofs -dsimp +contextual [-Bool.exists_bool, -Int.not_le, -Int.not_lt, -getElem?_pos, -List.getD_eq_getElem?_getD, h, hll, hM, hn]
      have hwf : (markA (nth L i) (nxtS (L.take i) m)).1 = markI (nth L i).1.length (nxtS (L.take i) m) := rfl
      have hw2 : (markA (nth L i) (nxtS (L.take i) m)).2.1 = nxtS (L.take i) m + (nth L i).1.length := rfl
      have hw3 : (markA (nth L i) (nxtS (L.take i) m)).2.2 = decide ((nxtS (L.take i) m + (nth L i).1.length + 1).tmod 3 = 0) := rfl
      rw [hwf]
      refine CallJ.pure (heldIntS _ _ (by omega) (ha _ (nth_mem h))) rfl (by simp [-Bool.exists_bool, -Int.not_le, -Int.not_lt, -getElem?_pos, -List.getD_eq_getElem?_getD]) ?_
      have w1 : IntKind.wrap .i64 (nxtS (L.take i) m + (nth L i).1.length + 1) = nxtS (L.take i) m + (nth L i).1.length + 1 := wr (by omega) (by omega)
      have h0 : ¬ nxtS (L.take i) m + (nth L i).1.length < 0 := by omega
      simp -implicitDefEqProofs -dsimp +contextual [-Bool.exists_bool, -Int.not_le, -Int.not_lt, -getElem?_pos, -List.getD_eq_getElem?_getD, h, hll, hM, hn, hw2, hw3, w1, h0]
      refine ⟨i + 1, h, by omega, ?_⟩
      rw [wr (by omega) (by omega), wr (by omega) (by omega)]
      refine Le.told [] ?_ ?_ ?_ <;> simp [-Bool.exists_bool, -Int.not_le, -Int.not_lt, -getElem?_pos, -List.getD_eq_getElem?_getD, nth_take h, nxtS_app, nxtS]
      omega
    · simp -implicitDefEqProofs -dsimp +contextual [-Bool.exists_bool, -Int.not_le, -Int.not_lt, -getElem?_pos, -List.getD_eq_getElem?_getD, h, hll]
      obtain rfl : i = L.length := by omega
      exact RLe.pure 1 (by simp [-Bool.exists_bool, -Int.not_le, -Int.not_lt, -getElem?_pos, -List.getD_eq_getElem?_getD])
theorem heldCell (d : Int) (L : List At) (m : Int) (hm : 0 ≤ m ∧ nxtS L m ≤ 100000000000) (h20 : L.length ≤ 1048576) (ha : ∀ a ∈ L, a.1.length ≤ 1048576) : Cn Try.prog 20 [.agg [I d, As (markS L m)], I m] (I (nxtS L m)) hemp := by
  refine Cn.of [] mixed Try.func20 rfl Try.call20 (by kernel_rfl) rfl ?_
  simp -implicitDefEqProofs -dsimp +contextual [-Bool.exists_bool, -Int.not_le, -Int.not_lt, -getElem?_pos, -List.getD_eq_getElem?_getD, Try.f20]
  refine CallJ.pure (heldAtomS L m hm h20 ha) rfl (by simp [-Bool.exists_bool, -Int.not_le, -Int.not_lt, -getElem?_pos, -List.getD_eq_getElem?_getD]) ?_
  have h0 : ¬ nxtS L m < 0 := by have := nxtS_le L m; omega
  simp -implicitDefEqProofs -dsimp +contextual [-Bool.exists_bool, -Int.not_le, -Int.not_lt, -getElem?_pos, -List.getD_eq_getElem?_getD, h0]
  exact RLe.pure 1 (by simp [-Bool.exists_bool, -Int.not_le, -Int.not_lt, -getElem?_pos, -List.getD_eq_getElem?_getD])
end Go.Proofs.Ytkicjflhokckgaa.ZL
namespace Go.Proofs.Ytkicjflhokckgaa.ZL
open Go Go.Proofs.Ytkicjflhokckgaa.Abs Go.Proofs.Ytkicjflhokckgaa.Abs.Pl Go.RowKit Go.Proofs
set_option linter.unusedVariables false
set_option linter.unusedSimpArgs false
theorem DropVariable (d : Int) (v : Int) (L : List At) (h20 : L.length ≤ 1048576) : Cn Try.prog 28 [C1 d L, I v] (D2 (dropD d L v)) hemp := by
  refine Cn.of [] mixed Try.func28 rfl Try.call28 (by kernel_rfl) rfl ?_
  simp -implicitDefEqProofs -dsimp +contextual [-Bool.exists_bool, -Int.not_le, -Int.not_lt, -getElem?_pos, -List.getD_eq_getElem?_getD, Try.f28]
  refine CallJ.pure (IsCell d L h20) rfl (by simp [-Bool.exists_bool, -Int.not_le, -Int.not_lt, -getElem?_pos, -List.getD_eq_getElem?_getD]) ?_
  simp -implicitDefEqProofs -dsimp +contextual [-Bool.exists_bool, -Int.not_le, -Int.not_lt, -getElem?_pos, -List.getD_eq_getElem?_getD]
  have no : ∀ {H : Store}, ¬ (isCe d L = true ∧ 0 ≤ v ∧ v < d) → RLe Try.prog H (V.tup [V.agg [V.d (D.int IntKind.i64 0), V.nil], V.d (D.bool false)]) (D2 (dropD d L v)) hemp := fun h => by
    rw [dropD, if_neg h]
    exact RLe.pure 2 (by simp [-Bool.exists_bool, -Int.not_le, -Int.not_lt, -getElem?_pos, -List.getD_eq_getElem?_getD, asD])
  refine ⟨fun h1 => ?_, fun h1 => no (by simp [-Bool.exists_bool, -Int.not_le, -Int.not_lt, -getElem?_pos, -List.getD_eq_getElem?_getD, h1])⟩
  have hd := isCe_d h1
  have h16 := isCe_l h1
  rw [wr (by omega) (by omega)]
  refine CallJ.pure (l1In v 0 (d - 1)) rfl (by simp [-Bool.exists_bool, -Int.not_le, -Int.not_lt, -getElem?_pos, -List.getD_eq_getElem?_getD]) ?_
  simp -implicitDefEqProofs -dsimp +contextual [-Bool.exists_bool, -Int.not_le, -Int.not_lt, -getElem?_pos, -List.getD_eq_getElem?_getD, h1]
  refine ⟨fun h2 => ?_, fun h2 => no (by simp [-Bool.exists_bool, -Int.not_le, -Int.not_lt, -getElem?_pos, -List.getD_eq_getElem?_getD, inB] at h2; omega)⟩
  have hv : 0 ≤ v ∧ v < d := by simp [-Bool.exists_bool, -Int.not_le, -Int.not_lt, -getElem?_pos, -List.getD_eq_getElem?_getD, inB] at h2; omega
  have ev : ((v.toNat : Nat) : Int) = v := by omega
  have hdr := l3Drop d hd v.toNat L h16 (isCe_a h1) (by omega)
  rw [ev] at hdr
  refine CallJ.pure hdr rfl (by simp [-Bool.exists_bool, -Int.not_le, -Int.not_lt, -getElem?_pos, -List.getD_eq_getElem?_getD]) ?_
  simp -implicitDefEqProofs -dsimp +contextual [-Bool.exists_bool, -Int.not_le, -Int.not_lt, -getElem?_pos, -List.getD_eq_getElem?_getD, h1]
  rw [dropD, if_pos ⟨h1, hv⟩]
  exact RLe.pure 3 (by simp [-Bool.exists_bool, -Int.not_le, -Int.not_lt, -getElem?_pos, -List.getD_eq_getElem?_getD])
attribute [simp] upMark_ne upMark_0
structure Owns (H : Store) (s : Nat) (L : List At) : Prop where
  row : H (s, 0) = some (.row 52 L.length (rA (fun j => (s, j + 1)) 0 L))
  dir : ∀ j, j < L.length → H (s, j + 1) = some (rowA (nth L j))
section
variable {H : Store} {s : Nat} {L : List At}
theorem Owns.call (s : Nat) (L : List At) (H : Store) : Owns (app (upCall s (ownR L)) H) s L := ⟨upOwn_0 s L H, fun j hj => upOwn_j s L H j hj⟩
theorem Owns.mark (s : Nat) (L : List At) (H : Store) : Owns (app (upMark s 0 L) H) s L := ⟨upMark_0 s 0 L, fun j hj => upMark_j s 0 L j hj⟩
theorem Owns.set (h : Owns H s L) {k : Key} {e : Option Ent} (hk : k.1 ≠ s) : Owns (setH k e H) s L := by
  have : ∀ j, ¬ (s, j) = k := fun j hj => hk (by rw [← hj])
  exact ⟨by unfold setH; rw [if_neg (this 0)]; exact h.row, fun j hj => by unfold setH; rw [if_neg (this _)]; exact h.dir j hj⟩
theorem Owns.other (h : Owns H s L) {s' : Nat} {R : List At} (hk : s ≠ s') : Owns (app (upCall s' (ownR R)) H) s L := ⟨by rw [upOwn_ne _ _ _ _ _ hk]; exact h.row, fun j hj => by rw [upOwn_ne _ _ _ _ _ hk]; exact h.dir j hj⟩
theorem Owns.otherM (h : Owns H s L) {s' o : Nat} {R : List At} (hk : s ≠ s') : Owns (app (upMark s' o R) H) s L := ⟨by rw [upMark_ne _ _ _ _ _ hk]; exact h.row, fun j hj => by rw [upMark_ne _ _ _ _ _ hk]; exact h.dir j hj⟩
theorem Owns.lend (h : Owns H s L) (n : Nat) (d : Int) : lendV true H (n + 2) (.agg [I d, .ref (s, 0) L.length]) = some (C1 d L, famK s 0 L.length) := by
  have : lendD true H (n + 2) (.ref (s, 0) L.length) = some (.sl L.length (asD L), famK s 0 L.length) := by
    rw [lendD_ref, h.row]
    simp only [lendR, rA_lend (H := H) (n := n) (f := fun j => (s, j + 1)) L 0 (fun i hi => by rw [Nat.zero_add]; exact h.dir i hi), consK]
    simp [-Bool.exists_bool, -Int.not_le, -Int.not_lt, -getElem?_pos, -List.getD_eq_getElem?_getD, famK]
  simp only [lendV, List.map_cons, List.map_nil, joinO, this, lendD_d]
  simp [-Bool.exists_bool, -Int.not_le, -Int.not_lt, -getElem?_pos, -List.getD_eq_getElem?_getD]
theorem famK_lt {nx n : Nat} (hn : s < nx) : ∀ k ∈ famK s 0 n, k.1 < nx := fun k hk => by
  rcases List.mem_cons.1 hk with rfl | hk
  · exact hn
  · obtain ⟨j, _, rfl⟩ := List.mem_map.1 hk
    exact hn
theorem Owns.eqCell {N nx t : Nat} {K : Eff → Prop} (h : Owns H s L) (d : Int) (h20 : L.length ≤ 1048576) (ha : ∀ a ∈ L, a.1.length ≤ 1048576) (hn : s < nx) (hk : K ⟨B true, famK s 0 L.length, [], noUp⟩) : CallJ Try.prog N nx t H 18 [.agg [I d, .ref (s, 0) L.length], C1 d L] K := by
  refine CallJ.lent (ks := famK s 0 L.length) 2 (Go.Proofs.Ytkicjflhokckgaa.ZL.eqCell (d, L) h20 ha) ?_ (fun k hk => .inl (famK_lt hn k hk)) rfl (by simp [-Bool.exists_bool, -Int.not_le, -Int.not_lt, -getElem?_pos, -List.getD_eq_getElem?_getD]) ?_
  · simp only [lendVs, h.lend 0 d]
    simp [-Bool.exists_bool, -Int.not_le, -Int.not_lt, -getElem?_pos, -List.getD_eq_getElem?_getD, lendV]
  · rw [upCall_emp]; exact hk
theorem Owns.held {N nx t : Nat} {K : Eff → Prop} {M : List At} {m : Int} (h : Owns H s (markS M m)) (d : Int) (hm : 0 ≤ m ∧ nxtS M m ≤ 100000000000) (h20 : M.length ≤ 1048576) (ha : ∀ a ∈ M, a.1.length ≤ 1048576) (hn : s < nx) (hk : K ⟨I (nxtS M m), famK s 0 M.length, [], noUp⟩) :
    CallJ Try.prog N nx t H 20 [.agg [I d, .ref (s, 0) M.length], I m] K := by
  rw [← markS_len M m] at hk ⊢
  refine CallJ.lent (ks := famK s 0 (markS M m).length) 2 (heldCell d M m hm h20 ha) ?_ (fun k hk => .inl (famK_lt hn k hk)) rfl (by simp [-Bool.exists_bool, -Int.not_le, -Int.not_lt, -getElem?_pos, -List.getD_eq_getElem?_getD]) ?_
  · simp only [lendVs, h.lend 0 d]
    simp [-Bool.exists_bool, -Int.not_le, -Int.not_lt, -getElem?_pos, -List.getD_eq_getElem?_getD, lendV]
  · rw [upCall_emp]; exact hk
theorem Owns.marks {N nx t : Nat} {K : Eff → Prop} (h : Owns H s L) (d m : Int) (hm : 0 ≤ m ∧ nxtS L m ≤ 100000000000) (h20 : L.length ≤ 1048576) (ha : ∀ a ∈ L, a.1.length ≤ 1048576) (hn : s < nx) (hs : s ≠ t) (hk : K ⟨I (nxtS L m), famK s 0 L.length, famK s 0 L.length, upMark s 0 (markS L m)⟩) :
    CallJ Try.prog N nx t H 19 [.agg [I d, .ref (s, 0) L.length], I m] K :=
  callMark s 0 L (markS L m) (markS_len L m) (markCell d L m hm h20 ha) (by simp [-Bool.exists_bool, -Int.not_le, -Int.not_lt, -getElem?_pos, -List.getD_eq_getElem?_getD, gk]) (by simp [-Bool.exists_bool, -Int.not_le, -Int.not_lt, -getElem?_pos, -List.getD_eq_getElem?_getD, allKs, allK, mKey]) h.row h.dir hs hn hk
theorem noSh_ownR (R : List At) (k : Key) (e : Ent) (h : ownR R k = some e) : noShE e = true := by
  obtain ⟨a, b⟩ := k
  unfold ownR at h
  simp only at h
  split at h
  · cases b with
    | zero =>
      simp only [Option.some.injEq] at h
      subst h
      simp only [noShE]
      have : ∀ (L : List At) (j : Nat), noShL (rA (fun j => (0, j + 1)) j L) = true := by
        intro L
        induction L with
        | nil => intro j; rfl
        | cons a L ih => intro j; simp [-Bool.exists_bool, -Int.not_le, -Int.not_lt, -getElem?_pos, -List.getD_eq_getElem?_getD, rA, noShL, noSh, noShD, ih]
      exact this R 0
    | succ j =>
      obtain ⟨_, rfl⟩ := ownA_some h
      simp only [rowA, noShE, noShL_all]
      rw [List.all_eq_true]
      intro x hx
      obtain ⟨d, hd, rfl⟩ := List.mem_map.1 hx
      obtain ⟨n, _, rfl⟩ := List.mem_map.1 hd
      rfl
  · exact absurd h (by simp [-Bool.exists_bool, -Int.not_le, -Int.not_lt, -getElem?_pos, -List.getD_eq_getElem?_getD])
end
theorem heldCell0 (d m : Int) (hm : 0 ≤ m ∧ m ≤ 100000000000 := by omega) : Cn Try.prog 20 [C1 d [], I m] (I m) hemp := heldCell d [] m ⟨hm.1, hm.2⟩ (by simp [-Bool.exists_bool, -Int.not_le, -Int.not_lt, -getElem?_pos, -List.getD_eq_getElem?_getD]) (by simp [-Bool.exists_bool, -Int.not_le, -Int.not_lt, -getElem?_pos, -List.getD_eq_getElem?_getD])
theorem markAtom0 (m : Int) : Cn Try.prog 56 [As [], I m] (I m) hemp := by
  refine Cn.of [] mixed Try.func56 rfl Try.call56 (by kernel_rfl) rfl ?_
  simp -implicitDefEqProofs -dsimp +contextual [-Bool.exists_bool, -Int.not_le, -Int.not_lt, -getElem?_pos, -List.getD_eq_getElem?_getD, Try.f56]
  refine WP.loop mixed [] (fun i : Nat => ⟨tl [(0, As []), (1, I m), (5, I 0)], hl [], 1⟩) (fun i => i ≤ 0) (fun i => 0 - i) 0 (by kernel_rfl) ?_ ?_ ?_
  · refine Le.told [] ?_ ?_ ?_ <;> simp [-Bool.exists_bool, -Int.not_le, -Int.not_lt, -getElem?_pos, -List.getD_eq_getElem?_getD]
  · simp [-Bool.exists_bool, -Int.not_le, -Int.not_lt, -getElem?_pos, -List.getD_eq_getElem?_getD]
  · intro i hi
    simp -implicitDefEqProofs -dsimp +contextual [-Bool.exists_bool, -Int.not_le, -Int.not_lt, -getElem?_pos, -List.getD_eq_getElem?_getD, asD]
    exact RLe.pure 1 (by simp [-Bool.exists_bool, -Int.not_le, -Int.not_lt, -getElem?_pos, -List.getD_eq_getElem?_getD])
theorem markCell0 (d m : Int) : Cn Try.prog 19 [C1 d [], I m] (I m) hemp := by
  refine Cn.of [] mixed Try.func19 rfl Try.call19 (by kernel_rfl) rfl ?_
  simp -implicitDefEqProofs -dsimp +contextual [-Bool.exists_bool, -Int.not_le, -Int.not_lt, -getElem?_pos, -List.getD_eq_getElem?_getD, Try.f19]
  refine CallJ.pure (markAtom0 m) rfl (by simp [-Bool.exists_bool, -Int.not_le, -Int.not_lt, -getElem?_pos, -List.getD_eq_getElem?_getD]) ?_
  simp -implicitDefEqProofs -dsimp +contextual [-Bool.exists_bool, -Int.not_le, -Int.not_lt, -getElem?_pos, -List.getD_eq_getElem?_getD]
  exact RLe.pure 1 (by simp [-Bool.exists_bool, -Int.not_le, -Int.not_lt, -getElem?_pos, -List.getD_eq_getElem?_getD])
structure Small (L : List At) : Prop where
  len : L.length ≤ 1048576
  dir : ∀ a ∈ L, a.1.length ≤ 1048576
  nxt : nxtS L 1 ≤ 100000000000
theorem nxtS_w : ∀ (L : List At) (m : Int), nxtS L m ≤ m + 2 * wAs L
  | [], m => by simp [-Bool.exists_bool, -Int.not_le, -Int.not_lt, -getElem?_pos, -List.getD_eq_getElem?_getD, nxtS, wAs, wS]
  | a :: L, m => by
    have := nxtS_w L (m + a.1.length + 2)
    simp only [nxtS, wAs, wS, wA, List.length_cons] at this ⊢
    omega
theorem nxtS_bd (B : Nat) : ∀ (L : List At) (m : Int), (∀ a ∈ L, a.1.length ≤ B) → nxtS L m ≤ m + L.length * (B + 2)
  | [], m, _ => by simp [-Bool.exists_bool, -Int.not_le, -Int.not_lt, -getElem?_pos, -List.getD_eq_getElem?_getD, nxtS]
  | a :: L, m, h => by
    have ih := nxtS_bd B L (m + a.1.length + 2) fun x hx => h x (List.mem_cons_of_mem _ hx)
    have h0 := h a List.mem_cons_self
    have e : ((a :: L).length : Int) * (B + 2) = L.length * (B + 2) + (B + 2) := by
      rw [List.length_cons, Int.natCast_add, Int.add_mul]; simp [-Bool.exists_bool, -Int.not_le, -Int.not_lt, -getElem?_pos, -List.getD_eq_getElem?_getD]
    simp only [nxtS]
    rw [e]
    omega
theorem Small.input {L : List At} (h : wAs L ≤ 1048576) : Small L := ⟨(wAs_small h).1, (wAs_small h).2, by have := nxtS_w L 1; omega⟩
theorem Small.ok {d : Int} {L : List At} (h16 : L.length ≤ 16) (h : allOk d L) : Small L := ⟨by omega, fun a ha => okA_small (h a ha), by
  have h4 : ∀ a ∈ L, a.1.length ≤ 4 := fun a ha => (okA_num (h a ha)).2.2
  have := nxtS_bd 4 L 1 h4
  have h5 : (L.length : Int) * (4 + 2) ≤ 96 := by omega
  simp [-Bool.exists_bool, -Int.not_le, -Int.not_lt, -getElem?_pos, -List.getD_eq_getElem?_getD] at this
  omega⟩
theorem Small.nil : Small [] := ⟨by simp [-Bool.exists_bool, -Int.not_le, -Int.not_lt, -getElem?_pos, -List.getD_eq_getElem?_getD], by simp [-Bool.exists_bool, -Int.not_le, -Int.not_lt, -getElem?_pos, -List.getD_eq_getElem?_getD], by simp [-Bool.exists_bool, -Int.not_le, -Int.not_lt, -getElem?_pos, -List.getD_eq_getElem?_getD, nxtS]⟩
theorem dropD_small (d v : Int) (L : List At) : Small (dropD d L v).2.1 := by
  unfold dropD
  split
  · rename_i h
    by_cases hr : (dropC d v.toNat L).2.2 = true
    · have hd := isCe_d h.1
      have := dropC_ok hd v.toNat (isCe_l h.1) (isCe_a h.1) hr
      exact Small.ok this.2.1 this.2.2
    · rw [dropC_f hr]; exact Small.nil
  · exact Small.nil
theorem lawDropVariable (c : Ce) (v : Int) (hc : wfC c) (_ : (Lit.int .i64 v).wf = true) : Cn Try.prog 7 [.agg (cV c), I v] (B true) hemp := by
  refine Cn.of [] mixed Try.func7 rfl Try.call7 (by kernel_rfl) rfl ?_
  simp -implicitDefEqProofs -dsimp +contextual [-Bool.exists_bool, -Int.not_le, -Int.not_lt, -getElem?_pos, -List.getD_eq_getElem?_getD, Try.f7]
  refine CallJ.pure (szCell c 1048576 ok20 hc) rfl (by simp [-Bool.exists_bool, -Int.not_le, -Int.not_lt, -getElem?_pos, -List.getD_eq_getElem?_getD]) ?_
  simp -implicitDefEqProofs -dsimp +contextual [-Bool.exists_bool, -Int.not_le, -Int.not_lt, -getElem?_pos, -List.getD_eq_getElem?_getD]
  refine ⟨fun _ => RLe.bb rfl, fun h => ?_⟩
  obtain ⟨w1, hk⟩ := lft_2 ok20 h
  obtain ⟨hc1, hc2⟩ := wAs_small w1
  refine CallJ.pure (toCellW c hc1 hc2) rfl (by simp [-Bool.exists_bool, -Int.not_le, -Int.not_lt, -getElem?_pos, -List.getD_eq_getElem?_getD]) ?_
  simp -implicitDefEqProofs -dsimp +contextual [-Bool.exists_bool, -Int.not_le, -Int.not_lt, -getElem?_pos, -List.getD_eq_getElem?_getD, h]
  refine CallJ.pure (DropVariable c.1 v c.2 hc1) rfl (by simp [-Bool.exists_bool, -Int.not_le, -Int.not_lt, -getElem?_pos, -List.getD_eq_getElem?_getD]) ?_
  simp -implicitDefEqProofs -dsimp +contextual [-Bool.exists_bool, -Int.not_le, -Int.not_lt, -getElem?_pos, -List.getD_eq_getElem?_getD, h]
  refine CallJ.pure (toCell c hc1 hc2) rfl (by simp [-Bool.exists_bool, -Int.not_le, -Int.not_lt, -getElem?_pos, -List.getD_eq_getElem?_getD]) ?_
  simp -implicitDefEqProofs -dsimp +contextual [-Bool.exists_bool, -Int.not_le, -Int.not_lt, -getElem?_pos, -List.getD_eq_getElem?_getD, h]
  have hL := iDropVariable c.1 v c.2 hc1
  have hO : Owns _ 20 c.2 := ((Owns.call 20 c.2 (setH (16, 0) (some (Ent.box [V.d (D.int IntKind.i64 (dropD c.1 c.2 v).1), V.d (D.sl (dropD c.1 c.2 v).2.1.length (asD (dropD c.1 c.2 v).2.1))])) (setH (16, 0) (some (Ent.box [V.d (D.int IntKind.i64 0), V.nil]))
              (setH (0, 0) (some (Ent.box (cV c))) hemp)))).set (k := (21, 0)) (e := some (Ent.box [V.d (D.int IntKind.i64 0), V.nil])) (by simp [-Bool.exists_bool, -Int.not_le, -Int.not_lt, -getElem?_pos, -List.getD_eq_getElem?_getD])).set (k := (21, 0)) (e := some (Ent.box [V.d (D.int IntKind.i64 c.1), V.ref (20, 0) c.2.length])) (by simp [-Bool.exists_bool, -Int.not_le, -Int.not_lt, -getElem?_pos, -List.getD_eq_getElem?_getD])
  have hI := Small.input w1
  have hR := dropD_small c.1 v c.2
  have hW := iDropW c.1 v c.2 hc1
  have hr0 := dropD_f (d := c.1) (L := c.2) (v := v)
  generalize dropD c.1 c.2 v = r at *
  have p1 := nxtS_le r.2.1 1
  have p2 := nxtS_le c.2 1
  have q1 : ¬ nxtS r.2.1 1 < 0 := by omega
  have q2 : ¬ nxtS c.2 1 < 0 := by omega
  by_cases hr : r.2.2 = true
  · rw [oV_t hr, oH_t hr] at hL
    refine CallJ.lent (ks := famK 20 0 c.2.length) 2 hL (by simp only [lendVs, hO.lend 0 c.1]; simp [-Bool.exists_bool, -Int.not_le, -Int.not_lt, -getElem?_pos, -List.getD_eq_getElem?_getD, lendV]) (fun k hk => .inl (famK_lt (by omega) k hk)) (by simp [-Bool.exists_bool, -Int.not_le, -Int.not_lt, -getElem?_pos, -List.getD_eq_getElem?_getD, noSh, noShL, noShD]) (fun k e h => noSh_ownR _ k e h) ?_
    simp -implicitDefEqProofs -dsimp +contextual [-Bool.exists_bool, -Int.not_le, -Int.not_lt, -getElem?_pos, -List.getD_eq_getElem?_getD, h, hr]
    refine Owns.eqCell (s := 25) (L := r.2.1) ?_ r.1 hR.len hR.dir ?_ ?_
    · repeat first | exact Owns.mark _ _ _ | exact Owns.call _ _ _ | refine Owns.set ?_ (by simp [-Bool.exists_bool, -Int.not_le, -Int.not_lt, -getElem?_pos, -List.getD_eq_getElem?_getD]) | refine Owns.other ?_ (by simp [-Bool.exists_bool, -Int.not_le, -Int.not_lt, -getElem?_pos, -List.getD_eq_getElem?_getD]) | refine Owns.otherM ?_ (by simp [-Bool.exists_bool, -Int.not_le, -Int.not_lt, -getElem?_pos, -List.getD_eq_getElem?_getD])
    · omega
    simp -implicitDefEqProofs -dsimp +contextual [-Bool.exists_bool, -Int.not_le, -Int.not_lt, -getElem?_pos, -List.getD_eq_getElem?_getD, h, hr]
    refine CallJ.pure (toCellW c hc1 hc2) rfl (by simp [-Bool.exists_bool, -Int.not_le, -Int.not_lt, -getElem?_pos, -List.getD_eq_getElem?_getD]) ?_
    simp -implicitDefEqProofs -dsimp +contextual [-Bool.exists_bool, -Int.not_le, -Int.not_lt, -getElem?_pos, -List.getD_eq_getElem?_getD, h, hr]
    refine Owns.eqCell (s := 20) (L := c.2) ?_ c.1 hc1 hc2 ?_ ?_
    · repeat first | exact Owns.mark _ _ _ | exact Owns.call _ _ _ | refine Owns.set ?_ (by simp [-Bool.exists_bool, -Int.not_le, -Int.not_lt, -getElem?_pos, -List.getD_eq_getElem?_getD]) | refine Owns.other ?_ (by simp [-Bool.exists_bool, -Int.not_le, -Int.not_lt, -getElem?_pos, -List.getD_eq_getElem?_getD]) | refine Owns.otherM ?_ (by simp [-Bool.exists_bool, -Int.not_le, -Int.not_lt, -getElem?_pos, -List.getD_eq_getElem?_getD])
    · omega
    simp -implicitDefEqProofs -dsimp +contextual [-Bool.exists_bool, -Int.not_le, -Int.not_lt, -getElem?_pos, -List.getD_eq_getElem?_getD, h, hr]
    refine Owns.marks (s := 20) (L := c.2) ?_ c.1 1 ⟨by omega, hI.nxt⟩ hc1 hc2 ?_ ?_ ?_
    · repeat first | exact Owns.mark _ _ _ | exact Owns.call _ _ _ | refine Owns.set ?_ (by simp [-Bool.exists_bool, -Int.not_le, -Int.not_lt, -getElem?_pos, -List.getD_eq_getElem?_getD]) | refine Owns.other ?_ (by simp [-Bool.exists_bool, -Int.not_le, -Int.not_lt, -getElem?_pos, -List.getD_eq_getElem?_getD]) | refine Owns.otherM ?_ (by simp [-Bool.exists_bool, -Int.not_le, -Int.not_lt, -getElem?_pos, -List.getD_eq_getElem?_getD])
    · omega
    · omega
    simp -implicitDefEqProofs -dsimp +contextual [-Bool.exists_bool, -Int.not_le, -Int.not_lt, -getElem?_pos, -List.getD_eq_getElem?_getD, h, hr, q2]
    refine Owns.eqCell (s := 25) (L := r.2.1) ?_ r.1 hR.len hR.dir ?_ ?_
    · repeat first | exact Owns.mark _ _ _ | exact Owns.call _ _ _ | refine Owns.set ?_ (by simp [-Bool.exists_bool, -Int.not_le, -Int.not_lt, -getElem?_pos, -List.getD_eq_getElem?_getD]) | refine Owns.other ?_ (by simp [-Bool.exists_bool, -Int.not_le, -Int.not_lt, -getElem?_pos, -List.getD_eq_getElem?_getD]) | refine Owns.otherM ?_ (by simp [-Bool.exists_bool, -Int.not_le, -Int.not_lt, -getElem?_pos, -List.getD_eq_getElem?_getD])
    · omega
    simp -implicitDefEqProofs -dsimp +contextual [-Bool.exists_bool, -Int.not_le, -Int.not_lt, -getElem?_pos, -List.getD_eq_getElem?_getD, h, hr, q2]
    refine Owns.marks (s := 25) (L := r.2.1) ?_ r.1 1 ⟨by omega, hR.nxt⟩ hR.len hR.dir ?_ ?_ ?_
    · repeat first | exact Owns.mark _ _ _ | exact Owns.call _ _ _ | refine Owns.set ?_ (by simp [-Bool.exists_bool, -Int.not_le, -Int.not_lt, -getElem?_pos, -List.getD_eq_getElem?_getD]) | refine Owns.other ?_ (by simp [-Bool.exists_bool, -Int.not_le, -Int.not_lt, -getElem?_pos, -List.getD_eq_getElem?_getD]) | refine Owns.otherM ?_ (by simp [-Bool.exists_bool, -Int.not_le, -Int.not_lt, -getElem?_pos, -List.getD_eq_getElem?_getD])
    · omega
    · omega
    simp -implicitDefEqProofs -dsimp +contextual [-Bool.exists_bool, -Int.not_le, -Int.not_lt, -getElem?_pos, -List.getD_eq_getElem?_getD, h, hr, q1, q2]
    refine Owns.held (s := 25) (M := r.2.1) ?_ r.1 ⟨by omega, hR.nxt⟩ hR.len hR.dir ?_ ?_
    · repeat first | exact Owns.mark _ _ _ | exact Owns.call _ _ _ | refine Owns.set ?_ (by simp [-Bool.exists_bool, -Int.not_le, -Int.not_lt, -getElem?_pos, -List.getD_eq_getElem?_getD]) | refine Owns.other ?_ (by simp [-Bool.exists_bool, -Int.not_le, -Int.not_lt, -getElem?_pos, -List.getD_eq_getElem?_getD]) | refine Owns.otherM ?_ (by simp [-Bool.exists_bool, -Int.not_le, -Int.not_lt, -getElem?_pos, -List.getD_eq_getElem?_getD])
    · omega
    simp -implicitDefEqProofs -dsimp +contextual [-Bool.exists_bool, -Int.not_le, -Int.not_lt, -getElem?_pos, -List.getD_eq_getElem?_getD, h, hr, q1, q2]
    refine CallJ.pure (toCellW c hc1 hc2) rfl (by simp [-Bool.exists_bool, -Int.not_le, -Int.not_lt, -getElem?_pos, -List.getD_eq_getElem?_getD]) ?_
    simp -implicitDefEqProofs -dsimp +contextual [-Bool.exists_bool, -Int.not_le, -Int.not_lt, -getElem?_pos, -List.getD_eq_getElem?_getD, h, hr, q1, q2]
    refine CallJ.pure hW rfl (by simp [-Bool.exists_bool, -Int.not_le, -Int.not_lt, -getElem?_pos, -List.getD_eq_getElem?_getD]) ?_
    simp -implicitDefEqProofs -dsimp +contextual [-Bool.exists_bool, -Int.not_le, -Int.not_lt, -getElem?_pos, -List.getD_eq_getElem?_getD, h, hr, q1, q2]
    refine CallJ.pure (eqCell (r.1, r.2.1) hR.len hR.dir) rfl (by simp [-Bool.exists_bool, -Int.not_le, -Int.not_lt, -getElem?_pos, -List.getD_eq_getElem?_getD]) ?_
    simp -implicitDefEqProofs -dsimp +contextual [-Bool.exists_bool, -Int.not_le, -Int.not_lt, -getElem?_pos, -List.getD_eq_getElem?_getD, h, hr, q1, q2]
    refine Owns.held (s := 25) (M := r.2.1) ?_ r.1 ⟨by omega, hR.nxt⟩ hR.len hR.dir ?_ ?_
    · repeat first | exact Owns.mark _ _ _ | exact Owns.call _ _ _ | refine Owns.set ?_ (by simp [-Bool.exists_bool, -Int.not_le, -Int.not_lt, -getElem?_pos, -List.getD_eq_getElem?_getD]) | refine Owns.other ?_ (by simp [-Bool.exists_bool, -Int.not_le, -Int.not_lt, -getElem?_pos, -List.getD_eq_getElem?_getD]) | refine Owns.otherM ?_ (by simp [-Bool.exists_bool, -Int.not_le, -Int.not_lt, -getElem?_pos, -List.getD_eq_getElem?_getD])
    · omega
    simp -implicitDefEqProofs -dsimp +contextual [-Bool.exists_bool, -Int.not_le, -Int.not_lt, -getElem?_pos, -List.getD_eq_getElem?_getD, h, hr, q1, q2]
    exact RLe.bb rfl
  · rw [oV_f hr, oH_f hr] at hL
    obtain rfl := hr0 hr
    refine CallJ.lent (ks := famK 20 0 c.2.length) 2 hL (by simp only [lendVs, hO.lend 0 c.1]; simp [-Bool.exists_bool, -Int.not_le, -Int.not_lt, -getElem?_pos, -List.getD_eq_getElem?_getD, lendV]) (fun k hk => .inl (famK_lt (by omega) k hk)) rfl (by simp [-Bool.exists_bool, -Int.not_le, -Int.not_lt, -getElem?_pos, -List.getD_eq_getElem?_getD]) ?_
    simp -implicitDefEqProofs -dsimp +contextual [-Bool.exists_bool, -Int.not_le, -Int.not_lt, -getElem?_pos, -List.getD_eq_getElem?_getD, h, q2]
    refine CallJ.pure (ks := []) (eqCell (0, []) (by simp [-Bool.exists_bool, -Int.not_le, -Int.not_lt, -getElem?_pos, -List.getD_eq_getElem?_getD]) (by simp [-Bool.exists_bool, -Int.not_le, -Int.not_lt, -getElem?_pos, -List.getD_eq_getElem?_getD])) (by simp [-Bool.exists_bool, -Int.not_le, -Int.not_lt, -getElem?_pos, -List.getD_eq_getElem?_getD, asD]) (by simp [-Bool.exists_bool, -Int.not_le, -Int.not_lt, -getElem?_pos, -List.getD_eq_getElem?_getD]) ?_
    simp -implicitDefEqProofs -dsimp +contextual [-Bool.exists_bool, -Int.not_le, -Int.not_lt, -getElem?_pos, -List.getD_eq_getElem?_getD, h, q2]
    refine CallJ.pure (toCellW c hc1 hc2) rfl (by simp [-Bool.exists_bool, -Int.not_le, -Int.not_lt, -getElem?_pos, -List.getD_eq_getElem?_getD]) ?_
    simp -implicitDefEqProofs -dsimp +contextual [-Bool.exists_bool, -Int.not_le, -Int.not_lt, -getElem?_pos, -List.getD_eq_getElem?_getD, h, q2]
    refine Owns.eqCell (s := 20) (L := c.2) ?_ c.1 hc1 hc2 ?_ ?_
    · repeat first | exact Owns.mark _ _ _ | exact Owns.call _ _ _ | refine Owns.set ?_ (by simp [-Bool.exists_bool, -Int.not_le, -Int.not_lt, -getElem?_pos, -List.getD_eq_getElem?_getD]) | refine Owns.other ?_ (by simp [-Bool.exists_bool, -Int.not_le, -Int.not_lt, -getElem?_pos, -List.getD_eq_getElem?_getD]) | refine Owns.otherM ?_ (by simp [-Bool.exists_bool, -Int.not_le, -Int.not_lt, -getElem?_pos, -List.getD_eq_getElem?_getD])
    · omega
    simp -implicitDefEqProofs -dsimp +contextual [-Bool.exists_bool, -Int.not_le, -Int.not_lt, -getElem?_pos, -List.getD_eq_getElem?_getD, h, q2]
    refine Owns.marks (s := 20) (L := c.2) ?_ c.1 1 ⟨by omega, hI.nxt⟩ hc1 hc2 ?_ ?_ ?_
    · repeat first | exact Owns.mark _ _ _ | exact Owns.call _ _ _ | refine Owns.set ?_ (by simp [-Bool.exists_bool, -Int.not_le, -Int.not_lt, -getElem?_pos, -List.getD_eq_getElem?_getD]) | refine Owns.other ?_ (by simp [-Bool.exists_bool, -Int.not_le, -Int.not_lt, -getElem?_pos, -List.getD_eq_getElem?_getD]) | refine Owns.otherM ?_ (by simp [-Bool.exists_bool, -Int.not_le, -Int.not_lt, -getElem?_pos, -List.getD_eq_getElem?_getD])
    · omega
    · omega
    simp -implicitDefEqProofs -dsimp +contextual [-Bool.exists_bool, -Int.not_le, -Int.not_lt, -getElem?_pos, -List.getD_eq_getElem?_getD, h, q2]
    refine CallJ.pure (ks := []) (eqCell (0, []) (by simp [-Bool.exists_bool, -Int.not_le, -Int.not_lt, -getElem?_pos, -List.getD_eq_getElem?_getD]) (by simp [-Bool.exists_bool, -Int.not_le, -Int.not_lt, -getElem?_pos, -List.getD_eq_getElem?_getD])) (by simp [-Bool.exists_bool, -Int.not_le, -Int.not_lt, -getElem?_pos, -List.getD_eq_getElem?_getD, asD]) (by simp [-Bool.exists_bool, -Int.not_le, -Int.not_lt, -getElem?_pos, -List.getD_eq_getElem?_getD]) ?_
    simp -implicitDefEqProofs -dsimp +contextual [-Bool.exists_bool, -Int.not_le, -Int.not_lt, -getElem?_pos, -List.getD_eq_getElem?_getD, h, q2]
    refine CallJ.pure (ks := []) (markCell0 0 1) (by simp [-Bool.exists_bool, -Int.not_le, -Int.not_lt, -getElem?_pos, -List.getD_eq_getElem?_getD, asD]) (by simp [-Bool.exists_bool, -Int.not_le, -Int.not_lt, -getElem?_pos, -List.getD_eq_getElem?_getD]) ?_
    simp -implicitDefEqProofs -dsimp +contextual [-Bool.exists_bool, -Int.not_le, -Int.not_lt, -getElem?_pos, -List.getD_eq_getElem?_getD, h, q2]
    refine CallJ.pure (ks := []) (heldCell0 0 1) (by simp [-Bool.exists_bool, -Int.not_le, -Int.not_lt, -getElem?_pos, -List.getD_eq_getElem?_getD, asD]) (by simp [-Bool.exists_bool, -Int.not_le, -Int.not_lt, -getElem?_pos, -List.getD_eq_getElem?_getD]) ?_
    simp -implicitDefEqProofs -dsimp +contextual [-Bool.exists_bool, -Int.not_le, -Int.not_lt, -getElem?_pos, -List.getD_eq_getElem?_getD, h, q2]
    refine CallJ.pure (toCellW c hc1 hc2) rfl (by simp [-Bool.exists_bool, -Int.not_le, -Int.not_lt, -getElem?_pos, -List.getD_eq_getElem?_getD]) ?_
    simp -implicitDefEqProofs -dsimp +contextual [-Bool.exists_bool, -Int.not_le, -Int.not_lt, -getElem?_pos, -List.getD_eq_getElem?_getD, h, q2]
    refine CallJ.pure hW rfl (by simp [-Bool.exists_bool, -Int.not_le, -Int.not_lt, -getElem?_pos, -List.getD_eq_getElem?_getD]) ?_
    simp -implicitDefEqProofs -dsimp +contextual [-Bool.exists_bool, -Int.not_le, -Int.not_lt, -getElem?_pos, -List.getD_eq_getElem?_getD, h, q2]
    refine CallJ.pure (ks := []) (eqCell (0, []) (by simp [-Bool.exists_bool, -Int.not_le, -Int.not_lt, -getElem?_pos, -List.getD_eq_getElem?_getD]) (by simp [-Bool.exists_bool, -Int.not_le, -Int.not_lt, -getElem?_pos, -List.getD_eq_getElem?_getD])) (by simp [-Bool.exists_bool, -Int.not_le, -Int.not_lt, -getElem?_pos, -List.getD_eq_getElem?_getD, asD]) (by simp [-Bool.exists_bool, -Int.not_le, -Int.not_lt, -getElem?_pos, -List.getD_eq_getElem?_getD]) ?_
    simp -implicitDefEqProofs -dsimp +contextual [-Bool.exists_bool, -Int.not_le, -Int.not_lt, -getElem?_pos, -List.getD_eq_getElem?_getD, h, q2]
    refine CallJ.pure (ks := []) (heldCell0 0 1) (by simp [-Bool.exists_bool, -Int.not_le, -Int.not_lt, -getElem?_pos, -List.getD_eq_getElem?_getD, asD]) (by simp [-Bool.exists_bool, -Int.not_le, -Int.not_lt, -getElem?_pos, -List.getD_eq_getElem?_getD]) ?_
    simp -implicitDefEqProofs -dsimp +contextual [-Bool.exists_bool, -Int.not_le, -Int.not_lt, -getElem?_pos, -List.getD_eq_getElem?_getD, h, q2]
    exact RLe.bb rfl
end Go.Proofs.Ytkicjflhokckgaa.ZL
namespace Go.Proofs.Ytkicjflhokckgaa.ZL
open Go Go.Proofs.Ytkicjflhokckgaa.Abs Go.Proofs.Ytkicjflhokckgaa.Abs.Pl Go.RowKit Go.Proofs
set_option linter.unusedVariables false
set_option linter.unusedSimpArgs false
def normD (d : Int) (L : List At) : Int × List At × Bool := if isCe d L = true then (d, nrm d L, true) else (0, [], false)
theorem normD_f {d : Int} {L : List At} (h : ¬ (normD d L).2.2 = true) : normD d L = (0, [], false) := by
  unfold normD at h ⊢
  split
  · rename_i h2; rw [if_pos h2] at h; exact absurd rfl h
  · rfl
theorem normD_small (d : Int) (L : List At) : Small (normD d L).2.1 := by
  unfold normD
  split
  · rename_i h; exact Small.ok (nrm_16 d L (isCe_l h)) (nrm_okL (isCe_d h) (isCe_a h))
  · exact Small.nil
theorem NormalCell (d : Int) (L : List At) (h20 : L.length ≤ 1048576) : Cn Try.prog 15 [C1 d L] (D2 (normD d L)) hemp := by
  refine Cn.of [] mixed Try.func15 rfl Try.call15 (by kernel_rfl) rfl ?_
  simp -implicitDefEqProofs -dsimp +contextual [-Bool.exists_bool, -Int.not_le, -Int.not_lt, -getElem?_pos, -List.getD_eq_getElem?_getD, Try.f15]
  refine CallJ.pure (IsCell d L h20) rfl (by simp [-Bool.exists_bool, -Int.not_le, -Int.not_lt, -getElem?_pos, -List.getD_eq_getElem?_getD]) ?_
  simp -implicitDefEqProofs -dsimp +contextual [-Bool.exists_bool, -Int.not_le, -Int.not_lt, -getElem?_pos, -List.getD_eq_getElem?_getD]
  refine ⟨fun h1 => ?_, fun h1 => ?_⟩
  · have hd := isCe_d h1
    have h16 := isCe_l h1
    refine CallJ.pure (l3Normal d hd L (by omega) (isCe_a h1)) rfl (by simp [-Bool.exists_bool, -Int.not_le, -Int.not_lt, -getElem?_pos, -List.getD_eq_getElem?_getD]) ?_
    simp -implicitDefEqProofs -dsimp +contextual [-Bool.exists_bool, -Int.not_le, -Int.not_lt, -getElem?_pos, -List.getD_eq_getElem?_getD, h1]
    rw [normD, if_pos h1]
    exact RLe.pure 3 (by simp [-Bool.exists_bool, -Int.not_le, -Int.not_lt, -getElem?_pos, -List.getD_eq_getElem?_getD])
  · rw [normD, if_neg (by simp [-Bool.exists_bool, -Int.not_le, -Int.not_lt, -getElem?_pos, -List.getD_eq_getElem?_getD, h1])]
    exact RLe.pure 2 (by simp [-Bool.exists_bool, -Int.not_le, -Int.not_lt, -getElem?_pos, -List.getD_eq_getElem?_getD, asD])
theorem iNormalCell (d : Int) (L : List At) (h20 : L.length ≤ 1048576) : Cn Try.prog 17 [C1 d L] (oV (normD d L)) (oH (normD d L)) := by
  refine Cn.of [] mixed Try.func17 rfl Try.call17 (by kernel_rfl) rfl ?_
  simp -implicitDefEqProofs -dsimp +contextual [-Bool.exists_bool, -Int.not_le, -Int.not_lt, -getElem?_pos, -List.getD_eq_getElem?_getD, Try.f17]
  refine CallJ.pure (iIsCell d L h20) rfl (by simp [-Bool.exists_bool, -Int.not_le, -Int.not_lt, -getElem?_pos, -List.getD_eq_getElem?_getD]) ?_
  simp -implicitDefEqProofs -dsimp +contextual [-Bool.exists_bool, -Int.not_le, -Int.not_lt, -getElem?_pos, -List.getD_eq_getElem?_getD]
  refine ⟨fun h1 => ?_, fun h1 => ?_⟩
  · have hd := isCe_d h1
    have h16 := isCe_l h1
    refine CallJ.pure (iNormalOf d hd L (by omega) (isCe_a h1)) rfl (by simp [-Bool.exists_bool, -Int.not_le, -Int.not_lt, -getElem?_pos, -List.getD_eq_getElem?_getD]) ?_
    simp -implicitDefEqProofs -dsimp +contextual [-Bool.exists_bool, -Int.not_le, -Int.not_lt, -getElem?_pos, -List.getD_eq_getElem?_getD, h1]
    rw [normD, if_pos h1, oV_t rfl, oH_t rfl]
    refine RLe.pass 10 _ ?_ ?_ ?_
    · simp [-Bool.exists_bool, -Int.not_le, -Int.not_lt, -getElem?_pos, -List.getD_eq_getElem?_getD, invO]
    · simp [-Bool.exists_bool, -Int.not_le, -Int.not_lt, -getElem?_pos, -List.getD_eq_getElem?_getD, setH, upOwn_0]
    · intro j hj; simp [-Bool.exists_bool, -Int.not_le, -Int.not_lt, -getElem?_pos, -List.getD_eq_getElem?_getD, setH, upOwn_j _ _ _ _ hj]
  · rw [normD, if_neg (by simp [-Bool.exists_bool, -Int.not_le, -Int.not_lt, -getElem?_pos, -List.getD_eq_getElem?_getD, h1]), oV_f (by simp [-Bool.exists_bool, -Int.not_le, -Int.not_lt, -getElem?_pos, -List.getD_eq_getElem?_getD]), oH_f (by simp [-Bool.exists_bool, -Int.not_le, -Int.not_lt, -getElem?_pos, -List.getD_eq_getElem?_getD])]
    exact RLe.emp (by simp [-Bool.exists_bool, -Int.not_le, -Int.not_lt, -getElem?_pos, -List.getD_eq_getElem?_getD])
theorem iNormalCellW (d : Int) (L : List At) (h20 : L.length ≤ 1048576) : Cn Try.prog 17 [C1 d L] (D2 (normD d L)) hemp := Cn.weak normD_f (iNormalCell d L h20)
theorem lends1 {H : Store} {s1 : Nat} {c1 : Ce} (h1 : Owns H s1 c1.2) : lendVs true H 2 [.agg [I c1.1, .ref (s1, 0) c1.2.length]] = some ([.agg (cV c1)], famK s1 0 c1.2.length) := by
  simp only [lendVs, h1.lend 0 c1.1]; simp [-Bool.exists_bool, -Int.not_le, -Int.not_lt, -getElem?_pos, -List.getD_eq_getElem?_getD]
theorem lends2 {H : Store} {s1 s2 : Nat} {c1 c2 : Ce} (h1 : Owns H s1 c1.2) (h2 : Owns H s2 c2.2) : lendVs true H 2 [.agg [I c1.1, .ref (s1, 0) c1.2.length], .agg [I c2.1, .ref (s2, 0) c2.2.length]] = some ([.agg (cV c1), .agg (cV c2)], famK s1 0 c1.2.length ++ famK s2 0 c2.2.length) := by
  simp only [lendVs, h1.lend 0 c1.1, h2.lend 0 c2.1]; simp [-Bool.exists_bool, -Int.not_le, -Int.not_lt, -getElem?_pos, -List.getD_eq_getElem?_getD]
theorem lends1i {H : Store} {s1 : Nat} {c1 : Ce} {v : Int} (h1 : Owns H s1 c1.2) : lendVs true H 2 [.agg [I c1.1, .ref (s1, 0) c1.2.length], I v] = some ([.agg (cV c1), I v], famK s1 0 c1.2.length) := by
  simp only [lendVs, h1.lend 0 c1.1]; simp [-Bool.exists_bool, -Int.not_le, -Int.not_lt, -getElem?_pos, -List.getD_eq_getElem?_getD, lendV]
end Go.Proofs.Ytkicjflhokckgaa.ZL
namespace Go.Proofs.Ytkicjflhokckgaa.ZL
open Go Go.Proofs.Ytkicjflhokckgaa.Abs Go.Proofs.Ytkicjflhokckgaa.Abs.Pl Go.RowKit Go.Proofs
set_option linter.unusedVariables false
set_option linter.unusedSimpArgs false
theorem rA_shift {f g : Nat → Key} : ∀ (L : List At) (a b : Nat), (∀ i, f (a + i) = g (b + i)) → rA f a L = rA g b L
  | [], _, _, _ => rfl
  | x :: L, a, b, h => by
    have h0 := h 0
    simp only [Nat.add_zero] at h0
    have ih := rA_shift (f := f) (g := g) L (a + 1) (b + 1) (fun i => by have := h (i + 1); rwa [show a + (i + 1) = a + 1 + i by omega, show b + (i + 1) = b + 1 + i by omega] at this)
    simp only [rA, h0, ih]
def cutI (i j : Nat) : Nat := if j < i then j else j + 1
def cutL (x : List At) (i : Nat) : List At := x.take i ++ x.drop (i + 1)
theorem cutL_len {x : List At} {i : Nat} (h : i < x.length) : (cutL x i).length + 1 = x.length := by simp [-Bool.exists_bool, -Int.not_le, -Int.not_lt, -getElem?_pos, -List.getD_eq_getElem?_getD, cutL]; omega
theorem cutI_inj {i a b : Nat} (h : cutI i a = cutI i b) : a = b := by unfold cutI at h; split at h <;> split at h <;> omega
theorem cutI_lt {x : List At} {i j : Nat} (h : i < x.length) (hj : j < (cutL x i).length) : cutI i j < x.length := by have := cutL_len h; unfold cutI; split <;> omega
theorem cutL_nth {x : List At} {i j : Nat} (h : i < x.length) (hj : j < (cutL x i).length) : nth (cutL x i) j = nth x (cutI i j) := by
  have hc := cutI_lt h hj
  have hj' : j < (x.take i ++ x.drop (i + 1)).length := hj
  rw [nth_eq hc, show nth (cutL x i) j = (x.take i ++ x.drop (i + 1))[j] from nth_eq hj']
  unfold cutI at hc ⊢
  split
  · rename_i h1
    rw [List.getElem_append_left (by simp [-Bool.exists_bool, -Int.not_le, -Int.not_lt, -getElem?_pos, -List.getD_eq_getElem?_getD]; omega)]
    simp [-Bool.exists_bool, -Int.not_le, -Int.not_lt, -getElem?_pos, -List.getD_eq_getElem?_getD]
  · rename_i h1
    rw [List.getElem_append_right (by simp [-Bool.exists_bool, -Int.not_le, -Int.not_lt, -getElem?_pos, -List.getD_eq_getElem?_getD]; omega)]
    simp [-Bool.exists_bool, -Int.not_le, -Int.not_lt, -getElem?_pos, -List.getD_eq_getElem?_getD]
    congr 1
    omega
theorem rA_cutout (f : Nat → Key) (x : List At) (i : Nat) (h : i < x.length) : (rA f 0 x).take (i * 3) ++ (rA f 0 x).drop ((i + 1) * 3) = rA (fun j => f (cutI i j)) 0 (cutL x i) := by
  rw [rA_take, rA_dropE, cutL, rA_append]
  have hl : (x.take i).length = i := by simp [-Bool.exists_bool, -Int.not_le, -Int.not_lt, -getElem?_pos, -List.getD_eq_getElem?_getD]; omega
  congr 1
  · exact rA_congr _ 0 fun j hj => by
      rw [hl] at hj
      show f (0 + j) = f (cutI i (0 + j))
      unfold cutI
      rw [if_pos (by omega)]
  · rw [hl]
    exact rA_shift _ _ _ fun j => by
      show f (0 + (i + 1) + j) = f (cutI i (0 + i + j))
      unfold cutI
      rw [if_neg (by omega)]
      congr 1
      omega
def upCon (s : Nat) (pr ka : Key) (sf i : Nat) (x : List At) : Key → Option (Option Ent) := fun k => if k.1 = s then (if k.2 = 0 then some (some (.row 52 (cutL x i).length (rA (fun j => (sf, cutI i j)) 0 (cutL x i)))) else none) else
  if k = pr then some none else if k = ka then some (some (.row 52 x.length (rA (fun j => (sf, j)) 0 x))) else none
theorem callConcat {N nx s : Nat} {H : Store} {K : Eff → Prop} (pr ka : Key) (sf i m : Nat) (x : List At) (hm : i + 1 + m = x.length) (h16 : x.length ≤ 1000)
    (hp : H pr = some (.row 26 2 [.sub ka 3 0 i, .sub ka 3 (i + 1) m])) (ha : H ka = some (.row 52 x.length (rA (fun j => (sf, j)) 0 x))) (hF : ∀ j, j < x.length → H (sf, j) = some (rowA (nth x j)))
    (hn : ka.1 < nx) (hs : sf < nx) (hpa : pr ≠ ka)
    (hk : K ⟨.ref (s, 0) (cutL x i).length, pr :: ka :: (List.range x.length).map (fun j => (sf, j)), [pr, ka], upCon s pr ka sf i x⟩) : CallJ Try.prog N nx s H 59 [.ref pr 2] K := by
  let g : Nat → Key := fun j => match j with
    | 0 => pr
    | 1 => ka
    | j + 2 => (sf, j)
  let gi : Key → Option Nat := fun k => if k = pr then some 0 else if k = ka then some 1 else none
  have hi : i < x.length := by omega
  have hcl := cutL_len hi
  have him : i + m = (cutL x i).length := by omega
  have h := iConcatO (2 + x.length) (rA (fun j => (0, j + 3)) 0 x) x.length i m (by omega) (by simp [-Bool.exists_bool, -Int.not_le, -Int.not_lt, -getElem?_pos, -List.getD_eq_getElem?_getD]) hm h16 (rA_one _ _ _) (rA_allKs _ _ 0 fun j hj => ⟨rfl, by show 1 ≤ 0 + j + 3; omega, by show 0 + j + 3 ≤ _; omega⟩)
  rw [rA_cutout _ _ _ hi, him] at h
  have gA : (fun i => gk g s (0, i + 3)) = fun j => (sf, j) := rfl
  have gp : gi pr = some 0 := if_pos rfl
  have ga : gi ka = some 1 := by show (if ka = pr then _ else if ka = ka then _ else _) = _; rw [if_neg (fun h => hpa h.symm), if_pos rfl]
  have hup : upMut g gi s (hl [((0, 2), .row 52 x.length (rA (fun j => (0, j + 3)) 0 x)), ((1, 0), .row 52 (cutL x i).length (rA (fun j => (0, cutI i j + 3)) 0 (cutL x i)))]) = upCon s pr ka sf i x := by
    funext k
    obtain ⟨a, b⟩ := k
    unfold upMut upCon
    by_cases h1 : a = s
    · simp only [if_pos h1]
      cases b with
      | zero =>
        simp [-Bool.exists_bool, -Int.not_le, -Int.not_lt, -getElem?_pos, -List.getD_eq_getElem?_getD, mapE, rA_mapL]
        rfl
      | succ b => simp [-Bool.exists_bool, -Int.not_le, -Int.not_lt, -getElem?_pos, -List.getD_eq_getElem?_getD]
    · simp only [if_neg h1]
      by_cases h2 : (a, b) = pr
      · rw [h2, gp]; simp [-Bool.exists_bool, -Int.not_le, -Int.not_lt, -getElem?_pos, -List.getD_eq_getElem?_getD]
      · by_cases h3 : (a, b) = ka
        · rw [h3, ga, if_neg (fun h => hpa h.symm)]
          simp [-Bool.exists_bool, -Int.not_le, -Int.not_lt, -getElem?_pos, -List.getD_eq_getElem?_getD, mapE, rA_mapL]
          rfl
        · have : gi (a, b) = none := by show (if _ then _ else if _ then _ else _) = _; rw [if_neg h2, if_neg h3]
          rw [this, if_neg h2, if_neg h3]
  rw [← hup] at hk
  refine CallJ.mut g gi [pr, ka] ((List.range x.length).map fun j => (sf, j)) h rfl (by simp [-Bool.exists_bool, -Int.not_le, -Int.not_lt, -getElem?_pos, -List.getD_eq_getElem?_getD, allKs, allK, kA]; omega) ?_ ?_ ?_ ?_ ?_ ?_ hk
  · rintro ⟨a, b⟩ ⟨rfl, h1, h2⟩
    refine ⟨rfl, h1, ?_⟩
    match b, h1, h2 with
    | 1, _, _ => exact ⟨by show (H pr).isSome = true; rw [hp]; rfl, by show pr ∈ _; simp [-Bool.exists_bool, -Int.not_le, -Int.not_lt, -getElem?_pos, -List.getD_eq_getElem?_getD]⟩
    | 2, _, _ => exact ⟨by show (H ka).isSome = true; rw [ha]; rfl, by show ka ∈ _; simp [-Bool.exists_bool, -Int.not_le, -Int.not_lt, -getElem?_pos, -List.getD_eq_getElem?_getD]⟩
    | j + 3, _, h2 => exact ⟨by show (H (sf, j)).isSome = true; rw [hF j (by show j < _; have : j + 3 ≤ 2 + x.length := h2; omega)]; rfl, by show (sf, j) ∈ _; simp [-Bool.exists_bool, -Int.not_le, -Int.not_lt, -getElem?_pos, -List.getD_eq_getElem?_getD]; exact .inr (.inr (by have : j + 3 ≤ 2 + x.length := h2; omega))⟩
  · intro k e hk
    have := hl_mem hk
    simp only [List.mem_cons, List.not_mem_nil, or_false, Prod.mk.injEq] at this
    rcases this with ⟨rfl, rfl⟩ | ⟨rfl, rfl⟩
    · exact ⟨⟨rfl, by simp [-Bool.exists_bool, -Int.not_le, -Int.not_lt, -getElem?_pos, -List.getD_eq_getElem?_getD], by simp [-Bool.exists_bool, -Int.not_le, -Int.not_lt, -getElem?_pos, -List.getD_eq_getElem?_getD]; omega⟩, hp, by simp [-Bool.exists_bool, -Int.not_le, -Int.not_lt, -getElem?_pos, -List.getD_eq_getElem?_getD, allKE, allKs, allK, kA], gp⟩
    · refine ⟨⟨rfl, by simp [-Bool.exists_bool, -Int.not_le, -Int.not_lt, -getElem?_pos, -List.getD_eq_getElem?_getD], by simp [-Bool.exists_bool, -Int.not_le, -Int.not_lt, -getElem?_pos, -List.getD_eq_getElem?_getD]⟩, ?_, ?_, ga⟩
      · show H ka = _
        rw [ha]
        simp only [mapE, rA_mapL]
        rw [gA]
      · simp only [allKE]
        exact rA_allKs _ _ 0 fun j hj => ⟨rfl, by show 1 ≤ 0 + j + 3; omega, by show 0 + j + 3 ≤ _; omega⟩
  · intro k j hg
    by_cases h2 : k = pr
    · subst h2
      rw [gp] at hg
      obtain rfl := Option.some.inj hg
      exact ⟨rfl, by simp [-Bool.exists_bool, -Int.not_le, -Int.not_lt, -getElem?_pos, -List.getD_eq_getElem?_getD], by simp [-Bool.exists_bool, -Int.not_le, -Int.not_lt, -getElem?_pos, -List.getD_eq_getElem?_getD]⟩
    · by_cases h3 : k = ka
      · subst h3
        rw [ga] at hg
        obtain rfl := Option.some.inj hg
        exact ⟨rfl, by simp [-Bool.exists_bool, -Int.not_le, -Int.not_lt, -getElem?_pos, -List.getD_eq_getElem?_getD], by simp [-Bool.exists_bool, -Int.not_le, -Int.not_lt, -getElem?_pos, -List.getD_eq_getElem?_getD]⟩
      · have : gi k = none := by show (if _ then _ else if _ then _ else _) = _; rw [if_neg h2, if_neg h3]
        rw [this] at hg
        exact absurd hg (by simp [-Bool.exists_bool, -Int.not_le, -Int.not_lt, -getElem?_pos, -List.getD_eq_getElem?_getD])
  · intro k hk
    simp only [List.mem_cons, List.not_mem_nil, or_false] at hk
    rcases hk with rfl | rfl
    · rw [gp]; rfl
    · rw [ga]; rfl
  · intro k e hk
    have := hl_mem hk
    simp only [List.mem_cons, List.not_mem_nil, or_false, Prod.mk.injEq] at this
    rcases this with ⟨rfl, rfl⟩ | ⟨rfl, rfl⟩
    · exact ⟨by simp [-Bool.exists_bool, -Int.not_le, -Int.not_lt, -getElem?_pos, -List.getD_eq_getElem?_getD], fun _ => by simp [-Bool.exists_bool, -Int.not_le, -Int.not_lt, -getElem?_pos, -List.getD_eq_getElem?_getD]⟩
    · exact ⟨by simp [-Bool.exists_bool, -Int.not_le, -Int.not_lt, -getElem?_pos, -List.getD_eq_getElem?_getD], fun h => by simp [-Bool.exists_bool, -Int.not_le, -Int.not_lt, -getElem?_pos, -List.getD_eq_getElem?_getD] at h⟩
  · intro k hk
    simp only [List.mem_append, List.mem_cons, List.not_mem_nil, or_false, List.mem_map, List.mem_range] at hk
    rcases hk with (rfl | rfl) | ⟨j, hj, rfl⟩
    · exact ⟨by rw [hp]; rfl, .inr (by simp [-Bool.exists_bool, -Int.not_le, -Int.not_lt, -getElem?_pos, -List.getD_eq_getElem?_getD, slotsL, slotsV])⟩
    · exact ⟨by rw [ha]; rfl, .inl hn⟩
    · exact ⟨by rw [hF j hj]; rfl, .inl hs⟩
theorem upCon_s (s : Nat) (pr ka : Key) (sf i : Nat) (x : List At) (H : Store) : app (upCon s pr ka sf i x) H (s, 0) = some (.row 52 (cutL x i).length (rA (fun j => (sf, cutI i j)) 0 (cutL x i))) := by simp [-Bool.exists_bool, -Int.not_le, -Int.not_lt, -getElem?_pos, -List.getD_eq_getElem?_getD, app, upCon]
theorem upCon_ka {s : Nat} {pr ka : Key} {sf i : Nat} {x : List At} {H : Store} (h : ka.1 ≠ s) (hp : ka ≠ pr) : app (upCon s pr ka sf i x) H ka = some (.row 52 x.length (rA (fun j => (sf, j)) 0 x)) := by simp [-Bool.exists_bool, -Int.not_le, -Int.not_lt, -getElem?_pos, -List.getD_eq_getElem?_getD, app, upCon, h, hp]
theorem upCon_ne {s : Nat} {pr ka : Key} {sf i : Nat} {x : List At} {H : Store} {k : Key} (h : k.1 ≠ s) (hp : k ≠ pr) (hk : k ≠ ka) : app (upCon s pr ka sf i x) H k = H k := by simp [-Bool.exists_bool, -Int.not_le, -Int.not_lt, -getElem?_pos, -List.getD_eq_getElem?_getD, app, upCon, h, hp, hk]
end Go.Proofs.Ytkicjflhokckgaa.ZL
namespace Go.Proofs.Ytkicjflhokckgaa.ZL
open Go Go.Proofs.Ytkicjflhokckgaa.Abs Go.Proofs.Ytkicjflhokckgaa.Abs.Pl Go.RowKit Go.Proofs
set_option linter.unusedVariables false
set_option linter.unusedSimpArgs false
abbrev hV (d : Int) (L : List At) : V := .agg [I d, .ref (0, 0) L.length]
abbrev hH (L : List At) : Store := hl [((0, 0), .row 52 L.length (dl (asD L)))]
theorem l3Copy (d : Int) (L : List At) (h20 : L.length ≤ 1000) (ha : ∀ a ∈ L, a.1.length ≤ 1048576) : Cn Try.prog 79 [C1 d L] (hV d L) (hH L) := by
  refine Cn.of [] mixed Try.func79 rfl Try.call79 (by kernel_rfl) rfl ?_
  simp -implicitDefEqProofs -dsimp +contextual [-Bool.exists_bool, -Int.not_le, -Int.not_lt, -getElem?_pos, -List.getD_eq_getElem?_getD, Try.f79]
  refine WP.loop mixed [] (fun i : Nat => ⟨tl [(1, .ptr (0, 0) 0), (2, .ptr (1, 0) 0), (3, .ptr (2, 0) 0), (4, I i)], hl [((0, 0), .box [I d, As L]), ((1, 0), .box [I 0, .nil]), ((2, 0), .box [I d, .ref (3, 0) i]), ((3, 0), .row 52 i (dl (asD (L.take i))))], 4⟩) (fun i => i ≤ L.length) (fun i => L.length - i) 0 (by kernel_rfl) ?_ ?_ ?_
  · refine Le.trans (Le.nilBox (5, 0) 1 52 (c := [I d, .nil]) (by simp [-Bool.exists_bool, -Int.not_le, -Int.not_lt, -getElem?_pos, -List.getD_eq_getElem?_getD, setH]) rfl) (Le.told [((2, 0), (5, 0)), ((3, 0), (8, 0))] ?_ ?_ ?_) <;> simp [-Bool.exists_bool, -Int.not_le, -Int.not_lt, -getElem?_pos, -List.getD_eq_getElem?_getD, setH, ELe, asD]
  · simp [-Bool.exists_bool, -Int.not_le, -Int.not_lt, -getElem?_pos, -List.getD_eq_getElem?_getD]
  · intro i hi
    by_cases h : i < L.length
    · simp -implicitDefEqProofs -dsimp +contextual [-Bool.exists_bool, -Int.not_le, -Int.not_lt, -getElem?_pos, -List.getD_eq_getElem?_getD, h]
      refine CallJ.pure (l3Atom (nth L i) (ha _ (nth_mem h))) rfl (by simp [-Bool.exists_bool, -Int.not_le, -Int.not_lt, -getElem?_pos, -List.getD_eq_getElem?_getD]) ?_
      simp -implicitDefEqProofs -dsimp +contextual [-Bool.exists_bool, -Int.not_le, -Int.not_lt, -getElem?_pos, -List.getD_eq_getElem?_getD, h]
      refine ⟨⟨by omega, by simp [-Bool.exists_bool, -Int.not_le, -Int.not_lt, -getElem?_pos, -List.getD_eq_getElem?_getD, maxLen]; omega⟩, by kernel_rfl, i + 1, h, by omega, ?_⟩
      rw [wr (by omega) (by omega)]
      have hx : asD (L.take (i + 1)) = asD (L.take i) ++ aD (nth L i) := by rw [nth_take h, asD_append]; simp [-Bool.exists_bool, -Int.not_le, -Int.not_lt, -getElem?_pos, -List.getD_eq_getElem?_getD, asD]
      refine Le.told [((3, 0), (18, 0))] ?_ ?_ ?_ <;> simp [-Bool.exists_bool, -Int.not_le, -Int.not_lt, -getElem?_pos, -List.getD_eq_getElem?_getD, hx, aD]
    · obtain rfl : i = L.length := by omega
      simp -implicitDefEqProofs -dsimp +contextual [-Bool.exists_bool, -Int.not_le, -Int.not_lt, -getElem?_pos, -List.getD_eq_getElem?_getD, h]
      refine RLe.told [((0, 0), (3, 0))] ?_ ?_ ?_ <;> simp [-Bool.exists_bool, -Int.not_le, -Int.not_lt, -getElem?_pos, -List.getD_eq_getElem?_getD]
theorem iCopyAtomW (a : At) (h : a.1.length ≤ 1048576) : Cn Try.prog 95 [A1 a] (A1 a) hemp := Cn.freeze 2 (iCopyAtom a h) (by simp [-Bool.exists_bool, -Int.not_le, -Int.not_lt, -getElem?_pos, -List.getD_eq_getElem?_getD, lendT, lendV])
theorem iCopyCell (d : Int) (L : List At) (h20 : L.length ≤ 1000) (ha : ∀ a ∈ L, a.1.length ≤ 1048576) : Cn Try.prog 81 [C1 d L] (hV d L) (hH L) := by
  refine Cn.of [] mixed Try.func81 rfl Try.call81 (by kernel_rfl) rfl ?_
  simp -implicitDefEqProofs -dsimp +contextual [-Bool.exists_bool, -Int.not_le, -Int.not_lt, -getElem?_pos, -List.getD_eq_getElem?_getD, Try.f81]
  refine ⟨⟨by omega, by simp [-Bool.exists_bool, -Int.not_le, -Int.not_lt, -getElem?_pos, -List.getD_eq_getElem?_getD, maxLen]; omega⟩, ?_⟩
  refine WP.loop mixed [] (fun i : Nat => ⟨tl [(1, .ptr (0, 0) 0), (2, .ptr (1, 0) 0), (3, .ptr (2, 0) 0), (14, As L), (15, I L.length), (16, I i)], hl [((0, 0), .box [I d, As L]), ((1, 0), .box [I 0, .nil]), ((2, 0), .box [I d, .ref (3, 0) i]), ((3, 0), .row 52 i (dl (asD (L.take i))))], 4⟩) (fun i => i ≤ L.length) (fun i => L.length - i) 0 (by kernel_rfl) ?_ ?_ ?_
  · refine Le.told [((2, 0), (9, 0)), ((3, 0), (7, 0))] ?_ ?_ ?_ <;> simp [-Bool.exists_bool, -Int.not_le, -Int.not_lt, -getElem?_pos, -List.getD_eq_getElem?_getD, setH, asD]
  · simp [-Bool.exists_bool, -Int.not_le, -Int.not_lt, -getElem?_pos, -List.getD_eq_getElem?_getD]
  · intro i hi
    by_cases h : i < L.length
    · simp -implicitDefEqProofs -dsimp +contextual [-Bool.exists_bool, -Int.not_le, -Int.not_lt, -getElem?_pos, -List.getD_eq_getElem?_getD, h]
      refine CallJ.pure (iCopyAtomW (nth L i) (ha _ (nth_mem h))) rfl (by simp [-Bool.exists_bool, -Int.not_le, -Int.not_lt, -getElem?_pos, -List.getD_eq_getElem?_getD]) ?_
      simp -implicitDefEqProofs -dsimp +contextual [-Bool.exists_bool, -Int.not_le, -Int.not_lt, -getElem?_pos, -List.getD_eq_getElem?_getD, h]
      refine ⟨⟨by omega, by simp [-Bool.exists_bool, -Int.not_le, -Int.not_lt, -getElem?_pos, -List.getD_eq_getElem?_getD, maxLen]; omega⟩, by kernel_rfl, i + 1, h, by omega, ?_⟩
      rw [wr (by omega) (by omega)]
      have hx : asD (L.take (i + 1)) = asD (L.take i) ++ aD (nth L i) := by rw [nth_take h, asD_append]; simp [-Bool.exists_bool, -Int.not_le, -Int.not_lt, -getElem?_pos, -List.getD_eq_getElem?_getD, asD]
      refine Le.told [((3, 0), (14, 0))] ?_ ?_ ?_ <;> simp [-Bool.exists_bool, -Int.not_le, -Int.not_lt, -getElem?_pos, -List.getD_eq_getElem?_getD, hx, aD]
    · obtain rfl : i = L.length := by omega
      simp -implicitDefEqProofs -dsimp +contextual [-Bool.exists_bool, -Int.not_le, -Int.not_lt, -getElem?_pos, -List.getD_eq_getElem?_getD, h]
      refine RLe.told [((0, 0), (3, 0))] ?_ ?_ ?_ <;> simp [-Bool.exists_bool, -Int.not_le, -Int.not_lt, -getElem?_pos, -List.getD_eq_getElem?_getD]
def clo (a : At) : At := (a.1, a.2.1, false)
def closD (d : Int) (L : List At) : Int × List At × Bool := if (emptyC d L).2 = true then (if (emptyC d L).1 = true then (d, [noneA d], true) else (d, nrm d (L.map clo), true)) else (0, [], false)
theorem emptyC_ce {d : Int} {L : List At} (h : (emptyC d L).2 = true) : isCe d L = true := by
  unfold emptyC at h
  split at h
  · assumption
  · exact absurd h (by simp [-Bool.exists_bool, -Int.not_le, -Int.not_lt, -getElem?_pos, -List.getD_eq_getElem?_getD])
def curL (L : List At) (i : Nat) : List At := (L.take i).map clo ++ L.drop i
theorem curL_len (L : List At) (i : Nat) : (curL L i).length = L.length := by simp [-Bool.exists_bool, -Int.not_le, -Int.not_lt, -getElem?_pos, -List.getD_eq_getElem?_getD, curL]; omega
theorem asD_put (L : List At) (i : Nat) (h : i < L.length) : (asD (curL L i)).take (i * 3 + 2) ++ D.bool false :: (asD (curL L i)).drop (i * 3 + 2 + 1) = asD (curL L (i + 1)) := by
  have e1 : curL L i = (L.take i).map clo ++ nth L i :: L.drop (i + 1) := by rw [curL, nth_drop h]
  have e2 : curL L (i + 1) = (L.take i).map clo ++ clo (nth L i) :: L.drop (i + 1) := by rw [curL, nth_take h]; simp [-Bool.exists_bool, -Int.not_le, -Int.not_lt, -getElem?_pos, -List.getD_eq_getElem?_getD]
  have hA : (asD ((L.take i).map clo)).length = i * 3 := by rw [asD_len]; simp [-Bool.exists_bool, -Int.not_le, -Int.not_lt, -getElem?_pos, -List.getD_eq_getElem?_getD]; omega
  rw [e1, e2, asD_append, asD_append]
  generalize asD ((L.take i).map clo) = A at hA
  rw [← hA]
  have c1 : asD (nth L i :: L.drop (i + 1)) = aD (nth L i) ++ asD (L.drop (i + 1)) := by simp [-Bool.exists_bool, -Int.not_le, -Int.not_lt, -getElem?_pos, -List.getD_eq_getElem?_getD, asD]
  have c2 : asD (clo (nth L i) :: L.drop (i + 1)) = aD (clo (nth L i)) ++ asD (L.drop (i + 1)) := by simp [-Bool.exists_bool, -Int.not_le, -Int.not_lt, -getElem?_pos, -List.getD_eq_getElem?_getD, asD]
  have t2 : A.take (A.length + 2) = A := List.take_of_length_le (by omega)
  have d2 : A.drop (A.length + 2 + 1) = [] := List.drop_eq_nil_of_le (by omega)
  have k2 : A.length + 2 + 1 - A.length = 3 := by omega
  rw [c1, c2]
  simp [-Bool.exists_bool, -Int.not_le, -Int.not_lt, -getElem?_pos, -List.getD_eq_getElem?_getD, List.take_append, List.drop_append, t2, d2, k2, aD, clo]
theorem clo_all {d : Int} {L : List At} (h : allOk d L) : allOk d (L.map clo) := fun x hx => by
  obtain ⟨a, ha, rfl⟩ := List.mem_map.1 hx
  exact h a ha
theorem ClosureOfCell (d : Int) (L : List At) (h20 : L.length ≤ 1048576) : Cn Try.prog 40 [C1 d L] (D2 (closD d L)) hemp := by
  refine Cn.of [] mixed Try.func40 rfl Try.call40 (by kernel_rfl) rfl ?_
  simp -implicitDefEqProofs -dsimp +contextual [-Bool.exists_bool, -Int.not_le, -Int.not_lt, -getElem?_pos, -List.getD_eq_getElem?_getD, Try.f40]
  refine CallJ.pure (IsEmptyCell d L h20) rfl (by simp [-Bool.exists_bool, -Int.not_le, -Int.not_lt, -getElem?_pos, -List.getD_eq_getElem?_getD]) ?_
  simp -implicitDefEqProofs -dsimp +contextual [-Bool.exists_bool, -Int.not_le, -Int.not_lt, -getElem?_pos, -List.getD_eq_getElem?_getD]
  refine ⟨fun h1 => ?_, fun h1 => RLe.pure 2 (by rw [closD, if_neg (by simp [-Bool.exists_bool, -Int.not_le, -Int.not_lt, -getElem?_pos, -List.getD_eq_getElem?_getD, h1])]; simp [-Bool.exists_bool, -Int.not_le, -Int.not_lt, -getElem?_pos, -List.getD_eq_getElem?_getD, asD])⟩
  have hce := emptyC_ce h1
  have hd := isCe_d hce
  have h16 := isCe_l hce
  have hok := isCe_a hce
  refine ⟨fun h2 => ?_, fun h2 => ?_⟩
  · refine CallJ.pure (l3None d hd) rfl (by simp [-Bool.exists_bool, -Int.not_le, -Int.not_lt, -getElem?_pos, -List.getD_eq_getElem?_getD]) ?_
    simp -implicitDefEqProofs -dsimp +contextual [-Bool.exists_bool, -Int.not_le, -Int.not_lt, -getElem?_pos, -List.getD_eq_getElem?_getD, h1, h2]
    rw [closD, if_pos h1, if_pos h2]
    exact RLe.pure 3 (by simp [-Bool.exists_bool, -Int.not_le, -Int.not_lt, -getElem?_pos, -List.getD_eq_getElem?_getD])
  · refine CallJ.pure (l3Copy d L (by omega) (fun a ha => okA_small (hok a ha))) rfl (by simp [-Bool.exists_bool, -Int.not_le, -Int.not_lt, -getElem?_pos, -List.getD_eq_getElem?_getD]) ?_
    simp -implicitDefEqProofs -dsimp +contextual [-Bool.exists_bool, -Int.not_le, -Int.not_lt, -getElem?_pos, -List.getD_eq_getElem?_getD, h1, h2]
    refine WP.loop mixed [] (fun i : Nat => ⟨tl [(2, .ptr (1, 0) 0), (6, .ptr (2, 0) 0), (7, I i)], hl [((1, 0), .box [I 0, .nil]), ((2, 0), .box [I d, .ref (3, 0) L.length]), ((3, 0), .row 52 L.length (dl (asD (curL L i))))], 4⟩) (fun i => i ≤ L.length) (fun i => L.length - i) 0 (by kernel_rfl) ?_ ?_ ?_
    · refine Le.told [((2, 0), (15, 0)), ((3, 0), (14, 0))] ?_ ?_ ?_ <;> simp [-Bool.exists_bool, -Int.not_le, -Int.not_lt, -getElem?_pos, -List.getD_eq_getElem?_getD, setH, curL]
    · simp [-Bool.exists_bool, -Int.not_le, -Int.not_lt, -getElem?_pos, -List.getD_eq_getElem?_getD]
    · intro i hi
      by_cases h : i < L.length
      · have hb : i * 3 + 2 + 1 ≤ (curL L i).length * 3 := by rw [curL_len]; omega
        simp -implicitDefEqProofs -dsimp +contextual [-Bool.exists_bool, -Int.not_le, -Int.not_lt, -getElem?_pos, -List.getD_eq_getElem?_getD, h, hb]
        refine ⟨i + 1, h, by omega, ?_⟩
        rw [wr (by omega) (by omega)]
        have hp := asD_put L i h
        simp only [show i * 3 + 2 + 1 = (i + 1) * 3 by omega, asD_dropE] at hp
        refine Le.told [] ?_ ?_ ?_ <;> simp [-Bool.exists_bool, -Int.not_le, -Int.not_lt, -getElem?_pos, -List.getD_eq_getElem?_getD, hp]
      · obtain rfl : i = L.length := by omega
        simp -implicitDefEqProofs -dsimp +contextual [-Bool.exists_bool, -Int.not_le, -Int.not_lt, -getElem?_pos, -List.getD_eq_getElem?_getD, h]
        have ec : curL L L.length = L.map clo := by simp [-Bool.exists_bool, -Int.not_le, -Int.not_lt, -getElem?_pos, -List.getD_eq_getElem?_getD, curL]
        rw [ec]
        refine CallJ.frz (t := 52) (n := L.length) (c := dl (asD (L.map clo))) (c' := asD (L.map clo)) (3, 0) (l3Normal d hd (L.map clo) (by simp [-Bool.exists_bool, -Int.not_le, -Int.not_lt, -getElem?_pos, -List.getD_eq_getElem?_getD]; omega) (clo_all hok)) (by simp [-Bool.exists_bool, -Int.not_le, -Int.not_lt, -getElem?_pos, -List.getD_eq_getElem?_getD]) (dl_asDs _) (ks := [(3, 0)]) (by simp [-Bool.exists_bool, -Int.not_le, -Int.not_lt, -getElem?_pos, -List.getD_eq_getElem?_getD, setH]) (by simp [-Bool.exists_bool, -Int.not_le, -Int.not_lt, -getElem?_pos, -List.getD_eq_getElem?_getD]) ?_
        simp -implicitDefEqProofs -dsimp +contextual [-Bool.exists_bool, -Int.not_le, -Int.not_lt, -getElem?_pos, -List.getD_eq_getElem?_getD, h]
        refine RLe.pure 3 ?_
        rw [closD, if_pos h1, if_neg (by simp [-Bool.exists_bool, -Int.not_le, -Int.not_lt, -getElem?_pos, -List.getD_eq_getElem?_getD, h2])]
        simp [-Bool.exists_bool, -Int.not_le, -Int.not_lt, -getElem?_pos, -List.getD_eq_getElem?_getD]
theorem closD_small (d : Int) (L : List At) : Small (closD d L).2.1 := by
  unfold closD
  split
  · rename_i h
    have hce := emptyC_ce h
    split
    · exact Small.ok (d := d) (by simp [-Bool.exists_bool, -Int.not_le, -Int.not_lt, -getElem?_pos, -List.getD_eq_getElem?_getD]) (fun x hx => by rw [List.mem_singleton.1 hx]; exact noneA_ok (isCe_d hce))
    · exact Small.ok (nrm_16 d _ (by simpa [-Bool.exists_bool, -Int.not_le, -Int.not_lt, -getElem?_pos, -List.getD_eq_getElem?_getD] using isCe_l hce)) (nrm_okL (isCe_d hce) (clo_all (isCe_a hce)))
  · exact Small.nil
theorem closD_f {d : Int} {L : List At} (h : ¬ (closD d L).2.2 = true) : closD d L = (0, [], false) := by
  unfold closD at h ⊢
  split
  · rename_i h1
    rw [if_pos h1] at h
    split at h <;> exact absurd rfl h
  · rfl
theorem isCe_clo {d : Int} {L : List At} (h : isCe d L = true) : isCe d (L.map clo) = true := by
  rw [isCe_iff] at h ⊢
  refine ⟨h.1, by simpa [-Bool.exists_bool, -Int.not_le, -Int.not_lt, -getElem?_pos, -List.getD_eq_getElem?_getD] using h.2.1, fun x hx => ?_⟩
  obtain ⟨a, ha, rfl⟩ := List.mem_map.1 hx
  exact h.2.2 a ha
theorem iClosureOfCell (d : Int) (L : List At) (h20 : L.length ≤ 1048576) : Cn Try.prog 41 [C1 d L] (oV (closD d L)) (oH (closD d L)) := by
  refine Cn.of [] mixed Try.func41 rfl Try.call41 (by kernel_rfl) rfl ?_
  simp -implicitDefEqProofs -dsimp +contextual [-Bool.exists_bool, -Int.not_le, -Int.not_lt, -getElem?_pos, -List.getD_eq_getElem?_getD, Try.f41]
  refine CallJ.pure (iIsEmptyCell d L h20) rfl (by simp [-Bool.exists_bool, -Int.not_le, -Int.not_lt, -getElem?_pos, -List.getD_eq_getElem?_getD]) ?_
  simp -implicitDefEqProofs -dsimp +contextual [-Bool.exists_bool, -Int.not_le, -Int.not_lt, -getElem?_pos, -List.getD_eq_getElem?_getD]
  refine ⟨fun h1 => ?_, fun h1 => by rw [closD, if_neg (by simp [-Bool.exists_bool, -Int.not_le, -Int.not_lt, -getElem?_pos, -List.getD_eq_getElem?_getD, h1]), oV_f (by simp [-Bool.exists_bool, -Int.not_le, -Int.not_lt, -getElem?_pos, -List.getD_eq_getElem?_getD]), oH_f (by simp [-Bool.exists_bool, -Int.not_le, -Int.not_lt, -getElem?_pos, -List.getD_eq_getElem?_getD])]; exact RLe.emp (by simp [-Bool.exists_bool, -Int.not_le, -Int.not_lt, -getElem?_pos, -List.getD_eq_getElem?_getD])⟩
  have hce := emptyC_ce h1
  have hd := isCe_d hce
  have h16 := isCe_l hce
  have hok := isCe_a hce
  refine ⟨fun h2 => ?_, fun h2 => ?_⟩
  · refine CallJ.pure (iEmptyCell d hd) rfl (by simp [-Bool.exists_bool, -Int.not_le, -Int.not_lt, -getElem?_pos, -List.getD_eq_getElem?_getD]) ?_
    simp -implicitDefEqProofs -dsimp +contextual [-Bool.exists_bool, -Int.not_le, -Int.not_lt, -getElem?_pos, -List.getD_eq_getElem?_getD, h1, h2]
    rw [closD, if_pos h1, if_pos h2, oV_t rfl, oH_t rfl]
    refine RLe.pass 15 _ ?_ ?_ ?_
    · simp [-Bool.exists_bool, -Int.not_le, -Int.not_lt, -getElem?_pos, -List.getD_eq_getElem?_getD, invO]
    · simp [-Bool.exists_bool, -Int.not_le, -Int.not_lt, -getElem?_pos, -List.getD_eq_getElem?_getD, setH, upOwn_0]
    · intro j hj; simp [-Bool.exists_bool, -Int.not_le, -Int.not_lt, -getElem?_pos, -List.getD_eq_getElem?_getD, setH, upOwn_j _ _ _ _ hj]
  · refine CallJ.pure (iCopyCell d L (by omega) (fun a ha => okA_small (hok a ha))) rfl (by simp [-Bool.exists_bool, -Int.not_le, -Int.not_lt, -getElem?_pos, -List.getD_eq_getElem?_getD]) ?_
    simp -implicitDefEqProofs -dsimp +contextual [-Bool.exists_bool, -Int.not_le, -Int.not_lt, -getElem?_pos, -List.getD_eq_getElem?_getD, h1, h2]
    refine WP.loop mixed [] (fun i : Nat => ⟨tl [(2, .ptr (1, 0) 0), (6, .ptr (2, 0) 0), (24, I L.length), (25, I i)], hl [((1, 0), .box [I 0, .nil]), ((2, 0), .box [I d, .ref (3, 0) L.length]), ((3, 0), .row 52 L.length (dl (asD (curL L i))))], 4⟩) (fun i => i ≤ L.length) (fun i => L.length - i) 0 (by kernel_rfl) ?_ ?_ ?_
    · refine Le.told [((2, 0), (15, 0)), ((3, 0), (14, 0))] ?_ ?_ ?_ <;> simp [-Bool.exists_bool, -Int.not_le, -Int.not_lt, -getElem?_pos, -List.getD_eq_getElem?_getD, setH, curL]
    · simp [-Bool.exists_bool, -Int.not_le, -Int.not_lt, -getElem?_pos, -List.getD_eq_getElem?_getD]
    · intro i hi
      by_cases h : i < L.length
      · have hb : i * 3 + 2 + 1 ≤ (curL L i).length * 3 := by rw [curL_len]; omega
        simp -implicitDefEqProofs -dsimp +contextual [-Bool.exists_bool, -Int.not_le, -Int.not_lt, -getElem?_pos, -List.getD_eq_getElem?_getD, h, hb]
        refine ⟨i + 1, h, by omega, ?_⟩
        rw [wr (by omega) (by omega)]
        have hp := asD_put L i h
        simp only [show i * 3 + 2 + 1 = (i + 1) * 3 by omega, asD_dropE] at hp
        refine Le.told [] ?_ ?_ ?_ <;> simp [-Bool.exists_bool, -Int.not_le, -Int.not_lt, -getElem?_pos, -List.getD_eq_getElem?_getD, hp]
      · obtain rfl : i = L.length := by omega
        simp -implicitDefEqProofs -dsimp +contextual [-Bool.exists_bool, -Int.not_le, -Int.not_lt, -getElem?_pos, -List.getD_eq_getElem?_getD, h]
        have ec : curL L L.length = L.map clo := by simp [-Bool.exists_bool, -Int.not_le, -Int.not_lt, -getElem?_pos, -List.getD_eq_getElem?_getD, curL]
        have hN := iNormalCell d (L.map clo) (by simp [-Bool.exists_bool, -Int.not_le, -Int.not_lt, -getElem?_pos, -List.getD_eq_getElem?_getD]; omega)
        have en : normD d (L.map clo) = (d, nrm d (L.map clo), true) := by rw [normD, if_pos (isCe_clo hce)]
        rw [en, oV_t rfl, oH_t rfl] at hN
        have e9 : closD d L = (d, nrm d (L.map clo), true) := by rw [closD, if_pos h1, if_neg (by simp [-Bool.exists_bool, -Int.not_le, -Int.not_lt, -getElem?_pos, -List.getD_eq_getElem?_getD, h2])]
        rw [e9, oV_t rfl, oH_t rfl, ec]
        refine CallJ.lent (ks := [(3, 0)]) 2 hN (by simp [-Bool.exists_bool, -Int.not_le, -Int.not_lt, -getElem?_pos, -List.getD_eq_getElem?_getD, lendVs, lendV, List.length_map]) (by simp [-Bool.exists_bool, -Int.not_le, -Int.not_lt, -getElem?_pos, -List.getD_eq_getElem?_getD]) (by simp [-Bool.exists_bool, -Int.not_le, -Int.not_lt, -getElem?_pos, -List.getD_eq_getElem?_getD, noSh, noShL, noShD]) (fun k e h => noSh_ownR _ k e h) ?_
        simp -implicitDefEqProofs -dsimp +contextual [-Bool.exists_bool, -Int.not_le, -Int.not_lt, -getElem?_pos, -List.getD_eq_getElem?_getD, h]
        refine RLe.pass 6 _ ?_ ?_ ?_
        · simp [-Bool.exists_bool, -Int.not_le, -Int.not_lt, -getElem?_pos, -List.getD_eq_getElem?_getD, invO]
        · simp [-Bool.exists_bool, -Int.not_le, -Int.not_lt, -getElem?_pos, -List.getD_eq_getElem?_getD, setH, upOwn_0]
        · intro j hj; simp [-Bool.exists_bool, -Int.not_le, -Int.not_lt, -getElem?_pos, -List.getD_eq_getElem?_getD, setH, upOwn_j _ _ _ _ hj]
theorem iClosureOfCellW (d : Int) (L : List At) (h20 : L.length ≤ 1048576) : Cn Try.prog 41 [C1 d L] (D2 (closD d L)) hemp := Cn.weak closD_f (iClosureOfCell d L h20)
end Go.Proofs.Ytkicjflhokckgaa.ZL
namespace Go.Proofs.Ytkicjflhokckgaa.ZL
open Go Go.Proofs.Ytkicjflhokckgaa.Abs Go.Proofs.Ytkicjflhokckgaa.Abs.Pl Go.RowKit Go.Proofs
set_option linter.unusedVariables false
set_option linter.unusedSimpArgs false
abbrev Ra (n d : Int) : V := .agg [I n, I d]
theorem isNum_63 {x : Int} (h : isNum x = true) : bd63 x := by have := isNum_iff.1 h; constructor <;> omega
theorem iGcdOf (a b : Int) : Cn Try.prog 107 [I a, I b] (I (gcdOf a b)) hemp := by
  refine Cn.of [] mixed Try.func107 rfl Try.call107 (by kernel_rfl) rfl ?_
  simp -implicitDefEqProofs -dsimp +contextual [-Bool.exists_bool, -Int.not_le, -Int.not_lt, -getElem?_pos, -List.getD_eq_getElem?_getD, Try.f107]
  refine CallJ.pure (iIsNumber a) rfl (by simp [-Bool.exists_bool, -Int.not_le, -Int.not_lt, -getElem?_pos, -List.getD_eq_getElem?_getD]) ?_
  simp -implicitDefEqProofs -dsimp +contextual [-Bool.exists_bool, -Int.not_le, -Int.not_lt, -getElem?_pos, -List.getD_eq_getElem?_getD]
  refine ⟨fun h1 => ?_, fun h1 => RLe.pure 1 (by simp [-Bool.exists_bool, -Int.not_le, -Int.not_lt, -getElem?_pos, -List.getD_eq_getElem?_getD, gcdOf, h1])⟩
  refine CallJ.pure (iIsNumber b) rfl (by simp [-Bool.exists_bool, -Int.not_le, -Int.not_lt, -getElem?_pos, -List.getD_eq_getElem?_getD]) ?_
  simp -implicitDefEqProofs -dsimp +contextual [-Bool.exists_bool, -Int.not_le, -Int.not_lt, -getElem?_pos, -List.getD_eq_getElem?_getD, h1]
  refine ⟨fun h2 => ?_, fun h2 => RLe.pure 1 (by simp [-Bool.exists_bool, -Int.not_le, -Int.not_lt, -getElem?_pos, -List.getD_eq_getElem?_getD, gcdOf, h1, h2])⟩
  refine CallJ.pure (iCommonDivisor a b (isNum_63 h1) (isNum_63 h2)) rfl (by simp [-Bool.exists_bool, -Int.not_le, -Int.not_lt, -getElem?_pos, -List.getD_eq_getElem?_getD]) ?_
  simp -implicitDefEqProofs -dsimp +contextual [-Bool.exists_bool, -Int.not_le, -Int.not_lt, -getElem?_pos, -List.getD_eq_getElem?_getD, h1, h2]
  exact RLe.pure 1 (by simp [-Bool.exists_bool, -Int.not_le, -Int.not_lt, -getElem?_pos, -List.getD_eq_getElem?_getD, gcdOf, h1, h2])
theorem isRat_gcd {n d : Int} : isRat n d = (decide (1 ≤ d) && decide (d ≤ 400000000) && isNum n && decide (gcdOf n d = 1)) := by
  unfold isRat gcdOf isNum
  by_cases h1 : 1 ≤ d <;> by_cases h2 : d ≤ 400000000 <;> by_cases h3 : -400000000 ≤ n <;> by_cases h4 : n ≤ 400000000 <;> simp [-Bool.exists_bool, -Int.not_le, -Int.not_lt, -getElem?_pos, -List.getD_eq_getElem?_getD, h1, h2, h3, h4]
  rw [if_pos (by omega)]
  omega
theorem IsRatio (n d : Int) : Cn Try.prog 63 [Ra n d] (B (isRat n d)) hemp := by
  refine Cn.of [] mixed Try.func63 rfl Try.call63 (by kernel_rfl) rfl ?_
  simp -implicitDefEqProofs -dsimp +contextual [-Bool.exists_bool, -Int.not_le, -Int.not_lt, -getElem?_pos, -List.getD_eq_getElem?_getD, Try.f63]
  refine CallJ.pure (l1In d 1 400000000) rfl (by simp [-Bool.exists_bool, -Int.not_le, -Int.not_lt, -getElem?_pos, -List.getD_eq_getElem?_getD]) ?_
  rw [isRat_gcd]
  simp -implicitDefEqProofs -dsimp +contextual [-Bool.exists_bool, -Int.not_le, -Int.not_lt, -getElem?_pos, -List.getD_eq_getElem?_getD]
  refine ⟨fun h1 => ?_, fun h1 => ?_⟩
  · have h1' : 1 ≤ d ∧ d ≤ 400000000 := by simpa [-Bool.exists_bool, -Int.not_le, -Int.not_lt, -getElem?_pos, -List.getD_eq_getElem?_getD, inB] using h1
    refine CallJ.pure (IsNumber n) rfl (by simp [-Bool.exists_bool, -Int.not_le, -Int.not_lt, -getElem?_pos, -List.getD_eq_getElem?_getD]) ?_
    simp -implicitDefEqProofs -dsimp +contextual [-Bool.exists_bool, -Int.not_le, -Int.not_lt, -getElem?_pos, -List.getD_eq_getElem?_getD, h1, h1']
    refine ⟨fun h2 => ?_, fun h2 => RLe.bb (by simp [-Bool.exists_bool, -Int.not_le, -Int.not_lt, -getElem?_pos, -List.getD_eq_getElem?_getD, h2])⟩
    refine CallJ.pure (GcdOf n d) rfl (by simp [-Bool.exists_bool, -Int.not_le, -Int.not_lt, -getElem?_pos, -List.getD_eq_getElem?_getD]) ?_
    simp -implicitDefEqProofs -dsimp +contextual [-Bool.exists_bool, -Int.not_le, -Int.not_lt, -getElem?_pos, -List.getD_eq_getElem?_getD, h1, h2]
    exact RLe.bb (by simp [-Bool.exists_bool, -Int.not_le, -Int.not_lt, -getElem?_pos, -List.getD_eq_getElem?_getD, h1'])
  · refine RLe.bb ?_
    have : ¬ (1 ≤ d ∧ d ≤ 400000000) := by simpa [-Bool.exists_bool, -Int.not_le, -Int.not_lt, -getElem?_pos, -List.getD_eq_getElem?_getD, inB] using h1
    by_cases h2 : 1 ≤ d
    · have h3 : ¬ d ≤ 400000000 := fun h3 => this ⟨h2, h3⟩
      simp [-Bool.exists_bool, -Int.not_le, -Int.not_lt, -getElem?_pos, -List.getD_eq_getElem?_getD, h3]
    · simp [-Bool.exists_bool, -Int.not_le, -Int.not_lt, -getElem?_pos, -List.getD_eq_getElem?_getD, h2]
theorem iIsRatio (n d : Int) : Cn Try.prog 65 [Ra n d] (B (isRat n d)) hemp := by
  refine Cn.of [] mixed Try.func65 rfl Try.call65 (by kernel_rfl) rfl ?_
  rw [isRat_gcd]
  simp -implicitDefEqProofs -dsimp +contextual [-Bool.exists_bool, -Int.not_le, -Int.not_lt, -getElem?_pos, -List.getD_eq_getElem?_getD, Try.f65]
  refine ⟨fun h1 => ⟨fun h1b => ?_, fun _ => RLe.bb rfl⟩, fun _ => RLe.bb rfl⟩
  refine CallJ.pure (iIsNumber n) rfl (by simp [-Bool.exists_bool, -Int.not_le, -Int.not_lt, -getElem?_pos, -List.getD_eq_getElem?_getD]) ?_
  simp -implicitDefEqProofs -dsimp +contextual [-Bool.exists_bool, -Int.not_le, -Int.not_lt, -getElem?_pos, -List.getD_eq_getElem?_getD, h1, h1b]
  refine ⟨fun h2 => ?_, fun h2 => RLe.bb (by simp [-Bool.exists_bool, -Int.not_le, -Int.not_lt, -getElem?_pos, -List.getD_eq_getElem?_getD, h2])⟩
  refine CallJ.pure (iGcdOf n d) rfl (by simp [-Bool.exists_bool, -Int.not_le, -Int.not_lt, -getElem?_pos, -List.getD_eq_getElem?_getD]) ?_
  simp -implicitDefEqProofs -dsimp +contextual [-Bool.exists_bool, -Int.not_le, -Int.not_lt, -getElem?_pos, -List.getD_eq_getElem?_getD, h1, h1b, h2]
  exact RLe.bb (by simp [-Bool.exists_bool, -Int.not_le, -Int.not_lt, -getElem?_pos, -List.getD_eq_getElem?_getD])
theorem toRatio (n d : Int) : Cn Try.prog 26 [Ra n d] (Ra n d) hemp := by
  refine Cn.of [] mixed Try.func26 rfl Try.call26 (by kernel_rfl) rfl ?_
  simp -implicitDefEqProofs -dsimp +contextual [-Bool.exists_bool, -Int.not_le, -Int.not_lt, -getElem?_pos, -List.getD_eq_getElem?_getD, Try.f26]
  exact RLe.pure 2 (by simp [-Bool.exists_bool, -Int.not_le, -Int.not_lt, -getElem?_pos, -List.getD_eq_getElem?_getD])
def fixI (l : List Int) (v : Nat) (d : Int) : List Int := (l.map (· * d)).set v 0
def fixA (a : At) (v n d : Int) : At2 := if isAt a.1 a.2.1 = true ∧ isRat n d = true ∧ 0 ≤ v ∧ v < a.1.length then mkAt (fixI a.1 v.toNat d) (a.2.1 * d + nth a.1 v.toNat * n) a.2.2 else noAt
theorem fixI_len (l : List Int) (v : Nat) (d : Int) : (fixI l v d).length = l.length := by simp [-Bool.exists_bool, -Int.not_le, -Int.not_lt, -getElem?_pos, -List.getD_eq_getElem?_getD, fixI]
theorem fixI_nth (l : List Int) (v : Nat) (d : Int) (i : Nat) (h : i < l.length) : nth (fixI l v d) i = if i = v then 0 else nth l i * d := by
  rw [nth_eq (by rw [fixI_len]; exact h), nth_eq h]
  unfold fixI
  rw [List.getElem_set]
  simp only [List.getElem_map]
  by_cases e : v = i
  · rw [if_pos e, if_pos e.symm]
  · rw [if_neg e, if_neg (fun h => e h.symm)]
theorem mul_bd {x y : Int} (hx : isNum x = true) (hy : -400000000 ≤ y ∧ y ≤ 400000000) : -160000000000000000 ≤ x * y ∧ x * y ≤ 160000000000000000 := by
  have hx := isNum_iff.1 hx
  have h1 : (x * y).natAbs ≤ 400000000 * 400000000 := by
    rw [Int.natAbs_mul]
    exact Nat.mul_le_mul (by omega) (by omega)
  omega
theorem FixVariable (a : At) (v n d : Int) (h20 : a.1.length ≤ 1048576) : Cn Try.prog 64 [A1 a, I v, Ra n d] (A2 (fixA a v n d)) hemp := by
  refine Cn.of [] mixed Try.func64 rfl Try.call64 (by kernel_rfl) rfl ?_
  simp -implicitDefEqProofs -dsimp +contextual [-Bool.exists_bool, -Int.not_le, -Int.not_lt, -getElem?_pos, -List.getD_eq_getElem?_getD, Try.f64]
  have no : ∀ {H : Store}, ¬ (isAt a.1 a.2.1 = true ∧ isRat n d = true ∧ 0 ≤ v ∧ v < a.1.length) → RLe Try.prog H (V.tup [V.agg [V.nil, V.d (D.int IntKind.i64 0), V.d (D.bool false)], V.d (D.bool false)]) (A2 (fixA a v n d)) hemp := fun h => by
    rw [fixA, if_neg h]
    exact RLe.pure 3 (by simp [-Bool.exists_bool, -Int.not_le, -Int.not_lt, -getElem?_pos, -List.getD_eq_getElem?_getD, noAt])
  refine CallJ.pure (IsAtom a) rfl (by simp [-Bool.exists_bool, -Int.not_le, -Int.not_lt, -getElem?_pos, -List.getD_eq_getElem?_getD]) ?_
  simp -implicitDefEqProofs -dsimp +contextual [-Bool.exists_bool, -Int.not_le, -Int.not_lt, -getElem?_pos, -List.getD_eq_getElem?_getD]
  refine ⟨fun h1 => ?_, fun h1 => no (by simp [-Bool.exists_bool, -Int.not_le, -Int.not_lt, -getElem?_pos, -List.getD_eq_getElem?_getD, h1])⟩
  refine CallJ.pure (IsRatio n d) rfl (by simp [-Bool.exists_bool, -Int.not_le, -Int.not_lt, -getElem?_pos, -List.getD_eq_getElem?_getD]) ?_
  simp -implicitDefEqProofs -dsimp +contextual [-Bool.exists_bool, -Int.not_le, -Int.not_lt, -getElem?_pos, -List.getD_eq_getElem?_getD, h1]
  refine ⟨fun h2 => ?_, fun h2 => no (by simp [-Bool.exists_bool, -Int.not_le, -Int.not_lt, -getElem?_pos, -List.getD_eq_getElem?_getD, h2])⟩
  have p := isAt_iff.1 h1
  have q := isRat_iff.1 h2
  rw [wr (by omega) (by omega)]
  refine CallJ.pure (l1In v 0 (a.1.length - 1)) rfl (by simp [-Bool.exists_bool, -Int.not_le, -Int.not_lt, -getElem?_pos, -List.getD_eq_getElem?_getD]) ?_
  simp -implicitDefEqProofs -dsimp +contextual [-Bool.exists_bool, -Int.not_le, -Int.not_lt, -getElem?_pos, -List.getD_eq_getElem?_getD, h1, h2]
  refine ⟨fun h3 => ?_, fun h3 => no (by simp [-Bool.exists_bool, -Int.not_le, -Int.not_lt, -getElem?_pos, -List.getD_eq_getElem?_getD, inB] at h3; omega)⟩
  have hv : 0 ≤ v ∧ v < a.1.length := by simp [-Bool.exists_bool, -Int.not_le, -Int.not_lt, -getElem?_pos, -List.getD_eq_getElem?_getD, inB] at h3; omega
  rw [fixA, if_pos ⟨h1, h2, hv⟩]
  obtain ⟨v', rfl⟩ : ∃ v' : Nat, v = v' := ⟨v.toNat, by omega⟩
  simp only [Int.toNat_natCast]
  have hv' : v' < a.1.length := by omega
  have hlen : a.1.length ≤ 4 := p.1
  refine WP.loopF mixed [] (fun i : Nat => ⟨tl [(1, I v'), (3, .ptr (0, 0) 0), (5, .ptr (1, 0) 0), (6, .ptr (2, 0) 0), (8, .ref (3, 0) i), (9, I i)], hl [((0, 0), .box (aV a)), ((1, 0), .box [I n, I d]), ((2, 0), .box [.nil, I 0, B false]), ((3, 0), .row 3 i (dl (((fixI a.1 v' d).take i).map (.int .i64))))], 4⟩) (fun i => i ≤ a.1.length) (fun i => a.1.length - i) 0 (by kernel_rfl) ?_ ?_ ?_
  · refine Le.trans (Le.nil 8 3 (by simp [-Bool.exists_bool, -Int.not_le, -Int.not_lt, -getElem?_pos, -List.getD_eq_getElem?_getD])) (Le.told [((3, 0), (24, 0))] ?_ ?_ ?_) <;> simp [-Bool.exists_bool, -Int.not_le, -Int.not_lt, -getElem?_pos, -List.getD_eq_getElem?_getD, setH]
  · simp [-Bool.exists_bool, -Int.not_le, -Int.not_lt, -getElem?_pos, -List.getD_eq_getElem?_getD]
  · intro i hi
    by_cases h : i < a.1.length
    · refine ⟨_, Le.refl _ _ _, ?_⟩
      have hn := fixI_nth a.1 v' d i h
      have ht := nth_take (l := fixI a.1 v' d) (i := i) (by rw [fixI_len]; exact h)
      have hb := mul_bd (p.2.2.1 _ (nth_mem h)) (by omega : -400000000 ≤ d ∧ d ≤ 400000000)
      simp -implicitDefEqProofs -dsimp +contextual [-Bool.exists_bool, -Int.not_le, -Int.not_lt, -getElem?_pos, -List.getD_eq_getElem?_getD, h]
      refine ⟨fun hiv => ?_, fun hiv => ?_⟩
      · refine ⟨⟨by omega, by simp [-Bool.exists_bool, -Int.not_le, -Int.not_lt, -getElem?_pos, -List.getD_eq_getElem?_getD, maxLen]; omega⟩, i + 1, h, by omega, ?_⟩
        rw [hn, if_pos (by omega)] at ht
        rw [wr (by omega) (by omega)]
        refine Le.told [((3, 0), (14, 0))] ?_ ?_ ?_ <;> simp [-Bool.exists_bool, -Int.not_le, -Int.not_lt, -getElem?_pos, -List.getD_eq_getElem?_getD, ht, ← List.map_take, hiv]
      · refine ⟨⟨by omega, by simp [-Bool.exists_bool, -Int.not_le, -Int.not_lt, -getElem?_pos, -List.getD_eq_getElem?_getD, maxLen]; omega⟩, by kernel_rfl, i + 1, h, by omega, ?_⟩
        rw [hn, if_neg (by omega)] at ht
        rw [wr (by omega) (by omega), wr (by omega) (by omega)]
        refine Le.told [((3, 0), (22, 0))] ?_ ?_ ?_ <;> simp [-Bool.exists_bool, -Int.not_le, -Int.not_lt, -getElem?_pos, -List.getD_eq_getElem?_getD, ht, ← List.map_take]
    · obtain rfl : i = a.1.length := by omega
      refine ⟨⟨tl [(1, I v'), (3, .ptr (0, 0) 0), (5, .ptr (1, 0) 0), (6, .ptr (2, 0) 0), (8, .ref (3, 0) a.1.length), (9, I a.1.length)], hl [((0, 0), .box (aV a)), ((1, 0), .box [I n, I d]), ((2, 0), .box [.nil, I 0, B false]), ((3, 0), .fz a.1.length ((fixI a.1 v' d).map (.int .i64)))], 4⟩, ?_, ?_⟩
      · refine Le.told [] ?_ ?_ ?_ <;> simp [-Bool.exists_bool, -Int.not_le, -Int.not_lt, -getElem?_pos, -List.getD_eq_getElem?_getD]
        rw [List.take_of_length_le (by simp [-Bool.exists_bool, -Int.not_le, -Int.not_lt, -getElem?_pos, -List.getD_eq_getElem?_getD, fixI_len])]
      simp -implicitDefEqProofs -dsimp +contextual [-Bool.exists_bool, -Int.not_le, -Int.not_lt, -getElem?_pos, -List.getD_eq_getElem?_getD, hv']
      have hb1 := mul_bd p.2.1 (by omega : -400000000 ≤ d ∧ d ≤ 400000000)
      have hb2 := mul_bd (p.2.2.1 _ (nth_mem hv')) q.2.1
      have w1 : IntKind.wrap .i64 (a.2.1 * d) = a.2.1 * d := wr (by omega) (by omega)
      have w2 : IntKind.wrap .i64 (nth a.1 v' * n) = nth a.1 v' * n := wr (by omega) (by omega)
      rw [w1, w2, wr (by omega) (by omega)]
      have hL := l2Atom (fixI a.1 v' d) (a.2.1 * d + nth a.1 v' * n) a.2.2 (by rw [fixI_len]; omega) (fun y hy => ?_) ⟨by omega, by omega⟩
      · refine CallJ.pure (ks := [(3, 0)]) hL (by simp [-Bool.exists_bool, -Int.not_le, -Int.not_lt, -getElem?_pos, -List.getD_eq_getElem?_getD, fixI_len]) (by simp [-Bool.exists_bool, -Int.not_le, -Int.not_lt, -getElem?_pos, -List.getD_eq_getElem?_getD]) ?_
        simp -implicitDefEqProofs -dsimp +contextual [-Bool.exists_bool, -Int.not_le, -Int.not_lt, -getElem?_pos, -List.getD_eq_getElem?_getD, hv']
        exact RLe.pure 3 (by simp [-Bool.exists_bool, -Int.not_le, -Int.not_lt, -getElem?_pos, -List.getD_eq_getElem?_getD])
      · obtain ⟨i, hi, rfl⟩ := List.getElem_of_mem hy
        have hi' : i < a.1.length := by rwa [fixI_len] at hi
        have e := fixI_nth a.1 v' d i hi'
        rw [nth_eq hi] at e
        rw [e]
        have := mul_bd (p.2.2.1 _ (nth_mem hi')) (by omega : -400000000 ≤ d ∧ d ≤ 400000000)
        split <;> omega
def muls (l : List Int) (d : Int) (i : Nat) : List Int := (l.take i).map (· * d) ++ List.replicate (l.length - i) 0
theorem muls_len (l : List Int) (d : Int) (i : Nat) (h : i ≤ l.length) : (muls l d i).length = l.length := by simp [-Bool.exists_bool, -Int.not_le, -Int.not_lt, -getElem?_pos, -List.getD_eq_getElem?_getD, muls]; omega
theorem muls_set (l : List Int) (d : Int) (i : Nat) (h : i < l.length) : (muls l d i).set i (nth l i * d) = muls l d (i + 1) := by
  have e : l.length - i = (l.length - (i + 1)) + 1 := by omega
  unfold muls
  rw [e, List.replicate_succ, nth_take h, List.set_append_right _ _ (by simp [-Bool.exists_bool, -Int.not_le, -Int.not_lt, -getElem?_pos, -List.getD_eq_getElem?_getD]; omega)]
  simp [-Bool.exists_bool, -Int.not_le, -Int.not_lt, -getElem?_pos, -List.getD_eq_getElem?_getD, Nat.min_eq_left (Nat.le_of_lt h)]
theorem iFixVariable (a : At) (v n d : Int) (h20 : a.1.length ≤ 1048576) : Cn Try.prog 66 [A1 a, I v, Ra n d] (A2 (fixA a v n d)) hemp := by
  refine Cn.of [0] mixed Try.func66 rfl Try.call66 (by kernel_rfl) rfl ?_
  simp -implicitDefEqProofs -dsimp +contextual [-Bool.exists_bool, -Int.not_le, -Int.not_lt, -getElem?_pos, -List.getD_eq_getElem?_getD, Try.f66]
  have no : ∀ {H : Store}, ¬ (isAt a.1 a.2.1 = true ∧ isRat n d = true ∧ 0 ≤ v ∧ v < a.1.length) → RLe Try.prog H (V.tup [V.agg [V.nil, V.d (D.int IntKind.i64 0), V.d (D.bool false)], V.d (D.bool false)]) (A2 (fixA a v n d)) hemp := fun h => by
    rw [fixA, if_neg h]
    exact RLe.pure 3 (by simp [-Bool.exists_bool, -Int.not_le, -Int.not_lt, -getElem?_pos, -List.getD_eq_getElem?_getD, noAt])
  refine CallJ.pure (iIsAtom a) rfl (by simp [-Bool.exists_bool, -Int.not_le, -Int.not_lt, -getElem?_pos, -List.getD_eq_getElem?_getD]) ?_
  simp -implicitDefEqProofs -dsimp +contextual [-Bool.exists_bool, -Int.not_le, -Int.not_lt, -getElem?_pos, -List.getD_eq_getElem?_getD]
  refine ⟨fun h1 => ?_, fun h1 => no (by simp [-Bool.exists_bool, -Int.not_le, -Int.not_lt, -getElem?_pos, -List.getD_eq_getElem?_getD, h1])⟩
  refine CallJ.pure (iIsRatio n d) rfl (by simp [-Bool.exists_bool, -Int.not_le, -Int.not_lt, -getElem?_pos, -List.getD_eq_getElem?_getD]) ?_
  simp -implicitDefEqProofs -dsimp +contextual [-Bool.exists_bool, -Int.not_le, -Int.not_lt, -getElem?_pos, -List.getD_eq_getElem?_getD, h1]
  refine ⟨fun h2 => ?_, fun h2 => no (by simp [-Bool.exists_bool, -Int.not_le, -Int.not_lt, -getElem?_pos, -List.getD_eq_getElem?_getD, h2])⟩
  have p := isAt_iff.1 h1
  have q := isRat_iff.1 h2
  have hlen : a.1.length ≤ 4 := p.1
  refine ⟨fun h3 => no (by omega), fun h3 => ⟨fun h4 => no (by omega), fun h4 => ?_⟩⟩
  have hv : 0 ≤ v ∧ v < a.1.length := by omega
  rw [fixA, if_pos ⟨h1, h2, hv⟩]
  obtain ⟨v', rfl⟩ : ∃ v' : Nat, v = v' := ⟨v.toNat, by omega⟩
  simp only [Int.toNat_natCast]
  have hv' : v' < a.1.length := by omega
  refine ⟨⟨by omega, by simp [-Bool.exists_bool, -Int.not_le, -Int.not_lt, -getElem?_pos, -List.getD_eq_getElem?_getD, maxLen]; omega⟩, ?_⟩
  refine WP.loop mixed [0] (fun i : Nat => ⟨tl [(1, I v'), (3, .ptr (0, 0) 0), (5, .ptr (1, 0) 0), (6, .ptr (2, 0) 0), (8, .ref (3, 0) a.1.length), (35, I a.1.length), (36, I i)], hl [((0, 0), .box (aV a)), ((1, 0), .box [I n, I d]), ((2, 0), .box [.nil, I 0, B false]), ((3, 0), .row 3 a.1.length (dl ((muls a.1 d i).map (.int .i64))))], 4⟩) (fun i => i ≤ a.1.length) (fun i => a.1.length - i) 0 (by kernel_rfl) ?_ ?_ ?_
  · refine Le.told [((3, 0), (26, 0))] ?_ ?_ ?_ <;> simp [-Bool.exists_bool, -Int.not_le, -Int.not_lt, -getElem?_pos, -List.getD_eq_getElem?_getD, setH, muls]
  · simp [-Bool.exists_bool, -Int.not_le, -Int.not_lt, -getElem?_pos, -List.getD_eq_getElem?_getD]
  · intro i hi
    by_cases h : i < a.1.length
    · have hb := mul_bd (p.2.2.1 _ (nth_mem h)) (by omega : -400000000 ≤ d ∧ d ≤ 400000000)
      have hl1 : i + 1 ≤ (muls a.1 d i).length := by rw [muls_len _ _ _ hi]; exact h
      simp -implicitDefEqProofs -dsimp +contextual [-Bool.exists_bool, -Int.not_le, -Int.not_lt, -getElem?_pos, -List.getD_eq_getElem?_getD, h, hl1]
      refine ⟨Quiet.of [] (by kernel_rfl) (by simp [-Bool.exists_bool, -Int.not_le, -Int.not_lt, -getElem?_pos, -List.getD_eq_getElem?_getD, allP]), i + 1, h, by omega, ?_⟩
      rw [wr (by omega) (by omega), wr (by omega) (by omega)]
      refine Le.told [] ?_ ?_ ?_ <;> simp [-Bool.exists_bool, -Int.not_le, -Int.not_lt, -getElem?_pos, -List.getD_eq_getElem?_getD]
      rw [← muls_set a.1 d i h, List.map_set, List.set_eq_take_append_cons_drop, if_pos (by rw [List.length_map]; exact hl1)]
    · obtain rfl : i = a.1.length := by omega
      have hm : muls a.1 d a.1.length = a.1.map (· * d) := by simp [-Bool.exists_bool, -Int.not_le, -Int.not_lt, -getElem?_pos, -List.getD_eq_getElem?_getD, muls]
      have hl2 : v' + 1 ≤ a.1.length := hv'
      rw [hm]
      simp -implicitDefEqProofs -dsimp +contextual [-Bool.exists_bool, -Int.not_le, -Int.not_lt, -getElem?_pos, -List.getD_eq_getElem?_getD, hv', hl2]
      have hx : (a.1.map (D.int IntKind.i64 ∘ fun x => x * d)).take v' ++ D.int IntKind.i64 0 :: (a.1.map (D.int IntKind.i64 ∘ fun x => x * d)).drop (v' + 1) = (fixI a.1 v' d).map (.int .i64) := by
        rw [fixI, List.map_set, List.set_eq_take_append_cons_drop, if_pos (by simpa [-Bool.exists_bool, -Int.not_le, -Int.not_lt, -getElem?_pos, -List.getD_eq_getElem?_getD] using hv'), List.map_map]
      have hb1 := mul_bd p.2.1 (by omega : -400000000 ≤ d ∧ d ≤ 400000000)
      have hb2 := mul_bd (p.2.2.1 _ (nth_mem hv')) q.2.1
      have w1 : IntKind.wrap .i64 (a.2.1 * d) = a.2.1 * d := wr (by omega) (by omega)
      have w2 : IntKind.wrap .i64 (nth a.1 v' * n) = nth a.1 v' * n := wr (by omega) (by omega)
      rw [hx, w1, w2, wr (by omega) (by omega)]
      have hL := iMakeOf (fixI a.1 v' d) (a.2.1 * d + nth a.1 v' * n) a.2.2 (by rw [fixI_len]; omega) (fun y hy => ?_) ⟨by omega, by omega⟩
      · refine CallJ.frz (t := 3) (n := a.1.length) (c := dl ((fixI a.1 v' d).map (.int .i64))) (c' := (fixI a.1 v' d).map (.int .i64)) (3, 0) hL (by simp [-Bool.exists_bool, -Int.not_le, -Int.not_lt, -getElem?_pos, -List.getD_eq_getElem?_getD]) (dl_asDs _) (ks := [(3, 0)]) (by simp [-Bool.exists_bool, -Int.not_le, -Int.not_lt, -getElem?_pos, -List.getD_eq_getElem?_getD, setH, fixI_len]) (by simp [-Bool.exists_bool, -Int.not_le, -Int.not_lt, -getElem?_pos, -List.getD_eq_getElem?_getD]) ?_
        simp -implicitDefEqProofs -dsimp +contextual [-Bool.exists_bool, -Int.not_le, -Int.not_lt, -getElem?_pos, -List.getD_eq_getElem?_getD, hv']
        refine ⟨Quiet.of [] (by kernel_rfl) (by simp [-Bool.exists_bool, -Int.not_le, -Int.not_lt, -getElem?_pos, -List.getD_eq_getElem?_getD, allP]), ?_⟩
        exact ⟨Quiet.of [] (by kernel_rfl) (by simp [-Bool.exists_bool, -Int.not_le, -Int.not_lt, -getElem?_pos, -List.getD_eq_getElem?_getD, allP]), RLe.pure 3 (by simp [-Bool.exists_bool, -Int.not_le, -Int.not_lt, -getElem?_pos, -List.getD_eq_getElem?_getD])⟩
      · obtain ⟨i, hi, rfl⟩ := List.getElem_of_mem hy
        have hi' : i < a.1.length := by rwa [fixI_len] at hi
        have e := fixI_nth a.1 v' d i hi'
        rw [nth_eq hi] at e
        rw [e]
        have := mul_bd (p.2.2.1 _ (nth_mem hi')) (by omega : -400000000 ≤ d ∧ d ≤ 400000000)
        split <;> constructor <;> omega
end Go.Proofs.Ytkicjflhokckgaa.ZL
namespace Go.Proofs.Ytkicjflhokckgaa.ZL
open Go Go.Proofs.Ytkicjflhokckgaa.Abs Go.Proofs.Ytkicjflhokckgaa.Abs.Pl Go.RowKit Go.Proofs
set_option linter.unusedVariables false
set_option linter.unusedSimpArgs false
def mkR (n d : Int) : Int × Int := if d = 0 then (0, 0) else if isRat ((if d < 0 then -n else n).tdiv (Int.gcd n d)) ((if d < 0 then -d else d).tdiv (Int.gcd n d)) = true then ((if d < 0 then -n else n).tdiv (Int.gcd n d), (if d < 0 then -d else d).tdiv (Int.gcd n d)) else (0, 0)
theorem tdiv_bd {x : Int} {g : Nat} (h : bd63 x) : bd63 (x.tdiv g) := by
  obtain ⟨h1, h2⟩ := h
  have h3 : (x.tdiv g).natAbs ≤ x.natAbs := by
    rw [Int.natAbs_tdiv]
    exact Nat.div_le_self _ _
  constructor <;> omega
theorem iReduced (n d : Int) (hn : bd63 n) (hd : bd63 d) : Cn Try.prog 111 [I n, I d] (Ra (mkR n d).1 (mkR n d).2) hemp := by
  refine Cn.of [] mixed Try.func111 rfl Try.call111 (by kernel_rfl) rfl ?_
  simp -implicitDefEqProofs -dsimp +contextual [-Bool.exists_bool, -Int.not_le, -Int.not_lt, -getElem?_pos, -List.getD_eq_getElem?_getD, Try.f111]
  obtain ⟨n1, n2⟩ := hn
  obtain ⟨d1, d2⟩ := hd
  refine ⟨fun h0 => RLe.pure 2 (by simp [-Bool.exists_bool, -Int.not_le, -Int.not_lt, -getElem?_pos, -List.getD_eq_getElem?_getD, mkR, h0]), fun h0 => ?_⟩
  have hg : (Int.gcd n d : Int) ≠ 0 := by
    intro h
    have := Int.gcd_eq_zero_iff.1 (Int.ofNat_eq_zero.1 h)
    exact h0 this.2
  refine ⟨fun hneg => ?_, fun hneg => ?_⟩
  · rw [wr (by omega) (by omega), wr (by omega) (by omega)]
    refine CallJ.pure (iCommonDivisor (-n) (-d) ⟨by omega, by omega⟩ ⟨by omega, by omega⟩) rfl (by simp [-Bool.exists_bool, -Int.not_le, -Int.not_lt, -getElem?_pos, -List.getD_eq_getElem?_getD]) ?_
    have eg : Int.gcd (-n) (-d) = Int.gcd n d := by rw [Int.gcd_neg, Int.neg_gcd]
    rw [eg]
    simp -implicitDefEqProofs -dsimp +contextual [-Bool.exists_bool, -Int.not_le, -Int.not_lt, -getElem?_pos, -List.getD_eq_getElem?_getD]
    refine ⟨fun _ => h0, ?_⟩
    have b1 := tdiv_bd (g := Int.gcd n d) (x := n) ⟨by omega, by omega⟩
    have b2 := tdiv_bd (g := Int.gcd n d) (x := d) ⟨by omega, by omega⟩
    rw [wr (by have := b1.2; omega) (by have := b1.1; omega), wr (by have := b2.2; omega) (by have := b2.1; omega)]
    have em : mkR n d = if isRat (-(n.tdiv (Int.gcd n d))) (-(d.tdiv (Int.gcd n d))) = true then (-(n.tdiv (Int.gcd n d)), -(d.tdiv (Int.gcd n d))) else (0, 0) := by rw [mkR, if_neg h0]; simp only [hneg, if_true, Int.neg_tdiv]
    rw [em]
    refine CallJ.pure (iIsRatio _ _) rfl (by simp [-Bool.exists_bool, -Int.not_le, -Int.not_lt, -getElem?_pos, -List.getD_eq_getElem?_getD]) ?_
    generalize isRat (-(n.tdiv (Int.gcd n d))) (-(d.tdiv (Int.gcd n d))) = q
    cases q
    · simp -implicitDefEqProofs -dsimp +contextual [-Bool.exists_bool, -Int.not_le, -Int.not_lt, -getElem?_pos, -List.getD_eq_getElem?_getD]
      exact RLe.pure 2 (by simp [-Bool.exists_bool, -Int.not_le, -Int.not_lt, -getElem?_pos, -List.getD_eq_getElem?_getD])
    · simp -implicitDefEqProofs -dsimp +contextual [-Bool.exists_bool, -Int.not_le, -Int.not_lt, -getElem?_pos, -List.getD_eq_getElem?_getD]
      exact RLe.pure 2 (by simp [-Bool.exists_bool, -Int.not_le, -Int.not_lt, -getElem?_pos, -List.getD_eq_getElem?_getD])
  · refine CallJ.pure (iCommonDivisor n d ⟨by omega, by omega⟩ ⟨by omega, by omega⟩) rfl (by simp [-Bool.exists_bool, -Int.not_le, -Int.not_lt, -getElem?_pos, -List.getD_eq_getElem?_getD]) ?_
    simp -implicitDefEqProofs -dsimp +contextual [-Bool.exists_bool, -Int.not_le, -Int.not_lt, -getElem?_pos, -List.getD_eq_getElem?_getD]
    refine ⟨fun _ => h0, ?_⟩
    have b1 := tdiv_bd (g := Int.gcd n d) (x := n) ⟨by omega, by omega⟩
    have b2 := tdiv_bd (g := Int.gcd n d) (x := d) ⟨by omega, by omega⟩
    rw [wr (by have := b1.1; omega) (by have := b1.2; omega), wr (by have := b2.1; omega) (by have := b2.2; omega)]
    have em : mkR n d = if isRat (n.tdiv (Int.gcd n d)) (d.tdiv (Int.gcd n d)) = true then (n.tdiv (Int.gcd n d), d.tdiv (Int.gcd n d)) else (0, 0) := by rw [mkR, if_neg h0]; simp only [hneg, if_true, if_false]
    rw [em]
    refine CallJ.pure (iIsRatio _ _) rfl (by simp [-Bool.exists_bool, -Int.not_le, -Int.not_lt, -getElem?_pos, -List.getD_eq_getElem?_getD]) ?_
    generalize isRat (n.tdiv (Int.gcd n d)) (d.tdiv (Int.gcd n d)) = q
    cases q
    · simp -implicitDefEqProofs -dsimp +contextual [-Bool.exists_bool, -Int.not_le, -Int.not_lt, -getElem?_pos, -List.getD_eq_getElem?_getD]
      exact RLe.pure 2 (by simp [-Bool.exists_bool, -Int.not_le, -Int.not_lt, -getElem?_pos, -List.getD_eq_getElem?_getD])
    · simp -implicitDefEqProofs -dsimp +contextual [-Bool.exists_bool, -Int.not_le, -Int.not_lt, -getElem?_pos, -List.getD_eq_getElem?_getD]
      exact RLe.pure 2 (by simp [-Bool.exists_bool, -Int.not_le, -Int.not_lt, -getElem?_pos, -List.getD_eq_getElem?_getD])
def cmpR (a b : Int × Int) : Int := if isRat a.1 a.2 = true ∧ isRat b.1 b.2 = true then (if a.1 * b.2 < b.1 * a.2 then -1 else if b.1 * a.2 < a.1 * b.2 then 1 else 0) else 2
theorem rat_mul {n d n' d' : Int} (h : isRat n d = true) (h' : isRat n' d' = true) : -160000000000000000 ≤ n * d' ∧ n * d' ≤ 160000000000000000 := by
  have q := isRat_iff.1 h
  have q' := isRat_iff.1 h'
  exact mul_bd (isNum_iff.2 ⟨by omega, by omega⟩) ⟨by omega, by omega⟩
theorem iCompareRatios (a b : Int × Int) : Cn Try.prog 85 [Ra a.1 a.2, Ra b.1 b.2] (I (cmpR a b)) hemp := by
  refine Cn.of [] mixed Try.func85 rfl Try.call85 (by kernel_rfl) rfl ?_
  simp -implicitDefEqProofs -dsimp +contextual [-Bool.exists_bool, -Int.not_le, -Int.not_lt, -getElem?_pos, -List.getD_eq_getElem?_getD, Try.f85]
  refine CallJ.pure (iIsRatio a.1 a.2) rfl (by simp [-Bool.exists_bool, -Int.not_le, -Int.not_lt, -getElem?_pos, -List.getD_eq_getElem?_getD]) ?_
  simp -implicitDefEqProofs -dsimp +contextual [-Bool.exists_bool, -Int.not_le, -Int.not_lt, -getElem?_pos, -List.getD_eq_getElem?_getD]
  refine ⟨fun h1 => ?_, fun h1 => RLe.pure 1 (by simp [-Bool.exists_bool, -Int.not_le, -Int.not_lt, -getElem?_pos, -List.getD_eq_getElem?_getD, cmpR, h1])⟩
  refine CallJ.pure (iIsRatio b.1 b.2) rfl (by simp [-Bool.exists_bool, -Int.not_le, -Int.not_lt, -getElem?_pos, -List.getD_eq_getElem?_getD]) ?_
  simp -implicitDefEqProofs -dsimp +contextual [-Bool.exists_bool, -Int.not_le, -Int.not_lt, -getElem?_pos, -List.getD_eq_getElem?_getD, h1]
  refine ⟨fun h2 => ?_, fun h2 => RLe.pure 1 (by simp [-Bool.exists_bool, -Int.not_le, -Int.not_lt, -getElem?_pos, -List.getD_eq_getElem?_getD, cmpR, h1, h2])⟩
  have m1 := rat_mul h1 h2
  have m2 := rat_mul h2 h1
  rw [wr (by omega) (by omega), wr (by omega) (by omega)]
  have e : cmpR a b = if a.1 * b.2 < b.1 * a.2 then -1 else if b.1 * a.2 < a.1 * b.2 then 1 else 0 := by rw [cmpR, if_pos ⟨h1, h2⟩]
  rw [e]
  exact ⟨fun h => RLe.ii (by simp [-Bool.exists_bool, -Int.not_le, -Int.not_lt, -getElem?_pos, -List.getD_eq_getElem?_getD, h]), fun h => ⟨fun h' => RLe.ii (by simp [-Bool.exists_bool, -Int.not_le, -Int.not_lt, -getElem?_pos, -List.getD_eq_getElem?_getD, h, h']), fun h' => RLe.ii (by simp [-Bool.exists_bool, -Int.not_le, -Int.not_lt, -getElem?_pos, -List.getD_eq_getElem?_getD, h, h'])⟩⟩
theorem l1Less (a b : Int × Int) (ha : isRat a.1 a.2 = true) (hb : isRat b.1 b.2 = true) : Cn Try.prog 110 [Ra a.1 a.2, Ra b.1 b.2] (B (decide (a.1 * b.2 < b.1 * a.2))) hemp := by
  refine Cn.of [] mixed Try.func110 rfl Try.call110 (by kernel_rfl) rfl ?_
  simp -implicitDefEqProofs -dsimp +contextual [-Bool.exists_bool, -Int.not_le, -Int.not_lt, -getElem?_pos, -List.getD_eq_getElem?_getD, Try.f110]
  have m1 := rat_mul ha hb
  have m2 := rat_mul hb ha
  rw [wr (by omega) (by omega), wr (by omega) (by omega)]
  exact RLe.bb rfl
theorem l2Make (n d : Int) (hn : -1000000000000000000 ≤ n ∧ n ≤ 1000000000000000000) (hd : -1000000000000000000 ≤ d ∧ d ≤ 1000000000000000000) : Cn Try.prog 136 [I n, I d] (Ra (mkR n d).1 (mkR n d).2) hemp := by
  refine Cn.of [] mixed Try.func136 rfl Try.call136 (by kernel_rfl) rfl ?_
  simp -implicitDefEqProofs -dsimp +contextual [-Bool.exists_bool, -Int.not_le, -Int.not_lt, -getElem?_pos, -List.getD_eq_getElem?_getD, Try.f136]
  refine ⟨fun h0 => RLe.pure 2 (by simp [-Bool.exists_bool, -Int.not_le, -Int.not_lt, -getElem?_pos, -List.getD_eq_getElem?_getD, mkR, h0]), fun h0 => ?_⟩
  have hg : (Int.gcd n d : Int) ≠ 0 := by
    intro h
    have := Int.gcd_eq_zero_iff.1 (Int.ofNat_eq_zero.1 h)
    exact h0 this.2
  refine ⟨fun hneg => ?_, fun hneg => ?_⟩
  · rw [wr (by omega) (by omega), wr (by omega) (by omega)]
    refine WP.loop mixed [] (fun p : Int × Int => ⟨tl [(0, I (-n)), (1, I (-d)), (4, .ptr (0, 0) 0), (5, I p.1), (6, I p.2)], hl [((0, 0), .box [I 0, I 0])], 1⟩) (fun p => (-1000000000000000000 ≤ p.1 ∧ p.1 ≤ 1000000000000000000) ∧ (-1000000000000000000 ≤ p.2 ∧ p.2 ≤ 1000000000000000000) ∧ Int.gcd p.1 p.2 = Int.gcd n d) (fun p => p.2.natAbs) (-n, -d) (by kernel_rfl) ?_ ?_ ?_
    · refine Le.told [] ?_ ?_ ?_ <;> simp [-Bool.exists_bool, -Int.not_le, -Int.not_lt, -getElem?_pos, -List.getD_eq_getElem?_getD, setH]
    · exact ⟨⟨by simp only; omega, by simp only; omega⟩, ⟨by simp only; omega, by simp only; omega⟩, by simp [-Bool.exists_bool, -Int.not_le, -Int.not_lt, -getElem?_pos, -List.getD_eq_getElem?_getD]⟩
    · rintro ⟨x, y⟩ ⟨hx, hy, he⟩
      simp only at hx hy he
      simp -implicitDefEqProofs -dsimp +contextual [-Bool.exists_bool, -Int.not_le, -Int.not_lt, -getElem?_pos, -List.getD_eq_getElem?_getD]
      refine ⟨?_, ?_⟩
      · rintro rfl
        refine CallJ.pure (l1Abs x (by omega) (by omega)) rfl (by simp [-Bool.exists_bool, -Int.not_le, -Int.not_lt, -getElem?_pos, -List.getD_eq_getElem?_getD]) ?_
        have ex : (x.natAbs : Int) = Int.gcd n d := by rw [← he]; simp [-Bool.exists_bool, -Int.not_le, -Int.not_lt, -getElem?_pos, -List.getD_eq_getElem?_getD]
        simp -implicitDefEqProofs -dsimp +contextual [-Bool.exists_bool, -Int.not_le, -Int.not_lt, -getElem?_pos, -List.getD_eq_getElem?_getD]
        rw [ex]
        refine ⟨fun hx0 => hg (by rw [← ex, hx0]; rfl), ?_⟩
        have b1 := tdiv_bd (g := Int.gcd n d) (x := n) ⟨by omega, by omega⟩
        have b2 := tdiv_bd (g := Int.gcd n d) (x := d) ⟨by omega, by omega⟩
        rw [wr (by have := b1.2; omega) (by have := b1.1; omega), wr (by have := b2.2; omega) (by have := b2.1; omega)]
        have em : mkR n d = if isRat (-(n.tdiv (Int.gcd n d))) (-(d.tdiv (Int.gcd n d))) = true then (-(n.tdiv (Int.gcd n d)), -(d.tdiv (Int.gcd n d))) else (0, 0) := by rw [mkR, if_neg h0]; simp only [hneg, if_true, if_false, Int.neg_tdiv]
        rw [em]
        refine CallJ.pure (IsRatio _ _) rfl (by simp [-Bool.exists_bool, -Int.not_le, -Int.not_lt, -getElem?_pos, -List.getD_eq_getElem?_getD]) ?_
        generalize isRat (-(n.tdiv (Int.gcd n d))) (-(d.tdiv (Int.gcd n d))) = q
        cases q
        · simp -implicitDefEqProofs -dsimp +contextual [-Bool.exists_bool, -Int.not_le, -Int.not_lt, -getElem?_pos, -List.getD_eq_getElem?_getD]
          exact RLe.pure 2 (by simp [-Bool.exists_bool, -Int.not_le, -Int.not_lt, -getElem?_pos, -List.getD_eq_getElem?_getD])
        · simp -implicitDefEqProofs -dsimp +contextual [-Bool.exists_bool, -Int.not_le, -Int.not_lt, -getElem?_pos, -List.getD_eq_getElem?_getD]
          exact RLe.pure 2 (by simp [-Bool.exists_bool, -Int.not_le, -Int.not_lt, -getElem?_pos, -List.getD_eq_getElem?_getD])
      · intro h
        have ht := tmod_lt (a := x) h
        refine ⟨y, x.tmod y, ⟨by omega, by omega, ?_⟩, ht, ?_⟩
        · rw [← he]
          unfold Int.gcd
          rw [Int.natAbs_tmod, Nat.gcd_comm y.natAbs, ← Nat.gcd_rec, Nat.gcd_comm]
        · refine Le.told [] ?_ ?_ ?_ <;> simp [-Bool.exists_bool, -Int.not_le, -Int.not_lt, -getElem?_pos, -List.getD_eq_getElem?_getD]
  · skip
    refine WP.loop mixed [] (fun p : Int × Int => ⟨tl [(0, I n), (1, I d), (4, .ptr (0, 0) 0), (5, I p.1), (6, I p.2)], hl [((0, 0), .box [I 0, I 0])], 1⟩) (fun p => (-1000000000000000000 ≤ p.1 ∧ p.1 ≤ 1000000000000000000) ∧ (-1000000000000000000 ≤ p.2 ∧ p.2 ≤ 1000000000000000000) ∧ Int.gcd p.1 p.2 = Int.gcd n d) (fun p => p.2.natAbs) (n, d) (by kernel_rfl) ?_ ?_ ?_
    · refine Le.told [] ?_ ?_ ?_ <;> simp [-Bool.exists_bool, -Int.not_le, -Int.not_lt, -getElem?_pos, -List.getD_eq_getElem?_getD, setH]
    · exact ⟨⟨by simp only; omega, by simp only; omega⟩, ⟨by simp only; omega, by simp only; omega⟩, by simp [-Bool.exists_bool, -Int.not_le, -Int.not_lt, -getElem?_pos, -List.getD_eq_getElem?_getD]⟩
    · rintro ⟨x, y⟩ ⟨hx, hy, he⟩
      simp only at hx hy he
      simp -implicitDefEqProofs -dsimp +contextual [-Bool.exists_bool, -Int.not_le, -Int.not_lt, -getElem?_pos, -List.getD_eq_getElem?_getD]
      refine ⟨?_, ?_⟩
      · rintro rfl
        refine CallJ.pure (l1Abs x (by omega) (by omega)) rfl (by simp [-Bool.exists_bool, -Int.not_le, -Int.not_lt, -getElem?_pos, -List.getD_eq_getElem?_getD]) ?_
        have ex : (x.natAbs : Int) = Int.gcd n d := by rw [← he]; simp [-Bool.exists_bool, -Int.not_le, -Int.not_lt, -getElem?_pos, -List.getD_eq_getElem?_getD]
        simp -implicitDefEqProofs -dsimp +contextual [-Bool.exists_bool, -Int.not_le, -Int.not_lt, -getElem?_pos, -List.getD_eq_getElem?_getD]
        rw [ex]
        refine ⟨fun hx0 => hg (by rw [← ex, hx0]; rfl), ?_⟩
        have b1 := tdiv_bd (g := Int.gcd n d) (x := n) ⟨by omega, by omega⟩
        have b2 := tdiv_bd (g := Int.gcd n d) (x := d) ⟨by omega, by omega⟩
        rw [wr (by have := b1.1; omega) (by have := b1.2; omega), wr (by have := b2.1; omega) (by have := b2.2; omega)]
        have em : mkR n d = if isRat (n.tdiv (Int.gcd n d)) (d.tdiv (Int.gcd n d)) = true then (n.tdiv (Int.gcd n d), d.tdiv (Int.gcd n d)) else (0, 0) := by rw [mkR, if_neg h0]; simp only [hneg, if_true, if_false, Int.neg_tdiv]
        rw [em]
        refine CallJ.pure (IsRatio _ _) rfl (by simp [-Bool.exists_bool, -Int.not_le, -Int.not_lt, -getElem?_pos, -List.getD_eq_getElem?_getD]) ?_
        generalize isRat (n.tdiv (Int.gcd n d)) (d.tdiv (Int.gcd n d)) = q
        cases q
        · simp -implicitDefEqProofs -dsimp +contextual [-Bool.exists_bool, -Int.not_le, -Int.not_lt, -getElem?_pos, -List.getD_eq_getElem?_getD]
          exact RLe.pure 2 (by simp [-Bool.exists_bool, -Int.not_le, -Int.not_lt, -getElem?_pos, -List.getD_eq_getElem?_getD])
        · simp -implicitDefEqProofs -dsimp +contextual [-Bool.exists_bool, -Int.not_le, -Int.not_lt, -getElem?_pos, -List.getD_eq_getElem?_getD]
          exact RLe.pure 2 (by simp [-Bool.exists_bool, -Int.not_le, -Int.not_lt, -getElem?_pos, -List.getD_eq_getElem?_getD])
      · intro h
        have ht := tmod_lt (a := x) h
        refine ⟨y, x.tmod y, ⟨by omega, by omega, ?_⟩, ht, ?_⟩
        · rw [← he]
          unfold Int.gcd
          rw [Int.natAbs_tmod, Nat.gcd_comm y.natAbs, ← Nat.gcd_rec, Nat.gcd_comm]
        · refine Le.told [] ?_ ?_ ?_ <;> simp [-Bool.exists_bool, -Int.not_le, -Int.not_lt, -getElem?_pos, -List.getD_eq_getElem?_getD]
theorem MakeRatio (n d : Int) (hn : isNum n = true) (hd : isNum d = true) : Cn Try.prog 123 [I n, I d] (Ra (mkR n d).1 (mkR n d).2) hemp := by
  refine Cn.of [] mixed Try.func123 rfl Try.call123 (by kernel_rfl) rfl ?_
  simp -implicitDefEqProofs -dsimp +contextual [-Bool.exists_bool, -Int.not_le, -Int.not_lt, -getElem?_pos, -List.getD_eq_getElem?_getD, Try.f123]
  refine CallJ.pure (IsNumber n) rfl (by simp [-Bool.exists_bool, -Int.not_le, -Int.not_lt, -getElem?_pos, -List.getD_eq_getElem?_getD]) ?_
  simp -implicitDefEqProofs -dsimp +contextual [-Bool.exists_bool, -Int.not_le, -Int.not_lt, -getElem?_pos, -List.getD_eq_getElem?_getD, hn]
  refine CallJ.pure (IsNumber d) rfl (by simp [-Bool.exists_bool, -Int.not_le, -Int.not_lt, -getElem?_pos, -List.getD_eq_getElem?_getD]) ?_
  simp -implicitDefEqProofs -dsimp +contextual [-Bool.exists_bool, -Int.not_le, -Int.not_lt, -getElem?_pos, -List.getD_eq_getElem?_getD, hn, hd]
  refine CallJ.pure (l2Make n d (by have := isNum_iff.1 hn; omega) (by have := isNum_iff.1 hd; omega)) rfl (by simp [-Bool.exists_bool, -Int.not_le, -Int.not_lt, -getElem?_pos, -List.getD_eq_getElem?_getD]) ?_
  simp -implicitDefEqProofs -dsimp +contextual [-Bool.exists_bool, -Int.not_le, -Int.not_lt, -getElem?_pos, -List.getD_eq_getElem?_getD, hn, hd]
  exact RLe.pure 2 (by simp [-Bool.exists_bool, -Int.not_le, -Int.not_lt, -getElem?_pos, -List.getD_eq_getElem?_getD])
theorem mkR_rat {n d : Int} (hn : isNum n = true) (hd : isNum d = true) (h0 : d ≠ 0) : isRat (mkR n d).1 (mkR n d).2 = true := by
  have hn := isNum_iff.1 hn
  have hd := isNum_iff.1 hd
  have hgp : 0 < Int.gcd n d := Nat.pos_of_ne_zero fun h => h0 (Int.gcd_eq_zero_iff.1 h).2
  have key : ∀ n' d' : Int, n'.natAbs = n.natAbs → d'.natAbs = d.natAbs → 0 < d' → isRat (n'.tdiv (Int.gcd n d)) (d'.tdiv (Int.gcd n d)) = true := fun n' d' h1 h2 h3 => by
    rw [isRat_iff]
    have e1 : (n'.tdiv (Int.gcd n d)).natAbs = n.natAbs / Int.gcd n d := by rw [Int.natAbs_tdiv, h1]; rfl
    have e2 : (d'.tdiv (Int.gcd n d)).natAbs = d.natAbs / Int.gcd n d := by rw [Int.natAbs_tdiv, h2]; rfl
    have l1 : n.natAbs / Int.gcd n d ≤ n.natAbs := Nat.div_le_self _ _
    have l2 : d.natAbs / Int.gcd n d ≤ d.natAbs := Nat.div_le_self _ _
    have hdv : Int.gcd n d ∣ d.natAbs := Nat.gcd_dvd_right _ _
    have l3 : 0 < d.natAbs / Int.gcd n d := Nat.div_pos (Nat.le_of_dvd (by omega) hdv) hgp
    have l4 : 0 ≤ d'.tdiv (Int.gcd n d) := Int.tdiv_nonneg (by omega) (by omega)
    refine ⟨by omega, by omega, ?_⟩
    unfold Int.gcd at e1 e2 hgp ⊢
    rw [e1, e2]
    rw [Nat.gcd_div (Nat.gcd_dvd_left _ _) (Nat.gcd_dvd_right _ _), Nat.div_self hgp]
  unfold mkR
  rw [if_neg h0]
  by_cases hneg : d < 0
  · have := key (-n) (-d) (by simp [-Bool.exists_bool, -Int.not_le, -Int.not_lt, -getElem?_pos, -List.getD_eq_getElem?_getD]) (by simp [-Bool.exists_bool, -Int.not_le, -Int.not_lt, -getElem?_pos, -List.getD_eq_getElem?_getD]) (by omega)
    simp only [hneg, if_true, this]
  · have := key n d rfl rfl (by omega)
    simp only [hneg, if_false, if_true, this]
theorem cross_eq {a b : Int × Int} (ha : isRat a.1 a.2 = true) (hb : isRat b.1 b.2 = true) (h : a.1 * b.2 = b.1 * a.2) : a = b := by
  have qa := isRat_iff.1 ha
  have qb := isRat_iff.1 hb
  have hn : a.1.natAbs * b.2.natAbs = b.1.natAbs * a.2.natAbs := by rw [← Int.natAbs_mul, h, Int.natAbs_mul]
  have c1 : Nat.Coprime a.2.natAbs a.1.natAbs := by have := qa.2.2; unfold Int.gcd at this; rw [Nat.Coprime, Nat.gcd_comm]; exact this
  have c2 : Nat.Coprime b.2.natAbs b.1.natAbs := by have := qb.2.2; unfold Int.gcd at this; rw [Nat.Coprime, Nat.gcd_comm]; exact this
  have d1 : a.2.natAbs ∣ b.2.natAbs := Nat.Coprime.dvd_of_dvd_mul_left c1 (hn ▸ Nat.dvd_mul_left _ _)
  have d2 : b.2.natAbs ∣ a.2.natAbs := Nat.Coprime.dvd_of_dvd_mul_left c2 (hn ▸ Nat.dvd_mul_left _ _)
  have e := Nat.dvd_antisymm d1 d2
  have e2 : a.2 = b.2 := by omega
  have e1 : a.1 = b.1 := by
    rw [e2] at h
    exact Int.eq_of_mul_eq_mul_right (by omega) h
  exact Prod.ext e1 e2
end Go.Proofs.Ytkicjflhokckgaa.ZL
namespace Go.Proofs.Ytkicjflhokckgaa.ZL
open Go Go.Proofs.Ytkicjflhokckgaa.Abs Go.Proofs.Ytkicjflhokckgaa.Abs.Pl Go.RowKit Go.Proofs
set_option linter.unusedVariables false
set_option linter.unusedSimpArgs false
structure Bd where
  hl : Bool
  lo : Int × Int
  lop : Bool
  hh : Bool
  hi : Int × Int
  hop : Bool
  em : Bool
def bd0 : Bd := ⟨false, (0, 0), false, false, (0, 0), false, false⟩
abbrev bdL (b : Bd) : List V := [B b.hl, I b.lo.1, I b.lo.2, B b.lop, B b.hh, I b.hi.1, I b.hi.2, B b.hop, B b.em]
abbrev bdV (b : Bd) : V := .agg (bdL b)
def ltR (a b : Int × Int) : Bool := decide (a.1 * b.2 < b.1 * a.2)
def narrow (v : Nat) (b : Bd) (a : At) : Bd :=
  if nth a.1 v = 0 then b else
  if 0 < nth a.1 v then (if b.hh = false ∨ cmpR (mkR (-a.2.1) (nth a.1 v)) b.hi < 0 ∨ (cmpR (mkR (-a.2.1) (nth a.1 v)) b.hi = 0 ∧ a.2.2 = true) then { b with hh := true, hi := mkR (-a.2.1) (nth a.1 v), hop := a.2.2 } else b)
  else (if b.hl = false ∨ 0 < cmpR (mkR (-a.2.1) (nth a.1 v)) b.lo ∨ (cmpR (mkR (-a.2.1) (nth a.1 v)) b.lo = 0 ∧ a.2.2 = true) then { b with hl := true, lo := mkR (-a.2.1) (nth a.1 v), lop := a.2.2 } else b)
def narrows (v : Nat) : Bd → List At → Bd
  | b, [] => b
  | b, a :: L => narrows v (narrow v b a) L
theorem iBoundsIn (d : Int) (L : List At) (v : Nat) (hv : (v : Int) < d) (h16 : L.length ≤ 16) (hok : allOk d L) : Cn Try.prog 84 [C1 d L, I v] (bdV (narrows v bd0 L)) hemp := by
  refine Cn.of [0] mixed Try.func84 rfl Try.call84 (by kernel_rfl) rfl ?_
  simp -implicitDefEqProofs -dsimp +contextual [-Bool.exists_bool, -Int.not_le, -Int.not_lt, -getElem?_pos, -List.getD_eq_getElem?_getD, Try.f84]
  refine WP.loop mixed [0] (fun p : Nat × Bd => ⟨tl [(1, I v), (4, .ptr (1, 0) 0), (5, .ptr (2, 0) 0), (14, As L), (15, I L.length), (16, I p.1)], hl [((1, 0), .box (bdL bd0)), ((2, 0), .box (bdL p.2))], 3⟩)
    (fun p => p.1 ≤ L.length ∧ narrows v bd0 L = narrows v p.2 (L.drop p.1)) (fun p => L.length - p.1) (0, bd0) (by kernel_rfl) ?_ ?_ ?_
  · refine Le.told [((2, 0), (3, 0))] ?_ ?_ ?_ <;> simp [-Bool.exists_bool, -Int.not_le, -Int.not_lt, -getElem?_pos, -List.getD_eq_getElem?_getD, setH, bd0]
  · exact ⟨Nat.zero_le _, rfl⟩
  · rintro ⟨i, b⟩ ⟨hi, he⟩
    simp only at hi he
    by_cases h : i < L.length
    · have ho := hok _ (nth_mem h)
      have hvl : v < (nth L i).1.length := by have := ho.2; omega
      have hnu := okA_num ho
      have hx := isNum_iff.1 (hnu.1 _ (nth_mem hvl))
      have hc := isNum_iff.1 hnu.2.1
      rw [nth_drop h, narrows] at he
      simp -implicitDefEqProofs -dsimp +contextual [-Bool.exists_bool, -Int.not_le, -Int.not_lt, -getElem?_pos, -List.getD_eq_getElem?_getD, h, hvl]
      refine ⟨fun h0 => ?_, fun h0 => ?_⟩
      · refine ⟨i + 1, b, ⟨h, by rw [he, narrow, if_pos h0]⟩, by omega, ?_⟩
        rw [wr (by omega) (by omega)]
        refine Le.told [] ?_ ?_ ?_ <;> simp [-Bool.exists_bool, -Int.not_le, -Int.not_lt, -getElem?_pos, -List.getD_eq_getElem?_getD]
      · rw [wr (by omega) (by omega)]
        refine CallJ.pure (iReduced (-(nth L i).2.1) (nth (nth L i).1 v) ⟨by omega, by omega⟩ ⟨by omega, by omega⟩) rfl (by simp [-Bool.exists_bool, -Int.not_le, -Int.not_lt, -getElem?_pos, -List.getD_eq_getElem?_getD]) ?_
        rw [narrow, if_neg h0] at he
        generalize mkR (-(nth L i).2.1) (nth (nth L i).1 v) = r at he ⊢
        simp -implicitDefEqProofs -dsimp +contextual [-Bool.exists_bool, -Int.not_le, -Int.not_lt, -getElem?_pos, -List.getD_eq_getElem?_getD, h, hvl, h0]
        refine ⟨fun hp => ?_, fun hp => ?_⟩
        · rw [if_pos hp] at he
          refine CallJ.pure (iCompareRatios r b.hi) rfl (by simp [-Bool.exists_bool, -Int.not_le, -Int.not_lt, -getElem?_pos, -List.getD_eq_getElem?_getD]) ?_
          simp -implicitDefEqProofs -dsimp +contextual [-Bool.exists_bool, -Int.not_le, -Int.not_lt, -getElem?_pos, -List.getD_eq_getElem?_getD, h, hvl, h0]
          refine ⟨fun c1 => ⟨fun c2 => ?_, fun c2 => ⟨fun c3 => ⟨fun c4 => ?_, fun c4 => ?_⟩, fun c3 => ?_⟩⟩, fun c1 => ?_⟩
          · refine ⟨Quiet.of [9, 7] (by kernel_rfl) (by simp [-Bool.exists_bool, -Int.not_le, -Int.not_lt, -getElem?_pos, -List.getD_eq_getElem?_getD, allP, offB]), Quiet.of [7] (by kernel_rfl) (by simp [-Bool.exists_bool, -Int.not_le, -Int.not_lt, -getElem?_pos, -List.getD_eq_getElem?_getD, allP, offB]), Quiet.of [] (by kernel_rfl) (by simp [-Bool.exists_bool, -Int.not_le, -Int.not_lt, -getElem?_pos, -List.getD_eq_getElem?_getD, allP, offB]), i + 1, { b with hh := true, hi := r, hop := (nth L i).2.2 }, ⟨h, by rw [he, if_pos (.inr (.inl c2))]⟩, by omega, ?_⟩
            rw [wr (by omega) (by omega)]
            refine Le.told [] ?_ ?_ ?_ <;> simp [-Bool.exists_bool, -Int.not_le, -Int.not_lt, -getElem?_pos, -List.getD_eq_getElem?_getD]
          · refine ⟨Quiet.of [9, 7] (by kernel_rfl) (by simp [-Bool.exists_bool, -Int.not_le, -Int.not_lt, -getElem?_pos, -List.getD_eq_getElem?_getD, allP, offB]), Quiet.of [7] (by kernel_rfl) (by simp [-Bool.exists_bool, -Int.not_le, -Int.not_lt, -getElem?_pos, -List.getD_eq_getElem?_getD, allP, offB]), Quiet.of [] (by kernel_rfl) (by simp [-Bool.exists_bool, -Int.not_le, -Int.not_lt, -getElem?_pos, -List.getD_eq_getElem?_getD, allP, offB]), i + 1, { b with hh := true, hi := r, hop := (nth L i).2.2 }, ⟨h, by rw [he, if_pos (.inr (.inr ⟨c3, c4⟩))]⟩, by omega, ?_⟩
            rw [wr (by omega) (by omega)]
            refine Le.told [] ?_ ?_ ?_ <;> simp [-Bool.exists_bool, -Int.not_le, -Int.not_lt, -getElem?_pos, -List.getD_eq_getElem?_getD, c4]
          · refine ⟨i + 1, b, ⟨h, by rw [he, if_neg (by simp [-Bool.exists_bool, -Int.not_le, -Int.not_lt, -getElem?_pos, -List.getD_eq_getElem?_getD, c1, c3, c4])]⟩, by omega, ?_⟩
            rw [wr (by omega) (by omega)]
            refine Le.told [] ?_ ?_ ?_ <;> simp [-Bool.exists_bool, -Int.not_le, -Int.not_lt, -getElem?_pos, -List.getD_eq_getElem?_getD]
          · refine ⟨i + 1, b, ⟨h, by rw [he, if_neg (by simp only [c1, Bool.true_eq_false, false_or, not_or]; exact ⟨c2, fun h => c3 h.1⟩)]⟩, by omega, ?_⟩
            rw [wr (by omega) (by omega)]
            refine Le.told [] ?_ ?_ ?_ <;> simp [-Bool.exists_bool, -Int.not_le, -Int.not_lt, -getElem?_pos, -List.getD_eq_getElem?_getD]
          · refine ⟨Quiet.of [9, 7] (by kernel_rfl) (by simp [-Bool.exists_bool, -Int.not_le, -Int.not_lt, -getElem?_pos, -List.getD_eq_getElem?_getD, allP, offB]), Quiet.of [7] (by kernel_rfl) (by simp [-Bool.exists_bool, -Int.not_le, -Int.not_lt, -getElem?_pos, -List.getD_eq_getElem?_getD, allP, offB]), Quiet.of [] (by kernel_rfl) (by simp [-Bool.exists_bool, -Int.not_le, -Int.not_lt, -getElem?_pos, -List.getD_eq_getElem?_getD, allP, offB]), i + 1, { b with hh := true, hi := r, hop := (nth L i).2.2 }, ⟨h, by rw [he, if_pos (.inl c1)]⟩, by omega, ?_⟩
            rw [wr (by omega) (by omega)]
            refine Le.told [] ?_ ?_ ?_ <;> simp [-Bool.exists_bool, -Int.not_le, -Int.not_lt, -getElem?_pos, -List.getD_eq_getElem?_getD]
        · rw [if_neg hp] at he
          refine CallJ.pure (iCompareRatios r b.lo) rfl (by simp [-Bool.exists_bool, -Int.not_le, -Int.not_lt, -getElem?_pos, -List.getD_eq_getElem?_getD]) ?_
          simp -implicitDefEqProofs -dsimp +contextual [-Bool.exists_bool, -Int.not_le, -Int.not_lt, -getElem?_pos, -List.getD_eq_getElem?_getD, h, hvl, h0]
          refine ⟨fun c1 => ⟨fun c2 => ?_, fun c2 => ⟨fun c3 => ⟨fun c4 => ?_, fun c4 => ?_⟩, fun c3 => ?_⟩⟩, fun c1 => ?_⟩
          · refine ⟨Quiet.of [9, 7] (by kernel_rfl) (by simp [-Bool.exists_bool, -Int.not_le, -Int.not_lt, -getElem?_pos, -List.getD_eq_getElem?_getD, allP, offB]), Quiet.of [7] (by kernel_rfl) (by simp [-Bool.exists_bool, -Int.not_le, -Int.not_lt, -getElem?_pos, -List.getD_eq_getElem?_getD, allP, offB]), Quiet.of [] (by kernel_rfl) (by simp [-Bool.exists_bool, -Int.not_le, -Int.not_lt, -getElem?_pos, -List.getD_eq_getElem?_getD, allP, offB]), i + 1, { b with hl := true, lo := r, lop := (nth L i).2.2 }, ⟨h, by rw [he, if_pos (.inr (.inl c2))]⟩, by omega, ?_⟩
            rw [wr (by omega) (by omega)]
            refine Le.told [] ?_ ?_ ?_ <;> simp [-Bool.exists_bool, -Int.not_le, -Int.not_lt, -getElem?_pos, -List.getD_eq_getElem?_getD]
          · refine ⟨Quiet.of [9, 7] (by kernel_rfl) (by simp [-Bool.exists_bool, -Int.not_le, -Int.not_lt, -getElem?_pos, -List.getD_eq_getElem?_getD, allP, offB]), Quiet.of [7] (by kernel_rfl) (by simp [-Bool.exists_bool, -Int.not_le, -Int.not_lt, -getElem?_pos, -List.getD_eq_getElem?_getD, allP, offB]), Quiet.of [] (by kernel_rfl) (by simp [-Bool.exists_bool, -Int.not_le, -Int.not_lt, -getElem?_pos, -List.getD_eq_getElem?_getD, allP, offB]), i + 1, { b with hl := true, lo := r, lop := (nth L i).2.2 }, ⟨h, by rw [he, if_pos (.inr (.inr ⟨c3, c4⟩))]⟩, by omega, ?_⟩
            rw [wr (by omega) (by omega)]
            refine Le.told [] ?_ ?_ ?_ <;> simp [-Bool.exists_bool, -Int.not_le, -Int.not_lt, -getElem?_pos, -List.getD_eq_getElem?_getD, c4]
          · refine ⟨i + 1, b, ⟨h, by rw [he, if_neg (by simp [-Bool.exists_bool, -Int.not_le, -Int.not_lt, -getElem?_pos, -List.getD_eq_getElem?_getD, c1, c3, c4])]⟩, by omega, ?_⟩
            rw [wr (by omega) (by omega)]
            refine Le.told [] ?_ ?_ ?_ <;> simp [-Bool.exists_bool, -Int.not_le, -Int.not_lt, -getElem?_pos, -List.getD_eq_getElem?_getD]
          · refine ⟨i + 1, b, ⟨h, by rw [he, if_neg (by simp only [c1, Bool.true_eq_false, false_or, not_or]; exact ⟨c2, fun h => c3 h.1⟩)]⟩, by omega, ?_⟩
            rw [wr (by omega) (by omega)]
            refine Le.told [] ?_ ?_ ?_ <;> simp [-Bool.exists_bool, -Int.not_le, -Int.not_lt, -getElem?_pos, -List.getD_eq_getElem?_getD]
          · refine ⟨Quiet.of [9, 7] (by kernel_rfl) (by simp [-Bool.exists_bool, -Int.not_le, -Int.not_lt, -getElem?_pos, -List.getD_eq_getElem?_getD, allP, offB]), Quiet.of [7] (by kernel_rfl) (by simp [-Bool.exists_bool, -Int.not_le, -Int.not_lt, -getElem?_pos, -List.getD_eq_getElem?_getD, allP, offB]), Quiet.of [] (by kernel_rfl) (by simp [-Bool.exists_bool, -Int.not_le, -Int.not_lt, -getElem?_pos, -List.getD_eq_getElem?_getD, allP, offB]), i + 1, { b with hl := true, lo := r, lop := (nth L i).2.2 }, ⟨h, by rw [he, if_pos (.inl c1)]⟩, by omega, ?_⟩
            rw [wr (by omega) (by omega)]
            refine Le.told [] ?_ ?_ ?_ <;> simp [-Bool.exists_bool, -Int.not_le, -Int.not_lt, -getElem?_pos, -List.getD_eq_getElem?_getD]
    · rw [drop_nil (by omega)] at he
      simp -implicitDefEqProofs -dsimp +contextual [-Bool.exists_bool, -Int.not_le, -Int.not_lt, -getElem?_pos, -List.getD_eq_getElem?_getD, h]
      rw [he]
      exact RLe.pure 2 (by simp [-Bool.exists_bool, -Int.not_le, -Int.not_lt, -getElem?_pos, -List.getD_eq_getElem?_getD, narrows])
end Go.Proofs.Ytkicjflhokckgaa.ZL
namespace Go.Proofs.Ytkicjflhokckgaa.ZL
open Go Go.Proofs.Ytkicjflhokckgaa.Abs Go.Proofs.Ytkicjflhokckgaa.Abs.Pl Go.RowKit Go.Proofs
set_option linter.unusedVariables false
set_option linter.unusedSimpArgs false
def emF (L : List At) : Bool := decide (L.length = 1) && (!hasV (nth L 0) && (decide ((nth L 0).2.1 = 1) && !(nth L 0).2.2))
theorem iEmptyForm (d : Int) (L : List At) (h16 : L.length ≤ 16) (hok : allOk d L) : Cn Try.prog 83 [C1 d L] (B (emF L)) hemp := by
  refine Cn.of [] mixed Try.func83 rfl Try.call83 (by kernel_rfl) rfl ?_
  simp -implicitDefEqProofs -dsimp +contextual [-Bool.exists_bool, -Int.not_le, -Int.not_lt, -getElem?_pos, -List.getD_eq_getElem?_getD, Try.f83]
  rcases L with _ | ⟨a, _ | ⟨b, R⟩⟩
  · exact ⟨fun h => absurd h (by simp [-Bool.exists_bool, -Int.not_le, -Int.not_lt, -getElem?_pos, -List.getD_eq_getElem?_getD]), fun _ => RLe.bb (by simp [-Bool.exists_bool, -Int.not_le, -Int.not_lt, -getElem?_pos, -List.getD_eq_getElem?_getD, emF])⟩
  · have ho := hok a List.mem_cons_self
    have hnu := okA_num ho
    refine ⟨fun _ => ⟨by simp [-Bool.exists_bool, -Int.not_le, -Int.not_lt, -getElem?_pos, -List.getD_eq_getElem?_getD], ?_⟩, fun h => absurd rfl h⟩
    refine CallJ.pure (ks := []) (iHasVariables a (by omega) (fun y hy => isNum_63 (hnu.1 y hy))) (by simp [-Bool.exists_bool, -Int.not_le, -Int.not_lt, -getElem?_pos, -List.getD_eq_getElem?_getD, asD, aD]) (by simp [-Bool.exists_bool, -Int.not_le, -Int.not_lt, -getElem?_pos, -List.getD_eq_getElem?_getD]) ?_
    simp -implicitDefEqProofs -dsimp +contextual [-Bool.exists_bool, -Int.not_le, -Int.not_lt, -getElem?_pos, -List.getD_eq_getElem?_getD, asD, aD]
    have e : emF [a] = (!hasV a && (decide (a.2.1 = 1) && !a.2.2)) := rfl
    exact ⟨fun h1 => RLe.bb (by simp [-Bool.exists_bool, -Int.not_le, -Int.not_lt, -getElem?_pos, -List.getD_eq_getElem?_getD, e, h1]), fun h1 => ⟨fun h2 => RLe.bb (by simp [-Bool.exists_bool, -Int.not_le, -Int.not_lt, -getElem?_pos, -List.getD_eq_getElem?_getD, e, h1, h2]), fun h2 => RLe.bb (by simp [-Bool.exists_bool, -Int.not_le, -Int.not_lt, -getElem?_pos, -List.getD_eq_getElem?_getD, e, h2])⟩⟩
  · refine ⟨fun h => absurd h (by simp [-Bool.exists_bool, -Int.not_le, -Int.not_lt, -getElem?_pos, -List.getD_eq_getElem?_getD]; omega), fun h => RLe.bb ?_⟩
    simp [-Bool.exists_bool, -Int.not_le, -Int.not_lt, -getElem?_pos, -List.getD_eq_getElem?_getD, emF]
def dropsGo (d : Int) (v : Nat) : Nat → List At → Option (List At)
  | 0, x => some x
  | k + 1, x => if k = v then dropsGo d v k x else if (dropC d k x).2.2 = true then dropsGo d v k (dropC d k x).2.1 else none
def bdE : Bd := ⟨false, (0, 0), false, false, (0, 0), false, true⟩
def endB (b : Bd) : Bd := if b.hl = true ∧ b.hh = true ∧ (0 < cmpR b.lo b.hi ∨ (cmpR b.lo b.hi = 0 ∧ (b.lop = true ∨ b.hop = true))) then bdE else b
def bndsI (v : Nat) (x : List At) : Bd := if emF x = true then bdE else endB (narrows v bd0 x)
def bndD (d : Int) (L : List At) (v : Int) : Bd × Bool := if isCe d L = true ∧ 0 ≤ v ∧ v < d then (match dropsGo d v.toNat d.toNat (nrm d L) with
    | some x => (bndsI v.toNat x, true)
    | none => (bd0, false)) else (bd0, false)
theorem dropsGo_ok {d : Int} (hd : 0 ≤ d ∧ d ≤ 4) (v : Nat) : ∀ (k : Nat) {x y : List At}, x.length ≤ 16 → allOk d x → dropsGo d v k x = some y → y.length ≤ 16 ∧ allOk d y
  | 0, x, y, h16, hx, h => by obtain rfl := Option.some.inj h; exact ⟨h16, hx⟩
  | k + 1, x, y, h16, hx, h => by
    unfold dropsGo at h
    split at h
    · exact dropsGo_ok hd v k h16 hx h
    · split at h
      · rename_i hr
        have := dropC_ok hd k h16 hx hr
        exact dropsGo_ok hd v k this.2.1 this.2.2 h
      · exact absurd h (by simp [-Bool.exists_bool, -Int.not_le, -Int.not_lt, -getElem?_pos, -List.getD_eq_getElem?_getD])
theorem iBoundsOf (d : Int) (L : List At) (v : Int) (h20 : L.length ≤ 1048576) : Cn Try.prog 45 [C1 d L, I v] (.tup [bdV (bndD d L v).1, B (bndD d L v).2]) hemp := by
  refine Cn.of [] mixed Try.func45 rfl Try.call45 (by kernel_rfl) rfl ?_
  simp -implicitDefEqProofs -dsimp +contextual [-Bool.exists_bool, -Int.not_le, -Int.not_lt, -getElem?_pos, -List.getD_eq_getElem?_getD, Try.f45]
  have no : ∀ {H : Store}, bndD d L v = (bd0, false) → RLe Try.prog H (V.tup [V.agg [V.d (D.bool false), V.d (D.int IntKind.i64 0), V.d (D.int IntKind.i64 0), V.d (D.bool false), V.d (D.bool false), V.d (D.int IntKind.i64 0), V.d (D.int IntKind.i64 0), V.d (D.bool false), V.d (D.bool false)], V.d (D.bool false)]) (.tup [bdV (bndD d L v).1, B (bndD d L v).2]) hemp := fun h => by
    rw [h]
    exact RLe.pure 2 (by simp [-Bool.exists_bool, -Int.not_le, -Int.not_lt, -getElem?_pos, -List.getD_eq_getElem?_getD, bd0])
  refine CallJ.pure (iIsCell d L h20) rfl (by simp [-Bool.exists_bool, -Int.not_le, -Int.not_lt, -getElem?_pos, -List.getD_eq_getElem?_getD]) ?_
  simp -implicitDefEqProofs -dsimp +contextual [-Bool.exists_bool, -Int.not_le, -Int.not_lt, -getElem?_pos, -List.getD_eq_getElem?_getD]
  refine ⟨fun h1 => ?_, fun h1 => no (by rw [bndD, if_neg (by simp [-Bool.exists_bool, -Int.not_le, -Int.not_lt, -getElem?_pos, -List.getD_eq_getElem?_getD, h1])])⟩
  have hd := isCe_d h1
  have h16 := isCe_l h1
  have hok := isCe_a h1
  refine ⟨fun h2 => no (by rw [bndD, if_neg]; omega), fun h2 => ⟨fun h2b => no (by rw [bndD, if_neg]; omega), fun h2b => ?_⟩⟩
  have hv : 0 ≤ v ∧ v < d := by omega
  refine CallJ.pure (iNormalW d hd L (by omega) hok) rfl (by simp [-Bool.exists_bool, -Int.not_le, -Int.not_lt, -getElem?_pos, -List.getD_eq_getElem?_getD]) ?_
  simp -implicitDefEqProofs -dsimp +contextual [-Bool.exists_bool, -Int.not_le, -Int.not_lt, -getElem?_pos, -List.getD_eq_getElem?_getD, h1, h2, h2b]
  rw [wr (by omega) (by omega)]
  obtain ⟨v', rfl⟩ : ∃ v' : Nat, v = v' := ⟨v.toNat, by omega⟩
  have eb : bndD d L v' = (match dropsGo d v' d.toNat (nrm d L) with | some x => (bndsI v' x, true) | none => (bd0, false)) := by rw [bndD, if_pos ⟨h1, hv⟩]; rfl
  refine WP.loop mixed [] (fun p : Nat × List At => ⟨tl [(1, I v'), (4, .ptr (1, 0) 0), (6, .ptr (2, 0) 0), (7, I ((p.1 : Int) - 1))], hl [((1, 0), .box (bdL bd0)), ((2, 0), .box [I d, As p.2])], 3⟩)
    (fun p => (p.1 : Int) ≤ d ∧ p.2.length ≤ 16 ∧ allOk d p.2 ∧ dropsGo d v' d.toNat (nrm d L) = dropsGo d v' p.1 p.2) (fun p => p.1) (d.toNat, nrm d L) (by kernel_rfl) ?_ ?_ ?_
  · refine Le.told [((2, 0), (21, 0))] ?_ ?_ ?_ <;> simp [-Bool.exists_bool, -Int.not_le, -Int.not_lt, -getElem?_pos, -List.getD_eq_getElem?_getD, setH, bd0]
    omega
  · exact ⟨by simp only; omega, nrm_16 d L h16, nrm_okL hd hok, rfl⟩
  · rintro ⟨k, x⟩ ⟨hk, hx, hxo, he⟩
    simp only at hk hx hxo he
    cases k with
    | zero =>
      simp only [dropsGo] at he
      simp -implicitDefEqProofs -dsimp +contextual [-Bool.exists_bool, -Int.not_le, -Int.not_lt, -getElem?_pos, -List.getD_eq_getElem?_getD]
      refine CallJ.pure (iEmptyForm d x hx hxo) rfl (by simp [-Bool.exists_bool, -Int.not_le, -Int.not_lt, -getElem?_pos, -List.getD_eq_getElem?_getD]) ?_
      simp -implicitDefEqProofs -dsimp +contextual [-Bool.exists_bool, -Int.not_le, -Int.not_lt, -getElem?_pos, -List.getD_eq_getElem?_getD]
      have eb : bndD d L v' = (bndsI v' x, true) := by rw [eb, he]
      refine ⟨fun hq => RLe.pure 2 (by rw [eb, bndsI, if_pos hq]; simp [-Bool.exists_bool, -Int.not_le, -Int.not_lt, -getElem?_pos, -List.getD_eq_getElem?_getD, bdE]), fun hq => ?_⟩
      rw [eb, bndsI, if_neg (by simp [-Bool.exists_bool, -Int.not_le, -Int.not_lt, -getElem?_pos, -List.getD_eq_getElem?_getD, hq])]
      refine CallJ.pure (iBoundsIn d x v' hv.2 hx hxo) rfl (by simp [-Bool.exists_bool, -Int.not_le, -Int.not_lt, -getElem?_pos, -List.getD_eq_getElem?_getD]) ?_
      generalize narrows v' bd0 x = b
      rcases b with ⟨_ | _, lo, lop, _ | _, hi, hop, em⟩
      · simp -implicitDefEqProofs -dsimp +contextual [-Bool.exists_bool, -Int.not_le, -Int.not_lt, -getElem?_pos, -List.getD_eq_getElem?_getD, hq]
        exact RLe.pure 2 (by simp [-Bool.exists_bool, -Int.not_le, -Int.not_lt, -getElem?_pos, -List.getD_eq_getElem?_getD, endB])
      · simp -implicitDefEqProofs -dsimp +contextual [-Bool.exists_bool, -Int.not_le, -Int.not_lt, -getElem?_pos, -List.getD_eq_getElem?_getD, hq]
        exact RLe.pure 2 (by simp [-Bool.exists_bool, -Int.not_le, -Int.not_lt, -getElem?_pos, -List.getD_eq_getElem?_getD, endB])
      · simp -implicitDefEqProofs -dsimp +contextual [-Bool.exists_bool, -Int.not_le, -Int.not_lt, -getElem?_pos, -List.getD_eq_getElem?_getD, hq]
        exact RLe.pure 2 (by simp [-Bool.exists_bool, -Int.not_le, -Int.not_lt, -getElem?_pos, -List.getD_eq_getElem?_getD, endB])
      · simp -implicitDefEqProofs -dsimp +contextual [-Bool.exists_bool, -Int.not_le, -Int.not_lt, -getElem?_pos, -List.getD_eq_getElem?_getD, hq]
        refine CallJ.pure (iCompareRatios lo hi) rfl (by simp [-Bool.exists_bool, -Int.not_le, -Int.not_lt, -getElem?_pos, -List.getD_eq_getElem?_getD]) ?_
        have e9 : endB ⟨true, lo, lop, true, hi, hop, em⟩ = if 0 < cmpR lo hi ∨ (cmpR lo hi = 0 ∧ (lop = true ∨ hop = true)) then bdE else ⟨true, lo, lop, true, hi, hop, em⟩ := by simp [-Bool.exists_bool, -Int.not_le, -Int.not_lt, -getElem?_pos, -List.getD_eq_getElem?_getD, endB]
        rw [e9]
        generalize cmpR lo hi = c
        by_cases c1 : 0 < c
        · simp -implicitDefEqProofs -dsimp +contextual [-Bool.exists_bool, -Int.not_le, -Int.not_lt, -getElem?_pos, -List.getD_eq_getElem?_getD, hq, c1]
          exact RLe.pure 2 (by simp [-Bool.exists_bool, -Int.not_le, -Int.not_lt, -getElem?_pos, -List.getD_eq_getElem?_getD, bdE])
        · by_cases c2 : c = 0
          · subst c2
            cases lop
            · cases hop
              · simp -implicitDefEqProofs -dsimp +contextual [-Bool.exists_bool, -Int.not_le, -Int.not_lt, -getElem?_pos, -List.getD_eq_getElem?_getD, hq]
                exact RLe.pure 2 (by simp [-Bool.exists_bool, -Int.not_le, -Int.not_lt, -getElem?_pos, -List.getD_eq_getElem?_getD])
              · simp -implicitDefEqProofs -dsimp +contextual [-Bool.exists_bool, -Int.not_le, -Int.not_lt, -getElem?_pos, -List.getD_eq_getElem?_getD, hq]
                exact RLe.pure 2 (by simp [-Bool.exists_bool, -Int.not_le, -Int.not_lt, -getElem?_pos, -List.getD_eq_getElem?_getD, bdE])
            · simp -implicitDefEqProofs -dsimp +contextual [-Bool.exists_bool, -Int.not_le, -Int.not_lt, -getElem?_pos, -List.getD_eq_getElem?_getD, hq]
              exact RLe.pure 2 (by simp [-Bool.exists_bool, -Int.not_le, -Int.not_lt, -getElem?_pos, -List.getD_eq_getElem?_getD, bdE])
          · simp -implicitDefEqProofs -dsimp +contextual [-Bool.exists_bool, -Int.not_le, -Int.not_lt, -getElem?_pos, -List.getD_eq_getElem?_getD, hq, c1, c2]
            exact RLe.pure 2 (by simp [-Bool.exists_bool, -Int.not_le, -Int.not_lt, -getElem?_pos, -List.getD_eq_getElem?_getD])
    | succ k =>
      have hkk : ¬ ((k : Int) < 0) := by omega
      simp -implicitDefEqProofs -dsimp +contextual [-Bool.exists_bool, -Int.not_le, -Int.not_lt, -getElem?_pos, -List.getD_eq_getElem?_getD, hkk]
      rw [dropsGo] at he
      refine ⟨fun hkv => ?_, fun hkv => ?_⟩
      · rw [if_pos (by omega)] at he
        refine ⟨k, x, ⟨by omega, hx, hxo, he⟩, by omega, ?_⟩
        rw [wr (by omega) (by omega)]
        refine Le.told [] ?_ ?_ ?_ <;> simp [-Bool.exists_bool, -Int.not_le, -Int.not_lt, -getElem?_pos, -List.getD_eq_getElem?_getD, hkv]
      · rw [if_neg (by omega)] at he
        have hce : isCe d x = true := isCe_iff.2 ⟨hd, hx, hxo⟩
        have hD := iDropW d k x (by omega)
        have eD : dropD d x k = dropC d k x := by rw [dropD, if_pos ⟨hce, by omega, by omega⟩]; rfl
        rw [eD] at hD
        refine CallJ.pure hD rfl (by simp [-Bool.exists_bool, -Int.not_le, -Int.not_lt, -getElem?_pos, -List.getD_eq_getElem?_getD]) ?_
        have hok2 := dropC_ok hd k hx hxo
        generalize dropC d k x = q at he hok2 ⊢
        simp -implicitDefEqProofs -dsimp +contextual [-Bool.exists_bool, -Int.not_le, -Int.not_lt, -getElem?_pos, -List.getD_eq_getElem?_getD, hkk, hkv]
        refine ⟨fun hq => ?_, fun hq => no (by rw [eb, he, if_neg (by simp [-Bool.exists_bool, -Int.not_le, -Int.not_lt, -getElem?_pos, -List.getD_eq_getElem?_getD, hq])])⟩
        rw [if_pos hq] at he
        obtain ⟨q1, q2, q3⟩ := hok2 hq
        refine ⟨k, q.2.1, ⟨by omega, q2, q3, he⟩, by omega, ?_⟩
        rw [wr (by omega) (by omega)]
        refine Le.told [] ?_ ?_ ?_ <;> simp [-Bool.exists_bool, -Int.not_le, -Int.not_lt, -getElem?_pos, -List.getD_eq_getElem?_getD, q1]
end Go.Proofs.Ytkicjflhokckgaa.ZL
namespace Go.Proofs.Ytkicjflhokckgaa.ZL
open Go Go.Proofs.Ytkicjflhokckgaa.Abs Go.Proofs.Ytkicjflhokckgaa.Abs.Pl Go.RowKit Go.Proofs
set_option linter.unusedVariables false
set_option linter.unusedSimpArgs false
theorem eq42 : eq2B Try.prog 42 .i64 = true := by kernel_rfl
def okB (b : Bd) : Prop := (b.hh = true → isRat b.hi.1 b.hi.2 = true) ∧ (b.hl = true → isRat b.lo.1 b.lo.2 = true)
theorem cmp_gt {a b : Int × Int} (ha : isRat a.1 a.2 = true) (hb : isRat b.1 b.2 = true) : 0 < cmpR a b ↔ b.1 * a.2 < a.1 * b.2 := by
  rw [cmpR, if_pos ⟨ha, hb⟩]; split
  · constructor <;> intro h <;> omega
  · split <;> constructor <;> intro h <;> omega
theorem cmp_lt {a b : Int × Int} (ha : isRat a.1 a.2 = true) (hb : isRat b.1 b.2 = true) : cmpR a b < 0 ↔ a.1 * b.2 < b.1 * a.2 := by
  rw [cmpR, if_pos ⟨ha, hb⟩]; split
  · constructor <;> intro h <;> omega
  · split <;> constructor <;> intro h <;> omega
theorem cmp_eq {a b : Int × Int} (ha : isRat a.1 a.2 = true) (hb : isRat b.1 b.2 = true) : cmpR a b = 0 ↔ (a.1 = b.1 ∧ a.2 = b.2) := by
  rw [cmpR, if_pos ⟨ha, hb⟩]; split
  · rename_i h
    constructor
    · intro h'; omega
    · rintro ⟨h1, h2⟩; rw [h1, h2] at h; omega
  · rename_i h
    split
    · rename_i h'
      constructor
      · intro h'; omega
      · rintro ⟨h1, h2⟩; rw [h1, h2] at h'; omega
    · rename_i h'
      refine ⟨fun _ => ?_, fun _ => rfl⟩
      have := cross_eq ha hb (by omega)
      rw [this]; exact ⟨rfl, rfl⟩
set_option maxRecDepth 100000 in
theorem l3Narrow (d : Int) (b : Bd) (a : At) (v : Nat) (ho : okA d a) (hv : (v : Int) < d) (hb : okB b) : Cn Try.prog 109 [bdV b, A1 a, I v] (bdV (narrow v b a)) hemp := by
  refine Cn.of [] mixed Try.func109 rfl Try.call109 (by kernel_rfl) rfl ?_
  have hvl : v < a.1.length := by have := ho.2; omega
  have hnu := okA_num ho
  have hx := hnu.1 _ (nth_mem hvl)
  have hx' := isNum_iff.1 hx
  have hc := isNum_iff.1 hnu.2.1
  have hcn : isNum (-a.2.1) = true := isNum_iff.2 ⟨by omega, by omega⟩
  simp -implicitDefEqProofs -dsimp +contextual [-Bool.exists_bool, -Int.not_le, -Int.not_lt, -getElem?_pos, -List.getD_eq_getElem?_getD, Try.f109, hvl]
  rw [wr (by omega) (by omega)]
  refine CallJ.pure (MakeRatio (-a.2.1) (nth a.1 v) hcn hx) rfl (by simp [-Bool.exists_bool, -Int.not_le, -Int.not_lt, -getElem?_pos, -List.getD_eq_getElem?_getD]) ?_
  have hr : nth a.1 v ≠ 0 → isRat (mkR (-a.2.1) (nth a.1 v)).1 (mkR (-a.2.1) (nth a.1 v)).2 = true := mkR_rat hcn hx
  unfold narrow
  generalize mkR (-a.2.1) (nth a.1 v) = r at hr ⊢
  generalize nth a.1 v = x at hx hx' hr ⊢
  obtain ⟨hl, lo, lop, hh, hi, hop, em⟩ := b
  rcases Int.lt_trichotomy x 0 with h0 | h0 | h0
  · have n1 : ¬ 0 < x := by omega
    have n2 : ¬ x = 0 := by omega
    have hr := hr n2
    simp -implicitDefEqProofs -dsimp +contextual [-Bool.exists_bool, -Int.not_le, -Int.not_lt, -getElem?_pos, -List.getD_eq_getElem?_getD, hvl, n1, n2, h0]
    refine ⟨fun c1 => ?_, fun c1 => ?_⟩
    · subst c1
      have hq := hb.2 rfl
      have hq : isRat lo.1 lo.2 = true := hq
      have g1 := cmp_gt hr hq
      have g2 := cmp_eq hr hq
      generalize cmpR r lo = c at g1 g2 ⊢
      refine CallJ.pure (l1Less lo r hq hr) rfl (by simp [-Bool.exists_bool, -Int.not_le, -Int.not_lt, -getElem?_pos, -List.getD_eq_getElem?_getD]) ?_
      by_cases e1 : lo.1 * r.2 < r.1 * lo.2
      · have m1 := g1.2 e1
        simp -implicitDefEqProofs -dsimp +contextual [-Bool.exists_bool, -Int.not_le, -Int.not_lt, -getElem?_pos, -List.getD_eq_getElem?_getD, hvl, n1, n2, h0, eq42, e1, m1]
        exact RLe.pure 2 (by simp [-Bool.exists_bool, -Int.not_le, -Int.not_lt, -getElem?_pos, -List.getD_eq_getElem?_getD])
      · have m1 : ¬ 0 < c := fun h => e1 (g1.1 h)
        by_cases e2 : r.1 = lo.1 ∧ r.2 = lo.2
        · have m2 := g2.2 e2
          obtain ⟨e2a, e2b⟩ := e2
          have m3 : (r.1 == lo.1 && r.2 == lo.2) = true := by simp [-Bool.exists_bool, -Int.not_le, -Int.not_lt, -getElem?_pos, -List.getD_eq_getElem?_getD, e2a, e2b]
          cases hs : a.2.2
          · simp -implicitDefEqProofs -dsimp +contextual [-Bool.exists_bool, -Int.not_le, -Int.not_lt, -getElem?_pos, -List.getD_eq_getElem?_getD, hvl, n1, n2, h0, eq42, e1, m1, m2, m3, hs]
            exact RLe.pure 2 (by simp [-Bool.exists_bool, -Int.not_le, -Int.not_lt, -getElem?_pos, -List.getD_eq_getElem?_getD])
          · simp -implicitDefEqProofs -dsimp +contextual [-Bool.exists_bool, -Int.not_le, -Int.not_lt, -getElem?_pos, -List.getD_eq_getElem?_getD, hvl, n1, n2, h0, eq42, e1, m1, m2, m3, hs]
            exact RLe.pure 2 (by simp [-Bool.exists_bool, -Int.not_le, -Int.not_lt, -getElem?_pos, -List.getD_eq_getElem?_getD])
        · have m2 : ¬ c = 0 := fun h => e2 (g2.1 h)
          have m3 : (r.1 == lo.1 && r.2 == lo.2) = false := by
            cases hq3 : (r.1 == lo.1 && r.2 == lo.2)
            · rfl
            · exact absurd (by simpa [-Bool.exists_bool, -Int.not_le, -Int.not_lt, -getElem?_pos, -List.getD_eq_getElem?_getD] using hq3) e2
          simp -implicitDefEqProofs -dsimp +contextual [-Bool.exists_bool, -Int.not_le, -Int.not_lt, -getElem?_pos, -List.getD_eq_getElem?_getD, hvl, n1, n2, h0, eq42, e1, m1, m2, m3]
          exact RLe.pure 2 (by simp [-Bool.exists_bool, -Int.not_le, -Int.not_lt, -getElem?_pos, -List.getD_eq_getElem?_getD, m1, m2])
    · subst c1
      exact RLe.pure 2 (by simp [-Bool.exists_bool, -Int.not_le, -Int.not_lt, -getElem?_pos, -List.getD_eq_getElem?_getD])
  · subst h0
    simp -implicitDefEqProofs -dsimp +contextual [-Bool.exists_bool, -Int.not_le, -Int.not_lt, -getElem?_pos, -List.getD_eq_getElem?_getD, hvl]
    exact RLe.pure 2 (by simp [-Bool.exists_bool, -Int.not_le, -Int.not_lt, -getElem?_pos, -List.getD_eq_getElem?_getD])
  · have n1 : ¬ x < 0 := by omega
    have n2 : ¬ x = 0 := by omega
    have hr := hr n2
    simp -implicitDefEqProofs -dsimp +contextual [-Bool.exists_bool, -Int.not_le, -Int.not_lt, -getElem?_pos, -List.getD_eq_getElem?_getD, hvl, n1, n2, h0]
    refine ⟨fun c1 => ?_, fun c1 => ?_⟩
    · subst c1
      have hq := hb.1 rfl
      have hq : isRat hi.1 hi.2 = true := hq
      have g1 := cmp_lt hr hq
      have g2 := cmp_eq hr hq
      generalize cmpR r hi = c at g1 g2 ⊢
      refine CallJ.pure (l1Less r hi hr hq) rfl (by simp [-Bool.exists_bool, -Int.not_le, -Int.not_lt, -getElem?_pos, -List.getD_eq_getElem?_getD]) ?_
      by_cases e1 : r.1 * hi.2 < hi.1 * r.2
      · have m1 := g1.2 e1
        simp -implicitDefEqProofs -dsimp +contextual [-Bool.exists_bool, -Int.not_le, -Int.not_lt, -getElem?_pos, -List.getD_eq_getElem?_getD, hvl, n1, n2, h0, eq42, e1, m1]
        exact RLe.pure 2 (by simp [-Bool.exists_bool, -Int.not_le, -Int.not_lt, -getElem?_pos, -List.getD_eq_getElem?_getD])
      · have m1 : ¬ c < 0 := fun h => e1 (g1.1 h)
        by_cases e2 : r.1 = hi.1 ∧ r.2 = hi.2
        · have m2 := g2.2 e2
          obtain ⟨e2a, e2b⟩ := e2
          have m3 : (r.1 == hi.1 && r.2 == hi.2) = true := by simp [-Bool.exists_bool, -Int.not_le, -Int.not_lt, -getElem?_pos, -List.getD_eq_getElem?_getD, e2a, e2b]
          cases hs : a.2.2
          · simp -implicitDefEqProofs -dsimp +contextual [-Bool.exists_bool, -Int.not_le, -Int.not_lt, -getElem?_pos, -List.getD_eq_getElem?_getD, hvl, n1, n2, h0, eq42, e1, m1, m2, m3, hs]
            exact RLe.pure 2 (by simp [-Bool.exists_bool, -Int.not_le, -Int.not_lt, -getElem?_pos, -List.getD_eq_getElem?_getD])
          · simp -implicitDefEqProofs -dsimp +contextual [-Bool.exists_bool, -Int.not_le, -Int.not_lt, -getElem?_pos, -List.getD_eq_getElem?_getD, hvl, n1, n2, h0, eq42, e1, m1, m2, m3, hs]
            exact RLe.pure 2 (by simp [-Bool.exists_bool, -Int.not_le, -Int.not_lt, -getElem?_pos, -List.getD_eq_getElem?_getD])
        · have m2 : ¬ c = 0 := fun h => e2 (g2.1 h)
          have m3 : (r.1 == hi.1 && r.2 == hi.2) = false := by
            cases hq3 : (r.1 == hi.1 && r.2 == hi.2)
            · rfl
            · exact absurd (by simpa [-Bool.exists_bool, -Int.not_le, -Int.not_lt, -getElem?_pos, -List.getD_eq_getElem?_getD] using hq3) e2
          simp -implicitDefEqProofs -dsimp +contextual [-Bool.exists_bool, -Int.not_le, -Int.not_lt, -getElem?_pos, -List.getD_eq_getElem?_getD, hvl, n1, n2, h0, eq42, e1, m1, m2, m3]
          exact RLe.pure 2 (by simp [-Bool.exists_bool, -Int.not_le, -Int.not_lt, -getElem?_pos, -List.getD_eq_getElem?_getD, m1, m2])
    · subst c1
      exact RLe.pure 2 (by simp [-Bool.exists_bool, -Int.not_le, -Int.not_lt, -getElem?_pos, -List.getD_eq_getElem?_getD])
theorem narrow_ok {d : Int} {b : Bd} {a : At} {v : Nat} (ho : okA d a) (hv : (v : Int) < d) (hb : okB b) : okB (narrow v b a) := by
  have hvl : v < a.1.length := by have := ho.2; omega
  have hnu := okA_num ho
  have hx := hnu.1 _ (nth_mem hvl)
  have hc := isNum_iff.1 hnu.2.1
  have hcn : isNum (-a.2.1) = true := isNum_iff.2 ⟨by omega, by omega⟩
  unfold narrow
  split
  · exact hb
  · rename_i h0
    have hr := mkR_rat hcn hx h0
    split
    · split
      · exact ⟨fun _ => hr, hb.2⟩
      · exact hb
    · split
      · exact ⟨hb.1, fun _ => hr⟩
      · exact hb
def bndsS (v : Nat) : Bd → List At → Bd
  | b, [] => endB b
  | b, a :: L => if gcdL a.1 = 0 then (if truA a = true then bndsS v b L else bdE) else bndsS v (narrow v b a) L
theorem l3Bounds (d : Int) (L : List At) (v : Nat) (hv : (v : Int) < d) (h16 : L.length ≤ 16) (hok : allOk d L) : Cn Try.prog 82 [C1 d L, I v] (bdV (bndsS v bd0 L)) hemp := by
  refine Cn.of [] mixed Try.func82 rfl Try.call82 (by kernel_rfl) rfl ?_
  simp -implicitDefEqProofs -dsimp +contextual [-Bool.exists_bool, -Int.not_le, -Int.not_lt, -getElem?_pos, -List.getD_eq_getElem?_getD, Try.f82]
  refine WP.loop mixed [] (fun p : Nat × Bd => ⟨tl [(1, I v), (2, .ptr (0, 0) 0), (4, .ptr (1, 0) 0), (5, .ptr (2, 0) 0), (6, I p.1)], hl [((0, 0), .box [I d, As L]), ((1, 0), .box (bdL bd0)), ((2, 0), .box (bdL p.2))], 3⟩)
    (fun p => p.1 ≤ L.length ∧ okB p.2 ∧ bndsS v bd0 L = bndsS v p.2 (L.drop p.1)) (fun p => L.length - p.1) (0, bd0) (by kernel_rfl) ?_ ?_ ?_
  · refine Le.told [((2, 0), (3, 0))] ?_ ?_ ?_ <;> simp [-Bool.exists_bool, -Int.not_le, -Int.not_lt, -getElem?_pos, -List.getD_eq_getElem?_getD, setH, bd0]
  · exact ⟨Nat.zero_le _, ⟨fun h => by simp [-Bool.exists_bool, -Int.not_le, -Int.not_lt, -getElem?_pos, -List.getD_eq_getElem?_getD, bd0] at h, fun h => by simp [-Bool.exists_bool, -Int.not_le, -Int.not_lt, -getElem?_pos, -List.getD_eq_getElem?_getD, bd0] at h⟩, rfl⟩
  · rintro ⟨i, b⟩ ⟨hi, hb, he⟩
    simp only at hi hb he
    by_cases h : i < L.length
    · have ho := hok _ (nth_mem h)
      simp -implicitDefEqProofs -dsimp +contextual [-Bool.exists_bool, -Int.not_le, -Int.not_lt, -getElem?_pos, -List.getD_eq_getElem?_getD, h]
      refine CallJ.pure (l2Constant (nth L i) (okA_small ho)) rfl (by simp [-Bool.exists_bool, -Int.not_le, -Int.not_lt, -getElem?_pos, -List.getD_eq_getElem?_getD]) ?_
      rw [nth_drop h, bndsS] at he
      simp -implicitDefEqProofs -dsimp +contextual [-Bool.exists_bool, -Int.not_le, -Int.not_lt, -getElem?_pos, -List.getD_eq_getElem?_getD, h]
      refine ⟨fun h0 => ?_, fun h0 => ?_⟩
      · rw [if_pos h0] at he
        refine CallJ.pure (l2Truth (nth L i)) rfl (by simp [-Bool.exists_bool, -Int.not_le, -Int.not_lt, -getElem?_pos, -List.getD_eq_getElem?_getD]) ?_
        simp -implicitDefEqProofs -dsimp +contextual [-Bool.exists_bool, -Int.not_le, -Int.not_lt, -getElem?_pos, -List.getD_eq_getElem?_getD, h, h0]
        refine ⟨fun ht => ?_, fun ht => RLe.pure 2 (by rw [he, if_neg (by simp [-Bool.exists_bool, -Int.not_le, -Int.not_lt, -getElem?_pos, -List.getD_eq_getElem?_getD, ht])]; simp [-Bool.exists_bool, -Int.not_le, -Int.not_lt, -getElem?_pos, -List.getD_eq_getElem?_getD, bdE])⟩
        rw [if_pos ht] at he
        refine ⟨i + 1, b, ⟨h, hb, he⟩, by omega, ?_⟩
        rw [wr (by omega) (by omega)]
        refine Le.told [] ?_ ?_ ?_ <;> simp [-Bool.exists_bool, -Int.not_le, -Int.not_lt, -getElem?_pos, -List.getD_eq_getElem?_getD]
      · rw [if_neg h0] at he
        refine CallJ.pure (l3Narrow d b (nth L i) v ho hv hb) rfl (by simp [-Bool.exists_bool, -Int.not_le, -Int.not_lt, -getElem?_pos, -List.getD_eq_getElem?_getD]) ?_
        have hb2 := narrow_ok ho hv hb
        generalize narrow v b (nth L i) = b2 at he hb2 ⊢
        simp -implicitDefEqProofs -dsimp +contextual [-Bool.exists_bool, -Int.not_le, -Int.not_lt, -getElem?_pos, -List.getD_eq_getElem?_getD, h, h0]
        refine ⟨i + 1, b2, ⟨h, hb2, he⟩, by omega, ?_⟩
        rw [wr (by omega) (by omega)]
        refine Le.told [] ?_ ?_ ?_ <;> simp [-Bool.exists_bool, -Int.not_le, -Int.not_lt, -getElem?_pos, -List.getD_eq_getElem?_getD]
    · rw [drop_nil (by omega)] at he
      rw [he, bndsS]
      rcases b with ⟨_ | _, lo, lop, _ | _, hi, hop, em⟩
      · simp -implicitDefEqProofs -dsimp +contextual [-Bool.exists_bool, -Int.not_le, -Int.not_lt, -getElem?_pos, -List.getD_eq_getElem?_getD, h]
        exact RLe.pure 2 (by simp [-Bool.exists_bool, -Int.not_le, -Int.not_lt, -getElem?_pos, -List.getD_eq_getElem?_getD, endB])
      · simp -implicitDefEqProofs -dsimp +contextual [-Bool.exists_bool, -Int.not_le, -Int.not_lt, -getElem?_pos, -List.getD_eq_getElem?_getD, h]
        exact RLe.pure 2 (by simp [-Bool.exists_bool, -Int.not_le, -Int.not_lt, -getElem?_pos, -List.getD_eq_getElem?_getD, endB])
      · simp -implicitDefEqProofs -dsimp +contextual [-Bool.exists_bool, -Int.not_le, -Int.not_lt, -getElem?_pos, -List.getD_eq_getElem?_getD, h]
        exact RLe.pure 2 (by simp [-Bool.exists_bool, -Int.not_le, -Int.not_lt, -getElem?_pos, -List.getD_eq_getElem?_getD, endB])
      · have q1 : isRat hi.1 hi.2 = true := hb.1 rfl
        have q2 : isRat lo.1 lo.2 = true := hb.2 rfl
        have g1 := cmp_gt q2 q1
        have g2 := cmp_eq q2 q1
        have e9 : endB ⟨true, lo, lop, true, hi, hop, em⟩ = if 0 < cmpR lo hi ∨ (cmpR lo hi = 0 ∧ (lop = true ∨ hop = true)) then bdE else ⟨true, lo, lop, true, hi, hop, em⟩ := by simp [-Bool.exists_bool, -Int.not_le, -Int.not_lt, -getElem?_pos, -List.getD_eq_getElem?_getD, endB]
        rw [e9]
        generalize cmpR lo hi = c at g1 g2 ⊢
        simp -implicitDefEqProofs -dsimp +contextual [-Bool.exists_bool, -Int.not_le, -Int.not_lt, -getElem?_pos, -List.getD_eq_getElem?_getD, h]
        refine CallJ.pure (l1Less hi lo q1 q2) rfl (by simp [-Bool.exists_bool, -Int.not_le, -Int.not_lt, -getElem?_pos, -List.getD_eq_getElem?_getD]) ?_
        by_cases e1 : hi.1 * lo.2 < lo.1 * hi.2
        · have m1 := g1.2 e1
          simp -implicitDefEqProofs -dsimp +contextual [-Bool.exists_bool, -Int.not_le, -Int.not_lt, -getElem?_pos, -List.getD_eq_getElem?_getD, h, eq42, e1, m1]
          exact RLe.pure 2 (by simp [-Bool.exists_bool, -Int.not_le, -Int.not_lt, -getElem?_pos, -List.getD_eq_getElem?_getD, bdE])
        · have m1 : ¬ 0 < c := fun h => e1 (g1.1 h)
          by_cases e2 : lo.1 = hi.1 ∧ lo.2 = hi.2
          · have m2 := g2.2 e2
            obtain ⟨e2a, e2b⟩ := e2
            have m3 : (hi.1 == lo.1 && hi.2 == lo.2) = true := by simp [-Bool.exists_bool, -Int.not_le, -Int.not_lt, -getElem?_pos, -List.getD_eq_getElem?_getD, e2a, e2b]
            cases lop
            · cases hop
              · simp -implicitDefEqProofs -dsimp +contextual [-Bool.exists_bool, -Int.not_le, -Int.not_lt, -getElem?_pos, -List.getD_eq_getElem?_getD, h, eq42, e1, m1, m2, m3]
                exact RLe.pure 2 (by simp [-Bool.exists_bool, -Int.not_le, -Int.not_lt, -getElem?_pos, -List.getD_eq_getElem?_getD])
              · simp -implicitDefEqProofs -dsimp +contextual [-Bool.exists_bool, -Int.not_le, -Int.not_lt, -getElem?_pos, -List.getD_eq_getElem?_getD, h, eq42, e1, m1, m2, m3]
                exact RLe.pure 2 (by simp [-Bool.exists_bool, -Int.not_le, -Int.not_lt, -getElem?_pos, -List.getD_eq_getElem?_getD, bdE])
            · simp -implicitDefEqProofs -dsimp +contextual [-Bool.exists_bool, -Int.not_le, -Int.not_lt, -getElem?_pos, -List.getD_eq_getElem?_getD, h, eq42, e1, m1, m2, m3]
              exact RLe.pure 2 (by simp [-Bool.exists_bool, -Int.not_le, -Int.not_lt, -getElem?_pos, -List.getD_eq_getElem?_getD, bdE])
          · have m2 : ¬ c = 0 := fun h => e2 (g2.1 h)
            have m3 : (hi.1 == lo.1 && hi.2 == lo.2) = false := by
              cases hq3 : (hi.1 == lo.1 && hi.2 == lo.2)
              · rfl
              · have hq4 : hi.1 = lo.1 ∧ hi.2 = lo.2 := by simpa [-Bool.exists_bool, -Int.not_le, -Int.not_lt, -getElem?_pos, -List.getD_eq_getElem?_getD] using hq3
                exact absurd ⟨hq4.1.symm, hq4.2.symm⟩ e2
            simp -implicitDefEqProofs -dsimp +contextual [-Bool.exists_bool, -Int.not_le, -Int.not_lt, -getElem?_pos, -List.getD_eq_getElem?_getD, h, eq42, e1, m1, m2, m3]
            exact RLe.pure 2 (by simp [-Bool.exists_bool, -Int.not_le, -Int.not_lt, -getElem?_pos, -List.getD_eq_getElem?_getD, m1, m2])
end Go.Proofs.Ytkicjflhokckgaa.ZL
namespace Go.Proofs.Ytkicjflhokckgaa.ZL
open Go Go.Proofs.Ytkicjflhokckgaa.Abs Go.Proofs.Ytkicjflhokckgaa.Abs.Pl Go.RowKit Go.Proofs
set_option linter.unusedVariables false
set_option linter.unusedSimpArgs false
def NF (d : Int) (x : List At) : Prop := x = [noneA d] ∨ ∀ a ∈ x, gcdL a.1 ≠ 0
theorem bndsS_v (v : Nat) : ∀ (x : List At) (b : Bd), (∀ a ∈ x, gcdL a.1 ≠ 0) → bndsS v b x = endB (narrows v b x)
  | [], b, _ => rfl
  | a :: x, b, h => by
    rw [bndsS, if_neg (h a List.mem_cons_self), narrows]
    exact bndsS_v v x _ fun y hy => h y (List.mem_cons_of_mem _ hy)
theorem gcd_zeros : ∀ n : Nat, gcdL (List.replicate n 0) = 0
  | 0 => rfl
  | n + 1 => by
    have := gcd_zeros n
    simp [-Bool.exists_bool, -Int.not_le, -Int.not_lt, -getElem?_pos, -List.getD_eq_getElem?_getD, List.replicate_succ, gcdL, gcdF]
    exact this
theorem bnds_eq {d : Int} (v : Nat) {x : List At} (h : NF d x) : bndsS v bd0 x = bndsI v x := by
  rcases h with rfl | h
  · have hg : gcdL (noneA d).1 = 0 := gcd_zeros _
    have ht : truA (noneA d) = false := rfl
    have he : emF [noneA d] = true := by
      have hh : hasV (noneA d) = false := by simp [-Bool.exists_bool, -Int.not_le, -Int.not_lt, -getElem?_pos, -List.getD_eq_getElem?_getD, hasV, hg]
      show (decide (1 = 1) && (!hasV (noneA d) && (decide ((1 : Int) = 1) && !false))) = true
      rw [hh]; rfl
    rw [bndsS, if_pos hg, if_neg (by simp [-Bool.exists_bool, -Int.not_le, -Int.not_lt, -getElem?_pos, -List.getD_eq_getElem?_getD, ht]), bndsI, if_pos he]
  · rw [bndsS_v v x bd0 h, bndsI, if_neg]
    intro he
    rcases x with _ | ⟨a, _ | ⟨b, R⟩⟩
    · simp [-Bool.exists_bool, -Int.not_le, -Int.not_lt, -getElem?_pos, -List.getD_eq_getElem?_getD, emF] at he
    · have hh : hasV a = true := by simp [-Bool.exists_bool, -Int.not_le, -Int.not_lt, -getElem?_pos, -List.getD_eq_getElem?_getD, hasV, h a List.mem_cons_self]
      have : emF [a] = false := by
        show (decide (1 = 1) && (!hasV a && (decide (a.2.1 = 1) && !a.2.2))) = false
        rw [hh]; rfl
      rw [this] at he; exact absurd he (by simp [-Bool.exists_bool, -Int.not_le, -Int.not_lt, -getElem?_pos, -List.getD_eq_getElem?_getD])
    · simp [-Bool.exists_bool, -Int.not_le, -Int.not_lt, -getElem?_pos, -List.getD_eq_getElem?_getD, emF] at he
theorem nfL_mem {x : At} : ∀ (l acc : List At), x ∈ l.foldl (fun acc a => putN a acc) acc → x ∈ acc ∨ x ∈ l
  | [], acc, h => .inl h
  | a :: l, acc, h => by
    rcases nfL_mem l (putN a acc) h with h | h
    · rcases putN_mem a acc x h with rfl | h
      · exact .inr List.mem_cons_self
      · exact .inl h
    · exact .inr (List.mem_cons_of_mem _ h)
theorem nrm_NF (d : Int) (M : List At) : NF d (nrm d M) := by
  unfold nrm
  split
  · exact .inl rfl
  · refine .inr fun a ha => ?_
    rcases nfL_mem _ _ ha with h | h
    · simp [-Bool.exists_bool, -Int.not_le, -Int.not_lt, -getElem?_pos, -List.getD_eq_getElem?_getD] at h
    · have := (List.mem_filter.1 h).2
      simpa [-Bool.exists_bool, -Int.not_le, -Int.not_lt, -getElem?_pos, -List.getD_eq_getElem?_getD, hasV] using this
theorem dropC_NF {d : Int} {k : Nat} {x : List At} (h : (dropC d k x).2.2 = true) : NF d (dropC d k x).2.1 := by
  unfold dropC at h ⊢
  split
  · rename_i e; rw [e] at h; exact absurd h (by simp [-Bool.exists_bool, -Int.not_le, -Int.not_lt, -getElem?_pos, -List.getD_eq_getElem?_getD])
  · rename_i M e
    rw [e] at h
    simp only at h ⊢
    unfold limN at h ⊢
    split
    · rename_i h2; rw [if_pos h2] at h; exact absurd h (by simp [-Bool.exists_bool, -Int.not_le, -Int.not_lt, -getElem?_pos, -List.getD_eq_getElem?_getD])
    · exact nrm_NF d M
theorem dropsGo_NF {d : Int} {v : Nat} : ∀ (k : Nat) {x y : List At}, NF d x → dropsGo d v k x = some y → NF d y
  | 0, x, y, hx, h => by obtain rfl := Option.some.inj h; exact hx
  | k + 1, x, y, hx, h => by
    unfold dropsGo at h
    split at h
    · exact dropsGo_NF k hx h
    · split at h
      · rename_i hr; exact dropsGo_NF k (dropC_NF hr) h
      · exact absurd h (by simp [-Bool.exists_bool, -Int.not_le, -Int.not_lt, -getElem?_pos, -List.getD_eq_getElem?_getD])
theorem BoundsOf (d : Int) (L : List At) (v : Int) (h20 : L.length ≤ 1048576) : Cn Try.prog 44 [C1 d L, I v] (.tup [bdV (bndD d L v).1, B (bndD d L v).2]) hemp := by
  refine Cn.of [] mixed Try.func44 rfl Try.call44 (by kernel_rfl) rfl ?_
  simp -implicitDefEqProofs -dsimp +contextual [-Bool.exists_bool, -Int.not_le, -Int.not_lt, -getElem?_pos, -List.getD_eq_getElem?_getD, Try.f44]
  have no : ∀ {H : Store}, bndD d L v = (bd0, false) → RLe Try.prog H (V.tup [V.agg [V.d (D.bool false), V.d (D.int IntKind.i64 0), V.d (D.int IntKind.i64 0), V.d (D.bool false), V.d (D.bool false), V.d (D.int IntKind.i64 0), V.d (D.int IntKind.i64 0), V.d (D.bool false), V.d (D.bool false)], V.d (D.bool false)]) (.tup [bdV (bndD d L v).1, B (bndD d L v).2]) hemp := fun h => by
    rw [h]
    exact RLe.pure 2 (by simp [-Bool.exists_bool, -Int.not_le, -Int.not_lt, -getElem?_pos, -List.getD_eq_getElem?_getD, bd0])
  refine CallJ.pure (IsCell d L h20) rfl (by simp [-Bool.exists_bool, -Int.not_le, -Int.not_lt, -getElem?_pos, -List.getD_eq_getElem?_getD]) ?_
  simp -implicitDefEqProofs -dsimp +contextual [-Bool.exists_bool, -Int.not_le, -Int.not_lt, -getElem?_pos, -List.getD_eq_getElem?_getD]
  refine ⟨fun h1 => ?_, fun h1 => no (by rw [bndD, if_neg (by simp [-Bool.exists_bool, -Int.not_le, -Int.not_lt, -getElem?_pos, -List.getD_eq_getElem?_getD, h1])])⟩
  have hd := isCe_d h1
  have h16 := isCe_l h1
  have hok := isCe_a h1
  rw [wr (by omega) (by omega)]
  refine CallJ.pure (l1In v 0 (d - 1)) rfl (by simp [-Bool.exists_bool, -Int.not_le, -Int.not_lt, -getElem?_pos, -List.getD_eq_getElem?_getD]) ?_
  simp -implicitDefEqProofs -dsimp +contextual [-Bool.exists_bool, -Int.not_le, -Int.not_lt, -getElem?_pos, -List.getD_eq_getElem?_getD, h1]
  refine ⟨fun h2 => ?_, fun h2 => no (by rw [bndD, if_neg]; simp [-Bool.exists_bool, -Int.not_le, -Int.not_lt, -getElem?_pos, -List.getD_eq_getElem?_getD, inB] at h2; omega)⟩
  have hv : 0 ≤ v ∧ v < d := by simp [-Bool.exists_bool, -Int.not_le, -Int.not_lt, -getElem?_pos, -List.getD_eq_getElem?_getD, inB] at h2; omega
  refine CallJ.pure (l3Normal d hd L (by omega) hok) rfl (by simp [-Bool.exists_bool, -Int.not_le, -Int.not_lt, -getElem?_pos, -List.getD_eq_getElem?_getD]) ?_
  simp -implicitDefEqProofs -dsimp +contextual [-Bool.exists_bool, -Int.not_le, -Int.not_lt, -getElem?_pos, -List.getD_eq_getElem?_getD, h1, h2]
  rw [wr (by omega) (by omega)]
  obtain ⟨v', rfl⟩ : ∃ v' : Nat, v = v' := ⟨v.toNat, by omega⟩
  have eb : bndD d L v' = (match dropsGo d v' d.toNat (nrm d L) with | some x => (bndsI v' x, true) | none => (bd0, false)) := by rw [bndD, if_pos ⟨h1, hv⟩]; rfl
  refine WP.loop mixed [] (fun p : Nat × List At => ⟨tl [(1, I v'), (4, .ptr (1, 0) 0), (6, .ptr (2, 0) 0), (7, I ((p.1 : Int) - 1))], hl [((1, 0), .box (bdL bd0)), ((2, 0), .box [I d, As p.2])], 3⟩)
    (fun p => (p.1 : Int) ≤ d ∧ p.2.length ≤ 16 ∧ allOk d p.2 ∧ NF d p.2 ∧ dropsGo d v' d.toNat (nrm d L) = dropsGo d v' p.1 p.2) (fun p => p.1) (d.toNat, nrm d L) (by kernel_rfl) ?_ ?_ ?_
  · refine Le.told [((2, 0), (19, 0))] ?_ ?_ ?_ <;> simp [-Bool.exists_bool, -Int.not_le, -Int.not_lt, -getElem?_pos, -List.getD_eq_getElem?_getD, setH, bd0]
    omega
  · exact ⟨by simp only; omega, nrm_16 d L h16, nrm_okL hd hok, nrm_NF d L, rfl⟩
  · rintro ⟨k, x⟩ ⟨hk, hx, hxo, hnf, he⟩
    simp only at hk hx hxo hnf he
    cases k with
    | zero =>
      simp only [dropsGo] at he
      simp -implicitDefEqProofs -dsimp +contextual [-Bool.exists_bool, -Int.not_le, -Int.not_lt, -getElem?_pos, -List.getD_eq_getElem?_getD]
      have eb : bndD d L v' = (bndsI v' x, true) := by rw [eb, he]
      have hB := l3Bounds d x v' hv.2 hx hxo
      rw [bnds_eq v' hnf] at hB
      refine CallJ.pure hB rfl (by simp [-Bool.exists_bool, -Int.not_le, -Int.not_lt, -getElem?_pos, -List.getD_eq_getElem?_getD]) ?_
      rw [eb]
      simp -implicitDefEqProofs -dsimp +contextual [-Bool.exists_bool, -Int.not_le, -Int.not_lt, -getElem?_pos, -List.getD_eq_getElem?_getD]
      exact RLe.pure 2 (by simp [-Bool.exists_bool, -Int.not_le, -Int.not_lt, -getElem?_pos, -List.getD_eq_getElem?_getD])
    | succ k =>
      have hkk : ¬ ((k : Int) < 0) := by omega
      simp -implicitDefEqProofs -dsimp +contextual [-Bool.exists_bool, -Int.not_le, -Int.not_lt, -getElem?_pos, -List.getD_eq_getElem?_getD, hkk]
      rw [dropsGo] at he
      refine ⟨fun hkv => ?_, fun hkv => ?_⟩
      · rw [if_pos (by omega)] at he
        refine ⟨k, x, ⟨by omega, hx, hxo, hnf, he⟩, by omega, ?_⟩
        rw [wr (by omega) (by omega)]
        refine Le.told [] ?_ ?_ ?_ <;> simp [-Bool.exists_bool, -Int.not_le, -Int.not_lt, -getElem?_pos, -List.getD_eq_getElem?_getD, hkv]
      · rw [if_neg (by omega)] at he
        refine CallJ.pure (l3Drop d hd k x hx hxo (by omega)) rfl (by simp [-Bool.exists_bool, -Int.not_le, -Int.not_lt, -getElem?_pos, -List.getD_eq_getElem?_getD]) ?_
        have hok2 := dropC_ok hd k hx hxo
        have hnf2 := dropC_NF (d := d) (k := k) (x := x)
        generalize dropC d k x = q at he hok2 hnf2 ⊢
        simp -implicitDefEqProofs -dsimp +contextual [-Bool.exists_bool, -Int.not_le, -Int.not_lt, -getElem?_pos, -List.getD_eq_getElem?_getD, hkk, hkv]
        refine ⟨fun hq => ?_, fun hq => no (by rw [eb, he, if_neg (by simp [-Bool.exists_bool, -Int.not_le, -Int.not_lt, -getElem?_pos, -List.getD_eq_getElem?_getD, hq])])⟩
        rw [if_pos hq] at he
        obtain ⟨q1, q2, q3⟩ := hok2 hq
        refine ⟨k, q.2.1, ⟨by omega, q2, q3, hnf2 hq, he⟩, by omega, ?_⟩
        rw [wr (by omega) (by omega)]
        refine Le.told [] ?_ ?_ ?_ <;> simp [-Bool.exists_bool, -Int.not_le, -Int.not_lt, -getElem?_pos, -List.getD_eq_getElem?_getD, q1]
theorem eqRatio (a : Int × Int) : Cn Try.prog 86 [Ra a.1 a.2, Ra a.1 a.2] (B true) hemp := by
  refine Cn.of [] mixed Try.func86 rfl Try.call86 (by kernel_rfl) rfl ?_
  simp -implicitDefEqProofs -dsimp +contextual [-Bool.exists_bool, -Int.not_le, -Int.not_lt, -getElem?_pos, -List.getD_eq_getElem?_getD, Try.f86]
  exact RLe.bb rfl
theorem eqBounds (b : Bd) : Cn Try.prog 46 [bdV b, bdV b] (B true) hemp := by
  refine Cn.of [] mixed Try.func46 rfl Try.call46 (by kernel_rfl) rfl ?_
  simp -implicitDefEqProofs -dsimp +contextual [-Bool.exists_bool, -Int.not_le, -Int.not_lt, -getElem?_pos, -List.getD_eq_getElem?_getD, Try.f46]
  refine CallJ.pure (eqRatio b.lo) rfl (by simp [-Bool.exists_bool, -Int.not_le, -Int.not_lt, -getElem?_pos, -List.getD_eq_getElem?_getD]) ?_
  simp -implicitDefEqProofs -dsimp +contextual [-Bool.exists_bool, -Int.not_le, -Int.not_lt, -getElem?_pos, -List.getD_eq_getElem?_getD]
  refine CallJ.pure (eqRatio b.hi) rfl (by simp [-Bool.exists_bool, -Int.not_le, -Int.not_lt, -getElem?_pos, -List.getD_eq_getElem?_getD]) ?_
  simp -implicitDefEqProofs -dsimp +contextual [-Bool.exists_bool, -Int.not_le, -Int.not_lt, -getElem?_pos, -List.getD_eq_getElem?_getD]
  exact RLe.bb rfl
theorem lawBoundsOf (c : Ce) (v : Int) (hc : wfC c) (_ : (Lit.int .i64 v).wf = true) : Cn Try.prog 12 [.agg (cV c), I v] (B true) hemp := by
  refine Cn.of [] mixed Try.func12 rfl Try.call12 (by kernel_rfl) rfl ?_
  simp -implicitDefEqProofs -dsimp +contextual [-Bool.exists_bool, -Int.not_le, -Int.not_lt, -getElem?_pos, -List.getD_eq_getElem?_getD, Try.f12]
  refine CallJ.pure (szCell c 1048576 ok20 hc) rfl (by simp [-Bool.exists_bool, -Int.not_le, -Int.not_lt, -getElem?_pos, -List.getD_eq_getElem?_getD]) ?_
  simp -implicitDefEqProofs -dsimp +contextual [-Bool.exists_bool, -Int.not_le, -Int.not_lt, -getElem?_pos, -List.getD_eq_getElem?_getD]
  refine ⟨fun _ => RLe.bb rfl, fun h => ?_⟩
  obtain ⟨w1, hk⟩ := lft_2 ok20 h
  obtain ⟨hc1, hc2⟩ := wAs_small w1
  refine CallJ.pure (toCellW c hc1 hc2) rfl (by simp [-Bool.exists_bool, -Int.not_le, -Int.not_lt, -getElem?_pos, -List.getD_eq_getElem?_getD]) ?_
  simp -implicitDefEqProofs -dsimp +contextual [-Bool.exists_bool, -Int.not_le, -Int.not_lt, -getElem?_pos, -List.getD_eq_getElem?_getD, h]
  refine CallJ.pure (BoundsOf c.1 c.2 v hc1) rfl (by simp [-Bool.exists_bool, -Int.not_le, -Int.not_lt, -getElem?_pos, -List.getD_eq_getElem?_getD]) ?_
  simp -implicitDefEqProofs -dsimp +contextual [-Bool.exists_bool, -Int.not_le, -Int.not_lt, -getElem?_pos, -List.getD_eq_getElem?_getD, h]
  refine CallJ.pure (toCellW c hc1 hc2) rfl (by simp [-Bool.exists_bool, -Int.not_le, -Int.not_lt, -getElem?_pos, -List.getD_eq_getElem?_getD]) ?_
  simp -implicitDefEqProofs -dsimp +contextual [-Bool.exists_bool, -Int.not_le, -Int.not_lt, -getElem?_pos, -List.getD_eq_getElem?_getD, h]
  refine CallJ.pure (iBoundsOf c.1 c.2 v hc1) rfl (by simp [-Bool.exists_bool, -Int.not_le, -Int.not_lt, -getElem?_pos, -List.getD_eq_getElem?_getD]) ?_
  simp -implicitDefEqProofs -dsimp +contextual [-Bool.exists_bool, -Int.not_le, -Int.not_lt, -getElem?_pos, -List.getD_eq_getElem?_getD, h]
  refine CallJ.pure (eqBounds (bndD c.1 c.2 v).1) rfl (by simp [-Bool.exists_bool, -Int.not_le, -Int.not_lt, -getElem?_pos, -List.getD_eq_getElem?_getD]) ?_
  simp -implicitDefEqProofs -dsimp +contextual [-Bool.exists_bool, -Int.not_le, -Int.not_lt, -getElem?_pos, -List.getD_eq_getElem?_getD, h]
  refine CallJ.pure (toCellW c hc1 hc2) rfl (by simp [-Bool.exists_bool, -Int.not_le, -Int.not_lt, -getElem?_pos, -List.getD_eq_getElem?_getD]) ?_
  simp -implicitDefEqProofs -dsimp +contextual [-Bool.exists_bool, -Int.not_le, -Int.not_lt, -getElem?_pos, -List.getD_eq_getElem?_getD, h]
  refine CallJ.pure (eqCell c hc1 hc2) rfl (by simp [-Bool.exists_bool, -Int.not_le, -Int.not_lt, -getElem?_pos, -List.getD_eq_getElem?_getD]) ?_
  simp -implicitDefEqProofs -dsimp +contextual [-Bool.exists_bool, -Int.not_le, -Int.not_lt, -getElem?_pos, -List.getD_eq_getElem?_getD, h]
  exact RLe.bb rfl
end Go.Proofs.Ytkicjflhokckgaa.ZL
