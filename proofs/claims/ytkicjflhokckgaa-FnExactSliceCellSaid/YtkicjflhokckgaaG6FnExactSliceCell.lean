/- Texts of the abs road (plain values, what code does to them, and the contracts of the functions that the law reaches). No condition. -/
import Derived.Test.YtkicjflhokckgaaG5FnExactSliceCell
import Derived.Shelf.Spec.SlicesGrow
import Derived.Test.YtkicjflhokckgaaProg
namespace Go.Proofs
open Go.Shelf
def Try.growL_ren : Go.Shelf.Ren := ⟨fun | 4 => 101 | n => n, fun | 22 => 26 | 25 => 52 | 3 => 3 | 4 => 4 | 9 => 9 | 20 => 20 | 0 => 0 | n => n, fun | n => n⟩
theorem Try.growL : Go.Proofs.Lays8.n4 Try.prog Try.growL_ren := {
  mixed := by kernel_rfl
  f4 := ⟨Try.f101.name, by decide, Try.func101.trans (congrArg some (by kernel_rfl))⟩
  t0 := Try.underlying0
  a0 := Try.isAgg0
  z0 := Try.sizeOf0
  v0 := Try.zeroValue0
  t3 := Try.underlying3
  a3 := Try.isAgg3
  z3 := Try.sizeOf3
  v3 := Try.zeroValue3
  t4 := Try.underlying4
  a4 := Try.isAgg4
  z4 := Try.sizeOf4
  v4 := Try.zeroValue4
  t9 := Try.underlying9
  a9 := Try.isAgg9
  z9 := Try.sizeOf9
  v9 := Try.zeroValue9
  t20 := Try.underlying20
  a20 := Try.isAgg20
  z20 := Try.sizeOf20
  v20 := Try.zeroValue20
  t22 := Try.underlying26
  a22 := Try.isAgg26
  z22 := Try.sizeOf26
  v22 := Try.zeroValue26 }
end Go.Proofs
namespace Go.Proofs.Ytkicjflhokckgaa.ZL
open Go Go.Proofs.Ytkicjflhokckgaa.Abs Go.Proofs.Ytkicjflhokckgaa.Abs.Pl Go.RowKit Go.Proofs
set_option linter.unusedVariables false
set_option linter.unusedSimpArgs false
theorem iGrow (n : Nat) (hn : n ≤ 1048576) : Cn Try.prog 101 [.nil, I n] (.ref (0, 0) 0) (hl [((0, 0), .row 52 0 [])]) := by
  refine ⟨Try.call101, fun w F args hF hden => ?_⟩
  obtain ⟨A, rfl⟩ : ∃ A, args = #[.slice A 0 0, .int .i64 n] := by
    unfold DenVs at hden
    obtain ⟨u, r, h1, h2, h3⟩ := hden
    unfold DenVs at h3
    obtain ⟨u', r', rfl, h4, h5⟩ := h3
    unfold DenVs at h5
    subst h5
    unfold DenV at h2
    obtain ⟨A, h6⟩ := h2
    exact ⟨A, Array.toList_inj.1 (by rw [h1, h6, h4.int])⟩
  obtain ⟨i0, hi, hz, hzero⟩ : ∃ i0, Try.prog.info? 52 = some i0 ∧ i0.size = 3 ∧ i0.bytes = 40 := digest_size dg52
  obtain ⟨i1, z, h1, h2, h3⟩ := digest_zero dg52
  rw [hi] at h1
  obtain rfl := Option.some.inj h1
  have hzc : z.cells.size = 3 := by
    have := congrArg List.length h3
    simpa [-Bool.exists_bool, -Int.not_le, -Int.not_lt, -getElem?_pos, -List.getD_eq_getElem?_getD] using this.symm
  by_cases h0 : n = 0
  · subst h0
    have hS := Any8.slices_Grow_room (P := Try.prog) (ρ := Try.growL_ren) Try.growL A 0 0 0 w (by omega) (by omega) (by omega) (by omega)
    change Calls Try.prog 101 _ _ _ at hS
    refine hS.mono ?_
    rintro e w' ⟨rfl, rfl⟩
    refine ⟨_, fun k => if k = (0, 0) then some (.slice A 0 0) else none, F, rfl, fun b h => h, ?_, ⟨fun k e hk => ?_, fun k k' e e' u u' b hk hk' _ _ _ _ _ _ => ?_⟩, Chg.refl _ _, fun k e u b hk _ hu hb => ?_, fun k hk => if_neg (fun e => hk (by rw [e]))⟩
    · unfold DenV; exact ⟨rfl, A, 0, rfl, .inl rfl⟩
    · simp only [hl] at hk
      split at hk
      · rename_i h; subst h
        obtain rfl := Option.some.inj hk
        exact ⟨_, rfl, .inr ⟨A, rfl, rfl, rfl⟩, fun _ b hb => by cases A <;> simp [-Bool.exists_bool, -Int.not_le, -Int.not_lt, -getElem?_pos, -List.getD_eq_getElem?_getD, blkOf] at hb⟩
      · exact absurd hk (by simp [-Bool.exists_bool, -Int.not_le, -Int.not_lt, -getElem?_pos, -List.getD_eq_getElem?_getD])
    · simp only [hl] at hk hk'
      split at hk <;> split at hk'
      · rename_i h h'; rw [h, h']
      · exact absurd hk' (by simp [-Bool.exists_bool, -Int.not_le, -Int.not_lt, -getElem?_pos, -List.getD_eq_getElem?_getD])
      · exact absurd hk (by simp [-Bool.exists_bool, -Int.not_le, -Int.not_lt, -getElem?_pos, -List.getD_eq_getElem?_getD])
      · exact absurd hk (by simp [-Bool.exists_bool, -Int.not_le, -Int.not_lt, -getElem?_pos, -List.getD_eq_getElem?_getD])
    · simp only at hu
      split at hu
      · obtain rfl := Option.some.inj hu; cases A <;> simp [-Bool.exists_bool, -Int.not_le, -Int.not_lt, -getElem?_pos, -List.getD_eq_getElem?_getD, blkOf] at hb
      · exact absurd hu (by simp [-Bool.exists_bool, -Int.not_le, -Int.not_lt, -getElem?_pos, -List.getD_eq_getElem?_getD])
  · have hS := Any8.slices_Grow_grow (P := Try.prog) (ρ := Try.growL_ren) Try.growL i0 z hi h2 (by omega) A 0 0 n [] w (by omega) (by omega) (by rw [hzero]; omega) (by omega) (by simp [-Bool.exists_bool, -Int.not_le, -Int.not_lt, -getElem?_pos, -List.getD_eq_getElem?_getD]) (fun _ => rfl) (fun a _ j v h => by simp [-Bool.exists_bool, -Int.not_le, -Int.not_lt, -getElem?_pos, -List.getD_eq_getElem?_getD] at h)
    change Calls Try.prog 101 _ _ _ at hS
    refine hS.mono ?_
    rintro e w' ⟨rfl, rfl⟩
    have hge := grownCap_ge w (0 + n) 0 52
    have hle := grownCap_le_maxLen w (0 + n) 0 52 (by unfold maxLen; omega)
    have et : Try.growL_ren.t 25 = 52 := rfl
    rw [et]
    generalize grownCap w (0 + n) 0 52 = cp at hge hle ⊢
    have hb0 : blkOf (.slice (some ⟨w.heap.size, 0, none⟩) 0 cp) = some w.heap.size := by simp only [blkOf]; rw [if_neg (by omega)]
    refine ⟨_, fun k => if k = (0, 0) then some (.slice (some ⟨w.heap.size, 0, none⟩) 0 cp) else none, fun b => F b ∨ b = w.heap.size, rfl, fun b h => .inl h, ?_, ⟨fun k e hk => ?_, fun k k' e e' u u' b hk hk' _ _ _ _ _ _ => ?_⟩, ⟨rfl, rfl, rfl, by simp [-Bool.exists_bool, -Int.not_le, -Int.not_lt, -getElem?_pos, -List.getD_eq_getElem?_getD], fun b _ h => (Chg.alloc (fun _ => False) w.drew _).block b (fun h => h) h, Nat.le_succ _⟩, fun k e u b hk _ hu hb => ?_, fun k hk => if_neg (fun e => hk (by rw [e]))⟩
    · unfold DenV; exact ⟨rfl, _, cp, rfl, .inl rfl⟩
    · simp only [hl] at hk
      split at hk
      · rename_i h; subst h
        obtain rfl := Option.some.inj hk
        refine ⟨_, rfl, .inl ⟨[], i0, hi, ⟨by simp [-Bool.exists_bool, -Int.not_le, -Int.not_lt, -getElem?_pos, -List.getD_eq_getElem?_getD], .inr ⟨w.heap.size, cp, _, rfl, Nat.zero_le _, heap_alloc_new w.drew _, Nat.zero_le _, hle, ?_, by simp [-Bool.exists_bool, -Int.not_le, -Int.not_lt, -getElem?_pos, -List.getD_eq_getElem?_getD]⟩⟩, DenVs.nil⟩, fun _ b hb => ?_⟩
        · simp only [Array.size_append, List.size_toArray, size_zeroCells, hzc, hz, List.length_nil]
          omega
        · rw [hb0] at hb; exact .inr (Option.some.inj hb).symm
      · exact absurd hk (by simp [-Bool.exists_bool, -Int.not_le, -Int.not_lt, -getElem?_pos, -List.getD_eq_getElem?_getD])
    · simp only [hl] at hk hk'
      split at hk <;> split at hk'
      · rename_i h h'; rw [h, h']
      · exact absurd hk' (by simp [-Bool.exists_bool, -Int.not_le, -Int.not_lt, -getElem?_pos, -List.getD_eq_getElem?_getD])
      · exact absurd hk (by simp [-Bool.exists_bool, -Int.not_le, -Int.not_lt, -getElem?_pos, -List.getD_eq_getElem?_getD])
      · exact absurd hk (by simp [-Bool.exists_bool, -Int.not_le, -Int.not_lt, -getElem?_pos, -List.getD_eq_getElem?_getD])
    · simp only at hu
      split at hu
      · obtain rfl := Option.some.inj hu; rw [hb0] at hb; have := Option.some.inj hb; omega
      · exact absurd hu (by simp [-Bool.exists_bool, -Int.not_le, -Int.not_lt, -getElem?_pos, -List.getD_eq_getElem?_getD])
end Go.Proofs.Ytkicjflhokckgaa.ZL
namespace Go.Proofs.Ytkicjflhokckgaa.ZL
open Go Go.Proofs.Ytkicjflhokckgaa.Abs Go.Proofs.Ytkicjflhokckgaa.Abs.Pl Go.RowKit Go.Proofs
set_option linter.unusedVariables false
set_option linter.unusedSimpArgs false
theorem negAt_t {a : At} (h : isAt a.1 a.2.1 = true) : negAt a.1 a.2.1 a.2.2 = (a.1.map (- ·), -a.2.1, !a.2.2, true) := if_pos h
theorem negAt_f {a : At} (h : isAt a.1 a.2.1 = false) : negAt a.1 a.2.1 a.2.2 = noAt := if_neg (by rw [h]; simp [-Bool.exists_bool, -Int.not_le, -Int.not_lt, -getElem?_pos, -List.getD_eq_getElem?_getD])
theorem NegateAtom (a : At) : Cn Try.prog 69 [A1 a] (A2 (negAt a.1 a.2.1 a.2.2)) hemp := by
  refine Cn.of [] mixed Try.func69 rfl Try.call69 (by kernel_rfl) rfl ?_
  simp -implicitDefEqProofs -dsimp +contextual [-Bool.exists_bool, -Int.not_le, -Int.not_lt, -getElem?_pos, -List.getD_eq_getElem?_getD, Try.f69]
  refine CallJ.pure (IsAtom a) rfl (by simp [-Bool.exists_bool, -Int.not_le, -Int.not_lt, -getElem?_pos, -List.getD_eq_getElem?_getD]) ?_
  simp -implicitDefEqProofs -dsimp +contextual [-Bool.exists_bool, -Int.not_le, -Int.not_lt, -getElem?_pos, -List.getD_eq_getElem?_getD]
  refine ⟨fun ha => ?_, fun ha => RLe.pure 3 (by rw [negAt_f ha]; simp [-Bool.exists_bool, -Int.not_le, -Int.not_lt, -getElem?_pos, -List.getD_eq_getElem?_getD, noAt, setH])⟩
  rw [negAt_t ha]
  have p := isAt_iff.1 ha
  have ng : ∀ {x : Int}, isNum x = true → IntKind.wrap .i64 (-x) = -x := fun {x} h => by
    have := isNum_iff.1 h
    exact wr (by omega) (by omega)
  rw [ng p.2.1]
  refine WP.loop mixed [] (fun i : Nat => ⟨tl [(1, .ptr (0, 0) 0), (2, .ptr (1, 0) 0), (4, .ptr (2, 0) 0), (5, I i)], hl [((0, 0), .box (aV a)), ((1, 0), .box [.nil, I 0, B false]), ((2, 0), .box [.ref (3, 0) i, I (-a.2.1), B (!a.2.2)]), ((3, 0), .row 3 i (dl ((a.1.take i).map fun x => .int .i64 (-x))))], 4⟩) (fun i => i ≤ a.1.length) (fun i => a.1.length - i) 0 (by kernel_rfl) ?_ ?_ ?_
  · refine Le.trans (Le.nilBox (13, 0) 0 3 (c := [.nil, I (-a.2.1), B (!a.2.2)]) (by simp [-Bool.exists_bool, -Int.not_le, -Int.not_lt, -getElem?_pos, -List.getD_eq_getElem?_getD, setH]) rfl) (Le.told [((2, 0), (13, 0)), ((3, 0), (16, 0))] ?_ ?_ ?_) <;> simp [-Bool.exists_bool, -Int.not_le, -Int.not_lt, -getElem?_pos, -List.getD_eq_getElem?_getD, setH, ELe]
  · simp [-Bool.exists_bool, -Int.not_le, -Int.not_lt, -getElem?_pos, -List.getD_eq_getElem?_getD]
  · intro i hi
    by_cases h : i < a.1.length
    · simp -implicitDefEqProofs -dsimp +contextual [-Bool.exists_bool, -Int.not_le, -Int.not_lt, -getElem?_pos, -List.getD_eq_getElem?_getD, h]
      rw [ng (p.2.2.1 _ (nth_mem h))]
      refine ⟨⟨by omega, by simp [-Bool.exists_bool, -Int.not_le, -Int.not_lt, -getElem?_pos, -List.getD_eq_getElem?_getD, maxLen]; omega⟩, by kernel_rfl, i + 1, h, by omega, ?_⟩
      rw [wr (by omega) (by omega)]
      refine Le.told [((3, 0), (18, 0))] ?_ ?_ ?_ <;> simp [-Bool.exists_bool, -Int.not_le, -Int.not_lt, -getElem?_pos, -List.getD_eq_getElem?_getD]
      rw [← List.map_take, ← List.map_take, nth_take h, List.map_append]
      rfl
    · obtain rfl : i = a.1.length := by omega
      simp -implicitDefEqProofs -dsimp +contextual [-Bool.exists_bool, -Int.not_le, -Int.not_lt, -getElem?_pos, -List.getD_eq_getElem?_getD, h]
      refine RLe.pure 3 ?_
      simp [-Bool.exists_bool, -Int.not_le, -Int.not_lt, -getElem?_pos, -List.getD_eq_getElem?_getD, setH]
def negs (l : List Int) (i : Nat) : List Int := (l.take i).map (- ·) ++ List.replicate (l.length - i) 0
theorem negs_len (l : List Int) (i : Nat) (h : i ≤ l.length) : (negs l i).length = l.length := by simp [-Bool.exists_bool, -Int.not_le, -Int.not_lt, -getElem?_pos, -List.getD_eq_getElem?_getD, negs]; omega
theorem negs_set (l : List Int) (i : Nat) (h : i < l.length) : (negs l i).set i (-nth l i) = negs l (i + 1) := by
  have e : l.length - i = (l.length - (i + 1)) + 1 := by omega
  unfold negs
  rw [e, List.replicate_succ, nth_take h, List.set_append_right _ _ (by simp [-Bool.exists_bool, -Int.not_le, -Int.not_lt, -getElem?_pos, -List.getD_eq_getElem?_getD]; omega)]
  simp [-Bool.exists_bool, -Int.not_le, -Int.not_lt, -getElem?_pos, -List.getD_eq_getElem?_getD, Nat.min_eq_left (Nat.le_of_lt h)]
theorem iNegateAtom (a : At) : Cn Try.prog 71 [A1 a] (A2 (negAt a.1 a.2.1 a.2.2)) hemp := by
  refine Cn.of [] mixed Try.func71 rfl Try.call71 (by kernel_rfl) rfl ?_
  simp -implicitDefEqProofs -dsimp +contextual [-Bool.exists_bool, -Int.not_le, -Int.not_lt, -getElem?_pos, -List.getD_eq_getElem?_getD, Try.f71]
  refine CallJ.pure (iIsAtom a) rfl (by simp [-Bool.exists_bool, -Int.not_le, -Int.not_lt, -getElem?_pos, -List.getD_eq_getElem?_getD]) ?_
  simp -implicitDefEqProofs -dsimp +contextual [-Bool.exists_bool, -Int.not_le, -Int.not_lt, -getElem?_pos, -List.getD_eq_getElem?_getD]
  refine ⟨fun ha => ?_, fun ha => RLe.pure 3 (by rw [negAt_f ha]; simp [-Bool.exists_bool, -Int.not_le, -Int.not_lt, -getElem?_pos, -List.getD_eq_getElem?_getD, noAt, setH])⟩
  rw [negAt_t ha]
  have p := isAt_iff.1 ha
  have ng : ∀ {x : Int}, isNum x = true → IntKind.wrap .i64 (-x) = -x := fun {x} h => by
    have := isNum_iff.1 h
    exact wr (by omega) (by omega)
  rw [ng p.2.1]
  refine ⟨⟨by omega, by simp [-Bool.exists_bool, -Int.not_le, -Int.not_lt, -getElem?_pos, -List.getD_eq_getElem?_getD, maxLen]; omega⟩, ?_⟩
  refine WP.loop mixed [] (fun i : Nat => ⟨tl [(2, .ptr (1, 0) 0), (4, .ptr (2, 0) 0), (23, Is a.1), (24, I a.1.length), (25, I i)], hl [((1, 0), .box [.nil, I 0, B false]), ((2, 0), .box [.ref (3, 0) a.1.length, I (-a.2.1), B (!a.2.2)]), ((3, 0), .row 3 a.1.length (dl ((negs a.1 i).map (.int .i64))))], 4⟩) (fun i => i ≤ a.1.length) (fun i => a.1.length - i) 0 (by kernel_rfl) ?_ ?_ ?_
  · refine Le.told [((2, 0), (17, 0)), ((3, 0), (9, 0))] ?_ ?_ ?_ <;> simp [-Bool.exists_bool, -Int.not_le, -Int.not_lt, -getElem?_pos, -List.getD_eq_getElem?_getD, setH, negs]
  · simp [-Bool.exists_bool, -Int.not_le, -Int.not_lt, -getElem?_pos, -List.getD_eq_getElem?_getD]
  · intro i hi
    by_cases h : i < a.1.length
    · have h1 : i + 1 ≤ (negs a.1 i).length := by rw [negs_len _ i hi]; exact h
      simp -implicitDefEqProofs -dsimp +contextual [-Bool.exists_bool, -Int.not_le, -Int.not_lt, -getElem?_pos, -List.getD_eq_getElem?_getD, h, h1]
      rw [ng (p.2.2.1 _ (nth_mem h))]
      refine ⟨i + 1, h, by omega, ?_⟩
      rw [wr (by omega) (by omega)]
      refine Le.told [] ?_ ?_ ?_ <;> simp [-Bool.exists_bool, -Int.not_le, -Int.not_lt, -getElem?_pos, -List.getD_eq_getElem?_getD]
      rw [← negs_set a.1 i h, List.map_set, List.set_eq_take_append_cons_drop, if_pos (by rw [List.length_map]; exact h1)]
    · obtain rfl : i = a.1.length := by omega
      simp -implicitDefEqProofs -dsimp +contextual [-Bool.exists_bool, -Int.not_le, -Int.not_lt, -getElem?_pos, -List.getD_eq_getElem?_getD, h]
      refine RLe.pure 3 ?_
      simp [-Bool.exists_bool, -Int.not_le, -Int.not_lt, -getElem?_pos, -List.getD_eq_getElem?_getD, setH, negs]
theorem _root_.Go.Proofs.Ytkicjflhokckgaa.Abs.CallJ.same {P : Program} {N nx s f : Nat} {H : Store} {vs : List V} {r : V} {Hr : Store} {K : Eff → Prop} (h : Cn P f vs r Hr) (ha : allKs (fun _ => False) vs)
    (hk : K ⟨mapK (atS s) r, [], [], upCall s Hr⟩) : CallJ P N nx s H f vs K := by
  refine ⟨_, hk, h.enter, upCall_ups, fun k hk => absurd hk (by simp [-Bool.exists_bool, -Int.not_le, -Int.not_lt, -getElem?_pos, -List.getD_eq_getElem?_getD]), fun k hk => absurd hk (by simp [-Bool.exists_bool, -Int.not_le, -Int.not_lt, -getElem?_pos, -List.getD_eq_getElem?_getD]), fun {w0 F0 E0 fr T Hc a w M F us dst} hfr hat hden hH hd => ?_⟩
  let Fc : Nat → Prop := fun b => F b ∧ b < w.heap.size
  have hm : DenVs M Fc w vs us.toList := hden.move (fun _ _ h => h) ⟨fun b hb => .inl hb.1, fun _ _ _ => rfl⟩
  refine (h.run w Fc us (fun b hb => hb.2) (DenVs.cong (M := M) (g := fun k => k) (p := fun _ => False) (fun k h => h.elim) ha (by rw [mapL_id]; exact hm))).mono ?_
  rintro e w' ⟨v, M', F', rfl, hFF, hr, hR, hc, hnew, hM0⟩
  refine ⟨v, rfl, hat.called (F2 := fun b => F' b ∧ (F b ∨ w.heap.size ≤ b)) hfr hd hc (fun b hb => hb.2) (fun b h1 h2 => ⟨hFF b ⟨h1, h2⟩, .inl h1⟩) hM0 ?_ ?_ hnew⟩
  · exact hr.move (fun _ _ h => h) ⟨fun b hb => .inl hb.1, fun _ _ _ => rfl⟩
  · refine hR.mono (fun b hb => hb.1) fun k e u b h1 h2 h3 h4 => ⟨?_, .inr (hnew k e u b h1 h2 h3 h4)⟩
    obtain ⟨u', hu', _, hF⟩ := hR.ent k e h1
    rw [h3] at hu'
    obtain rfl := Option.some.inj hu'
    exact hF h2 b h4
def sD (L : List At) : D := .sl L.length (asD L)
abbrev Ss (Ls : List (List At)) : V := .d (.sl Ls.length (Ls.map sD))
theorem Ss_get (Ls : List (List At)) (i : Nat) (h : i < Ls.length) : (Ls.map sD)[i]? = some (sD (nth Ls i)) := by rw [List.getElem?_map, nth_some h]; rfl
def tot : List (List At) → Nat
  | [] => 0
  | L :: Ls => L.length + tot Ls
theorem tot_flat : ∀ Ls : List (List At), Ls.flatten.length = tot Ls
  | [] => rfl
  | L :: Ls => by simp [-Bool.exists_bool, -Int.not_le, -Int.not_lt, -getElem?_pos, -List.getD_eq_getElem?_getD, tot, tot_flat Ls]
theorem tot_drop (Ls : List (List At)) (i : Nat) : tot (Ls.drop i) ≤ tot Ls := by
  induction Ls generalizing i with
  | nil => simp [-Bool.exists_bool, -Int.not_le, -Int.not_lt, -getElem?_pos, -List.getD_eq_getElem?_getD]
  | cons L Ls ih => cases i with
    | zero => exact Nat.le_refl _
    | succ i => have := ih i; simp [-Bool.exists_bool, -Int.not_le, -Int.not_lt, -getElem?_pos, -List.getD_eq_getElem?_getD, tot]; omega
theorem iConcat (Ls : List (List At)) (h : Ls.length ≤ 1048576) (ht : tot Ls ≤ 1048576) : Cn Try.prog 59 [Ss Ls] (.ref (0, 0) Ls.flatten.length) (Go.Proofs.Ytkicjflhokckgaa.Abs.hl [((0, 0), .row 52 Ls.flatten.length (dl (asD Ls.flatten)))]) := by
  refine Cn.of [] mixed Try.func59 rfl Try.call59 (by kernel_rfl) rfl ?_
  simp -implicitDefEqProofs -dsimp +contextual [-Bool.exists_bool, -Int.not_le, -Int.not_lt, -getElem?_pos, -List.getD_eq_getElem?_getD, Try.f59]
  refine WP.loop mixed [] (fun p : Nat × Nat => ⟨tl [(0, Ss Ls), (3, I p.2), (9, Ss Ls), (10, I Ls.length), (11, I p.1)], hl [], 1⟩) (fun p => p.1 ≤ Ls.length ∧ p.2 + tot (Ls.drop p.1) = tot Ls) (fun p => Ls.length - p.1) (0, 0) (by kernel_rfl) ?_ ?_ ?_
  · refine Le.told [] ?_ ?_ ?_ <;> simp [-Bool.exists_bool, -Int.not_le, -Int.not_lt, -getElem?_pos, -List.getD_eq_getElem?_getD]
  · exact ⟨Nat.zero_le _, by simp [-Bool.exists_bool, -Int.not_le, -Int.not_lt, -getElem?_pos, -List.getD_eq_getElem?_getD]⟩
  · rintro ⟨i, n⟩ ⟨hi, hn⟩
    simp only at hi hn
    by_cases h1 : i < Ls.length
    · have hg := Ss_get Ls i h1
      simp only [sD] at hg
      rw [nth_drop h1, tot] at hn
      have hw : IntKind.wrap .i64 ((n : Int) + (nth Ls i).length) = (n : Int) + (nth Ls i).length := wr (by omega) (by omega)
      have h0 : ¬ ((n : Int) + (nth Ls i).length < 0) := by omega
      simp -implicitDefEqProofs -dsimp +contextual [-Bool.exists_bool, -Int.not_le, -Int.not_lt, -getElem?_pos, -List.getD_eq_getElem?_getD, h1, hg, hw, h0, sD]
      refine ⟨i + 1, n + (nth Ls i).length, ⟨h1, by omega⟩, by omega, ?_⟩
      rw [wr (by omega) (by omega)]
      refine Le.told [] ?_ ?_ ?_ <;> simp [-Bool.exists_bool, -Int.not_le, -Int.not_lt, -getElem?_pos, -List.getD_eq_getElem?_getD]
    · rw [drop_nil (by omega), tot, Nat.add_zero] at hn
      simp -implicitDefEqProofs -dsimp +contextual [-Bool.exists_bool, -Int.not_le, -Int.not_lt, -getElem?_pos, -List.getD_eq_getElem?_getD, h1]
      refine CallJ.same (iGrow n (by omega)) (by simp [-Bool.exists_bool, -Int.not_le, -Int.not_lt, -getElem?_pos, -List.getD_eq_getElem?_getD, allKs, allK]) ?_
      simp -implicitDefEqProofs -dsimp +contextual [-Bool.exists_bool, -Int.not_le, -Int.not_lt, -getElem?_pos, -List.getD_eq_getElem?_getD]
      refine WP.loop mixed [] (fun i : Nat => ⟨tl [(6, .ref (3, 0) (Ls.take i).flatten.length), (25, Ss Ls), (26, I Ls.length), (27, I i)], Go.Proofs.Ytkicjflhokckgaa.Abs.hl [((3, 0), .row 52 (Ls.take i).flatten.length (dl (asD (Ls.take i).flatten)))], 4⟩) (fun i => i ≤ Ls.length) (fun i => Ls.length - i) 0 (by kernel_rfl) ?_ ?_ ?_
      · refine Le.told [] ?_ ?_ ?_ <;> simp [-Bool.exists_bool, -Int.not_le, -Int.not_lt, -getElem?_pos, -List.getD_eq_getElem?_getD, asD, dl_nil]
      · simp [-Bool.exists_bool, -Int.not_le, -Int.not_lt, -getElem?_pos, -List.getD_eq_getElem?_getD]
      · intro i hi
        by_cases h2 : i < Ls.length
        · have hg := Ss_get Ls i h2
          simp only [sD] at hg
          have hf : (Ls.take (i + 1)).flatten = (Ls.take i).flatten ++ nth Ls i := by rw [nth_take h2]; simp [-Bool.exists_bool, -Int.not_le, -Int.not_lt, -getElem?_pos, -List.getD_eq_getElem?_getD]
          have hfl : (Ls.take i).flatten.length + (nth Ls i).length ≤ 1048576 := by
            have e : Ls.flatten = (Ls.take (i + 1)).flatten ++ (Ls.drop (i + 1)).flatten := by rw [← List.flatten_append, List.take_append_drop]
            have e2 := congrArg List.length e
            rw [hf, List.length_append, List.length_append, tot_flat] at e2
            omega
          have hs := congrArg List.length hf
          simp only [List.length_append, List.length_flatten, List.map_take] at hs
          simp -implicitDefEqProofs -dsimp +contextual [-Bool.exists_bool, -Int.not_le, -Int.not_lt, -getElem?_pos, -List.getD_eq_getElem?_getD, h2, hg, sD]
          refine ⟨⟨by simp [-Bool.exists_bool, -Int.not_le, -Int.not_lt, -getElem?_pos, -List.getD_eq_getElem?_getD] at hfl; omega, by simp [-Bool.exists_bool, -Int.not_le, -Int.not_lt, -getElem?_pos, -List.getD_eq_getElem?_getD] at hfl; simp [-Bool.exists_bool, -Int.not_le, -Int.not_lt, -getElem?_pos, -List.getD_eq_getElem?_getD, maxLen]; omega⟩, i + 1, h2, by omega, ?_⟩
          rw [wr (by omega) (by omega)]
          refine Le.told [((3, 0), (10, 0))] ?_ ?_ ?_ <;> simp [-Bool.exists_bool, -Int.not_le, -Int.not_lt, -getElem?_pos, -List.getD_eq_getElem?_getD, hf, asD_append, hs]
        · obtain rfl : i = Ls.length := by omega
          simp -implicitDefEqProofs -dsimp +contextual [-Bool.exists_bool, -Int.not_le, -Int.not_lt, -getElem?_pos, -List.getD_eq_getElem?_getD, h2]
          refine RLe.told [((0, 0), (3, 0))] ?_ ?_ ?_ <;> simp [-Bool.exists_bool, -Int.not_le, -Int.not_lt, -getElem?_pos, -List.getD_eq_getElem?_getD]
theorem iConcatW (Ls : List (List At)) (h : Ls.length ≤ 1048576) (ht : tot Ls ≤ 1048576) : Cn Try.prog 59 [Ss Ls] (As Ls.flatten) hemp := Cn.freeze 2 (iConcat Ls h ht) (by simp [-Bool.exists_bool, -Int.not_le, -Int.not_lt, -getElem?_pos, -List.getD_eq_getElem?_getD, lendT, lendV])
def meetC (a b : Ce) : Int × List At × Bool := if isCe a.1 a.2 = true ∧ isCe b.1 b.2 = true ∧ a.1 = b.1 then limN a.1 (a.2 ++ b.2) else (0, [], false)
theorem meetC_f {a b : Ce} (h : ¬ (meetC a b).2.2 = true) : meetC a b = (0, [], false) := by
  unfold meetC at h ⊢
  split
  · rename_i h2; rw [if_pos h2] at h; exact limN_f h
  · rfl
end Go.Proofs.Ytkicjflhokckgaa.ZL
namespace Go.Proofs.Ytkicjflhokckgaa.ZL
open Go Go.Proofs.Ytkicjflhokckgaa.Abs Go.Proofs.Ytkicjflhokckgaa.Abs.Pl Go.RowKit Go.Proofs
set_option linter.unusedVariables false
set_option linter.unusedSimpArgs false
theorem MeetCells (a b : Ce) (ha : a.2.length ≤ 1048576) (hb : b.2.length ≤ 1048576) : Cn Try.prog 21 [.agg (cV a), .agg (cV b)] (D2 (meetC a b)) hemp := by
  refine Cn.of [0] mixed Try.func21 rfl Try.call21 (by kernel_rfl) rfl ?_
  simp -implicitDefEqProofs -dsimp +contextual [-Bool.exists_bool, -Int.not_le, -Int.not_lt, -getElem?_pos, -List.getD_eq_getElem?_getD, Try.f21]
  have no : ∀ {H : Store}, ¬ (isCe a.1 a.2 = true ∧ isCe b.1 b.2 = true ∧ a.1 = b.1) → RLe Try.prog H (V.tup [V.agg [V.d (D.int IntKind.i64 0), V.nil], V.d (D.bool false)]) (D2 (meetC a b)) hemp := fun h => by
    rw [meetC, if_neg h]
    exact RLe.pure 2 (by simp [-Bool.exists_bool, -Int.not_le, -Int.not_lt, -getElem?_pos, -List.getD_eq_getElem?_getD, asD])
  refine CallJ.pure (IsCell a.1 a.2 ha) rfl (by simp [-Bool.exists_bool, -Int.not_le, -Int.not_lt, -getElem?_pos, -List.getD_eq_getElem?_getD]) ?_
  simp -implicitDefEqProofs -dsimp +contextual [-Bool.exists_bool, -Int.not_le, -Int.not_lt, -getElem?_pos, -List.getD_eq_getElem?_getD]
  refine ⟨fun h1 => ?_, fun h1 => no (by simp [-Bool.exists_bool, -Int.not_le, -Int.not_lt, -getElem?_pos, -List.getD_eq_getElem?_getD, h1])⟩
  refine CallJ.pure (IsCell b.1 b.2 hb) rfl (by simp [-Bool.exists_bool, -Int.not_le, -Int.not_lt, -getElem?_pos, -List.getD_eq_getElem?_getD]) ?_
  simp -implicitDefEqProofs -dsimp +contextual [-Bool.exists_bool, -Int.not_le, -Int.not_lt, -getElem?_pos, -List.getD_eq_getElem?_getD, h1]
  refine ⟨fun h2 => ⟨fun h3 => ?_, fun h3 => no (by simp [-Bool.exists_bool, -Int.not_le, -Int.not_lt, -getElem?_pos, -List.getD_eq_getElem?_getD, h3])⟩, fun h2 => no (by simp [-Bool.exists_bool, -Int.not_le, -Int.not_lt, -getElem?_pos, -List.getD_eq_getElem?_getD, h2])⟩
  rw [meetC, if_pos ⟨h1, h2, h3⟩]
  have hd := isCe_d h1
  have ha16 := isCe_l h1
  have hb16 := isCe_l h2
  have hall : allOk a.1 (a.2 ++ b.2) := fun x hx => by
    rcases List.mem_append.1 hx with hx | hx
    · exact isCe_a h1 x hx
    · rw [h3]; exact isCe_a h2 x hx
  refine ⟨⟨by omega, by simp [-Bool.exists_bool, -Int.not_le, -Int.not_lt, -getElem?_pos, -List.getD_eq_getElem?_getD, maxLen]; omega⟩, ⟨by omega, by simp [-Bool.exists_bool, -Int.not_le, -Int.not_lt, -getElem?_pos, -List.getD_eq_getElem?_getD, maxLen]; omega⟩, Quiet.of [2] (by kernel_rfl) (by simp [-Bool.exists_bool, -Int.not_le, -Int.not_lt, -getElem?_pos, -List.getD_eq_getElem?_getD, offB]), ?_⟩
  refine CallJ.frz (t := 52) (n := a.2.length + b.2.length) (c := dl (asD a.2 ++ asD b.2)) (c' := asD a.2 ++ asD b.2) (27, 0) (l3Normal b.1 (h3 ▸ hd) (a.2 ++ b.2) (by simp [-Bool.exists_bool, -Int.not_le, -Int.not_lt, -getElem?_pos, -List.getD_eq_getElem?_getD]; omega) (h3 ▸ hall)) (by simp [-Bool.exists_bool, -Int.not_le, -Int.not_lt, -getElem?_pos, -List.getD_eq_getElem?_getD]) (dl_asDs _) (ks := [(27, 0)]) (by simp [-Bool.exists_bool, -Int.not_le, -Int.not_lt, -getElem?_pos, -List.getD_eq_getElem?_getD, setH, asD_append]) (by simp [-Bool.exists_bool, -Int.not_le, -Int.not_lt, -getElem?_pos, -List.getD_eq_getElem?_getD, slotsL, slotsV]) ?_
  simp -implicitDefEqProofs -dsimp +contextual [-Bool.exists_bool, -Int.not_le, -Int.not_lt, -getElem?_pos, -List.getD_eq_getElem?_getD]
  refine ⟨Quiet.of [] (by kernel_rfl) (by simp [-Bool.exists_bool, -Int.not_le, -Int.not_lt, -getElem?_pos, -List.getD_eq_getElem?_getD, allP]), Quiet.of [] (by kernel_rfl) (by simp [-Bool.exists_bool, -Int.not_le, -Int.not_lt, -getElem?_pos, -List.getD_eq_getElem?_getD, allP]), fun hb => ?_, fun hb => ?_⟩
  · refine RLe.pure 3 ?_
    rw [h3, limN, if_pos (by omega)]
    simp [-Bool.exists_bool, -Int.not_le, -Int.not_lt, -getElem?_pos, -List.getD_eq_getElem?_getD, asD]
  · refine RLe.pure 3 ?_
    rw [h3, limN, if_neg (by omega)]
    simp [-Bool.exists_bool, -Int.not_le, -Int.not_lt, -getElem?_pos, -List.getD_eq_getElem?_getD]
theorem iMeetCells (a b : Ce) (ha : a.2.length ≤ 1048576) (hb : b.2.length ≤ 1048576) : Cn Try.prog 22 [.agg (cV a), .agg (cV b)] (oV (meetC a b)) (oH (meetC a b)) := by
  refine Cn.of [] mixed Try.func22 rfl Try.call22 (by kernel_rfl) rfl ?_
  simp -implicitDefEqProofs -dsimp +contextual [-Bool.exists_bool, -Int.not_le, -Int.not_lt, -getElem?_pos, -List.getD_eq_getElem?_getD, Try.f22]
  have no : ∀ {H : Store}, ¬ (isCe a.1 a.2 = true ∧ isCe b.1 b.2 = true ∧ a.1 = b.1) → RLe Try.prog H (V.tup [V.agg [V.d (D.int IntKind.i64 0), V.nil], V.d (D.bool false)]) (oV (meetC a b)) (oH (meetC a b)) := fun h => by
    rw [meetC, if_neg h, oV_f (by simp [-Bool.exists_bool, -Int.not_le, -Int.not_lt, -getElem?_pos, -List.getD_eq_getElem?_getD]), oH_f (by simp [-Bool.exists_bool, -Int.not_le, -Int.not_lt, -getElem?_pos, -List.getD_eq_getElem?_getD])]
    exact RLe.emp (by simp [-Bool.exists_bool, -Int.not_le, -Int.not_lt, -getElem?_pos, -List.getD_eq_getElem?_getD])
  refine CallJ.pure (iIsCell a.1 a.2 ha) rfl (by simp [-Bool.exists_bool, -Int.not_le, -Int.not_lt, -getElem?_pos, -List.getD_eq_getElem?_getD]) ?_
  simp -implicitDefEqProofs -dsimp +contextual [-Bool.exists_bool, -Int.not_le, -Int.not_lt, -getElem?_pos, -List.getD_eq_getElem?_getD]
  refine ⟨fun h1 => ?_, fun h1 => no (by simp [-Bool.exists_bool, -Int.not_le, -Int.not_lt, -getElem?_pos, -List.getD_eq_getElem?_getD, h1])⟩
  refine CallJ.pure (iIsCell b.1 b.2 hb) rfl (by simp [-Bool.exists_bool, -Int.not_le, -Int.not_lt, -getElem?_pos, -List.getD_eq_getElem?_getD]) ?_
  simp -implicitDefEqProofs -dsimp +contextual [-Bool.exists_bool, -Int.not_le, -Int.not_lt, -getElem?_pos, -List.getD_eq_getElem?_getD, h1]
  refine ⟨fun h2 => ⟨fun h3 => ?_, fun h3 => no (by simp [-Bool.exists_bool, -Int.not_le, -Int.not_lt, -getElem?_pos, -List.getD_eq_getElem?_getD, h3])⟩, fun h2 => no (by simp [-Bool.exists_bool, -Int.not_le, -Int.not_lt, -getElem?_pos, -List.getD_eq_getElem?_getD, h2])⟩
  have hd := isCe_d h1
  have ha16 := isCe_l h1
  have hb16 := isCe_l h2
  have hall : allOk a.1 (a.2 ++ b.2) := fun x hx => by
    rcases List.mem_append.1 hx with hx | hx
    · exact isCe_a h1 x hx
    · rw [h3]; exact isCe_a h2 x hx
  have hm : meetC a b = limN a.1 (a.2 ++ b.2) := by rw [meetC, if_pos ⟨h1, h2, h3⟩]
  rw [hm]
  have e2 : repV 2 [V.nil] = [V.nil, V.nil] := rfl
  simp -implicitDefEqProofs -dsimp +contextual [-Bool.exists_bool, -Int.not_le, -Int.not_lt, -getElem?_pos, -List.getD_eq_getElem?_getD, e2]
  have hf : [a.2, b.2].flatten = a.2 ++ b.2 := by simp [-Bool.exists_bool, -Int.not_le, -Int.not_lt, -getElem?_pos, -List.getD_eq_getElem?_getD]
  refine CallJ.pure (iConcatW [a.2, b.2] (by simp [-Bool.exists_bool, -Int.not_le, -Int.not_lt, -getElem?_pos, -List.getD_eq_getElem?_getD]) (by simp [-Bool.exists_bool, -Int.not_le, -Int.not_lt, -getElem?_pos, -List.getD_eq_getElem?_getD, tot]; omega)) (by simp [-Bool.exists_bool, -Int.not_le, -Int.not_lt, -getElem?_pos, -List.getD_eq_getElem?_getD, sD]; rfl) (by simp [-Bool.exists_bool, -Int.not_le, -Int.not_lt, -getElem?_pos, -List.getD_eq_getElem?_getD]) ?_
  rw [hf]
  simp -implicitDefEqProofs -dsimp +contextual [-Bool.exists_bool, -Int.not_le, -Int.not_lt, -getElem?_pos, -List.getD_eq_getElem?_getD]
  have hL := iLimitedNormal a.1 hd (a.2 ++ b.2) (by simp [-Bool.exists_bool, -Int.not_le, -Int.not_lt, -getElem?_pos, -List.getD_eq_getElem?_getD]; omega) hall
  by_cases hr : (limN a.1 (a.2 ++ b.2)).2.2 = true
  · rw [oV_t hr, oH_t hr] at hL ⊢
    refine CallJ.pure (ks := []) hL (by simp [-Bool.exists_bool, -Int.not_le, -Int.not_lt, -getElem?_pos, -List.getD_eq_getElem?_getD, h3]) (by simp [-Bool.exists_bool, -Int.not_le, -Int.not_lt, -getElem?_pos, -List.getD_eq_getElem?_getD]) ?_
    simp -implicitDefEqProofs -dsimp +contextual [-Bool.exists_bool, -Int.not_le, -Int.not_lt, -getElem?_pos, -List.getD_eq_getElem?_getD]
    refine RLe.pass 27 _ ?_ ?_ ?_
    · simp [-Bool.exists_bool, -Int.not_le, -Int.not_lt, -getElem?_pos, -List.getD_eq_getElem?_getD, invO]
    · simp [-Bool.exists_bool, -Int.not_le, -Int.not_lt, -getElem?_pos, -List.getD_eq_getElem?_getD, setH, upOwn_0]
    · intro j hj; simp [-Bool.exists_bool, -Int.not_le, -Int.not_lt, -getElem?_pos, -List.getD_eq_getElem?_getD, setH, upOwn_j _ _ _ _ hj]
  · rw [oV_f hr, oH_f hr] at hL ⊢
    refine CallJ.pure (ks := []) hL (by simp [-Bool.exists_bool, -Int.not_le, -Int.not_lt, -getElem?_pos, -List.getD_eq_getElem?_getD, h3]) (by simp [-Bool.exists_bool, -Int.not_le, -Int.not_lt, -getElem?_pos, -List.getD_eq_getElem?_getD]) ?_
    simp -implicitDefEqProofs -dsimp +contextual [-Bool.exists_bool, -Int.not_le, -Int.not_lt, -getElem?_pos, -List.getD_eq_getElem?_getD]
    exact RLe.emp (by simp [-Bool.exists_bool, -Int.not_le, -Int.not_lt, -getElem?_pos, -List.getD_eq_getElem?_getD])
end Go.Proofs.Ytkicjflhokckgaa.ZL
namespace Go.Proofs.Ytkicjflhokckgaa.ZL
open Go Go.Proofs.Ytkicjflhokckgaa.Abs Go.Proofs.Ytkicjflhokckgaa.Abs.Pl Go.RowKit Go.Proofs
set_option linter.unusedVariables false
set_option linter.unusedSimpArgs false
theorem toAtomW (a : At) (h : a.1.length ≤ 1048576) : Cn Try.prog 32 [A1 a] (A1 a) hemp := Cn.freeze 2 (toAtom a h) (by simp [-Bool.exists_bool, -Int.not_le, -Int.not_lt, -getElem?_pos, -List.getD_eq_getElem?_getD, lendT, lendV])
def impA (c : Ce) (a : At) : Bool × Bool := if isAt a.1 a.2.1 = true then (if (meetC c (a.1.length, [(a.1.map (- ·), -a.2.1, !a.2.2)])).2.2 = true then emptyC (meetC c (a.1.length, [(a.1.map (- ·), -a.2.1, !a.2.2)])).1 (meetC c (a.1.length, [(a.1.map (- ·), -a.2.1, !a.2.2)])).2.1 else (false, false)) else (false, false)
theorem meetC_16 {a b : Ce} : (meetC a b).2.1.length ≤ 16 := by
  unfold meetC
  split
  · unfold limN; split
    · simp [-Bool.exists_bool, -Int.not_le, -Int.not_lt, -getElem?_pos, -List.getD_eq_getElem?_getD]
    · simp [-Bool.exists_bool, -Int.not_le, -Int.not_lt, -getElem?_pos, -List.getD_eq_getElem?_getD]; omega
  · simp [-Bool.exists_bool, -Int.not_le, -Int.not_lt, -getElem?_pos, -List.getD_eq_getElem?_getD]
theorem ImpliesAtom (c : Ce) (a : At) (hc : c.2.length ≤ 1048576) (ha : a.1.length ≤ 1048576) : Cn Try.prog 31 [.agg (cV c), A1 a] (B2 (impA c a)) hemp := by
  refine Cn.of [] mixed Try.func31 rfl Try.call31 (by kernel_rfl) rfl ?_
  simp -implicitDefEqProofs -dsimp +contextual [-Bool.exists_bool, -Int.not_le, -Int.not_lt, -getElem?_pos, -List.getD_eq_getElem?_getD, Try.f31]
  refine CallJ.pure (NegateAtom a) rfl (by simp [-Bool.exists_bool, -Int.not_le, -Int.not_lt, -getElem?_pos, -List.getD_eq_getElem?_getD]) ?_
  by_cases h : isAt a.1 a.2.1 = true
  · rw [negAt_t h, impA, if_pos h]
    simp -implicitDefEqProofs -dsimp +contextual [-Bool.exists_bool, -Int.not_le, -Int.not_lt, -getElem?_pos, -List.getD_eq_getElem?_getD]
    refine CallJ.pure (ks := []) (MeetCells c (a.1.length, [(a.1.map (- ·), -a.2.1, !a.2.2)]) hc (by simp [-Bool.exists_bool, -Int.not_le, -Int.not_lt, -getElem?_pos, -List.getD_eq_getElem?_getD])) (by simp [-Bool.exists_bool, -Int.not_le, -Int.not_lt, -getElem?_pos, -List.getD_eq_getElem?_getD, asD, aD]) (by simp [-Bool.exists_bool, -Int.not_le, -Int.not_lt, -getElem?_pos, -List.getD_eq_getElem?_getD]) ?_
    have h16 : (meetC c (a.1.length, [(a.1.map (- ·), -a.2.1, !a.2.2)])).2.1.length ≤ 16 := meetC_16
    generalize meetC c (a.1.length, [(a.1.map (- ·), -a.2.1, !a.2.2)]) = m at *
    simp -implicitDefEqProofs -dsimp +contextual [-Bool.exists_bool, -Int.not_le, -Int.not_lt, -getElem?_pos, -List.getD_eq_getElem?_getD]
    refine ⟨fun hm => ?_, fun hm => ?_⟩
    · refine CallJ.pure (IsEmptyCell m.1 m.2.1 (by omega)) rfl (by simp [-Bool.exists_bool, -Int.not_le, -Int.not_lt, -getElem?_pos, -List.getD_eq_getElem?_getD]) ?_
      simp -implicitDefEqProofs -dsimp +contextual [-Bool.exists_bool, -Int.not_le, -Int.not_lt, -getElem?_pos, -List.getD_eq_getElem?_getD, hm]
      exact RLe.pure 2 (by simp [-Bool.exists_bool, -Int.not_le, -Int.not_lt, -getElem?_pos, -List.getD_eq_getElem?_getD])
    · exact RLe.pure 2 (by simp [-Bool.exists_bool, -Int.not_le, -Int.not_lt, -getElem?_pos, -List.getD_eq_getElem?_getD])
  · rw [negAt_f (by simpa [-Bool.exists_bool, -Int.not_le, -Int.not_lt, -getElem?_pos, -List.getD_eq_getElem?_getD] using h), impA, if_neg h]
    simp -implicitDefEqProofs -dsimp +contextual [-Bool.exists_bool, -Int.not_le, -Int.not_lt, -getElem?_pos, -List.getD_eq_getElem?_getD]
    refine CallJ.pure (ks := []) (MeetCells c (a.1.length, [(noAt.1, noAt.2.1, noAt.2.2.1)]) hc (by simp [-Bool.exists_bool, -Int.not_le, -Int.not_lt, -getElem?_pos, -List.getD_eq_getElem?_getD])) (by simp [-Bool.exists_bool, -Int.not_le, -Int.not_lt, -getElem?_pos, -List.getD_eq_getElem?_getD, asD, aD]) (by simp [-Bool.exists_bool, -Int.not_le, -Int.not_lt, -getElem?_pos, -List.getD_eq_getElem?_getD]) ?_
    simp -implicitDefEqProofs -dsimp +contextual [-Bool.exists_bool, -Int.not_le, -Int.not_lt, -getElem?_pos, -List.getD_eq_getElem?_getD, noAt]
    exact RLe.pure 2 (by simp [-Bool.exists_bool, -Int.not_le, -Int.not_lt, -getElem?_pos, -List.getD_eq_getElem?_getD])
theorem iMeetCellsW (a b : Ce) (ha : a.2.length ≤ 1048576) (hb : b.2.length ≤ 1048576) : Cn Try.prog 22 [.agg (cV a), .agg (cV b)] (D2 (meetC a b)) hemp := Cn.weak meetC_f (iMeetCells a b ha hb)
theorem iImpliesAtom (c : Ce) (a : At) (hc : c.2.length ≤ 1048576) (ha : a.1.length ≤ 1048576) : Cn Try.prog 33 [.agg (cV c), A1 a] (B2 (impA c a)) hemp := by
  refine Cn.of [] mixed Try.func33 rfl Try.call33 (by kernel_rfl) rfl ?_
  simp -implicitDefEqProofs -dsimp +contextual [-Bool.exists_bool, -Int.not_le, -Int.not_lt, -getElem?_pos, -List.getD_eq_getElem?_getD, Try.f33]
  refine CallJ.pure (iNegateAtom a) rfl (by simp [-Bool.exists_bool, -Int.not_le, -Int.not_lt, -getElem?_pos, -List.getD_eq_getElem?_getD]) ?_
  by_cases h : isAt a.1 a.2.1 = true
  · rw [negAt_t h, impA, if_pos h]
    simp -implicitDefEqProofs -dsimp +contextual [-Bool.exists_bool, -Int.not_le, -Int.not_lt, -getElem?_pos, -List.getD_eq_getElem?_getD]
    refine CallJ.pure (ks := []) (iMeetCellsW c (a.1.length, [(a.1.map (- ·), -a.2.1, !a.2.2)]) hc (by simp [-Bool.exists_bool, -Int.not_le, -Int.not_lt, -getElem?_pos, -List.getD_eq_getElem?_getD])) (by simp [-Bool.exists_bool, -Int.not_le, -Int.not_lt, -getElem?_pos, -List.getD_eq_getElem?_getD, asD, aD]) (by simp [-Bool.exists_bool, -Int.not_le, -Int.not_lt, -getElem?_pos, -List.getD_eq_getElem?_getD]) ?_
    have h16 : (meetC c (a.1.length, [(a.1.map (- ·), -a.2.1, !a.2.2)])).2.1.length ≤ 16 := meetC_16
    generalize meetC c (a.1.length, [(a.1.map (- ·), -a.2.1, !a.2.2)]) = m at *
    simp -implicitDefEqProofs -dsimp +contextual [-Bool.exists_bool, -Int.not_le, -Int.not_lt, -getElem?_pos, -List.getD_eq_getElem?_getD]
    refine ⟨fun hm => ?_, fun hm => ?_⟩
    · refine CallJ.pure (iIsEmptyCell m.1 m.2.1 (by omega)) rfl (by simp [-Bool.exists_bool, -Int.not_le, -Int.not_lt, -getElem?_pos, -List.getD_eq_getElem?_getD]) ?_
      simp -implicitDefEqProofs -dsimp +contextual [-Bool.exists_bool, -Int.not_le, -Int.not_lt, -getElem?_pos, -List.getD_eq_getElem?_getD, hm]
      exact RLe.pure 2 (by simp [-Bool.exists_bool, -Int.not_le, -Int.not_lt, -getElem?_pos, -List.getD_eq_getElem?_getD])
    · exact RLe.pure 2 (by simp [-Bool.exists_bool, -Int.not_le, -Int.not_lt, -getElem?_pos, -List.getD_eq_getElem?_getD])
  · rw [negAt_f (by simpa [-Bool.exists_bool, -Int.not_le, -Int.not_lt, -getElem?_pos, -List.getD_eq_getElem?_getD] using h), impA, if_neg h]
    simp -implicitDefEqProofs -dsimp +contextual [-Bool.exists_bool, -Int.not_le, -Int.not_lt, -getElem?_pos, -List.getD_eq_getElem?_getD, noAt]
    exact RLe.pure 2 (by simp [-Bool.exists_bool, -Int.not_le, -Int.not_lt, -getElem?_pos, -List.getD_eq_getElem?_getD])
theorem lft_2 {k : Int} {n : Nat} (hk : okL k) (h : ¬ lft k n < 0) : n ≤ 1048576 ∧ okL (lft k n) := by
  unfold lft okL at *
  split at h
  · omega
  · rename_i h2; rw [if_neg h2]; omega
theorem lawImpliesAtom (c : Ce) (a : At) (hc : wfC c) (ha : wfA a) : Cn Try.prog 8 [.agg (cV c), A1 a] (B true) hemp := by
  refine Cn.of [] mixed Try.func8 rfl Try.call8 (by kernel_rfl) rfl ?_
  simp -implicitDefEqProofs -dsimp +contextual [-Bool.exists_bool, -Int.not_le, -Int.not_lt, -getElem?_pos, -List.getD_eq_getElem?_getD, Try.f8]
  refine CallJ.pure (szCell c 1048576 ok20 hc) rfl (by simp [-Bool.exists_bool, -Int.not_le, -Int.not_lt, -getElem?_pos, -List.getD_eq_getElem?_getD]) ?_
  simp -implicitDefEqProofs -dsimp +contextual [-Bool.exists_bool, -Int.not_le, -Int.not_lt, -getElem?_pos, -List.getD_eq_getElem?_getD]
  refine ⟨fun _ => RLe.bb rfl, fun h => ?_⟩
  obtain ⟨w1, hk⟩ := lft_2 ok20 h
  obtain ⟨hc1, hc2⟩ := wAs_small w1
  refine CallJ.pure (szAtom a _ hk ha) rfl (by simp [-Bool.exists_bool, -Int.not_le, -Int.not_lt, -getElem?_pos, -List.getD_eq_getElem?_getD]) ?_
  simp -implicitDefEqProofs -dsimp +contextual [-Bool.exists_bool, -Int.not_le, -Int.not_lt, -getElem?_pos, -List.getD_eq_getElem?_getD, h]
  refine ⟨fun _ => RLe.bb rfl, fun h2 => ?_⟩
  obtain ⟨ha1, _⟩ := lft_2 hk h2
  refine CallJ.pure (toCellW c hc1 hc2) rfl (by simp [-Bool.exists_bool, -Int.not_le, -Int.not_lt, -getElem?_pos, -List.getD_eq_getElem?_getD]) ?_
  simp -implicitDefEqProofs -dsimp +contextual [-Bool.exists_bool, -Int.not_le, -Int.not_lt, -getElem?_pos, -List.getD_eq_getElem?_getD, h, h2]
  refine CallJ.pure (toAtomW a ha1) rfl (by simp [-Bool.exists_bool, -Int.not_le, -Int.not_lt, -getElem?_pos, -List.getD_eq_getElem?_getD]) ?_
  simp -implicitDefEqProofs -dsimp +contextual [-Bool.exists_bool, -Int.not_le, -Int.not_lt, -getElem?_pos, -List.getD_eq_getElem?_getD, h, h2]
  refine CallJ.pure (ImpliesAtom c a hc1 ha1) rfl (by simp [-Bool.exists_bool, -Int.not_le, -Int.not_lt, -getElem?_pos, -List.getD_eq_getElem?_getD]) ?_
  simp -implicitDefEqProofs -dsimp +contextual [-Bool.exists_bool, -Int.not_le, -Int.not_lt, -getElem?_pos, -List.getD_eq_getElem?_getD, h, h2]
  refine CallJ.pure (toCellW c hc1 hc2) rfl (by simp [-Bool.exists_bool, -Int.not_le, -Int.not_lt, -getElem?_pos, -List.getD_eq_getElem?_getD]) ?_
  simp -implicitDefEqProofs -dsimp +contextual [-Bool.exists_bool, -Int.not_le, -Int.not_lt, -getElem?_pos, -List.getD_eq_getElem?_getD, h, h2]
  refine CallJ.pure (toAtomW a ha1) rfl (by simp [-Bool.exists_bool, -Int.not_le, -Int.not_lt, -getElem?_pos, -List.getD_eq_getElem?_getD]) ?_
  simp -implicitDefEqProofs -dsimp +contextual [-Bool.exists_bool, -Int.not_le, -Int.not_lt, -getElem?_pos, -List.getD_eq_getElem?_getD, h, h2]
  refine CallJ.pure (iImpliesAtom c a hc1 ha1) rfl (by simp [-Bool.exists_bool, -Int.not_le, -Int.not_lt, -getElem?_pos, -List.getD_eq_getElem?_getD]) ?_
  simp -implicitDefEqProofs -dsimp +contextual [-Bool.exists_bool, -Int.not_le, -Int.not_lt, -getElem?_pos, -List.getD_eq_getElem?_getD, h, h2]
  refine CallJ.pure (toCellW c hc1 hc2) rfl (by simp [-Bool.exists_bool, -Int.not_le, -Int.not_lt, -getElem?_pos, -List.getD_eq_getElem?_getD]) ?_
  simp -implicitDefEqProofs -dsimp +contextual [-Bool.exists_bool, -Int.not_le, -Int.not_lt, -getElem?_pos, -List.getD_eq_getElem?_getD, h, h2]
  refine CallJ.pure (eqCell c hc1 hc2) rfl (by simp [-Bool.exists_bool, -Int.not_le, -Int.not_lt, -getElem?_pos, -List.getD_eq_getElem?_getD]) ?_
  simp -implicitDefEqProofs -dsimp +contextual [-Bool.exists_bool, -Int.not_le, -Int.not_lt, -getElem?_pos, -List.getD_eq_getElem?_getD, h, h2]
  refine CallJ.pure (toAtomW a ha1) rfl (by simp [-Bool.exists_bool, -Int.not_le, -Int.not_lt, -getElem?_pos, -List.getD_eq_getElem?_getD]) ?_
  simp -implicitDefEqProofs -dsimp +contextual [-Bool.exists_bool, -Int.not_le, -Int.not_lt, -getElem?_pos, -List.getD_eq_getElem?_getD, h, h2]
  refine CallJ.pure (eqAtom a ha1) rfl (by simp [-Bool.exists_bool, -Int.not_le, -Int.not_lt, -getElem?_pos, -List.getD_eq_getElem?_getD]) ?_
  simp -implicitDefEqProofs -dsimp +contextual [-Bool.exists_bool, -Int.not_le, -Int.not_lt, -getElem?_pos, -List.getD_eq_getElem?_getD, h, h2]
  exact RLe.bb rfl
end Go.Proofs.Ytkicjflhokckgaa.ZL
namespace Go.Proofs.Ytkicjflhokckgaa.ZL
open Go Go.Proofs.Ytkicjflhokckgaa.Abs Go.Proofs.Ytkicjflhokckgaa.Abs.Pl Go.RowKit Go.Proofs
set_option linter.unusedVariables false
set_option linter.unusedSimpArgs false
def covGo (b : Ce) : List At → Bool × Bool
  | [] => (true, true)
  | x :: r => if (impA b x).2 = true ∧ (impA b x).1 = true then covGo b r else (false, (impA b x).2)
def covC (a b : Ce) : Bool × Bool := if isCe a.1 a.2 = true ∧ isCe b.1 b.2 = true ∧ a.1 = b.1 then covGo b a.2 else (false, false)
theorem okA_small {d : Int} {x : At} (h : okA d x) : x.1.length ≤ 1048576 := by have := (okA_num h).2.2; omega
theorem CoversCell (a b : Ce) (ha : a.2.length ≤ 1048576) (hb : b.2.length ≤ 1048576) : Cn Try.prog 42 [.agg (cV a), .agg (cV b)] (B2 (covC a b)) hemp := by
  refine Cn.of [] mixed Try.func42 rfl Try.call42 (by kernel_rfl) rfl ?_
  simp -implicitDefEqProofs -dsimp +contextual [-Bool.exists_bool, -Int.not_le, -Int.not_lt, -getElem?_pos, -List.getD_eq_getElem?_getD, Try.f42]
  have no : ∀ {H : Store}, ¬ (isCe a.1 a.2 = true ∧ isCe b.1 b.2 = true ∧ a.1 = b.1) → RLe Try.prog H (V.tup [V.d (D.bool false), V.d (D.bool false)]) (B2 (covC a b)) hemp := fun h => by
    rw [covC, if_neg h]
    exact RLe.pure 2 (by simp [-Bool.exists_bool, -Int.not_le, -Int.not_lt, -getElem?_pos, -List.getD_eq_getElem?_getD])
  refine CallJ.pure (IsCell a.1 a.2 ha) rfl (by simp [-Bool.exists_bool, -Int.not_le, -Int.not_lt, -getElem?_pos, -List.getD_eq_getElem?_getD]) ?_
  simp -implicitDefEqProofs -dsimp +contextual [-Bool.exists_bool, -Int.not_le, -Int.not_lt, -getElem?_pos, -List.getD_eq_getElem?_getD]
  refine ⟨fun h1 => ?_, fun h1 => no (by simp [-Bool.exists_bool, -Int.not_le, -Int.not_lt, -getElem?_pos, -List.getD_eq_getElem?_getD, h1])⟩
  refine CallJ.pure (IsCell b.1 b.2 hb) rfl (by simp [-Bool.exists_bool, -Int.not_le, -Int.not_lt, -getElem?_pos, -List.getD_eq_getElem?_getD]) ?_
  simp -implicitDefEqProofs -dsimp +contextual [-Bool.exists_bool, -Int.not_le, -Int.not_lt, -getElem?_pos, -List.getD_eq_getElem?_getD, h1]
  refine ⟨fun h2 => ⟨fun h3 => ?_, fun h3 => no (by simp [-Bool.exists_bool, -Int.not_le, -Int.not_lt, -getElem?_pos, -List.getD_eq_getElem?_getD, h3])⟩, fun h2 => no (by simp [-Bool.exists_bool, -Int.not_le, -Int.not_lt, -getElem?_pos, -List.getD_eq_getElem?_getD, h2])⟩
  have e0 : covC a b = covGo b a.2 := by rw [covC, if_pos ⟨h1, h2, h3⟩]
  refine WP.loop mixed [] (fun i : Nat => ⟨tl [(2, .ptr (0, 0) 0), (3, .ptr (1, 0) 0), (6, I i)], hl [((0, 0), .box (cV a)), ((1, 0), .box (cV b))], 5⟩) (fun i => i ≤ a.2.length ∧ covC a b = covGo b (a.2.drop i)) (fun i => a.2.length - i) 0 (by kernel_rfl) ?_ ?_ ?_
  · refine Le.told [] ?_ ?_ ?_ <;> simp [-Bool.exists_bool, -Int.not_le, -Int.not_lt, -getElem?_pos, -List.getD_eq_getElem?_getD]
  · exact ⟨Nat.zero_le _, e0⟩
  · rintro i ⟨hi, he⟩
    simp -implicitDefEqProofs -dsimp +contextual [-Bool.exists_bool, -Int.not_le, -Int.not_lt, -getElem?_pos, -List.getD_eq_getElem?_getD]
    refine ⟨fun h => ?_, fun h => ?_⟩
    · refine CallJ.pure (ImpliesAtom b (nth a.2 i) hb (okA_small (isCe_a h1 _ (nth_mem h)))) rfl (by simp [-Bool.exists_bool, -Int.not_le, -Int.not_lt, -getElem?_pos, -List.getD_eq_getElem?_getD]) ?_
      rw [nth_drop h, covGo] at he
      generalize impA b (nth a.2 i) = q at he ⊢
      simp -implicitDefEqProofs -dsimp +contextual [-Bool.exists_bool, -Int.not_le, -Int.not_lt, -getElem?_pos, -List.getD_eq_getElem?_getD, h]
      refine ⟨fun hf => ⟨fun ht => ?_, fun ht => RLe.pure 2 (by rw [he]; simp [-Bool.exists_bool, -Int.not_le, -Int.not_lt, -getElem?_pos, -List.getD_eq_getElem?_getD, ht, hf])⟩, fun hf => RLe.pure 2 (by rw [he]; simp [-Bool.exists_bool, -Int.not_le, -Int.not_lt, -getElem?_pos, -List.getD_eq_getElem?_getD, hf])⟩
      rw [if_pos ⟨hf, ht⟩] at he
      refine ⟨i + 1, ⟨h, he⟩, by omega, ?_⟩
      rw [wr (by omega) (by omega)]
      refine Le.told [] ?_ ?_ ?_ <;> simp [-Bool.exists_bool, -Int.not_le, -Int.not_lt, -getElem?_pos, -List.getD_eq_getElem?_getD]
    · rw [drop_nil (by omega)] at he
      refine RLe.pure 3 (by rw [he]; simp [-Bool.exists_bool, -Int.not_le, -Int.not_lt, -getElem?_pos, -List.getD_eq_getElem?_getD, covGo])
theorem iCoversCell (a b : Ce) (ha : a.2.length ≤ 1048576) (hb : b.2.length ≤ 1048576) : Cn Try.prog 43 [.agg (cV a), .agg (cV b)] (B2 (covC a b)) hemp := by
  refine Cn.of [] mixed Try.func43 rfl Try.call43 (by kernel_rfl) rfl ?_
  simp -implicitDefEqProofs -dsimp +contextual [-Bool.exists_bool, -Int.not_le, -Int.not_lt, -getElem?_pos, -List.getD_eq_getElem?_getD, Try.f43]
  have no : ∀ {H : Store}, ¬ (isCe a.1 a.2 = true ∧ isCe b.1 b.2 = true ∧ a.1 = b.1) → RLe Try.prog H (V.tup [V.d (D.bool false), V.d (D.bool false)]) (B2 (covC a b)) hemp := fun h => by
    rw [covC, if_neg h]
    exact RLe.pure 2 (by simp [-Bool.exists_bool, -Int.not_le, -Int.not_lt, -getElem?_pos, -List.getD_eq_getElem?_getD])
  refine CallJ.pure (iIsCell a.1 a.2 ha) rfl (by simp [-Bool.exists_bool, -Int.not_le, -Int.not_lt, -getElem?_pos, -List.getD_eq_getElem?_getD]) ?_
  simp -implicitDefEqProofs -dsimp +contextual [-Bool.exists_bool, -Int.not_le, -Int.not_lt, -getElem?_pos, -List.getD_eq_getElem?_getD]
  refine ⟨fun h1 => ?_, fun h1 => no (by simp [-Bool.exists_bool, -Int.not_le, -Int.not_lt, -getElem?_pos, -List.getD_eq_getElem?_getD, h1])⟩
  refine CallJ.pure (iIsCell b.1 b.2 hb) rfl (by simp [-Bool.exists_bool, -Int.not_le, -Int.not_lt, -getElem?_pos, -List.getD_eq_getElem?_getD]) ?_
  simp -implicitDefEqProofs -dsimp +contextual [-Bool.exists_bool, -Int.not_le, -Int.not_lt, -getElem?_pos, -List.getD_eq_getElem?_getD, h1]
  refine ⟨fun h2 => ⟨fun h3 => ?_, fun h3 => no (by simp [-Bool.exists_bool, -Int.not_le, -Int.not_lt, -getElem?_pos, -List.getD_eq_getElem?_getD, h3])⟩, fun h2 => no (by simp [-Bool.exists_bool, -Int.not_le, -Int.not_lt, -getElem?_pos, -List.getD_eq_getElem?_getD, h2])⟩
  have e0 : covC a b = covGo b a.2 := by rw [covC, if_pos ⟨h1, h2, h3⟩]
  refine WP.loop mixed [] (fun i : Nat => ⟨tl [(2, .ptr (0, 0) 0), (3, .ptr (1, 0) 0), (26, As a.2), (27, I a.2.length), (28, I i)], hl [((0, 0), .box (cV a)), ((1, 0), .box (cV b))], 5⟩) (fun i => i ≤ a.2.length ∧ covC a b = covGo b (a.2.drop i)) (fun i => a.2.length - i) 0 (by kernel_rfl) ?_ ?_ ?_
  · refine Le.told [] ?_ ?_ ?_ <;> simp [-Bool.exists_bool, -Int.not_le, -Int.not_lt, -getElem?_pos, -List.getD_eq_getElem?_getD]
  · exact ⟨Nat.zero_le _, e0⟩
  · rintro i ⟨hi, he⟩
    simp -implicitDefEqProofs -dsimp +contextual [-Bool.exists_bool, -Int.not_le, -Int.not_lt, -getElem?_pos, -List.getD_eq_getElem?_getD]
    refine ⟨fun h => ?_, fun h => ?_⟩
    · refine CallJ.pure (iImpliesAtom b (nth a.2 i) hb (okA_small (isCe_a h1 _ (nth_mem h)))) rfl (by simp [-Bool.exists_bool, -Int.not_le, -Int.not_lt, -getElem?_pos, -List.getD_eq_getElem?_getD]) ?_
      rw [nth_drop h, covGo] at he
      generalize impA b (nth a.2 i) = q at he ⊢
      simp -implicitDefEqProofs -dsimp +contextual [-Bool.exists_bool, -Int.not_le, -Int.not_lt, -getElem?_pos, -List.getD_eq_getElem?_getD, h]
      refine ⟨fun hf => ⟨fun ht => ?_, fun ht => RLe.pure 2 (by rw [he]; simp [-Bool.exists_bool, -Int.not_le, -Int.not_lt, -getElem?_pos, -List.getD_eq_getElem?_getD, ht, hf])⟩, fun hf => RLe.pure 2 (by rw [he]; simp [-Bool.exists_bool, -Int.not_le, -Int.not_lt, -getElem?_pos, -List.getD_eq_getElem?_getD, hf])⟩
      rw [if_pos ⟨hf, ht⟩] at he
      refine ⟨i + 1, ⟨h, he⟩, by omega, ?_⟩
      rw [wr (by omega) (by omega)]
      refine Le.told [] ?_ ?_ ?_ <;> simp [-Bool.exists_bool, -Int.not_le, -Int.not_lt, -getElem?_pos, -List.getD_eq_getElem?_getD]
    · rw [drop_nil (by omega)] at he
      refine RLe.pure 3 (by rw [he]; simp [-Bool.exists_bool, -Int.not_le, -Int.not_lt, -getElem?_pos, -List.getD_eq_getElem?_getD, covGo])
theorem lawCoversCell (a b : Ce) (ha : wfC a) (hb : wfC b) : Cn Try.prog 11 [.agg (cV a), .agg (cV b)] (B true) hemp := by
  refine Cn.of [] mixed Try.func11 rfl Try.call11 (by kernel_rfl) rfl ?_
  simp -implicitDefEqProofs -dsimp +contextual [-Bool.exists_bool, -Int.not_le, -Int.not_lt, -getElem?_pos, -List.getD_eq_getElem?_getD, Try.f11]
  refine CallJ.pure (szCell a 1048576 ok20 ha) rfl (by simp [-Bool.exists_bool, -Int.not_le, -Int.not_lt, -getElem?_pos, -List.getD_eq_getElem?_getD]) ?_
  simp -implicitDefEqProofs -dsimp +contextual [-Bool.exists_bool, -Int.not_le, -Int.not_lt, -getElem?_pos, -List.getD_eq_getElem?_getD]
  refine ⟨fun _ => RLe.bb rfl, fun h => ?_⟩
  obtain ⟨w1, hk⟩ := lft_2 ok20 h
  obtain ⟨a1, a2⟩ := wAs_small w1
  refine CallJ.pure (szCell b _ hk hb) rfl (by simp [-Bool.exists_bool, -Int.not_le, -Int.not_lt, -getElem?_pos, -List.getD_eq_getElem?_getD]) ?_
  simp -implicitDefEqProofs -dsimp +contextual [-Bool.exists_bool, -Int.not_le, -Int.not_lt, -getElem?_pos, -List.getD_eq_getElem?_getD, h]
  refine ⟨fun _ => RLe.bb rfl, fun h2 => ?_⟩
  obtain ⟨w2, _⟩ := lft_2 hk h2
  obtain ⟨b1, b2⟩ := wAs_small w2
  refine CallJ.pure (toCellW a a1 a2) rfl (by simp [-Bool.exists_bool, -Int.not_le, -Int.not_lt, -getElem?_pos, -List.getD_eq_getElem?_getD]) ?_
  simp -implicitDefEqProofs -dsimp +contextual [-Bool.exists_bool, -Int.not_le, -Int.not_lt, -getElem?_pos, -List.getD_eq_getElem?_getD, h, h2]
  refine CallJ.pure (toCellW b b1 b2) rfl (by simp [-Bool.exists_bool, -Int.not_le, -Int.not_lt, -getElem?_pos, -List.getD_eq_getElem?_getD]) ?_
  simp -implicitDefEqProofs -dsimp +contextual [-Bool.exists_bool, -Int.not_le, -Int.not_lt, -getElem?_pos, -List.getD_eq_getElem?_getD, h, h2]
  refine CallJ.pure (CoversCell a b a1 b1) rfl (by simp [-Bool.exists_bool, -Int.not_le, -Int.not_lt, -getElem?_pos, -List.getD_eq_getElem?_getD]) ?_
  simp -implicitDefEqProofs -dsimp +contextual [-Bool.exists_bool, -Int.not_le, -Int.not_lt, -getElem?_pos, -List.getD_eq_getElem?_getD, h, h2]
  refine CallJ.pure (toCellW a a1 a2) rfl (by simp [-Bool.exists_bool, -Int.not_le, -Int.not_lt, -getElem?_pos, -List.getD_eq_getElem?_getD]) ?_
  simp -implicitDefEqProofs -dsimp +contextual [-Bool.exists_bool, -Int.not_le, -Int.not_lt, -getElem?_pos, -List.getD_eq_getElem?_getD, h, h2]
  refine CallJ.pure (toCellW b b1 b2) rfl (by simp [-Bool.exists_bool, -Int.not_le, -Int.not_lt, -getElem?_pos, -List.getD_eq_getElem?_getD]) ?_
  simp -implicitDefEqProofs -dsimp +contextual [-Bool.exists_bool, -Int.not_le, -Int.not_lt, -getElem?_pos, -List.getD_eq_getElem?_getD, h, h2]
  refine CallJ.pure (iCoversCell a b a1 b1) rfl (by simp [-Bool.exists_bool, -Int.not_le, -Int.not_lt, -getElem?_pos, -List.getD_eq_getElem?_getD]) ?_
  simp -implicitDefEqProofs -dsimp +contextual [-Bool.exists_bool, -Int.not_le, -Int.not_lt, -getElem?_pos, -List.getD_eq_getElem?_getD, h, h2]
  refine CallJ.pure (toCellW a a1 a2) rfl (by simp [-Bool.exists_bool, -Int.not_le, -Int.not_lt, -getElem?_pos, -List.getD_eq_getElem?_getD]) ?_
  simp -implicitDefEqProofs -dsimp +contextual [-Bool.exists_bool, -Int.not_le, -Int.not_lt, -getElem?_pos, -List.getD_eq_getElem?_getD, h, h2]
  refine CallJ.pure (eqCell a a1 a2) rfl (by simp [-Bool.exists_bool, -Int.not_le, -Int.not_lt, -getElem?_pos, -List.getD_eq_getElem?_getD]) ?_
  simp -implicitDefEqProofs -dsimp +contextual [-Bool.exists_bool, -Int.not_le, -Int.not_lt, -getElem?_pos, -List.getD_eq_getElem?_getD, h, h2]
  refine CallJ.pure (toCellW b b1 b2) rfl (by simp [-Bool.exists_bool, -Int.not_le, -Int.not_lt, -getElem?_pos, -List.getD_eq_getElem?_getD]) ?_
  simp -implicitDefEqProofs -dsimp +contextual [-Bool.exists_bool, -Int.not_le, -Int.not_lt, -getElem?_pos, -List.getD_eq_getElem?_getD, h, h2]
  refine CallJ.pure (eqCell b b1 b2) rfl (by simp [-Bool.exists_bool, -Int.not_le, -Int.not_lt, -getElem?_pos, -List.getD_eq_getElem?_getD]) ?_
  simp -implicitDefEqProofs -dsimp +contextual [-Bool.exists_bool, -Int.not_le, -Int.not_lt, -getElem?_pos, -List.getD_eq_getElem?_getD, h, h2]
  exact RLe.bb rfl
end Go.Proofs.Ytkicjflhokckgaa.ZL
namespace Go.Proofs.Ytkicjflhokckgaa.ZL
open Go Go.Proofs.Ytkicjflhokckgaa.Abs Go.Proofs.Ytkicjflhokckgaa.Abs.Pl Go.RowKit Go.Proofs
set_option linter.unusedVariables false
set_option linter.unusedSimpArgs false
def kMe (P : Program) (A : Key → Prop) (H : Store) (r : V) (Hr : Store) (vs : List V) : Prop := RLm P A H (oneV vs) r Hr
section
variable {P : Program} {A : Key → Prop} {H : Store} {r v : V} {Hr : Store} {S : St} {rs : List ResultVar}
theorem retM_ret : retM P rs A r Hr .ret S = resS P S.T S.H rs (kMe P A S.H r Hr) := rfl
theorem kMe_1 : kMe P A H r Hr [v] = RLm P A H v r Hr := rfl
theorem RLm.told {K : List (Key × Ent)} (hv : VLe H (fun k => k) 2 v r) (hr : allK (okKey A) r)
    (hK : allP (fun p : Key × Ent => p.1.1 < 2 ∧ okKey A p.1 ∧ allKE (okKey A) p.2 ∧ entIs (H p.1) fun e => ELe H (fun k => k) 2 e p.2) K) : RLm P A H v r (hl K) :=
  RLm.mk (fun k => k) (fun _ _ => rfl) hv hr (fun k e' hk => by
    obtain ⟨h1, h2, h3, h4⟩ := allP_mem hK _ (hl_mem hk)
    simp only [entIs] at h4
    refine ⟨h1, h2, h3, ?_⟩
    cases hq : H k with
    | none => rw [hq] at h4; exact h4.elim
    | some e => rw [hq] at h4; exact ⟨e, rfl, h4⟩) (fun _ _ _ _ _ _ h => h)
end
theorem allKs_dl (p : Key → Prop) : ∀ cs : List D, allKs p (dl cs)
  | [] => trivial
  | d :: cs => ⟨trivial, allKs_dl p cs⟩
attribute [simp ↓] retM_ret kMe_1
attribute [simp] allKs_dl
def markI (n : Nat) (m : Int) : List Int := (List.range n).map fun i : Nat => m + i
def rowI (l : List Int) : Ent := .row 3 l.length (dl (l.map (.int .i64)))
def curI (l : List Int) (m : Int) (i : Nat) : List Int := markI i m ++ l.drop i
theorem markI_len (n : Nat) (m : Int) : (markI n m).length = n := by simp [-Bool.exists_bool, -Int.not_le, -Int.not_lt, -getElem?_pos, -List.getD_eq_getElem?_getD, markI]
theorem curI_len (l : List Int) (m : Int) (i : Nat) (h : i ≤ l.length) : (curI l m i).length = l.length := by simp [-Bool.exists_bool, -Int.not_le, -Int.not_lt, -getElem?_pos, -List.getD_eq_getElem?_getD, curI, markI_len]; omega
theorem curI_set (l : List Int) (m : Int) (i : Nat) (h : i < l.length) : (curI l m i).set i (m + i) = curI l m (i + 1) := by
  unfold curI
  rw [List.set_append_right _ _ (by rw [markI_len]; exact Nat.le_refl _), markI_len, nth_drop h]
  simp [-Bool.exists_bool, -Int.not_le, -Int.not_lt, -getElem?_pos, -List.getD_eq_getElem?_getD, markI, List.range_succ]
theorem markIntS (l : List Int) (m : Int) (hm : 0 ≤ m ∧ m ≤ 1000000000000) (h20 : l.length ≤ 1048576) : Cm Try.prog 99 (fun k => k = (0, 1)) [.ref (0, 1) l.length, I m] (hl [((0, 1), rowI l)]) (I (m + l.length)) (hl [((0, 1), rowI (markI l.length m))]) := by
  refine Cm.of [] mixed Try.func99 rfl Try.call99 (by kernel_rfl) rfl ?_
  simp -implicitDefEqProofs -dsimp +contextual [-Bool.exists_bool, -Int.not_le, -Int.not_lt, -getElem?_pos, -List.getD_eq_getElem?_getD, Try.f99]
  refine WP.loop mixed [] (fun i : Nat => ⟨tl [(0, .ref (0, 1) l.length), (1, I (m + i)), (5, I i)], hl [((0, 1), .row 3 l.length (dl ((curI l m i).map (.int .i64))))], 2⟩) (fun i => i ≤ l.length) (fun i => l.length - i) 0 (by kernel_rfl) ?_ ?_ ?_
  · refine Le.told [] ?_ ?_ ?_ <;> simp [-Bool.exists_bool, -Int.not_le, -Int.not_lt, -getElem?_pos, -List.getD_eq_getElem?_getD, rowI, curI, markI]
  · simp [-Bool.exists_bool, -Int.not_le, -Int.not_lt, -getElem?_pos, -List.getD_eq_getElem?_getD]
  · intro i hi
    by_cases h : i < l.length
    · have h1 : i + 1 ≤ (curI l m i).length := by rw [curI_len _ _ i hi]; exact h
      simp -implicitDefEqProofs -dsimp +contextual [-Bool.exists_bool, -Int.not_le, -Int.not_lt, -getElem?_pos, -List.getD_eq_getElem?_getD, h, h1]
      refine ⟨i + 1, h, by omega, ?_⟩
      rw [wr (by omega) (by omega), wr (by omega) (by omega)]
      have hs := curI_set l m i h
      refine Le.told [] ?_ ?_ ?_ <;> simp [-Bool.exists_bool, -Int.not_le, -Int.not_lt, -getElem?_pos, -List.getD_eq_getElem?_getD]
      · omega
      · rw [← hs, List.map_set, List.set_eq_take_append_cons_drop, if_pos (by rw [List.length_map]; exact h1)]
    · obtain rfl : i = l.length := by omega
      simp -implicitDefEqProofs -dsimp +contextual [-Bool.exists_bool, -Int.not_le, -Int.not_lt, -getElem?_pos, -List.getD_eq_getElem?_getD, h]
      refine RLm.told ?_ ?_ ?_
      · simp [-Bool.exists_bool, -Int.not_le, -Int.not_lt, -getElem?_pos, -List.getD_eq_getElem?_getD]
      · simp [-Bool.exists_bool, -Int.not_le, -Int.not_lt, -getElem?_pos, -List.getD_eq_getElem?_getD, allK]
      · simp [-Bool.exists_bool, -Int.not_le, -Int.not_lt, -getElem?_pos, -List.getD_eq_getElem?_getD, okKey, allKE, rowI, markI_len, curI]
def markA (a : At) (m : Int) : At := (markI a.1.length m, m + a.1.length, decide ((m + a.1.length + 1).tmod 3 = 0))
def markS : List At → Int → List At
  | [], _ => []
  | a :: L, m => markA a m :: markS L (m + a.1.length + 2)
def nxtS : List At → Int → Int
  | [], m => m
  | a :: L, m => nxtS L (m + a.1.length + 2)
theorem markA_len (a : At) (m : Int) : (markA a m).1.length = a.1.length := markI_len ..
theorem markS_len : ∀ (L : List At) (m : Int), (markS L m).length = L.length
  | [], _ => rfl
  | a :: L, m => by simp [-Bool.exists_bool, -Int.not_le, -Int.not_lt, -getElem?_pos, -List.getD_eq_getElem?_getD, markS, markS_len L]
theorem nxtS_app : ∀ (L M : List At) (m : Int), nxtS (L ++ M) m = nxtS M (nxtS L m)
  | [], M, m => rfl
  | a :: L, M, m => by simp [-Bool.exists_bool, -Int.not_le, -Int.not_lt, -getElem?_pos, -List.getD_eq_getElem?_getD, nxtS, nxtS_app L]
theorem markS_app : ∀ (L M : List At) (m : Int), markS (L ++ M) m = markS L m ++ markS M (nxtS L m)
  | [], M, m => rfl
  | a :: L, M, m => by simp [-Bool.exists_bool, -Int.not_le, -Int.not_lt, -getElem?_pos, -List.getD_eq_getElem?_getD, markS, nxtS, markS_app L]
def curA (L : List At) (m : Int) (i : Nat) : List At := markS (L.take i) m ++ L.drop i
theorem curA_len (L : List At) (m : Int) (i : Nat) (h : i ≤ L.length) : (curA L m i).length = L.length := by simp [-Bool.exists_bool, -Int.not_le, -Int.not_lt, -getElem?_pos, -List.getD_eq_getElem?_getD, curA, markS_len]; omega
theorem curA_set (L : List At) (m : Int) (i : Nat) (h : i < L.length) : (curA L m i).set i (markA (nth L i) (nxtS (L.take i) m)) = curA L m (i + 1) := by
  unfold curA
  have hl : (markS (L.take i) m).length = i := by rw [markS_len]; simp [-Bool.exists_bool, -Int.not_le, -Int.not_lt, -getElem?_pos, -List.getD_eq_getElem?_getD]; omega
  rw [List.set_append_right _ _ (by rw [hl]; exact Nat.le_refl _), hl, nth_drop h, nth_take h, markS_app]
  simp [-Bool.exists_bool, -Int.not_le, -Int.not_lt, -getElem?_pos, -List.getD_eq_getElem?_getD, markS]
theorem curA_nth (L : List At) (m : Int) (i j : Nat) (h : i ≤ j) (hj : j < L.length) : nth (curA L m i) j = nth L j := by
  have hl : (markS (L.take i) m).length = i := by rw [markS_len]; simp [-Bool.exists_bool, -Int.not_le, -Int.not_lt, -getElem?_pos, -List.getD_eq_getElem?_getD]; omega
  rw [nth_eq (by rw [curA_len _ _ _ (by omega)]; exact hj), nth_eq hj]
  unfold curA
  rw [List.getElem_append_right (by rw [hl]; exact h)]
  simp only [hl, List.getElem_drop]
  congr 1
  omega
def mFam (L : List At) : Store := fun k => if k.1 = 0 then (match k.2 with
    | 0 => none
    | 1 => some (.row 52 L.length (rA (fun j => (0, j + 2)) 0 L))
    | j + 2 => ownA L j) else none
def mKey (n : Nat) (k : Key) : Prop := k.1 = 0 ∧ 1 ≤ k.2 ∧ k.2 ≤ n + 1
theorem mFam_1 (L : List At) : mFam L (0, 1) = some (.row 52 L.length (rA (fun j => (0, j + 2)) 0 L)) := rfl
theorem mFam_j (L : List At) (j : Nat) : mFam L (0, j + 2) = ownA L j := rfl
theorem mFam_some {L : List At} {k : Key} {e : Ent} (h : mFam L k = some e) : (k = (0, 1) ∧ e = .row 52 L.length (rA (fun j => (0, j + 2)) 0 L)) ∨ ∃ j, j < L.length ∧ k = (0, j + 2) ∧ e = rowA (nth L j) := by
  obtain ⟨a, b⟩ := k
  unfold mFam at h
  simp only at h
  split at h
  · rename_i ha
    subst ha
    split at h
    · exact absurd h (by simp [-Bool.exists_bool, -Int.not_le, -Int.not_lt, -getElem?_pos, -List.getD_eq_getElem?_getD])
    · exact .inl ⟨rfl, (Option.some.inj h).symm⟩
    · rename_i j
      obtain ⟨h1, h2⟩ := ownA_some h
      exact .inr ⟨j, h1, rfl, h2⟩
  · exact absurd h (by simp [-Bool.exists_bool, -Int.not_le, -Int.not_lt, -getElem?_pos, -List.getD_eq_getElem?_getD])
theorem Le.mfam {P : Program} {N : Nat} {T : Nat → V} {H : Store} {nx : Nat} {Lt : List (Nat × V)} (L : List At) (hT : allP (fun p : Nat × V => VLe H (fun k => k) 2 (T p.1) p.2) Lt) (h1 : H (0, 1) = some (.row 52 L.length (rA (fun j => (0, j + 2)) 0 L)))
    (hF : ∀ j, j < L.length → H (0, j + 2) = some (rowA (nth L j))) : Le P N ⟨T, H, nx⟩ ⟨tl Lt, mFam L, 2⟩ := by
  refine Le.mk (fun k => k) (.inr (by show 0 < 2; omega)) (fun _ _ _ _ => rfl) (tl_cond (allP_mem hT)) (fun k e' hk => ?_) (fun _ _ _ _ _ _ h => h)
  rcases mFam_some hk with ⟨rfl, rfl⟩ | ⟨j, hj, rfl, rfl⟩
  · refine ⟨by show 0 < 2; omega, _, h1, ?_⟩
    simp only [ELe, true_and]
    exact rA_VLes L 0 fun i hi => ⟨rfl, by show 0 < 2; omega⟩
  · refine ⟨by show 0 < 2; omega, _, hF j hj, ?_⟩
    simp only [rowA, ELe, true_and]
    exact (dl_VLes ..).2 rfl
theorem rA_0 (f : Nat → Key) (L : List At) (i : Nat) (h : i < L.length) : (rA f 0 L)[i * 3]? = some (.ref (f i) (nth L i).1.length) := by
  have := rA_nth f L i 0 h
  rw [Nat.zero_add] at this
  rw [show (rA f 0 L)[i * 3]? = ((rA f 0 L).drop (i * 3))[0]? by rw [List.getElem?_drop, Nat.add_zero], this]
  rfl
theorem nxtS_le : ∀ (L : List At) (m : Int), m ≤ nxtS L m
  | [], m => Int.le_refl _
  | a :: L, m => by have := nxtS_le L (m + a.1.length + 2); simp only [nxtS]; omega
theorem nxtS_take (L : List At) (m : Int) (i : Nat) : nxtS (L.take i) m ≤ nxtS L m := by
  have := nxtS_le (L.drop i) (nxtS (L.take i) m)
  rwa [← nxtS_app, List.take_append_drop] at this
theorem rA_allKs {p : Key → Prop} (f : Nat → Key) : ∀ (L : List At) (j : Nat), (∀ i, i < L.length → p (f (j + i))) → allKs p (rA f j L)
  | [], _, _ => trivial
  | a :: L, j, h => ⟨by have := h 0 (by simp [-Bool.exists_bool, -Int.not_le, -Int.not_lt, -getElem?_pos, -List.getD_eq_getElem?_getD]); exact this, trivial, trivial, rA_allKs f L (j + 1) fun i hi => by have := h (i + 1) (by simp [-Bool.exists_bool, -Int.not_le, -Int.not_lt, -getElem?_pos, -List.getD_eq_getElem?_getD]; omega); rwa [show j + (i + 1) = j + 1 + i by omega] at this⟩
theorem rA_put (f : Nat → Key) (L : List At) (i : Nat) (h : i < L.length) (a : At) (hl : a.1.length = (nth L i).1.length) :
    (((rA f 0 L).take (i * 3 + 1) ++ I a.2.1 :: (rA f 0 L).drop (i * 3 + 1 + 1)).take (i * 3 + 2) ++ B a.2.2 :: ((rA f 0 L).take (i * 3 + 1) ++ I a.2.1 :: (rA f 0 L).drop (i * 3 + 1 + 1)).drop (i * 3 + 2 + 1)) = rA f 0 (L.set i a) := by
  have e1 : L = L.take i ++ nth L i :: L.drop (i + 1) := by rw [← nth_drop h, List.take_append_drop]
  have e2 : L.set i a = L.take i ++ a :: L.drop (i + 1) := by rw [List.set_eq_take_append_cons_drop, if_pos h]
  have hti : (L.take i).length = i := by simp [-Bool.exists_bool, -Int.not_le, -Int.not_lt, -getElem?_pos, -List.getD_eq_getElem?_getD]; omega
  have hR : rA f 0 L = rA f 0 (L.take i) ++ (.ref (f i) (nth L i).1.length :: I (nth L i).2.1 :: B (nth L i).2.2 :: rA f (i + 1) (L.drop (i + 1))) := by
    rw [congrArg (rA f 0) e1, rA_append, hti, Nat.zero_add]; rfl
  have hS : rA f 0 (L.set i a) = rA f 0 (L.take i) ++ (.ref (f i) (nth L i).1.length :: I a.2.1 :: B a.2.2 :: rA f (i + 1) (L.drop (i + 1))) := by
    rw [e2, rA_append, hti, Nat.zero_add, ← hl]; rfl
  rw [hS, hR]
  have hA : (rA f 0 (L.take i)).length = i * 3 := by rw [rA_len, hti]
  generalize rA f 0 (L.take i) = A at hA
  rw [← hA]
  have t1 : A.take (A.length + 1) = A := List.take_of_length_le (by omega)
  have t2 : A.take (A.length + 2) = A := List.take_of_length_le (by omega)
  have d1 : A.drop (A.length + 1 + 1) = [] := List.drop_eq_nil_of_le (by omega)
  have d2 : A.drop (A.length + 2 + 1) = [] := List.drop_eq_nil_of_le (by omega)
  have k1 : A.length + 1 + 1 - A.length = 2 := by omega
  have k2 : A.length + 2 + 1 - A.length = 3 := by omega
  simp [-Bool.exists_bool, -Int.not_le, -Int.not_lt, -getElem?_pos, -List.getD_eq_getElem?_getD, List.take_append, List.drop_append, t1, t2, d1, d2, k1, k2]
theorem callMarkI {N nx s : Nat} {H : Store} {K : Eff → Prop} (k0 : Key) (l : List Int) (m : Int) (hm : 0 ≤ m ∧ m ≤ 1000000000000) (h20 : l.length ≤ 1048576) (hH : H k0 = some (rowI l)) (hs : k0.1 ≠ s) (hn : k0.1 < nx)
    (hk : K ⟨I (m + l.length), [k0], [k0], up1 k0 (some (rowI (markI l.length m))) noUp⟩) : CallJ Try.prog N nx s H 99 [.ref k0 l.length, I m] K := by
  have hup : upMut (fun _ => k0) (fun k => if k = k0 then some 0 else none) s (hl [((0, 1), rowI (markI l.length m))]) = up1 k0 (some (rowI (markI l.length m))) noUp := by
    funext k
    unfold upMut up1
    by_cases h1 : k = k0
    · subst h1
      rw [if_neg hs, if_pos rfl]
      simp [-Bool.exists_bool, -Int.not_le, -Int.not_lt, -getElem?_pos, -List.getD_eq_getElem?_getD, rowI, mapE]
    · rw [if_neg h1]
      simp [-Bool.exists_bool, -Int.not_le, -Int.not_lt, -getElem?_pos, -List.getD_eq_getElem?_getD, h1, noUp]
  rw [← hup] at hk
  refine CallJ.mut (fun _ => k0) (fun k => if k = k0 then some 0 else none) [k0] [] (markIntS l m hm h20) ?_ ?_ ?_ ?_ ?_ ?_ ?_ ?_ (by simpa [-Bool.exists_bool, -Int.not_le, -Int.not_lt, -getElem?_pos, -List.getD_eq_getElem?_getD] using hk)
  · simp [-Bool.exists_bool, -Int.not_le, -Int.not_lt, -getElem?_pos, -List.getD_eq_getElem?_getD, gk]
  · simp [-Bool.exists_bool, -Int.not_le, -Int.not_lt, -getElem?_pos, -List.getD_eq_getElem?_getD, allKs, allK]
  · rintro k rfl; simp [-Bool.exists_bool, -Int.not_le, -Int.not_lt, -getElem?_pos, -List.getD_eq_getElem?_getD, hH]
  · intro k e h
    simp [-Bool.exists_bool, -Int.not_le, -Int.not_lt, -getElem?_pos, -List.getD_eq_getElem?_getD] at h
    obtain ⟨rfl, rfl⟩ := h
    simp [-Bool.exists_bool, -Int.not_le, -Int.not_lt, -getElem?_pos, -List.getD_eq_getElem?_getD, hH, rowI, mapE, allKE]
  · intro k j h
    simp [-Bool.exists_bool, -Int.not_le, -Int.not_lt, -getElem?_pos, -List.getD_eq_getElem?_getD] at h
    obtain ⟨rfl, rfl⟩ := h
    simp [-Bool.exists_bool, -Int.not_le, -Int.not_lt, -getElem?_pos, -List.getD_eq_getElem?_getD]
  · simp [-Bool.exists_bool, -Int.not_le, -Int.not_lt, -getElem?_pos, -List.getD_eq_getElem?_getD]
  · intro k e h
    simp [-Bool.exists_bool, -Int.not_le, -Int.not_lt, -getElem?_pos, -List.getD_eq_getElem?_getD] at h
    obtain ⟨rfl, rfl⟩ := h
    simp [-Bool.exists_bool, -Int.not_le, -Int.not_lt, -getElem?_pos, -List.getD_eq_getElem?_getD]
  · simp [-Bool.exists_bool, -Int.not_le, -Int.not_lt, -getElem?_pos, -List.getD_eq_getElem?_getD, hH, hn]
theorem markAtomS (L : List At) (m : Int) (hm : 0 ≤ m ∧ nxtS L m ≤ 100000000000) (h20 : L.length ≤ 1048576) (ha : ∀ a ∈ L, a.1.length ≤ 1048576) : Cm Try.prog 56 (mKey L.length) [.ref (0, 1) L.length, I m] (mFam L) (I (nxtS L m)) (mFam (markS L m)) := by
  refine Cm.of [] mixed Try.func56 rfl Try.call56 (by kernel_rfl) rfl ?_
  simp -implicitDefEqProofs -dsimp +contextual [-Bool.exists_bool, -Int.not_le, -Int.not_lt, -getElem?_pos, -List.getD_eq_getElem?_getD, Try.f56]
  refine WP.loop mixed [] (fun i : Nat => ⟨tl [(0, .ref (0, 1) L.length), (1, I (nxtS (L.take i) m)), (5, I i)], mFam (curA L m i), 2⟩) (fun i => i ≤ L.length) (fun i => L.length - i) 0 (by kernel_rfl) ?_ ?_ ?_
  · refine Le.mfam _ ?_ ?_ ?_ 
    · simp [-Bool.exists_bool, -Int.not_le, -Int.not_lt, -getElem?_pos, -List.getD_eq_getElem?_getD, nxtS]
    · simp [-Bool.exists_bool, -Int.not_le, -Int.not_lt, -getElem?_pos, -List.getD_eq_getElem?_getD, curA, markS, mFam_1]
    · intro j hj; simp [-Bool.exists_bool, -Int.not_le, -Int.not_lt, -getElem?_pos, -List.getD_eq_getElem?_getD, curA, markS] at hj ⊢; rw [mFam_j, ownA_lt hj]
  · simp [-Bool.exists_bool, -Int.not_le, -Int.not_lt, -getElem?_pos, -List.getD_eq_getElem?_getD]
  · intro i hi
    by_cases h : i < L.length
    · have hlc := curA_len L m i hi
      have hc0 := rA_0 (fun j => (0, j + 2)) (curA L m i) i (by omega)
      rw [curA_nth L m i i (Nat.le_refl _) h] at hc0
      have hm0 := nxtS_le (L.take i) m
      have hm1 := nxtS_take L m (i + 1)
      rw [nth_take h, nxtS_app] at hm1
      simp only [nxtS] at hm1
      simp -implicitDefEqProofs -dsimp +contextual [-Bool.exists_bool, -Int.not_le, -Int.not_lt, -getElem?_pos, -List.getD_eq_getElem?_getD, h, mFam_1, hc0]
      refine callMarkI (0, i + 2) (nth L i).1 _ (by omega) (ha _ (nth_mem h)) (by rw [mFam_j, ownA_lt (by omega), curA_nth L m i i (Nat.le_refl _) h]; rfl) (by simp [-Bool.exists_bool, -Int.not_le, -Int.not_lt, -getElem?_pos, -List.getD_eq_getElem?_getD]) (by simp [-Bool.exists_bool, -Int.not_le, -Int.not_lt, -getElem?_pos, -List.getD_eq_getElem?_getD]) ?_
      have hb1 : i * 3 + 1 + 1 ≤ (curA L m i).length * 3 := by omega
      have hb2 : i * 3 + 2 + 1 ≤ min (i * 3 + 1) ((curA L m i).length * 3) + ((curA L m i).length * 3 - (i * 3 + 1 + 1) + 1) := by omega
      simp -implicitDefEqProofs -dsimp +contextual [-Bool.exists_bool, -Int.not_le, -Int.not_lt, -getElem?_pos, -List.getD_eq_getElem?_getD, h, mFam_1, hb1, hb2]
      refine ⟨i + 1, h, by omega, ?_⟩
      have hs := curA_set L m i h
      have hp := rA_put (fun j => (0, j + 2)) (curA L m i) i (by omega) (markA (nth L i) (nxtS (L.take i) m)) (by rw [markA_len, curA_nth L m i i (Nat.le_refl _) h])
      rw [hs] at hp
      simp only [markA] at hp
      have w1 : IntKind.wrap .i64 (nxtS (L.take i) m + (nth L i).1.length + 1) = nxtS (L.take i) m + (nth L i).1.length + 1 := wr (by omega) (by omega)
      rw [w1, wr (by omega) (by omega), wr (by omega) (by omega), hp]
      refine Le.mfam _ ?_ ?_ ?_
      · simp [-Bool.exists_bool, -Int.not_le, -Int.not_lt, -getElem?_pos, -List.getD_eq_getElem?_getD, nth_take h, nxtS_app, nxtS]
        omega
      · simp [-Bool.exists_bool, -Int.not_le, -Int.not_lt, -getElem?_pos, -List.getD_eq_getElem?_getD, setH, hlc, curA_len L m (i + 1) h]
      · intro j hj
        rw [curA_len L m (i + 1) h] at hj
        by_cases hij : j = i
        · subst hij
          have : nth (curA L m (j + 1)) j = markA (nth L j) (nxtS (L.take j) m) := by
            rw [← hs, nth_eq (by rw [List.length_set, hlc]; exact hj)]
            simp [-Bool.exists_bool, -Int.not_le, -Int.not_lt, -getElem?_pos, -List.getD_eq_getElem?_getD]
          rw [this]
          simp [-Bool.exists_bool, -Int.not_le, -Int.not_lt, -getElem?_pos, -List.getD_eq_getElem?_getD, setH, rowA, rowI, markA, markI_len]
        · have : nth (curA L m (i + 1)) j = nth (curA L m i) j := by
            rw [← hs, nth_eq (by rw [List.length_set, hlc]; exact hj)]
            simp [-Bool.exists_bool, -Int.not_le, -Int.not_lt, -getElem?_pos, -List.getD_eq_getElem?_getD, Ne.symm hij]
            exact (nth_eq _).symm
          rw [this]
          simp [-Bool.exists_bool, -Int.not_le, -Int.not_lt, -getElem?_pos, -List.getD_eq_getElem?_getD, setH, hij, mFam_j, ownA_lt (show j < (curA L m i).length by rw [hlc]; exact hj)]
    · obtain rfl : i = L.length := by omega
      simp -implicitDefEqProofs -dsimp +contextual [-Bool.exists_bool, -Int.not_le, -Int.not_lt, -getElem?_pos, -List.getD_eq_getElem?_getD, h]
      have e : curA L m L.length = markS L m := by simp [-Bool.exists_bool, -Int.not_le, -Int.not_lt, -getElem?_pos, -List.getD_eq_getElem?_getD, curA]
      rw [e]
      refine RLm.mk (fun k => k) (fun _ _ => rfl) (by simp [-Bool.exists_bool, -Int.not_le, -Int.not_lt, -getElem?_pos, -List.getD_eq_getElem?_getD]) (by simp [-Bool.exists_bool, -Int.not_le, -Int.not_lt, -getElem?_pos, -List.getD_eq_getElem?_getD, allK]) (fun k e' hk => ?_) (fun _ _ _ _ _ _ h => h)
      rcases mFam_some hk with ⟨rfl, rfl⟩ | ⟨j, hj, rfl, rfl⟩
      · refine ⟨by show 0 < 2; omega, fun _ => ⟨rfl, by simp [-Bool.exists_bool, -Int.not_le, -Int.not_lt, -getElem?_pos, -List.getD_eq_getElem?_getD], by simp [-Bool.exists_bool, -Int.not_le, -Int.not_lt, -getElem?_pos, -List.getD_eq_getElem?_getD]⟩, ?_, _, mFam_1 _, ?_⟩
        · simp only [allKE]
          exact rA_allKs _ _ 0 fun i hi _ => ⟨rfl, by simp [-Bool.exists_bool, -Int.not_le, -Int.not_lt, -getElem?_pos, -List.getD_eq_getElem?_getD], by rw [markS_len] at hi; simp [-Bool.exists_bool, -Int.not_le, -Int.not_lt, -getElem?_pos, -List.getD_eq_getElem?_getD]; omega⟩
        · simp only [ELe, true_and]
          exact rA_VLes _ 0 fun i hi => ⟨rfl, by show 0 < 2; omega⟩
      · rw [markS_len] at hj
        refine ⟨by show 0 < 2; omega, fun _ => ⟨rfl, by simp [-Bool.exists_bool, -Int.not_le, -Int.not_lt, -getElem?_pos, -List.getD_eq_getElem?_getD], by simp [-Bool.exists_bool, -Int.not_le, -Int.not_lt, -getElem?_pos, -List.getD_eq_getElem?_getD]; omega⟩, by simp [-Bool.exists_bool, -Int.not_le, -Int.not_lt, -getElem?_pos, -List.getD_eq_getElem?_getD, rowA, allKE], _, by rw [mFam_j, ownA_lt (by rw [markS_len]; exact hj)], ?_⟩
        simp only [rowA, ELe, true_and]
        exact (dl_VLes ..).2 rfl
end Go.Proofs.Ytkicjflhokckgaa.ZL
namespace Go.Proofs.Ytkicjflhokckgaa.ZL
open Go Go.Proofs.Ytkicjflhokckgaa.Abs Go.Proofs.Ytkicjflhokckgaa.Abs.Pl Go.RowKit Go.Proofs
set_option linter.unusedVariables false
set_option linter.unusedSimpArgs false
def upMark (s0 o : Nat) (L : List At) : Key → Option (Option Ent) := fun k => if k.1 = s0 then (if k.2 = o then some (some (.row 52 L.length (rA (fun j => (s0, j + o + 1)) 0 L))) else
    if o < k.2 ∧ k.2 ≤ o + L.length then some (ownA L (k.2 - o - 1)) else none) else none
section
variable {H : Store}
theorem upMark_0 (s0 o : Nat) (L : List At) : app (upMark s0 o L) H (s0, o) = some (.row 52 L.length (rA (fun j => (s0, j + o + 1)) 0 L)) := by simp [-Bool.exists_bool, -Int.not_le, -Int.not_lt, -getElem?_pos, -List.getD_eq_getElem?_getD, app, upMark]
theorem upMark_j (s0 o : Nat) (L : List At) (j : Nat) (h : j < L.length) : app (upMark s0 o L) H (s0, j + o + 1) = some (rowA (nth L j)) := by
  have h1 : ¬ j + o + 1 = o := by omega
  have h2 : o < j + o + 1 ∧ j + o + 1 ≤ o + L.length := by omega
  have h3 : j + o + 1 - o - 1 = j := by omega
  simp only [app, upMark, if_true, if_neg h1, if_pos h2, h3, ownA_lt h]
theorem upMark_ne (s0 o : Nat) (L : List At) (a b : Nat) (h : a ≠ s0) : app (upMark s0 o L) H (a, b) = H (a, b) := by simp [-Bool.exists_bool, -Int.not_le, -Int.not_lt, -getElem?_pos, -List.getD_eq_getElem?_getD, app, upMark, h]
end
def famK (s0 o n : Nat) : List Key := (s0, o) :: (List.range n).map fun j => (s0, j + o + 1)
theorem callMark {N nx s f : Nat} {H : Store} {K : Eff → Prop} {vs vs' : List V} {x : Int} (s0 o : Nat) (L L' : List At) (hl : L'.length = L.length) (h : Cm Try.prog f (mKey L.length) vs' (mFam L) (I x) (mFam L'))
    (hv : vs = mapL (gk (fun j => (s0, j + o)) s) vs') (hvk : allKs (mKey L.length) vs') (h0 : H (s0, o) = some (.row 52 L.length (rA (fun j => (s0, j + o + 1)) 0 L))) (hF : ∀ j, j < L.length → H (s0, j + o + 1) = some (rowA (nth L j)))
    (hs : s0 ≠ s) (hn : s0 < nx) (hk : K ⟨I x, famK s0 o L.length, famK s0 o L.length, upMark s0 o L'⟩) : CallJ Try.prog N nx s H f vs K := by
  let g : Nat → Key := fun j => (s0, j + o)
  let gi : Key → Option Nat := fun k => if k.1 = s0 ∧ o ≤ k.2 ∧ k.2 ≤ o + L.length then some (k.2 - o) else none
  have hat : ∀ j, j < L.length → (s0, j + o + 1) ∈ famK s0 o L.length := fun j hj => List.mem_cons_of_mem _ (List.mem_map.2 ⟨j, by simpa [-Bool.exists_bool, -Int.not_le, -Int.not_lt, -getElem?_pos, -List.getD_eq_getElem?_getD] using hj, rfl⟩)
  have hfam : ∀ k ∈ famK s0 o L.length, k.1 = s0 ∧ ∃ j, j ≤ L.length ∧ k = (s0, j + o) ∧ (H k).isSome = true := fun k hk => by
    rcases List.mem_cons.1 hk with rfl | hk
    · exact ⟨rfl, 0, Nat.zero_le _, by simp [-Bool.exists_bool, -Int.not_le, -Int.not_lt, -getElem?_pos, -List.getD_eq_getElem?_getD], by rw [h0]; rfl⟩
    · obtain ⟨j, hj, rfl⟩ := List.mem_map.1 hk
      have hj' : j < L.length := by simpa [-Bool.exists_bool, -Int.not_le, -Int.not_lt, -getElem?_pos, -List.getD_eq_getElem?_getD] using hj
      exact ⟨rfl, j + 1, hj', by show (s0, j + o + 1) = (s0, j + 1 + o); rw [show j + o + 1 = j + 1 + o by omega], by rw [hF j (by simpa [-Bool.exists_bool, -Int.not_le, -Int.not_lt, -getElem?_pos, -List.getD_eq_getElem?_getD] using hj)]; rfl⟩
  have hgk : ∀ k, mKey L.length k → (H (g (k.2 - 1))).isSome = true ∧ g (k.2 - 1) ∈ famK s0 o L.length := fun k hk => by
    obtain ⟨h1, h2, h3⟩ := hk
    by_cases h4 : k.2 = 1
    · have : g (k.2 - 1) = (s0, o) := by show (s0, k.2 - 1 + o) = _; rw [h4]; simp [-Bool.exists_bool, -Int.not_le, -Int.not_lt, -getElem?_pos, -List.getD_eq_getElem?_getD]
      rw [this]
      exact ⟨by rw [h0]; rfl, List.mem_cons_self⟩
    · have : g (k.2 - 1) = (s0, (k.2 - 2) + o + 1) := by show (s0, k.2 - 1 + o) = _; rw [show k.2 - 1 + o = k.2 - 2 + o + 1 by omega]
      rw [this]
      exact ⟨by rw [hF (k.2 - 2) (by omega)]; rfl, hat _ (by omega)⟩
  have hup : upMut g gi s (mFam L') = upMark s0 o L' := by
    funext k
    unfold upMut upMark
    by_cases h1 : k.1 = s
    · rw [if_pos h1, if_neg (fun h2 => hs (h2.symm.trans h1))]
      have : mFam L' (1, k.2) = none := by simp [-Bool.exists_bool, -Int.not_le, -Int.not_lt, -getElem?_pos, -List.getD_eq_getElem?_getD, mFam]
      rw [this]
    · rw [if_neg h1]
      by_cases h2 : k.1 = s0
      · rw [if_pos h2]
        by_cases h3 : o ≤ k.2 ∧ k.2 ≤ o + L.length
        · have e : gi k = some (k.2 - o) := by show (if k.1 = s0 ∧ o ≤ k.2 ∧ k.2 ≤ o + L.length then some (k.2 - o) else none) = _; rw [if_pos ⟨h2, h3⟩]
          rw [e]
          simp only []
          by_cases h4 : k.2 = o
          · rw [if_pos h4, show k.2 - o + 1 = 1 by omega, mFam_1]
            simp only [Option.map_some, mapE, rA_mapL]
            have : (fun i => gk g s (0, i + 2)) = fun j => (s0, j + o + 1) := by
              funext i
              show (s0, i + 2 - 1 + o) = _
              rw [show i + 2 - 1 + o = i + o + 1 by omega]
            rw [this]
          · rw [if_neg h4, if_pos ⟨by omega, by omega⟩, show k.2 - o + 1 = (k.2 - o - 1) + 2 by omega, mFam_j, ownA_lt (by omega)]
            simp [-Bool.exists_bool, -Int.not_le, -Int.not_lt, -getElem?_pos, -List.getD_eq_getElem?_getD, mapE, rowA]
        · have e : gi k = none := by show (if k.1 = s0 ∧ o ≤ k.2 ∧ k.2 ≤ o + L.length then some (k.2 - o) else none) = _; rw [if_neg (fun h => h3 h.2)]
          rw [e, if_neg (by omega), if_neg (by omega)]
      · have e : gi k = none := by show (if k.1 = s0 ∧ o ≤ k.2 ∧ k.2 ≤ o + L.length then some (k.2 - o) else none) = _; rw [if_neg (fun h => h2 h.1)]
        rw [e, if_neg h2]
  rw [← hup] at hk
  refine CallJ.mut g gi (famK s0 o L.length) [] h hv hvk (fun k hk => ⟨hk.1, hk.2.1, (hgk k hk).1, by rw [List.append_nil]; exact (hgk k hk).2⟩) ?_ ?_ ?_ ?_ ?_ (by simpa [-Bool.exists_bool, -Int.not_le, -Int.not_lt, -getElem?_pos, -List.getD_eq_getElem?_getD] using hk)
  · intro k e hk
    rcases mFam_some hk with ⟨rfl, rfl⟩ | ⟨j, hj, rfl, rfl⟩
    · refine ⟨⟨rfl, by simp [-Bool.exists_bool, -Int.not_le, -Int.not_lt, -getElem?_pos, -List.getD_eq_getElem?_getD], by simp [-Bool.exists_bool, -Int.not_le, -Int.not_lt, -getElem?_pos, -List.getD_eq_getElem?_getD]⟩, ?_, ?_, ?_⟩
      · show H (s0, 0 + o) = _
        rw [Nat.zero_add, h0]
        simp only [mapE, rA_mapL]
        have : (fun i => gk g s (0, i + 2)) = fun j => (s0, j + o + 1) := by
          funext i
          show (s0, i + 2 - 1 + o) = _
          rw [show i + 2 - 1 + o = i + o + 1 by omega]
        rw [this]
      · simp only [allKE]
        exact rA_allKs _ _ 0 fun i hi => ⟨rfl, by simp [-Bool.exists_bool, -Int.not_le, -Int.not_lt, -getElem?_pos, -List.getD_eq_getElem?_getD], by simp [-Bool.exists_bool, -Int.not_le, -Int.not_lt, -getElem?_pos, -List.getD_eq_getElem?_getD]; omega⟩
      · show (if s0 = s0 ∧ o ≤ 0 + o ∧ 0 + o ≤ o + L.length then some (0 + o - o) else none) = some 0
        rw [if_pos ⟨rfl, by omega, by omega⟩]; simp [-Bool.exists_bool, -Int.not_le, -Int.not_lt, -getElem?_pos, -List.getD_eq_getElem?_getD]
    · refine ⟨⟨rfl, by simp [-Bool.exists_bool, -Int.not_le, -Int.not_lt, -getElem?_pos, -List.getD_eq_getElem?_getD], by simp [-Bool.exists_bool, -Int.not_le, -Int.not_lt, -getElem?_pos, -List.getD_eq_getElem?_getD]; omega⟩, ?_, by simp [-Bool.exists_bool, -Int.not_le, -Int.not_lt, -getElem?_pos, -List.getD_eq_getElem?_getD, rowA, allKE], ?_⟩
      · show H (s0, j + 1 + o) = _
        rw [show j + 1 + o = j + o + 1 by omega, hF j hj]
        simp [-Bool.exists_bool, -Int.not_le, -Int.not_lt, -getElem?_pos, -List.getD_eq_getElem?_getD, mapE, rowA]
      · show (if s0 = s0 ∧ o ≤ j + 1 + o ∧ j + 1 + o ≤ o + L.length then some (j + 1 + o - o) else none) = some (j + 1)
        rw [if_pos ⟨rfl, by omega, by omega⟩]; simp [-Bool.exists_bool, -Int.not_le, -Int.not_lt, -getElem?_pos, -List.getD_eq_getElem?_getD]
  · intro k j hgj
    have hgj : (if k.1 = s0 ∧ o ≤ k.2 ∧ k.2 ≤ o + L.length then some (k.2 - o) else none) = some j := hgj
    split at hgj
    · rename_i hc
      obtain rfl := Option.some.inj hgj
      refine ⟨?_, ?_, ?_⟩
      · show (s0, k.2 - o + o) = k
        rw [Nat.sub_add_cancel hc.2.1, ← hc.1]
      · by_cases h4 : k.2 = o
        · rw [show k.2 - o + 1 = 1 by omega, mFam_1]; rfl
        · rw [show k.2 - o + 1 = (k.2 - o - 1) + 2 by omega, mFam_j, ownA_lt (by omega)]; rfl
      · have e : k = (s0, k.2) := by rw [← hc.1]
        rw [e]
        by_cases h4 : k.2 = o
        · rw [h4]; exact List.mem_cons_self
        · have := hat (k.2 - o - 1) (by omega)
          rwa [show k.2 - o - 1 + o + 1 = k.2 by omega] at this
    · exact absurd hgj (by simp [-Bool.exists_bool, -Int.not_le, -Int.not_lt, -getElem?_pos, -List.getD_eq_getElem?_getD])
  · intro k hk
    obtain ⟨h1, j, hj, rfl, _⟩ := hfam k hk
    show (if s0 = s0 ∧ o ≤ j + o ∧ j + o ≤ o + L.length then some (j + o - o) else none).isSome = true
    rw [if_pos ⟨rfl, by omega, by omega⟩]; rfl
  · intro k e hk
    rcases mFam_some hk with ⟨rfl, rfl⟩ | ⟨j, hj, rfl, rfl⟩
    · exact ⟨by show 0 < 2; omega, fun _ => by rw [mFam_1]; rfl⟩
    · exact ⟨by show 0 < 2; omega, fun _ => by rw [mFam_j, ownA_lt (by omega)]; rfl⟩
  · intro k hk
    rw [List.append_nil] at hk
    obtain ⟨h1, j, hj, rfl, h2⟩ := hfam k hk
    exact ⟨h2, .inl hn⟩
theorem RLm.mfam {P : Program} {H : Store} {n : Nat} {x : Int} (L : List At) (hl : L.length = n) (h1 : H (0, 1) = some (.row 52 L.length (rA (fun j => (0, j + 2)) 0 L))) (hF : ∀ j, j < L.length → H (0, j + 2) = some (rowA (nth L j))) : RLm P (mKey n) H (I x) (I x) (mFam L) := by
  subst hl
  refine RLm.mk (fun k => k) (fun _ _ => rfl) (by simp [-Bool.exists_bool, -Int.not_le, -Int.not_lt, -getElem?_pos, -List.getD_eq_getElem?_getD]) (by simp [-Bool.exists_bool, -Int.not_le, -Int.not_lt, -getElem?_pos, -List.getD_eq_getElem?_getD, allK]) (fun k e' hk => ?_) (fun _ _ _ _ _ _ h => h)
  rcases mFam_some hk with ⟨rfl, rfl⟩ | ⟨j, hj, rfl, rfl⟩
  · refine ⟨by show 0 < 2; omega, fun _ => ⟨rfl, by simp [-Bool.exists_bool, -Int.not_le, -Int.not_lt, -getElem?_pos, -List.getD_eq_getElem?_getD], by simp [-Bool.exists_bool, -Int.not_le, -Int.not_lt, -getElem?_pos, -List.getD_eq_getElem?_getD]⟩, ?_, _, h1, ?_⟩
    · simp only [allKE]
      exact rA_allKs _ _ 0 fun i hi _ => ⟨rfl, by simp [-Bool.exists_bool, -Int.not_le, -Int.not_lt, -getElem?_pos, -List.getD_eq_getElem?_getD], by simp [-Bool.exists_bool, -Int.not_le, -Int.not_lt, -getElem?_pos, -List.getD_eq_getElem?_getD]; omega⟩
    · simp only [ELe, true_and]
      exact rA_VLes _ 0 fun i hi => ⟨rfl, by show 0 < 2; omega⟩
  · refine ⟨by show 0 < 2; omega, fun _ => ⟨rfl, by simp [-Bool.exists_bool, -Int.not_le, -Int.not_lt, -getElem?_pos, -List.getD_eq_getElem?_getD], by simp [-Bool.exists_bool, -Int.not_le, -Int.not_lt, -getElem?_pos, -List.getD_eq_getElem?_getD]; omega⟩, by simp [-Bool.exists_bool, -Int.not_le, -Int.not_lt, -getElem?_pos, -List.getD_eq_getElem?_getD, rowA, allKE], _, hF j hj, ?_⟩
    simp only [rowA, ELe, true_and]
    exact (dl_VLes ..).2 rfl
theorem markCell (d : Int) (L : List At) (m : Int) (hm : 0 ≤ m ∧ nxtS L m ≤ 100000000000) (h20 : L.length ≤ 1048576) (ha : ∀ a ∈ L, a.1.length ≤ 1048576) : Cm Try.prog 19 (mKey L.length) [.agg [I d, .ref (0, 1) L.length], I m] (mFam L) (I (nxtS L m)) (mFam (markS L m)) := by
  refine Cm.of [] mixed Try.func19 rfl Try.call19 (by kernel_rfl) rfl ?_
  simp -implicitDefEqProofs -dsimp +contextual [-Bool.exists_bool, -Int.not_le, -Int.not_lt, -getElem?_pos, -List.getD_eq_getElem?_getD, Try.f19]
  refine callMark 0 1 L (markS L m) (markS_len L m) (markAtomS L m hm h20 ha) ?_ ?_ ?_ ?_ ?_ ?_ ?_
  · simp [-Bool.exists_bool, -Int.not_le, -Int.not_lt, -getElem?_pos, -List.getD_eq_getElem?_getD, gk]
  · simp [-Bool.exists_bool, -Int.not_le, -Int.not_lt, -getElem?_pos, -List.getD_eq_getElem?_getD, allKs, allK, mKey]
  · simp [-Bool.exists_bool, -Int.not_le, -Int.not_lt, -getElem?_pos, -List.getD_eq_getElem?_getD, setH, mFam_1]
  · intro j hj; simp [-Bool.exists_bool, -Int.not_le, -Int.not_lt, -getElem?_pos, -List.getD_eq_getElem?_getD, setH, mFam_j, ownA_lt hj]
  · simp [-Bool.exists_bool, -Int.not_le, -Int.not_lt, -getElem?_pos, -List.getD_eq_getElem?_getD]
  · simp [-Bool.exists_bool, -Int.not_le, -Int.not_lt, -getElem?_pos, -List.getD_eq_getElem?_getD]
  simp -implicitDefEqProofs -dsimp +contextual [-Bool.exists_bool, -Int.not_le, -Int.not_lt, -getElem?_pos, -List.getD_eq_getElem?_getD]
  refine RLm.mfam _ (markS_len L m) (upMark_0 0 1 _) fun j hj => upMark_j 0 1 _ j hj
end Go.Proofs.Ytkicjflhokckgaa.ZL
namespace Go.Proofs.Ytkicjflhokckgaa.ZL
open Go Go.Proofs.Ytkicjflhokckgaa.Abs Go.Proofs.Ytkicjflhokckgaa.Abs.Pl Go.RowKit Go.Proofs
set_option linter.unusedVariables false
set_option linter.unusedSimpArgs false
theorem heldIntS (n : Nat) (m : Int) (hm : 0 ≤ m ∧ m ≤ 1000000000000) (h20 : n ≤ 1048576) : Cn Try.prog 100 [Is (markI n m), I m] (I (m + n)) hemp := by
  refine Cn.of [] mixed Try.func100 rfl Try.call100 (by kernel_rfl) rfl ?_
  simp -implicitDefEqProofs -dsimp +contextual [-Bool.exists_bool, -Int.not_le, -Int.not_lt, -getElem?_pos, -List.getD_eq_getElem?_getD, Try.f100]
  refine WP.loop mixed [] (fun i : Nat => ⟨tl [(0, Is (markI n m)), (1, I (m + i)), (5, I i)], hl [], 1⟩) (fun i => i ≤ n) (fun i => n - i) 0 (by kernel_rfl) ?_ ?_ ?_
  · refine Le.told [] ?_ ?_ ?_ <;> simp [-Bool.exists_bool, -Int.not_le, -Int.not_lt, -getElem?_pos, -List.getD_eq_getElem?_getD]
  · simp [-Bool.exists_bool, -Int.not_le, -Int.not_lt, -getElem?_pos, -List.getD_eq_getElem?_getD]
  · intro i hi
    have hl := markI_len n m
    by_cases h : i < n
    · have hg : (markI n m)[i]? = some (m + i) := by rw [markI, List.getElem?_map, List.getElem?_range h]; rfl
      simp -implicitDefEqProofs -dsimp +contextual [-Bool.exists_bool, -Int.not_le, -Int.not_lt, -getElem?_pos, -List.getD_eq_getElem?_getD, h, hl, hg]
      refine ⟨i + 1, h, by omega, ?_⟩
      rw [wr (by omega) (by omega), wr (by omega) (by omega)]
      refine Le.told [] ?_ ?_ ?_ <;> simp [-Bool.exists_bool, -Int.not_le, -Int.not_lt, -getElem?_pos, -List.getD_eq_getElem?_getD]
      omega
    · simp -implicitDefEqProofs -dsimp +contextual [-Bool.exists_bool, -Int.not_le, -Int.not_lt, -getElem?_pos, -List.getD_eq_getElem?_getD, h, hl]
      obtain rfl : i = n := by omega
      exact RLe.pure 1 (by simp [-Bool.exists_bool, -Int.not_le, -Int.not_lt, -getElem?_pos, -List.getD_eq_getElem?_getD])
theorem markS_nth : ∀ (L : List At) (m : Int) (i : Nat), i < L.length → nth (markS L m) i = markA (nth L i) (nxtS (L.take i) m)
  | [], _, i, h => absurd h (by simp [-Bool.exists_bool, -Int.not_le, -Int.not_lt, -getElem?_pos, -List.getD_eq_getElem?_getD])
  | a :: L, m, 0, _ => rfl
  | a :: L, m, i + 1, h => by
    have := markS_nth L (m + a.1.length + 2) i (by simpa [-Bool.exists_bool, -Int.not_le, -Int.not_lt, -getElem?_pos, -List.getD_eq_getElem?_getD] using h)
    exact this
theorem heldAtomS (L : List At) (m : Int) (hm : 0 ≤ m ∧ nxtS L m ≤ 100000000000) (h20 : L.length ≤ 1048576) (ha : ∀ a ∈ L, a.1.length ≤ 1048576) : Cn Try.prog 57 [As (markS L m), I m] (I (nxtS L m)) hemp := by
  refine Cn.of [] mixed Try.func57 rfl Try.call57 (by kernel_rfl) rfl ?_
  simp -implicitDefEqProofs -dsimp +contextual [-Bool.exists_bool, -Int.not_le, -Int.not_lt, -getElem?_pos, -List.getD_eq_getElem?_getD, Try.f57]
  refine WP.loop mixed [] (fun i : Nat => ⟨tl [(0, As (markS L m)), (1, I (nxtS (L.take i) m)), (5, I i)], hl [], 1⟩) (fun i => i ≤ L.length) (fun i => L.length - i) 0 (by kernel_rfl) ?_ ?_ ?_
  · refine Le.told [] ?_ ?_ ?_ <;> simp [-Bool.exists_bool, -Int.not_le, -Int.not_lt, -getElem?_pos, -List.getD_eq_getElem?_getD, nxtS]
  · simp [-Bool.exists_bool, -Int.not_le, -Int.not_lt, -getElem?_pos, -List.getD_eq_getElem?_getD]
  · intro i hi
    have hll := markS_len L m
    by_cases h : i < L.length
    · have hM : i < (markS L m).length := by omega
      have hn := markS_nth L m i h
      have hm0 := nxtS_le (L.take i) m
      have hm1 := nxtS_take L m (i + 1)
      rw [nth_take h, nxtS_app] at hm1
      simp only [nxtS] at hm1
      simp -implicitDefEqProofs -dsimp +contextual [-Bool.exists_bool, -Int.not_le, -Int.not_lt, -getElem?_pos, -List.getD_eq_getElem?_getD, h, hll, hM, hn]
      have hwf : (markA (nth L i) (nxtS (L.take i) m)).1 = markI (nth L i).1.length (nxtS (L.take i) m) := rfl
      have hw2 : (markA (nth L i) (nxtS (L.take i) m)).2.1 = nxtS (L.take i) m + (nth L i).1.length := rfl
      have hw3 : (markA (nth L i) (nxtS (L.take i) m)).2.2 = decide ((nxtS (L.take i) m + (nth L i).1.length + 1).tmod 3 = 0) := rfl
      rw [hwf]
      refine CallJ.pure (heldIntS _ _ (by omega) (ha _ (nth_mem h))) rfl (by simp [-Bool.exists_bool, -Int.not_le, -Int.not_lt, -getElem?_pos, -List.getD_eq_getElem?_getD]) ?_
      have w1 : IntKind.wrap .i64 (nxtS (L.take i) m + (nth L i).1.length + 1) = nxtS (L.take i) m + (nth L i).1.length + 1 := wr (by omega) (by omega)
      have h0 : ¬ nxtS (L.take i) m + (nth L i).1.length < 0 := by omega
      simp -implicitDefEqProofs -dsimp +contextual [-Bool.exists_bool, -Int.not_le, -Int.not_lt, -getElem?_pos, -List.getD_eq_getElem?_getD, h, hll, hM, hn, hw2, hw3, w1, h0]
      refine ⟨i + 1, h, by omega, ?_⟩
      rw [wr (by omega) (by omega), wr (by omega) (by omega)]
      refine Le.told [] ?_ ?_ ?_ <;> simp [-Bool.exists_bool, -Int.not_le, -Int.not_lt, -getElem?_pos, -List.getD_eq_getElem?_getD, nth_take h, nxtS_app, nxtS]
      omega
    · simp -implicitDefEqProofs -dsimp +contextual [-Bool.exists_bool, -Int.not_le, -Int.not_lt, -getElem?_pos, -List.getD_eq_getElem?_getD, h, hll]
      obtain rfl : i = L.length := by omega
      exact RLe.pure 1 (by simp [-Bool.exists_bool, -Int.not_le, -Int.not_lt, -getElem?_pos, -List.getD_eq_getElem?_getD])
theorem heldCell (d : Int) (L : List At) (m : Int) (hm : 0 ≤ m ∧ nxtS L m ≤ 100000000000) (h20 : L.length ≤ 1048576) (ha : ∀ a ∈ L, a.1.length ≤ 1048576) : Cn Try.prog 20 [.agg [I d, As (markS L m)], I m] (I (nxtS L m)) hemp := by
  refine Cn.of [] mixed Try.func20 rfl Try.call20 (by kernel_rfl) rfl ?_
  simp -implicitDefEqProofs -dsimp +contextual [-Bool.exists_bool, -Int.not_le, -Int.not_lt, -getElem?_pos, -List.getD_eq_getElem?_getD, Try.f20]
  refine CallJ.pure (heldAtomS L m hm h20 ha) rfl (by simp [-Bool.exists_bool, -Int.not_le, -Int.not_lt, -getElem?_pos, -List.getD_eq_getElem?_getD]) ?_
  have h0 : ¬ nxtS L m < 0 := by have := nxtS_le L m; omega
  simp -implicitDefEqProofs -dsimp +contextual [-Bool.exists_bool, -Int.not_le, -Int.not_lt, -getElem?_pos, -List.getD_eq_getElem?_getD, h0]
  exact RLe.pure 1 (by simp [-Bool.exists_bool, -Int.not_le, -Int.not_lt, -getElem?_pos, -List.getD_eq_getElem?_getD])
end Go.Proofs.Ytkicjflhokckgaa.ZL
namespace Go.Proofs.Ytkicjflhokckgaa.ZL
open Go Go.Proofs.Ytkicjflhokckgaa.Abs Go.Proofs.Ytkicjflhokckgaa.Abs.Pl Go.RowKit Go.Proofs
set_option linter.unusedVariables false
set_option linter.unusedSimpArgs false
theorem DropVariable (d : Int) (v : Int) (L : List At) (h20 : L.length ≤ 1048576) : Cn Try.prog 28 [C1 d L, I v] (D2 (dropD d L v)) hemp := by
  refine Cn.of [] mixed Try.func28 rfl Try.call28 (by kernel_rfl) rfl ?_
  simp -implicitDefEqProofs -dsimp +contextual [-Bool.exists_bool, -Int.not_le, -Int.not_lt, -getElem?_pos, -List.getD_eq_getElem?_getD, Try.f28]
  refine CallJ.pure (IsCell d L h20) rfl (by simp [-Bool.exists_bool, -Int.not_le, -Int.not_lt, -getElem?_pos, -List.getD_eq_getElem?_getD]) ?_
  simp -implicitDefEqProofs -dsimp +contextual [-Bool.exists_bool, -Int.not_le, -Int.not_lt, -getElem?_pos, -List.getD_eq_getElem?_getD]
  have no : ∀ {H : Store}, ¬ (isCe d L = true ∧ 0 ≤ v ∧ v < d) → RLe Try.prog H (V.tup [V.agg [V.d (D.int IntKind.i64 0), V.nil], V.d (D.bool false)]) (D2 (dropD d L v)) hemp := fun h => by
    rw [dropD, if_neg h]
    exact RLe.pure 2 (by simp [-Bool.exists_bool, -Int.not_le, -Int.not_lt, -getElem?_pos, -List.getD_eq_getElem?_getD, asD])
  refine ⟨fun h1 => ?_, fun h1 => no (by simp [-Bool.exists_bool, -Int.not_le, -Int.not_lt, -getElem?_pos, -List.getD_eq_getElem?_getD, h1])⟩
  have hd := isCe_d h1
  have h16 := isCe_l h1
  rw [wr (by omega) (by omega)]
  refine CallJ.pure (l1In v 0 (d - 1)) rfl (by simp [-Bool.exists_bool, -Int.not_le, -Int.not_lt, -getElem?_pos, -List.getD_eq_getElem?_getD]) ?_
  simp -implicitDefEqProofs -dsimp +contextual [-Bool.exists_bool, -Int.not_le, -Int.not_lt, -getElem?_pos, -List.getD_eq_getElem?_getD, h1]
  refine ⟨fun h2 => ?_, fun h2 => no (by simp [-Bool.exists_bool, -Int.not_le, -Int.not_lt, -getElem?_pos, -List.getD_eq_getElem?_getD, inB] at h2; omega)⟩
  have hv : 0 ≤ v ∧ v < d := by simp [-Bool.exists_bool, -Int.not_le, -Int.not_lt, -getElem?_pos, -List.getD_eq_getElem?_getD, inB] at h2; omega
  have ev : ((v.toNat : Nat) : Int) = v := by omega
  have hdr := l3Drop d hd v.toNat L h16 (isCe_a h1) (by omega)
  rw [ev] at hdr
  refine CallJ.pure hdr rfl (by simp [-Bool.exists_bool, -Int.not_le, -Int.not_lt, -getElem?_pos, -List.getD_eq_getElem?_getD]) ?_
  simp -implicitDefEqProofs -dsimp +contextual [-Bool.exists_bool, -Int.not_le, -Int.not_lt, -getElem?_pos, -List.getD_eq_getElem?_getD, h1]
  rw [dropD, if_pos ⟨h1, hv⟩]
  exact RLe.pure 3 (by simp [-Bool.exists_bool, -Int.not_le, -Int.not_lt, -getElem?_pos, -List.getD_eq_getElem?_getD])
attribute [simp] upMark_ne upMark_0
structure Owns (H : Store) (s : Nat) (L : List At) : Prop where
  row : H (s, 0) = some (.row 52 L.length (rA (fun j => (s, j + 1)) 0 L))
  dir : ∀ j, j < L.length → H (s, j + 1) = some (rowA (nth L j))
section
variable {H : Store} {s : Nat} {L : List At}
theorem Owns.call (s : Nat) (L : List At) (H : Store) : Owns (app (upCall s (ownR L)) H) s L := ⟨upOwn_0 s L H, fun j hj => upOwn_j s L H j hj⟩
theorem Owns.mark (s : Nat) (L : List At) (H : Store) : Owns (app (upMark s 0 L) H) s L := ⟨upMark_0 s 0 L, fun j hj => upMark_j s 0 L j hj⟩
theorem Owns.set (h : Owns H s L) {k : Key} {e : Option Ent} (hk : k.1 ≠ s) : Owns (setH k e H) s L := by
  have : ∀ j, ¬ (s, j) = k := fun j hj => hk (by rw [← hj])
  exact ⟨by unfold setH; rw [if_neg (this 0)]; exact h.row, fun j hj => by unfold setH; rw [if_neg (this _)]; exact h.dir j hj⟩
theorem Owns.other (h : Owns H s L) {s' : Nat} {R : List At} (hk : s ≠ s') : Owns (app (upCall s' (ownR R)) H) s L := ⟨by rw [upOwn_ne _ _ _ _ _ hk]; exact h.row, fun j hj => by rw [upOwn_ne _ _ _ _ _ hk]; exact h.dir j hj⟩
theorem Owns.otherM (h : Owns H s L) {s' o : Nat} {R : List At} (hk : s ≠ s') : Owns (app (upMark s' o R) H) s L := ⟨by rw [upMark_ne _ _ _ _ _ hk]; exact h.row, fun j hj => by rw [upMark_ne _ _ _ _ _ hk]; exact h.dir j hj⟩
theorem Owns.lend (h : Owns H s L) (n : Nat) (d : Int) : lendV true H (n + 2) (.agg [I d, .ref (s, 0) L.length]) = some (C1 d L, famK s 0 L.length) := by
  have : lendD true H (n + 2) (.ref (s, 0) L.length) = some (.sl L.length (asD L), famK s 0 L.length) := by
    rw [lendD_ref, h.row]
    simp only [lendR, rA_lend (H := H) (n := n) (f := fun j => (s, j + 1)) L 0 (fun i hi => by rw [Nat.zero_add]; exact h.dir i hi), consK]
    simp [-Bool.exists_bool, -Int.not_le, -Int.not_lt, -getElem?_pos, -List.getD_eq_getElem?_getD, famK]
  simp only [lendV, List.map_cons, List.map_nil, joinO, this, lendD_d]
  simp [-Bool.exists_bool, -Int.not_le, -Int.not_lt, -getElem?_pos, -List.getD_eq_getElem?_getD]
theorem famK_lt {nx n : Nat} (hn : s < nx) : ∀ k ∈ famK s 0 n, k.1 < nx := fun k hk => by
  rcases List.mem_cons.1 hk with rfl | hk
  · exact hn
  · obtain ⟨j, _, rfl⟩ := List.mem_map.1 hk
    exact hn
theorem Owns.eqCell {N nx t : Nat} {K : Eff → Prop} (h : Owns H s L) (d : Int) (h20 : L.length ≤ 1048576) (ha : ∀ a ∈ L, a.1.length ≤ 1048576) (hn : s < nx) (hk : K ⟨B true, famK s 0 L.length, [], noUp⟩) : CallJ Try.prog N nx t H 18 [.agg [I d, .ref (s, 0) L.length], C1 d L] K := by
  refine CallJ.lent (ks := famK s 0 L.length) 2 (Go.Proofs.Ytkicjflhokckgaa.ZL.eqCell (d, L) h20 ha) ?_ (fun k hk => .inl (famK_lt hn k hk)) rfl (by simp [-Bool.exists_bool, -Int.not_le, -Int.not_lt, -getElem?_pos, -List.getD_eq_getElem?_getD]) ?_
  · simp only [lendVs, h.lend 0 d]
    simp [-Bool.exists_bool, -Int.not_le, -Int.not_lt, -getElem?_pos, -List.getD_eq_getElem?_getD, lendV]
  · rw [upCall_emp]; exact hk
theorem Owns.held {N nx t : Nat} {K : Eff → Prop} {M : List At} {m : Int} (h : Owns H s (markS M m)) (d : Int) (hm : 0 ≤ m ∧ nxtS M m ≤ 100000000000) (h20 : M.length ≤ 1048576) (ha : ∀ a ∈ M, a.1.length ≤ 1048576) (hn : s < nx) (hk : K ⟨I (nxtS M m), famK s 0 M.length, [], noUp⟩) :
    CallJ Try.prog N nx t H 20 [.agg [I d, .ref (s, 0) M.length], I m] K := by
  rw [← markS_len M m] at hk ⊢
  refine CallJ.lent (ks := famK s 0 (markS M m).length) 2 (heldCell d M m hm h20 ha) ?_ (fun k hk => .inl (famK_lt hn k hk)) rfl (by simp [-Bool.exists_bool, -Int.not_le, -Int.not_lt, -getElem?_pos, -List.getD_eq_getElem?_getD]) ?_
  · simp only [lendVs, h.lend 0 d]
    simp [-Bool.exists_bool, -Int.not_le, -Int.not_lt, -getElem?_pos, -List.getD_eq_getElem?_getD, lendV]
  · rw [upCall_emp]; exact hk
theorem Owns.marks {N nx t : Nat} {K : Eff → Prop} (h : Owns H s L) (d m : Int) (hm : 0 ≤ m ∧ nxtS L m ≤ 100000000000) (h20 : L.length ≤ 1048576) (ha : ∀ a ∈ L, a.1.length ≤ 1048576) (hn : s < nx) (hs : s ≠ t) (hk : K ⟨I (nxtS L m), famK s 0 L.length, famK s 0 L.length, upMark s 0 (markS L m)⟩) :
    CallJ Try.prog N nx t H 19 [.agg [I d, .ref (s, 0) L.length], I m] K :=
  callMark s 0 L (markS L m) (markS_len L m) (markCell d L m hm h20 ha) (by simp [-Bool.exists_bool, -Int.not_le, -Int.not_lt, -getElem?_pos, -List.getD_eq_getElem?_getD, gk]) (by simp [-Bool.exists_bool, -Int.not_le, -Int.not_lt, -getElem?_pos, -List.getD_eq_getElem?_getD, allKs, allK, mKey]) h.row h.dir hs hn hk
theorem noSh_ownR (R : List At) (k : Key) (e : Ent) (h : ownR R k = some e) : noShE e = true := by
  obtain ⟨a, b⟩ := k
  unfold ownR at h
  simp only at h
  split at h
  · cases b with
    | zero =>
      simp only [Option.some.injEq] at h
      subst h
      simp only [noShE]
      have : ∀ (L : List At) (j : Nat), noShL (rA (fun j => (0, j + 1)) j L) = true := by
        intro L
        induction L with
        | nil => intro j; rfl
        | cons a L ih => intro j; simp [-Bool.exists_bool, -Int.not_le, -Int.not_lt, -getElem?_pos, -List.getD_eq_getElem?_getD, rA, noShL, noSh, noShD, ih]
      exact this R 0
    | succ j =>
      obtain ⟨_, rfl⟩ := ownA_some h
      simp only [rowA, noShE, noShL_all]
      rw [List.all_eq_true]
      intro x hx
      obtain ⟨d, hd, rfl⟩ := List.mem_map.1 hx
      obtain ⟨n, _, rfl⟩ := List.mem_map.1 hd
      rfl
  · exact absurd h (by simp [-Bool.exists_bool, -Int.not_le, -Int.not_lt, -getElem?_pos, -List.getD_eq_getElem?_getD])
end
theorem heldCell0 (d m : Int) (hm : 0 ≤ m ∧ m ≤ 100000000000 := by omega) : Cn Try.prog 20 [C1 d [], I m] (I m) hemp := heldCell d [] m ⟨hm.1, hm.2⟩ (by simp [-Bool.exists_bool, -Int.not_le, -Int.not_lt, -getElem?_pos, -List.getD_eq_getElem?_getD]) (by simp [-Bool.exists_bool, -Int.not_le, -Int.not_lt, -getElem?_pos, -List.getD_eq_getElem?_getD])
theorem markAtom0 (m : Int) : Cn Try.prog 56 [As [], I m] (I m) hemp := by
  refine Cn.of [] mixed Try.func56 rfl Try.call56 (by kernel_rfl) rfl ?_
  simp -implicitDefEqProofs -dsimp +contextual [-Bool.exists_bool, -Int.not_le, -Int.not_lt, -getElem?_pos, -List.getD_eq_getElem?_getD, Try.f56]
  refine WP.loop mixed [] (fun i : Nat => ⟨tl [(0, As []), (1, I m), (5, I 0)], hl [], 1⟩) (fun i => i ≤ 0) (fun i => 0 - i) 0 (by kernel_rfl) ?_ ?_ ?_
  · refine Le.told [] ?_ ?_ ?_ <;> simp [-Bool.exists_bool, -Int.not_le, -Int.not_lt, -getElem?_pos, -List.getD_eq_getElem?_getD]
  · simp [-Bool.exists_bool, -Int.not_le, -Int.not_lt, -getElem?_pos, -List.getD_eq_getElem?_getD]
  · intro i hi
    simp -implicitDefEqProofs -dsimp +contextual [-Bool.exists_bool, -Int.not_le, -Int.not_lt, -getElem?_pos, -List.getD_eq_getElem?_getD, asD]
    exact RLe.pure 1 (by simp [-Bool.exists_bool, -Int.not_le, -Int.not_lt, -getElem?_pos, -List.getD_eq_getElem?_getD])
theorem markCell0 (d m : Int) : Cn Try.prog 19 [C1 d [], I m] (I m) hemp := by
  refine Cn.of [] mixed Try.func19 rfl Try.call19 (by kernel_rfl) rfl ?_
  simp -implicitDefEqProofs -dsimp +contextual [-Bool.exists_bool, -Int.not_le, -Int.not_lt, -getElem?_pos, -List.getD_eq_getElem?_getD, Try.f19]
  refine CallJ.pure (markAtom0 m) rfl (by simp [-Bool.exists_bool, -Int.not_le, -Int.not_lt, -getElem?_pos, -List.getD_eq_getElem?_getD]) ?_
  simp -implicitDefEqProofs -dsimp +contextual [-Bool.exists_bool, -Int.not_le, -Int.not_lt, -getElem?_pos, -List.getD_eq_getElem?_getD]
  exact RLe.pure 1 (by simp [-Bool.exists_bool, -Int.not_le, -Int.not_lt, -getElem?_pos, -List.getD_eq_getElem?_getD])
structure Small (L : List At) : Prop where
  len : L.length ≤ 1048576
  dir : ∀ a ∈ L, a.1.length ≤ 1048576
  nxt : nxtS L 1 ≤ 100000000000
theorem nxtS_w : ∀ (L : List At) (m : Int), nxtS L m ≤ m + 2 * wAs L
  | [], m => by simp [-Bool.exists_bool, -Int.not_le, -Int.not_lt, -getElem?_pos, -List.getD_eq_getElem?_getD, nxtS, wAs, wS]
  | a :: L, m => by
    have := nxtS_w L (m + a.1.length + 2)
    simp only [nxtS, wAs, wS, wA, List.length_cons] at this ⊢
    omega
theorem nxtS_bd (B : Nat) : ∀ (L : List At) (m : Int), (∀ a ∈ L, a.1.length ≤ B) → nxtS L m ≤ m + L.length * (B + 2)
  | [], m, _ => by simp [-Bool.exists_bool, -Int.not_le, -Int.not_lt, -getElem?_pos, -List.getD_eq_getElem?_getD, nxtS]
  | a :: L, m, h => by
    have ih := nxtS_bd B L (m + a.1.length + 2) fun x hx => h x (List.mem_cons_of_mem _ hx)
    have h0 := h a List.mem_cons_self
    have e : ((a :: L).length : Int) * (B + 2) = L.length * (B + 2) + (B + 2) := by
      rw [List.length_cons, Int.natCast_add, Int.add_mul]; simp [-Bool.exists_bool, -Int.not_le, -Int.not_lt, -getElem?_pos, -List.getD_eq_getElem?_getD]
    simp only [nxtS]
    rw [e]
    omega
theorem Small.input {L : List At} (h : wAs L ≤ 1048576) : Small L := ⟨(wAs_small h).1, (wAs_small h).2, by have := nxtS_w L 1; omega⟩
theorem Small.ok {d : Int} {L : List At} (h16 : L.length ≤ 16) (h : allOk d L) : Small L := ⟨by omega, fun a ha => okA_small (h a ha), by
  have h4 : ∀ a ∈ L, a.1.length ≤ 4 := fun a ha => (okA_num (h a ha)).2.2
  have := nxtS_bd 4 L 1 h4
  have h5 : (L.length : Int) * (4 + 2) ≤ 96 := by omega
  simp [-Bool.exists_bool, -Int.not_le, -Int.not_lt, -getElem?_pos, -List.getD_eq_getElem?_getD] at this
  omega⟩
theorem Small.nil : Small [] := ⟨by simp [-Bool.exists_bool, -Int.not_le, -Int.not_lt, -getElem?_pos, -List.getD_eq_getElem?_getD], by simp [-Bool.exists_bool, -Int.not_le, -Int.not_lt, -getElem?_pos, -List.getD_eq_getElem?_getD], by simp [-Bool.exists_bool, -Int.not_le, -Int.not_lt, -getElem?_pos, -List.getD_eq_getElem?_getD, nxtS]⟩
theorem dropD_small (d v : Int) (L : List At) : Small (dropD d L v).2.1 := by
  unfold dropD
  split
  · rename_i h
    by_cases hr : (dropC d v.toNat L).2.2 = true
    · have hd := isCe_d h.1
      have := dropC_ok hd v.toNat (isCe_l h.1) (isCe_a h.1) hr
      exact Small.ok this.2.1 this.2.2
    · rw [dropC_f hr]; exact Small.nil
  · exact Small.nil
theorem lawDropVariable (c : Ce) (v : Int) (hc : wfC c) (_ : (Lit.int .i64 v).wf = true) : Cn Try.prog 7 [.agg (cV c), I v] (B true) hemp := by
  refine Cn.of [] mixed Try.func7 rfl Try.call7 (by kernel_rfl) rfl ?_
  simp -implicitDefEqProofs -dsimp +contextual [-Bool.exists_bool, -Int.not_le, -Int.not_lt, -getElem?_pos, -List.getD_eq_getElem?_getD, Try.f7]
  refine CallJ.pure (szCell c 1048576 ok20 hc) rfl (by simp [-Bool.exists_bool, -Int.not_le, -Int.not_lt, -getElem?_pos, -List.getD_eq_getElem?_getD]) ?_
  simp -implicitDefEqProofs -dsimp +contextual [-Bool.exists_bool, -Int.not_le, -Int.not_lt, -getElem?_pos, -List.getD_eq_getElem?_getD]
  refine ⟨fun _ => RLe.bb rfl, fun h => ?_⟩
  obtain ⟨w1, hk⟩ := lft_2 ok20 h
  obtain ⟨hc1, hc2⟩ := wAs_small w1
  refine CallJ.pure (toCellW c hc1 hc2) rfl (by simp [-Bool.exists_bool, -Int.not_le, -Int.not_lt, -getElem?_pos, -List.getD_eq_getElem?_getD]) ?_
  simp -implicitDefEqProofs -dsimp +contextual [-Bool.exists_bool, -Int.not_le, -Int.not_lt, -getElem?_pos, -List.getD_eq_getElem?_getD, h]
  refine CallJ.pure (DropVariable c.1 v c.2 hc1) rfl (by simp [-Bool.exists_bool, -Int.not_le, -Int.not_lt, -getElem?_pos, -List.getD_eq_getElem?_getD]) ?_
  simp -implicitDefEqProofs -dsimp +contextual [-Bool.exists_bool, -Int.not_le, -Int.not_lt, -getElem?_pos, -List.getD_eq_getElem?_getD, h]
  refine CallJ.pure (toCell c hc1 hc2) rfl (by simp [-Bool.exists_bool, -Int.not_le, -Int.not_lt, -getElem?_pos, -List.getD_eq_getElem?_getD]) ?_
  simp -implicitDefEqProofs -dsimp +contextual [-Bool.exists_bool, -Int.not_le, -Int.not_lt, -getElem?_pos, -List.getD_eq_getElem?_getD, h]
  have hL := iDropVariable c.1 v c.2 hc1
  have hO : Owns _ 20 c.2 := ((Owns.call 20 c.2 (setH (16, 0) (some (Ent.box [V.d (D.int IntKind.i64 (dropD c.1 c.2 v).1), V.d (D.sl (dropD c.1 c.2 v).2.1.length (asD (dropD c.1 c.2 v).2.1))])) (setH (16, 0) (some (Ent.box [V.d (D.int IntKind.i64 0), V.nil]))
              (setH (0, 0) (some (Ent.box (cV c))) hemp)))).set (k := (21, 0)) (e := some (Ent.box [V.d (D.int IntKind.i64 0), V.nil])) (by simp [-Bool.exists_bool, -Int.not_le, -Int.not_lt, -getElem?_pos, -List.getD_eq_getElem?_getD])).set (k := (21, 0)) (e := some (Ent.box [V.d (D.int IntKind.i64 c.1), V.ref (20, 0) c.2.length])) (by simp [-Bool.exists_bool, -Int.not_le, -Int.not_lt, -getElem?_pos, -List.getD_eq_getElem?_getD])
  have hI := Small.input w1
  have hR := dropD_small c.1 v c.2
  have hW := iDropW c.1 v c.2 hc1
  have hr0 := dropD_f (d := c.1) (L := c.2) (v := v)
  generalize dropD c.1 c.2 v = r at *
  have p1 := nxtS_le r.2.1 1
  have p2 := nxtS_le c.2 1
  have q1 : ¬ nxtS r.2.1 1 < 0 := by omega
  have q2 : ¬ nxtS c.2 1 < 0 := by omega
  by_cases hr : r.2.2 = true
  · rw [oV_t hr, oH_t hr] at hL
    refine CallJ.lent (ks := famK 20 0 c.2.length) 2 hL (by simp only [lendVs, hO.lend 0 c.1]; simp [-Bool.exists_bool, -Int.not_le, -Int.not_lt, -getElem?_pos, -List.getD_eq_getElem?_getD, lendV]) (fun k hk => .inl (famK_lt (by omega) k hk)) (by simp [-Bool.exists_bool, -Int.not_le, -Int.not_lt, -getElem?_pos, -List.getD_eq_getElem?_getD, noSh, noShL, noShD]) (fun k e h => noSh_ownR _ k e h) ?_
    simp -implicitDefEqProofs -dsimp +contextual [-Bool.exists_bool, -Int.not_le, -Int.not_lt, -getElem?_pos, -List.getD_eq_getElem?_getD, h, hr]
    refine Owns.eqCell (s := 25) (L := r.2.1) ?_ r.1 hR.len hR.dir ?_ ?_
    · repeat first | exact Owns.mark _ _ _ | exact Owns.call _ _ _ | refine Owns.set ?_ (by simp [-Bool.exists_bool, -Int.not_le, -Int.not_lt, -getElem?_pos, -List.getD_eq_getElem?_getD]) | refine Owns.other ?_ (by simp [-Bool.exists_bool, -Int.not_le, -Int.not_lt, -getElem?_pos, -List.getD_eq_getElem?_getD]) | refine Owns.otherM ?_ (by simp [-Bool.exists_bool, -Int.not_le, -Int.not_lt, -getElem?_pos, -List.getD_eq_getElem?_getD])
    · omega
    simp -implicitDefEqProofs -dsimp +contextual [-Bool.exists_bool, -Int.not_le, -Int.not_lt, -getElem?_pos, -List.getD_eq_getElem?_getD, h, hr]
    refine CallJ.pure (toCellW c hc1 hc2) rfl (by simp [-Bool.exists_bool, -Int.not_le, -Int.not_lt, -getElem?_pos, -List.getD_eq_getElem?_getD]) ?_
    simp -implicitDefEqProofs -dsimp +contextual [-Bool.exists_bool, -Int.not_le, -Int.not_lt, -getElem?_pos, -List.getD_eq_getElem?_getD, h, hr]
    refine Owns.eqCell (s := 20) (L := c.2) ?_ c.1 hc1 hc2 ?_ ?_
    · repeat first | exact Owns.mark _ _ _ | exact Owns.call _ _ _ | refine Owns.set ?_ (by simp [-Bool.exists_bool, -Int.not_le, -Int.not_lt, -getElem?_pos, -List.getD_eq_getElem?_getD]) | refine Owns.other ?_ (by simp [-Bool.exists_bool, -Int.not_le, -Int.not_lt, -getElem?_pos, -List.getD_eq_getElem?_getD]) | refine Owns.otherM ?_ (by simp [-Bool.exists_bool, -Int.not_le, -Int.not_lt, -getElem?_pos, -List.getD_eq_getElem?_getD])
    · omega
    simp -implicitDefEqProofs -dsimp +contextual [-Bool.exists_bool, -Int.not_le, -Int.not_lt, -getElem?_pos, -List.getD_eq_getElem?_getD, h, hr]
    refine Owns.marks (s := 20) (L := c.2) ?_ c.1 1 ⟨by omega, hI.nxt⟩ hc1 hc2 ?_ ?_ ?_
    · repeat first | exact Owns.mark _ _ _ | exact Owns.call _ _ _ | refine Owns.set ?_ (by simp [-Bool.exists_bool, -Int.not_le, -Int.not_lt, -getElem?_pos, -List.getD_eq_getElem?_getD]) | refine Owns.other ?_ (by simp [-Bool.exists_bool, -Int.not_le, -Int.not_lt, -getElem?_pos, -List.getD_eq_getElem?_getD]) | refine Owns.otherM ?_ (by simp [-Bool.exists_bool, -Int.not_le, -Int.not_lt, -getElem?_pos, -List.getD_eq_getElem?_getD])
    · omega
    · omega
    simp -implicitDefEqProofs -dsimp +contextual [-Bool.exists_bool, -Int.not_le, -Int.not_lt, -getElem?_pos, -List.getD_eq_getElem?_getD, h, hr, q2]
    refine Owns.eqCell (s := 25) (L := r.2.1) ?_ r.1 hR.len hR.dir ?_ ?_
    · repeat first | exact Owns.mark _ _ _ | exact Owns.call _ _ _ | refine Owns.set ?_ (by simp [-Bool.exists_bool, -Int.not_le, -Int.not_lt, -getElem?_pos, -List.getD_eq_getElem?_getD]) | refine Owns.other ?_ (by simp [-Bool.exists_bool, -Int.not_le, -Int.not_lt, -getElem?_pos, -List.getD_eq_getElem?_getD]) | refine Owns.otherM ?_ (by simp [-Bool.exists_bool, -Int.not_le, -Int.not_lt, -getElem?_pos, -List.getD_eq_getElem?_getD])
    · omega
    simp -implicitDefEqProofs -dsimp +contextual [-Bool.exists_bool, -Int.not_le, -Int.not_lt, -getElem?_pos, -List.getD_eq_getElem?_getD, h, hr, q2]
    refine Owns.marks (s := 25) (L := r.2.1) ?_ r.1 1 ⟨by omega, hR.nxt⟩ hR.len hR.dir ?_ ?_ ?_
    · repeat first | exact Owns.mark _ _ _ | exact Owns.call _ _ _ | refine Owns.set ?_ (by simp [-Bool.exists_bool, -Int.not_le, -Int.not_lt, -getElem?_pos, -List.getD_eq_getElem?_getD]) | refine Owns.other ?_ (by simp [-Bool.exists_bool, -Int.not_le, -Int.not_lt, -getElem?_pos, -List.getD_eq_getElem?_getD]) | refine Owns.otherM ?_ (by simp [-Bool.exists_bool, -Int.not_le, -Int.not_lt, -getElem?_pos, -List.getD_eq_getElem?_getD])
    · omega
    · omega
    simp -implicitDefEqProofs -dsimp +contextual [-Bool.exists_bool, -Int.not_le, -Int.not_lt, -getElem?_pos, -List.getD_eq_getElem?_getD, h, hr, q1, q2]
    refine Owns.held (s := 25) (M := r.2.1) ?_ r.1 ⟨by omega, hR.nxt⟩ hR.len hR.dir ?_ ?_
    · repeat first | exact Owns.mark _ _ _ | exact Owns.call _ _ _ | refine Owns.set ?_ (by simp [-Bool.exists_bool, -Int.not_le, -Int.not_lt, -getElem?_pos, -List.getD_eq_getElem?_getD]) | refine Owns.other ?_ (by simp [-Bool.exists_bool, -Int.not_le, -Int.not_lt, -getElem?_pos, -List.getD_eq_getElem?_getD]) | refine Owns.otherM ?_ (by simp [-Bool.exists_bool, -Int.not_le, -Int.not_lt, -getElem?_pos, -List.getD_eq_getElem?_getD])
    · omega
    simp -implicitDefEqProofs -dsimp +contextual [-Bool.exists_bool, -Int.not_le, -Int.not_lt, -getElem?_pos, -List.getD_eq_getElem?_getD, h, hr, q1, q2]
    refine CallJ.pure (toCellW c hc1 hc2) rfl (by simp [-Bool.exists_bool, -Int.not_le, -Int.not_lt, -getElem?_pos, -List.getD_eq_getElem?_getD]) ?_
    simp -implicitDefEqProofs -dsimp +contextual [-Bool.exists_bool, -Int.not_le, -Int.not_lt, -getElem?_pos, -List.getD_eq_getElem?_getD, h, hr, q1, q2]
    refine CallJ.pure hW rfl (by simp [-Bool.exists_bool, -Int.not_le, -Int.not_lt, -getElem?_pos, -List.getD_eq_getElem?_getD]) ?_
    simp -implicitDefEqProofs -dsimp +contextual [-Bool.exists_bool, -Int.not_le, -Int.not_lt, -getElem?_pos, -List.getD_eq_getElem?_getD, h, hr, q1, q2]
    refine CallJ.pure (eqCell (r.1, r.2.1) hR.len hR.dir) rfl (by simp [-Bool.exists_bool, -Int.not_le, -Int.not_lt, -getElem?_pos, -List.getD_eq_getElem?_getD]) ?_
    simp -implicitDefEqProofs -dsimp +contextual [-Bool.exists_bool, -Int.not_le, -Int.not_lt, -getElem?_pos, -List.getD_eq_getElem?_getD, h, hr, q1, q2]
    refine Owns.held (s := 25) (M := r.2.1) ?_ r.1 ⟨by omega, hR.nxt⟩ hR.len hR.dir ?_ ?_
    · repeat first | exact Owns.mark _ _ _ | exact Owns.call _ _ _ | refine Owns.set ?_ (by simp [-Bool.exists_bool, -Int.not_le, -Int.not_lt, -getElem?_pos, -List.getD_eq_getElem?_getD]) | refine Owns.other ?_ (by simp [-Bool.exists_bool, -Int.not_le, -Int.not_lt, -getElem?_pos, -List.getD_eq_getElem?_getD]) | refine Owns.otherM ?_ (by simp [-Bool.exists_bool, -Int.not_le, -Int.not_lt, -getElem?_pos, -List.getD_eq_getElem?_getD])
    · omega
    simp -implicitDefEqProofs -dsimp +contextual [-Bool.exists_bool, -Int.not_le, -Int.not_lt, -getElem?_pos, -List.getD_eq_getElem?_getD, h, hr, q1, q2]
    exact RLe.bb rfl
  · rw [oV_f hr, oH_f hr] at hL
    obtain rfl := hr0 hr
    refine CallJ.lent (ks := famK 20 0 c.2.length) 2 hL (by simp only [lendVs, hO.lend 0 c.1]; simp [-Bool.exists_bool, -Int.not_le, -Int.not_lt, -getElem?_pos, -List.getD_eq_getElem?_getD, lendV]) (fun k hk => .inl (famK_lt (by omega) k hk)) rfl (by simp [-Bool.exists_bool, -Int.not_le, -Int.not_lt, -getElem?_pos, -List.getD_eq_getElem?_getD]) ?_
    simp -implicitDefEqProofs -dsimp +contextual [-Bool.exists_bool, -Int.not_le, -Int.not_lt, -getElem?_pos, -List.getD_eq_getElem?_getD, h, q2]
    refine CallJ.pure (ks := []) (eqCell (0, []) (by simp [-Bool.exists_bool, -Int.not_le, -Int.not_lt, -getElem?_pos, -List.getD_eq_getElem?_getD]) (by simp [-Bool.exists_bool, -Int.not_le, -Int.not_lt, -getElem?_pos, -List.getD_eq_getElem?_getD])) (by simp [-Bool.exists_bool, -Int.not_le, -Int.not_lt, -getElem?_pos, -List.getD_eq_getElem?_getD, asD]) (by simp [-Bool.exists_bool, -Int.not_le, -Int.not_lt, -getElem?_pos, -List.getD_eq_getElem?_getD]) ?_
    simp -implicitDefEqProofs -dsimp +contextual [-Bool.exists_bool, -Int.not_le, -Int.not_lt, -getElem?_pos, -List.getD_eq_getElem?_getD, h, q2]
    refine CallJ.pure (toCellW c hc1 hc2) rfl (by simp [-Bool.exists_bool, -Int.not_le, -Int.not_lt, -getElem?_pos, -List.getD_eq_getElem?_getD]) ?_
    simp -implicitDefEqProofs -dsimp +contextual [-Bool.exists_bool, -Int.not_le, -Int.not_lt, -getElem?_pos, -List.getD_eq_getElem?_getD, h, q2]
    refine Owns.eqCell (s := 20) (L := c.2) ?_ c.1 hc1 hc2 ?_ ?_
    · repeat first | exact Owns.mark _ _ _ | exact Owns.call _ _ _ | refine Owns.set ?_ (by simp [-Bool.exists_bool, -Int.not_le, -Int.not_lt, -getElem?_pos, -List.getD_eq_getElem?_getD]) | refine Owns.other ?_ (by simp [-Bool.exists_bool, -Int.not_le, -Int.not_lt, -getElem?_pos, -List.getD_eq_getElem?_getD]) | refine Owns.otherM ?_ (by simp [-Bool.exists_bool, -Int.not_le, -Int.not_lt, -getElem?_pos, -List.getD_eq_getElem?_getD])
    · omega
    simp -implicitDefEqProofs -dsimp +contextual [-Bool.exists_bool, -Int.not_le, -Int.not_lt, -getElem?_pos, -List.getD_eq_getElem?_getD, h, q2]
    refine Owns.marks (s := 20) (L := c.2) ?_ c.1 1 ⟨by omega, hI.nxt⟩ hc1 hc2 ?_ ?_ ?_
    · repeat first | exact Owns.mark _ _ _ | exact Owns.call _ _ _ | refine Owns.set ?_ (by simp [-Bool.exists_bool, -Int.not_le, -Int.not_lt, -getElem?_pos, -List.getD_eq_getElem?_getD]) | refine Owns.other ?_ (by simp [-Bool.exists_bool, -Int.not_le, -Int.not_lt, -getElem?_pos, -List.getD_eq_getElem?_getD]) | refine Owns.otherM ?_ (by simp [-Bool.exists_bool, -Int.not_le, -Int.not_lt, -getElem?_pos, -List.getD_eq_getElem?_getD])
    · omega
    · omega
    simp -implicitDefEqProofs -dsimp +contextual [-Bool.exists_bool, -Int.not_le, -Int.not_lt, -getElem?_pos, -List.getD_eq_getElem?_getD, h, q2]
    refine CallJ.pure (ks := []) (eqCell (0, []) (by simp [-Bool.exists_bool, -Int.not_le, -Int.not_lt, -getElem?_pos, -List.getD_eq_getElem?_getD]) (by simp [-Bool.exists_bool, -Int.not_le, -Int.not_lt, -getElem?_pos, -List.getD_eq_getElem?_getD])) (by simp [-Bool.exists_bool, -Int.not_le, -Int.not_lt, -getElem?_pos, -List.getD_eq_getElem?_getD, asD]) (by simp [-Bool.exists_bool, -Int.not_le, -Int.not_lt, -getElem?_pos, -List.getD_eq_getElem?_getD]) ?_
    simp -implicitDefEqProofs -dsimp +contextual [-Bool.exists_bool, -Int.not_le, -Int.not_lt, -getElem?_pos, -List.getD_eq_getElem?_getD, h, q2]
    refine CallJ.pure (ks := []) (markCell0 0 1) (by simp [-Bool.exists_bool, -Int.not_le, -Int.not_lt, -getElem?_pos, -List.getD_eq_getElem?_getD, asD]) (by simp [-Bool.exists_bool, -Int.not_le, -Int.not_lt, -getElem?_pos, -List.getD_eq_getElem?_getD]) ?_
    simp -implicitDefEqProofs -dsimp +contextual [-Bool.exists_bool, -Int.not_le, -Int.not_lt, -getElem?_pos, -List.getD_eq_getElem?_getD, h, q2]
    refine CallJ.pure (ks := []) (heldCell0 0 1) (by simp [-Bool.exists_bool, -Int.not_le, -Int.not_lt, -getElem?_pos, -List.getD_eq_getElem?_getD, asD]) (by simp [-Bool.exists_bool, -Int.not_le, -Int.not_lt, -getElem?_pos, -List.getD_eq_getElem?_getD]) ?_
    simp -implicitDefEqProofs -dsimp +contextual [-Bool.exists_bool, -Int.not_le, -Int.not_lt, -getElem?_pos, -List.getD_eq_getElem?_getD, h, q2]
    refine CallJ.pure (toCellW c hc1 hc2) rfl (by simp [-Bool.exists_bool, -Int.not_le, -Int.not_lt, -getElem?_pos, -List.getD_eq_getElem?_getD]) ?_
    simp -implicitDefEqProofs -dsimp +contextual [-Bool.exists_bool, -Int.not_le, -Int.not_lt, -getElem?_pos, -List.getD_eq_getElem?_getD, h, q2]
    refine CallJ.pure hW rfl (by simp [-Bool.exists_bool, -Int.not_le, -Int.not_lt, -getElem?_pos, -List.getD_eq_getElem?_getD]) ?_
    simp -implicitDefEqProofs -dsimp +contextual [-Bool.exists_bool, -Int.not_le, -Int.not_lt, -getElem?_pos, -List.getD_eq_getElem?_getD, h, q2]
    refine CallJ.pure (ks := []) (eqCell (0, []) (by simp [-Bool.exists_bool, -Int.not_le, -Int.not_lt, -getElem?_pos, -List.getD_eq_getElem?_getD]) (by simp [-Bool.exists_bool, -Int.not_le, -Int.not_lt, -getElem?_pos, -List.getD_eq_getElem?_getD])) (by simp [-Bool.exists_bool, -Int.not_le, -Int.not_lt, -getElem?_pos, -List.getD_eq_getElem?_getD, asD]) (by simp [-Bool.exists_bool, -Int.not_le, -Int.not_lt, -getElem?_pos, -List.getD_eq_getElem?_getD]) ?_
    simp -implicitDefEqProofs -dsimp +contextual [-Bool.exists_bool, -Int.not_le, -Int.not_lt, -getElem?_pos, -List.getD_eq_getElem?_getD, h, q2]
    refine CallJ.pure (ks := []) (heldCell0 0 1) (by simp [-Bool.exists_bool, -Int.not_le, -Int.not_lt, -getElem?_pos, -List.getD_eq_getElem?_getD, asD]) (by simp [-Bool.exists_bool, -Int.not_le, -Int.not_lt, -getElem?_pos, -List.getD_eq_getElem?_getD]) ?_
    simp -implicitDefEqProofs -dsimp +contextual [-Bool.exists_bool, -Int.not_le, -Int.not_lt, -getElem?_pos, -List.getD_eq_getElem?_getD, h, q2]
    exact RLe.bb rfl
end Go.Proofs.Ytkicjflhokckgaa.ZL
namespace Go.Proofs.Ytkicjflhokckgaa.ZL
open Go Go.Proofs.Ytkicjflhokckgaa.Abs Go.Proofs.Ytkicjflhokckgaa.Abs.Pl Go.RowKit Go.Proofs
set_option linter.unusedVariables false
set_option linter.unusedSimpArgs false
def normD (d : Int) (L : List At) : Int × List At × Bool := if isCe d L = true then (d, nrm d L, true) else (0, [], false)
theorem normD_f {d : Int} {L : List At} (h : ¬ (normD d L).2.2 = true) : normD d L = (0, [], false) := by
  unfold normD at h ⊢
  split
  · rename_i h2; rw [if_pos h2] at h; exact absurd rfl h
  · rfl
theorem normD_small (d : Int) (L : List At) : Small (normD d L).2.1 := by
  unfold normD
  split
  · rename_i h; exact Small.ok (nrm_16 d L (isCe_l h)) (nrm_okL (isCe_d h) (isCe_a h))
  · exact Small.nil
theorem NormalCell (d : Int) (L : List At) (h20 : L.length ≤ 1048576) : Cn Try.prog 15 [C1 d L] (D2 (normD d L)) hemp := by
  refine Cn.of [] mixed Try.func15 rfl Try.call15 (by kernel_rfl) rfl ?_
  simp -implicitDefEqProofs -dsimp +contextual [-Bool.exists_bool, -Int.not_le, -Int.not_lt, -getElem?_pos, -List.getD_eq_getElem?_getD, Try.f15]
  refine CallJ.pure (IsCell d L h20) rfl (by simp [-Bool.exists_bool, -Int.not_le, -Int.not_lt, -getElem?_pos, -List.getD_eq_getElem?_getD]) ?_
  simp -implicitDefEqProofs -dsimp +contextual [-Bool.exists_bool, -Int.not_le, -Int.not_lt, -getElem?_pos, -List.getD_eq_getElem?_getD]
  refine ⟨fun h1 => ?_, fun h1 => ?_⟩
  · have hd := isCe_d h1
    have h16 := isCe_l h1
    refine CallJ.pure (l3Normal d hd L (by omega) (isCe_a h1)) rfl (by simp [-Bool.exists_bool, -Int.not_le, -Int.not_lt, -getElem?_pos, -List.getD_eq_getElem?_getD]) ?_
    simp -implicitDefEqProofs -dsimp +contextual [-Bool.exists_bool, -Int.not_le, -Int.not_lt, -getElem?_pos, -List.getD_eq_getElem?_getD, h1]
    rw [normD, if_pos h1]
    exact RLe.pure 3 (by simp [-Bool.exists_bool, -Int.not_le, -Int.not_lt, -getElem?_pos, -List.getD_eq_getElem?_getD])
  · rw [normD, if_neg (by simp [-Bool.exists_bool, -Int.not_le, -Int.not_lt, -getElem?_pos, -List.getD_eq_getElem?_getD, h1])]
    exact RLe.pure 2 (by simp [-Bool.exists_bool, -Int.not_le, -Int.not_lt, -getElem?_pos, -List.getD_eq_getElem?_getD, asD])
theorem iNormalCell (d : Int) (L : List At) (h20 : L.length ≤ 1048576) : Cn Try.prog 17 [C1 d L] (oV (normD d L)) (oH (normD d L)) := by
  refine Cn.of [] mixed Try.func17 rfl Try.call17 (by kernel_rfl) rfl ?_
  simp -implicitDefEqProofs -dsimp +contextual [-Bool.exists_bool, -Int.not_le, -Int.not_lt, -getElem?_pos, -List.getD_eq_getElem?_getD, Try.f17]
  refine CallJ.pure (iIsCell d L h20) rfl (by simp [-Bool.exists_bool, -Int.not_le, -Int.not_lt, -getElem?_pos, -List.getD_eq_getElem?_getD]) ?_
  simp -implicitDefEqProofs -dsimp +contextual [-Bool.exists_bool, -Int.not_le, -Int.not_lt, -getElem?_pos, -List.getD_eq_getElem?_getD]
  refine ⟨fun h1 => ?_, fun h1 => ?_⟩
  · have hd := isCe_d h1
    have h16 := isCe_l h1
    refine CallJ.pure (iNormalOf d hd L (by omega) (isCe_a h1)) rfl (by simp [-Bool.exists_bool, -Int.not_le, -Int.not_lt, -getElem?_pos, -List.getD_eq_getElem?_getD]) ?_
    simp -implicitDefEqProofs -dsimp +contextual [-Bool.exists_bool, -Int.not_le, -Int.not_lt, -getElem?_pos, -List.getD_eq_getElem?_getD, h1]
    rw [normD, if_pos h1, oV_t rfl, oH_t rfl]
    refine RLe.pass 10 _ ?_ ?_ ?_
    · simp [-Bool.exists_bool, -Int.not_le, -Int.not_lt, -getElem?_pos, -List.getD_eq_getElem?_getD, invO]
    · simp [-Bool.exists_bool, -Int.not_le, -Int.not_lt, -getElem?_pos, -List.getD_eq_getElem?_getD, setH, upOwn_0]
    · intro j hj; simp [-Bool.exists_bool, -Int.not_le, -Int.not_lt, -getElem?_pos, -List.getD_eq_getElem?_getD, setH, upOwn_j _ _ _ _ hj]
  · rw [normD, if_neg (by simp [-Bool.exists_bool, -Int.not_le, -Int.not_lt, -getElem?_pos, -List.getD_eq_getElem?_getD, h1]), oV_f (by simp [-Bool.exists_bool, -Int.not_le, -Int.not_lt, -getElem?_pos, -List.getD_eq_getElem?_getD]), oH_f (by simp [-Bool.exists_bool, -Int.not_le, -Int.not_lt, -getElem?_pos, -List.getD_eq_getElem?_getD])]
    exact RLe.emp (by simp [-Bool.exists_bool, -Int.not_le, -Int.not_lt, -getElem?_pos, -List.getD_eq_getElem?_getD])
theorem iNormalCellW (d : Int) (L : List At) (h20 : L.length ≤ 1048576) : Cn Try.prog 17 [C1 d L] (D2 (normD d L)) hemp := Cn.weak normD_f (iNormalCell d L h20)
theorem lends1 {H : Store} {s1 : Nat} {c1 : Ce} (h1 : Owns H s1 c1.2) : lendVs true H 2 [.agg [I c1.1, .ref (s1, 0) c1.2.length]] = some ([.agg (cV c1)], famK s1 0 c1.2.length) := by
  simp only [lendVs, h1.lend 0 c1.1]; simp [-Bool.exists_bool, -Int.not_le, -Int.not_lt, -getElem?_pos, -List.getD_eq_getElem?_getD]
theorem lends2 {H : Store} {s1 s2 : Nat} {c1 c2 : Ce} (h1 : Owns H s1 c1.2) (h2 : Owns H s2 c2.2) : lendVs true H 2 [.agg [I c1.1, .ref (s1, 0) c1.2.length], .agg [I c2.1, .ref (s2, 0) c2.2.length]] = some ([.agg (cV c1), .agg (cV c2)], famK s1 0 c1.2.length ++ famK s2 0 c2.2.length) := by
  simp only [lendVs, h1.lend 0 c1.1, h2.lend 0 c2.1]; simp [-Bool.exists_bool, -Int.not_le, -Int.not_lt, -getElem?_pos, -List.getD_eq_getElem?_getD]
theorem lends1i {H : Store} {s1 : Nat} {c1 : Ce} {v : Int} (h1 : Owns H s1 c1.2) : lendVs true H 2 [.agg [I c1.1, .ref (s1, 0) c1.2.length], I v] = some ([.agg (cV c1), I v], famK s1 0 c1.2.length) := by
  simp only [lendVs, h1.lend 0 c1.1]; simp [-Bool.exists_bool, -Int.not_le, -Int.not_lt, -getElem?_pos, -List.getD_eq_getElem?_getD, lendV]
end Go.Proofs.Ytkicjflhokckgaa.ZL
namespace Go.Proofs.Ytkicjflhokckgaa.ZL
open Go Go.Proofs.Ytkicjflhokckgaa.Abs Go.Proofs.Ytkicjflhokckgaa.Abs.Pl Go.RowKit Go.Proofs
set_option linter.unusedVariables false
set_option linter.unusedSimpArgs false
abbrev Ra (n d : Int) : V := .agg [I n, I d]
theorem isNum_63 {x : Int} (h : isNum x = true) : bd63 x := by have := isNum_iff.1 h; constructor <;> omega
theorem iGcdOf (a b : Int) : Cn Try.prog 107 [I a, I b] (I (gcdOf a b)) hemp := by
  refine Cn.of [] mixed Try.func107 rfl Try.call107 (by kernel_rfl) rfl ?_
  simp -implicitDefEqProofs -dsimp +contextual [-Bool.exists_bool, -Int.not_le, -Int.not_lt, -getElem?_pos, -List.getD_eq_getElem?_getD, Try.f107]
  refine CallJ.pure (iIsNumber a) rfl (by simp [-Bool.exists_bool, -Int.not_le, -Int.not_lt, -getElem?_pos, -List.getD_eq_getElem?_getD]) ?_
  simp -implicitDefEqProofs -dsimp +contextual [-Bool.exists_bool, -Int.not_le, -Int.not_lt, -getElem?_pos, -List.getD_eq_getElem?_getD]
  refine ⟨fun h1 => ?_, fun h1 => RLe.pure 1 (by simp [-Bool.exists_bool, -Int.not_le, -Int.not_lt, -getElem?_pos, -List.getD_eq_getElem?_getD, gcdOf, h1])⟩
  refine CallJ.pure (iIsNumber b) rfl (by simp [-Bool.exists_bool, -Int.not_le, -Int.not_lt, -getElem?_pos, -List.getD_eq_getElem?_getD]) ?_
  simp -implicitDefEqProofs -dsimp +contextual [-Bool.exists_bool, -Int.not_le, -Int.not_lt, -getElem?_pos, -List.getD_eq_getElem?_getD, h1]
  refine ⟨fun h2 => ?_, fun h2 => RLe.pure 1 (by simp [-Bool.exists_bool, -Int.not_le, -Int.not_lt, -getElem?_pos, -List.getD_eq_getElem?_getD, gcdOf, h1, h2])⟩
  refine CallJ.pure (iCommonDivisor a b (isNum_63 h1) (isNum_63 h2)) rfl (by simp [-Bool.exists_bool, -Int.not_le, -Int.not_lt, -getElem?_pos, -List.getD_eq_getElem?_getD]) ?_
  simp -implicitDefEqProofs -dsimp +contextual [-Bool.exists_bool, -Int.not_le, -Int.not_lt, -getElem?_pos, -List.getD_eq_getElem?_getD, h1, h2]
  exact RLe.pure 1 (by simp [-Bool.exists_bool, -Int.not_le, -Int.not_lt, -getElem?_pos, -List.getD_eq_getElem?_getD, gcdOf, h1, h2])
theorem isRat_gcd {n d : Int} : isRat n d = (decide (1 ≤ d) && decide (d ≤ 400000000) && isNum n && decide (gcdOf n d = 1)) := by
  unfold isRat gcdOf isNum
  by_cases h1 : 1 ≤ d <;> by_cases h2 : d ≤ 400000000 <;> by_cases h3 : -400000000 ≤ n <;> by_cases h4 : n ≤ 400000000 <;> simp [-Bool.exists_bool, -Int.not_le, -Int.not_lt, -getElem?_pos, -List.getD_eq_getElem?_getD, h1, h2, h3, h4]
  rw [if_pos (by omega)]
  omega
theorem IsRatio (n d : Int) : Cn Try.prog 63 [Ra n d] (B (isRat n d)) hemp := by
  refine Cn.of [] mixed Try.func63 rfl Try.call63 (by kernel_rfl) rfl ?_
  simp -implicitDefEqProofs -dsimp +contextual [-Bool.exists_bool, -Int.not_le, -Int.not_lt, -getElem?_pos, -List.getD_eq_getElem?_getD, Try.f63]
  refine CallJ.pure (l1In d 1 400000000) rfl (by simp [-Bool.exists_bool, -Int.not_le, -Int.not_lt, -getElem?_pos, -List.getD_eq_getElem?_getD]) ?_
  rw [isRat_gcd]
  simp -implicitDefEqProofs -dsimp +contextual [-Bool.exists_bool, -Int.not_le, -Int.not_lt, -getElem?_pos, -List.getD_eq_getElem?_getD]
  refine ⟨fun h1 => ?_, fun h1 => ?_⟩
  · have h1' : 1 ≤ d ∧ d ≤ 400000000 := by simpa [-Bool.exists_bool, -Int.not_le, -Int.not_lt, -getElem?_pos, -List.getD_eq_getElem?_getD, inB] using h1
    refine CallJ.pure (IsNumber n) rfl (by simp [-Bool.exists_bool, -Int.not_le, -Int.not_lt, -getElem?_pos, -List.getD_eq_getElem?_getD]) ?_
    simp -implicitDefEqProofs -dsimp +contextual [-Bool.exists_bool, -Int.not_le, -Int.not_lt, -getElem?_pos, -List.getD_eq_getElem?_getD, h1, h1']
    refine ⟨fun h2 => ?_, fun h2 => RLe.bb (by simp [-Bool.exists_bool, -Int.not_le, -Int.not_lt, -getElem?_pos, -List.getD_eq_getElem?_getD, h2])⟩
    refine CallJ.pure (GcdOf n d) rfl (by simp [-Bool.exists_bool, -Int.not_le, -Int.not_lt, -getElem?_pos, -List.getD_eq_getElem?_getD]) ?_
    simp -implicitDefEqProofs -dsimp +contextual [-Bool.exists_bool, -Int.not_le, -Int.not_lt, -getElem?_pos, -List.getD_eq_getElem?_getD, h1, h2]
    exact RLe.bb (by simp [-Bool.exists_bool, -Int.not_le, -Int.not_lt, -getElem?_pos, -List.getD_eq_getElem?_getD, h1'])
  · refine RLe.bb ?_
    have : ¬ (1 ≤ d ∧ d ≤ 400000000) := by simpa [-Bool.exists_bool, -Int.not_le, -Int.not_lt, -getElem?_pos, -List.getD_eq_getElem?_getD, inB] using h1
    by_cases h2 : 1 ≤ d
    · have h3 : ¬ d ≤ 400000000 := fun h3 => this ⟨h2, h3⟩
      simp [-Bool.exists_bool, -Int.not_le, -Int.not_lt, -getElem?_pos, -List.getD_eq_getElem?_getD, h3]
    · simp [-Bool.exists_bool, -Int.not_le, -Int.not_lt, -getElem?_pos, -List.getD_eq_getElem?_getD, h2]
theorem iIsRatio (n d : Int) : Cn Try.prog 65 [Ra n d] (B (isRat n d)) hemp := by
  refine Cn.of [] mixed Try.func65 rfl Try.call65 (by kernel_rfl) rfl ?_
  rw [isRat_gcd]
  simp -implicitDefEqProofs -dsimp +contextual [-Bool.exists_bool, -Int.not_le, -Int.not_lt, -getElem?_pos, -List.getD_eq_getElem?_getD, Try.f65]
  refine ⟨fun h1 => ⟨fun h1b => ?_, fun _ => RLe.bb rfl⟩, fun _ => RLe.bb rfl⟩
  refine CallJ.pure (iIsNumber n) rfl (by simp [-Bool.exists_bool, -Int.not_le, -Int.not_lt, -getElem?_pos, -List.getD_eq_getElem?_getD]) ?_
  simp -implicitDefEqProofs -dsimp +contextual [-Bool.exists_bool, -Int.not_le, -Int.not_lt, -getElem?_pos, -List.getD_eq_getElem?_getD, h1, h1b]
  refine ⟨fun h2 => ?_, fun h2 => RLe.bb (by simp [-Bool.exists_bool, -Int.not_le, -Int.not_lt, -getElem?_pos, -List.getD_eq_getElem?_getD, h2])⟩
  refine CallJ.pure (iGcdOf n d) rfl (by simp [-Bool.exists_bool, -Int.not_le, -Int.not_lt, -getElem?_pos, -List.getD_eq_getElem?_getD]) ?_
  simp -implicitDefEqProofs -dsimp +contextual [-Bool.exists_bool, -Int.not_le, -Int.not_lt, -getElem?_pos, -List.getD_eq_getElem?_getD, h1, h1b, h2]
  exact RLe.bb (by simp [-Bool.exists_bool, -Int.not_le, -Int.not_lt, -getElem?_pos, -List.getD_eq_getElem?_getD])
theorem toRatio (n d : Int) : Cn Try.prog 26 [Ra n d] (Ra n d) hemp := by
  refine Cn.of [] mixed Try.func26 rfl Try.call26 (by kernel_rfl) rfl ?_
  simp -implicitDefEqProofs -dsimp +contextual [-Bool.exists_bool, -Int.not_le, -Int.not_lt, -getElem?_pos, -List.getD_eq_getElem?_getD, Try.f26]
  exact RLe.pure 2 (by simp [-Bool.exists_bool, -Int.not_le, -Int.not_lt, -getElem?_pos, -List.getD_eq_getElem?_getD])
def fixI (l : List Int) (v : Nat) (d : Int) : List Int := (l.map (· * d)).set v 0
def fixA (a : At) (v n d : Int) : At2 := if isAt a.1 a.2.1 = true ∧ isRat n d = true ∧ 0 ≤ v ∧ v < a.1.length then mkAt (fixI a.1 v.toNat d) (a.2.1 * d + nth a.1 v.toNat * n) a.2.2 else noAt
theorem fixI_len (l : List Int) (v : Nat) (d : Int) : (fixI l v d).length = l.length := by simp [-Bool.exists_bool, -Int.not_le, -Int.not_lt, -getElem?_pos, -List.getD_eq_getElem?_getD, fixI]
theorem fixI_nth (l : List Int) (v : Nat) (d : Int) (i : Nat) (h : i < l.length) : nth (fixI l v d) i = if i = v then 0 else nth l i * d := by
  rw [nth_eq (by rw [fixI_len]; exact h), nth_eq h]
  unfold fixI
  rw [List.getElem_set]
  simp only [List.getElem_map]
  by_cases e : v = i
  · rw [if_pos e, if_pos e.symm]
  · rw [if_neg e, if_neg (fun h => e h.symm)]
theorem mul_bd {x y : Int} (hx : isNum x = true) (hy : -400000000 ≤ y ∧ y ≤ 400000000) : -160000000000000000 ≤ x * y ∧ x * y ≤ 160000000000000000 := by
  have hx := isNum_iff.1 hx
  have h1 : (x * y).natAbs ≤ 400000000 * 400000000 := by
    rw [Int.natAbs_mul]
    exact Nat.mul_le_mul (by omega) (by omega)
  omega
theorem FixVariable (a : At) (v n d : Int) (h20 : a.1.length ≤ 1048576) : Cn Try.prog 64 [A1 a, I v, Ra n d] (A2 (fixA a v n d)) hemp := by
  refine Cn.of [] mixed Try.func64 rfl Try.call64 (by kernel_rfl) rfl ?_
  simp -implicitDefEqProofs -dsimp +contextual [-Bool.exists_bool, -Int.not_le, -Int.not_lt, -getElem?_pos, -List.getD_eq_getElem?_getD, Try.f64]
  have no : ∀ {H : Store}, ¬ (isAt a.1 a.2.1 = true ∧ isRat n d = true ∧ 0 ≤ v ∧ v < a.1.length) → RLe Try.prog H (V.tup [V.agg [V.nil, V.d (D.int IntKind.i64 0), V.d (D.bool false)], V.d (D.bool false)]) (A2 (fixA a v n d)) hemp := fun h => by
    rw [fixA, if_neg h]
    exact RLe.pure 3 (by simp [-Bool.exists_bool, -Int.not_le, -Int.not_lt, -getElem?_pos, -List.getD_eq_getElem?_getD, noAt])
  refine CallJ.pure (IsAtom a) rfl (by simp [-Bool.exists_bool, -Int.not_le, -Int.not_lt, -getElem?_pos, -List.getD_eq_getElem?_getD]) ?_
  simp -implicitDefEqProofs -dsimp +contextual [-Bool.exists_bool, -Int.not_le, -Int.not_lt, -getElem?_pos, -List.getD_eq_getElem?_getD]
  refine ⟨fun h1 => ?_, fun h1 => no (by simp [-Bool.exists_bool, -Int.not_le, -Int.not_lt, -getElem?_pos, -List.getD_eq_getElem?_getD, h1])⟩
  refine CallJ.pure (IsRatio n d) rfl (by simp [-Bool.exists_bool, -Int.not_le, -Int.not_lt, -getElem?_pos, -List.getD_eq_getElem?_getD]) ?_
  simp -implicitDefEqProofs -dsimp +contextual [-Bool.exists_bool, -Int.not_le, -Int.not_lt, -getElem?_pos, -List.getD_eq_getElem?_getD, h1]
  refine ⟨fun h2 => ?_, fun h2 => no (by simp [-Bool.exists_bool, -Int.not_le, -Int.not_lt, -getElem?_pos, -List.getD_eq_getElem?_getD, h2])⟩
  have p := isAt_iff.1 h1
  have q := isRat_iff.1 h2
  rw [wr (by omega) (by omega)]
  refine CallJ.pure (l1In v 0 (a.1.length - 1)) rfl (by simp [-Bool.exists_bool, -Int.not_le, -Int.not_lt, -getElem?_pos, -List.getD_eq_getElem?_getD]) ?_
  simp -implicitDefEqProofs -dsimp +contextual [-Bool.exists_bool, -Int.not_le, -Int.not_lt, -getElem?_pos, -List.getD_eq_getElem?_getD, h1, h2]
  refine ⟨fun h3 => ?_, fun h3 => no (by simp [-Bool.exists_bool, -Int.not_le, -Int.not_lt, -getElem?_pos, -List.getD_eq_getElem?_getD, inB] at h3; omega)⟩
  have hv : 0 ≤ v ∧ v < a.1.length := by simp [-Bool.exists_bool, -Int.not_le, -Int.not_lt, -getElem?_pos, -List.getD_eq_getElem?_getD, inB] at h3; omega
  rw [fixA, if_pos ⟨h1, h2, hv⟩]
  obtain ⟨v', rfl⟩ : ∃ v' : Nat, v = v' := ⟨v.toNat, by omega⟩
  simp only [Int.toNat_natCast]
  have hv' : v' < a.1.length := by omega
  have hlen : a.1.length ≤ 4 := p.1
  refine WP.loopF mixed [] (fun i : Nat => ⟨tl [(1, I v'), (3, .ptr (0, 0) 0), (5, .ptr (1, 0) 0), (6, .ptr (2, 0) 0), (8, .ref (3, 0) i), (9, I i)], hl [((0, 0), .box (aV a)), ((1, 0), .box [I n, I d]), ((2, 0), .box [.nil, I 0, B false]), ((3, 0), .row 3 i (dl (((fixI a.1 v' d).take i).map (.int .i64))))], 4⟩) (fun i => i ≤ a.1.length) (fun i => a.1.length - i) 0 (by kernel_rfl) ?_ ?_ ?_
  · refine Le.trans (Le.nil 8 3 (by simp [-Bool.exists_bool, -Int.not_le, -Int.not_lt, -getElem?_pos, -List.getD_eq_getElem?_getD])) (Le.told [((3, 0), (24, 0))] ?_ ?_ ?_) <;> simp [-Bool.exists_bool, -Int.not_le, -Int.not_lt, -getElem?_pos, -List.getD_eq_getElem?_getD, setH]
  · simp [-Bool.exists_bool, -Int.not_le, -Int.not_lt, -getElem?_pos, -List.getD_eq_getElem?_getD]
  · intro i hi
    by_cases h : i < a.1.length
    · refine ⟨_, Le.refl _ _ _, ?_⟩
      have hn := fixI_nth a.1 v' d i h
      have ht := nth_take (l := fixI a.1 v' d) (i := i) (by rw [fixI_len]; exact h)
      have hb := mul_bd (p.2.2.1 _ (nth_mem h)) (by omega : -400000000 ≤ d ∧ d ≤ 400000000)
      simp -implicitDefEqProofs -dsimp +contextual [-Bool.exists_bool, -Int.not_le, -Int.not_lt, -getElem?_pos, -List.getD_eq_getElem?_getD, h]
      refine ⟨fun hiv => ?_, fun hiv => ?_⟩
      · refine ⟨⟨by omega, by simp [-Bool.exists_bool, -Int.not_le, -Int.not_lt, -getElem?_pos, -List.getD_eq_getElem?_getD, maxLen]; omega⟩, i + 1, h, by omega, ?_⟩
        rw [hn, if_pos (by omega)] at ht
        rw [wr (by omega) (by omega)]
        refine Le.told [((3, 0), (14, 0))] ?_ ?_ ?_ <;> simp [-Bool.exists_bool, -Int.not_le, -Int.not_lt, -getElem?_pos, -List.getD_eq_getElem?_getD, ht, ← List.map_take, hiv]
      · refine ⟨⟨by omega, by simp [-Bool.exists_bool, -Int.not_le, -Int.not_lt, -getElem?_pos, -List.getD_eq_getElem?_getD, maxLen]; omega⟩, by kernel_rfl, i + 1, h, by omega, ?_⟩
        rw [hn, if_neg (by omega)] at ht
        rw [wr (by omega) (by omega), wr (by omega) (by omega)]
        refine Le.told [((3, 0), (22, 0))] ?_ ?_ ?_ <;> simp [-Bool.exists_bool, -Int.not_le, -Int.not_lt, -getElem?_pos, -List.getD_eq_getElem?_getD, ht, ← List.map_take]
    · obtain rfl : i = a.1.length := by omega
      refine ⟨⟨tl [(1, I v'), (3, .ptr (0, 0) 0), (5, .ptr (1, 0) 0), (6, .ptr (2, 0) 0), (8, .ref (3, 0) a.1.length), (9, I a.1.length)], hl [((0, 0), .box (aV a)), ((1, 0), .box [I n, I d]), ((2, 0), .box [.nil, I 0, B false]), ((3, 0), .fz a.1.length ((fixI a.1 v' d).map (.int .i64)))], 4⟩, ?_, ?_⟩
      · refine Le.told [] ?_ ?_ ?_ <;> simp [-Bool.exists_bool, -Int.not_le, -Int.not_lt, -getElem?_pos, -List.getD_eq_getElem?_getD]
        rw [List.take_of_length_le (by simp [-Bool.exists_bool, -Int.not_le, -Int.not_lt, -getElem?_pos, -List.getD_eq_getElem?_getD, fixI_len])]
      simp -implicitDefEqProofs -dsimp +contextual [-Bool.exists_bool, -Int.not_le, -Int.not_lt, -getElem?_pos, -List.getD_eq_getElem?_getD, hv']
      have hb1 := mul_bd p.2.1 (by omega : -400000000 ≤ d ∧ d ≤ 400000000)
      have hb2 := mul_bd (p.2.2.1 _ (nth_mem hv')) q.2.1
      have w1 : IntKind.wrap .i64 (a.2.1 * d) = a.2.1 * d := wr (by omega) (by omega)
      have w2 : IntKind.wrap .i64 (nth a.1 v' * n) = nth a.1 v' * n := wr (by omega) (by omega)
      rw [w1, w2, wr (by omega) (by omega)]
      have hL := l2Atom (fixI a.1 v' d) (a.2.1 * d + nth a.1 v' * n) a.2.2 (by rw [fixI_len]; omega) (fun y hy => ?_) ⟨by omega, by omega⟩
      · refine CallJ.pure (ks := [(3, 0)]) hL (by simp [-Bool.exists_bool, -Int.not_le, -Int.not_lt, -getElem?_pos, -List.getD_eq_getElem?_getD, fixI_len]) (by simp [-Bool.exists_bool, -Int.not_le, -Int.not_lt, -getElem?_pos, -List.getD_eq_getElem?_getD]) ?_
        simp -implicitDefEqProofs -dsimp +contextual [-Bool.exists_bool, -Int.not_le, -Int.not_lt, -getElem?_pos, -List.getD_eq_getElem?_getD, hv']
        exact RLe.pure 3 (by simp [-Bool.exists_bool, -Int.not_le, -Int.not_lt, -getElem?_pos, -List.getD_eq_getElem?_getD])
      · obtain ⟨i, hi, rfl⟩ := List.getElem_of_mem hy
        have hi' : i < a.1.length := by rwa [fixI_len] at hi
        have e := fixI_nth a.1 v' d i hi'
        rw [nth_eq hi] at e
        rw [e]
        have := mul_bd (p.2.2.1 _ (nth_mem hi')) (by omega : -400000000 ≤ d ∧ d ≤ 400000000)
        split <;> omega
def muls (l : List Int) (d : Int) (i : Nat) : List Int := (l.take i).map (· * d) ++ List.replicate (l.length - i) 0
theorem muls_len (l : List Int) (d : Int) (i : Nat) (h : i ≤ l.length) : (muls l d i).length = l.length := by simp [-Bool.exists_bool, -Int.not_le, -Int.not_lt, -getElem?_pos, -List.getD_eq_getElem?_getD, muls]; omega
theorem muls_set (l : List Int) (d : Int) (i : Nat) (h : i < l.length) : (muls l d i).set i (nth l i * d) = muls l d (i + 1) := by
  have e : l.length - i = (l.length - (i + 1)) + 1 := by omega
  unfold muls
  rw [e, List.replicate_succ, nth_take h, List.set_append_right _ _ (by simp [-Bool.exists_bool, -Int.not_le, -Int.not_lt, -getElem?_pos, -List.getD_eq_getElem?_getD]; omega)]
  simp [-Bool.exists_bool, -Int.not_le, -Int.not_lt, -getElem?_pos, -List.getD_eq_getElem?_getD, Nat.min_eq_left (Nat.le_of_lt h)]
theorem iFixVariable (a : At) (v n d : Int) (h20 : a.1.length ≤ 1048576) : Cn Try.prog 66 [A1 a, I v, Ra n d] (A2 (fixA a v n d)) hemp := by
  refine Cn.of [0] mixed Try.func66 rfl Try.call66 (by kernel_rfl) rfl ?_
  simp -implicitDefEqProofs -dsimp +contextual [-Bool.exists_bool, -Int.not_le, -Int.not_lt, -getElem?_pos, -List.getD_eq_getElem?_getD, Try.f66]
  have no : ∀ {H : Store}, ¬ (isAt a.1 a.2.1 = true ∧ isRat n d = true ∧ 0 ≤ v ∧ v < a.1.length) → RLe Try.prog H (V.tup [V.agg [V.nil, V.d (D.int IntKind.i64 0), V.d (D.bool false)], V.d (D.bool false)]) (A2 (fixA a v n d)) hemp := fun h => by
    rw [fixA, if_neg h]
    exact RLe.pure 3 (by simp [-Bool.exists_bool, -Int.not_le, -Int.not_lt, -getElem?_pos, -List.getD_eq_getElem?_getD, noAt])
  refine CallJ.pure (iIsAtom a) rfl (by simp [-Bool.exists_bool, -Int.not_le, -Int.not_lt, -getElem?_pos, -List.getD_eq_getElem?_getD]) ?_
  simp -implicitDefEqProofs -dsimp +contextual [-Bool.exists_bool, -Int.not_le, -Int.not_lt, -getElem?_pos, -List.getD_eq_getElem?_getD]
  refine ⟨fun h1 => ?_, fun h1 => no (by simp [-Bool.exists_bool, -Int.not_le, -Int.not_lt, -getElem?_pos, -List.getD_eq_getElem?_getD, h1])⟩
  refine CallJ.pure (iIsRatio n d) rfl (by simp [-Bool.exists_bool, -Int.not_le, -Int.not_lt, -getElem?_pos, -List.getD_eq_getElem?_getD]) ?_
  simp -implicitDefEqProofs -dsimp +contextual [-Bool.exists_bool, -Int.not_le, -Int.not_lt, -getElem?_pos, -List.getD_eq_getElem?_getD, h1]
  refine ⟨fun h2 => ?_, fun h2 => no (by simp [-Bool.exists_bool, -Int.not_le, -Int.not_lt, -getElem?_pos, -List.getD_eq_getElem?_getD, h2])⟩
  have p := isAt_iff.1 h1
  have q := isRat_iff.1 h2
  have hlen : a.1.length ≤ 4 := p.1
  refine ⟨fun h3 => no (by omega), fun h3 => ⟨fun h4 => no (by omega), fun h4 => ?_⟩⟩
  have hv : 0 ≤ v ∧ v < a.1.length := by omega
  rw [fixA, if_pos ⟨h1, h2, hv⟩]
  obtain ⟨v', rfl⟩ : ∃ v' : Nat, v = v' := ⟨v.toNat, by omega⟩
  simp only [Int.toNat_natCast]
  have hv' : v' < a.1.length := by omega
  refine ⟨⟨by omega, by simp [-Bool.exists_bool, -Int.not_le, -Int.not_lt, -getElem?_pos, -List.getD_eq_getElem?_getD, maxLen]; omega⟩, ?_⟩
  refine WP.loop mixed [0] (fun i : Nat => ⟨tl [(1, I v'), (3, .ptr (0, 0) 0), (5, .ptr (1, 0) 0), (6, .ptr (2, 0) 0), (8, .ref (3, 0) a.1.length), (35, I a.1.length), (36, I i)], hl [((0, 0), .box (aV a)), ((1, 0), .box [I n, I d]), ((2, 0), .box [.nil, I 0, B false]), ((3, 0), .row 3 a.1.length (dl ((muls a.1 d i).map (.int .i64))))], 4⟩) (fun i => i ≤ a.1.length) (fun i => a.1.length - i) 0 (by kernel_rfl) ?_ ?_ ?_
  · refine Le.told [((3, 0), (26, 0))] ?_ ?_ ?_ <;> simp [-Bool.exists_bool, -Int.not_le, -Int.not_lt, -getElem?_pos, -List.getD_eq_getElem?_getD, setH, muls]
  · simp [-Bool.exists_bool, -Int.not_le, -Int.not_lt, -getElem?_pos, -List.getD_eq_getElem?_getD]
  · intro i hi
    by_cases h : i < a.1.length
    · have hb := mul_bd (p.2.2.1 _ (nth_mem h)) (by omega : -400000000 ≤ d ∧ d ≤ 400000000)
      have hl1 : i + 1 ≤ (muls a.1 d i).length := by rw [muls_len _ _ _ hi]; exact h
      simp -implicitDefEqProofs -dsimp +contextual [-Bool.exists_bool, -Int.not_le, -Int.not_lt, -getElem?_pos, -List.getD_eq_getElem?_getD, h, hl1]
      refine ⟨Quiet.of [] (by kernel_rfl) (by simp [-Bool.exists_bool, -Int.not_le, -Int.not_lt, -getElem?_pos, -List.getD_eq_getElem?_getD, allP]), i + 1, h, by omega, ?_⟩
      rw [wr (by omega) (by omega), wr (by omega) (by omega)]
      refine Le.told [] ?_ ?_ ?_ <;> simp [-Bool.exists_bool, -Int.not_le, -Int.not_lt, -getElem?_pos, -List.getD_eq_getElem?_getD]
      rw [← muls_set a.1 d i h, List.map_set, List.set_eq_take_append_cons_drop, if_pos (by rw [List.length_map]; exact hl1)]
    · obtain rfl : i = a.1.length := by omega
      have hm : muls a.1 d a.1.length = a.1.map (· * d) := by simp [-Bool.exists_bool, -Int.not_le, -Int.not_lt, -getElem?_pos, -List.getD_eq_getElem?_getD, muls]
      have hl2 : v' + 1 ≤ a.1.length := hv'
      rw [hm]
      simp -implicitDefEqProofs -dsimp +contextual [-Bool.exists_bool, -Int.not_le, -Int.not_lt, -getElem?_pos, -List.getD_eq_getElem?_getD, hv', hl2]
      have hx : (a.1.map (D.int IntKind.i64 ∘ fun x => x * d)).take v' ++ D.int IntKind.i64 0 :: (a.1.map (D.int IntKind.i64 ∘ fun x => x * d)).drop (v' + 1) = (fixI a.1 v' d).map (.int .i64) := by
        rw [fixI, List.map_set, List.set_eq_take_append_cons_drop, if_pos (by simpa [-Bool.exists_bool, -Int.not_le, -Int.not_lt, -getElem?_pos, -List.getD_eq_getElem?_getD] using hv'), List.map_map]
      have hb1 := mul_bd p.2.1 (by omega : -400000000 ≤ d ∧ d ≤ 400000000)
      have hb2 := mul_bd (p.2.2.1 _ (nth_mem hv')) q.2.1
      have w1 : IntKind.wrap .i64 (a.2.1 * d) = a.2.1 * d := wr (by omega) (by omega)
      have w2 : IntKind.wrap .i64 (nth a.1 v' * n) = nth a.1 v' * n := wr (by omega) (by omega)
      rw [hx, w1, w2, wr (by omega) (by omega)]
      have hL := iMakeOf (fixI a.1 v' d) (a.2.1 * d + nth a.1 v' * n) a.2.2 (by rw [fixI_len]; omega) (fun y hy => ?_) ⟨by omega, by omega⟩
      · refine CallJ.frz (t := 3) (n := a.1.length) (c := dl ((fixI a.1 v' d).map (.int .i64))) (c' := (fixI a.1 v' d).map (.int .i64)) (3, 0) hL (by simp [-Bool.exists_bool, -Int.not_le, -Int.not_lt, -getElem?_pos, -List.getD_eq_getElem?_getD]) (dl_asDs _) (ks := [(3, 0)]) (by simp [-Bool.exists_bool, -Int.not_le, -Int.not_lt, -getElem?_pos, -List.getD_eq_getElem?_getD, setH, fixI_len]) (by simp [-Bool.exists_bool, -Int.not_le, -Int.not_lt, -getElem?_pos, -List.getD_eq_getElem?_getD]) ?_
        simp -implicitDefEqProofs -dsimp +contextual [-Bool.exists_bool, -Int.not_le, -Int.not_lt, -getElem?_pos, -List.getD_eq_getElem?_getD, hv']
        refine ⟨Quiet.of [] (by kernel_rfl) (by simp [-Bool.exists_bool, -Int.not_le, -Int.not_lt, -getElem?_pos, -List.getD_eq_getElem?_getD, allP]), ?_⟩
        exact ⟨Quiet.of [] (by kernel_rfl) (by simp [-Bool.exists_bool, -Int.not_le, -Int.not_lt, -getElem?_pos, -List.getD_eq_getElem?_getD, allP]), RLe.pure 3 (by simp [-Bool.exists_bool, -Int.not_le, -Int.not_lt, -getElem?_pos, -List.getD_eq_getElem?_getD])⟩
      · obtain ⟨i, hi, rfl⟩ := List.getElem_of_mem hy
        have hi' : i < a.1.length := by rwa [fixI_len] at hi
        have e := fixI_nth a.1 v' d i hi'
        rw [nth_eq hi] at e
        rw [e]
        have := mul_bd (p.2.2.1 _ (nth_mem hi')) (by omega : -400000000 ≤ d ∧ d ≤ 400000000)
        split <;> constructor <;> omega
end Go.Proofs.Ytkicjflhokckgaa.ZL
namespace Go.Proofs.Ytkicjflhokckgaa.ZL
open Go Go.Proofs.Ytkicjflhokckgaa.Abs Go.Proofs.Ytkicjflhokckgaa.Abs.Pl Go.RowKit Go.Proofs
set_option linter.unusedVariables false
set_option linter.unusedSimpArgs false
def at1 (x : At2) : At := (x.1, x.2.1, x.2.2.1)
def fixGo (v n e : Int) : List At → List At → Option (List At)
  | [], acc => some acc
  | a :: L, acc => if (fixA a v n e).2.2.2 = true then fixGo v n e L (acc ++ [at1 (fixA a v n e)]) else none
def sliceD (d : Int) (L : List At) (v n e : Int) : Int × List At × Bool := if isCe d L = true ∧ (0 ≤ v ∧ v < d) ∧ isRat n e = true then (match fixGo v n e L [] with
    | some M => (d, nrm d M, true)
    | none => (0, [], false)) else (0, [], false)
theorem sliceD_f {d : Int} {L : List At} {v n e : Int} (h : ¬ (sliceD d L v n e).2.2 = true) : sliceD d L v n e = (0, [], false) := by
  unfold sliceD at h ⊢
  split
  · rename_i h2
    rw [if_pos h2] at h
    split
    · rename_i M hM; rw [hM] at h; exact absurd rfl h
    · rfl
  · rfl
theorem fixA_ok {d : Int} {a : At} {v n e : Int} (ha : okA d a) (h : (fixA a v n e).2.2.2 = true) : okA d (at1 (fixA a v n e)) := by
  unfold fixA at h ⊢
  split at h
  · rename_i hc
    rw [if_pos hc]
    unfold mkAt at h ⊢
    simp only at h ⊢
    split at h
    · rename_i h2
      rw [if_pos h2]
      refine ⟨h2, ?_⟩
      simp only [at1, List.length_map, fixI_len]
      exact ha.2
    · simp [-Bool.exists_bool, -Int.not_le, -Int.not_lt, -getElem?_pos, -List.getD_eq_getElem?_getD, noAt] at h
  · simp [-Bool.exists_bool, -Int.not_le, -Int.not_lt, -getElem?_pos, -List.getD_eq_getElem?_getD, noAt] at h
theorem fixGo_ok {d v n e : Int} : ∀ {L acc M : List At}, allOk d L → allOk d acc → fixGo v n e L acc = some M → allOk d M ∧ M.length = acc.length + L.length
  | [], acc, M, _, h2, h => by obtain rfl := Option.some.inj h; exact ⟨h2, by simp [-Bool.exists_bool, -Int.not_le, -Int.not_lt, -getElem?_pos, -List.getD_eq_getElem?_getD]⟩
  | a :: L, acc, M, h1, h2, h => by
    unfold fixGo at h
    split at h
    · rename_i hok
      have := fixGo_ok (L := L) (fun x hx => h1 x (List.mem_cons_of_mem _ hx)) (fun x hx => by
        rcases List.mem_append.1 hx with hx | hx
        · exact h2 x hx
        · rw [List.mem_singleton.1 hx]; exact fixA_ok (h1 a List.mem_cons_self) hok) h
      exact ⟨this.1, by rw [this.2]; simp [-Bool.exists_bool, -Int.not_le, -Int.not_lt, -getElem?_pos, -List.getD_eq_getElem?_getD]; omega⟩
    · exact absurd h (by simp [-Bool.exists_bool, -Int.not_le, -Int.not_lt, -getElem?_pos, -List.getD_eq_getElem?_getD])
theorem sliceD_small (d : Int) (L : List At) (v n e : Int) : Small (sliceD d L v n e).2.1 := by
  unfold sliceD
  split
  · rename_i h
    split
    · rename_i M hM
      have := fixGo_ok (isCe_a h.1) (acc := []) (fun x hx => by simp [-Bool.exists_bool, -Int.not_le, -Int.not_lt, -getElem?_pos, -List.getD_eq_getElem?_getD] at hx) hM
      exact Small.ok (nrm_16 d M (by rw [this.2]; simpa [-Bool.exists_bool, -Int.not_le, -Int.not_lt, -getElem?_pos, -List.getD_eq_getElem?_getD] using isCe_l h.1)) (nrm_okL (isCe_d h.1) this.1)
    · exact Small.nil
  · exact Small.nil
theorem SliceCell (d : Int) (L : List At) (v n e : Int) (h20 : L.length ≤ 1048576) : Cn Try.prog 25 [C1 d L, I v, Ra n e] (D2 (sliceD d L v n e)) hemp := by
  refine Cn.of [] mixed Try.func25 rfl Try.call25 (by kernel_rfl) rfl ?_
  simp -implicitDefEqProofs -dsimp +contextual [-Bool.exists_bool, -Int.not_le, -Int.not_lt, -getElem?_pos, -List.getD_eq_getElem?_getD, Try.f25]
  have no : ∀ {H : Store}, sliceD d L v n e = (0, [], false) → RLe Try.prog H (V.tup [V.agg [V.d (D.int IntKind.i64 0), V.nil], V.d (D.bool false)]) (D2 (sliceD d L v n e)) hemp := fun h => by
    rw [h]
    exact RLe.pure 2 (by simp [-Bool.exists_bool, -Int.not_le, -Int.not_lt, -getElem?_pos, -List.getD_eq_getElem?_getD, asD])
  refine CallJ.pure (IsCell d L h20) rfl (by simp [-Bool.exists_bool, -Int.not_le, -Int.not_lt, -getElem?_pos, -List.getD_eq_getElem?_getD]) ?_
  simp -implicitDefEqProofs -dsimp +contextual [-Bool.exists_bool, -Int.not_le, -Int.not_lt, -getElem?_pos, -List.getD_eq_getElem?_getD]
  refine ⟨fun h1 => ?_, fun h1 => no (by rw [sliceD, if_neg (by simp [-Bool.exists_bool, -Int.not_le, -Int.not_lt, -getElem?_pos, -List.getD_eq_getElem?_getD, h1])])⟩
  have hd := isCe_d h1
  have h16 := isCe_l h1
  have hok := isCe_a h1
  rw [wr (by omega) (by omega)]
  refine CallJ.pure (l1In v 0 (d - 1)) rfl (by simp [-Bool.exists_bool, -Int.not_le, -Int.not_lt, -getElem?_pos, -List.getD_eq_getElem?_getD]) ?_
  simp -implicitDefEqProofs -dsimp +contextual [-Bool.exists_bool, -Int.not_le, -Int.not_lt, -getElem?_pos, -List.getD_eq_getElem?_getD, h1]
  refine ⟨fun h2 => ?_, fun h2 => no (by rw [sliceD, if_neg]; simp [-Bool.exists_bool, -Int.not_le, -Int.not_lt, -getElem?_pos, -List.getD_eq_getElem?_getD, inB] at h2; omega)⟩
  have hv : 0 ≤ v ∧ v < d := by simp [-Bool.exists_bool, -Int.not_le, -Int.not_lt, -getElem?_pos, -List.getD_eq_getElem?_getD, inB] at h2; omega
  refine CallJ.pure (IsRatio n e) rfl (by simp [-Bool.exists_bool, -Int.not_le, -Int.not_lt, -getElem?_pos, -List.getD_eq_getElem?_getD]) ?_
  simp -implicitDefEqProofs -dsimp +contextual [-Bool.exists_bool, -Int.not_le, -Int.not_lt, -getElem?_pos, -List.getD_eq_getElem?_getD, h1, h2]
  refine ⟨fun h3 => ?_, fun h3 => no (by rw [sliceD, if_neg (by simp [-Bool.exists_bool, -Int.not_le, -Int.not_lt, -getElem?_pos, -List.getD_eq_getElem?_getD, h3])])⟩
  have e0 : sliceD d L v n e = (match fixGo v n e L [] with | some M => (d, nrm d M, true) | none => (0, [], false)) := by rw [sliceD, if_pos ⟨h1, hv, h3⟩]
  refine WP.loop mixed [] (fun p : Nat × List At => ⟨tl [(1, I v), (3, .ptr (0, 0) 0), (5, .ptr (1, 0) 0), (6, .ptr (2, 0) 0), (8, .ref (3, 0) p.2.length), (9, I p.1)], hl [((0, 0), .box [I d, As L]), ((1, 0), .box [I n, I e]), ((2, 0), .box [I 0, .nil]), ((3, 0), .row 52 p.2.length (dl (asD p.2)))], 4⟩)
    (fun p => p.1 ≤ L.length ∧ p.2.length = p.1 ∧ allOk d p.2 ∧ fixGo v n e L [] = fixGo v n e (L.drop p.1) p.2) (fun p => L.length - p.1) (0, []) (by kernel_rfl) ?_ ?_ ?_
  · refine Le.trans (Le.nil 8 52 (by simp [-Bool.exists_bool, -Int.not_le, -Int.not_lt, -getElem?_pos, -List.getD_eq_getElem?_getD])) (Le.told [((3, 0), (23, 0))] ?_ ?_ ?_) <;> simp [-Bool.exists_bool, -Int.not_le, -Int.not_lt, -getElem?_pos, -List.getD_eq_getElem?_getD, setH, asD]
  · exact ⟨Nat.zero_le _, rfl, fun x hx => by simp [-Bool.exists_bool, -Int.not_le, -Int.not_lt, -getElem?_pos, -List.getD_eq_getElem?_getD] at hx, rfl⟩
  · rintro ⟨i, acc⟩ ⟨hi, hl, hacc, he⟩
    simp only at hi hl hacc he
    by_cases h : i < L.length
    · have ho := hok _ (nth_mem h)
      simp -implicitDefEqProofs -dsimp +contextual [-Bool.exists_bool, -Int.not_le, -Int.not_lt, -getElem?_pos, -List.getD_eq_getElem?_getD, h]
      refine CallJ.pure (FixVariable (nth L i) v n e (okA_small ho)) rfl (by simp [-Bool.exists_bool, -Int.not_le, -Int.not_lt, -getElem?_pos, -List.getD_eq_getElem?_getD]) ?_
      rw [nth_drop h, fixGo] at he
      have hf := fixA_ok (v := v) (n := n) (e := e) ho
      generalize fixA (nth L i) v n e = q at he hf ⊢
      simp -implicitDefEqProofs -dsimp +contextual [-Bool.exists_bool, -Int.not_le, -Int.not_lt, -getElem?_pos, -List.getD_eq_getElem?_getD, h]
      refine ⟨fun hq => ⟨⟨by omega, by simp [-Bool.exists_bool, -Int.not_le, -Int.not_lt, -getElem?_pos, -List.getD_eq_getElem?_getD, maxLen]; omega⟩, i + 1, acc ++ [at1 q], ⟨h, by simp [-Bool.exists_bool, -Int.not_le, -Int.not_lt, -getElem?_pos, -List.getD_eq_getElem?_getD, hl], fun x hx => ?_, by rw [he, if_pos hq]⟩, by omega, ?_⟩, fun hq => no (by rw [e0, he, if_neg (by simp [-Bool.exists_bool, -Int.not_le, -Int.not_lt, -getElem?_pos, -List.getD_eq_getElem?_getD, hq])])⟩
      · rcases List.mem_append.1 hx with hx | hx
        · exact hacc x hx
        · rw [List.mem_singleton.1 hx]; exact hf hq
      · rw [wr (by omega) (by omega)]
        refine Le.told [((3, 0), (28, 0))] ?_ ?_ ?_ <;> simp [-Bool.exists_bool, -Int.not_le, -Int.not_lt, -getElem?_pos, -List.getD_eq_getElem?_getD, asD_append, asD, aD, at1]
    · rw [drop_nil (by omega)] at he
      simp only [fixGo] at he
      simp -implicitDefEqProofs -dsimp +contextual [-Bool.exists_bool, -Int.not_le, -Int.not_lt, -getElem?_pos, -List.getD_eq_getElem?_getD, h]
      refine CallJ.frz (t := 52) (n := acc.length) (c := dl (asD acc)) (c' := asD acc) (3, 0) (l3Normal d hd acc (by omega) hacc) (by simp [-Bool.exists_bool, -Int.not_le, -Int.not_lt, -getElem?_pos, -List.getD_eq_getElem?_getD]) (dl_asDs _) (ks := [(3, 0)]) (by simp [-Bool.exists_bool, -Int.not_le, -Int.not_lt, -getElem?_pos, -List.getD_eq_getElem?_getD, setH]) (by simp [-Bool.exists_bool, -Int.not_le, -Int.not_lt, -getElem?_pos, -List.getD_eq_getElem?_getD]) ?_
      simp -implicitDefEqProofs -dsimp +contextual [-Bool.exists_bool, -Int.not_le, -Int.not_lt, -getElem?_pos, -List.getD_eq_getElem?_getD, h]
      rw [e0, he]
      exact RLe.pure 3 (by simp [-Bool.exists_bool, -Int.not_le, -Int.not_lt, -getElem?_pos, -List.getD_eq_getElem?_getD])
theorem iSliceCell (d : Int) (L : List At) (v n e : Int) (h20 : L.length ≤ 1048576) : Cn Try.prog 27 [C1 d L, I v, Ra n e] (oV (sliceD d L v n e)) (oH (sliceD d L v n e)) := by
  refine Cn.of [] mixed Try.func27 rfl Try.call27 (by kernel_rfl) rfl ?_
  simp -implicitDefEqProofs -dsimp +contextual [-Bool.exists_bool, -Int.not_le, -Int.not_lt, -getElem?_pos, -List.getD_eq_getElem?_getD, Try.f27]
  have no : ∀ {H : Store}, sliceD d L v n e = (0, [], false) → RLe Try.prog H (V.tup [V.agg [V.d (D.int IntKind.i64 0), V.nil], V.d (D.bool false)]) (oV (sliceD d L v n e)) (oH (sliceD d L v n e)) := fun h => by
    rw [h, oV_f (by simp [-Bool.exists_bool, -Int.not_le, -Int.not_lt, -getElem?_pos, -List.getD_eq_getElem?_getD]), oH_f (by simp [-Bool.exists_bool, -Int.not_le, -Int.not_lt, -getElem?_pos, -List.getD_eq_getElem?_getD])]
    exact RLe.emp (by simp [-Bool.exists_bool, -Int.not_le, -Int.not_lt, -getElem?_pos, -List.getD_eq_getElem?_getD])
  refine CallJ.pure (iIsCell d L h20) rfl (by simp [-Bool.exists_bool, -Int.not_le, -Int.not_lt, -getElem?_pos, -List.getD_eq_getElem?_getD]) ?_
  simp -implicitDefEqProofs -dsimp +contextual [-Bool.exists_bool, -Int.not_le, -Int.not_lt, -getElem?_pos, -List.getD_eq_getElem?_getD]
  refine ⟨fun h1 => ?_, fun h1 => no (by rw [sliceD, if_neg (by simp [-Bool.exists_bool, -Int.not_le, -Int.not_lt, -getElem?_pos, -List.getD_eq_getElem?_getD, h1])])⟩
  have hd := isCe_d h1
  have h16 := isCe_l h1
  have hok := isCe_a h1
  refine ⟨fun h2 => no (by rw [sliceD, if_neg]; omega), fun h2 => ⟨fun h2b => no (by rw [sliceD, if_neg]; omega), fun h2b => ?_⟩⟩
  have hv : 0 ≤ v ∧ v < d := by omega
  refine CallJ.pure (iIsRatio n e) rfl (by simp [-Bool.exists_bool, -Int.not_le, -Int.not_lt, -getElem?_pos, -List.getD_eq_getElem?_getD]) ?_
  simp -implicitDefEqProofs -dsimp +contextual [-Bool.exists_bool, -Int.not_le, -Int.not_lt, -getElem?_pos, -List.getD_eq_getElem?_getD, h1, h2, h2b]
  refine ⟨fun h3 => ?_, fun h3 => no (by rw [sliceD, if_neg (by simp [-Bool.exists_bool, -Int.not_le, -Int.not_lt, -getElem?_pos, -List.getD_eq_getElem?_getD, h3])])⟩
  have e0 : sliceD d L v n e = (match fixGo v n e L [] with | some M => (d, nrm d M, true) | none => (0, [], false)) := by rw [sliceD, if_pos ⟨h1, hv, h3⟩]
  refine WP.loop mixed [] (fun p : Nat × List At => ⟨tl [(1, I v), (3, .ptr (0, 0) 0), (5, .ptr (1, 0) 0), (6, .ptr (2, 0) 0), (8, .ref (3, 0) p.2.length), (34, As L), (35, I L.length), (36, I p.1)], hl [((0, 0), .box [I d, As L]), ((1, 0), .box [I n, I e]), ((2, 0), .box [I 0, .nil]), ((3, 0), .row 52 p.2.length (dl (asD p.2)))], 4⟩)
    (fun p => p.1 ≤ L.length ∧ p.2.length = p.1 ∧ allOk d p.2 ∧ fixGo v n e L [] = fixGo v n e (L.drop p.1) p.2) (fun p => L.length - p.1) (0, []) (by kernel_rfl) ?_ ?_ ?_
  · refine Le.trans (Le.nil 8 52 (by simp [-Bool.exists_bool, -Int.not_le, -Int.not_lt, -getElem?_pos, -List.getD_eq_getElem?_getD])) (Le.told [((3, 0), (28, 0))] ?_ ?_ ?_) <;> simp [-Bool.exists_bool, -Int.not_le, -Int.not_lt, -getElem?_pos, -List.getD_eq_getElem?_getD, setH, asD]
  · exact ⟨Nat.zero_le _, rfl, fun x hx => by simp [-Bool.exists_bool, -Int.not_le, -Int.not_lt, -getElem?_pos, -List.getD_eq_getElem?_getD] at hx, rfl⟩
  · rintro ⟨i, acc⟩ ⟨hi, hl, hacc, he⟩
    simp only at hi hl hacc he
    by_cases h : i < L.length
    · have ho := hok _ (nth_mem h)
      simp -implicitDefEqProofs -dsimp +contextual [-Bool.exists_bool, -Int.not_le, -Int.not_lt, -getElem?_pos, -List.getD_eq_getElem?_getD, h]
      refine CallJ.pure (iFixVariable (nth L i) v n e (okA_small ho)) rfl (by simp [-Bool.exists_bool, -Int.not_le, -Int.not_lt, -getElem?_pos, -List.getD_eq_getElem?_getD]) ?_
      rw [nth_drop h, fixGo] at he
      have hf := fixA_ok (v := v) (n := n) (e := e) ho
      generalize fixA (nth L i) v n e = q at he hf ⊢
      simp -implicitDefEqProofs -dsimp +contextual [-Bool.exists_bool, -Int.not_le, -Int.not_lt, -getElem?_pos, -List.getD_eq_getElem?_getD, h]
      refine ⟨fun hq => ⟨⟨by omega, by simp [-Bool.exists_bool, -Int.not_le, -Int.not_lt, -getElem?_pos, -List.getD_eq_getElem?_getD, maxLen]; omega⟩, i + 1, acc ++ [at1 q], ⟨h, by simp [-Bool.exists_bool, -Int.not_le, -Int.not_lt, -getElem?_pos, -List.getD_eq_getElem?_getD, hl], fun x hx => ?_, by rw [he, if_pos hq]⟩, by omega, ?_⟩, fun hq => no (by rw [e0, he, if_neg (by simp [-Bool.exists_bool, -Int.not_le, -Int.not_lt, -getElem?_pos, -List.getD_eq_getElem?_getD, hq])])⟩
      · rcases List.mem_append.1 hx with hx | hx
        · exact hacc x hx
        · rw [List.mem_singleton.1 hx]; exact hf hq
      · rw [wr (by omega) (by omega)]
        refine Le.told [((3, 0), (24, 0))] ?_ ?_ ?_ <;> simp [-Bool.exists_bool, -Int.not_le, -Int.not_lt, -getElem?_pos, -List.getD_eq_getElem?_getD, asD_append, asD, aD, at1]
    · rw [drop_nil (by omega)] at he
      simp only [fixGo] at he
      simp -implicitDefEqProofs -dsimp +contextual [-Bool.exists_bool, -Int.not_le, -Int.not_lt, -getElem?_pos, -List.getD_eq_getElem?_getD, h]
      rw [e0, he]
      simp only []
      rw [oV_t rfl, oH_t rfl]
      have hN := iNormalOf d hd acc (by omega) hacc
      refine CallJ.lent (ks := [(3, 0)]) 2 hN (by simp [-Bool.exists_bool, -Int.not_le, -Int.not_lt, -getElem?_pos, -List.getD_eq_getElem?_getD, lendVs, lendV]) (by simp [-Bool.exists_bool, -Int.not_le, -Int.not_lt, -getElem?_pos, -List.getD_eq_getElem?_getD]) (by simp [-Bool.exists_bool, -Int.not_le, -Int.not_lt, -getElem?_pos, -List.getD_eq_getElem?_getD, noSh, noShL, noShD]) (fun k e h => noSh_ownR _ k e h) ?_
      simp -implicitDefEqProofs -dsimp +contextual [-Bool.exists_bool, -Int.not_le, -Int.not_lt, -getElem?_pos, -List.getD_eq_getElem?_getD, h]
      refine RLe.pass 8 _ ?_ ?_ ?_
      · simp [-Bool.exists_bool, -Int.not_le, -Int.not_lt, -getElem?_pos, -List.getD_eq_getElem?_getD, invO]
      · simp [-Bool.exists_bool, -Int.not_le, -Int.not_lt, -getElem?_pos, -List.getD_eq_getElem?_getD, setH, upOwn_0]
      · intro j hj; simp [-Bool.exists_bool, -Int.not_le, -Int.not_lt, -getElem?_pos, -List.getD_eq_getElem?_getD, setH, upOwn_j _ _ _ _ hj]
theorem iSliceCellW (d : Int) (L : List At) (v n e : Int) (h20 : L.length ≤ 1048576) : Cn Try.prog 27 [C1 d L, I v, Ra n e] (D2 (sliceD d L v n e)) hemp := Cn.weak sliceD_f (iSliceCell d L v n e h20)
theorem lends1ir {H : Store} {s1 : Nat} {c1 : Ce} {v n e : Int} (h1 : Owns H s1 c1.2) : lendVs true H 2 [.agg [I c1.1, .ref (s1, 0) c1.2.length], I v, Ra n e] = some ([.agg (cV c1), I v, Ra n e], famK s1 0 c1.2.length) := by
  simp only [lendVs, h1.lend 0 c1.1]; simp [-Bool.exists_bool, -Int.not_le, -Int.not_lt, -getElem?_pos, -List.getD_eq_getElem?_getD, lendV]
end Go.Proofs.Ytkicjflhokckgaa.ZL
namespace Go.Proofs.Ytkicjflhokckgaa.ZL
open Go Go.Proofs.Ytkicjflhokckgaa.Abs Go.Proofs.Ytkicjflhokckgaa.Abs.Pl Go.RowKit Go.Proofs
set_option linter.unusedVariables false
set_option linter.unusedSimpArgs false
theorem lawSliceCell (c : Ce) (v : Int) (q : Int × Int) (w_c : wfC c) (_ : (Lit.int .i64 v).wf = true) (_ : (Lit.int .i64 q.1).wf = true ∧ (Lit.int .i64 q.2).wf = true) : Cn Try.prog 6 [.agg (cV c), I v, Ra q.1 q.2] (B true) hemp := by
  refine Cn.of [] mixed Try.func6 rfl Try.call6 (by kernel_rfl) rfl ?_
  simp -implicitDefEqProofs -dsimp +contextual [-Bool.exists_bool, -Int.not_le, -Int.not_lt, -getElem?_pos, -List.getD_eq_getElem?_getD, Try.f6]
  refine CallJ.pure (szCell c 1048576 ok20 w_c) rfl (by simp [-Bool.exists_bool, -Int.not_le, -Int.not_lt, -getElem?_pos, -List.getD_eq_getElem?_getD]) ?_
  simp -implicitDefEqProofs -dsimp +contextual [-Bool.exists_bool, -Int.not_le, -Int.not_lt, -getElem?_pos, -List.getD_eq_getElem?_getD]
  refine ⟨fun _ => RLe.bb rfl, fun h_c => ?_⟩
  obtain ⟨w1_c, k_c⟩ := lft_2 ok20 h_c
  obtain ⟨l_c, d_c⟩ := wAs_small w1_c
  refine CallJ.pure (toCellW c l_c d_c) rfl (by simp [-Bool.exists_bool, -Int.not_le, -Int.not_lt, -getElem?_pos, -List.getD_eq_getElem?_getD]) ?_
  simp -implicitDefEqProofs -dsimp +contextual [-Bool.exists_bool, -Int.not_le, -Int.not_lt, -getElem?_pos, -List.getD_eq_getElem?_getD, h_c]
  refine CallJ.pure (toRatio q.1 q.2) rfl (by simp [-Bool.exists_bool, -Int.not_le, -Int.not_lt, -getElem?_pos, -List.getD_eq_getElem?_getD]) ?_
  simp -implicitDefEqProofs -dsimp +contextual [-Bool.exists_bool, -Int.not_le, -Int.not_lt, -getElem?_pos, -List.getD_eq_getElem?_getD, h_c]
  refine CallJ.pure (SliceCell c.1 c.2 v q.1 q.2 l_c) rfl (by simp [-Bool.exists_bool, -Int.not_le, -Int.not_lt, -getElem?_pos, -List.getD_eq_getElem?_getD]) ?_
  simp -implicitDefEqProofs -dsimp +contextual [-Bool.exists_bool, -Int.not_le, -Int.not_lt, -getElem?_pos, -List.getD_eq_getElem?_getD, h_c]
  refine CallJ.pure (toCell c l_c d_c) rfl (by simp [-Bool.exists_bool, -Int.not_le, -Int.not_lt, -getElem?_pos, -List.getD_eq_getElem?_getD]) ?_
  simp -implicitDefEqProofs -dsimp +contextual [-Bool.exists_bool, -Int.not_le, -Int.not_lt, -getElem?_pos, -List.getD_eq_getElem?_getD, h_c]
  refine CallJ.pure (toRatio q.1 q.2) rfl (by simp [-Bool.exists_bool, -Int.not_le, -Int.not_lt, -getElem?_pos, -List.getD_eq_getElem?_getD]) ?_
  simp -implicitDefEqProofs -dsimp +contextual [-Bool.exists_bool, -Int.not_le, -Int.not_lt, -getElem?_pos, -List.getD_eq_getElem?_getD, h_c]
  have hL := iSliceCell c.1 c.2 v q.1 q.2 l_c
  have hW := iSliceCellW c.1 c.2 v q.1 q.2 l_c
  have hR := sliceD_small c.1 c.2 v q.1 q.2
  have hr0 := sliceD_f (d := c.1) (L := c.2) (v := v) (n := q.1) (e := q.2)
  generalize sliceD c.1 c.2 v q.1 q.2 = r at *
  have p1 := nxtS_le r.2.1 1
  have q1 : ¬ nxtS r.2.1 1 < 0 := by omega
  have hI_c := Small.input w1_c
  have n_c := nxtS_w c.2 (1)
  have g_c := nxtS_le c.2 (1)
  change wAs c.2 ≤ 1048576 at w1_c
  have q2 : ¬ nxtS c.2 (1) < 0 := by omega
  by_cases hr : r.2.2 = true
  · rw [oV_t hr, oH_t hr] at hL
    refine CallJ.lent (ks := famK 23 0 c.2.length) 2 hL ?_ ?_ (by simp [-Bool.exists_bool, -Int.not_le, -Int.not_lt, -getElem?_pos, -List.getD_eq_getElem?_getD, noSh, noShL, noShD]) (fun k e h => noSh_ownR _ k e h) ?_
    · refine lends1ir (v := v) (n := q.1) (e := q.2) (c1 := c) ?_
      · repeat first | exact Owns.mark _ _ _ | exact Owns.call _ _ _ | refine Owns.set ?_ (by simp [-Bool.exists_bool, -Int.not_le, -Int.not_lt, -getElem?_pos, -List.getD_eq_getElem?_getD]) | refine Owns.other ?_ (by simp [-Bool.exists_bool, -Int.not_le, -Int.not_lt, -getElem?_pos, -List.getD_eq_getElem?_getD]) | refine Owns.otherM ?_ (by simp [-Bool.exists_bool, -Int.not_le, -Int.not_lt, -getElem?_pos, -List.getD_eq_getElem?_getD])
    · intro k hk
      exact .inl (famK_lt (by omega) k hk)
    simp -implicitDefEqProofs -dsimp +contextual [-Bool.exists_bool, -Int.not_le, -Int.not_lt, -getElem?_pos, -List.getD_eq_getElem?_getD, h_c, hr, q1, q2]
    refine Owns.eqCell (s := 30) (L := r.2.1) ?_ r.1 hR.len hR.dir ?_ ?_
    · repeat first | exact Owns.mark _ _ _ | exact Owns.call _ _ _ | refine Owns.set ?_ (by simp [-Bool.exists_bool, -Int.not_le, -Int.not_lt, -getElem?_pos, -List.getD_eq_getElem?_getD]) | refine Owns.other ?_ (by simp [-Bool.exists_bool, -Int.not_le, -Int.not_lt, -getElem?_pos, -List.getD_eq_getElem?_getD]) | refine Owns.otherM ?_ (by simp [-Bool.exists_bool, -Int.not_le, -Int.not_lt, -getElem?_pos, -List.getD_eq_getElem?_getD])
    · omega
    simp -implicitDefEqProofs -dsimp +contextual [-Bool.exists_bool, -Int.not_le, -Int.not_lt, -getElem?_pos, -List.getD_eq_getElem?_getD, h_c, hr, q1, q2]
    refine CallJ.pure (toCellW c l_c d_c) rfl (by simp [-Bool.exists_bool, -Int.not_le, -Int.not_lt, -getElem?_pos, -List.getD_eq_getElem?_getD]) ?_
    simp -implicitDefEqProofs -dsimp +contextual [-Bool.exists_bool, -Int.not_le, -Int.not_lt, -getElem?_pos, -List.getD_eq_getElem?_getD, h_c, hr, q1, q2]
    refine Owns.eqCell (s := 23) (L := c.2) ?_ c.1 l_c d_c ?_ ?_
    · repeat first | exact Owns.mark _ _ _ | exact Owns.call _ _ _ | refine Owns.set ?_ (by simp [-Bool.exists_bool, -Int.not_le, -Int.not_lt, -getElem?_pos, -List.getD_eq_getElem?_getD]) | refine Owns.other ?_ (by simp [-Bool.exists_bool, -Int.not_le, -Int.not_lt, -getElem?_pos, -List.getD_eq_getElem?_getD]) | refine Owns.otherM ?_ (by simp [-Bool.exists_bool, -Int.not_le, -Int.not_lt, -getElem?_pos, -List.getD_eq_getElem?_getD])
    · omega
    simp -implicitDefEqProofs -dsimp +contextual [-Bool.exists_bool, -Int.not_le, -Int.not_lt, -getElem?_pos, -List.getD_eq_getElem?_getD, h_c, hr, q1, q2]
    refine Owns.marks (s := 23) (L := c.2) ?_ c.1 (1) ⟨by omega, by omega⟩ l_c d_c ?_ ?_ ?_
    · repeat first | exact Owns.mark _ _ _ | exact Owns.call _ _ _ | refine Owns.set ?_ (by simp [-Bool.exists_bool, -Int.not_le, -Int.not_lt, -getElem?_pos, -List.getD_eq_getElem?_getD]) | refine Owns.other ?_ (by simp [-Bool.exists_bool, -Int.not_le, -Int.not_lt, -getElem?_pos, -List.getD_eq_getElem?_getD]) | refine Owns.otherM ?_ (by simp [-Bool.exists_bool, -Int.not_le, -Int.not_lt, -getElem?_pos, -List.getD_eq_getElem?_getD])
    · omega
    · omega
    simp -implicitDefEqProofs -dsimp +contextual [-Bool.exists_bool, -Int.not_le, -Int.not_lt, -getElem?_pos, -List.getD_eq_getElem?_getD, h_c, hr, q1, q2]
    refine Owns.eqCell (s := 30) (L := r.2.1) ?_ r.1 hR.len hR.dir ?_ ?_
    · repeat first | exact Owns.mark _ _ _ | exact Owns.call _ _ _ | refine Owns.set ?_ (by simp [-Bool.exists_bool, -Int.not_le, -Int.not_lt, -getElem?_pos, -List.getD_eq_getElem?_getD]) | refine Owns.other ?_ (by simp [-Bool.exists_bool, -Int.not_le, -Int.not_lt, -getElem?_pos, -List.getD_eq_getElem?_getD]) | refine Owns.otherM ?_ (by simp [-Bool.exists_bool, -Int.not_le, -Int.not_lt, -getElem?_pos, -List.getD_eq_getElem?_getD])
    · omega
    simp -implicitDefEqProofs -dsimp +contextual [-Bool.exists_bool, -Int.not_le, -Int.not_lt, -getElem?_pos, -List.getD_eq_getElem?_getD, h_c, hr, q1, q2]
    refine Owns.marks (s := 30) (L := r.2.1) ?_ r.1 1 ⟨by omega, hR.nxt⟩ hR.len hR.dir ?_ ?_ ?_
    · repeat first | exact Owns.mark _ _ _ | exact Owns.call _ _ _ | refine Owns.set ?_ (by simp [-Bool.exists_bool, -Int.not_le, -Int.not_lt, -getElem?_pos, -List.getD_eq_getElem?_getD]) | refine Owns.other ?_ (by simp [-Bool.exists_bool, -Int.not_le, -Int.not_lt, -getElem?_pos, -List.getD_eq_getElem?_getD]) | refine Owns.otherM ?_ (by simp [-Bool.exists_bool, -Int.not_le, -Int.not_lt, -getElem?_pos, -List.getD_eq_getElem?_getD])
    · omega
    · omega
    simp -implicitDefEqProofs -dsimp +contextual [-Bool.exists_bool, -Int.not_le, -Int.not_lt, -getElem?_pos, -List.getD_eq_getElem?_getD, h_c, hr, q1, q2]
    refine Owns.held (s := 30) (M := r.2.1) ?_ r.1 ⟨by omega, hR.nxt⟩ hR.len hR.dir ?_ ?_
    · repeat first | exact Owns.mark _ _ _ | exact Owns.call _ _ _ | refine Owns.set ?_ (by simp [-Bool.exists_bool, -Int.not_le, -Int.not_lt, -getElem?_pos, -List.getD_eq_getElem?_getD]) | refine Owns.other ?_ (by simp [-Bool.exists_bool, -Int.not_le, -Int.not_lt, -getElem?_pos, -List.getD_eq_getElem?_getD]) | refine Owns.otherM ?_ (by simp [-Bool.exists_bool, -Int.not_le, -Int.not_lt, -getElem?_pos, -List.getD_eq_getElem?_getD])
    · omega
    simp -implicitDefEqProofs -dsimp +contextual [-Bool.exists_bool, -Int.not_le, -Int.not_lt, -getElem?_pos, -List.getD_eq_getElem?_getD, h_c, hr, q1, q2]
    refine CallJ.pure (toCellW c l_c d_c) rfl (by simp [-Bool.exists_bool, -Int.not_le, -Int.not_lt, -getElem?_pos, -List.getD_eq_getElem?_getD]) ?_
    simp -implicitDefEqProofs -dsimp +contextual [-Bool.exists_bool, -Int.not_le, -Int.not_lt, -getElem?_pos, -List.getD_eq_getElem?_getD, h_c, hr, q1, q2]
    refine CallJ.pure (toRatio q.1 q.2) rfl (by simp [-Bool.exists_bool, -Int.not_le, -Int.not_lt, -getElem?_pos, -List.getD_eq_getElem?_getD]) ?_
    simp -implicitDefEqProofs -dsimp +contextual [-Bool.exists_bool, -Int.not_le, -Int.not_lt, -getElem?_pos, -List.getD_eq_getElem?_getD, h_c, hr, q1, q2]
    refine CallJ.pure hW rfl (by simp [-Bool.exists_bool, -Int.not_le, -Int.not_lt, -getElem?_pos, -List.getD_eq_getElem?_getD]) ?_
    simp -implicitDefEqProofs -dsimp +contextual [-Bool.exists_bool, -Int.not_le, -Int.not_lt, -getElem?_pos, -List.getD_eq_getElem?_getD, h_c, hr, q1, q2]
    refine CallJ.pure (eqCell (r.1, r.2.1) hR.len hR.dir) rfl (by simp [-Bool.exists_bool, -Int.not_le, -Int.not_lt, -getElem?_pos, -List.getD_eq_getElem?_getD]) ?_
    simp -implicitDefEqProofs -dsimp +contextual [-Bool.exists_bool, -Int.not_le, -Int.not_lt, -getElem?_pos, -List.getD_eq_getElem?_getD, h_c, hr, q1, q2]
    refine Owns.held (s := 30) (M := r.2.1) ?_ r.1 ⟨by omega, hR.nxt⟩ hR.len hR.dir ?_ ?_
    · repeat first | exact Owns.mark _ _ _ | exact Owns.call _ _ _ | refine Owns.set ?_ (by simp [-Bool.exists_bool, -Int.not_le, -Int.not_lt, -getElem?_pos, -List.getD_eq_getElem?_getD]) | refine Owns.other ?_ (by simp [-Bool.exists_bool, -Int.not_le, -Int.not_lt, -getElem?_pos, -List.getD_eq_getElem?_getD]) | refine Owns.otherM ?_ (by simp [-Bool.exists_bool, -Int.not_le, -Int.not_lt, -getElem?_pos, -List.getD_eq_getElem?_getD])
    · omega
    simp -implicitDefEqProofs -dsimp +contextual [-Bool.exists_bool, -Int.not_le, -Int.not_lt, -getElem?_pos, -List.getD_eq_getElem?_getD, h_c, hr, q1, q2]
    exact RLe.bb rfl
  · rw [oV_f hr, oH_f hr] at hL
    obtain rfl := hr0 hr
    refine CallJ.lent (ks := famK 23 0 c.2.length) 2 hL ?_ ?_ rfl (by simp [-Bool.exists_bool, -Int.not_le, -Int.not_lt, -getElem?_pos, -List.getD_eq_getElem?_getD]) ?_
    · refine lends1ir (v := v) (n := q.1) (e := q.2) (c1 := c) ?_
      · repeat first | exact Owns.mark _ _ _ | exact Owns.call _ _ _ | refine Owns.set ?_ (by simp [-Bool.exists_bool, -Int.not_le, -Int.not_lt, -getElem?_pos, -List.getD_eq_getElem?_getD]) | refine Owns.other ?_ (by simp [-Bool.exists_bool, -Int.not_le, -Int.not_lt, -getElem?_pos, -List.getD_eq_getElem?_getD]) | refine Owns.otherM ?_ (by simp [-Bool.exists_bool, -Int.not_le, -Int.not_lt, -getElem?_pos, -List.getD_eq_getElem?_getD])
    · intro k hk
      exact .inl (famK_lt (by omega) k hk)
    simp -implicitDefEqProofs -dsimp +contextual [-Bool.exists_bool, -Int.not_le, -Int.not_lt, -getElem?_pos, -List.getD_eq_getElem?_getD, h_c, q2]
    refine CallJ.pure (ks := []) (eqCell (0, []) (by simp [-Bool.exists_bool, -Int.not_le, -Int.not_lt, -getElem?_pos, -List.getD_eq_getElem?_getD]) (by simp [-Bool.exists_bool, -Int.not_le, -Int.not_lt, -getElem?_pos, -List.getD_eq_getElem?_getD])) (by simp [-Bool.exists_bool, -Int.not_le, -Int.not_lt, -getElem?_pos, -List.getD_eq_getElem?_getD, asD]) (by simp [-Bool.exists_bool, -Int.not_le, -Int.not_lt, -getElem?_pos, -List.getD_eq_getElem?_getD]) ?_
    simp -implicitDefEqProofs -dsimp +contextual [-Bool.exists_bool, -Int.not_le, -Int.not_lt, -getElem?_pos, -List.getD_eq_getElem?_getD, h_c, q2]
    refine CallJ.pure (toCellW c l_c d_c) rfl (by simp [-Bool.exists_bool, -Int.not_le, -Int.not_lt, -getElem?_pos, -List.getD_eq_getElem?_getD]) ?_
    simp -implicitDefEqProofs -dsimp +contextual [-Bool.exists_bool, -Int.not_le, -Int.not_lt, -getElem?_pos, -List.getD_eq_getElem?_getD, h_c, q2]
    refine Owns.eqCell (s := 23) (L := c.2) ?_ c.1 l_c d_c ?_ ?_
    · repeat first | exact Owns.mark _ _ _ | exact Owns.call _ _ _ | refine Owns.set ?_ (by simp [-Bool.exists_bool, -Int.not_le, -Int.not_lt, -getElem?_pos, -List.getD_eq_getElem?_getD]) | refine Owns.other ?_ (by simp [-Bool.exists_bool, -Int.not_le, -Int.not_lt, -getElem?_pos, -List.getD_eq_getElem?_getD]) | refine Owns.otherM ?_ (by simp [-Bool.exists_bool, -Int.not_le, -Int.not_lt, -getElem?_pos, -List.getD_eq_getElem?_getD])
    · omega
    simp -implicitDefEqProofs -dsimp +contextual [-Bool.exists_bool, -Int.not_le, -Int.not_lt, -getElem?_pos, -List.getD_eq_getElem?_getD, h_c, q2]
    refine Owns.marks (s := 23) (L := c.2) ?_ c.1 (1) ⟨by omega, by omega⟩ l_c d_c ?_ ?_ ?_
    · repeat first | exact Owns.mark _ _ _ | exact Owns.call _ _ _ | refine Owns.set ?_ (by simp [-Bool.exists_bool, -Int.not_le, -Int.not_lt, -getElem?_pos, -List.getD_eq_getElem?_getD]) | refine Owns.other ?_ (by simp [-Bool.exists_bool, -Int.not_le, -Int.not_lt, -getElem?_pos, -List.getD_eq_getElem?_getD]) | refine Owns.otherM ?_ (by simp [-Bool.exists_bool, -Int.not_le, -Int.not_lt, -getElem?_pos, -List.getD_eq_getElem?_getD])
    · omega
    · omega
    simp -implicitDefEqProofs -dsimp +contextual [-Bool.exists_bool, -Int.not_le, -Int.not_lt, -getElem?_pos, -List.getD_eq_getElem?_getD, h_c, q2]
    refine CallJ.pure (ks := []) (eqCell (0, []) (by simp [-Bool.exists_bool, -Int.not_le, -Int.not_lt, -getElem?_pos, -List.getD_eq_getElem?_getD]) (by simp [-Bool.exists_bool, -Int.not_le, -Int.not_lt, -getElem?_pos, -List.getD_eq_getElem?_getD])) (by simp [-Bool.exists_bool, -Int.not_le, -Int.not_lt, -getElem?_pos, -List.getD_eq_getElem?_getD, asD]) (by simp [-Bool.exists_bool, -Int.not_le, -Int.not_lt, -getElem?_pos, -List.getD_eq_getElem?_getD]) ?_
    simp -implicitDefEqProofs -dsimp +contextual [-Bool.exists_bool, -Int.not_le, -Int.not_lt, -getElem?_pos, -List.getD_eq_getElem?_getD, h_c, q2]
    refine CallJ.pure (ks := []) (markCell0 0 1) (by simp [-Bool.exists_bool, -Int.not_le, -Int.not_lt, -getElem?_pos, -List.getD_eq_getElem?_getD, asD]) (by simp [-Bool.exists_bool, -Int.not_le, -Int.not_lt, -getElem?_pos, -List.getD_eq_getElem?_getD]) ?_
    simp -implicitDefEqProofs -dsimp +contextual [-Bool.exists_bool, -Int.not_le, -Int.not_lt, -getElem?_pos, -List.getD_eq_getElem?_getD, h_c, q2]
    refine CallJ.pure (ks := []) (heldCell0 0 1) (by simp [-Bool.exists_bool, -Int.not_le, -Int.not_lt, -getElem?_pos, -List.getD_eq_getElem?_getD, asD]) (by simp [-Bool.exists_bool, -Int.not_le, -Int.not_lt, -getElem?_pos, -List.getD_eq_getElem?_getD]) ?_
    simp -implicitDefEqProofs -dsimp +contextual [-Bool.exists_bool, -Int.not_le, -Int.not_lt, -getElem?_pos, -List.getD_eq_getElem?_getD, h_c, q2]
    refine CallJ.pure (toCellW c l_c d_c) rfl (by simp [-Bool.exists_bool, -Int.not_le, -Int.not_lt, -getElem?_pos, -List.getD_eq_getElem?_getD]) ?_
    simp -implicitDefEqProofs -dsimp +contextual [-Bool.exists_bool, -Int.not_le, -Int.not_lt, -getElem?_pos, -List.getD_eq_getElem?_getD, h_c, q2]
    refine CallJ.pure (toRatio q.1 q.2) rfl (by simp [-Bool.exists_bool, -Int.not_le, -Int.not_lt, -getElem?_pos, -List.getD_eq_getElem?_getD]) ?_
    simp -implicitDefEqProofs -dsimp +contextual [-Bool.exists_bool, -Int.not_le, -Int.not_lt, -getElem?_pos, -List.getD_eq_getElem?_getD, h_c, q2]
    refine CallJ.pure hW rfl (by simp [-Bool.exists_bool, -Int.not_le, -Int.not_lt, -getElem?_pos, -List.getD_eq_getElem?_getD]) ?_
    simp -implicitDefEqProofs -dsimp +contextual [-Bool.exists_bool, -Int.not_le, -Int.not_lt, -getElem?_pos, -List.getD_eq_getElem?_getD, h_c, q2]
    refine CallJ.pure (ks := []) (eqCell (0, []) (by simp [-Bool.exists_bool, -Int.not_le, -Int.not_lt, -getElem?_pos, -List.getD_eq_getElem?_getD]) (by simp [-Bool.exists_bool, -Int.not_le, -Int.not_lt, -getElem?_pos, -List.getD_eq_getElem?_getD])) (by simp [-Bool.exists_bool, -Int.not_le, -Int.not_lt, -getElem?_pos, -List.getD_eq_getElem?_getD, asD]) (by simp [-Bool.exists_bool, -Int.not_le, -Int.not_lt, -getElem?_pos, -List.getD_eq_getElem?_getD]) ?_
    simp -implicitDefEqProofs -dsimp +contextual [-Bool.exists_bool, -Int.not_le, -Int.not_lt, -getElem?_pos, -List.getD_eq_getElem?_getD, h_c, q2]
    refine CallJ.pure (ks := []) (heldCell0 0 1) (by simp [-Bool.exists_bool, -Int.not_le, -Int.not_lt, -getElem?_pos, -List.getD_eq_getElem?_getD, asD]) (by simp [-Bool.exists_bool, -Int.not_le, -Int.not_lt, -getElem?_pos, -List.getD_eq_getElem?_getD]) ?_
    simp -implicitDefEqProofs -dsimp +contextual [-Bool.exists_bool, -Int.not_le, -Int.not_lt, -getElem?_pos, -List.getD_eq_getElem?_getD, h_c, q2]
    exact RLe.bb rfl
end Go.Proofs.Ytkicjflhokckgaa.ZL
