/- Texts of the abs road (plain values, what code does to them, and the contracts of the functions that the law reaches). No condition. -/
import Derived.Test.YtkicjflhokckgaaG5FnExactCoversCell
import Derived.Shelf.Spec.SlicesGrow
import Derived.Test.YtkicjflhokckgaaProg
namespace Go.Proofs
open Go.Shelf
def Try.growL_ren : Go.Shelf.Ren := ⟨fun | 4 => 101 | n => n, fun | 22 => 26 | 25 => 52 | 3 => 3 | 4 => 4 | 9 => 9 | 20 => 20 | 0 => 0 | n => n, fun | n => n⟩
theorem Try.growL : Go.Proofs.Lays8.n4 Try.prog Try.growL_ren := {
  mixed := by kernel_rfl
  f4 := ⟨Try.f101.name, by decide, Try.func101.trans (congrArg some (by kernel_rfl))⟩
  t0 := Try.underlying0
  a0 := Try.isAgg0
  z0 := Try.sizeOf0
  v0 := Try.zeroValue0
  t3 := Try.underlying3
  a3 := Try.isAgg3
  z3 := Try.sizeOf3
  v3 := Try.zeroValue3
  t4 := Try.underlying4
  a4 := Try.isAgg4
  z4 := Try.sizeOf4
  v4 := Try.zeroValue4
  t9 := Try.underlying9
  a9 := Try.isAgg9
  z9 := Try.sizeOf9
  v9 := Try.zeroValue9
  t20 := Try.underlying20
  a20 := Try.isAgg20
  z20 := Try.sizeOf20
  v20 := Try.zeroValue20
  t22 := Try.underlying26
  a22 := Try.isAgg26
  z22 := Try.sizeOf26
  v22 := Try.zeroValue26 }
end Go.Proofs
namespace Go.Proofs.Ytkicjflhokckgaa.ZL
open Go Go.Proofs.Ytkicjflhokckgaa.Abs Go.Proofs.Ytkicjflhokckgaa.Abs.Pl Go.RowKit Go.Proofs
set_option linter.unusedVariables false
set_option linter.unusedSimpArgs false
theorem iGrow (n : Nat) (hn : n ≤ 1048576) : Cn Try.prog 101 [.nil, I n] (.ref (0, 0) 0) (hl [((0, 0), .row 52 0 [])]) := by
  refine ⟨Try.call101, fun w F args hF hden => ?_⟩
  obtain ⟨A, rfl⟩ : ∃ A, args = #[.slice A 0 0, .int .i64 n] := by
    unfold DenVs at hden
    obtain ⟨u, r, h1, h2, h3⟩ := hden
    unfold DenVs at h3
    obtain ⟨u', r', rfl, h4, h5⟩ := h3
    unfold DenVs at h5
    subst h5
    unfold DenV at h2
    obtain ⟨A, h6⟩ := h2
    exact ⟨A, Array.toList_inj.1 (by rw [h1, h6, h4.int])⟩
  obtain ⟨i0, hi, hz, hzero⟩ : ∃ i0, Try.prog.info? 52 = some i0 ∧ i0.size = 3 ∧ i0.bytes = 40 := digest_size dg52
  obtain ⟨i1, z, h1, h2, h3⟩ := digest_zero dg52
  rw [hi] at h1
  obtain rfl := Option.some.inj h1
  have hzc : z.cells.size = 3 := by
    have := congrArg List.length h3
    simpa [-Bool.exists_bool, -Int.not_le, -Int.not_lt, -getElem?_pos, -List.getD_eq_getElem?_getD] using this.symm
  by_cases h0 : n = 0
  · subst h0
    have hS := Any8.slices_Grow_room (P := Try.prog) (ρ := Try.growL_ren) Try.growL A 0 0 0 w (by omega) (by omega) (by omega) (by omega)
    change Calls Try.prog 101 _ _ _ at hS
    refine hS.mono ?_
    rintro e w' ⟨rfl, rfl⟩
    refine ⟨_, fun k => if k = (0, 0) then some (.slice A 0 0) else none, F, rfl, fun b h => h, ?_, ⟨fun k e hk => ?_, fun k k' e e' u u' b hk hk' _ _ _ _ _ _ => ?_⟩, Chg.refl _ _, fun k e u b hk _ hu hb => ?_, fun k hk => if_neg (fun e => hk (by rw [e]))⟩
    · unfold DenV; exact ⟨rfl, A, 0, rfl, .inl rfl⟩
    · simp only [hl] at hk
      split at hk
      · rename_i h; subst h
        obtain rfl := Option.some.inj hk
        exact ⟨_, rfl, .inr ⟨A, rfl, rfl, rfl⟩, fun _ b hb => by cases A <;> simp [-Bool.exists_bool, -Int.not_le, -Int.not_lt, -getElem?_pos, -List.getD_eq_getElem?_getD, blkOf] at hb⟩
      · exact absurd hk (by simp [-Bool.exists_bool, -Int.not_le, -Int.not_lt, -getElem?_pos, -List.getD_eq_getElem?_getD])
    · simp only [hl] at hk hk'
      split at hk <;> split at hk'
      · rename_i h h'; rw [h, h']
      · exact absurd hk' (by simp [-Bool.exists_bool, -Int.not_le, -Int.not_lt, -getElem?_pos, -List.getD_eq_getElem?_getD])
      · exact absurd hk (by simp [-Bool.exists_bool, -Int.not_le, -Int.not_lt, -getElem?_pos, -List.getD_eq_getElem?_getD])
      · exact absurd hk (by simp [-Bool.exists_bool, -Int.not_le, -Int.not_lt, -getElem?_pos, -List.getD_eq_getElem?_getD])
    · simp only at hu
      split at hu
      · obtain rfl := Option.some.inj hu; cases A <;> simp [-Bool.exists_bool, -Int.not_le, -Int.not_lt, -getElem?_pos, -List.getD_eq_getElem?_getD, blkOf] at hb
      · exact absurd hu (by simp [-Bool.exists_bool, -Int.not_le, -Int.not_lt, -getElem?_pos, -List.getD_eq_getElem?_getD])
  · have hS := Any8.slices_Grow_grow (P := Try.prog) (ρ := Try.growL_ren) Try.growL i0 z hi h2 (by omega) A 0 0 n [] w (by omega) (by omega) (by rw [hzero]; omega) (by omega) (by simp [-Bool.exists_bool, -Int.not_le, -Int.not_lt, -getElem?_pos, -List.getD_eq_getElem?_getD]) (fun _ => rfl) (fun a _ j v h => by simp [-Bool.exists_bool, -Int.not_le, -Int.not_lt, -getElem?_pos, -List.getD_eq_getElem?_getD] at h)
    change Calls Try.prog 101 _ _ _ at hS
    refine hS.mono ?_
    rintro e w' ⟨rfl, rfl⟩
    have hge := grownCap_ge w (0 + n) 0 52
    have hle := grownCap_le_maxLen w (0 + n) 0 52 (by unfold maxLen; omega)
    have et : Try.growL_ren.t 25 = 52 := rfl
    rw [et]
    generalize grownCap w (0 + n) 0 52 = cp at hge hle ⊢
    have hb0 : blkOf (.slice (some ⟨w.heap.size, 0, none⟩) 0 cp) = some w.heap.size := by simp only [blkOf]; rw [if_neg (by omega)]
    refine ⟨_, fun k => if k = (0, 0) then some (.slice (some ⟨w.heap.size, 0, none⟩) 0 cp) else none, fun b => F b ∨ b = w.heap.size, rfl, fun b h => .inl h, ?_, ⟨fun k e hk => ?_, fun k k' e e' u u' b hk hk' _ _ _ _ _ _ => ?_⟩, ⟨rfl, rfl, rfl, by simp [-Bool.exists_bool, -Int.not_le, -Int.not_lt, -getElem?_pos, -List.getD_eq_getElem?_getD], fun b _ h => (Chg.alloc (fun _ => False) w.drew _).block b (fun h => h) h, Nat.le_succ _⟩, fun k e u b hk _ hu hb => ?_, fun k hk => if_neg (fun e => hk (by rw [e]))⟩
    · unfold DenV; exact ⟨rfl, _, cp, rfl, .inl rfl⟩
    · simp only [hl] at hk
      split at hk
      · rename_i h; subst h
        obtain rfl := Option.some.inj hk
        refine ⟨_, rfl, .inl ⟨[], i0, hi, ⟨by simp [-Bool.exists_bool, -Int.not_le, -Int.not_lt, -getElem?_pos, -List.getD_eq_getElem?_getD], .inr ⟨w.heap.size, cp, _, rfl, Nat.zero_le _, heap_alloc_new w.drew _, Nat.zero_le _, hle, ?_, by simp [-Bool.exists_bool, -Int.not_le, -Int.not_lt, -getElem?_pos, -List.getD_eq_getElem?_getD]⟩⟩, DenVs.nil⟩, fun _ b hb => ?_⟩
        · simp only [Array.size_append, List.size_toArray, size_zeroCells, hzc, hz, List.length_nil]
          omega
        · rw [hb0] at hb; exact .inr (Option.some.inj hb).symm
      · exact absurd hk (by simp [-Bool.exists_bool, -Int.not_le, -Int.not_lt, -getElem?_pos, -List.getD_eq_getElem?_getD])
    · simp only [hl] at hk hk'
      split at hk <;> split at hk'
      · rename_i h h'; rw [h, h']
      · exact absurd hk' (by simp [-Bool.exists_bool, -Int.not_le, -Int.not_lt, -getElem?_pos, -List.getD_eq_getElem?_getD])
      · exact absurd hk (by simp [-Bool.exists_bool, -Int.not_le, -Int.not_lt, -getElem?_pos, -List.getD_eq_getElem?_getD])
      · exact absurd hk (by simp [-Bool.exists_bool, -Int.not_le, -Int.not_lt, -getElem?_pos, -List.getD_eq_getElem?_getD])
    · simp only at hu
      split at hu
      · obtain rfl := Option.some.inj hu; rw [hb0] at hb; have := Option.some.inj hb; omega
      · exact absurd hu (by simp [-Bool.exists_bool, -Int.not_le, -Int.not_lt, -getElem?_pos, -List.getD_eq_getElem?_getD])
end Go.Proofs.Ytkicjflhokckgaa.ZL
namespace Go.Proofs.Ytkicjflhokckgaa.ZL
open Go Go.Proofs.Ytkicjflhokckgaa.Abs Go.Proofs.Ytkicjflhokckgaa.Abs.Pl Go.RowKit Go.Proofs
set_option linter.unusedVariables false
set_option linter.unusedSimpArgs false
theorem negAt_t {a : At} (h : isAt a.1 a.2.1 = true) : negAt a.1 a.2.1 a.2.2 = (a.1.map (- ·), -a.2.1, !a.2.2, true) := if_pos h
theorem negAt_f {a : At} (h : isAt a.1 a.2.1 = false) : negAt a.1 a.2.1 a.2.2 = noAt := if_neg (by rw [h]; simp [-Bool.exists_bool, -Int.not_le, -Int.not_lt, -getElem?_pos, -List.getD_eq_getElem?_getD])
theorem NegateAtom (a : At) : Cn Try.prog 69 [A1 a] (A2 (negAt a.1 a.2.1 a.2.2)) hemp := by
  refine Cn.of [] mixed Try.func69 rfl Try.call69 (by kernel_rfl) rfl ?_
  simp -implicitDefEqProofs -dsimp +contextual [-Bool.exists_bool, -Int.not_le, -Int.not_lt, -getElem?_pos, -List.getD_eq_getElem?_getD, Try.f69]
  refine CallJ.pure (IsAtom a) rfl (by simp [-Bool.exists_bool, -Int.not_le, -Int.not_lt, -getElem?_pos, -List.getD_eq_getElem?_getD]) ?_
  simp -implicitDefEqProofs -dsimp +contextual [-Bool.exists_bool, -Int.not_le, -Int.not_lt, -getElem?_pos, -List.getD_eq_getElem?_getD]
  refine ⟨fun ha => ?_, fun ha => RLe.pure 3 (by rw [negAt_f ha]; simp [-Bool.exists_bool, -Int.not_le, -Int.not_lt, -getElem?_pos, -List.getD_eq_getElem?_getD, noAt, setH])⟩
  rw [negAt_t ha]
  have p := isAt_iff.1 ha
  have ng : ∀ {x : Int}, isNum x = true → IntKind.wrap .i64 (-x) = -x := fun {x} h => by
    have := isNum_iff.1 h
    exact wr (by omega) (by omega)
  rw [ng p.2.1]
  refine WP.loop mixed [] (fun i : Nat => ⟨tl [(1, .ptr (0, 0) 0), (2, .ptr (1, 0) 0), (4, .ptr (2, 0) 0), (5, I i)], hl [((0, 0), .box (aV a)), ((1, 0), .box [.nil, I 0, B false]), ((2, 0), .box [.ref (3, 0) i, I (-a.2.1), B (!a.2.2)]), ((3, 0), .row 3 i (dl ((a.1.take i).map fun x => .int .i64 (-x))))], 4⟩) (fun i => i ≤ a.1.length) (fun i => a.1.length - i) 0 (by kernel_rfl) ?_ ?_ ?_
  · refine Le.trans (Le.nilBox (13, 0) 0 3 (c := [.nil, I (-a.2.1), B (!a.2.2)]) (by simp [-Bool.exists_bool, -Int.not_le, -Int.not_lt, -getElem?_pos, -List.getD_eq_getElem?_getD, setH]) rfl) (Le.told [((2, 0), (13, 0)), ((3, 0), (16, 0))] ?_ ?_ ?_) <;> simp [-Bool.exists_bool, -Int.not_le, -Int.not_lt, -getElem?_pos, -List.getD_eq_getElem?_getD, setH, ELe]
  · simp [-Bool.exists_bool, -Int.not_le, -Int.not_lt, -getElem?_pos, -List.getD_eq_getElem?_getD]
  · intro i hi
    by_cases h : i < a.1.length
    · simp -implicitDefEqProofs -dsimp +contextual [-Bool.exists_bool, -Int.not_le, -Int.not_lt, -getElem?_pos, -List.getD_eq_getElem?_getD, h]
      rw [ng (p.2.2.1 _ (nth_mem h))]
      refine ⟨⟨by omega, by simp [-Bool.exists_bool, -Int.not_le, -Int.not_lt, -getElem?_pos, -List.getD_eq_getElem?_getD, maxLen]; omega⟩, by kernel_rfl, i + 1, h, by omega, ?_⟩
      rw [wr (by omega) (by omega)]
      refine Le.told [((3, 0), (18, 0))] ?_ ?_ ?_ <;> simp [-Bool.exists_bool, -Int.not_le, -Int.not_lt, -getElem?_pos, -List.getD_eq_getElem?_getD]
      rw [← List.map_take, ← List.map_take, nth_take h, List.map_append]
      rfl
    · obtain rfl : i = a.1.length := by omega
      simp -implicitDefEqProofs -dsimp +contextual [-Bool.exists_bool, -Int.not_le, -Int.not_lt, -getElem?_pos, -List.getD_eq_getElem?_getD, h]
      refine RLe.pure 3 ?_
      simp [-Bool.exists_bool, -Int.not_le, -Int.not_lt, -getElem?_pos, -List.getD_eq_getElem?_getD, setH]
def negs (l : List Int) (i : Nat) : List Int := (l.take i).map (- ·) ++ List.replicate (l.length - i) 0
theorem negs_len (l : List Int) (i : Nat) (h : i ≤ l.length) : (negs l i).length = l.length := by simp [-Bool.exists_bool, -Int.not_le, -Int.not_lt, -getElem?_pos, -List.getD_eq_getElem?_getD, negs]; omega
theorem negs_set (l : List Int) (i : Nat) (h : i < l.length) : (negs l i).set i (-nth l i) = negs l (i + 1) := by
  have e : l.length - i = (l.length - (i + 1)) + 1 := by omega
  unfold negs
  rw [e, List.replicate_succ, nth_take h, List.set_append_right _ _ (by simp [-Bool.exists_bool, -Int.not_le, -Int.not_lt, -getElem?_pos, -List.getD_eq_getElem?_getD]; omega)]
  simp [-Bool.exists_bool, -Int.not_le, -Int.not_lt, -getElem?_pos, -List.getD_eq_getElem?_getD, Nat.min_eq_left (Nat.le_of_lt h)]
theorem iNegateAtom (a : At) : Cn Try.prog 71 [A1 a] (A2 (negAt a.1 a.2.1 a.2.2)) hemp := by
  refine Cn.of [] mixed Try.func71 rfl Try.call71 (by kernel_rfl) rfl ?_
  simp -implicitDefEqProofs -dsimp +contextual [-Bool.exists_bool, -Int.not_le, -Int.not_lt, -getElem?_pos, -List.getD_eq_getElem?_getD, Try.f71]
  refine CallJ.pure (iIsAtom a) rfl (by simp [-Bool.exists_bool, -Int.not_le, -Int.not_lt, -getElem?_pos, -List.getD_eq_getElem?_getD]) ?_
  simp -implicitDefEqProofs -dsimp +contextual [-Bool.exists_bool, -Int.not_le, -Int.not_lt, -getElem?_pos, -List.getD_eq_getElem?_getD]
  refine ⟨fun ha => ?_, fun ha => RLe.pure 3 (by rw [negAt_f ha]; simp [-Bool.exists_bool, -Int.not_le, -Int.not_lt, -getElem?_pos, -List.getD_eq_getElem?_getD, noAt, setH])⟩
  rw [negAt_t ha]
  have p := isAt_iff.1 ha
  have ng : ∀ {x : Int}, isNum x = true → IntKind.wrap .i64 (-x) = -x := fun {x} h => by
    have := isNum_iff.1 h
    exact wr (by omega) (by omega)
  rw [ng p.2.1]
  refine ⟨⟨by omega, by simp [-Bool.exists_bool, -Int.not_le, -Int.not_lt, -getElem?_pos, -List.getD_eq_getElem?_getD, maxLen]; omega⟩, ?_⟩
  refine WP.loop mixed [] (fun i : Nat => ⟨tl [(2, .ptr (1, 0) 0), (4, .ptr (2, 0) 0), (23, Is a.1), (24, I a.1.length), (25, I i)], hl [((1, 0), .box [.nil, I 0, B false]), ((2, 0), .box [.ref (3, 0) a.1.length, I (-a.2.1), B (!a.2.2)]), ((3, 0), .row 3 a.1.length (dl ((negs a.1 i).map (.int .i64))))], 4⟩) (fun i => i ≤ a.1.length) (fun i => a.1.length - i) 0 (by kernel_rfl) ?_ ?_ ?_
  · refine Le.told [((2, 0), (17, 0)), ((3, 0), (9, 0))] ?_ ?_ ?_ <;> simp [-Bool.exists_bool, -Int.not_le, -Int.not_lt, -getElem?_pos, -List.getD_eq_getElem?_getD, setH, negs]
  · simp [-Bool.exists_bool, -Int.not_le, -Int.not_lt, -getElem?_pos, -List.getD_eq_getElem?_getD]
  · intro i hi
    by_cases h : i < a.1.length
    · have h1 : i + 1 ≤ (negs a.1 i).length := by rw [negs_len _ i hi]; exact h
      simp -implicitDefEqProofs -dsimp +contextual [-Bool.exists_bool, -Int.not_le, -Int.not_lt, -getElem?_pos, -List.getD_eq_getElem?_getD, h, h1]
      rw [ng (p.2.2.1 _ (nth_mem h))]
      refine ⟨i + 1, h, by omega, ?_⟩
      rw [wr (by omega) (by omega)]
      refine Le.told [] ?_ ?_ ?_ <;> simp [-Bool.exists_bool, -Int.not_le, -Int.not_lt, -getElem?_pos, -List.getD_eq_getElem?_getD]
      rw [← negs_set a.1 i h, List.map_set, List.set_eq_take_append_cons_drop, if_pos (by rw [List.length_map]; exact h1)]
    · obtain rfl : i = a.1.length := by omega
      simp -implicitDefEqProofs -dsimp +contextual [-Bool.exists_bool, -Int.not_le, -Int.not_lt, -getElem?_pos, -List.getD_eq_getElem?_getD, h]
      refine RLe.pure 3 ?_
      simp [-Bool.exists_bool, -Int.not_le, -Int.not_lt, -getElem?_pos, -List.getD_eq_getElem?_getD, setH, negs]
theorem _root_.Go.Proofs.Ytkicjflhokckgaa.Abs.CallJ.same {P : Program} {N nx s f : Nat} {H : Store} {vs : List V} {r : V} {Hr : Store} {K : Eff → Prop} (h : Cn P f vs r Hr) (ha : allKs (fun _ => False) vs)
    (hk : K ⟨mapK (atS s) r, [], [], upCall s Hr⟩) : CallJ P N nx s H f vs K := by
  refine ⟨_, hk, h.enter, upCall_ups, fun k hk => absurd hk (by simp [-Bool.exists_bool, -Int.not_le, -Int.not_lt, -getElem?_pos, -List.getD_eq_getElem?_getD]), fun k hk => absurd hk (by simp [-Bool.exists_bool, -Int.not_le, -Int.not_lt, -getElem?_pos, -List.getD_eq_getElem?_getD]), fun {w0 F0 E0 fr T Hc a w M F us dst} hfr hat hden hH hd => ?_⟩
  let Fc : Nat → Prop := fun b => F b ∧ b < w.heap.size
  have hm : DenVs M Fc w vs us.toList := hden.move (fun _ _ h => h) ⟨fun b hb => .inl hb.1, fun _ _ _ => rfl⟩
  refine (h.run w Fc us (fun b hb => hb.2) (DenVs.cong (M := M) (g := fun k => k) (p := fun _ => False) (fun k h => h.elim) ha (by rw [mapL_id]; exact hm))).mono ?_
  rintro e w' ⟨v, M', F', rfl, hFF, hr, hR, hc, hnew, hM0⟩
  refine ⟨v, rfl, hat.called (F2 := fun b => F' b ∧ (F b ∨ w.heap.size ≤ b)) hfr hd hc (fun b hb => hb.2) (fun b h1 h2 => ⟨hFF b ⟨h1, h2⟩, .inl h1⟩) hM0 ?_ ?_ hnew⟩
  · exact hr.move (fun _ _ h => h) ⟨fun b hb => .inl hb.1, fun _ _ _ => rfl⟩
  · refine hR.mono (fun b hb => hb.1) fun k e u b h1 h2 h3 h4 => ⟨?_, .inr (hnew k e u b h1 h2 h3 h4)⟩
    obtain ⟨u', hu', _, hF⟩ := hR.ent k e h1
    rw [h3] at hu'
    obtain rfl := Option.some.inj hu'
    exact hF h2 b h4
def sD (L : List At) : D := .sl L.length (asD L)
abbrev Ss (Ls : List (List At)) : V := .d (.sl Ls.length (Ls.map sD))
theorem Ss_get (Ls : List (List At)) (i : Nat) (h : i < Ls.length) : (Ls.map sD)[i]? = some (sD (nth Ls i)) := by rw [List.getElem?_map, nth_some h]; rfl
def tot : List (List At) → Nat
  | [] => 0
  | L :: Ls => L.length + tot Ls
theorem tot_flat : ∀ Ls : List (List At), Ls.flatten.length = tot Ls
  | [] => rfl
  | L :: Ls => by simp [-Bool.exists_bool, -Int.not_le, -Int.not_lt, -getElem?_pos, -List.getD_eq_getElem?_getD, tot, tot_flat Ls]
theorem tot_drop (Ls : List (List At)) (i : Nat) : tot (Ls.drop i) ≤ tot Ls := by
  induction Ls generalizing i with
  | nil => simp [-Bool.exists_bool, -Int.not_le, -Int.not_lt, -getElem?_pos, -List.getD_eq_getElem?_getD]
  | cons L Ls ih => cases i with
    | zero => exact Nat.le_refl _
    | succ i => have := ih i; simp [-Bool.exists_bool, -Int.not_le, -Int.not_lt, -getElem?_pos, -List.getD_eq_getElem?_getD, tot]; omega
theorem iConcat (Ls : List (List At)) (h : Ls.length ≤ 1048576) (ht : tot Ls ≤ 1048576) : Cn Try.prog 59 [Ss Ls] (.ref (0, 0) Ls.flatten.length) (Go.Proofs.Ytkicjflhokckgaa.Abs.hl [((0, 0), .row 52 Ls.flatten.length (dl (asD Ls.flatten)))]) := by
  refine Cn.of [] mixed Try.func59 rfl Try.call59 (by kernel_rfl) rfl ?_
  simp -implicitDefEqProofs -dsimp +contextual [-Bool.exists_bool, -Int.not_le, -Int.not_lt, -getElem?_pos, -List.getD_eq_getElem?_getD, Try.f59]
  refine WP.loop mixed [] (fun p : Nat × Nat => ⟨tl [(0, Ss Ls), (3, I p.2), (9, Ss Ls), (10, I Ls.length), (11, I p.1)], hl [], 1⟩) (fun p => p.1 ≤ Ls.length ∧ p.2 + tot (Ls.drop p.1) = tot Ls) (fun p => Ls.length - p.1) (0, 0) (by kernel_rfl) ?_ ?_ ?_
  · refine Le.told [] ?_ ?_ ?_ <;> simp [-Bool.exists_bool, -Int.not_le, -Int.not_lt, -getElem?_pos, -List.getD_eq_getElem?_getD]
  · exact ⟨Nat.zero_le _, by simp [-Bool.exists_bool, -Int.not_le, -Int.not_lt, -getElem?_pos, -List.getD_eq_getElem?_getD]⟩
  · rintro ⟨i, n⟩ ⟨hi, hn⟩
    simp only at hi hn
    by_cases h1 : i < Ls.length
    · have hg := Ss_get Ls i h1
      simp only [sD] at hg
      rw [nth_drop h1, tot] at hn
      have hw : IntKind.wrap .i64 ((n : Int) + (nth Ls i).length) = (n : Int) + (nth Ls i).length := wr (by omega) (by omega)
      have h0 : ¬ ((n : Int) + (nth Ls i).length < 0) := by omega
      simp -implicitDefEqProofs -dsimp +contextual [-Bool.exists_bool, -Int.not_le, -Int.not_lt, -getElem?_pos, -List.getD_eq_getElem?_getD, h1, hg, hw, h0, sD]
      refine ⟨i + 1, n + (nth Ls i).length, ⟨h1, by omega⟩, by omega, ?_⟩
      rw [wr (by omega) (by omega)]
      refine Le.told [] ?_ ?_ ?_ <;> simp [-Bool.exists_bool, -Int.not_le, -Int.not_lt, -getElem?_pos, -List.getD_eq_getElem?_getD]
    · rw [drop_nil (by omega), tot, Nat.add_zero] at hn
      simp -implicitDefEqProofs -dsimp +contextual [-Bool.exists_bool, -Int.not_le, -Int.not_lt, -getElem?_pos, -List.getD_eq_getElem?_getD, h1]
      refine CallJ.same (iGrow n (by omega)) (by simp [-Bool.exists_bool, -Int.not_le, -Int.not_lt, -getElem?_pos, -List.getD_eq_getElem?_getD, allKs, allK]) ?_
      simp -implicitDefEqProofs -dsimp +contextual [-Bool.exists_bool, -Int.not_le, -Int.not_lt, -getElem?_pos, -List.getD_eq_getElem?_getD]
      refine WP.loop mixed [] (fun i : Nat => ⟨tl [(6, .ref (3, 0) (Ls.take i).flatten.length), (25, Ss Ls), (26, I Ls.length), (27, I i)], Go.Proofs.Ytkicjflhokckgaa.Abs.hl [((3, 0), .row 52 (Ls.take i).flatten.length (dl (asD (Ls.take i).flatten)))], 4⟩) (fun i => i ≤ Ls.length) (fun i => Ls.length - i) 0 (by kernel_rfl) ?_ ?_ ?_
      · refine Le.told [] ?_ ?_ ?_ <;> simp [-Bool.exists_bool, -Int.not_le, -Int.not_lt, -getElem?_pos, -List.getD_eq_getElem?_getD, asD, dl_nil]
      · simp [-Bool.exists_bool, -Int.not_le, -Int.not_lt, -getElem?_pos, -List.getD_eq_getElem?_getD]
      · intro i hi
        by_cases h2 : i < Ls.length
        · have hg := Ss_get Ls i h2
          simp only [sD] at hg
          have hf : (Ls.take (i + 1)).flatten = (Ls.take i).flatten ++ nth Ls i := by rw [nth_take h2]; simp [-Bool.exists_bool, -Int.not_le, -Int.not_lt, -getElem?_pos, -List.getD_eq_getElem?_getD]
          have hfl : (Ls.take i).flatten.length + (nth Ls i).length ≤ 1048576 := by
            have e : Ls.flatten = (Ls.take (i + 1)).flatten ++ (Ls.drop (i + 1)).flatten := by rw [← List.flatten_append, List.take_append_drop]
            have e2 := congrArg List.length e
            rw [hf, List.length_append, List.length_append, tot_flat] at e2
            omega
          have hs := congrArg List.length hf
          simp only [List.length_append, List.length_flatten, List.map_take] at hs
          simp -implicitDefEqProofs -dsimp +contextual [-Bool.exists_bool, -Int.not_le, -Int.not_lt, -getElem?_pos, -List.getD_eq_getElem?_getD, h2, hg, sD]
          refine ⟨⟨by simp [-Bool.exists_bool, -Int.not_le, -Int.not_lt, -getElem?_pos, -List.getD_eq_getElem?_getD] at hfl; omega, by simp [-Bool.exists_bool, -Int.not_le, -Int.not_lt, -getElem?_pos, -List.getD_eq_getElem?_getD] at hfl; simp [-Bool.exists_bool, -Int.not_le, -Int.not_lt, -getElem?_pos, -List.getD_eq_getElem?_getD, maxLen]; omega⟩, i + 1, h2, by omega, ?_⟩
          rw [wr (by omega) (by omega)]
          refine Le.told [((3, 0), (10, 0))] ?_ ?_ ?_ <;> simp [-Bool.exists_bool, -Int.not_le, -Int.not_lt, -getElem?_pos, -List.getD_eq_getElem?_getD, hf, asD_append, hs]
        · obtain rfl : i = Ls.length := by omega
          simp -implicitDefEqProofs -dsimp +contextual [-Bool.exists_bool, -Int.not_le, -Int.not_lt, -getElem?_pos, -List.getD_eq_getElem?_getD, h2]
          refine RLe.told [((0, 0), (3, 0))] ?_ ?_ ?_ <;> simp [-Bool.exists_bool, -Int.not_le, -Int.not_lt, -getElem?_pos, -List.getD_eq_getElem?_getD]
theorem iConcatW (Ls : List (List At)) (h : Ls.length ≤ 1048576) (ht : tot Ls ≤ 1048576) : Cn Try.prog 59 [Ss Ls] (As Ls.flatten) hemp := Cn.freeze 2 (iConcat Ls h ht) (by simp [-Bool.exists_bool, -Int.not_le, -Int.not_lt, -getElem?_pos, -List.getD_eq_getElem?_getD, lendT, lendV])
def meetC (a b : Ce) : Int × List At × Bool := if isCe a.1 a.2 = true ∧ isCe b.1 b.2 = true ∧ a.1 = b.1 then limN a.1 (a.2 ++ b.2) else (0, [], false)
theorem meetC_f {a b : Ce} (h : ¬ (meetC a b).2.2 = true) : meetC a b = (0, [], false) := by
  unfold meetC at h ⊢
  split
  · rename_i h2; rw [if_pos h2] at h; exact limN_f h
  · rfl
end Go.Proofs.Ytkicjflhokckgaa.ZL
namespace Go.Proofs.Ytkicjflhokckgaa.ZL
open Go Go.Proofs.Ytkicjflhokckgaa.Abs Go.Proofs.Ytkicjflhokckgaa.Abs.Pl Go.RowKit Go.Proofs
set_option linter.unusedVariables false
set_option linter.unusedSimpArgs false
theorem MeetCells (a b : Ce) (ha : a.2.length ≤ 1048576) (hb : b.2.length ≤ 1048576) : Cn Try.prog 21 [.agg (cV a), .agg (cV b)] (D2 (meetC a b)) hemp := by
  refine Cn.of [0] mixed Try.func21 rfl Try.call21 (by kernel_rfl) rfl ?_
  simp -implicitDefEqProofs -dsimp +contextual [-Bool.exists_bool, -Int.not_le, -Int.not_lt, -getElem?_pos, -List.getD_eq_getElem?_getD, Try.f21]
  have no : ∀ {H : Store}, ¬ (isCe a.1 a.2 = true ∧ isCe b.1 b.2 = true ∧ a.1 = b.1) → RLe Try.prog H (V.tup [V.agg [V.d (D.int IntKind.i64 0), V.nil], V.d (D.bool false)]) (D2 (meetC a b)) hemp := fun h => by
    rw [meetC, if_neg h]
    exact RLe.pure 2 (by simp [-Bool.exists_bool, -Int.not_le, -Int.not_lt, -getElem?_pos, -List.getD_eq_getElem?_getD, asD])
  refine CallJ.pure (IsCell a.1 a.2 ha) rfl (by simp [-Bool.exists_bool, -Int.not_le, -Int.not_lt, -getElem?_pos, -List.getD_eq_getElem?_getD]) ?_
  simp -implicitDefEqProofs -dsimp +contextual [-Bool.exists_bool, -Int.not_le, -Int.not_lt, -getElem?_pos, -List.getD_eq_getElem?_getD]
  refine ⟨fun h1 => ?_, fun h1 => no (by simp [-Bool.exists_bool, -Int.not_le, -Int.not_lt, -getElem?_pos, -List.getD_eq_getElem?_getD, h1])⟩
  refine CallJ.pure (IsCell b.1 b.2 hb) rfl (by simp [-Bool.exists_bool, -Int.not_le, -Int.not_lt, -getElem?_pos, -List.getD_eq_getElem?_getD]) ?_
  simp -implicitDefEqProofs -dsimp +contextual [-Bool.exists_bool, -Int.not_le, -Int.not_lt, -getElem?_pos, -List.getD_eq_getElem?_getD, h1]
  refine ⟨fun h2 => ⟨fun h3 => ?_, fun h3 => no (by simp [-Bool.exists_bool, -Int.not_le, -Int.not_lt, -getElem?_pos, -List.getD_eq_getElem?_getD, h3])⟩, fun h2 => no (by simp [-Bool.exists_bool, -Int.not_le, -Int.not_lt, -getElem?_pos, -List.getD_eq_getElem?_getD, h2])⟩
  rw [meetC, if_pos ⟨h1, h2, h3⟩]
  have hd := isCe_d h1
  have ha16 := isCe_l h1
  have hb16 := isCe_l h2
  have hall : allOk a.1 (a.2 ++ b.2) := fun x hx => by
    rcases List.mem_append.1 hx with hx | hx
    · exact isCe_a h1 x hx
    · rw [h3]; exact isCe_a h2 x hx
  refine ⟨⟨by omega, by simp [-Bool.exists_bool, -Int.not_le, -Int.not_lt, -getElem?_pos, -List.getD_eq_getElem?_getD, maxLen]; omega⟩, ⟨by omega, by simp [-Bool.exists_bool, -Int.not_le, -Int.not_lt, -getElem?_pos, -List.getD_eq_getElem?_getD, maxLen]; omega⟩, Quiet.of [2] (by kernel_rfl) (by simp [-Bool.exists_bool, -Int.not_le, -Int.not_lt, -getElem?_pos, -List.getD_eq_getElem?_getD, offB]), ?_⟩
  refine CallJ.frz (t := 52) (n := a.2.length + b.2.length) (c := dl (asD a.2 ++ asD b.2)) (c' := asD a.2 ++ asD b.2) (27, 0) (l3Normal b.1 (h3 ▸ hd) (a.2 ++ b.2) (by simp [-Bool.exists_bool, -Int.not_le, -Int.not_lt, -getElem?_pos, -List.getD_eq_getElem?_getD]; omega) (h3 ▸ hall)) (by simp [-Bool.exists_bool, -Int.not_le, -Int.not_lt, -getElem?_pos, -List.getD_eq_getElem?_getD]) (dl_asDs _) (ks := [(27, 0)]) (by simp [-Bool.exists_bool, -Int.not_le, -Int.not_lt, -getElem?_pos, -List.getD_eq_getElem?_getD, setH, asD_append]) (by simp [-Bool.exists_bool, -Int.not_le, -Int.not_lt, -getElem?_pos, -List.getD_eq_getElem?_getD, slotsL, slotsV]) ?_
  simp -implicitDefEqProofs -dsimp +contextual [-Bool.exists_bool, -Int.not_le, -Int.not_lt, -getElem?_pos, -List.getD_eq_getElem?_getD]
  refine ⟨Quiet.of [] (by kernel_rfl) (by simp [-Bool.exists_bool, -Int.not_le, -Int.not_lt, -getElem?_pos, -List.getD_eq_getElem?_getD, allP]), Quiet.of [] (by kernel_rfl) (by simp [-Bool.exists_bool, -Int.not_le, -Int.not_lt, -getElem?_pos, -List.getD_eq_getElem?_getD, allP]), fun hb => ?_, fun hb => ?_⟩
  · refine RLe.pure 3 ?_
    rw [h3, limN, if_pos (by omega)]
    simp [-Bool.exists_bool, -Int.not_le, -Int.not_lt, -getElem?_pos, -List.getD_eq_getElem?_getD, asD]
  · refine RLe.pure 3 ?_
    rw [h3, limN, if_neg (by omega)]
    simp [-Bool.exists_bool, -Int.not_le, -Int.not_lt, -getElem?_pos, -List.getD_eq_getElem?_getD]
theorem iMeetCells (a b : Ce) (ha : a.2.length ≤ 1048576) (hb : b.2.length ≤ 1048576) : Cn Try.prog 22 [.agg (cV a), .agg (cV b)] (oV (meetC a b)) (oH (meetC a b)) := by
  refine Cn.of [] mixed Try.func22 rfl Try.call22 (by kernel_rfl) rfl ?_
  simp -implicitDefEqProofs -dsimp +contextual [-Bool.exists_bool, -Int.not_le, -Int.not_lt, -getElem?_pos, -List.getD_eq_getElem?_getD, Try.f22]
  have no : ∀ {H : Store}, ¬ (isCe a.1 a.2 = true ∧ isCe b.1 b.2 = true ∧ a.1 = b.1) → RLe Try.prog H (V.tup [V.agg [V.d (D.int IntKind.i64 0), V.nil], V.d (D.bool false)]) (oV (meetC a b)) (oH (meetC a b)) := fun h => by
    rw [meetC, if_neg h, oV_f (by simp [-Bool.exists_bool, -Int.not_le, -Int.not_lt, -getElem?_pos, -List.getD_eq_getElem?_getD]), oH_f (by simp [-Bool.exists_bool, -Int.not_le, -Int.not_lt, -getElem?_pos, -List.getD_eq_getElem?_getD])]
    exact RLe.emp (by simp [-Bool.exists_bool, -Int.not_le, -Int.not_lt, -getElem?_pos, -List.getD_eq_getElem?_getD])
  refine CallJ.pure (iIsCell a.1 a.2 ha) rfl (by simp [-Bool.exists_bool, -Int.not_le, -Int.not_lt, -getElem?_pos, -List.getD_eq_getElem?_getD]) ?_
  simp -implicitDefEqProofs -dsimp +contextual [-Bool.exists_bool, -Int.not_le, -Int.not_lt, -getElem?_pos, -List.getD_eq_getElem?_getD]
  refine ⟨fun h1 => ?_, fun h1 => no (by simp [-Bool.exists_bool, -Int.not_le, -Int.not_lt, -getElem?_pos, -List.getD_eq_getElem?_getD, h1])⟩
  refine CallJ.pure (iIsCell b.1 b.2 hb) rfl (by simp [-Bool.exists_bool, -Int.not_le, -Int.not_lt, -getElem?_pos, -List.getD_eq_getElem?_getD]) ?_
  simp -implicitDefEqProofs -dsimp +contextual [-Bool.exists_bool, -Int.not_le, -Int.not_lt, -getElem?_pos, -List.getD_eq_getElem?_getD, h1]
  refine ⟨fun h2 => ⟨fun h3 => ?_, fun h3 => no (by simp [-Bool.exists_bool, -Int.not_le, -Int.not_lt, -getElem?_pos, -List.getD_eq_getElem?_getD, h3])⟩, fun h2 => no (by simp [-Bool.exists_bool, -Int.not_le, -Int.not_lt, -getElem?_pos, -List.getD_eq_getElem?_getD, h2])⟩
  have hd := isCe_d h1
  have ha16 := isCe_l h1
  have hb16 := isCe_l h2
  have hall : allOk a.1 (a.2 ++ b.2) := fun x hx => by
    rcases List.mem_append.1 hx with hx | hx
    · exact isCe_a h1 x hx
    · rw [h3]; exact isCe_a h2 x hx
  have hm : meetC a b = limN a.1 (a.2 ++ b.2) := by rw [meetC, if_pos ⟨h1, h2, h3⟩]
  rw [hm]
  have e2 : repV 2 [V.nil] = [V.nil, V.nil] := rfl
  simp -implicitDefEqProofs -dsimp +contextual [-Bool.exists_bool, -Int.not_le, -Int.not_lt, -getElem?_pos, -List.getD_eq_getElem?_getD, e2]
  have hf : [a.2, b.2].flatten = a.2 ++ b.2 := by simp [-Bool.exists_bool, -Int.not_le, -Int.not_lt, -getElem?_pos, -List.getD_eq_getElem?_getD]
  refine CallJ.pure (iConcatW [a.2, b.2] (by simp [-Bool.exists_bool, -Int.not_le, -Int.not_lt, -getElem?_pos, -List.getD_eq_getElem?_getD]) (by simp [-Bool.exists_bool, -Int.not_le, -Int.not_lt, -getElem?_pos, -List.getD_eq_getElem?_getD, tot]; omega)) (by simp [-Bool.exists_bool, -Int.not_le, -Int.not_lt, -getElem?_pos, -List.getD_eq_getElem?_getD, sD]; rfl) (by simp [-Bool.exists_bool, -Int.not_le, -Int.not_lt, -getElem?_pos, -List.getD_eq_getElem?_getD]) ?_
  rw [hf]
  simp -implicitDefEqProofs -dsimp +contextual [-Bool.exists_bool, -Int.not_le, -Int.not_lt, -getElem?_pos, -List.getD_eq_getElem?_getD]
  have hL := iLimitedNormal a.1 hd (a.2 ++ b.2) (by simp [-Bool.exists_bool, -Int.not_le, -Int.not_lt, -getElem?_pos, -List.getD_eq_getElem?_getD]; omega) hall
  by_cases hr : (limN a.1 (a.2 ++ b.2)).2.2 = true
  · rw [oV_t hr, oH_t hr] at hL ⊢
    refine CallJ.pure (ks := []) hL (by simp [-Bool.exists_bool, -Int.not_le, -Int.not_lt, -getElem?_pos, -List.getD_eq_getElem?_getD, h3]) (by simp [-Bool.exists_bool, -Int.not_le, -Int.not_lt, -getElem?_pos, -List.getD_eq_getElem?_getD]) ?_
    simp -implicitDefEqProofs -dsimp +contextual [-Bool.exists_bool, -Int.not_le, -Int.not_lt, -getElem?_pos, -List.getD_eq_getElem?_getD]
    refine RLe.pass 27 _ ?_ ?_ ?_
    · simp [-Bool.exists_bool, -Int.not_le, -Int.not_lt, -getElem?_pos, -List.getD_eq_getElem?_getD, invO]
    · simp [-Bool.exists_bool, -Int.not_le, -Int.not_lt, -getElem?_pos, -List.getD_eq_getElem?_getD, setH, upOwn_0]
    · intro j hj; simp [-Bool.exists_bool, -Int.not_le, -Int.not_lt, -getElem?_pos, -List.getD_eq_getElem?_getD, setH, upOwn_j _ _ _ _ hj]
  · rw [oV_f hr, oH_f hr] at hL ⊢
    refine CallJ.pure (ks := []) hL (by simp [-Bool.exists_bool, -Int.not_le, -Int.not_lt, -getElem?_pos, -List.getD_eq_getElem?_getD, h3]) (by simp [-Bool.exists_bool, -Int.not_le, -Int.not_lt, -getElem?_pos, -List.getD_eq_getElem?_getD]) ?_
    simp -implicitDefEqProofs -dsimp +contextual [-Bool.exists_bool, -Int.not_le, -Int.not_lt, -getElem?_pos, -List.getD_eq_getElem?_getD]
    exact RLe.emp (by simp [-Bool.exists_bool, -Int.not_le, -Int.not_lt, -getElem?_pos, -List.getD_eq_getElem?_getD])
end Go.Proofs.Ytkicjflhokckgaa.ZL
namespace Go.Proofs.Ytkicjflhokckgaa.ZL
open Go Go.Proofs.Ytkicjflhokckgaa.Abs Go.Proofs.Ytkicjflhokckgaa.Abs.Pl Go.RowKit Go.Proofs
set_option linter.unusedVariables false
set_option linter.unusedSimpArgs false
theorem toAtomW (a : At) (h : a.1.length ≤ 1048576) : Cn Try.prog 32 [A1 a] (A1 a) hemp := Cn.freeze 2 (toAtom a h) (by simp [-Bool.exists_bool, -Int.not_le, -Int.not_lt, -getElem?_pos, -List.getD_eq_getElem?_getD, lendT, lendV])
def impA (c : Ce) (a : At) : Bool × Bool := if isAt a.1 a.2.1 = true then (if (meetC c (a.1.length, [(a.1.map (- ·), -a.2.1, !a.2.2)])).2.2 = true then emptyC (meetC c (a.1.length, [(a.1.map (- ·), -a.2.1, !a.2.2)])).1 (meetC c (a.1.length, [(a.1.map (- ·), -a.2.1, !a.2.2)])).2.1 else (false, false)) else (false, false)
theorem meetC_16 {a b : Ce} : (meetC a b).2.1.length ≤ 16 := by
  unfold meetC
  split
  · unfold limN; split
    · simp [-Bool.exists_bool, -Int.not_le, -Int.not_lt, -getElem?_pos, -List.getD_eq_getElem?_getD]
    · simp [-Bool.exists_bool, -Int.not_le, -Int.not_lt, -getElem?_pos, -List.getD_eq_getElem?_getD]; omega
  · simp [-Bool.exists_bool, -Int.not_le, -Int.not_lt, -getElem?_pos, -List.getD_eq_getElem?_getD]
theorem ImpliesAtom (c : Ce) (a : At) (hc : c.2.length ≤ 1048576) (ha : a.1.length ≤ 1048576) : Cn Try.prog 31 [.agg (cV c), A1 a] (B2 (impA c a)) hemp := by
  refine Cn.of [] mixed Try.func31 rfl Try.call31 (by kernel_rfl) rfl ?_
  simp -implicitDefEqProofs -dsimp +contextual [-Bool.exists_bool, -Int.not_le, -Int.not_lt, -getElem?_pos, -List.getD_eq_getElem?_getD, Try.f31]
  refine CallJ.pure (NegateAtom a) rfl (by simp [-Bool.exists_bool, -Int.not_le, -Int.not_lt, -getElem?_pos, -List.getD_eq_getElem?_getD]) ?_
  by_cases h : isAt a.1 a.2.1 = true
  · rw [negAt_t h, impA, if_pos h]
    simp -implicitDefEqProofs -dsimp +contextual [-Bool.exists_bool, -Int.not_le, -Int.not_lt, -getElem?_pos, -List.getD_eq_getElem?_getD]
    refine CallJ.pure (ks := []) (MeetCells c (a.1.length, [(a.1.map (- ·), -a.2.1, !a.2.2)]) hc (by simp [-Bool.exists_bool, -Int.not_le, -Int.not_lt, -getElem?_pos, -List.getD_eq_getElem?_getD])) (by simp [-Bool.exists_bool, -Int.not_le, -Int.not_lt, -getElem?_pos, -List.getD_eq_getElem?_getD, asD, aD]) (by simp [-Bool.exists_bool, -Int.not_le, -Int.not_lt, -getElem?_pos, -List.getD_eq_getElem?_getD]) ?_
    have h16 : (meetC c (a.1.length, [(a.1.map (- ·), -a.2.1, !a.2.2)])).2.1.length ≤ 16 := meetC_16
    generalize meetC c (a.1.length, [(a.1.map (- ·), -a.2.1, !a.2.2)]) = m at *
    simp -implicitDefEqProofs -dsimp +contextual [-Bool.exists_bool, -Int.not_le, -Int.not_lt, -getElem?_pos, -List.getD_eq_getElem?_getD]
    refine ⟨fun hm => ?_, fun hm => ?_⟩
    · refine CallJ.pure (IsEmptyCell m.1 m.2.1 (by omega)) rfl (by simp [-Bool.exists_bool, -Int.not_le, -Int.not_lt, -getElem?_pos, -List.getD_eq_getElem?_getD]) ?_
      simp -implicitDefEqProofs -dsimp +contextual [-Bool.exists_bool, -Int.not_le, -Int.not_lt, -getElem?_pos, -List.getD_eq_getElem?_getD, hm]
      exact RLe.pure 2 (by simp [-Bool.exists_bool, -Int.not_le, -Int.not_lt, -getElem?_pos, -List.getD_eq_getElem?_getD])
    · exact RLe.pure 2 (by simp [-Bool.exists_bool, -Int.not_le, -Int.not_lt, -getElem?_pos, -List.getD_eq_getElem?_getD])
  · rw [negAt_f (by simpa [-Bool.exists_bool, -Int.not_le, -Int.not_lt, -getElem?_pos, -List.getD_eq_getElem?_getD] using h), impA, if_neg h]
    simp -implicitDefEqProofs -dsimp +contextual [-Bool.exists_bool, -Int.not_le, -Int.not_lt, -getElem?_pos, -List.getD_eq_getElem?_getD]
    refine CallJ.pure (ks := []) (MeetCells c (a.1.length, [(noAt.1, noAt.2.1, noAt.2.2.1)]) hc (by simp [-Bool.exists_bool, -Int.not_le, -Int.not_lt, -getElem?_pos, -List.getD_eq_getElem?_getD])) (by simp [-Bool.exists_bool, -Int.not_le, -Int.not_lt, -getElem?_pos, -List.getD_eq_getElem?_getD, asD, aD]) (by simp [-Bool.exists_bool, -Int.not_le, -Int.not_lt, -getElem?_pos, -List.getD_eq_getElem?_getD]) ?_
    simp -implicitDefEqProofs -dsimp +contextual [-Bool.exists_bool, -Int.not_le, -Int.not_lt, -getElem?_pos, -List.getD_eq_getElem?_getD, noAt]
    exact RLe.pure 2 (by simp [-Bool.exists_bool, -Int.not_le, -Int.not_lt, -getElem?_pos, -List.getD_eq_getElem?_getD])
theorem iMeetCellsW (a b : Ce) (ha : a.2.length ≤ 1048576) (hb : b.2.length ≤ 1048576) : Cn Try.prog 22 [.agg (cV a), .agg (cV b)] (D2 (meetC a b)) hemp := Cn.weak meetC_f (iMeetCells a b ha hb)
theorem iImpliesAtom (c : Ce) (a : At) (hc : c.2.length ≤ 1048576) (ha : a.1.length ≤ 1048576) : Cn Try.prog 33 [.agg (cV c), A1 a] (B2 (impA c a)) hemp := by
  refine Cn.of [] mixed Try.func33 rfl Try.call33 (by kernel_rfl) rfl ?_
  simp -implicitDefEqProofs -dsimp +contextual [-Bool.exists_bool, -Int.not_le, -Int.not_lt, -getElem?_pos, -List.getD_eq_getElem?_getD, Try.f33]
  refine CallJ.pure (iNegateAtom a) rfl (by simp [-Bool.exists_bool, -Int.not_le, -Int.not_lt, -getElem?_pos, -List.getD_eq_getElem?_getD]) ?_
  by_cases h : isAt a.1 a.2.1 = true
  · rw [negAt_t h, impA, if_pos h]
    simp -implicitDefEqProofs -dsimp +contextual [-Bool.exists_bool, -Int.not_le, -Int.not_lt, -getElem?_pos, -List.getD_eq_getElem?_getD]
    refine CallJ.pure (ks := []) (iMeetCellsW c (a.1.length, [(a.1.map (- ·), -a.2.1, !a.2.2)]) hc (by simp [-Bool.exists_bool, -Int.not_le, -Int.not_lt, -getElem?_pos, -List.getD_eq_getElem?_getD])) (by simp [-Bool.exists_bool, -Int.not_le, -Int.not_lt, -getElem?_pos, -List.getD_eq_getElem?_getD, asD, aD]) (by simp [-Bool.exists_bool, -Int.not_le, -Int.not_lt, -getElem?_pos, -List.getD_eq_getElem?_getD]) ?_
    have h16 : (meetC c (a.1.length, [(a.1.map (- ·), -a.2.1, !a.2.2)])).2.1.length ≤ 16 := meetC_16
    generalize meetC c (a.1.length, [(a.1.map (- ·), -a.2.1, !a.2.2)]) = m at *
    simp -implicitDefEqProofs -dsimp +contextual [-Bool.exists_bool, -Int.not_le, -Int.not_lt, -getElem?_pos, -List.getD_eq_getElem?_getD]
    refine ⟨fun hm => ?_, fun hm => ?_⟩
    · refine CallJ.pure (iIsEmptyCell m.1 m.2.1 (by omega)) rfl (by simp [-Bool.exists_bool, -Int.not_le, -Int.not_lt, -getElem?_pos, -List.getD_eq_getElem?_getD]) ?_
      simp -implicitDefEqProofs -dsimp +contextual [-Bool.exists_bool, -Int.not_le, -Int.not_lt, -getElem?_pos, -List.getD_eq_getElem?_getD, hm]
      exact RLe.pure 2 (by simp [-Bool.exists_bool, -Int.not_le, -Int.not_lt, -getElem?_pos, -List.getD_eq_getElem?_getD])
    · exact RLe.pure 2 (by simp [-Bool.exists_bool, -Int.not_le, -Int.not_lt, -getElem?_pos, -List.getD_eq_getElem?_getD])
  · rw [negAt_f (by simpa [-Bool.exists_bool, -Int.not_le, -Int.not_lt, -getElem?_pos, -List.getD_eq_getElem?_getD] using h), impA, if_neg h]
    simp -implicitDefEqProofs -dsimp +contextual [-Bool.exists_bool, -Int.not_le, -Int.not_lt, -getElem?_pos, -List.getD_eq_getElem?_getD, noAt]
    exact RLe.pure 2 (by simp [-Bool.exists_bool, -Int.not_le, -Int.not_lt, -getElem?_pos, -List.getD_eq_getElem?_getD])
theorem lft_2 {k : Int} {n : Nat} (hk : okL k) (h : ¬ lft k n < 0) : n ≤ 1048576 ∧ okL (lft k n) := by
  unfold lft okL at *
  split at h
  · omega
  · rename_i h2; rw [if_neg h2]; omega
theorem lawImpliesAtom (c : Ce) (a : At) (hc : wfC c) (ha : wfA a) : Cn Try.prog 8 [.agg (cV c), A1 a] (B true) hemp := by
  refine Cn.of [] mixed Try.func8 rfl Try.call8 (by kernel_rfl) rfl ?_
  simp -implicitDefEqProofs -dsimp +contextual [-Bool.exists_bool, -Int.not_le, -Int.not_lt, -getElem?_pos, -List.getD_eq_getElem?_getD, Try.f8]
  refine CallJ.pure (szCell c 1048576 ok20 hc) rfl (by simp [-Bool.exists_bool, -Int.not_le, -Int.not_lt, -getElem?_pos, -List.getD_eq_getElem?_getD]) ?_
  simp -implicitDefEqProofs -dsimp +contextual [-Bool.exists_bool, -Int.not_le, -Int.not_lt, -getElem?_pos, -List.getD_eq_getElem?_getD]
  refine ⟨fun _ => RLe.bb rfl, fun h => ?_⟩
  obtain ⟨w1, hk⟩ := lft_2 ok20 h
  obtain ⟨hc1, hc2⟩ := wAs_small w1
  refine CallJ.pure (szAtom a _ hk ha) rfl (by simp [-Bool.exists_bool, -Int.not_le, -Int.not_lt, -getElem?_pos, -List.getD_eq_getElem?_getD]) ?_
  simp -implicitDefEqProofs -dsimp +contextual [-Bool.exists_bool, -Int.not_le, -Int.not_lt, -getElem?_pos, -List.getD_eq_getElem?_getD, h]
  refine ⟨fun _ => RLe.bb rfl, fun h2 => ?_⟩
  obtain ⟨ha1, _⟩ := lft_2 hk h2
  refine CallJ.pure (toCellW c hc1 hc2) rfl (by simp [-Bool.exists_bool, -Int.not_le, -Int.not_lt, -getElem?_pos, -List.getD_eq_getElem?_getD]) ?_
  simp -implicitDefEqProofs -dsimp +contextual [-Bool.exists_bool, -Int.not_le, -Int.not_lt, -getElem?_pos, -List.getD_eq_getElem?_getD, h, h2]
  refine CallJ.pure (toAtomW a ha1) rfl (by simp [-Bool.exists_bool, -Int.not_le, -Int.not_lt, -getElem?_pos, -List.getD_eq_getElem?_getD]) ?_
  simp -implicitDefEqProofs -dsimp +contextual [-Bool.exists_bool, -Int.not_le, -Int.not_lt, -getElem?_pos, -List.getD_eq_getElem?_getD, h, h2]
  refine CallJ.pure (ImpliesAtom c a hc1 ha1) rfl (by simp [-Bool.exists_bool, -Int.not_le, -Int.not_lt, -getElem?_pos, -List.getD_eq_getElem?_getD]) ?_
  simp -implicitDefEqProofs -dsimp +contextual [-Bool.exists_bool, -Int.not_le, -Int.not_lt, -getElem?_pos, -List.getD_eq_getElem?_getD, h, h2]
  refine CallJ.pure (toCellW c hc1 hc2) rfl (by simp [-Bool.exists_bool, -Int.not_le, -Int.not_lt, -getElem?_pos, -List.getD_eq_getElem?_getD]) ?_
  simp -implicitDefEqProofs -dsimp +contextual [-Bool.exists_bool, -Int.not_le, -Int.not_lt, -getElem?_pos, -List.getD_eq_getElem?_getD, h, h2]
  refine CallJ.pure (toAtomW a ha1) rfl (by simp [-Bool.exists_bool, -Int.not_le, -Int.not_lt, -getElem?_pos, -List.getD_eq_getElem?_getD]) ?_
  simp -implicitDefEqProofs -dsimp +contextual [-Bool.exists_bool, -Int.not_le, -Int.not_lt, -getElem?_pos, -List.getD_eq_getElem?_getD, h, h2]
  refine CallJ.pure (iImpliesAtom c a hc1 ha1) rfl (by simp [-Bool.exists_bool, -Int.not_le, -Int.not_lt, -getElem?_pos, -List.getD_eq_getElem?_getD]) ?_
  simp -implicitDefEqProofs -dsimp +contextual [-Bool.exists_bool, -Int.not_le, -Int.not_lt, -getElem?_pos, -List.getD_eq_getElem?_getD, h, h2]
  refine CallJ.pure (toCellW c hc1 hc2) rfl (by simp [-Bool.exists_bool, -Int.not_le, -Int.not_lt, -getElem?_pos, -List.getD_eq_getElem?_getD]) ?_
  simp -implicitDefEqProofs -dsimp +contextual [-Bool.exists_bool, -Int.not_le, -Int.not_lt, -getElem?_pos, -List.getD_eq_getElem?_getD, h, h2]
  refine CallJ.pure (eqCell c hc1 hc2) rfl (by simp [-Bool.exists_bool, -Int.not_le, -Int.not_lt, -getElem?_pos, -List.getD_eq_getElem?_getD]) ?_
  simp -implicitDefEqProofs -dsimp +contextual [-Bool.exists_bool, -Int.not_le, -Int.not_lt, -getElem?_pos, -List.getD_eq_getElem?_getD, h, h2]
  refine CallJ.pure (toAtomW a ha1) rfl (by simp [-Bool.exists_bool, -Int.not_le, -Int.not_lt, -getElem?_pos, -List.getD_eq_getElem?_getD]) ?_
  simp -implicitDefEqProofs -dsimp +contextual [-Bool.exists_bool, -Int.not_le, -Int.not_lt, -getElem?_pos, -List.getD_eq_getElem?_getD, h, h2]
  refine CallJ.pure (eqAtom a ha1) rfl (by simp [-Bool.exists_bool, -Int.not_le, -Int.not_lt, -getElem?_pos, -List.getD_eq_getElem?_getD]) ?_
  simp -implicitDefEqProofs -dsimp +contextual [-Bool.exists_bool, -Int.not_le, -Int.not_lt, -getElem?_pos, -List.getD_eq_getElem?_getD, h, h2]
  exact RLe.bb rfl
end Go.Proofs.Ytkicjflhokckgaa.ZL
namespace Go.Proofs.Ytkicjflhokckgaa.ZL
open Go Go.Proofs.Ytkicjflhokckgaa.Abs Go.Proofs.Ytkicjflhokckgaa.Abs.Pl Go.RowKit Go.Proofs
set_option linter.unusedVariables false
set_option linter.unusedSimpArgs false
def covGo (b : Ce) : List At → Bool × Bool
  | [] => (true, true)
  | x :: r => if (impA b x).2 = true ∧ (impA b x).1 = true then covGo b r else (false, (impA b x).2)
def covC (a b : Ce) : Bool × Bool := if isCe a.1 a.2 = true ∧ isCe b.1 b.2 = true ∧ a.1 = b.1 then covGo b a.2 else (false, false)
theorem okA_small {d : Int} {x : At} (h : okA d x) : x.1.length ≤ 1048576 := by have := (okA_num h).2.2; omega
theorem CoversCell (a b : Ce) (ha : a.2.length ≤ 1048576) (hb : b.2.length ≤ 1048576) : Cn Try.prog 42 [.agg (cV a), .agg (cV b)] (B2 (covC a b)) hemp := by
  refine Cn.of [] mixed Try.func42 rfl Try.call42 (by kernel_rfl) rfl ?_
  simp -implicitDefEqProofs -dsimp +contextual [-Bool.exists_bool, -Int.not_le, -Int.not_lt, -getElem?_pos, -List.getD_eq_getElem?_getD, Try.f42]
  have no : ∀ {H : Store}, ¬ (isCe a.1 a.2 = true ∧ isCe b.1 b.2 = true ∧ a.1 = b.1) → RLe Try.prog H (V.tup [V.d (D.bool false), V.d (D.bool false)]) (B2 (covC a b)) hemp := fun h => by
    rw [covC, if_neg h]
    exact RLe.pure 2 (by simp [-Bool.exists_bool, -Int.not_le, -Int.not_lt, -getElem?_pos, -List.getD_eq_getElem?_getD])
  refine CallJ.pure (IsCell a.1 a.2 ha) rfl (by simp [-Bool.exists_bool, -Int.not_le, -Int.not_lt, -getElem?_pos, -List.getD_eq_getElem?_getD]) ?_
  simp -implicitDefEqProofs -dsimp +contextual [-Bool.exists_bool, -Int.not_le, -Int.not_lt, -getElem?_pos, -List.getD_eq_getElem?_getD]
  refine ⟨fun h1 => ?_, fun h1 => no (by simp [-Bool.exists_bool, -Int.not_le, -Int.not_lt, -getElem?_pos, -List.getD_eq_getElem?_getD, h1])⟩
  refine CallJ.pure (IsCell b.1 b.2 hb) rfl (by simp [-Bool.exists_bool, -Int.not_le, -Int.not_lt, -getElem?_pos, -List.getD_eq_getElem?_getD]) ?_
  simp -implicitDefEqProofs -dsimp +contextual [-Bool.exists_bool, -Int.not_le, -Int.not_lt, -getElem?_pos, -List.getD_eq_getElem?_getD, h1]
  refine ⟨fun h2 => ⟨fun h3 => ?_, fun h3 => no (by simp [-Bool.exists_bool, -Int.not_le, -Int.not_lt, -getElem?_pos, -List.getD_eq_getElem?_getD, h3])⟩, fun h2 => no (by simp [-Bool.exists_bool, -Int.not_le, -Int.not_lt, -getElem?_pos, -List.getD_eq_getElem?_getD, h2])⟩
  have e0 : covC a b = covGo b a.2 := by rw [covC, if_pos ⟨h1, h2, h3⟩]
  refine WP.loop mixed [] (fun i : Nat => ⟨tl [(2, .ptr (0, 0) 0), (3, .ptr (1, 0) 0), (6, I i)], hl [((0, 0), .box (cV a)), ((1, 0), .box (cV b))], 5⟩) (fun i => i ≤ a.2.length ∧ covC a b = covGo b (a.2.drop i)) (fun i => a.2.length - i) 0 (by kernel_rfl) ?_ ?_ ?_
  · refine Le.told [] ?_ ?_ ?_ <;> simp [-Bool.exists_bool, -Int.not_le, -Int.not_lt, -getElem?_pos, -List.getD_eq_getElem?_getD]
  · exact ⟨Nat.zero_le _, e0⟩
  · rintro i ⟨hi, he⟩
    simp -implicitDefEqProofs -dsimp +contextual [-Bool.exists_bool, -Int.not_le, -Int.not_lt, -getElem?_pos, -List.getD_eq_getElem?_getD]
    refine ⟨fun h => ?_, fun h => ?_⟩
    · refine CallJ.pure (ImpliesAtom b (nth a.2 i) hb (okA_small (isCe_a h1 _ (nth_mem h)))) rfl (by simp [-Bool.exists_bool, -Int.not_le, -Int.not_lt, -getElem?_pos, -List.getD_eq_getElem?_getD]) ?_
      rw [nth_drop h, covGo] at he
      generalize impA b (nth a.2 i) = q at he ⊢
      simp -implicitDefEqProofs -dsimp +contextual [-Bool.exists_bool, -Int.not_le, -Int.not_lt, -getElem?_pos, -List.getD_eq_getElem?_getD, h]
      refine ⟨fun hf => ⟨fun ht => ?_, fun ht => RLe.pure 2 (by rw [he]; simp [-Bool.exists_bool, -Int.not_le, -Int.not_lt, -getElem?_pos, -List.getD_eq_getElem?_getD, ht, hf])⟩, fun hf => RLe.pure 2 (by rw [he]; simp [-Bool.exists_bool, -Int.not_le, -Int.not_lt, -getElem?_pos, -List.getD_eq_getElem?_getD, hf])⟩
      rw [if_pos ⟨hf, ht⟩] at he
      refine ⟨i + 1, ⟨h, he⟩, by omega, ?_⟩
      rw [wr (by omega) (by omega)]
      refine Le.told [] ?_ ?_ ?_ <;> simp [-Bool.exists_bool, -Int.not_le, -Int.not_lt, -getElem?_pos, -List.getD_eq_getElem?_getD]
    · rw [drop_nil (by omega)] at he
      refine RLe.pure 3 (by rw [he]; simp [-Bool.exists_bool, -Int.not_le, -Int.not_lt, -getElem?_pos, -List.getD_eq_getElem?_getD, covGo])
theorem iCoversCell (a b : Ce) (ha : a.2.length ≤ 1048576) (hb : b.2.length ≤ 1048576) : Cn Try.prog 43 [.agg (cV a), .agg (cV b)] (B2 (covC a b)) hemp := by
  refine Cn.of [] mixed Try.func43 rfl Try.call43 (by kernel_rfl) rfl ?_
  simp -implicitDefEqProofs -dsimp +contextual [-Bool.exists_bool, -Int.not_le, -Int.not_lt, -getElem?_pos, -List.getD_eq_getElem?_getD, Try.f43]
  have no : ∀ {H : Store}, ¬ (isCe a.1 a.2 = true ∧ isCe b.1 b.2 = true ∧ a.1 = b.1) → RLe Try.prog H (V.tup [V.d (D.bool false), V.d (D.bool false)]) (B2 (covC a b)) hemp := fun h => by
    rw [covC, if_neg h]
    exact RLe.pure 2 (by simp [-Bool.exists_bool, -Int.not_le, -Int.not_lt, -getElem?_pos, -List.getD_eq_getElem?_getD])
  refine CallJ.pure (iIsCell a.1 a.2 ha) rfl (by simp [-Bool.exists_bool, -Int.not_le, -Int.not_lt, -getElem?_pos, -List.getD_eq_getElem?_getD]) ?_
  simp -implicitDefEqProofs -dsimp +contextual [-Bool.exists_bool, -Int.not_le, -Int.not_lt, -getElem?_pos, -List.getD_eq_getElem?_getD]
  refine ⟨fun h1 => ?_, fun h1 => no (by simp [-Bool.exists_bool, -Int.not_le, -Int.not_lt, -getElem?_pos, -List.getD_eq_getElem?_getD, h1])⟩
  refine CallJ.pure (iIsCell b.1 b.2 hb) rfl (by simp [-Bool.exists_bool, -Int.not_le, -Int.not_lt, -getElem?_pos, -List.getD_eq_getElem?_getD]) ?_
  simp -implicitDefEqProofs -dsimp +contextual [-Bool.exists_bool, -Int.not_le, -Int.not_lt, -getElem?_pos, -List.getD_eq_getElem?_getD, h1]
  refine ⟨fun h2 => ⟨fun h3 => ?_, fun h3 => no (by simp [-Bool.exists_bool, -Int.not_le, -Int.not_lt, -getElem?_pos, -List.getD_eq_getElem?_getD, h3])⟩, fun h2 => no (by simp [-Bool.exists_bool, -Int.not_le, -Int.not_lt, -getElem?_pos, -List.getD_eq_getElem?_getD, h2])⟩
  have e0 : covC a b = covGo b a.2 := by rw [covC, if_pos ⟨h1, h2, h3⟩]
  refine WP.loop mixed [] (fun i : Nat => ⟨tl [(2, .ptr (0, 0) 0), (3, .ptr (1, 0) 0), (26, As a.2), (27, I a.2.length), (28, I i)], hl [((0, 0), .box (cV a)), ((1, 0), .box (cV b))], 5⟩) (fun i => i ≤ a.2.length ∧ covC a b = covGo b (a.2.drop i)) (fun i => a.2.length - i) 0 (by kernel_rfl) ?_ ?_ ?_
  · refine Le.told [] ?_ ?_ ?_ <;> simp [-Bool.exists_bool, -Int.not_le, -Int.not_lt, -getElem?_pos, -List.getD_eq_getElem?_getD]
  · exact ⟨Nat.zero_le _, e0⟩
  · rintro i ⟨hi, he⟩
    simp -implicitDefEqProofs -dsimp +contextual [-Bool.exists_bool, -Int.not_le, -Int.not_lt, -getElem?_pos, -List.getD_eq_getElem?_getD]
    refine ⟨fun h => ?_, fun h => ?_⟩
    · refine CallJ.pure (iImpliesAtom b (nth a.2 i) hb (okA_small (isCe_a h1 _ (nth_mem h)))) rfl (by simp [-Bool.exists_bool, -Int.not_le, -Int.not_lt, -getElem?_pos, -List.getD_eq_getElem?_getD]) ?_
      rw [nth_drop h, covGo] at he
      generalize impA b (nth a.2 i) = q at he ⊢
      simp -implicitDefEqProofs -dsimp +contextual [-Bool.exists_bool, -Int.not_le, -Int.not_lt, -getElem?_pos, -List.getD_eq_getElem?_getD, h]
      refine ⟨fun hf => ⟨fun ht => ?_, fun ht => RLe.pure 2 (by rw [he]; simp [-Bool.exists_bool, -Int.not_le, -Int.not_lt, -getElem?_pos, -List.getD_eq_getElem?_getD, ht, hf])⟩, fun hf => RLe.pure 2 (by rw [he]; simp [-Bool.exists_bool, -Int.not_le, -Int.not_lt, -getElem?_pos, -List.getD_eq_getElem?_getD, hf])⟩
      rw [if_pos ⟨hf, ht⟩] at he
      refine ⟨i + 1, ⟨h, he⟩, by omega, ?_⟩
      rw [wr (by omega) (by omega)]
      refine Le.told [] ?_ ?_ ?_ <;> simp [-Bool.exists_bool, -Int.not_le, -Int.not_lt, -getElem?_pos, -List.getD_eq_getElem?_getD]
    · rw [drop_nil (by omega)] at he
      refine RLe.pure 3 (by rw [he]; simp [-Bool.exists_bool, -Int.not_le, -Int.not_lt, -getElem?_pos, -List.getD_eq_getElem?_getD, covGo])
theorem lawCoversCell (a b : Ce) (ha : wfC a) (hb : wfC b) : Cn Try.prog 11 [.agg (cV a), .agg (cV b)] (B true) hemp := by
  refine Cn.of [] mixed Try.func11 rfl Try.call11 (by kernel_rfl) rfl ?_
  simp -implicitDefEqProofs -dsimp +contextual [-Bool.exists_bool, -Int.not_le, -Int.not_lt, -getElem?_pos, -List.getD_eq_getElem?_getD, Try.f11]
  refine CallJ.pure (szCell a 1048576 ok20 ha) rfl (by simp [-Bool.exists_bool, -Int.not_le, -Int.not_lt, -getElem?_pos, -List.getD_eq_getElem?_getD]) ?_
  simp -implicitDefEqProofs -dsimp +contextual [-Bool.exists_bool, -Int.not_le, -Int.not_lt, -getElem?_pos, -List.getD_eq_getElem?_getD]
  refine ⟨fun _ => RLe.bb rfl, fun h => ?_⟩
  obtain ⟨w1, hk⟩ := lft_2 ok20 h
  obtain ⟨a1, a2⟩ := wAs_small w1
  refine CallJ.pure (szCell b _ hk hb) rfl (by simp [-Bool.exists_bool, -Int.not_le, -Int.not_lt, -getElem?_pos, -List.getD_eq_getElem?_getD]) ?_
  simp -implicitDefEqProofs -dsimp +contextual [-Bool.exists_bool, -Int.not_le, -Int.not_lt, -getElem?_pos, -List.getD_eq_getElem?_getD, h]
  refine ⟨fun _ => RLe.bb rfl, fun h2 => ?_⟩
  obtain ⟨w2, _⟩ := lft_2 hk h2
  obtain ⟨b1, b2⟩ := wAs_small w2
  refine CallJ.pure (toCellW a a1 a2) rfl (by simp [-Bool.exists_bool, -Int.not_le, -Int.not_lt, -getElem?_pos, -List.getD_eq_getElem?_getD]) ?_
  simp -implicitDefEqProofs -dsimp +contextual [-Bool.exists_bool, -Int.not_le, -Int.not_lt, -getElem?_pos, -List.getD_eq_getElem?_getD, h, h2]
  refine CallJ.pure (toCellW b b1 b2) rfl (by simp [-Bool.exists_bool, -Int.not_le, -Int.not_lt, -getElem?_pos, -List.getD_eq_getElem?_getD]) ?_
  simp -implicitDefEqProofs -dsimp +contextual [-Bool.exists_bool, -Int.not_le, -Int.not_lt, -getElem?_pos, -List.getD_eq_getElem?_getD, h, h2]
  refine CallJ.pure (CoversCell a b a1 b1) rfl (by simp [-Bool.exists_bool, -Int.not_le, -Int.not_lt, -getElem?_pos, -List.getD_eq_getElem?_getD]) ?_
  simp -implicitDefEqProofs -dsimp +contextual [-Bool.exists_bool, -Int.not_le, -Int.not_lt, -getElem?_pos, -List.getD_eq_getElem?_getD, h, h2]
  refine CallJ.pure (toCellW a a1 a2) rfl (by simp [-Bool.exists_bool, -Int.not_le, -Int.not_lt, -getElem?_pos, -List.getD_eq_getElem?_getD]) ?_
  simp -implicitDefEqProofs -dsimp +contextual [-Bool.exists_bool, -Int.not_le, -Int.not_lt, -getElem?_pos, -List.getD_eq_getElem?_getD, h, h2]
  refine CallJ.pure (toCellW b b1 b2) rfl (by simp [-Bool.exists_bool, -Int.not_le, -Int.not_lt, -getElem?_pos, -List.getD_eq_getElem?_getD]) ?_
  simp -implicitDefEqProofs -dsimp +contextual [-Bool.exists_bool, -Int.not_le, -Int.not_lt, -getElem?_pos, -List.getD_eq_getElem?_getD, h, h2]
  refine CallJ.pure (iCoversCell a b a1 b1) rfl (by simp [-Bool.exists_bool, -Int.not_le, -Int.not_lt, -getElem?_pos, -List.getD_eq_getElem?_getD]) ?_
  simp -implicitDefEqProofs -dsimp +contextual [-Bool.exists_bool, -Int.not_le, -Int.not_lt, -getElem?_pos, -List.getD_eq_getElem?_getD, h, h2]
  refine CallJ.pure (toCellW a a1 a2) rfl (by simp [-Bool.exists_bool, -Int.not_le, -Int.not_lt, -getElem?_pos, -List.getD_eq_getElem?_getD]) ?_
  simp -implicitDefEqProofs -dsimp +contextual [-Bool.exists_bool, -Int.not_le, -Int.not_lt, -getElem?_pos, -List.getD_eq_getElem?_getD, h, h2]
  refine CallJ.pure (eqCell a a1 a2) rfl (by simp [-Bool.exists_bool, -Int.not_le, -Int.not_lt, -getElem?_pos, -List.getD_eq_getElem?_getD]) ?_
  simp -implicitDefEqProofs -dsimp +contextual [-Bool.exists_bool, -Int.not_le, -Int.not_lt, -getElem?_pos, -List.getD_eq_getElem?_getD, h, h2]
  refine CallJ.pure (toCellW b b1 b2) rfl (by simp [-Bool.exists_bool, -Int.not_le, -Int.not_lt, -getElem?_pos, -List.getD_eq_getElem?_getD]) ?_
  simp -implicitDefEqProofs -dsimp +contextual [-Bool.exists_bool, -Int.not_le, -Int.not_lt, -getElem?_pos, -List.getD_eq_getElem?_getD, h, h2]
  refine CallJ.pure (eqCell b b1 b2) rfl (by simp [-Bool.exists_bool, -Int.not_le, -Int.not_lt, -getElem?_pos, -List.getD_eq_getElem?_getD]) ?_
  simp -implicitDefEqProofs -dsimp +contextual [-Bool.exists_bool, -Int.not_le, -Int.not_lt, -getElem?_pos, -List.getD_eq_getElem?_getD, h, h2]
  exact RLe.bb rfl
end Go.Proofs.Ytkicjflhokckgaa.ZL
