/- Texts of the abs road (plain values, what code does to them, and the contracts of the functions that the law reaches). No condition. -/
import Derived.Test.YtjknjekemolndaaGreatG7FnExactNeatRegion
import Derived.Shelf.Spec.SlicesGrow
import Derived.Test.YtjknjekemolndaaGreatProg
namespace Go.Proofs
open Go.Shelf
def Tryz.growL_ren : Go.Shelf.Ren := ⟨fun | 4 => 117 | n => n, fun | 22 => 24 | 25 => 66 | 3 => 3 | 4 => 4 | 9 => 9 | 20 => 20 | 0 => 0 | n => n, fun | n => n⟩
theorem Tryz.growL : Go.Proofs.Lays8.n4 Tryz.prog Tryz.growL_ren := {
  mixed := by kernel_rfl
  f4 := ⟨Tryz.f117.name, by decide, Tryz.func117.trans (congrArg some (by kernel_rfl))⟩
  t0 := Tryz.underlying0
  a0 := Tryz.isAgg0
  z0 := Tryz.sizeOf0
  v0 := Tryz.zeroValue0
  t3 := Tryz.underlying3
  a3 := Tryz.isAgg3
  z3 := Tryz.sizeOf3
  v3 := Tryz.zeroValue3
  t4 := Tryz.underlying4
  a4 := Tryz.isAgg4
  z4 := Tryz.sizeOf4
  v4 := Tryz.zeroValue4
  t9 := Tryz.underlying9
  a9 := Tryz.isAgg9
  z9 := Tryz.sizeOf9
  v9 := Tryz.zeroValue9
  t20 := Tryz.underlying20
  a20 := Tryz.isAgg20
  z20 := Tryz.sizeOf20
  v20 := Tryz.zeroValue20
  t22 := Tryz.underlying24
  a22 := Tryz.isAgg24
  z22 := Tryz.sizeOf24
  v22 := Tryz.zeroValue24 }
end Go.Proofs
namespace Go.Proofs.YtjknjekemolndaaGreat.ZL
open Go Go.Proofs.YtjknjekemolndaaGreat.Abs Go.Proofs.YtjknjekemolndaaGreat.Abs.Pl Go.RowKit Go.Proofs
set_option linter.unusedVariables false
set_option linter.unusedSimpArgs false
theorem iGrow (n : Nat) (hn : n ≤ 1048576) : Cn Tryz.prog 117 [.nil, I n] (.ref (0, 0) 0) (hl [((0, 0), .row 66 0 [])]) := by
  refine ⟨Tryz.call117, fun w F args hF hden => ?_⟩
  obtain ⟨A, rfl⟩ : ∃ A, args = #[.slice A 0 0, .int .i64 n] := by
    unfold DenVs at hden
    obtain ⟨u, r, h1, h2, h3⟩ := hden
    unfold DenVs at h3
    obtain ⟨u', r', rfl, h4, h5⟩ := h3
    unfold DenVs at h5
    subst h5
    unfold DenV at h2
    obtain ⟨A, h6⟩ := h2
    exact ⟨A, Array.toList_inj.1 (by rw [h1, h6, h4.int])⟩
  obtain ⟨i0, hi, hz, hzero⟩ : ∃ i0, Tryz.prog.info? 66 = some i0 ∧ i0.size = 3 ∧ i0.bytes = 40 := digest_size dg66
  obtain ⟨i1, z, h1, h2, h3⟩ := digest_zero dg66
  rw [hi] at h1
  obtain rfl := Option.some.inj h1
  have hzc : z.cells.size = 3 := by
    have := congrArg List.length h3
    simpa [-Bool.exists_bool, -Int.not_le, -Int.not_lt, -getElem?_pos, -List.getD_eq_getElem?_getD] using this.symm
  by_cases h0 : n = 0
  · subst h0
    have hS := Any8.slices_Grow_room (P := Tryz.prog) (ρ := Tryz.growL_ren) Tryz.growL A 0 0 0 w (by omega) (by omega) (by omega) (by omega)
    change Calls Tryz.prog 117 _ _ _ at hS
    refine hS.mono ?_
    rintro e w' ⟨rfl, rfl⟩
    refine ⟨_, fun k => if k = (0, 0) then some (.slice A 0 0) else none, F, rfl, fun b h => h, ?_, ⟨fun k e hk => ?_, fun k k' e e' u u' b hk hk' _ _ _ _ _ _ => ?_⟩, Chg.refl _ _, fun k e u b hk _ hu hb => ?_, fun k hk => if_neg (fun e => hk (by rw [e]))⟩
    · unfold DenV; exact ⟨rfl, A, 0, rfl, .inl rfl, Nat.le_refl _⟩
    · simp only [hl] at hk
      split at hk
      · rename_i h; subst h
        obtain rfl := Option.some.inj hk
        exact ⟨_, rfl, .inr ⟨A, rfl, rfl, rfl⟩, fun _ b hb => by cases A <;> simp [-Bool.exists_bool, -Int.not_le, -Int.not_lt, -getElem?_pos, -List.getD_eq_getElem?_getD, blkOf] at hb⟩
      · exact absurd hk (by simp [-Bool.exists_bool, -Int.not_le, -Int.not_lt, -getElem?_pos, -List.getD_eq_getElem?_getD])
    · simp only [hl] at hk hk'
      split at hk <;> split at hk'
      · rename_i h h'; rw [h, h']
      · exact absurd hk' (by simp [-Bool.exists_bool, -Int.not_le, -Int.not_lt, -getElem?_pos, -List.getD_eq_getElem?_getD])
      · exact absurd hk (by simp [-Bool.exists_bool, -Int.not_le, -Int.not_lt, -getElem?_pos, -List.getD_eq_getElem?_getD])
      · exact absurd hk (by simp [-Bool.exists_bool, -Int.not_le, -Int.not_lt, -getElem?_pos, -List.getD_eq_getElem?_getD])
    · simp only at hu
      split at hu
      · obtain rfl := Option.some.inj hu; cases A <;> simp [-Bool.exists_bool, -Int.not_le, -Int.not_lt, -getElem?_pos, -List.getD_eq_getElem?_getD, blkOf] at hb
      · exact absurd hu (by simp [-Bool.exists_bool, -Int.not_le, -Int.not_lt, -getElem?_pos, -List.getD_eq_getElem?_getD])
  · have hS := Any8.slices_Grow_grow (P := Tryz.prog) (ρ := Tryz.growL_ren) Tryz.growL i0 z hi h2 (by omega) A 0 0 n [] w (by omega) (by omega) (by rw [hzero]; omega) (by omega) (by simp [-Bool.exists_bool, -Int.not_le, -Int.not_lt, -getElem?_pos, -List.getD_eq_getElem?_getD]) (fun _ => rfl) (fun a _ j v h => by simp [-Bool.exists_bool, -Int.not_le, -Int.not_lt, -getElem?_pos, -List.getD_eq_getElem?_getD] at h)
    change Calls Tryz.prog 117 _ _ _ at hS
    refine hS.mono ?_
    rintro e w' ⟨rfl, rfl⟩
    have hge := grownCap_ge w (0 + n) 0 66
    have hle := grownCap_le_maxLen w (0 + n) 0 66 (by unfold maxLen; omega)
    have et : Tryz.growL_ren.t 25 = 66 := rfl
    rw [et]
    generalize grownCap w (0 + n) 0 66 = cp at hge hle ⊢
    have hb0 : blkOf (.slice (some ⟨w.heap.size, 0, none⟩) 0 cp) = some w.heap.size := by simp only [blkOf]; rw [if_neg (by omega)]
    refine ⟨_, fun k => if k = (0, 0) then some (.slice (some ⟨w.heap.size, 0, none⟩) 0 cp) else none, fun b => F b ∨ b = w.heap.size, rfl, fun b h => .inl h, ?_, ⟨fun k e hk => ?_, fun k k' e e' u u' b hk hk' _ _ _ _ _ _ => ?_⟩, ⟨rfl, rfl, rfl, by simp [-Bool.exists_bool, -Int.not_le, -Int.not_lt, -getElem?_pos, -List.getD_eq_getElem?_getD], fun b _ h => (Chg.alloc (fun _ => False) w.drew _).block b (fun h => h) h, Nat.le_succ _⟩, fun k e u b hk _ hu hb => ?_, fun k hk => if_neg (fun e => hk (by rw [e]))⟩
    · unfold DenV; exact ⟨rfl, _, cp, rfl, .inl rfl, Nat.zero_le _⟩
    · simp only [hl] at hk
      split at hk
      · rename_i h; subst h
        obtain rfl := Option.some.inj hk
        refine ⟨_, rfl, .inl ⟨[], i0, hi, ⟨by simp [-Bool.exists_bool, -Int.not_le, -Int.not_lt, -getElem?_pos, -List.getD_eq_getElem?_getD], .inr ⟨w.heap.size, cp, _, rfl, Nat.zero_le _, heap_alloc_new w.drew _, Nat.zero_le _, hle, ?_, by simp [-Bool.exists_bool, -Int.not_le, -Int.not_lt, -getElem?_pos, -List.getD_eq_getElem?_getD]⟩⟩, DenVs.nil⟩, fun _ b hb => ?_⟩
        · simp only [Array.size_append, List.size_toArray, size_zeroCells, hzc, hz, List.length_nil]
          omega
        · rw [hb0] at hb; exact .inr (Option.some.inj hb).symm
      · exact absurd hk (by simp [-Bool.exists_bool, -Int.not_le, -Int.not_lt, -getElem?_pos, -List.getD_eq_getElem?_getD])
    · simp only [hl] at hk hk'
      split at hk <;> split at hk'
      · rename_i h h'; rw [h, h']
      · exact absurd hk' (by simp [-Bool.exists_bool, -Int.not_le, -Int.not_lt, -getElem?_pos, -List.getD_eq_getElem?_getD])
      · exact absurd hk (by simp [-Bool.exists_bool, -Int.not_le, -Int.not_lt, -getElem?_pos, -List.getD_eq_getElem?_getD])
      · exact absurd hk (by simp [-Bool.exists_bool, -Int.not_le, -Int.not_lt, -getElem?_pos, -List.getD_eq_getElem?_getD])
    · simp only at hu
      split at hu
      · obtain rfl := Option.some.inj hu; rw [hb0] at hb; have := Option.some.inj hb; omega
      · exact absurd hu (by simp [-Bool.exists_bool, -Int.not_le, -Int.not_lt, -getElem?_pos, -List.getD_eq_getElem?_getD])
end Go.Proofs.YtjknjekemolndaaGreat.ZL
namespace Go.Proofs.YtjknjekemolndaaGreat.ZL
open Go Go.Proofs.YtjknjekemolndaaGreat.Abs Go.Proofs.YtjknjekemolndaaGreat.Abs.Pl Go.RowKit Go.Proofs
set_option linter.unusedVariables false
set_option linter.unusedSimpArgs false
theorem negAt_t {a : At} (h : isAt a.1 a.2.1 = true) : negAt a.1 a.2.1 a.2.2 = (a.1.map (- ·), -a.2.1, !a.2.2, true) := if_pos h
theorem negAt_f {a : At} (h : isAt a.1 a.2.1 = false) : negAt a.1 a.2.1 a.2.2 = noAt := if_neg (by rw [h]; simp [-Bool.exists_bool, -Int.not_le, -Int.not_lt, -getElem?_pos, -List.getD_eq_getElem?_getD])
theorem NegateAtom (a : At) : Cn Tryz.prog 92 [A1 a] (A2 (negAt a.1 a.2.1 a.2.2)) hemp := by
  refine Cn.of [] mixed Tryz.func92 rfl Tryz.call92 (by kernel_rfl) rfl ?_
  simp -implicitDefEqProofs -dsimp +contextual [-Bool.exists_bool, -Int.not_le, -Int.not_lt, -getElem?_pos, -List.getD_eq_getElem?_getD, Tryz.f92]
  refine CallJ.pure (IsAtom a) rfl (by simp [-Bool.exists_bool, -Int.not_le, -Int.not_lt, -getElem?_pos, -List.getD_eq_getElem?_getD]) ?_
  simp -implicitDefEqProofs -dsimp +contextual [-Bool.exists_bool, -Int.not_le, -Int.not_lt, -getElem?_pos, -List.getD_eq_getElem?_getD]
  refine ⟨fun ha => ?_, fun ha => RLe.pure 3 (by rw [negAt_f ha]; simp [-Bool.exists_bool, -Int.not_le, -Int.not_lt, -getElem?_pos, -List.getD_eq_getElem?_getD, noAt, setH])⟩
  rw [negAt_t ha]
  have p := isAt_iff.1 ha
  have ng : ∀ {x : Int}, isNum x = true → IntKind.wrap .i64 (-x) = -x := fun {x} h => by
    have := isNum_iff.1 h
    exact wr (by omega) (by omega)
  rw [ng p.2.1]
  refine WP.loop mixed [] (fun i : Nat => ⟨tl [(1, .ptr (0, 0) 0), (2, .ptr (1, 0) 0), (4, .ptr (2, 0) 0), (5, I i)], hl [((0, 0), .box (aV a)), ((1, 0), .box [.nil, I 0, B false]), ((2, 0), .box [.ref (3, 0) i, I (-a.2.1), B (!a.2.2)]), ((3, 0), .row 3 i (dl ((a.1.take i).map fun x => .int .i64 (-x))))], 4⟩) (fun i => i ≤ a.1.length) (fun i => a.1.length - i) 0 (by kernel_rfl) ?_ ?_ ?_
  · refine Le.trans (Le.nilBox (13, 0) 0 3 (c := [.nil, I (-a.2.1), B (!a.2.2)]) (by simp [-Bool.exists_bool, -Int.not_le, -Int.not_lt, -getElem?_pos, -List.getD_eq_getElem?_getD, setH]) rfl) (Le.told [((2, 0), (13, 0)), ((3, 0), (16, 0))] ?_ ?_ ?_) <;> simp [-Bool.exists_bool, -Int.not_le, -Int.not_lt, -getElem?_pos, -List.getD_eq_getElem?_getD, setH, ELe]
  · simp [-Bool.exists_bool, -Int.not_le, -Int.not_lt, -getElem?_pos, -List.getD_eq_getElem?_getD]
  · intro i hi
    by_cases h : i < a.1.length
    · simp -implicitDefEqProofs -dsimp +contextual [-Bool.exists_bool, -Int.not_le, -Int.not_lt, -getElem?_pos, -List.getD_eq_getElem?_getD, h]
      rw [ng (p.2.2.1 _ (nth_mem h))]
      refine ⟨⟨by omega, by simp [-Bool.exists_bool, -Int.not_le, -Int.not_lt, -getElem?_pos, -List.getD_eq_getElem?_getD, maxLen]; omega⟩, by kernel_rfl, i + 1, h, by omega, ?_⟩
      rw [wr (by omega) (by omega)]
      refine Le.told [((3, 0), (18, 0))] ?_ ?_ ?_ <;> simp [-Bool.exists_bool, -Int.not_le, -Int.not_lt, -getElem?_pos, -List.getD_eq_getElem?_getD]
      rw [← List.map_take, ← List.map_take, nth_take h, List.map_append]
      rfl
    · obtain rfl : i = a.1.length := by omega
      simp -implicitDefEqProofs -dsimp +contextual [-Bool.exists_bool, -Int.not_le, -Int.not_lt, -getElem?_pos, -List.getD_eq_getElem?_getD, h]
      refine RLe.pure 3 ?_
      simp [-Bool.exists_bool, -Int.not_le, -Int.not_lt, -getElem?_pos, -List.getD_eq_getElem?_getD, setH]
def negs (l : List Int) (i : Nat) : List Int := (l.take i).map (- ·) ++ List.replicate (l.length - i) 0
theorem negs_len (l : List Int) (i : Nat) (h : i ≤ l.length) : (negs l i).length = l.length := by simp [-Bool.exists_bool, -Int.not_le, -Int.not_lt, -getElem?_pos, -List.getD_eq_getElem?_getD, negs]; omega
theorem negs_set (l : List Int) (i : Nat) (h : i < l.length) : (negs l i).set i (-nth l i) = negs l (i + 1) := by
  have e : l.length - i = (l.length - (i + 1)) + 1 := by omega
  unfold negs
  rw [e, List.replicate_succ, nth_take h, List.set_append_right _ _ (by simp [-Bool.exists_bool, -Int.not_le, -Int.not_lt, -getElem?_pos, -List.getD_eq_getElem?_getD]; omega)]
  simp [-Bool.exists_bool, -Int.not_le, -Int.not_lt, -getElem?_pos, -List.getD_eq_getElem?_getD, Nat.min_eq_left (Nat.le_of_lt h)]
theorem iNegateAtom (a : At) : Cn Tryz.prog 91 [A1 a] (A2 (negAt a.1 a.2.1 a.2.2)) hemp := by
  refine Cn.of [] mixed Tryz.func91 rfl Tryz.call91 (by kernel_rfl) rfl ?_
  simp -implicitDefEqProofs -dsimp +contextual [-Bool.exists_bool, -Int.not_le, -Int.not_lt, -getElem?_pos, -List.getD_eq_getElem?_getD, Tryz.f91]
  refine CallJ.pure (iIsAtom a) rfl (by simp [-Bool.exists_bool, -Int.not_le, -Int.not_lt, -getElem?_pos, -List.getD_eq_getElem?_getD]) ?_
  simp -implicitDefEqProofs -dsimp +contextual [-Bool.exists_bool, -Int.not_le, -Int.not_lt, -getElem?_pos, -List.getD_eq_getElem?_getD]
  refine ⟨fun ha => ?_, fun ha => RLe.pure 3 (by rw [negAt_f ha]; simp [-Bool.exists_bool, -Int.not_le, -Int.not_lt, -getElem?_pos, -List.getD_eq_getElem?_getD, noAt, setH])⟩
  rw [negAt_t ha]
  have p := isAt_iff.1 ha
  have ng : ∀ {x : Int}, isNum x = true → IntKind.wrap .i64 (-x) = -x := fun {x} h => by
    have := isNum_iff.1 h
    exact wr (by omega) (by omega)
  rw [ng p.2.1]
  refine ⟨⟨by omega, by simp [-Bool.exists_bool, -Int.not_le, -Int.not_lt, -getElem?_pos, -List.getD_eq_getElem?_getD, maxLen]; omega⟩, ?_⟩
  refine WP.loop mixed [] (fun i : Nat => ⟨tl [(2, .ptr (1, 0) 0), (4, .ptr (2, 0) 0), (23, Is a.1), (24, I a.1.length), (25, I i)], hl [((1, 0), .box [.nil, I 0, B false]), ((2, 0), .box [.ref (3, 0) a.1.length, I (-a.2.1), B (!a.2.2)]), ((3, 0), .row 3 a.1.length (dl ((negs a.1 i).map (.int .i64))))], 4⟩) (fun i => i ≤ a.1.length) (fun i => a.1.length - i) 0 (by kernel_rfl) ?_ ?_ ?_
  · refine Le.told [((2, 0), (17, 0)), ((3, 0), (9, 0))] ?_ ?_ ?_ <;> simp [-Bool.exists_bool, -Int.not_le, -Int.not_lt, -getElem?_pos, -List.getD_eq_getElem?_getD, setH, negs]
  · simp [-Bool.exists_bool, -Int.not_le, -Int.not_lt, -getElem?_pos, -List.getD_eq_getElem?_getD]
  · intro i hi
    by_cases h : i < a.1.length
    · have h1 : i + 1 ≤ (negs a.1 i).length := by rw [negs_len _ i hi]; exact h
      simp -implicitDefEqProofs -dsimp +contextual [-Bool.exists_bool, -Int.not_le, -Int.not_lt, -getElem?_pos, -List.getD_eq_getElem?_getD, h, h1]
      rw [ng (p.2.2.1 _ (nth_mem h))]
      refine ⟨i + 1, h, by omega, ?_⟩
      rw [wr (by omega) (by omega)]
      refine Le.told [] ?_ ?_ ?_ <;> simp [-Bool.exists_bool, -Int.not_le, -Int.not_lt, -getElem?_pos, -List.getD_eq_getElem?_getD]
      rw [← negs_set a.1 i h, List.map_set, List.set_eq_take_append_cons_drop, if_pos (by rw [List.length_map]; exact h1)]
    · obtain rfl : i = a.1.length := by omega
      simp -implicitDefEqProofs -dsimp +contextual [-Bool.exists_bool, -Int.not_le, -Int.not_lt, -getElem?_pos, -List.getD_eq_getElem?_getD, h]
      refine RLe.pure 3 ?_
      simp [-Bool.exists_bool, -Int.not_le, -Int.not_lt, -getElem?_pos, -List.getD_eq_getElem?_getD, setH, negs]
theorem _root_.Go.Proofs.YtjknjekemolndaaGreat.Abs.CallJ.same {P : Program} {N nx s f : Nat} {H : Store} {vs : List V} {r : V} {Hr : Store} {K : Eff → Prop} (h : Cn P f vs r Hr) (ha : allKs (fun _ => False) vs)
    (hk : K ⟨mapK (atS s) r, [], [], upCall s Hr⟩) : CallJ P N nx s H f vs K := by
  refine ⟨_, hk, h.enter, upCall_ups, fun k hk => absurd hk (by simp [-Bool.exists_bool, -Int.not_le, -Int.not_lt, -getElem?_pos, -List.getD_eq_getElem?_getD]), fun k hk => absurd hk (by simp [-Bool.exists_bool, -Int.not_le, -Int.not_lt, -getElem?_pos, -List.getD_eq_getElem?_getD]), fun {w0 F0 E0 fr T Hc a w M F us dst} hfr hat hden hH hd => ?_⟩
  let Fc : Nat → Prop := fun b => F b ∧ b < w.heap.size
  have hm : DenVs M Fc w vs us.toList := hden.move (fun _ _ h => h) ⟨fun b hb => .inl hb.1, fun _ _ _ => rfl⟩
  refine (h.run w Fc us (fun b hb => hb.2) (DenVs.cong (M := M) (g := fun k => k) (p := fun _ => False) (fun k h => h.elim) ha (by rw [mapL_id]; exact hm))).mono ?_
  rintro e w' ⟨v, M', F', rfl, hFF, hr, hR, hc, hnew, hM0⟩
  refine ⟨v, rfl, hat.called (F2 := fun b => F' b ∧ (F b ∨ w.heap.size ≤ b)) hfr hd hc (fun b hb => hb.2) (fun b h1 h2 => ⟨hFF b ⟨h1, h2⟩, .inl h1⟩) hM0 ?_ ?_ hnew⟩
  · exact hr.move (fun _ _ h => h) ⟨fun b hb => .inl hb.1, fun _ _ _ => rfl⟩
  · refine hR.mono (fun b hb => hb.1) fun k e u b h1 h2 h3 h4 => ⟨?_, .inr (hnew k e u b h1 h2 h3 h4)⟩
    obtain ⟨u', hu', _, hF⟩ := hR.ent k e h1
    rw [h3] at hu'
    obtain rfl := Option.some.inj hu'
    exact hF h2 b h4
def sD (L : List At) : D := .sl L.length (asD L)
abbrev Ss (Ls : List (List At)) : V := .d (.sl Ls.length (Ls.map sD))
theorem Ss_get (Ls : List (List At)) (i : Nat) (h : i < Ls.length) : (Ls.map sD)[i]? = some (sD (nth Ls i)) := by rw [List.getElem?_map, nth_some h]; rfl
def tot : List (List At) → Nat
  | [] => 0
  | L :: Ls => L.length + tot Ls
theorem tot_flat : ∀ Ls : List (List At), Ls.flatten.length = tot Ls
  | [] => rfl
  | L :: Ls => by simp [-Bool.exists_bool, -Int.not_le, -Int.not_lt, -getElem?_pos, -List.getD_eq_getElem?_getD, tot, tot_flat Ls]
theorem tot_drop (Ls : List (List At)) (i : Nat) : tot (Ls.drop i) ≤ tot Ls := by
  induction Ls generalizing i with
  | nil => simp [-Bool.exists_bool, -Int.not_le, -Int.not_lt, -getElem?_pos, -List.getD_eq_getElem?_getD]
  | cons L Ls ih => cases i with
    | zero => exact Nat.le_refl _
    | succ i => have := ih i; simp [-Bool.exists_bool, -Int.not_le, -Int.not_lt, -getElem?_pos, -List.getD_eq_getElem?_getD, tot]; omega
theorem iConcat (Ls : List (List At)) (h : Ls.length ≤ 1048576) (ht : tot Ls ≤ 1048576) : Cn Tryz.prog 71 [Ss Ls] (.ref (0, 0) Ls.flatten.length) (Go.Proofs.YtjknjekemolndaaGreat.Abs.hl [((0, 0), .row 66 Ls.flatten.length (dl (asD Ls.flatten)))]) := by
  refine Cn.of [] mixed Tryz.func71 rfl Tryz.call71 (by kernel_rfl) rfl ?_
  simp -implicitDefEqProofs -dsimp +contextual [-Bool.exists_bool, -Int.not_le, -Int.not_lt, -getElem?_pos, -List.getD_eq_getElem?_getD, Tryz.f71]
  refine WP.loop mixed [] (fun p : Nat × Nat => ⟨tl [(0, Ss Ls), (3, I p.2), (9, Ss Ls), (10, I Ls.length), (11, I p.1)], hl [], 1⟩) (fun p => p.1 ≤ Ls.length ∧ p.2 + tot (Ls.drop p.1) = tot Ls) (fun p => Ls.length - p.1) (0, 0) (by kernel_rfl) ?_ ?_ ?_
  · refine Le.told [] ?_ ?_ ?_ <;> simp [-Bool.exists_bool, -Int.not_le, -Int.not_lt, -getElem?_pos, -List.getD_eq_getElem?_getD]
  · exact ⟨Nat.zero_le _, by simp [-Bool.exists_bool, -Int.not_le, -Int.not_lt, -getElem?_pos, -List.getD_eq_getElem?_getD]⟩
  · rintro ⟨i, n⟩ ⟨hi, hn⟩
    simp only at hi hn
    by_cases h1 : i < Ls.length
    · have hg := Ss_get Ls i h1
      simp only [sD] at hg
      rw [nth_drop h1, tot] at hn
      have hw : IntKind.wrap .i64 ((n : Int) + (nth Ls i).length) = (n : Int) + (nth Ls i).length := wr (by omega) (by omega)
      have h0 : ¬ ((n : Int) + (nth Ls i).length < 0) := by omega
      simp -implicitDefEqProofs -dsimp +contextual [-Bool.exists_bool, -Int.not_le, -Int.not_lt, -getElem?_pos, -List.getD_eq_getElem?_getD, h1, hg, hw, h0, sD]
      refine ⟨i + 1, n + (nth Ls i).length, ⟨h1, by omega⟩, by omega, ?_⟩
      rw [wr (by omega) (by omega)]
      refine Le.told [] ?_ ?_ ?_ <;> simp [-Bool.exists_bool, -Int.not_le, -Int.not_lt, -getElem?_pos, -List.getD_eq_getElem?_getD]
    · rw [drop_nil (by omega), tot, Nat.add_zero] at hn
      simp -implicitDefEqProofs -dsimp +contextual [-Bool.exists_bool, -Int.not_le, -Int.not_lt, -getElem?_pos, -List.getD_eq_getElem?_getD, h1]
      refine CallJ.same (iGrow n (by omega)) (by simp [-Bool.exists_bool, -Int.not_le, -Int.not_lt, -getElem?_pos, -List.getD_eq_getElem?_getD, allKs, allK]) ?_
      simp -implicitDefEqProofs -dsimp +contextual [-Bool.exists_bool, -Int.not_le, -Int.not_lt, -getElem?_pos, -List.getD_eq_getElem?_getD]
      refine WP.loop mixed [] (fun i : Nat => ⟨tl [(6, .ref (3, 0) (Ls.take i).flatten.length), (25, Ss Ls), (26, I Ls.length), (27, I i)], Go.Proofs.YtjknjekemolndaaGreat.Abs.hl [((3, 0), .row 66 (Ls.take i).flatten.length (dl (asD (Ls.take i).flatten)))], 4⟩) (fun i => i ≤ Ls.length) (fun i => Ls.length - i) 0 (by kernel_rfl) ?_ ?_ ?_
      · refine Le.told [] ?_ ?_ ?_ <;> simp [-Bool.exists_bool, -Int.not_le, -Int.not_lt, -getElem?_pos, -List.getD_eq_getElem?_getD, asD, dl_nil]
      · simp [-Bool.exists_bool, -Int.not_le, -Int.not_lt, -getElem?_pos, -List.getD_eq_getElem?_getD]
      · intro i hi
        by_cases h2 : i < Ls.length
        · have hg := Ss_get Ls i h2
          simp only [sD] at hg
          have hf : (Ls.take (i + 1)).flatten = (Ls.take i).flatten ++ nth Ls i := by rw [nth_take h2]; simp [-Bool.exists_bool, -Int.not_le, -Int.not_lt, -getElem?_pos, -List.getD_eq_getElem?_getD]
          have hfl : (Ls.take i).flatten.length + (nth Ls i).length ≤ 1048576 := by
            have e : Ls.flatten = (Ls.take (i + 1)).flatten ++ (Ls.drop (i + 1)).flatten := by rw [← List.flatten_append, List.take_append_drop]
            have e2 := congrArg List.length e
            rw [hf, List.length_append, List.length_append, tot_flat] at e2
            omega
          have hs := congrArg List.length hf
          simp only [List.length_append, List.length_flatten, List.map_take] at hs
          simp -implicitDefEqProofs -dsimp +contextual [-Bool.exists_bool, -Int.not_le, -Int.not_lt, -getElem?_pos, -List.getD_eq_getElem?_getD, h2, hg, sD]
          refine ⟨⟨by simp [-Bool.exists_bool, -Int.not_le, -Int.not_lt, -getElem?_pos, -List.getD_eq_getElem?_getD] at hfl; omega, by simp [-Bool.exists_bool, -Int.not_le, -Int.not_lt, -getElem?_pos, -List.getD_eq_getElem?_getD] at hfl; simp [-Bool.exists_bool, -Int.not_le, -Int.not_lt, -getElem?_pos, -List.getD_eq_getElem?_getD, maxLen]; omega⟩, i + 1, h2, by omega, ?_⟩
          rw [wr (by omega) (by omega)]
          refine Le.told [((3, 0), (10, 0))] ?_ ?_ ?_ <;> simp [-Bool.exists_bool, -Int.not_le, -Int.not_lt, -getElem?_pos, -List.getD_eq_getElem?_getD, hf, asD_append, hs]
        · obtain rfl : i = Ls.length := by omega
          simp -implicitDefEqProofs -dsimp +contextual [-Bool.exists_bool, -Int.not_le, -Int.not_lt, -getElem?_pos, -List.getD_eq_getElem?_getD, h2]
          refine RLe.told [((0, 0), (3, 0))] ?_ ?_ ?_ <;> simp [-Bool.exists_bool, -Int.not_le, -Int.not_lt, -getElem?_pos, -List.getD_eq_getElem?_getD]
theorem iConcatW (Ls : List (List At)) (h : Ls.length ≤ 1048576) (ht : tot Ls ≤ 1048576) : Cn Tryz.prog 71 [Ss Ls] (As Ls.flatten) hemp := Cn.freeze 2 (iConcat Ls h ht) (by simp [-Bool.exists_bool, -Int.not_le, -Int.not_lt, -getElem?_pos, -List.getD_eq_getElem?_getD, lendT, lendV])
def meetC (a b : Ce) : Int × List At × Bool := if isCe a.1 a.2 = true ∧ isCe b.1 b.2 = true ∧ a.1 = b.1 then limN a.1 (a.2 ++ b.2) else (0, [], false)
theorem meetC_f {a b : Ce} (h : ¬ (meetC a b).2.2 = true) : meetC a b = (0, [], false) := by
  unfold meetC at h ⊢
  split
  · rename_i h2; rw [if_pos h2] at h; exact limN_f h
  · rfl
end Go.Proofs.YtjknjekemolndaaGreat.ZL
namespace Go.Proofs.YtjknjekemolndaaGreat.ZL
open Go Go.Proofs.YtjknjekemolndaaGreat.Abs Go.Proofs.YtjknjekemolndaaGreat.Abs.Pl Go.RowKit Go.Proofs
set_option linter.unusedVariables false
set_option linter.unusedSimpArgs false
theorem MeetCells (a b : Ce) (ha : a.2.length ≤ 1048576) (hb : b.2.length ≤ 1048576) : Cn Tryz.prog 84 [.agg (cV a), .agg (cV b)] (D2 (meetC a b)) hemp := by
  refine Cn.of [0] mixed Tryz.func84 rfl Tryz.call84 (by kernel_rfl) rfl ?_
  simp -implicitDefEqProofs -dsimp +contextual [-Bool.exists_bool, -Int.not_le, -Int.not_lt, -getElem?_pos, -List.getD_eq_getElem?_getD, Tryz.f84]
  have no : ∀ {H : Store}, ¬ (isCe a.1 a.2 = true ∧ isCe b.1 b.2 = true ∧ a.1 = b.1) → RLe Tryz.prog H (V.tup [V.agg [V.d (D.int IntKind.i64 0), V.nil], V.d (D.bool false)]) (D2 (meetC a b)) hemp := fun h => by
    rw [meetC, if_neg h]
    exact RLe.pure 2 (by simp [-Bool.exists_bool, -Int.not_le, -Int.not_lt, -getElem?_pos, -List.getD_eq_getElem?_getD, asD])
  refine CallJ.pure (IsCell a.1 a.2 ha) rfl (by simp [-Bool.exists_bool, -Int.not_le, -Int.not_lt, -getElem?_pos, -List.getD_eq_getElem?_getD]) ?_
  simp -implicitDefEqProofs -dsimp +contextual [-Bool.exists_bool, -Int.not_le, -Int.not_lt, -getElem?_pos, -List.getD_eq_getElem?_getD]
  refine ⟨fun h1 => ?_, fun h1 => no (by simp [-Bool.exists_bool, -Int.not_le, -Int.not_lt, -getElem?_pos, -List.getD_eq_getElem?_getD, h1])⟩
  refine CallJ.pure (IsCell b.1 b.2 hb) rfl (by simp [-Bool.exists_bool, -Int.not_le, -Int.not_lt, -getElem?_pos, -List.getD_eq_getElem?_getD]) ?_
  simp -implicitDefEqProofs -dsimp +contextual [-Bool.exists_bool, -Int.not_le, -Int.not_lt, -getElem?_pos, -List.getD_eq_getElem?_getD, h1]
  refine ⟨fun h2 => ⟨fun h3 => ?_, fun h3 => no (by simp [-Bool.exists_bool, -Int.not_le, -Int.not_lt, -getElem?_pos, -List.getD_eq_getElem?_getD, h3])⟩, fun h2 => no (by simp [-Bool.exists_bool, -Int.not_le, -Int.not_lt, -getElem?_pos, -List.getD_eq_getElem?_getD, h2])⟩
  rw [meetC, if_pos ⟨h1, h2, h3⟩]
  have hd := isCe_d h1
  have ha16 := isCe_l h1
  have hb16 := isCe_l h2
  have hall : allOk a.1 (a.2 ++ b.2) := fun x hx => by
    rcases List.mem_append.1 hx with hx | hx
    · exact isCe_a h1 x hx
    · rw [h3]; exact isCe_a h2 x hx
  refine ⟨⟨by omega, by simp [-Bool.exists_bool, -Int.not_le, -Int.not_lt, -getElem?_pos, -List.getD_eq_getElem?_getD, maxLen]; omega⟩, ⟨by omega, by simp [-Bool.exists_bool, -Int.not_le, -Int.not_lt, -getElem?_pos, -List.getD_eq_getElem?_getD, maxLen]; omega⟩, Quiet.of [2] (by kernel_rfl) (by simp [-Bool.exists_bool, -Int.not_le, -Int.not_lt, -getElem?_pos, -List.getD_eq_getElem?_getD, offB]), ?_⟩
  refine CallJ.frz (t := 66) (n := a.2.length + b.2.length) (c := dl (asD a.2 ++ asD b.2)) (c' := asD a.2 ++ asD b.2) (27, 0) (l3Normal b.1 (h3 ▸ hd) (a.2 ++ b.2) (by simp [-Bool.exists_bool, -Int.not_le, -Int.not_lt, -getElem?_pos, -List.getD_eq_getElem?_getD]; omega) (h3 ▸ hall)) (by simp [-Bool.exists_bool, -Int.not_le, -Int.not_lt, -getElem?_pos, -List.getD_eq_getElem?_getD]) (dl_asDs _) (ks := [(27, 0)]) (by simp [-Bool.exists_bool, -Int.not_le, -Int.not_lt, -getElem?_pos, -List.getD_eq_getElem?_getD, setH, asD_append]) (by simp [-Bool.exists_bool, -Int.not_le, -Int.not_lt, -getElem?_pos, -List.getD_eq_getElem?_getD, slotsL, slotsV]) ?_
  simp -implicitDefEqProofs -dsimp +contextual [-Bool.exists_bool, -Int.not_le, -Int.not_lt, -getElem?_pos, -List.getD_eq_getElem?_getD]
  refine ⟨Quiet.of [] (by kernel_rfl) (by simp [-Bool.exists_bool, -Int.not_le, -Int.not_lt, -getElem?_pos, -List.getD_eq_getElem?_getD, allP]), Quiet.of [] (by kernel_rfl) (by simp [-Bool.exists_bool, -Int.not_le, -Int.not_lt, -getElem?_pos, -List.getD_eq_getElem?_getD, allP]), fun hb => ?_, fun hb => ?_⟩
  · refine RLe.pure 3 ?_
    rw [h3, limN, if_pos (by omega)]
    simp [-Bool.exists_bool, -Int.not_le, -Int.not_lt, -getElem?_pos, -List.getD_eq_getElem?_getD, asD]
  · refine RLe.pure 3 ?_
    rw [h3, limN, if_neg (by omega)]
    simp [-Bool.exists_bool, -Int.not_le, -Int.not_lt, -getElem?_pos, -List.getD_eq_getElem?_getD]
theorem iMeetCells (a b : Ce) (ha : a.2.length ≤ 1048576) (hb : b.2.length ≤ 1048576) : Cn Tryz.prog 24 [.agg (cV a), .agg (cV b)] (oV (meetC a b)) (oH (meetC a b)) := by
  refine Cn.of [] mixed Tryz.func24 rfl Tryz.call24 (by kernel_rfl) rfl ?_
  simp -implicitDefEqProofs -dsimp +contextual [-Bool.exists_bool, -Int.not_le, -Int.not_lt, -getElem?_pos, -List.getD_eq_getElem?_getD, Tryz.f24]
  have no : ∀ {H : Store}, ¬ (isCe a.1 a.2 = true ∧ isCe b.1 b.2 = true ∧ a.1 = b.1) → RLe Tryz.prog H (V.tup [V.agg [V.d (D.int IntKind.i64 0), V.nil], V.d (D.bool false)]) (oV (meetC a b)) (oH (meetC a b)) := fun h => by
    rw [meetC, if_neg h, oV_f (by simp [-Bool.exists_bool, -Int.not_le, -Int.not_lt, -getElem?_pos, -List.getD_eq_getElem?_getD]), oH_f (by simp [-Bool.exists_bool, -Int.not_le, -Int.not_lt, -getElem?_pos, -List.getD_eq_getElem?_getD])]
    exact RLe.emp (by simp [-Bool.exists_bool, -Int.not_le, -Int.not_lt, -getElem?_pos, -List.getD_eq_getElem?_getD])
  refine CallJ.pure (iIsCell a.1 a.2 ha) rfl (by simp [-Bool.exists_bool, -Int.not_le, -Int.not_lt, -getElem?_pos, -List.getD_eq_getElem?_getD]) ?_
  simp -implicitDefEqProofs -dsimp +contextual [-Bool.exists_bool, -Int.not_le, -Int.not_lt, -getElem?_pos, -List.getD_eq_getElem?_getD]
  refine ⟨fun h1 => ?_, fun h1 => no (by simp [-Bool.exists_bool, -Int.not_le, -Int.not_lt, -getElem?_pos, -List.getD_eq_getElem?_getD, h1])⟩
  refine CallJ.pure (iIsCell b.1 b.2 hb) rfl (by simp [-Bool.exists_bool, -Int.not_le, -Int.not_lt, -getElem?_pos, -List.getD_eq_getElem?_getD]) ?_
  simp -implicitDefEqProofs -dsimp +contextual [-Bool.exists_bool, -Int.not_le, -Int.not_lt, -getElem?_pos, -List.getD_eq_getElem?_getD, h1]
  refine ⟨fun h2 => ⟨fun h3 => ?_, fun h3 => no (by simp [-Bool.exists_bool, -Int.not_le, -Int.not_lt, -getElem?_pos, -List.getD_eq_getElem?_getD, h3])⟩, fun h2 => no (by simp [-Bool.exists_bool, -Int.not_le, -Int.not_lt, -getElem?_pos, -List.getD_eq_getElem?_getD, h2])⟩
  have hd := isCe_d h1
  have ha16 := isCe_l h1
  have hb16 := isCe_l h2
  have hall : allOk a.1 (a.2 ++ b.2) := fun x hx => by
    rcases List.mem_append.1 hx with hx | hx
    · exact isCe_a h1 x hx
    · rw [h3]; exact isCe_a h2 x hx
  have hm : meetC a b = limN a.1 (a.2 ++ b.2) := by rw [meetC, if_pos ⟨h1, h2, h3⟩]
  rw [hm]
  have e2 : repV 2 [V.nil] = [V.nil, V.nil] := rfl
  simp -implicitDefEqProofs -dsimp +contextual [-Bool.exists_bool, -Int.not_le, -Int.not_lt, -getElem?_pos, -List.getD_eq_getElem?_getD, e2]
  have hf : [a.2, b.2].flatten = a.2 ++ b.2 := by simp [-Bool.exists_bool, -Int.not_le, -Int.not_lt, -getElem?_pos, -List.getD_eq_getElem?_getD]
  refine CallJ.pure (iConcatW [a.2, b.2] (by simp [-Bool.exists_bool, -Int.not_le, -Int.not_lt, -getElem?_pos, -List.getD_eq_getElem?_getD]) (by simp [-Bool.exists_bool, -Int.not_le, -Int.not_lt, -getElem?_pos, -List.getD_eq_getElem?_getD, tot]; omega)) (by simp [-Bool.exists_bool, -Int.not_le, -Int.not_lt, -getElem?_pos, -List.getD_eq_getElem?_getD, sD]; rfl) (by simp [-Bool.exists_bool, -Int.not_le, -Int.not_lt, -getElem?_pos, -List.getD_eq_getElem?_getD]) ?_
  rw [hf]
  simp -implicitDefEqProofs -dsimp +contextual [-Bool.exists_bool, -Int.not_le, -Int.not_lt, -getElem?_pos, -List.getD_eq_getElem?_getD]
  have hL := iLimitedNormal a.1 hd (a.2 ++ b.2) (by simp [-Bool.exists_bool, -Int.not_le, -Int.not_lt, -getElem?_pos, -List.getD_eq_getElem?_getD]; omega) hall
  by_cases hr : (limN a.1 (a.2 ++ b.2)).2.2 = true
  · rw [oV_t hr, oH_t hr] at hL ⊢
    refine CallJ.pure (ks := []) hL (by simp [-Bool.exists_bool, -Int.not_le, -Int.not_lt, -getElem?_pos, -List.getD_eq_getElem?_getD, h3]) (by simp [-Bool.exists_bool, -Int.not_le, -Int.not_lt, -getElem?_pos, -List.getD_eq_getElem?_getD]) ?_
    simp -implicitDefEqProofs -dsimp +contextual [-Bool.exists_bool, -Int.not_le, -Int.not_lt, -getElem?_pos, -List.getD_eq_getElem?_getD]
    refine RLe.pass 27 _ ?_ ?_ ?_
    · simp [-Bool.exists_bool, -Int.not_le, -Int.not_lt, -getElem?_pos, -List.getD_eq_getElem?_getD, invO]
    · simp [-Bool.exists_bool, -Int.not_le, -Int.not_lt, -getElem?_pos, -List.getD_eq_getElem?_getD, setH, upOwn_0]
    · intro j hj; simp [-Bool.exists_bool, -Int.not_le, -Int.not_lt, -getElem?_pos, -List.getD_eq_getElem?_getD, setH, upOwn_j _ _ _ _ hj]
  · rw [oV_f hr, oH_f hr] at hL ⊢
    refine CallJ.pure (ks := []) hL (by simp [-Bool.exists_bool, -Int.not_le, -Int.not_lt, -getElem?_pos, -List.getD_eq_getElem?_getD, h3]) (by simp [-Bool.exists_bool, -Int.not_le, -Int.not_lt, -getElem?_pos, -List.getD_eq_getElem?_getD]) ?_
    simp -implicitDefEqProofs -dsimp +contextual [-Bool.exists_bool, -Int.not_le, -Int.not_lt, -getElem?_pos, -List.getD_eq_getElem?_getD]
    exact RLe.emp (by simp [-Bool.exists_bool, -Int.not_le, -Int.not_lt, -getElem?_pos, -List.getD_eq_getElem?_getD])
end Go.Proofs.YtjknjekemolndaaGreat.ZL
namespace Go.Proofs.YtjknjekemolndaaGreat.ZL
open Go Go.Proofs.YtjknjekemolndaaGreat.Abs Go.Proofs.YtjknjekemolndaaGreat.Abs.Pl Go.RowKit Go.Proofs
set_option linter.unusedVariables false
set_option linter.unusedSimpArgs false
theorem toAtomW (a : At) (h : a.1.length ≤ 1048576) : Cn Tryz.prog 179 [A1 a] (A1 a) hemp := Cn.freeze 2 (toAtom a h) (by simp [-Bool.exists_bool, -Int.not_le, -Int.not_lt, -getElem?_pos, -List.getD_eq_getElem?_getD, lendT, lendV])
def impA (c : Ce) (a : At) : Bool × Bool := if isAt a.1 a.2.1 = true then (if (meetC c (a.1.length, [(a.1.map (- ·), -a.2.1, !a.2.2)])).2.2 = true then emptyC (meetC c (a.1.length, [(a.1.map (- ·), -a.2.1, !a.2.2)])).1 (meetC c (a.1.length, [(a.1.map (- ·), -a.2.1, !a.2.2)])).2.1 else (false, false)) else (false, false)
theorem meetC_16 {a b : Ce} : (meetC a b).2.1.length ≤ 16 := by
  unfold meetC
  split
  · unfold limN; split
    · simp [-Bool.exists_bool, -Int.not_le, -Int.not_lt, -getElem?_pos, -List.getD_eq_getElem?_getD]
    · simp [-Bool.exists_bool, -Int.not_le, -Int.not_lt, -getElem?_pos, -List.getD_eq_getElem?_getD]; omega
  · simp [-Bool.exists_bool, -Int.not_le, -Int.not_lt, -getElem?_pos, -List.getD_eq_getElem?_getD]
theorem ImpliesAtom (c : Ce) (a : At) (hc : c.2.length ≤ 1048576) (ha : a.1.length ≤ 1048576) : Cn Tryz.prog 44 [.agg (cV c), A1 a] (B2 (impA c a)) hemp := by
  refine Cn.of [] mixed Tryz.func44 rfl Tryz.call44 (by kernel_rfl) rfl ?_
  simp -implicitDefEqProofs -dsimp +contextual [-Bool.exists_bool, -Int.not_le, -Int.not_lt, -getElem?_pos, -List.getD_eq_getElem?_getD, Tryz.f44]
  refine CallJ.pure (NegateAtom a) rfl (by simp [-Bool.exists_bool, -Int.not_le, -Int.not_lt, -getElem?_pos, -List.getD_eq_getElem?_getD]) ?_
  by_cases h : isAt a.1 a.2.1 = true
  · rw [negAt_t h, impA, if_pos h]
    simp -implicitDefEqProofs -dsimp +contextual [-Bool.exists_bool, -Int.not_le, -Int.not_lt, -getElem?_pos, -List.getD_eq_getElem?_getD]
    refine CallJ.pure (ks := []) (MeetCells c (a.1.length, [(a.1.map (- ·), -a.2.1, !a.2.2)]) hc (by simp [-Bool.exists_bool, -Int.not_le, -Int.not_lt, -getElem?_pos, -List.getD_eq_getElem?_getD])) (by simp [-Bool.exists_bool, -Int.not_le, -Int.not_lt, -getElem?_pos, -List.getD_eq_getElem?_getD, asD, aD]) (by simp [-Bool.exists_bool, -Int.not_le, -Int.not_lt, -getElem?_pos, -List.getD_eq_getElem?_getD]) ?_
    have h16 : (meetC c (a.1.length, [(a.1.map (- ·), -a.2.1, !a.2.2)])).2.1.length ≤ 16 := meetC_16
    generalize meetC c (a.1.length, [(a.1.map (- ·), -a.2.1, !a.2.2)]) = m at *
    simp -implicitDefEqProofs -dsimp +contextual [-Bool.exists_bool, -Int.not_le, -Int.not_lt, -getElem?_pos, -List.getD_eq_getElem?_getD]
    refine ⟨fun hm => ?_, fun hm => ?_⟩
    · refine CallJ.pure (IsEmptyCell m.1 m.2.1 (by omega)) rfl (by simp [-Bool.exists_bool, -Int.not_le, -Int.not_lt, -getElem?_pos, -List.getD_eq_getElem?_getD]) ?_
      simp -implicitDefEqProofs -dsimp +contextual [-Bool.exists_bool, -Int.not_le, -Int.not_lt, -getElem?_pos, -List.getD_eq_getElem?_getD, hm]
      exact RLe.pure 2 (by simp [-Bool.exists_bool, -Int.not_le, -Int.not_lt, -getElem?_pos, -List.getD_eq_getElem?_getD])
    · exact RLe.pure 2 (by simp [-Bool.exists_bool, -Int.not_le, -Int.not_lt, -getElem?_pos, -List.getD_eq_getElem?_getD])
  · rw [negAt_f (by simpa [-Bool.exists_bool, -Int.not_le, -Int.not_lt, -getElem?_pos, -List.getD_eq_getElem?_getD] using h), impA, if_neg h]
    simp -implicitDefEqProofs -dsimp +contextual [-Bool.exists_bool, -Int.not_le, -Int.not_lt, -getElem?_pos, -List.getD_eq_getElem?_getD]
    refine CallJ.pure (ks := []) (MeetCells c (a.1.length, [(noAt.1, noAt.2.1, noAt.2.2.1)]) hc (by simp [-Bool.exists_bool, -Int.not_le, -Int.not_lt, -getElem?_pos, -List.getD_eq_getElem?_getD])) (by simp [-Bool.exists_bool, -Int.not_le, -Int.not_lt, -getElem?_pos, -List.getD_eq_getElem?_getD, asD, aD]) (by simp [-Bool.exists_bool, -Int.not_le, -Int.not_lt, -getElem?_pos, -List.getD_eq_getElem?_getD]) ?_
    simp -implicitDefEqProofs -dsimp +contextual [-Bool.exists_bool, -Int.not_le, -Int.not_lt, -getElem?_pos, -List.getD_eq_getElem?_getD, noAt]
    exact RLe.pure 2 (by simp [-Bool.exists_bool, -Int.not_le, -Int.not_lt, -getElem?_pos, -List.getD_eq_getElem?_getD])
theorem iMeetCellsW (a b : Ce) (ha : a.2.length ≤ 1048576) (hb : b.2.length ≤ 1048576) : Cn Tryz.prog 24 [.agg (cV a), .agg (cV b)] (D2 (meetC a b)) hemp := Cn.weak meetC_f (iMeetCells a b ha hb)
theorem iImpliesAtom (c : Ce) (a : At) (hc : c.2.length ≤ 1048576) (ha : a.1.length ≤ 1048576) : Cn Tryz.prog 43 [.agg (cV c), A1 a] (B2 (impA c a)) hemp := by
  refine Cn.of [] mixed Tryz.func43 rfl Tryz.call43 (by kernel_rfl) rfl ?_
  simp -implicitDefEqProofs -dsimp +contextual [-Bool.exists_bool, -Int.not_le, -Int.not_lt, -getElem?_pos, -List.getD_eq_getElem?_getD, Tryz.f43]
  refine CallJ.pure (iNegateAtom a) rfl (by simp [-Bool.exists_bool, -Int.not_le, -Int.not_lt, -getElem?_pos, -List.getD_eq_getElem?_getD]) ?_
  by_cases h : isAt a.1 a.2.1 = true
  · rw [negAt_t h, impA, if_pos h]
    simp -implicitDefEqProofs -dsimp +contextual [-Bool.exists_bool, -Int.not_le, -Int.not_lt, -getElem?_pos, -List.getD_eq_getElem?_getD]
    refine CallJ.pure (ks := []) (iMeetCellsW c (a.1.length, [(a.1.map (- ·), -a.2.1, !a.2.2)]) hc (by simp [-Bool.exists_bool, -Int.not_le, -Int.not_lt, -getElem?_pos, -List.getD_eq_getElem?_getD])) (by simp [-Bool.exists_bool, -Int.not_le, -Int.not_lt, -getElem?_pos, -List.getD_eq_getElem?_getD, asD, aD]) (by simp [-Bool.exists_bool, -Int.not_le, -Int.not_lt, -getElem?_pos, -List.getD_eq_getElem?_getD]) ?_
    have h16 : (meetC c (a.1.length, [(a.1.map (- ·), -a.2.1, !a.2.2)])).2.1.length ≤ 16 := meetC_16
    generalize meetC c (a.1.length, [(a.1.map (- ·), -a.2.1, !a.2.2)]) = m at *
    simp -implicitDefEqProofs -dsimp +contextual [-Bool.exists_bool, -Int.not_le, -Int.not_lt, -getElem?_pos, -List.getD_eq_getElem?_getD]
    refine ⟨fun hm => ?_, fun hm => ?_⟩
    · refine CallJ.pure (iIsEmptyCell m.1 m.2.1 (by omega)) rfl (by simp [-Bool.exists_bool, -Int.not_le, -Int.not_lt, -getElem?_pos, -List.getD_eq_getElem?_getD]) ?_
      simp -implicitDefEqProofs -dsimp +contextual [-Bool.exists_bool, -Int.not_le, -Int.not_lt, -getElem?_pos, -List.getD_eq_getElem?_getD, hm]
      exact RLe.pure 2 (by simp [-Bool.exists_bool, -Int.not_le, -Int.not_lt, -getElem?_pos, -List.getD_eq_getElem?_getD])
    · exact RLe.pure 2 (by simp [-Bool.exists_bool, -Int.not_le, -Int.not_lt, -getElem?_pos, -List.getD_eq_getElem?_getD])
  · rw [negAt_f (by simpa [-Bool.exists_bool, -Int.not_le, -Int.not_lt, -getElem?_pos, -List.getD_eq_getElem?_getD] using h), impA, if_neg h]
    simp -implicitDefEqProofs -dsimp +contextual [-Bool.exists_bool, -Int.not_le, -Int.not_lt, -getElem?_pos, -List.getD_eq_getElem?_getD, noAt]
    exact RLe.pure 2 (by simp [-Bool.exists_bool, -Int.not_le, -Int.not_lt, -getElem?_pos, -List.getD_eq_getElem?_getD])
theorem lft_2 {k : Int} {n : Nat} (hk : okL k) (h : ¬ lft k n < 0) : n ≤ 1048576 ∧ okL (lft k n) := by
  unfold lft okL at *
  split at h
  · omega
  · rename_i h2; rw [if_neg h2]; omega
end Go.Proofs.YtjknjekemolndaaGreat.ZL
namespace Go.Proofs.YtjknjekemolndaaGreat.ZL
open Go Go.Proofs.YtjknjekemolndaaGreat.Abs Go.Proofs.YtjknjekemolndaaGreat.Abs.Pl Go.RowKit Go.Proofs
set_option linter.unusedVariables false
set_option linter.unusedSimpArgs false
def covGo (b : Ce) : List At → Bool × Bool
  | [] => (true, true)
  | x :: r => if (impA b x).2 = true ∧ (impA b x).1 = true then covGo b r else (false, (impA b x).2)
def covC (a b : Ce) : Bool × Bool := if isCe a.1 a.2 = true ∧ isCe b.1 b.2 = true ∧ a.1 = b.1 then covGo b a.2 else (false, false)
theorem okA_small {d : Int} {x : At} (h : okA d x) : x.1.length ≤ 1048576 := by have := (okA_num h).2.2; omega
theorem iCoversCell (a b : Ce) (ha : a.2.length ≤ 1048576) (hb : b.2.length ≤ 1048576) : Cn Tryz.prog 47 [.agg (cV a), .agg (cV b)] (B2 (covC a b)) hemp := by
  refine Cn.of [] mixed Tryz.func47 rfl Tryz.call47 (by kernel_rfl) rfl ?_
  simp -implicitDefEqProofs -dsimp +contextual [-Bool.exists_bool, -Int.not_le, -Int.not_lt, -getElem?_pos, -List.getD_eq_getElem?_getD, Tryz.f47]
  have no : ∀ {H : Store}, ¬ (isCe a.1 a.2 = true ∧ isCe b.1 b.2 = true ∧ a.1 = b.1) → RLe Tryz.prog H (V.tup [V.d (D.bool false), V.d (D.bool false)]) (B2 (covC a b)) hemp := fun h => by
    rw [covC, if_neg h]
    exact RLe.pure 2 (by simp [-Bool.exists_bool, -Int.not_le, -Int.not_lt, -getElem?_pos, -List.getD_eq_getElem?_getD])
  refine CallJ.pure (iIsCell a.1 a.2 ha) rfl (by simp [-Bool.exists_bool, -Int.not_le, -Int.not_lt, -getElem?_pos, -List.getD_eq_getElem?_getD]) ?_
  simp -implicitDefEqProofs -dsimp +contextual [-Bool.exists_bool, -Int.not_le, -Int.not_lt, -getElem?_pos, -List.getD_eq_getElem?_getD]
  refine ⟨fun h1 => ?_, fun h1 => no (by simp [-Bool.exists_bool, -Int.not_le, -Int.not_lt, -getElem?_pos, -List.getD_eq_getElem?_getD, h1])⟩
  refine CallJ.pure (iIsCell b.1 b.2 hb) rfl (by simp [-Bool.exists_bool, -Int.not_le, -Int.not_lt, -getElem?_pos, -List.getD_eq_getElem?_getD]) ?_
  simp -implicitDefEqProofs -dsimp +contextual [-Bool.exists_bool, -Int.not_le, -Int.not_lt, -getElem?_pos, -List.getD_eq_getElem?_getD, h1]
  refine ⟨fun h2 => ⟨fun h3 => ?_, fun h3 => no (by simp [-Bool.exists_bool, -Int.not_le, -Int.not_lt, -getElem?_pos, -List.getD_eq_getElem?_getD, h3])⟩, fun h2 => no (by simp [-Bool.exists_bool, -Int.not_le, -Int.not_lt, -getElem?_pos, -List.getD_eq_getElem?_getD, h2])⟩
  have e0 : covC a b = covGo b a.2 := by rw [covC, if_pos ⟨h1, h2, h3⟩]
  refine WP.loop mixed [] (fun i : Nat => ⟨tl [(2, .ptr (0, 0) 0), (3, .ptr (1, 0) 0), (26, As a.2), (27, I a.2.length), (28, I i)], hl [((0, 0), .box (cV a)), ((1, 0), .box (cV b))], 5⟩) (fun i => i ≤ a.2.length ∧ covC a b = covGo b (a.2.drop i)) (fun i => a.2.length - i) 0 (by kernel_rfl) ?_ ?_ ?_
  · refine Le.told [] ?_ ?_ ?_ <;> simp [-Bool.exists_bool, -Int.not_le, -Int.not_lt, -getElem?_pos, -List.getD_eq_getElem?_getD]
  · exact ⟨Nat.zero_le _, e0⟩
  · rintro i ⟨hi, he⟩
    simp -implicitDefEqProofs -dsimp +contextual [-Bool.exists_bool, -Int.not_le, -Int.not_lt, -getElem?_pos, -List.getD_eq_getElem?_getD]
    refine ⟨fun h => ?_, fun h => ?_⟩
    · refine CallJ.pure (iImpliesAtom b (nth a.2 i) hb (okA_small (isCe_a h1 _ (nth_mem h)))) rfl (by simp [-Bool.exists_bool, -Int.not_le, -Int.not_lt, -getElem?_pos, -List.getD_eq_getElem?_getD]) ?_
      rw [nth_drop h, covGo] at he
      generalize impA b (nth a.2 i) = q at he ⊢
      simp -implicitDefEqProofs -dsimp +contextual [-Bool.exists_bool, -Int.not_le, -Int.not_lt, -getElem?_pos, -List.getD_eq_getElem?_getD, h]
      refine ⟨fun hf => ⟨fun ht => ?_, fun ht => RLe.pure 2 (by rw [he]; simp [-Bool.exists_bool, -Int.not_le, -Int.not_lt, -getElem?_pos, -List.getD_eq_getElem?_getD, ht, hf])⟩, fun hf => RLe.pure 2 (by rw [he]; simp [-Bool.exists_bool, -Int.not_le, -Int.not_lt, -getElem?_pos, -List.getD_eq_getElem?_getD, hf])⟩
      rw [if_pos ⟨hf, ht⟩] at he
      refine ⟨i + 1, ⟨h, he⟩, by omega, ?_⟩
      rw [wr (by omega) (by omega)]
      refine Le.told [] ?_ ?_ ?_ <;> simp [-Bool.exists_bool, -Int.not_le, -Int.not_lt, -getElem?_pos, -List.getD_eq_getElem?_getD]
    · rw [drop_nil (by omega)] at he
      refine RLe.pure 3 (by rw [he]; simp [-Bool.exists_bool, -Int.not_le, -Int.not_lt, -getElem?_pos, -List.getD_eq_getElem?_getD, covGo])
end Go.Proofs.YtjknjekemolndaaGreat.ZL
namespace Go.Proofs.YtjknjekemolndaaGreat.ZL
open Go Go.Proofs.YtjknjekemolndaaGreat.Abs Go.Proofs.YtjknjekemolndaaGreat.Abs.Pl Go.RowKit Go.Proofs
set_option linter.unusedVariables false
set_option linter.unusedSimpArgs false
def kMe (P : Program) (A : Key → Prop) (H : Store) (r : V) (Hr : Store) (vs : List V) : Prop := RLm P A H (oneV vs) r Hr
section
variable {P : Program} {A : Key → Prop} {H : Store} {r v : V} {Hr : Store} {S : St} {rs : List ResultVar}
theorem retM_ret : retM P rs A r Hr .ret S = resS P S.T S.H rs (kMe P A S.H r Hr) := rfl
theorem kMe_1 : kMe P A H r Hr [v] = RLm P A H v r Hr := rfl
theorem RLm.told {K : List (Key × Ent)} (hv : VLe H (fun k => k) 2 v r) (hr : allK (okKey A) r)
    (hK : allP (fun p : Key × Ent => p.1.1 < 2 ∧ okKey A p.1 ∧ allKE (okKey A) p.2 ∧ entIs (H p.1) fun e => ELe H (fun k => k) 2 e p.2) K) : RLm P A H v r (hl K) :=
  RLm.mk (fun k => k) (fun _ _ => rfl) hv hr (fun k e' hk => by
    obtain ⟨h1, h2, h3, h4⟩ := allP_mem hK _ (hl_mem hk)
    simp only [entIs] at h4
    refine ⟨h1, h2, h3, ?_⟩
    cases hq : H k with
    | none => rw [hq] at h4; exact h4.elim
    | some e => rw [hq] at h4; exact ⟨e, rfl, h4⟩) (fun _ _ _ _ _ _ h => h)
end
theorem allKs_dl (p : Key → Prop) : ∀ cs : List D, allKs p (dl cs)
  | [] => trivial
  | d :: cs => ⟨trivial, allKs_dl p cs⟩
attribute [simp ↓] retM_ret kMe_1
attribute [simp] allKs_dl
def markI (n : Nat) (m : Int) : List Int := (List.range n).map fun i : Nat => m + i
def rowI (l : List Int) : Ent := .row 3 l.length (dl (l.map (.int .i64)))
def curI (l : List Int) (m : Int) (i : Nat) : List Int := markI i m ++ l.drop i
theorem markI_len (n : Nat) (m : Int) : (markI n m).length = n := by simp [-Bool.exists_bool, -Int.not_le, -Int.not_lt, -getElem?_pos, -List.getD_eq_getElem?_getD, markI]
theorem curI_len (l : List Int) (m : Int) (i : Nat) (h : i ≤ l.length) : (curI l m i).length = l.length := by simp [-Bool.exists_bool, -Int.not_le, -Int.not_lt, -getElem?_pos, -List.getD_eq_getElem?_getD, curI, markI_len]; omega
theorem curI_set (l : List Int) (m : Int) (i : Nat) (h : i < l.length) : (curI l m i).set i (m + i) = curI l m (i + 1) := by
  unfold curI
  rw [List.set_append_right _ _ (by rw [markI_len]; exact Nat.le_refl _), markI_len, nth_drop h]
  simp [-Bool.exists_bool, -Int.not_le, -Int.not_lt, -getElem?_pos, -List.getD_eq_getElem?_getD, markI, List.range_succ]
theorem markIntS (l : List Int) (m : Int) (hm : 0 ≤ m ∧ m ≤ 1000000000000) (h20 : l.length ≤ 1048576) : Cm Tryz.prog 158 (fun k => k = (0, 1)) [.ref (0, 1) l.length, I m] (hl [((0, 1), rowI l)]) (I (m + l.length)) (hl [((0, 1), rowI (markI l.length m))]) := by
  refine Cm.of [] mixed Tryz.func158 rfl Tryz.call158 (by kernel_rfl) rfl ?_
  simp -implicitDefEqProofs -dsimp +contextual [-Bool.exists_bool, -Int.not_le, -Int.not_lt, -getElem?_pos, -List.getD_eq_getElem?_getD, Tryz.f158]
  refine WP.loop mixed [] (fun i : Nat => ⟨tl [(0, .ref (0, 1) l.length), (1, I (m + i)), (5, I i)], hl [((0, 1), .row 3 l.length (dl ((curI l m i).map (.int .i64))))], 2⟩) (fun i => i ≤ l.length) (fun i => l.length - i) 0 (by kernel_rfl) ?_ ?_ ?_
  · refine Le.told [] ?_ ?_ ?_ <;> simp [-Bool.exists_bool, -Int.not_le, -Int.not_lt, -getElem?_pos, -List.getD_eq_getElem?_getD, rowI, curI, markI]
  · simp [-Bool.exists_bool, -Int.not_le, -Int.not_lt, -getElem?_pos, -List.getD_eq_getElem?_getD]
  · intro i hi
    by_cases h : i < l.length
    · have h1 : i + 1 ≤ (curI l m i).length := by rw [curI_len _ _ i hi]; exact h
      simp -implicitDefEqProofs -dsimp +contextual [-Bool.exists_bool, -Int.not_le, -Int.not_lt, -getElem?_pos, -List.getD_eq_getElem?_getD, h, h1]
      refine ⟨i + 1, h, by omega, ?_⟩
      rw [wr (by omega) (by omega), wr (by omega) (by omega)]
      have hs := curI_set l m i h
      refine Le.told [] ?_ ?_ ?_ <;> simp [-Bool.exists_bool, -Int.not_le, -Int.not_lt, -getElem?_pos, -List.getD_eq_getElem?_getD]
      · omega
      · rw [← hs, List.map_set, List.set_eq_take_append_cons_drop, if_pos (by rw [List.length_map]; exact h1)]
    · obtain rfl : i = l.length := by omega
      simp -implicitDefEqProofs -dsimp +contextual [-Bool.exists_bool, -Int.not_le, -Int.not_lt, -getElem?_pos, -List.getD_eq_getElem?_getD, h]
      refine RLm.told ?_ ?_ ?_
      · simp [-Bool.exists_bool, -Int.not_le, -Int.not_lt, -getElem?_pos, -List.getD_eq_getElem?_getD]
      · simp [-Bool.exists_bool, -Int.not_le, -Int.not_lt, -getElem?_pos, -List.getD_eq_getElem?_getD, allK]
      · simp [-Bool.exists_bool, -Int.not_le, -Int.not_lt, -getElem?_pos, -List.getD_eq_getElem?_getD, okKey, allKE, rowI, markI_len, curI]
def markA (a : At) (m : Int) : At := (markI a.1.length m, m + a.1.length, decide ((m + a.1.length + 1).tmod 3 = 0))
def markS : List At → Int → List At
  | [], _ => []
  | a :: L, m => markA a m :: markS L (m + a.1.length + 2)
def nxtS : List At → Int → Int
  | [], m => m
  | a :: L, m => nxtS L (m + a.1.length + 2)
theorem markA_len (a : At) (m : Int) : (markA a m).1.length = a.1.length := markI_len ..
theorem markS_len : ∀ (L : List At) (m : Int), (markS L m).length = L.length
  | [], _ => rfl
  | a :: L, m => by simp [-Bool.exists_bool, -Int.not_le, -Int.not_lt, -getElem?_pos, -List.getD_eq_getElem?_getD, markS, markS_len L]
theorem nxtS_app : ∀ (L M : List At) (m : Int), nxtS (L ++ M) m = nxtS M (nxtS L m)
  | [], M, m => rfl
  | a :: L, M, m => by simp [-Bool.exists_bool, -Int.not_le, -Int.not_lt, -getElem?_pos, -List.getD_eq_getElem?_getD, nxtS, nxtS_app L]
theorem markS_app : ∀ (L M : List At) (m : Int), markS (L ++ M) m = markS L m ++ markS M (nxtS L m)
  | [], M, m => rfl
  | a :: L, M, m => by simp [-Bool.exists_bool, -Int.not_le, -Int.not_lt, -getElem?_pos, -List.getD_eq_getElem?_getD, markS, nxtS, markS_app L]
def curA (L : List At) (m : Int) (i : Nat) : List At := markS (L.take i) m ++ L.drop i
theorem curA_len (L : List At) (m : Int) (i : Nat) (h : i ≤ L.length) : (curA L m i).length = L.length := by simp [-Bool.exists_bool, -Int.not_le, -Int.not_lt, -getElem?_pos, -List.getD_eq_getElem?_getD, curA, markS_len]; omega
theorem curA_set (L : List At) (m : Int) (i : Nat) (h : i < L.length) : (curA L m i).set i (markA (nth L i) (nxtS (L.take i) m)) = curA L m (i + 1) := by
  unfold curA
  have hl : (markS (L.take i) m).length = i := by rw [markS_len]; simp [-Bool.exists_bool, -Int.not_le, -Int.not_lt, -getElem?_pos, -List.getD_eq_getElem?_getD]; omega
  rw [List.set_append_right _ _ (by rw [hl]; exact Nat.le_refl _), hl, nth_drop h, nth_take h, markS_app]
  simp [-Bool.exists_bool, -Int.not_le, -Int.not_lt, -getElem?_pos, -List.getD_eq_getElem?_getD, markS]
theorem curA_nth (L : List At) (m : Int) (i j : Nat) (h : i ≤ j) (hj : j < L.length) : nth (curA L m i) j = nth L j := by
  have hl : (markS (L.take i) m).length = i := by rw [markS_len]; simp [-Bool.exists_bool, -Int.not_le, -Int.not_lt, -getElem?_pos, -List.getD_eq_getElem?_getD]; omega
  rw [nth_eq (by rw [curA_len _ _ _ (by omega)]; exact hj), nth_eq hj]
  unfold curA
  rw [List.getElem_append_right (by rw [hl]; exact h)]
  simp only [hl, List.getElem_drop]
  congr 1
  omega
def mFam (L : List At) : Store := fun k => if k.1 = 0 then (match k.2 with
    | 0 => none
    | 1 => some (.row 66 L.length (rA (fun j => (0, j + 2)) 0 L))
    | j + 2 => ownA L j) else none
def mKey (n : Nat) (k : Key) : Prop := k.1 = 0 ∧ 1 ≤ k.2 ∧ k.2 ≤ n + 1
theorem mFam_1 (L : List At) : mFam L (0, 1) = some (.row 66 L.length (rA (fun j => (0, j + 2)) 0 L)) := rfl
theorem mFam_j (L : List At) (j : Nat) : mFam L (0, j + 2) = ownA L j := rfl
theorem mFam_some {L : List At} {k : Key} {e : Ent} (h : mFam L k = some e) : (k = (0, 1) ∧ e = .row 66 L.length (rA (fun j => (0, j + 2)) 0 L)) ∨ ∃ j, j < L.length ∧ k = (0, j + 2) ∧ e = rowA (nth L j) := by
  obtain ⟨a, b⟩ := k
  unfold mFam at h
  simp only at h
  split at h
  · rename_i ha
    subst ha
    split at h
    · exact absurd h (by simp [-Bool.exists_bool, -Int.not_le, -Int.not_lt, -getElem?_pos, -List.getD_eq_getElem?_getD])
    · exact .inl ⟨rfl, (Option.some.inj h).symm⟩
    · rename_i j
      obtain ⟨h1, h2⟩ := ownA_some h
      exact .inr ⟨j, h1, rfl, h2⟩
  · exact absurd h (by simp [-Bool.exists_bool, -Int.not_le, -Int.not_lt, -getElem?_pos, -List.getD_eq_getElem?_getD])
theorem Le.mfam {P : Program} {N : Nat} {T : Nat → V} {H : Store} {nx : Nat} {Lt : List (Nat × V)} (L : List At) (hT : allP (fun p : Nat × V => VLe H (fun k => k) 2 (T p.1) p.2) Lt) (h1 : H (0, 1) = some (.row 66 L.length (rA (fun j => (0, j + 2)) 0 L)))
    (hF : ∀ j, j < L.length → H (0, j + 2) = some (rowA (nth L j))) : Le P N ⟨T, H, nx⟩ ⟨tl Lt, mFam L, 2⟩ := by
  refine Le.mk (fun k => k) (.inr (by show 0 < 2; omega)) (fun _ _ _ _ => rfl) (tl_cond (allP_mem hT)) (fun k e' hk => ?_) (fun _ _ _ _ _ _ h => h)
  rcases mFam_some hk with ⟨rfl, rfl⟩ | ⟨j, hj, rfl, rfl⟩
  · refine ⟨by show 0 < 2; omega, _, h1, ?_⟩
    simp only [ELe, true_and]
    exact rA_VLes L 0 fun i hi => ⟨rfl, by show 0 < 2; omega⟩
  · refine ⟨by show 0 < 2; omega, _, hF j hj, ?_⟩
    simp only [rowA, ELe, true_and]
    exact (dl_VLes ..).2 rfl
theorem rA_0 (f : Nat → Key) (L : List At) (i : Nat) (h : i < L.length) : (rA f 0 L)[i * 3]? = some (.ref (f i) (nth L i).1.length) := by
  have := rA_nth f L i 0 h
  rw [Nat.zero_add] at this
  rw [show (rA f 0 L)[i * 3]? = ((rA f 0 L).drop (i * 3))[0]? by rw [List.getElem?_drop, Nat.add_zero], this]
  rfl
theorem nxtS_le : ∀ (L : List At) (m : Int), m ≤ nxtS L m
  | [], m => Int.le_refl _
  | a :: L, m => by have := nxtS_le L (m + a.1.length + 2); simp only [nxtS]; omega
theorem nxtS_take (L : List At) (m : Int) (i : Nat) : nxtS (L.take i) m ≤ nxtS L m := by
  have := nxtS_le (L.drop i) (nxtS (L.take i) m)
  rwa [← nxtS_app, List.take_append_drop] at this
theorem rA_allKs {p : Key → Prop} (f : Nat → Key) : ∀ (L : List At) (j : Nat), (∀ i, i < L.length → p (f (j + i))) → allKs p (rA f j L)
  | [], _, _ => trivial
  | a :: L, j, h => ⟨by have := h 0 (by simp [-Bool.exists_bool, -Int.not_le, -Int.not_lt, -getElem?_pos, -List.getD_eq_getElem?_getD]); exact this, trivial, trivial, rA_allKs f L (j + 1) fun i hi => by have := h (i + 1) (by simp [-Bool.exists_bool, -Int.not_le, -Int.not_lt, -getElem?_pos, -List.getD_eq_getElem?_getD]; omega); rwa [show j + (i + 1) = j + 1 + i by omega] at this⟩
theorem rA_put (f : Nat → Key) (L : List At) (i : Nat) (h : i < L.length) (a : At) (hl : a.1.length = (nth L i).1.length) :
    (((rA f 0 L).take (i * 3 + 1) ++ I a.2.1 :: (rA f 0 L).drop (i * 3 + 1 + 1)).take (i * 3 + 2) ++ B a.2.2 :: ((rA f 0 L).take (i * 3 + 1) ++ I a.2.1 :: (rA f 0 L).drop (i * 3 + 1 + 1)).drop (i * 3 + 2 + 1)) = rA f 0 (L.set i a) := by
  have e1 : L = L.take i ++ nth L i :: L.drop (i + 1) := by rw [← nth_drop h, List.take_append_drop]
  have e2 : L.set i a = L.take i ++ a :: L.drop (i + 1) := by rw [List.set_eq_take_append_cons_drop, if_pos h]
  have hti : (L.take i).length = i := by simp [-Bool.exists_bool, -Int.not_le, -Int.not_lt, -getElem?_pos, -List.getD_eq_getElem?_getD]; omega
  have hR : rA f 0 L = rA f 0 (L.take i) ++ (.ref (f i) (nth L i).1.length :: I (nth L i).2.1 :: B (nth L i).2.2 :: rA f (i + 1) (L.drop (i + 1))) := by
    rw [congrArg (rA f 0) e1, rA_append, hti, Nat.zero_add]; rfl
  have hS : rA f 0 (L.set i a) = rA f 0 (L.take i) ++ (.ref (f i) (nth L i).1.length :: I a.2.1 :: B a.2.2 :: rA f (i + 1) (L.drop (i + 1))) := by
    rw [e2, rA_append, hti, Nat.zero_add, ← hl]; rfl
  rw [hS, hR]
  have hA : (rA f 0 (L.take i)).length = i * 3 := by rw [rA_len, hti]
  generalize rA f 0 (L.take i) = A at hA
  rw [← hA]
  have t1 : A.take (A.length + 1) = A := List.take_of_length_le (by omega)
  have t2 : A.take (A.length + 2) = A := List.take_of_length_le (by omega)
  have d1 : A.drop (A.length + 1 + 1) = [] := List.drop_eq_nil_of_le (by omega)
  have d2 : A.drop (A.length + 2 + 1) = [] := List.drop_eq_nil_of_le (by omega)
  have k1 : A.length + 1 + 1 - A.length = 2 := by omega
  have k2 : A.length + 2 + 1 - A.length = 3 := by omega
  simp [-Bool.exists_bool, -Int.not_le, -Int.not_lt, -getElem?_pos, -List.getD_eq_getElem?_getD, List.take_append, List.drop_append, t1, t2, d1, d2, k1, k2]
theorem callMarkI {N nx s : Nat} {H : Store} {K : Eff → Prop} (k0 : Key) (l : List Int) (m : Int) (hm : 0 ≤ m ∧ m ≤ 1000000000000) (h20 : l.length ≤ 1048576) (hH : H k0 = some (rowI l)) (hs : k0.1 ≠ s) (hn : k0.1 < nx)
    (hk : K ⟨I (m + l.length), [k0], [k0], up1 k0 (some (rowI (markI l.length m))) noUp⟩) : CallJ Tryz.prog N nx s H 158 [.ref k0 l.length, I m] K := by
  have hup : upMut (fun _ => k0) (fun k => if k = k0 then some 0 else none) s (hl [((0, 1), rowI (markI l.length m))]) = up1 k0 (some (rowI (markI l.length m))) noUp := by
    funext k
    unfold upMut up1
    by_cases h1 : k = k0
    · subst h1
      rw [if_neg hs, if_pos rfl]
      simp [-Bool.exists_bool, -Int.not_le, -Int.not_lt, -getElem?_pos, -List.getD_eq_getElem?_getD, rowI, mapE]
    · rw [if_neg h1]
      simp [-Bool.exists_bool, -Int.not_le, -Int.not_lt, -getElem?_pos, -List.getD_eq_getElem?_getD, h1, noUp]
  rw [← hup] at hk
  refine CallJ.mut (fun _ => k0) (fun k => if k = k0 then some 0 else none) [k0] [] (markIntS l m hm h20) ?_ ?_ ?_ ?_ ?_ ?_ ?_ ?_ (by simpa [-Bool.exists_bool, -Int.not_le, -Int.not_lt, -getElem?_pos, -List.getD_eq_getElem?_getD] using hk)
  · simp [-Bool.exists_bool, -Int.not_le, -Int.not_lt, -getElem?_pos, -List.getD_eq_getElem?_getD, gk]
  · simp [-Bool.exists_bool, -Int.not_le, -Int.not_lt, -getElem?_pos, -List.getD_eq_getElem?_getD, allKs, allK]
  · rintro k rfl; simp [-Bool.exists_bool, -Int.not_le, -Int.not_lt, -getElem?_pos, -List.getD_eq_getElem?_getD, hH]
  · intro k e h
    simp [-Bool.exists_bool, -Int.not_le, -Int.not_lt, -getElem?_pos, -List.getD_eq_getElem?_getD] at h
    obtain ⟨rfl, rfl⟩ := h
    simp [-Bool.exists_bool, -Int.not_le, -Int.not_lt, -getElem?_pos, -List.getD_eq_getElem?_getD, hH, rowI, mapE, allKE]
  · intro k j h
    simp [-Bool.exists_bool, -Int.not_le, -Int.not_lt, -getElem?_pos, -List.getD_eq_getElem?_getD] at h
    obtain ⟨rfl, rfl⟩ := h
    simp [-Bool.exists_bool, -Int.not_le, -Int.not_lt, -getElem?_pos, -List.getD_eq_getElem?_getD]
  · simp [-Bool.exists_bool, -Int.not_le, -Int.not_lt, -getElem?_pos, -List.getD_eq_getElem?_getD]
  · intro k e h
    simp [-Bool.exists_bool, -Int.not_le, -Int.not_lt, -getElem?_pos, -List.getD_eq_getElem?_getD] at h
    obtain ⟨rfl, rfl⟩ := h
    simp [-Bool.exists_bool, -Int.not_le, -Int.not_lt, -getElem?_pos, -List.getD_eq_getElem?_getD]
  · simp [-Bool.exists_bool, -Int.not_le, -Int.not_lt, -getElem?_pos, -List.getD_eq_getElem?_getD, hH, hn]
theorem markAtomS (L : List At) (m : Int) (hm : 0 ≤ m ∧ nxtS L m ≤ 100000000000) (h20 : L.length ≤ 1048576) (ha : ∀ a ∈ L, a.1.length ≤ 1048576) : Cm Tryz.prog 123 (mKey L.length) [.ref (0, 1) L.length, I m] (mFam L) (I (nxtS L m)) (mFam (markS L m)) := by
  refine Cm.of [] mixed Tryz.func123 rfl Tryz.call123 (by kernel_rfl) rfl ?_
  simp -implicitDefEqProofs -dsimp +contextual [-Bool.exists_bool, -Int.not_le, -Int.not_lt, -getElem?_pos, -List.getD_eq_getElem?_getD, Tryz.f123]
  refine WP.loop mixed [] (fun i : Nat => ⟨tl [(0, .ref (0, 1) L.length), (1, I (nxtS (L.take i) m)), (5, I i)], mFam (curA L m i), 2⟩) (fun i => i ≤ L.length) (fun i => L.length - i) 0 (by kernel_rfl) ?_ ?_ ?_
  · refine Le.mfam _ ?_ ?_ ?_ 
    · simp [-Bool.exists_bool, -Int.not_le, -Int.not_lt, -getElem?_pos, -List.getD_eq_getElem?_getD, nxtS]
    · simp [-Bool.exists_bool, -Int.not_le, -Int.not_lt, -getElem?_pos, -List.getD_eq_getElem?_getD, curA, markS, mFam_1]
    · intro j hj; simp [-Bool.exists_bool, -Int.not_le, -Int.not_lt, -getElem?_pos, -List.getD_eq_getElem?_getD, curA, markS] at hj ⊢; rw [mFam_j, ownA_lt hj]
  · simp [-Bool.exists_bool, -Int.not_le, -Int.not_lt, -getElem?_pos, -List.getD_eq_getElem?_getD]
  · intro i hi
    by_cases h : i < L.length
    · have hlc := curA_len L m i hi
      have hc0 := rA_0 (fun j => (0, j + 2)) (curA L m i) i (by omega)
      rw [curA_nth L m i i (Nat.le_refl _) h] at hc0
      have hm0 := nxtS_le (L.take i) m
      have hm1 := nxtS_take L m (i + 1)
      rw [nth_take h, nxtS_app] at hm1
      simp only [nxtS] at hm1
      simp -implicitDefEqProofs -dsimp +contextual [-Bool.exists_bool, -Int.not_le, -Int.not_lt, -getElem?_pos, -List.getD_eq_getElem?_getD, h, mFam_1, hc0]
      refine callMarkI (0, i + 2) (nth L i).1 _ (by omega) (ha _ (nth_mem h)) (by rw [mFam_j, ownA_lt (by omega), curA_nth L m i i (Nat.le_refl _) h]; rfl) (by simp [-Bool.exists_bool, -Int.not_le, -Int.not_lt, -getElem?_pos, -List.getD_eq_getElem?_getD]) (by simp [-Bool.exists_bool, -Int.not_le, -Int.not_lt, -getElem?_pos, -List.getD_eq_getElem?_getD]) ?_
      have hb1 : i * 3 + 1 + 1 ≤ (curA L m i).length * 3 := by omega
      have hb2 : i * 3 + 2 + 1 ≤ min (i * 3 + 1) ((curA L m i).length * 3) + ((curA L m i).length * 3 - (i * 3 + 1 + 1) + 1) := by omega
      simp -implicitDefEqProofs -dsimp +contextual [-Bool.exists_bool, -Int.not_le, -Int.not_lt, -getElem?_pos, -List.getD_eq_getElem?_getD, h, mFam_1, hb1, hb2]
      refine ⟨i + 1, h, by omega, ?_⟩
      have hs := curA_set L m i h
      have hp := rA_put (fun j => (0, j + 2)) (curA L m i) i (by omega) (markA (nth L i) (nxtS (L.take i) m)) (by rw [markA_len, curA_nth L m i i (Nat.le_refl _) h])
      rw [hs] at hp
      simp only [markA] at hp
      have w1 : IntKind.wrap .i64 (nxtS (L.take i) m + (nth L i).1.length + 1) = nxtS (L.take i) m + (nth L i).1.length + 1 := wr (by omega) (by omega)
      rw [w1, wr (by omega) (by omega), wr (by omega) (by omega), hp]
      refine Le.mfam _ ?_ ?_ ?_
      · simp [-Bool.exists_bool, -Int.not_le, -Int.not_lt, -getElem?_pos, -List.getD_eq_getElem?_getD, nth_take h, nxtS_app, nxtS]
        omega
      · simp [-Bool.exists_bool, -Int.not_le, -Int.not_lt, -getElem?_pos, -List.getD_eq_getElem?_getD, setH, hlc, curA_len L m (i + 1) h]
      · intro j hj
        rw [curA_len L m (i + 1) h] at hj
        by_cases hij : j = i
        · subst hij
          have : nth (curA L m (j + 1)) j = markA (nth L j) (nxtS (L.take j) m) := by
            rw [← hs, nth_eq (by rw [List.length_set, hlc]; exact hj)]
            simp [-Bool.exists_bool, -Int.not_le, -Int.not_lt, -getElem?_pos, -List.getD_eq_getElem?_getD]
          rw [this]
          simp [-Bool.exists_bool, -Int.not_le, -Int.not_lt, -getElem?_pos, -List.getD_eq_getElem?_getD, setH, rowA, rowI, markA, markI_len]
        · have : nth (curA L m (i + 1)) j = nth (curA L m i) j := by
            rw [← hs, nth_eq (by rw [List.length_set, hlc]; exact hj)]
            simp [-Bool.exists_bool, -Int.not_le, -Int.not_lt, -getElem?_pos, -List.getD_eq_getElem?_getD, Ne.symm hij]
            exact (nth_eq _).symm
          rw [this]
          simp [-Bool.exists_bool, -Int.not_le, -Int.not_lt, -getElem?_pos, -List.getD_eq_getElem?_getD, setH, hij, mFam_j, ownA_lt (show j < (curA L m i).length by rw [hlc]; exact hj)]
    · obtain rfl : i = L.length := by omega
      simp -implicitDefEqProofs -dsimp +contextual [-Bool.exists_bool, -Int.not_le, -Int.not_lt, -getElem?_pos, -List.getD_eq_getElem?_getD, h]
      have e : curA L m L.length = markS L m := by simp [-Bool.exists_bool, -Int.not_le, -Int.not_lt, -getElem?_pos, -List.getD_eq_getElem?_getD, curA]
      rw [e]
      refine RLm.mk (fun k => k) (fun _ _ => rfl) (by simp [-Bool.exists_bool, -Int.not_le, -Int.not_lt, -getElem?_pos, -List.getD_eq_getElem?_getD]) (by simp [-Bool.exists_bool, -Int.not_le, -Int.not_lt, -getElem?_pos, -List.getD_eq_getElem?_getD, allK]) (fun k e' hk => ?_) (fun _ _ _ _ _ _ h => h)
      rcases mFam_some hk with ⟨rfl, rfl⟩ | ⟨j, hj, rfl, rfl⟩
      · refine ⟨by show 0 < 2; omega, fun _ => ⟨rfl, by simp [-Bool.exists_bool, -Int.not_le, -Int.not_lt, -getElem?_pos, -List.getD_eq_getElem?_getD], by simp [-Bool.exists_bool, -Int.not_le, -Int.not_lt, -getElem?_pos, -List.getD_eq_getElem?_getD]⟩, ?_, _, mFam_1 _, ?_⟩
        · simp only [allKE]
          exact rA_allKs _ _ 0 fun i hi _ => ⟨rfl, by simp [-Bool.exists_bool, -Int.not_le, -Int.not_lt, -getElem?_pos, -List.getD_eq_getElem?_getD], by rw [markS_len] at hi; simp [-Bool.exists_bool, -Int.not_le, -Int.not_lt, -getElem?_pos, -List.getD_eq_getElem?_getD]; omega⟩
        · simp only [ELe, true_and]
          exact rA_VLes _ 0 fun i hi => ⟨rfl, by show 0 < 2; omega⟩
      · rw [markS_len] at hj
        refine ⟨by show 0 < 2; omega, fun _ => ⟨rfl, by simp [-Bool.exists_bool, -Int.not_le, -Int.not_lt, -getElem?_pos, -List.getD_eq_getElem?_getD], by simp [-Bool.exists_bool, -Int.not_le, -Int.not_lt, -getElem?_pos, -List.getD_eq_getElem?_getD]; omega⟩, by simp [-Bool.exists_bool, -Int.not_le, -Int.not_lt, -getElem?_pos, -List.getD_eq_getElem?_getD, rowA, allKE], _, by rw [mFam_j, ownA_lt (by rw [markS_len]; exact hj)], ?_⟩
        simp only [rowA, ELe, true_and]
        exact (dl_VLes ..).2 rfl
end Go.Proofs.YtjknjekemolndaaGreat.ZL
namespace Go.Proofs.YtjknjekemolndaaGreat.ZL
open Go Go.Proofs.YtjknjekemolndaaGreat.Abs Go.Proofs.YtjknjekemolndaaGreat.Abs.Pl Go.RowKit Go.Proofs
set_option linter.unusedVariables false
set_option linter.unusedSimpArgs false
def upMark (s0 o : Nat) (L : List At) : Key → Option (Option Ent) := fun k => if k.1 = s0 then (if k.2 = o then some (some (.row 66 L.length (rA (fun j => (s0, j + o + 1)) 0 L))) else
    if o < k.2 ∧ k.2 ≤ o + L.length then some (ownA L (k.2 - o - 1)) else none) else none
section
variable {H : Store}
theorem upMark_0 (s0 o : Nat) (L : List At) : app (upMark s0 o L) H (s0, o) = some (.row 66 L.length (rA (fun j => (s0, j + o + 1)) 0 L)) := by simp [-Bool.exists_bool, -Int.not_le, -Int.not_lt, -getElem?_pos, -List.getD_eq_getElem?_getD, app, upMark]
theorem upMark_j (s0 o : Nat) (L : List At) (j : Nat) (h : j < L.length) : app (upMark s0 o L) H (s0, j + o + 1) = some (rowA (nth L j)) := by
  have h1 : ¬ j + o + 1 = o := by omega
  have h2 : o < j + o + 1 ∧ j + o + 1 ≤ o + L.length := by omega
  have h3 : j + o + 1 - o - 1 = j := by omega
  simp only [app, upMark, if_true, if_neg h1, if_pos h2, h3, ownA_lt h]
theorem upMark_ne (s0 o : Nat) (L : List At) (a b : Nat) (h : a ≠ s0) : app (upMark s0 o L) H (a, b) = H (a, b) := by simp [-Bool.exists_bool, -Int.not_le, -Int.not_lt, -getElem?_pos, -List.getD_eq_getElem?_getD, app, upMark, h]
end
def famK (s0 o n : Nat) : List Key := (s0, o) :: (List.range n).map fun j => (s0, j + o + 1)
theorem callMark {N nx s f : Nat} {H : Store} {K : Eff → Prop} {vs vs' : List V} {x : Int} (s0 o : Nat) (L L' : List At) (hl : L'.length = L.length) (h : Cm Tryz.prog f (mKey L.length) vs' (mFam L) (I x) (mFam L'))
    (hv : vs = mapL (gk (fun j => (s0, j + o)) s) vs') (hvk : allKs (mKey L.length) vs') (h0 : H (s0, o) = some (.row 66 L.length (rA (fun j => (s0, j + o + 1)) 0 L))) (hF : ∀ j, j < L.length → H (s0, j + o + 1) = some (rowA (nth L j)))
    (hs : s0 ≠ s) (hn : s0 < nx) (hk : K ⟨I x, famK s0 o L.length, famK s0 o L.length, upMark s0 o L'⟩) : CallJ Tryz.prog N nx s H f vs K := by
  let g : Nat → Key := fun j => (s0, j + o)
  let gi : Key → Option Nat := fun k => if k.1 = s0 ∧ o ≤ k.2 ∧ k.2 ≤ o + L.length then some (k.2 - o) else none
  have hat : ∀ j, j < L.length → (s0, j + o + 1) ∈ famK s0 o L.length := fun j hj => List.mem_cons_of_mem _ (List.mem_map.2 ⟨j, by simpa [-Bool.exists_bool, -Int.not_le, -Int.not_lt, -getElem?_pos, -List.getD_eq_getElem?_getD] using hj, rfl⟩)
  have hfam : ∀ k ∈ famK s0 o L.length, k.1 = s0 ∧ ∃ j, j ≤ L.length ∧ k = (s0, j + o) ∧ (H k).isSome = true := fun k hk => by
    rcases List.mem_cons.1 hk with rfl | hk
    · exact ⟨rfl, 0, Nat.zero_le _, by simp [-Bool.exists_bool, -Int.not_le, -Int.not_lt, -getElem?_pos, -List.getD_eq_getElem?_getD], by rw [h0]; rfl⟩
    · obtain ⟨j, hj, rfl⟩ := List.mem_map.1 hk
      have hj' : j < L.length := by simpa [-Bool.exists_bool, -Int.not_le, -Int.not_lt, -getElem?_pos, -List.getD_eq_getElem?_getD] using hj
      exact ⟨rfl, j + 1, hj', by show (s0, j + o + 1) = (s0, j + 1 + o); rw [show j + o + 1 = j + 1 + o by omega], by rw [hF j (by simpa [-Bool.exists_bool, -Int.not_le, -Int.not_lt, -getElem?_pos, -List.getD_eq_getElem?_getD] using hj)]; rfl⟩
  have hgk : ∀ k, mKey L.length k → (H (g (k.2 - 1))).isSome = true ∧ g (k.2 - 1) ∈ famK s0 o L.length := fun k hk => by
    obtain ⟨h1, h2, h3⟩ := hk
    by_cases h4 : k.2 = 1
    · have : g (k.2 - 1) = (s0, o) := by show (s0, k.2 - 1 + o) = _; rw [h4]; simp [-Bool.exists_bool, -Int.not_le, -Int.not_lt, -getElem?_pos, -List.getD_eq_getElem?_getD]
      rw [this]
      exact ⟨by rw [h0]; rfl, List.mem_cons_self⟩
    · have : g (k.2 - 1) = (s0, (k.2 - 2) + o + 1) := by show (s0, k.2 - 1 + o) = _; rw [show k.2 - 1 + o = k.2 - 2 + o + 1 by omega]
      rw [this]
      exact ⟨by rw [hF (k.2 - 2) (by omega)]; rfl, hat _ (by omega)⟩
  have hup : upMut g gi s (mFam L') = upMark s0 o L' := by
    funext k
    unfold upMut upMark
    by_cases h1 : k.1 = s
    · rw [if_pos h1, if_neg (fun h2 => hs (h2.symm.trans h1))]
      have : mFam L' (1, k.2) = none := by simp [-Bool.exists_bool, -Int.not_le, -Int.not_lt, -getElem?_pos, -List.getD_eq_getElem?_getD, mFam]
      rw [this]
    · rw [if_neg h1]
      by_cases h2 : k.1 = s0
      · rw [if_pos h2]
        by_cases h3 : o ≤ k.2 ∧ k.2 ≤ o + L.length
        · have e : gi k = some (k.2 - o) := by show (if k.1 = s0 ∧ o ≤ k.2 ∧ k.2 ≤ o + L.length then some (k.2 - o) else none) = _; rw [if_pos ⟨h2, h3⟩]
          rw [e]
          simp only []
          by_cases h4 : k.2 = o
          · rw [if_pos h4, show k.2 - o + 1 = 1 by omega, mFam_1]
            simp only [Option.map_some, mapE, rA_mapL]
            have : (fun i => gk g s (0, i + 2)) = fun j => (s0, j + o + 1) := by
              funext i
              show (s0, i + 2 - 1 + o) = _
              rw [show i + 2 - 1 + o = i + o + 1 by omega]
            rw [this]
          · rw [if_neg h4, if_pos ⟨by omega, by omega⟩, show k.2 - o + 1 = (k.2 - o - 1) + 2 by omega, mFam_j, ownA_lt (by omega)]
            simp [-Bool.exists_bool, -Int.not_le, -Int.not_lt, -getElem?_pos, -List.getD_eq_getElem?_getD, mapE, rowA]
        · have e : gi k = none := by show (if k.1 = s0 ∧ o ≤ k.2 ∧ k.2 ≤ o + L.length then some (k.2 - o) else none) = _; rw [if_neg (fun h => h3 h.2)]
          rw [e, if_neg (by omega), if_neg (by omega)]
      · have e : gi k = none := by show (if k.1 = s0 ∧ o ≤ k.2 ∧ k.2 ≤ o + L.length then some (k.2 - o) else none) = _; rw [if_neg (fun h => h2 h.1)]
        rw [e, if_neg h2]
  rw [← hup] at hk
  refine CallJ.mut g gi (famK s0 o L.length) [] h hv hvk (fun k hk => ⟨hk.1, hk.2.1, (hgk k hk).1, by rw [List.append_nil]; exact (hgk k hk).2⟩) ?_ ?_ ?_ ?_ ?_ (by simpa [-Bool.exists_bool, -Int.not_le, -Int.not_lt, -getElem?_pos, -List.getD_eq_getElem?_getD] using hk)
  · intro k e hk
    rcases mFam_some hk with ⟨rfl, rfl⟩ | ⟨j, hj, rfl, rfl⟩
    · refine ⟨⟨rfl, by simp [-Bool.exists_bool, -Int.not_le, -Int.not_lt, -getElem?_pos, -List.getD_eq_getElem?_getD], by simp [-Bool.exists_bool, -Int.not_le, -Int.not_lt, -getElem?_pos, -List.getD_eq_getElem?_getD]⟩, ?_, ?_, ?_⟩
      · show H (s0, 0 + o) = _
        rw [Nat.zero_add, h0]
        simp only [mapE, rA_mapL]
        have : (fun i => gk g s (0, i + 2)) = fun j => (s0, j + o + 1) := by
          funext i
          show (s0, i + 2 - 1 + o) = _
          rw [show i + 2 - 1 + o = i + o + 1 by omega]
        rw [this]
      · simp only [allKE]
        exact rA_allKs _ _ 0 fun i hi => ⟨rfl, by simp [-Bool.exists_bool, -Int.not_le, -Int.not_lt, -getElem?_pos, -List.getD_eq_getElem?_getD], by simp [-Bool.exists_bool, -Int.not_le, -Int.not_lt, -getElem?_pos, -List.getD_eq_getElem?_getD]; omega⟩
      · show (if s0 = s0 ∧ o ≤ 0 + o ∧ 0 + o ≤ o + L.length then some (0 + o - o) else none) = some 0
        rw [if_pos ⟨rfl, by omega, by omega⟩]; simp [-Bool.exists_bool, -Int.not_le, -Int.not_lt, -getElem?_pos, -List.getD_eq_getElem?_getD]
    · refine ⟨⟨rfl, by simp [-Bool.exists_bool, -Int.not_le, -Int.not_lt, -getElem?_pos, -List.getD_eq_getElem?_getD], by simp [-Bool.exists_bool, -Int.not_le, -Int.not_lt, -getElem?_pos, -List.getD_eq_getElem?_getD]; omega⟩, ?_, by simp [-Bool.exists_bool, -Int.not_le, -Int.not_lt, -getElem?_pos, -List.getD_eq_getElem?_getD, rowA, allKE], ?_⟩
      · show H (s0, j + 1 + o) = _
        rw [show j + 1 + o = j + o + 1 by omega, hF j hj]
        simp [-Bool.exists_bool, -Int.not_le, -Int.not_lt, -getElem?_pos, -List.getD_eq_getElem?_getD, mapE, rowA]
      · show (if s0 = s0 ∧ o ≤ j + 1 + o ∧ j + 1 + o ≤ o + L.length then some (j + 1 + o - o) else none) = some (j + 1)
        rw [if_pos ⟨rfl, by omega, by omega⟩]; simp [-Bool.exists_bool, -Int.not_le, -Int.not_lt, -getElem?_pos, -List.getD_eq_getElem?_getD]
  · intro k j hgj
    have hgj : (if k.1 = s0 ∧ o ≤ k.2 ∧ k.2 ≤ o + L.length then some (k.2 - o) else none) = some j := hgj
    split at hgj
    · rename_i hc
      obtain rfl := Option.some.inj hgj
      refine ⟨?_, ?_, ?_⟩
      · show (s0, k.2 - o + o) = k
        rw [Nat.sub_add_cancel hc.2.1, ← hc.1]
      · by_cases h4 : k.2 = o
        · rw [show k.2 - o + 1 = 1 by omega, mFam_1]; rfl
        · rw [show k.2 - o + 1 = (k.2 - o - 1) + 2 by omega, mFam_j, ownA_lt (by omega)]; rfl
      · have e : k = (s0, k.2) := by rw [← hc.1]
        rw [e]
        by_cases h4 : k.2 = o
        · rw [h4]; exact List.mem_cons_self
        · have := hat (k.2 - o - 1) (by omega)
          rwa [show k.2 - o - 1 + o + 1 = k.2 by omega] at this
    · exact absurd hgj (by simp [-Bool.exists_bool, -Int.not_le, -Int.not_lt, -getElem?_pos, -List.getD_eq_getElem?_getD])
  · intro k hk
    obtain ⟨h1, j, hj, rfl, _⟩ := hfam k hk
    show (if s0 = s0 ∧ o ≤ j + o ∧ j + o ≤ o + L.length then some (j + o - o) else none).isSome = true
    rw [if_pos ⟨rfl, by omega, by omega⟩]; rfl
  · intro k e hk
    rcases mFam_some hk with ⟨rfl, rfl⟩ | ⟨j, hj, rfl, rfl⟩
    · exact ⟨by show 0 < 2; omega, fun _ => by rw [mFam_1]; rfl⟩
    · exact ⟨by show 0 < 2; omega, fun _ => by rw [mFam_j, ownA_lt (by omega)]; rfl⟩
  · intro k hk
    rw [List.append_nil] at hk
    obtain ⟨h1, j, hj, rfl, h2⟩ := hfam k hk
    exact ⟨h2, .inl hn⟩
theorem RLm.mfam {P : Program} {H : Store} {n : Nat} {x : Int} (L : List At) (hl : L.length = n) (h1 : H (0, 1) = some (.row 66 L.length (rA (fun j => (0, j + 2)) 0 L))) (hF : ∀ j, j < L.length → H (0, j + 2) = some (rowA (nth L j))) : RLm P (mKey n) H (I x) (I x) (mFam L) := by
  subst hl
  refine RLm.mk (fun k => k) (fun _ _ => rfl) (by simp [-Bool.exists_bool, -Int.not_le, -Int.not_lt, -getElem?_pos, -List.getD_eq_getElem?_getD]) (by simp [-Bool.exists_bool, -Int.not_le, -Int.not_lt, -getElem?_pos, -List.getD_eq_getElem?_getD, allK]) (fun k e' hk => ?_) (fun _ _ _ _ _ _ h => h)
  rcases mFam_some hk with ⟨rfl, rfl⟩ | ⟨j, hj, rfl, rfl⟩
  · refine ⟨by show 0 < 2; omega, fun _ => ⟨rfl, by simp [-Bool.exists_bool, -Int.not_le, -Int.not_lt, -getElem?_pos, -List.getD_eq_getElem?_getD], by simp [-Bool.exists_bool, -Int.not_le, -Int.not_lt, -getElem?_pos, -List.getD_eq_getElem?_getD]⟩, ?_, _, h1, ?_⟩
    · simp only [allKE]
      exact rA_allKs _ _ 0 fun i hi _ => ⟨rfl, by simp [-Bool.exists_bool, -Int.not_le, -Int.not_lt, -getElem?_pos, -List.getD_eq_getElem?_getD], by simp [-Bool.exists_bool, -Int.not_le, -Int.not_lt, -getElem?_pos, -List.getD_eq_getElem?_getD]; omega⟩
    · simp only [ELe, true_and]
      exact rA_VLes _ 0 fun i hi => ⟨rfl, by show 0 < 2; omega⟩
  · refine ⟨by show 0 < 2; omega, fun _ => ⟨rfl, by simp [-Bool.exists_bool, -Int.not_le, -Int.not_lt, -getElem?_pos, -List.getD_eq_getElem?_getD], by simp [-Bool.exists_bool, -Int.not_le, -Int.not_lt, -getElem?_pos, -List.getD_eq_getElem?_getD]; omega⟩, by simp [-Bool.exists_bool, -Int.not_le, -Int.not_lt, -getElem?_pos, -List.getD_eq_getElem?_getD, rowA, allKE], _, hF j hj, ?_⟩
    simp only [rowA, ELe, true_and]
    exact (dl_VLes ..).2 rfl
end Go.Proofs.YtjknjekemolndaaGreat.ZL
namespace Go.Proofs.YtjknjekemolndaaGreat.ZL
open Go Go.Proofs.YtjknjekemolndaaGreat.Abs Go.Proofs.YtjknjekemolndaaGreat.Abs.Pl Go.RowKit Go.Proofs
set_option linter.unusedVariables false
set_option linter.unusedSimpArgs false
theorem heldIntS (n : Nat) (m : Int) (hm : 0 ≤ m ∧ m ≤ 1000000000000) (h20 : n ≤ 1048576) : Cn Tryz.prog 159 [Is (markI n m), I m] (I (m + n)) hemp := by
  refine Cn.of [] mixed Tryz.func159 rfl Tryz.call159 (by kernel_rfl) rfl ?_
  simp -implicitDefEqProofs -dsimp +contextual [-Bool.exists_bool, -Int.not_le, -Int.not_lt, -getElem?_pos, -List.getD_eq_getElem?_getD, Tryz.f159]
  refine WP.loop mixed [] (fun i : Nat => ⟨tl [(0, Is (markI n m)), (1, I (m + i)), (5, I i)], hl [], 1⟩) (fun i => i ≤ n) (fun i => n - i) 0 (by kernel_rfl) ?_ ?_ ?_
  · refine Le.told [] ?_ ?_ ?_ <;> simp [-Bool.exists_bool, -Int.not_le, -Int.not_lt, -getElem?_pos, -List.getD_eq_getElem?_getD]
  · simp [-Bool.exists_bool, -Int.not_le, -Int.not_lt, -getElem?_pos, -List.getD_eq_getElem?_getD]
  · intro i hi
    have hl := markI_len n m
    by_cases h : i < n
    · have hg : (markI n m)[i]? = some (m + i) := by rw [markI, List.getElem?_map, List.getElem?_range h]; rfl
      simp -implicitDefEqProofs -dsimp +contextual [-Bool.exists_bool, -Int.not_le, -Int.not_lt, -getElem?_pos, -List.getD_eq_getElem?_getD, h, hl, hg]
      refine ⟨i + 1, h, by omega, ?_⟩
      rw [wr (by omega) (by omega), wr (by omega) (by omega)]
      refine Le.told [] ?_ ?_ ?_ <;> simp [-Bool.exists_bool, -Int.not_le, -Int.not_lt, -getElem?_pos, -List.getD_eq_getElem?_getD]
      omega
    · simp -implicitDefEqProofs -dsimp +contextual [-Bool.exists_bool, -Int.not_le, -Int.not_lt, -getElem?_pos, -List.getD_eq_getElem?_getD, h, hl]
      obtain rfl : i = n := by omega
      exact RLe.pure 1 (by simp [-Bool.exists_bool, -Int.not_le, -Int.not_lt, -getElem?_pos, -List.getD_eq_getElem?_getD])
theorem markS_nth : ∀ (L : List At) (m : Int) (i : Nat), i < L.length → nth (markS L m) i = markA (nth L i) (nxtS (L.take i) m)
  | [], _, i, h => absurd h (by simp [-Bool.exists_bool, -Int.not_le, -Int.not_lt, -getElem?_pos, -List.getD_eq_getElem?_getD])
  | a :: L, m, 0, _ => rfl
  | a :: L, m, i + 1, h => by
    have := markS_nth L (m + a.1.length + 2) i (by simpa [-Bool.exists_bool, -Int.not_le, -Int.not_lt, -getElem?_pos, -List.getD_eq_getElem?_getD] using h)
    exact this
theorem heldAtomS (L : List At) (m : Int) (hm : 0 ≤ m ∧ nxtS L m ≤ 100000000000) (h20 : L.length ≤ 1048576) (ha : ∀ a ∈ L, a.1.length ≤ 1048576) : Cn Tryz.prog 124 [As (markS L m), I m] (I (nxtS L m)) hemp := by
  refine Cn.of [] mixed Tryz.func124 rfl Tryz.call124 (by kernel_rfl) rfl ?_
  simp -implicitDefEqProofs -dsimp +contextual [-Bool.exists_bool, -Int.not_le, -Int.not_lt, -getElem?_pos, -List.getD_eq_getElem?_getD, Tryz.f124]
  refine WP.loop mixed [] (fun i : Nat => ⟨tl [(0, As (markS L m)), (1, I (nxtS (L.take i) m)), (5, I i)], hl [], 1⟩) (fun i => i ≤ L.length) (fun i => L.length - i) 0 (by kernel_rfl) ?_ ?_ ?_
  · refine Le.told [] ?_ ?_ ?_ <;> simp [-Bool.exists_bool, -Int.not_le, -Int.not_lt, -getElem?_pos, -List.getD_eq_getElem?_getD, nxtS]
  · simp [-Bool.exists_bool, -Int.not_le, -Int.not_lt, -getElem?_pos, -List.getD_eq_getElem?_getD]
  · intro i hi
    have hll := markS_len L m
    by_cases h : i < L.length
    · have hM : i < (markS L m).length := by omega
      have hn := markS_nth L m i h
      have hm0 := nxtS_le (L.take i) m
      have hm1 := nxtS_take L m (i + 1)
      rw [nth_take h, nxtS_app] at hm1
      simp only [nxtS] at hm1
      simp -implicitDefEqProofs -dsimp +contextual [-Bool.exists_bool, -Int.not_le, -Int.not_lt, -getElem?_pos, -List.getD_eq_getElem?_getD, h, hll, hM, hn]
      have hwf : (markA (nth L i) (nxtS (L.take i) m)).1 = markI (nth L i).1.length (nxtS (L.take i) m) := rfl
      have hw2 : (markA (nth L i) (nxtS (L.take i) m)).2.1 = nxtS (L.take i) m + (nth L i).1.length := rfl
      have hw3 : (markA (nth L i) (nxtS (L.take i) m)).2.2 = decide ((nxtS (L.take i) m + (nth L i).1.length + 1).tmod 3 = 0) := rfl
      rw [hwf]
      refine CallJ.pure (heldIntS _ _ (by omega) (ha _ (nth_mem h))) rfl (by simp [-Bool.exists_bool, -Int.not_le, -Int.not_lt, -getElem?_pos, -List.getD_eq_getElem?_getD]) ?_
      have w1 : IntKind.wrap .i64 (nxtS (L.take i) m + (nth L i).1.length + 1) = nxtS (L.take i) m + (nth L i).1.length + 1 := wr (by omega) (by omega)
      have h0 : ¬ nxtS (L.take i) m + (nth L i).1.length < 0 := by omega
      simp -implicitDefEqProofs -dsimp +contextual [-Bool.exists_bool, -Int.not_le, -Int.not_lt, -getElem?_pos, -List.getD_eq_getElem?_getD, h, hll, hM, hn, hw2, hw3, w1, h0]
      refine ⟨i + 1, h, by omega, ?_⟩
      rw [wr (by omega) (by omega), wr (by omega) (by omega)]
      refine Le.told [] ?_ ?_ ?_ <;> simp [-Bool.exists_bool, -Int.not_le, -Int.not_lt, -getElem?_pos, -List.getD_eq_getElem?_getD, nth_take h, nxtS_app, nxtS]
      omega
    · simp -implicitDefEqProofs -dsimp +contextual [-Bool.exists_bool, -Int.not_le, -Int.not_lt, -getElem?_pos, -List.getD_eq_getElem?_getD, h, hll]
      obtain rfl : i = L.length := by omega
      exact RLe.pure 1 (by simp [-Bool.exists_bool, -Int.not_le, -Int.not_lt, -getElem?_pos, -List.getD_eq_getElem?_getD])
end Go.Proofs.YtjknjekemolndaaGreat.ZL
namespace Go.Proofs.YtjknjekemolndaaGreat.ZL
open Go Go.Proofs.YtjknjekemolndaaGreat.Abs Go.Proofs.YtjknjekemolndaaGreat.Abs.Pl Go.RowKit Go.Proofs
set_option linter.unusedVariables false
set_option linter.unusedSimpArgs false
theorem DropVariable (d : Int) (v : Int) (L : List At) (h20 : L.length ≤ 1048576) : Cn Tryz.prog 15 [C1 d L, I v] (D2 (dropD d L v)) hemp := by
  refine Cn.of [] mixed Tryz.func15 rfl Tryz.call15 (by kernel_rfl) rfl ?_
  simp -implicitDefEqProofs -dsimp +contextual [-Bool.exists_bool, -Int.not_le, -Int.not_lt, -getElem?_pos, -List.getD_eq_getElem?_getD, Tryz.f15]
  refine CallJ.pure (IsCell d L h20) rfl (by simp [-Bool.exists_bool, -Int.not_le, -Int.not_lt, -getElem?_pos, -List.getD_eq_getElem?_getD]) ?_
  simp -implicitDefEqProofs -dsimp +contextual [-Bool.exists_bool, -Int.not_le, -Int.not_lt, -getElem?_pos, -List.getD_eq_getElem?_getD]
  have no : ∀ {H : Store}, ¬ (isCe d L = true ∧ 0 ≤ v ∧ v < d) → RLe Tryz.prog H (V.tup [V.agg [V.d (D.int IntKind.i64 0), V.nil], V.d (D.bool false)]) (D2 (dropD d L v)) hemp := fun h => by
    rw [dropD, if_neg h]
    exact RLe.pure 2 (by simp [-Bool.exists_bool, -Int.not_le, -Int.not_lt, -getElem?_pos, -List.getD_eq_getElem?_getD, asD])
  refine ⟨fun h1 => ?_, fun h1 => no (by simp [-Bool.exists_bool, -Int.not_le, -Int.not_lt, -getElem?_pos, -List.getD_eq_getElem?_getD, h1])⟩
  have hd := isCe_d h1
  have h16 := isCe_l h1
  rw [wr (by omega) (by omega)]
  refine CallJ.pure (l1In v 0 (d - 1)) rfl (by simp [-Bool.exists_bool, -Int.not_le, -Int.not_lt, -getElem?_pos, -List.getD_eq_getElem?_getD]) ?_
  simp -implicitDefEqProofs -dsimp +contextual [-Bool.exists_bool, -Int.not_le, -Int.not_lt, -getElem?_pos, -List.getD_eq_getElem?_getD, h1]
  refine ⟨fun h2 => ?_, fun h2 => no (by simp [-Bool.exists_bool, -Int.not_le, -Int.not_lt, -getElem?_pos, -List.getD_eq_getElem?_getD, inB] at h2; omega)⟩
  have hv : 0 ≤ v ∧ v < d := by simp [-Bool.exists_bool, -Int.not_le, -Int.not_lt, -getElem?_pos, -List.getD_eq_getElem?_getD, inB] at h2; omega
  have ev : ((v.toNat : Nat) : Int) = v := by omega
  have hdr := l3Drop d hd v.toNat L h16 (isCe_a h1) (by omega)
  rw [ev] at hdr
  refine CallJ.pure hdr rfl (by simp [-Bool.exists_bool, -Int.not_le, -Int.not_lt, -getElem?_pos, -List.getD_eq_getElem?_getD]) ?_
  simp -implicitDefEqProofs -dsimp +contextual [-Bool.exists_bool, -Int.not_le, -Int.not_lt, -getElem?_pos, -List.getD_eq_getElem?_getD, h1]
  rw [dropD, if_pos ⟨h1, hv⟩]
  exact RLe.pure 3 (by simp [-Bool.exists_bool, -Int.not_le, -Int.not_lt, -getElem?_pos, -List.getD_eq_getElem?_getD])
attribute [simp] upMark_ne upMark_0
structure Owns (H : Store) (s : Nat) (L : List At) : Prop where
  row : H (s, 0) = some (.row 66 L.length (rA (fun j => (s, j + 1)) 0 L))
  dir : ∀ j, j < L.length → H (s, j + 1) = some (rowA (nth L j))
section
variable {H : Store} {s : Nat} {L : List At}
theorem Owns.call (s : Nat) (L : List At) (H : Store) : Owns (app (upCall s (ownR L)) H) s L := ⟨upOwn_0 s L H, fun j hj => upOwn_j s L H j hj⟩
theorem Owns.mark (s : Nat) (L : List At) (H : Store) : Owns (app (upMark s 0 L) H) s L := ⟨upMark_0 s 0 L, fun j hj => upMark_j s 0 L j hj⟩
theorem Owns.set (h : Owns H s L) {k : Key} {e : Option Ent} (hk : k.1 ≠ s) : Owns (setH k e H) s L := by
  have : ∀ j, ¬ (s, j) = k := fun j hj => hk (by rw [← hj])
  exact ⟨by unfold setH; rw [if_neg (this 0)]; exact h.row, fun j hj => by unfold setH; rw [if_neg (this _)]; exact h.dir j hj⟩
theorem Owns.other (h : Owns H s L) {s' : Nat} {R : List At} (hk : s ≠ s') : Owns (app (upCall s' (ownR R)) H) s L := ⟨by rw [upOwn_ne _ _ _ _ _ hk]; exact h.row, fun j hj => by rw [upOwn_ne _ _ _ _ _ hk]; exact h.dir j hj⟩
theorem Owns.otherM (h : Owns H s L) {s' o : Nat} {R : List At} (hk : s ≠ s') : Owns (app (upMark s' o R) H) s L := ⟨by rw [upMark_ne _ _ _ _ _ hk]; exact h.row, fun j hj => by rw [upMark_ne _ _ _ _ _ hk]; exact h.dir j hj⟩
theorem Owns.lend (h : Owns H s L) (n : Nat) (d : Int) : lendV true H (n + 2) (.agg [I d, .ref (s, 0) L.length]) = some (C1 d L, famK s 0 L.length) := by
  have : lendD true H (n + 2) (.ref (s, 0) L.length) = some (.sl L.length (asD L), famK s 0 L.length) := by
    rw [lendD_ref, h.row]
    simp only [lendR, rA_lend (H := H) (n := n) (f := fun j => (s, j + 1)) L 0 (fun i hi => by rw [Nat.zero_add]; exact h.dir i hi), consK]
    simp [-Bool.exists_bool, -Int.not_le, -Int.not_lt, -getElem?_pos, -List.getD_eq_getElem?_getD, famK]
  simp only [lendV, List.map_cons, List.map_nil, joinO, this, lendD_d]
  simp [-Bool.exists_bool, -Int.not_le, -Int.not_lt, -getElem?_pos, -List.getD_eq_getElem?_getD]
theorem famK_lt {nx n : Nat} (hn : s < nx) : ∀ k ∈ famK s 0 n, k.1 < nx := fun k hk => by
  rcases List.mem_cons.1 hk with rfl | hk
  · exact hn
  · obtain ⟨j, _, rfl⟩ := List.mem_map.1 hk
    exact hn
theorem Owns.eqCell {N nx t : Nat} {K : Eff → Prop} (h : Owns H s L) (d : Int) (h20 : L.length ≤ 1048576) (ha : ∀ a ∈ L, a.1.length ≤ 1048576) (hn : s < nx) (hk : K ⟨B true, famK s 0 L.length, [], noUp⟩) : CallJ Tryz.prog N nx t H 122 [.agg [I d, .ref (s, 0) L.length], C1 d L] K := by
  refine CallJ.lent (ks := famK s 0 L.length) 2 (Go.Proofs.YtjknjekemolndaaGreat.ZL.eqCell (d, L) h20 ha) ?_ (fun k hk => .inl (famK_lt hn k hk)) rfl (by simp [-Bool.exists_bool, -Int.not_le, -Int.not_lt, -getElem?_pos, -List.getD_eq_getElem?_getD]) ?_
  · simp only [lendVs, h.lend 0 d]
    simp [-Bool.exists_bool, -Int.not_le, -Int.not_lt, -getElem?_pos, -List.getD_eq_getElem?_getD, lendV]
  · rw [upCall_emp]; exact hk
theorem noSh_ownR (R : List At) (k : Key) (e : Ent) (h : ownR R k = some e) : noShE e = true := by
  obtain ⟨a, b⟩ := k
  unfold ownR at h
  simp only at h
  split at h
  · cases b with
    | zero =>
      simp only [Option.some.injEq] at h
      subst h
      simp only [noShE]
      have : ∀ (L : List At) (j : Nat), noShL (rA (fun j => (0, j + 1)) j L) = true := by
        intro L
        induction L with
        | nil => intro j; rfl
        | cons a L ih => intro j; simp [-Bool.exists_bool, -Int.not_le, -Int.not_lt, -getElem?_pos, -List.getD_eq_getElem?_getD, rA, noShL, noSh, noShD, ih]
      exact this R 0
    | succ j =>
      obtain ⟨_, rfl⟩ := ownA_some h
      simp only [rowA, noShE, noShL_all]
      rw [List.all_eq_true]
      intro x hx
      obtain ⟨d, hd, rfl⟩ := List.mem_map.1 hx
      obtain ⟨n, _, rfl⟩ := List.mem_map.1 hd
      rfl
  · exact absurd h (by simp [-Bool.exists_bool, -Int.not_le, -Int.not_lt, -getElem?_pos, -List.getD_eq_getElem?_getD])
end
theorem markAtom0 (m : Int) : Cn Tryz.prog 123 [As [], I m] (I m) hemp := by
  refine Cn.of [] mixed Tryz.func123 rfl Tryz.call123 (by kernel_rfl) rfl ?_
  simp -implicitDefEqProofs -dsimp +contextual [-Bool.exists_bool, -Int.not_le, -Int.not_lt, -getElem?_pos, -List.getD_eq_getElem?_getD, Tryz.f123]
  refine WP.loop mixed [] (fun i : Nat => ⟨tl [(0, As []), (1, I m), (5, I 0)], hl [], 1⟩) (fun i => i ≤ 0) (fun i => 0 - i) 0 (by kernel_rfl) ?_ ?_ ?_
  · refine Le.told [] ?_ ?_ ?_ <;> simp [-Bool.exists_bool, -Int.not_le, -Int.not_lt, -getElem?_pos, -List.getD_eq_getElem?_getD]
  · simp [-Bool.exists_bool, -Int.not_le, -Int.not_lt, -getElem?_pos, -List.getD_eq_getElem?_getD]
  · intro i hi
    simp -implicitDefEqProofs -dsimp +contextual [-Bool.exists_bool, -Int.not_le, -Int.not_lt, -getElem?_pos, -List.getD_eq_getElem?_getD, asD]
    exact RLe.pure 1 (by simp [-Bool.exists_bool, -Int.not_le, -Int.not_lt, -getElem?_pos, -List.getD_eq_getElem?_getD])
structure Small (L : List At) : Prop where
  len : L.length ≤ 1048576
  dir : ∀ a ∈ L, a.1.length ≤ 1048576
  nxt : nxtS L 1 ≤ 100000000000
theorem nxtS_w : ∀ (L : List At) (m : Int), nxtS L m ≤ m + 2 * wAs L
  | [], m => by simp [-Bool.exists_bool, -Int.not_le, -Int.not_lt, -getElem?_pos, -List.getD_eq_getElem?_getD, nxtS, wAs, wS]
  | a :: L, m => by
    have := nxtS_w L (m + a.1.length + 2)
    simp only [nxtS, wAs, wS, wA, List.length_cons] at this ⊢
    omega
theorem nxtS_bd (B : Nat) : ∀ (L : List At) (m : Int), (∀ a ∈ L, a.1.length ≤ B) → nxtS L m ≤ m + L.length * (B + 2)
  | [], m, _ => by simp [-Bool.exists_bool, -Int.not_le, -Int.not_lt, -getElem?_pos, -List.getD_eq_getElem?_getD, nxtS]
  | a :: L, m, h => by
    have ih := nxtS_bd B L (m + a.1.length + 2) fun x hx => h x (List.mem_cons_of_mem _ hx)
    have h0 := h a List.mem_cons_self
    have e : ((a :: L).length : Int) * (B + 2) = L.length * (B + 2) + (B + 2) := by
      rw [List.length_cons, Int.natCast_add, Int.add_mul]; simp [-Bool.exists_bool, -Int.not_le, -Int.not_lt, -getElem?_pos, -List.getD_eq_getElem?_getD]
    simp only [nxtS]
    rw [e]
    omega
theorem Small.input {L : List At} (h : wAs L ≤ 1048576) : Small L := ⟨(wAs_small h).1, (wAs_small h).2, by have := nxtS_w L 1; omega⟩
theorem Small.ok {d : Int} {L : List At} (h16 : L.length ≤ 16) (h : allOk d L) : Small L := ⟨by omega, fun a ha => okA_small (h a ha), by
  have h4 : ∀ a ∈ L, a.1.length ≤ 4 := fun a ha => (okA_num (h a ha)).2.2
  have := nxtS_bd 4 L 1 h4
  have h5 : (L.length : Int) * (4 + 2) ≤ 96 := by omega
  simp [-Bool.exists_bool, -Int.not_le, -Int.not_lt, -getElem?_pos, -List.getD_eq_getElem?_getD] at this
  omega⟩
theorem Small.nil : Small [] := ⟨by simp [-Bool.exists_bool, -Int.not_le, -Int.not_lt, -getElem?_pos, -List.getD_eq_getElem?_getD], by simp [-Bool.exists_bool, -Int.not_le, -Int.not_lt, -getElem?_pos, -List.getD_eq_getElem?_getD], by simp [-Bool.exists_bool, -Int.not_le, -Int.not_lt, -getElem?_pos, -List.getD_eq_getElem?_getD, nxtS]⟩
theorem dropD_small (d v : Int) (L : List At) : Small (dropD d L v).2.1 := by
  unfold dropD
  split
  · rename_i h
    by_cases hr : (dropC d v.toNat L).2.2 = true
    · have hd := isCe_d h.1
      have := dropC_ok hd v.toNat (isCe_l h.1) (isCe_a h.1) hr
      exact Small.ok this.2.1 this.2.2
    · rw [dropC_f hr]; exact Small.nil
  · exact Small.nil
end Go.Proofs.YtjknjekemolndaaGreat.ZL
namespace Go.Proofs.YtjknjekemolndaaGreat.ZL
open Go Go.Proofs.YtjknjekemolndaaGreat.Abs Go.Proofs.YtjknjekemolndaaGreat.Abs.Pl Go.RowKit Go.Proofs
set_option linter.unusedVariables false
set_option linter.unusedSimpArgs false
def normD (d : Int) (L : List At) : Int × List At × Bool := if isCe d L = true then (d, nrm d L, true) else (0, [], false)
theorem normD_f {d : Int} {L : List At} (h : ¬ (normD d L).2.2 = true) : normD d L = (0, [], false) := by
  unfold normD at h ⊢
  split
  · rename_i h2; rw [if_pos h2] at h; exact absurd rfl h
  · rfl
theorem normD_small (d : Int) (L : List At) : Small (normD d L).2.1 := by
  unfold normD
  split
  · rename_i h; exact Small.ok (nrm_16 d L (isCe_l h)) (nrm_okL (isCe_d h) (isCe_a h))
  · exact Small.nil
theorem iNormalCell (d : Int) (L : List At) (h20 : L.length ≤ 1048576) : Cn Tryz.prog 87 [C1 d L] (oV (normD d L)) (oH (normD d L)) := by
  refine Cn.of [] mixed Tryz.func87 rfl Tryz.call87 (by kernel_rfl) rfl ?_
  simp -implicitDefEqProofs -dsimp +contextual [-Bool.exists_bool, -Int.not_le, -Int.not_lt, -getElem?_pos, -List.getD_eq_getElem?_getD, Tryz.f87]
  refine CallJ.pure (iIsCell d L h20) rfl (by simp [-Bool.exists_bool, -Int.not_le, -Int.not_lt, -getElem?_pos, -List.getD_eq_getElem?_getD]) ?_
  simp -implicitDefEqProofs -dsimp +contextual [-Bool.exists_bool, -Int.not_le, -Int.not_lt, -getElem?_pos, -List.getD_eq_getElem?_getD]
  refine ⟨fun h1 => ?_, fun h1 => ?_⟩
  · have hd := isCe_d h1
    have h16 := isCe_l h1
    refine CallJ.pure (iNormalOf d hd L (by omega) (isCe_a h1)) rfl (by simp [-Bool.exists_bool, -Int.not_le, -Int.not_lt, -getElem?_pos, -List.getD_eq_getElem?_getD]) ?_
    simp -implicitDefEqProofs -dsimp +contextual [-Bool.exists_bool, -Int.not_le, -Int.not_lt, -getElem?_pos, -List.getD_eq_getElem?_getD, h1]
    rw [normD, if_pos h1, oV_t rfl, oH_t rfl]
    refine RLe.pass 10 _ ?_ ?_ ?_
    · simp [-Bool.exists_bool, -Int.not_le, -Int.not_lt, -getElem?_pos, -List.getD_eq_getElem?_getD, invO]
    · simp [-Bool.exists_bool, -Int.not_le, -Int.not_lt, -getElem?_pos, -List.getD_eq_getElem?_getD, setH, upOwn_0]
    · intro j hj; simp [-Bool.exists_bool, -Int.not_le, -Int.not_lt, -getElem?_pos, -List.getD_eq_getElem?_getD, setH, upOwn_j _ _ _ _ hj]
  · rw [normD, if_neg (by simp [-Bool.exists_bool, -Int.not_le, -Int.not_lt, -getElem?_pos, -List.getD_eq_getElem?_getD, h1]), oV_f (by simp [-Bool.exists_bool, -Int.not_le, -Int.not_lt, -getElem?_pos, -List.getD_eq_getElem?_getD]), oH_f (by simp [-Bool.exists_bool, -Int.not_le, -Int.not_lt, -getElem?_pos, -List.getD_eq_getElem?_getD])]
    exact RLe.emp (by simp [-Bool.exists_bool, -Int.not_le, -Int.not_lt, -getElem?_pos, -List.getD_eq_getElem?_getD])
theorem iNormalCellW (d : Int) (L : List At) (h20 : L.length ≤ 1048576) : Cn Tryz.prog 87 [C1 d L] (D2 (normD d L)) hemp := Cn.weak normD_f (iNormalCell d L h20)
theorem lends1 {H : Store} {s1 : Nat} {c1 : Ce} (h1 : Owns H s1 c1.2) : lendVs true H 2 [.agg [I c1.1, .ref (s1, 0) c1.2.length]] = some ([.agg (cV c1)], famK s1 0 c1.2.length) := by
  simp only [lendVs, h1.lend 0 c1.1]; simp [-Bool.exists_bool, -Int.not_le, -Int.not_lt, -getElem?_pos, -List.getD_eq_getElem?_getD]
theorem lends2 {H : Store} {s1 s2 : Nat} {c1 c2 : Ce} (h1 : Owns H s1 c1.2) (h2 : Owns H s2 c2.2) : lendVs true H 2 [.agg [I c1.1, .ref (s1, 0) c1.2.length], .agg [I c2.1, .ref (s2, 0) c2.2.length]] = some ([.agg (cV c1), .agg (cV c2)], famK s1 0 c1.2.length ++ famK s2 0 c2.2.length) := by
  simp only [lendVs, h1.lend 0 c1.1, h2.lend 0 c2.1]; simp [-Bool.exists_bool, -Int.not_le, -Int.not_lt, -getElem?_pos, -List.getD_eq_getElem?_getD]
theorem lends1i {H : Store} {s1 : Nat} {c1 : Ce} {v : Int} (h1 : Owns H s1 c1.2) : lendVs true H 2 [.agg [I c1.1, .ref (s1, 0) c1.2.length], I v] = some ([.agg (cV c1), I v], famK s1 0 c1.2.length) := by
  simp only [lendVs, h1.lend 0 c1.1]; simp [-Bool.exists_bool, -Int.not_le, -Int.not_lt, -getElem?_pos, -List.getD_eq_getElem?_getD, lendV]
end Go.Proofs.YtjknjekemolndaaGreat.ZL
namespace Go.Proofs.YtjknjekemolndaaGreat.ZL
open Go Go.Proofs.YtjknjekemolndaaGreat.Abs Go.Proofs.YtjknjekemolndaaGreat.Abs.Pl Go.RowKit Go.Proofs
set_option linter.unusedVariables false
set_option linter.unusedSimpArgs false
abbrev hV (d : Int) (L : List At) : V := .agg [I d, .ref (0, 0) L.length]
abbrev hH (L : List At) : Store := hl [((0, 0), .row 66 L.length (dl (asD L)))]
theorem l3Copy (d : Int) (L : List At) (h20 : L.length ≤ 1000) (ha : ∀ a ∈ L, a.1.length ≤ 1048576) : Cn Tryz.prog 155 [C1 d L] (hV d L) (hH L) := by
  refine Cn.of [] mixed Tryz.func155 rfl Tryz.call155 (by kernel_rfl) rfl ?_
  simp -implicitDefEqProofs -dsimp +contextual [-Bool.exists_bool, -Int.not_le, -Int.not_lt, -getElem?_pos, -List.getD_eq_getElem?_getD, Tryz.f155]
  refine WP.loop mixed [] (fun i : Nat => ⟨tl [(1, .ptr (0, 0) 0), (2, .ptr (1, 0) 0), (3, .ptr (2, 0) 0), (4, I i)], hl [((0, 0), .box [I d, As L]), ((1, 0), .box [I 0, .nil]), ((2, 0), .box [I d, .ref (3, 0) i]), ((3, 0), .row 66 i (dl (asD (L.take i))))], 4⟩) (fun i => i ≤ L.length) (fun i => L.length - i) 0 (by kernel_rfl) ?_ ?_ ?_
  · refine Le.trans (Le.nilBox (5, 0) 1 66 (c := [I d, .nil]) (by simp [-Bool.exists_bool, -Int.not_le, -Int.not_lt, -getElem?_pos, -List.getD_eq_getElem?_getD, setH]) rfl) (Le.told [((2, 0), (5, 0)), ((3, 0), (8, 0))] ?_ ?_ ?_) <;> simp [-Bool.exists_bool, -Int.not_le, -Int.not_lt, -getElem?_pos, -List.getD_eq_getElem?_getD, setH, ELe, asD]
  · simp [-Bool.exists_bool, -Int.not_le, -Int.not_lt, -getElem?_pos, -List.getD_eq_getElem?_getD]
  · intro i hi
    by_cases h : i < L.length
    · simp -implicitDefEqProofs -dsimp +contextual [-Bool.exists_bool, -Int.not_le, -Int.not_lt, -getElem?_pos, -List.getD_eq_getElem?_getD, h]
      refine CallJ.pure (l3Atom (nth L i) (ha _ (nth_mem h))) rfl (by simp [-Bool.exists_bool, -Int.not_le, -Int.not_lt, -getElem?_pos, -List.getD_eq_getElem?_getD]) ?_
      simp -implicitDefEqProofs -dsimp +contextual [-Bool.exists_bool, -Int.not_le, -Int.not_lt, -getElem?_pos, -List.getD_eq_getElem?_getD, h]
      refine ⟨⟨by omega, by simp [-Bool.exists_bool, -Int.not_le, -Int.not_lt, -getElem?_pos, -List.getD_eq_getElem?_getD, maxLen]; omega⟩, by kernel_rfl, i + 1, h, by omega, ?_⟩
      rw [wr (by omega) (by omega)]
      have hx : asD (L.take (i + 1)) = asD (L.take i) ++ aD (nth L i) := by rw [nth_take h, asD_append]; simp [-Bool.exists_bool, -Int.not_le, -Int.not_lt, -getElem?_pos, -List.getD_eq_getElem?_getD, asD]
      refine Le.told [((3, 0), (18, 0))] ?_ ?_ ?_ <;> simp [-Bool.exists_bool, -Int.not_le, -Int.not_lt, -getElem?_pos, -List.getD_eq_getElem?_getD, hx, aD]
    · obtain rfl : i = L.length := by omega
      simp -implicitDefEqProofs -dsimp +contextual [-Bool.exists_bool, -Int.not_le, -Int.not_lt, -getElem?_pos, -List.getD_eq_getElem?_getD, h]
      refine RLe.told [((0, 0), (3, 0))] ?_ ?_ ?_ <;> simp [-Bool.exists_bool, -Int.not_le, -Int.not_lt, -getElem?_pos, -List.getD_eq_getElem?_getD]
theorem iCopyAtomW (a : At) (h : a.1.length ≤ 1048576) : Cn Tryz.prog 107 [A1 a] (A1 a) hemp := Cn.freeze 2 (iCopyAtom a h) (by simp [-Bool.exists_bool, -Int.not_le, -Int.not_lt, -getElem?_pos, -List.getD_eq_getElem?_getD, lendT, lendV])
def clo (a : At) : At := (a.1, a.2.1, false)
def closD (d : Int) (L : List At) : Int × List At × Bool := if (emptyC d L).2 = true then (if (emptyC d L).1 = true then (d, [noneA d], true) else (d, nrm d (L.map clo), true)) else (0, [], false)
theorem emptyC_ce {d : Int} {L : List At} (h : (emptyC d L).2 = true) : isCe d L = true := by
  unfold emptyC at h
  split at h
  · assumption
  · exact absurd h (by simp [-Bool.exists_bool, -Int.not_le, -Int.not_lt, -getElem?_pos, -List.getD_eq_getElem?_getD])
def curL (L : List At) (i : Nat) : List At := (L.take i).map clo ++ L.drop i
theorem curL_len (L : List At) (i : Nat) : (curL L i).length = L.length := by simp [-Bool.exists_bool, -Int.not_le, -Int.not_lt, -getElem?_pos, -List.getD_eq_getElem?_getD, curL]; omega
theorem asD_put (L : List At) (i : Nat) (h : i < L.length) : (asD (curL L i)).take (i * 3 + 2) ++ D.bool false :: (asD (curL L i)).drop (i * 3 + 2 + 1) = asD (curL L (i + 1)) := by
  have e1 : curL L i = (L.take i).map clo ++ nth L i :: L.drop (i + 1) := by rw [curL, nth_drop h]
  have e2 : curL L (i + 1) = (L.take i).map clo ++ clo (nth L i) :: L.drop (i + 1) := by rw [curL, nth_take h]; simp [-Bool.exists_bool, -Int.not_le, -Int.not_lt, -getElem?_pos, -List.getD_eq_getElem?_getD]
  have hA : (asD ((L.take i).map clo)).length = i * 3 := by rw [asD_len]; simp [-Bool.exists_bool, -Int.not_le, -Int.not_lt, -getElem?_pos, -List.getD_eq_getElem?_getD]; omega
  rw [e1, e2, asD_append, asD_append]
  generalize asD ((L.take i).map clo) = A at hA
  rw [← hA]
  have c1 : asD (nth L i :: L.drop (i + 1)) = aD (nth L i) ++ asD (L.drop (i + 1)) := by simp [-Bool.exists_bool, -Int.not_le, -Int.not_lt, -getElem?_pos, -List.getD_eq_getElem?_getD, asD]
  have c2 : asD (clo (nth L i) :: L.drop (i + 1)) = aD (clo (nth L i)) ++ asD (L.drop (i + 1)) := by simp [-Bool.exists_bool, -Int.not_le, -Int.not_lt, -getElem?_pos, -List.getD_eq_getElem?_getD, asD]
  have t2 : A.take (A.length + 2) = A := List.take_of_length_le (by omega)
  have d2 : A.drop (A.length + 2 + 1) = [] := List.drop_eq_nil_of_le (by omega)
  have k2 : A.length + 2 + 1 - A.length = 3 := by omega
  rw [c1, c2]
  simp [-Bool.exists_bool, -Int.not_le, -Int.not_lt, -getElem?_pos, -List.getD_eq_getElem?_getD, List.take_append, List.drop_append, t2, d2, k2, aD, clo]
theorem clo_all {d : Int} {L : List At} (h : allOk d L) : allOk d (L.map clo) := fun x hx => by
  obtain ⟨a, ha, rfl⟩ := List.mem_map.1 hx
  exact h a ha
theorem closD_small (d : Int) (L : List At) : Small (closD d L).2.1 := by
  unfold closD
  split
  · rename_i h
    have hce := emptyC_ce h
    split
    · exact Small.ok (d := d) (by simp [-Bool.exists_bool, -Int.not_le, -Int.not_lt, -getElem?_pos, -List.getD_eq_getElem?_getD]) (fun x hx => by rw [List.mem_singleton.1 hx]; exact noneA_ok (isCe_d hce))
    · exact Small.ok (nrm_16 d _ (by simpa [-Bool.exists_bool, -Int.not_le, -Int.not_lt, -getElem?_pos, -List.getD_eq_getElem?_getD] using isCe_l hce)) (nrm_okL (isCe_d hce) (clo_all (isCe_a hce)))
  · exact Small.nil
theorem closD_f {d : Int} {L : List At} (h : ¬ (closD d L).2.2 = true) : closD d L = (0, [], false) := by
  unfold closD at h ⊢
  split
  · rename_i h1
    rw [if_pos h1] at h
    split at h <;> exact absurd rfl h
  · rfl
theorem isCe_clo {d : Int} {L : List At} (h : isCe d L = true) : isCe d (L.map clo) = true := by
  rw [isCe_iff] at h ⊢
  refine ⟨h.1, by simpa [-Bool.exists_bool, -Int.not_le, -Int.not_lt, -getElem?_pos, -List.getD_eq_getElem?_getD] using h.2.1, fun x hx => ?_⟩
  obtain ⟨a, ha, rfl⟩ := List.mem_map.1 hx
  exact h.2.2 a ha
end Go.Proofs.YtjknjekemolndaaGreat.ZL
namespace Go.Proofs.YtjknjekemolndaaGreat.ZL
open Go Go.Proofs.YtjknjekemolndaaGreat.Abs Go.Proofs.YtjknjekemolndaaGreat.Abs.Pl Go.RowKit Go.Proofs
set_option linter.unusedVariables false
set_option linter.unusedSimpArgs false
abbrev Ra (n d : Int) : V := .agg [I n, I d]
theorem isNum_63 {x : Int} (h : isNum x = true) : bd63 x := by have := isNum_iff.1 h; constructor <;> omega
theorem iGcdOf (a b : Int) : Cn Tryz.prog 104 [I a, I b] (I (gcdOf a b)) hemp := by
  refine Cn.of [] mixed Tryz.func104 rfl Tryz.call104 (by kernel_rfl) rfl ?_
  simp -implicitDefEqProofs -dsimp +contextual [-Bool.exists_bool, -Int.not_le, -Int.not_lt, -getElem?_pos, -List.getD_eq_getElem?_getD, Tryz.f104]
  refine CallJ.pure (iIsNumber a) rfl (by simp [-Bool.exists_bool, -Int.not_le, -Int.not_lt, -getElem?_pos, -List.getD_eq_getElem?_getD]) ?_
  simp -implicitDefEqProofs -dsimp +contextual [-Bool.exists_bool, -Int.not_le, -Int.not_lt, -getElem?_pos, -List.getD_eq_getElem?_getD]
  refine ⟨fun h1 => ?_, fun h1 => RLe.pure 1 (by simp [-Bool.exists_bool, -Int.not_le, -Int.not_lt, -getElem?_pos, -List.getD_eq_getElem?_getD, gcdOf, h1])⟩
  refine CallJ.pure (iIsNumber b) rfl (by simp [-Bool.exists_bool, -Int.not_le, -Int.not_lt, -getElem?_pos, -List.getD_eq_getElem?_getD]) ?_
  simp -implicitDefEqProofs -dsimp +contextual [-Bool.exists_bool, -Int.not_le, -Int.not_lt, -getElem?_pos, -List.getD_eq_getElem?_getD, h1]
  refine ⟨fun h2 => ?_, fun h2 => RLe.pure 1 (by simp [-Bool.exists_bool, -Int.not_le, -Int.not_lt, -getElem?_pos, -List.getD_eq_getElem?_getD, gcdOf, h1, h2])⟩
  refine CallJ.pure (iCommonDivisor a b (isNum_63 h1) (isNum_63 h2)) rfl (by simp [-Bool.exists_bool, -Int.not_le, -Int.not_lt, -getElem?_pos, -List.getD_eq_getElem?_getD]) ?_
  simp -implicitDefEqProofs -dsimp +contextual [-Bool.exists_bool, -Int.not_le, -Int.not_lt, -getElem?_pos, -List.getD_eq_getElem?_getD, h1, h2]
  exact RLe.pure 1 (by simp [-Bool.exists_bool, -Int.not_le, -Int.not_lt, -getElem?_pos, -List.getD_eq_getElem?_getD, gcdOf, h1, h2])
theorem isRat_gcd {n d : Int} : isRat n d = (decide (1 ≤ d) && decide (d ≤ 400000000) && isNum n && decide (gcdOf n d = 1)) := by
  unfold isRat gcdOf isNum
  by_cases h1 : 1 ≤ d <;> by_cases h2 : d ≤ 400000000 <;> by_cases h3 : -400000000 ≤ n <;> by_cases h4 : n ≤ 400000000 <;> simp [-Bool.exists_bool, -Int.not_le, -Int.not_lt, -getElem?_pos, -List.getD_eq_getElem?_getD, h1, h2, h3, h4]
  rw [if_pos (by omega)]
  omega
theorem IsRatio (n d : Int) : Cn Tryz.prog 147 [Ra n d] (B (isRat n d)) hemp := by
  refine Cn.of [] mixed Tryz.func147 rfl Tryz.call147 (by kernel_rfl) rfl ?_
  simp -implicitDefEqProofs -dsimp +contextual [-Bool.exists_bool, -Int.not_le, -Int.not_lt, -getElem?_pos, -List.getD_eq_getElem?_getD, Tryz.f147]
  refine CallJ.pure (l1In d 1 400000000) rfl (by simp [-Bool.exists_bool, -Int.not_le, -Int.not_lt, -getElem?_pos, -List.getD_eq_getElem?_getD]) ?_
  rw [isRat_gcd]
  simp -implicitDefEqProofs -dsimp +contextual [-Bool.exists_bool, -Int.not_le, -Int.not_lt, -getElem?_pos, -List.getD_eq_getElem?_getD]
  refine ⟨fun h1 => ?_, fun h1 => ?_⟩
  · have h1' : 1 ≤ d ∧ d ≤ 400000000 := by simpa [-Bool.exists_bool, -Int.not_le, -Int.not_lt, -getElem?_pos, -List.getD_eq_getElem?_getD, inB] using h1
    refine CallJ.pure (IsNumber n) rfl (by simp [-Bool.exists_bool, -Int.not_le, -Int.not_lt, -getElem?_pos, -List.getD_eq_getElem?_getD]) ?_
    simp -implicitDefEqProofs -dsimp +contextual [-Bool.exists_bool, -Int.not_le, -Int.not_lt, -getElem?_pos, -List.getD_eq_getElem?_getD, h1, h1']
    refine ⟨fun h2 => ?_, fun h2 => RLe.bb (by simp [-Bool.exists_bool, -Int.not_le, -Int.not_lt, -getElem?_pos, -List.getD_eq_getElem?_getD, h2])⟩
    refine CallJ.pure (GcdOf n d) rfl (by simp [-Bool.exists_bool, -Int.not_le, -Int.not_lt, -getElem?_pos, -List.getD_eq_getElem?_getD]) ?_
    simp -implicitDefEqProofs -dsimp +contextual [-Bool.exists_bool, -Int.not_le, -Int.not_lt, -getElem?_pos, -List.getD_eq_getElem?_getD, h1, h2]
    exact RLe.bb (by simp [-Bool.exists_bool, -Int.not_le, -Int.not_lt, -getElem?_pos, -List.getD_eq_getElem?_getD, h1'])
  · refine RLe.bb ?_
    have : ¬ (1 ≤ d ∧ d ≤ 400000000) := by simpa [-Bool.exists_bool, -Int.not_le, -Int.not_lt, -getElem?_pos, -List.getD_eq_getElem?_getD, inB] using h1
    by_cases h2 : 1 ≤ d
    · have h3 : ¬ d ≤ 400000000 := fun h3 => this ⟨h2, h3⟩
      simp [-Bool.exists_bool, -Int.not_le, -Int.not_lt, -getElem?_pos, -List.getD_eq_getElem?_getD, h3]
    · simp [-Bool.exists_bool, -Int.not_le, -Int.not_lt, -getElem?_pos, -List.getD_eq_getElem?_getD, h2]
theorem iIsRatio (n d : Int) : Cn Tryz.prog 60 [Ra n d] (B (isRat n d)) hemp := by
  refine Cn.of [] mixed Tryz.func60 rfl Tryz.call60 (by kernel_rfl) rfl ?_
  rw [isRat_gcd]
  simp -implicitDefEqProofs -dsimp +contextual [-Bool.exists_bool, -Int.not_le, -Int.not_lt, -getElem?_pos, -List.getD_eq_getElem?_getD, Tryz.f60]
  refine ⟨fun h1 => ⟨fun h1b => ?_, fun _ => RLe.bb rfl⟩, fun _ => RLe.bb rfl⟩
  refine CallJ.pure (iIsNumber n) rfl (by simp [-Bool.exists_bool, -Int.not_le, -Int.not_lt, -getElem?_pos, -List.getD_eq_getElem?_getD]) ?_
  simp -implicitDefEqProofs -dsimp +contextual [-Bool.exists_bool, -Int.not_le, -Int.not_lt, -getElem?_pos, -List.getD_eq_getElem?_getD, h1, h1b]
  refine ⟨fun h2 => ?_, fun h2 => RLe.bb (by simp [-Bool.exists_bool, -Int.not_le, -Int.not_lt, -getElem?_pos, -List.getD_eq_getElem?_getD, h2])⟩
  refine CallJ.pure (iGcdOf n d) rfl (by simp [-Bool.exists_bool, -Int.not_le, -Int.not_lt, -getElem?_pos, -List.getD_eq_getElem?_getD]) ?_
  simp -implicitDefEqProofs -dsimp +contextual [-Bool.exists_bool, -Int.not_le, -Int.not_lt, -getElem?_pos, -List.getD_eq_getElem?_getD, h1, h1b, h2]
  exact RLe.bb (by simp [-Bool.exists_bool, -Int.not_le, -Int.not_lt, -getElem?_pos, -List.getD_eq_getElem?_getD])
def fixI (l : List Int) (v : Nat) (d : Int) : List Int := (l.map (· * d)).set v 0
def fixA (a : At) (v n d : Int) : At2 := if isAt a.1 a.2.1 = true ∧ isRat n d = true ∧ 0 ≤ v ∧ v < a.1.length then mkAt (fixI a.1 v.toNat d) (a.2.1 * d + nth a.1 v.toNat * n) a.2.2 else noAt
theorem fixI_len (l : List Int) (v : Nat) (d : Int) : (fixI l v d).length = l.length := by simp [-Bool.exists_bool, -Int.not_le, -Int.not_lt, -getElem?_pos, -List.getD_eq_getElem?_getD, fixI]
theorem fixI_nth (l : List Int) (v : Nat) (d : Int) (i : Nat) (h : i < l.length) : nth (fixI l v d) i = if i = v then 0 else nth l i * d := by
  rw [nth_eq (by rw [fixI_len]; exact h), nth_eq h]
  unfold fixI
  rw [List.getElem_set]
  simp only [List.getElem_map]
  by_cases e : v = i
  · rw [if_pos e, if_pos e.symm]
  · rw [if_neg e, if_neg (fun h => e h.symm)]
theorem mul_bd {x y : Int} (hx : isNum x = true) (hy : -400000000 ≤ y ∧ y ≤ 400000000) : -160000000000000000 ≤ x * y ∧ x * y ≤ 160000000000000000 := by
  have hx := isNum_iff.1 hx
  have h1 : (x * y).natAbs ≤ 400000000 * 400000000 := by
    rw [Int.natAbs_mul]
    exact Nat.mul_le_mul (by omega) (by omega)
  omega
theorem FixVariable (a : At) (v n d : Int) (h20 : a.1.length ≤ 1048576) : Cn Tryz.prog 145 [A1 a, I v, Ra n d] (A2 (fixA a v n d)) hemp := by
  refine Cn.of [] mixed Tryz.func145 rfl Tryz.call145 (by kernel_rfl) rfl ?_
  simp -implicitDefEqProofs -dsimp +contextual [-Bool.exists_bool, -Int.not_le, -Int.not_lt, -getElem?_pos, -List.getD_eq_getElem?_getD, Tryz.f145]
  have no : ∀ {H : Store}, ¬ (isAt a.1 a.2.1 = true ∧ isRat n d = true ∧ 0 ≤ v ∧ v < a.1.length) → RLe Tryz.prog H (V.tup [V.agg [V.nil, V.d (D.int IntKind.i64 0), V.d (D.bool false)], V.d (D.bool false)]) (A2 (fixA a v n d)) hemp := fun h => by
    rw [fixA, if_neg h]
    exact RLe.pure 3 (by simp [-Bool.exists_bool, -Int.not_le, -Int.not_lt, -getElem?_pos, -List.getD_eq_getElem?_getD, noAt])
  refine CallJ.pure (IsAtom a) rfl (by simp [-Bool.exists_bool, -Int.not_le, -Int.not_lt, -getElem?_pos, -List.getD_eq_getElem?_getD]) ?_
  simp -implicitDefEqProofs -dsimp +contextual [-Bool.exists_bool, -Int.not_le, -Int.not_lt, -getElem?_pos, -List.getD_eq_getElem?_getD]
  refine ⟨fun h1 => ?_, fun h1 => no (by simp [-Bool.exists_bool, -Int.not_le, -Int.not_lt, -getElem?_pos, -List.getD_eq_getElem?_getD, h1])⟩
  refine CallJ.pure (IsRatio n d) rfl (by simp [-Bool.exists_bool, -Int.not_le, -Int.not_lt, -getElem?_pos, -List.getD_eq_getElem?_getD]) ?_
  simp -implicitDefEqProofs -dsimp +contextual [-Bool.exists_bool, -Int.not_le, -Int.not_lt, -getElem?_pos, -List.getD_eq_getElem?_getD, h1]
  refine ⟨fun h2 => ?_, fun h2 => no (by simp [-Bool.exists_bool, -Int.not_le, -Int.not_lt, -getElem?_pos, -List.getD_eq_getElem?_getD, h2])⟩
  have p := isAt_iff.1 h1
  have q := isRat_iff.1 h2
  rw [wr (by omega) (by omega)]
  refine CallJ.pure (l1In v 0 (a.1.length - 1)) rfl (by simp [-Bool.exists_bool, -Int.not_le, -Int.not_lt, -getElem?_pos, -List.getD_eq_getElem?_getD]) ?_
  simp -implicitDefEqProofs -dsimp +contextual [-Bool.exists_bool, -Int.not_le, -Int.not_lt, -getElem?_pos, -List.getD_eq_getElem?_getD, h1, h2]
  refine ⟨fun h3 => ?_, fun h3 => no (by simp [-Bool.exists_bool, -Int.not_le, -Int.not_lt, -getElem?_pos, -List.getD_eq_getElem?_getD, inB] at h3; omega)⟩
  have hv : 0 ≤ v ∧ v < a.1.length := by simp [-Bool.exists_bool, -Int.not_le, -Int.not_lt, -getElem?_pos, -List.getD_eq_getElem?_getD, inB] at h3; omega
  rw [fixA, if_pos ⟨h1, h2, hv⟩]
  obtain ⟨v', rfl⟩ : ∃ v' : Nat, v = v' := ⟨v.toNat, by omega⟩
  simp only [Int.toNat_natCast]
  have hv' : v' < a.1.length := by omega
  have hlen : a.1.length ≤ 4 := p.1
  refine WP.loopF mixed [] (fun i : Nat => ⟨tl [(1, I v'), (3, .ptr (0, 0) 0), (5, .ptr (1, 0) 0), (6, .ptr (2, 0) 0), (8, .ref (3, 0) i), (9, I i)], hl [((0, 0), .box (aV a)), ((1, 0), .box [I n, I d]), ((2, 0), .box [.nil, I 0, B false]), ((3, 0), .row 3 i (dl (((fixI a.1 v' d).take i).map (.int .i64))))], 4⟩) (fun i => i ≤ a.1.length) (fun i => a.1.length - i) 0 (by kernel_rfl) ?_ ?_ ?_
  · refine Le.trans (Le.nil 8 3 (by simp [-Bool.exists_bool, -Int.not_le, -Int.not_lt, -getElem?_pos, -List.getD_eq_getElem?_getD])) (Le.told [((3, 0), (24, 0))] ?_ ?_ ?_) <;> simp [-Bool.exists_bool, -Int.not_le, -Int.not_lt, -getElem?_pos, -List.getD_eq_getElem?_getD, setH]
  · simp [-Bool.exists_bool, -Int.not_le, -Int.not_lt, -getElem?_pos, -List.getD_eq_getElem?_getD]
  · intro i hi
    by_cases h : i < a.1.length
    · refine ⟨_, Le.refl _ _ _, ?_⟩
      have hn := fixI_nth a.1 v' d i h
      have ht := nth_take (l := fixI a.1 v' d) (i := i) (by rw [fixI_len]; exact h)
      have hb := mul_bd (p.2.2.1 _ (nth_mem h)) (by omega : -400000000 ≤ d ∧ d ≤ 400000000)
      simp -implicitDefEqProofs -dsimp +contextual [-Bool.exists_bool, -Int.not_le, -Int.not_lt, -getElem?_pos, -List.getD_eq_getElem?_getD, h]
      refine ⟨fun hiv => ?_, fun hiv => ?_⟩
      · refine ⟨⟨by omega, by simp [-Bool.exists_bool, -Int.not_le, -Int.not_lt, -getElem?_pos, -List.getD_eq_getElem?_getD, maxLen]; omega⟩, i + 1, h, by omega, ?_⟩
        rw [hn, if_pos (by omega)] at ht
        rw [wr (by omega) (by omega)]
        refine Le.told [((3, 0), (14, 0))] ?_ ?_ ?_ <;> simp [-Bool.exists_bool, -Int.not_le, -Int.not_lt, -getElem?_pos, -List.getD_eq_getElem?_getD, ht, ← List.map_take, hiv]
      · refine ⟨⟨by omega, by simp [-Bool.exists_bool, -Int.not_le, -Int.not_lt, -getElem?_pos, -List.getD_eq_getElem?_getD, maxLen]; omega⟩, by kernel_rfl, i + 1, h, by omega, ?_⟩
        rw [hn, if_neg (by omega)] at ht
        rw [wr (by omega) (by omega), wr (by omega) (by omega)]
        refine Le.told [((3, 0), (22, 0))] ?_ ?_ ?_ <;> simp [-Bool.exists_bool, -Int.not_le, -Int.not_lt, -getElem?_pos, -List.getD_eq_getElem?_getD, ht, ← List.map_take]
    · obtain rfl : i = a.1.length := by omega
      refine ⟨⟨tl [(1, I v'), (3, .ptr (0, 0) 0), (5, .ptr (1, 0) 0), (6, .ptr (2, 0) 0), (8, .ref (3, 0) a.1.length), (9, I a.1.length)], hl [((0, 0), .box (aV a)), ((1, 0), .box [I n, I d]), ((2, 0), .box [.nil, I 0, B false]), ((3, 0), .fz a.1.length ((fixI a.1 v' d).map (.int .i64)))], 4⟩, ?_, ?_⟩
      · refine Le.told [] ?_ ?_ ?_ <;> simp [-Bool.exists_bool, -Int.not_le, -Int.not_lt, -getElem?_pos, -List.getD_eq_getElem?_getD]
        rw [List.take_of_length_le (by simp [-Bool.exists_bool, -Int.not_le, -Int.not_lt, -getElem?_pos, -List.getD_eq_getElem?_getD, fixI_len])]
      simp -implicitDefEqProofs -dsimp +contextual [-Bool.exists_bool, -Int.not_le, -Int.not_lt, -getElem?_pos, -List.getD_eq_getElem?_getD, hv']
      have hb1 := mul_bd p.2.1 (by omega : -400000000 ≤ d ∧ d ≤ 400000000)
      have hb2 := mul_bd (p.2.2.1 _ (nth_mem hv')) q.2.1
      have w1 : IntKind.wrap .i64 (a.2.1 * d) = a.2.1 * d := wr (by omega) (by omega)
      have w2 : IntKind.wrap .i64 (nth a.1 v' * n) = nth a.1 v' * n := wr (by omega) (by omega)
      rw [w1, w2, wr (by omega) (by omega)]
      have hL := l2Atom (fixI a.1 v' d) (a.2.1 * d + nth a.1 v' * n) a.2.2 (by rw [fixI_len]; omega) (fun y hy => ?_) ⟨by omega, by omega⟩
      · refine CallJ.pure (ks := [(3, 0)]) hL (by simp [-Bool.exists_bool, -Int.not_le, -Int.not_lt, -getElem?_pos, -List.getD_eq_getElem?_getD, fixI_len]) (by simp [-Bool.exists_bool, -Int.not_le, -Int.not_lt, -getElem?_pos, -List.getD_eq_getElem?_getD]) ?_
        simp -implicitDefEqProofs -dsimp +contextual [-Bool.exists_bool, -Int.not_le, -Int.not_lt, -getElem?_pos, -List.getD_eq_getElem?_getD, hv']
        exact RLe.pure 3 (by simp [-Bool.exists_bool, -Int.not_le, -Int.not_lt, -getElem?_pos, -List.getD_eq_getElem?_getD])
      · obtain ⟨i, hi, rfl⟩ := List.getElem_of_mem hy
        have hi' : i < a.1.length := by rwa [fixI_len] at hi
        have e := fixI_nth a.1 v' d i hi'
        rw [nth_eq hi] at e
        rw [e]
        have := mul_bd (p.2.2.1 _ (nth_mem hi')) (by omega : -400000000 ≤ d ∧ d ≤ 400000000)
        split <;> omega
def muls (l : List Int) (d : Int) (i : Nat) : List Int := (l.take i).map (· * d) ++ List.replicate (l.length - i) 0
theorem muls_len (l : List Int) (d : Int) (i : Nat) (h : i ≤ l.length) : (muls l d i).length = l.length := by simp [-Bool.exists_bool, -Int.not_le, -Int.not_lt, -getElem?_pos, -List.getD_eq_getElem?_getD, muls]; omega
theorem muls_set (l : List Int) (d : Int) (i : Nat) (h : i < l.length) : (muls l d i).set i (nth l i * d) = muls l d (i + 1) := by
  have e : l.length - i = (l.length - (i + 1)) + 1 := by omega
  unfold muls
  rw [e, List.replicate_succ, nth_take h, List.set_append_right _ _ (by simp [-Bool.exists_bool, -Int.not_le, -Int.not_lt, -getElem?_pos, -List.getD_eq_getElem?_getD]; omega)]
  simp [-Bool.exists_bool, -Int.not_le, -Int.not_lt, -getElem?_pos, -List.getD_eq_getElem?_getD, Nat.min_eq_left (Nat.le_of_lt h)]
theorem iFixVariable (a : At) (v n d : Int) (h20 : a.1.length ≤ 1048576) : Cn Tryz.prog 61 [A1 a, I v, Ra n d] (A2 (fixA a v n d)) hemp := by
  refine Cn.of [0] mixed Tryz.func61 rfl Tryz.call61 (by kernel_rfl) rfl ?_
  simp -implicitDefEqProofs -dsimp +contextual [-Bool.exists_bool, -Int.not_le, -Int.not_lt, -getElem?_pos, -List.getD_eq_getElem?_getD, Tryz.f61]
  have no : ∀ {H : Store}, ¬ (isAt a.1 a.2.1 = true ∧ isRat n d = true ∧ 0 ≤ v ∧ v < a.1.length) → RLe Tryz.prog H (V.tup [V.agg [V.nil, V.d (D.int IntKind.i64 0), V.d (D.bool false)], V.d (D.bool false)]) (A2 (fixA a v n d)) hemp := fun h => by
    rw [fixA, if_neg h]
    exact RLe.pure 3 (by simp [-Bool.exists_bool, -Int.not_le, -Int.not_lt, -getElem?_pos, -List.getD_eq_getElem?_getD, noAt])
  refine CallJ.pure (iIsAtom a) rfl (by simp [-Bool.exists_bool, -Int.not_le, -Int.not_lt, -getElem?_pos, -List.getD_eq_getElem?_getD]) ?_
  simp -implicitDefEqProofs -dsimp +contextual [-Bool.exists_bool, -Int.not_le, -Int.not_lt, -getElem?_pos, -List.getD_eq_getElem?_getD]
  refine ⟨fun h1 => ?_, fun h1 => no (by simp [-Bool.exists_bool, -Int.not_le, -Int.not_lt, -getElem?_pos, -List.getD_eq_getElem?_getD, h1])⟩
  refine CallJ.pure (iIsRatio n d) rfl (by simp [-Bool.exists_bool, -Int.not_le, -Int.not_lt, -getElem?_pos, -List.getD_eq_getElem?_getD]) ?_
  simp -implicitDefEqProofs -dsimp +contextual [-Bool.exists_bool, -Int.not_le, -Int.not_lt, -getElem?_pos, -List.getD_eq_getElem?_getD, h1]
  refine ⟨fun h2 => ?_, fun h2 => no (by simp [-Bool.exists_bool, -Int.not_le, -Int.not_lt, -getElem?_pos, -List.getD_eq_getElem?_getD, h2])⟩
  have p := isAt_iff.1 h1
  have q := isRat_iff.1 h2
  have hlen : a.1.length ≤ 4 := p.1
  refine ⟨fun h3 => no (by omega), fun h3 => ⟨fun h4 => no (by omega), fun h4 => ?_⟩⟩
  have hv : 0 ≤ v ∧ v < a.1.length := by omega
  rw [fixA, if_pos ⟨h1, h2, hv⟩]
  obtain ⟨v', rfl⟩ : ∃ v' : Nat, v = v' := ⟨v.toNat, by omega⟩
  simp only [Int.toNat_natCast]
  have hv' : v' < a.1.length := by omega
  refine ⟨⟨by omega, by simp [-Bool.exists_bool, -Int.not_le, -Int.not_lt, -getElem?_pos, -List.getD_eq_getElem?_getD, maxLen]; omega⟩, ?_⟩
  refine WP.loop mixed [0] (fun i : Nat => ⟨tl [(1, I v'), (3, .ptr (0, 0) 0), (5, .ptr (1, 0) 0), (6, .ptr (2, 0) 0), (8, .ref (3, 0) a.1.length), (35, I a.1.length), (36, I i)], hl [((0, 0), .box (aV a)), ((1, 0), .box [I n, I d]), ((2, 0), .box [.nil, I 0, B false]), ((3, 0), .row 3 a.1.length (dl ((muls a.1 d i).map (.int .i64))))], 4⟩) (fun i => i ≤ a.1.length) (fun i => a.1.length - i) 0 (by kernel_rfl) ?_ ?_ ?_
  · refine Le.told [((3, 0), (26, 0))] ?_ ?_ ?_ <;> simp [-Bool.exists_bool, -Int.not_le, -Int.not_lt, -getElem?_pos, -List.getD_eq_getElem?_getD, setH, muls]
  · simp [-Bool.exists_bool, -Int.not_le, -Int.not_lt, -getElem?_pos, -List.getD_eq_getElem?_getD]
  · intro i hi
    by_cases h : i < a.1.length
    · have hb := mul_bd (p.2.2.1 _ (nth_mem h)) (by omega : -400000000 ≤ d ∧ d ≤ 400000000)
      have hl1 : i + 1 ≤ (muls a.1 d i).length := by rw [muls_len _ _ _ hi]; exact h
      simp -implicitDefEqProofs -dsimp +contextual [-Bool.exists_bool, -Int.not_le, -Int.not_lt, -getElem?_pos, -List.getD_eq_getElem?_getD, h, hl1]
      refine ⟨Quiet.of [] (by kernel_rfl) (by simp [-Bool.exists_bool, -Int.not_le, -Int.not_lt, -getElem?_pos, -List.getD_eq_getElem?_getD, allP]), i + 1, h, by omega, ?_⟩
      rw [wr (by omega) (by omega), wr (by omega) (by omega)]
      refine Le.told [] ?_ ?_ ?_ <;> simp [-Bool.exists_bool, -Int.not_le, -Int.not_lt, -getElem?_pos, -List.getD_eq_getElem?_getD]
      rw [← muls_set a.1 d i h, List.map_set, List.set_eq_take_append_cons_drop, if_pos (by rw [List.length_map]; exact hl1)]
    · obtain rfl : i = a.1.length := by omega
      have hm : muls a.1 d a.1.length = a.1.map (· * d) := by simp [-Bool.exists_bool, -Int.not_le, -Int.not_lt, -getElem?_pos, -List.getD_eq_getElem?_getD, muls]
      have hl2 : v' + 1 ≤ a.1.length := hv'
      rw [hm]
      simp -implicitDefEqProofs -dsimp +contextual [-Bool.exists_bool, -Int.not_le, -Int.not_lt, -getElem?_pos, -List.getD_eq_getElem?_getD, hv', hl2]
      have hx : (a.1.map (D.int IntKind.i64 ∘ fun x => x * d)).take v' ++ D.int IntKind.i64 0 :: (a.1.map (D.int IntKind.i64 ∘ fun x => x * d)).drop (v' + 1) = (fixI a.1 v' d).map (.int .i64) := by
        rw [fixI, List.map_set, List.set_eq_take_append_cons_drop, if_pos (by simpa [-Bool.exists_bool, -Int.not_le, -Int.not_lt, -getElem?_pos, -List.getD_eq_getElem?_getD] using hv'), List.map_map]
      have hb1 := mul_bd p.2.1 (by omega : -400000000 ≤ d ∧ d ≤ 400000000)
      have hb2 := mul_bd (p.2.2.1 _ (nth_mem hv')) q.2.1
      have w1 : IntKind.wrap .i64 (a.2.1 * d) = a.2.1 * d := wr (by omega) (by omega)
      have w2 : IntKind.wrap .i64 (nth a.1 v' * n) = nth a.1 v' * n := wr (by omega) (by omega)
      rw [hx, w1, w2, wr (by omega) (by omega)]
      have hL := iMakeOf (fixI a.1 v' d) (a.2.1 * d + nth a.1 v' * n) a.2.2 (by rw [fixI_len]; omega) (fun y hy => ?_) ⟨by omega, by omega⟩
      · refine CallJ.frz (t := 3) (n := a.1.length) (c := dl ((fixI a.1 v' d).map (.int .i64))) (c' := (fixI a.1 v' d).map (.int .i64)) (3, 0) hL (by simp [-Bool.exists_bool, -Int.not_le, -Int.not_lt, -getElem?_pos, -List.getD_eq_getElem?_getD]) (dl_asDs _) (ks := [(3, 0)]) (by simp [-Bool.exists_bool, -Int.not_le, -Int.not_lt, -getElem?_pos, -List.getD_eq_getElem?_getD, setH, fixI_len]) (by simp [-Bool.exists_bool, -Int.not_le, -Int.not_lt, -getElem?_pos, -List.getD_eq_getElem?_getD]) ?_
        simp -implicitDefEqProofs -dsimp +contextual [-Bool.exists_bool, -Int.not_le, -Int.not_lt, -getElem?_pos, -List.getD_eq_getElem?_getD, hv']
        refine ⟨Quiet.of [] (by kernel_rfl) (by simp [-Bool.exists_bool, -Int.not_le, -Int.not_lt, -getElem?_pos, -List.getD_eq_getElem?_getD, allP]), ?_⟩
        exact ⟨Quiet.of [] (by kernel_rfl) (by simp [-Bool.exists_bool, -Int.not_le, -Int.not_lt, -getElem?_pos, -List.getD_eq_getElem?_getD, allP]), RLe.pure 3 (by simp [-Bool.exists_bool, -Int.not_le, -Int.not_lt, -getElem?_pos, -List.getD_eq_getElem?_getD])⟩
      · obtain ⟨i, hi, rfl⟩ := List.getElem_of_mem hy
        have hi' : i < a.1.length := by rwa [fixI_len] at hi
        have e := fixI_nth a.1 v' d i hi'
        rw [nth_eq hi] at e
        rw [e]
        have := mul_bd (p.2.2.1 _ (nth_mem hi')) (by omega : -400000000 ≤ d ∧ d ≤ 400000000)
        split <;> constructor <;> omega
end Go.Proofs.YtjknjekemolndaaGreat.ZL
namespace Go.Proofs.YtjknjekemolndaaGreat.ZL
open Go Go.Proofs.YtjknjekemolndaaGreat.Abs Go.Proofs.YtjknjekemolndaaGreat.Abs.Pl Go.RowKit Go.Proofs
set_option linter.unusedVariables false
set_option linter.unusedSimpArgs false
def mkR (n d : Int) : Int × Int := if d = 0 then (0, 0) else if isRat ((if d < 0 then -n else n).tdiv (Int.gcd n d)) ((if d < 0 then -d else d).tdiv (Int.gcd n d)) = true then ((if d < 0 then -n else n).tdiv (Int.gcd n d), (if d < 0 then -d else d).tdiv (Int.gcd n d)) else (0, 0)
theorem tdiv_bd {x : Int} {g : Nat} (h : bd63 x) : bd63 (x.tdiv g) := by
  obtain ⟨h1, h2⟩ := h
  have h3 : (x.tdiv g).natAbs ≤ x.natAbs := by
    rw [Int.natAbs_tdiv]
    exact Nat.div_le_self _ _
  constructor <;> omega
theorem iReduced (n d : Int) (hn : bd63 n) (hd : bd63 d) : Cn Tryz.prog 125 [I n, I d] (Ra (mkR n d).1 (mkR n d).2) hemp := by
  refine Cn.of [] mixed Tryz.func125 rfl Tryz.call125 (by kernel_rfl) rfl ?_
  simp -implicitDefEqProofs -dsimp +contextual [-Bool.exists_bool, -Int.not_le, -Int.not_lt, -getElem?_pos, -List.getD_eq_getElem?_getD, Tryz.f125]
  obtain ⟨n1, n2⟩ := hn
  obtain ⟨d1, d2⟩ := hd
  refine ⟨fun h0 => RLe.pure 2 (by simp [-Bool.exists_bool, -Int.not_le, -Int.not_lt, -getElem?_pos, -List.getD_eq_getElem?_getD, mkR, h0]), fun h0 => ?_⟩
  have hg : (Int.gcd n d : Int) ≠ 0 := by
    intro h
    have := Int.gcd_eq_zero_iff.1 (Int.ofNat_eq_zero.1 h)
    exact h0 this.2
  refine ⟨fun hneg => ?_, fun hneg => ?_⟩
  · rw [wr (by omega) (by omega), wr (by omega) (by omega)]
    refine CallJ.pure (iCommonDivisor (-n) (-d) ⟨by omega, by omega⟩ ⟨by omega, by omega⟩) rfl (by simp [-Bool.exists_bool, -Int.not_le, -Int.not_lt, -getElem?_pos, -List.getD_eq_getElem?_getD]) ?_
    have eg : Int.gcd (-n) (-d) = Int.gcd n d := by rw [Int.gcd_neg, Int.neg_gcd]
    rw [eg]
    simp -implicitDefEqProofs -dsimp +contextual [-Bool.exists_bool, -Int.not_le, -Int.not_lt, -getElem?_pos, -List.getD_eq_getElem?_getD]
    refine ⟨fun _ => h0, ?_⟩
    have b1 := tdiv_bd (g := Int.gcd n d) (x := n) ⟨by omega, by omega⟩
    have b2 := tdiv_bd (g := Int.gcd n d) (x := d) ⟨by omega, by omega⟩
    rw [wr (by have := b1.2; omega) (by have := b1.1; omega), wr (by have := b2.2; omega) (by have := b2.1; omega)]
    have em : mkR n d = if isRat (-(n.tdiv (Int.gcd n d))) (-(d.tdiv (Int.gcd n d))) = true then (-(n.tdiv (Int.gcd n d)), -(d.tdiv (Int.gcd n d))) else (0, 0) := by rw [mkR, if_neg h0]; simp only [hneg, if_true, Int.neg_tdiv]
    rw [em]
    refine CallJ.pure (iIsRatio _ _) rfl (by simp [-Bool.exists_bool, -Int.not_le, -Int.not_lt, -getElem?_pos, -List.getD_eq_getElem?_getD]) ?_
    generalize isRat (-(n.tdiv (Int.gcd n d))) (-(d.tdiv (Int.gcd n d))) = q
    cases q
    · simp -implicitDefEqProofs -dsimp +contextual [-Bool.exists_bool, -Int.not_le, -Int.not_lt, -getElem?_pos, -List.getD_eq_getElem?_getD]
      exact RLe.pure 2 (by simp [-Bool.exists_bool, -Int.not_le, -Int.not_lt, -getElem?_pos, -List.getD_eq_getElem?_getD])
    · simp -implicitDefEqProofs -dsimp +contextual [-Bool.exists_bool, -Int.not_le, -Int.not_lt, -getElem?_pos, -List.getD_eq_getElem?_getD]
      exact RLe.pure 2 (by simp [-Bool.exists_bool, -Int.not_le, -Int.not_lt, -getElem?_pos, -List.getD_eq_getElem?_getD])
  · refine CallJ.pure (iCommonDivisor n d ⟨by omega, by omega⟩ ⟨by omega, by omega⟩) rfl (by simp [-Bool.exists_bool, -Int.not_le, -Int.not_lt, -getElem?_pos, -List.getD_eq_getElem?_getD]) ?_
    simp -implicitDefEqProofs -dsimp +contextual [-Bool.exists_bool, -Int.not_le, -Int.not_lt, -getElem?_pos, -List.getD_eq_getElem?_getD]
    refine ⟨fun _ => h0, ?_⟩
    have b1 := tdiv_bd (g := Int.gcd n d) (x := n) ⟨by omega, by omega⟩
    have b2 := tdiv_bd (g := Int.gcd n d) (x := d) ⟨by omega, by omega⟩
    rw [wr (by have := b1.1; omega) (by have := b1.2; omega), wr (by have := b2.1; omega) (by have := b2.2; omega)]
    have em : mkR n d = if isRat (n.tdiv (Int.gcd n d)) (d.tdiv (Int.gcd n d)) = true then (n.tdiv (Int.gcd n d), d.tdiv (Int.gcd n d)) else (0, 0) := by rw [mkR, if_neg h0]; simp only [hneg, if_true, if_false]
    rw [em]
    refine CallJ.pure (iIsRatio _ _) rfl (by simp [-Bool.exists_bool, -Int.not_le, -Int.not_lt, -getElem?_pos, -List.getD_eq_getElem?_getD]) ?_
    generalize isRat (n.tdiv (Int.gcd n d)) (d.tdiv (Int.gcd n d)) = q
    cases q
    · simp -implicitDefEqProofs -dsimp +contextual [-Bool.exists_bool, -Int.not_le, -Int.not_lt, -getElem?_pos, -List.getD_eq_getElem?_getD]
      exact RLe.pure 2 (by simp [-Bool.exists_bool, -Int.not_le, -Int.not_lt, -getElem?_pos, -List.getD_eq_getElem?_getD])
    · simp -implicitDefEqProofs -dsimp +contextual [-Bool.exists_bool, -Int.not_le, -Int.not_lt, -getElem?_pos, -List.getD_eq_getElem?_getD]
      exact RLe.pure 2 (by simp [-Bool.exists_bool, -Int.not_le, -Int.not_lt, -getElem?_pos, -List.getD_eq_getElem?_getD])
def cmpR (a b : Int × Int) : Int := if isRat a.1 a.2 = true ∧ isRat b.1 b.2 = true then (if a.1 * b.2 < b.1 * a.2 then -1 else if b.1 * a.2 < a.1 * b.2 then 1 else 0) else 2
theorem rat_mul {n d n' d' : Int} (h : isRat n d = true) (h' : isRat n' d' = true) : -160000000000000000 ≤ n * d' ∧ n * d' ≤ 160000000000000000 := by
  have q := isRat_iff.1 h
  have q' := isRat_iff.1 h'
  exact mul_bd (isNum_iff.2 ⟨by omega, by omega⟩) ⟨by omega, by omega⟩
theorem iCompareRatios (a b : Int × Int) : Cn Tryz.prog 35 [Ra a.1 a.2, Ra b.1 b.2] (I (cmpR a b)) hemp := by
  refine Cn.of [] mixed Tryz.func35 rfl Tryz.call35 (by kernel_rfl) rfl ?_
  simp -implicitDefEqProofs -dsimp +contextual [-Bool.exists_bool, -Int.not_le, -Int.not_lt, -getElem?_pos, -List.getD_eq_getElem?_getD, Tryz.f35]
  refine CallJ.pure (iIsRatio a.1 a.2) rfl (by simp [-Bool.exists_bool, -Int.not_le, -Int.not_lt, -getElem?_pos, -List.getD_eq_getElem?_getD]) ?_
  simp -implicitDefEqProofs -dsimp +contextual [-Bool.exists_bool, -Int.not_le, -Int.not_lt, -getElem?_pos, -List.getD_eq_getElem?_getD]
  refine ⟨fun h1 => ?_, fun h1 => RLe.pure 1 (by simp [-Bool.exists_bool, -Int.not_le, -Int.not_lt, -getElem?_pos, -List.getD_eq_getElem?_getD, cmpR, h1])⟩
  refine CallJ.pure (iIsRatio b.1 b.2) rfl (by simp [-Bool.exists_bool, -Int.not_le, -Int.not_lt, -getElem?_pos, -List.getD_eq_getElem?_getD]) ?_
  simp -implicitDefEqProofs -dsimp +contextual [-Bool.exists_bool, -Int.not_le, -Int.not_lt, -getElem?_pos, -List.getD_eq_getElem?_getD, h1]
  refine ⟨fun h2 => ?_, fun h2 => RLe.pure 1 (by simp [-Bool.exists_bool, -Int.not_le, -Int.not_lt, -getElem?_pos, -List.getD_eq_getElem?_getD, cmpR, h1, h2])⟩
  have m1 := rat_mul h1 h2
  have m2 := rat_mul h2 h1
  rw [wr (by omega) (by omega), wr (by omega) (by omega)]
  have e : cmpR a b = if a.1 * b.2 < b.1 * a.2 then -1 else if b.1 * a.2 < a.1 * b.2 then 1 else 0 := by rw [cmpR, if_pos ⟨h1, h2⟩]
  rw [e]
  exact ⟨fun h => RLe.ii (by simp [-Bool.exists_bool, -Int.not_le, -Int.not_lt, -getElem?_pos, -List.getD_eq_getElem?_getD, h]), fun h => ⟨fun h' => RLe.ii (by simp [-Bool.exists_bool, -Int.not_le, -Int.not_lt, -getElem?_pos, -List.getD_eq_getElem?_getD, h, h']), fun h' => RLe.ii (by simp [-Bool.exists_bool, -Int.not_le, -Int.not_lt, -getElem?_pos, -List.getD_eq_getElem?_getD, h, h'])⟩⟩
theorem l1Less (a b : Int × Int) (ha : isRat a.1 a.2 = true) (hb : isRat b.1 b.2 = true) : Cn Tryz.prog 131 [Ra a.1 a.2, Ra b.1 b.2] (B (decide (a.1 * b.2 < b.1 * a.2))) hemp := by
  refine Cn.of [] mixed Tryz.func131 rfl Tryz.call131 (by kernel_rfl) rfl ?_
  simp -implicitDefEqProofs -dsimp +contextual [-Bool.exists_bool, -Int.not_le, -Int.not_lt, -getElem?_pos, -List.getD_eq_getElem?_getD, Tryz.f131]
  have m1 := rat_mul ha hb
  have m2 := rat_mul hb ha
  rw [wr (by omega) (by omega), wr (by omega) (by omega)]
  exact RLe.bb rfl
theorem l2Make (n d : Int) (hn : -1000000000000000000 ≤ n ∧ n ≤ 1000000000000000000) (hd : -1000000000000000000 ≤ d ∧ d ≤ 1000000000000000000) : Cn Tryz.prog 148 [I n, I d] (Ra (mkR n d).1 (mkR n d).2) hemp := by
  refine Cn.of [] mixed Tryz.func148 rfl Tryz.call148 (by kernel_rfl) rfl ?_
  simp -implicitDefEqProofs -dsimp +contextual [-Bool.exists_bool, -Int.not_le, -Int.not_lt, -getElem?_pos, -List.getD_eq_getElem?_getD, Tryz.f148]
  refine ⟨fun h0 => RLe.pure 2 (by simp [-Bool.exists_bool, -Int.not_le, -Int.not_lt, -getElem?_pos, -List.getD_eq_getElem?_getD, mkR, h0]), fun h0 => ?_⟩
  have hg : (Int.gcd n d : Int) ≠ 0 := by
    intro h
    have := Int.gcd_eq_zero_iff.1 (Int.ofNat_eq_zero.1 h)
    exact h0 this.2
  refine ⟨fun hneg => ?_, fun hneg => ?_⟩
  · rw [wr (by omega) (by omega), wr (by omega) (by omega)]
    refine WP.loop mixed [] (fun p : Int × Int => ⟨tl [(0, I (-n)), (1, I (-d)), (4, .ptr (0, 0) 0), (5, I p.1), (6, I p.2)], hl [((0, 0), .box [I 0, I 0])], 1⟩) (fun p => (-1000000000000000000 ≤ p.1 ∧ p.1 ≤ 1000000000000000000) ∧ (-1000000000000000000 ≤ p.2 ∧ p.2 ≤ 1000000000000000000) ∧ Int.gcd p.1 p.2 = Int.gcd n d) (fun p => p.2.natAbs) (-n, -d) (by kernel_rfl) ?_ ?_ ?_
    · refine Le.told [] ?_ ?_ ?_ <;> simp [-Bool.exists_bool, -Int.not_le, -Int.not_lt, -getElem?_pos, -List.getD_eq_getElem?_getD, setH]
    · exact ⟨⟨by simp only; omega, by simp only; omega⟩, ⟨by simp only; omega, by simp only; omega⟩, by simp [-Bool.exists_bool, -Int.not_le, -Int.not_lt, -getElem?_pos, -List.getD_eq_getElem?_getD]⟩
    · rintro ⟨x, y⟩ ⟨hx, hy, he⟩
      simp only at hx hy he
      simp -implicitDefEqProofs -dsimp +contextual [-Bool.exists_bool, -Int.not_le, -Int.not_lt, -getElem?_pos, -List.getD_eq_getElem?_getD]
      refine ⟨?_, ?_⟩
      · rintro rfl
        refine CallJ.pure (l1Abs x (by omega) (by omega)) rfl (by simp [-Bool.exists_bool, -Int.not_le, -Int.not_lt, -getElem?_pos, -List.getD_eq_getElem?_getD]) ?_
        have ex : (x.natAbs : Int) = Int.gcd n d := by rw [← he]; simp [-Bool.exists_bool, -Int.not_le, -Int.not_lt, -getElem?_pos, -List.getD_eq_getElem?_getD]
        simp -implicitDefEqProofs -dsimp +contextual [-Bool.exists_bool, -Int.not_le, -Int.not_lt, -getElem?_pos, -List.getD_eq_getElem?_getD]
        rw [ex]
        refine ⟨fun hx0 => hg (by rw [← ex, hx0]; rfl), ?_⟩
        have b1 := tdiv_bd (g := Int.gcd n d) (x := n) ⟨by omega, by omega⟩
        have b2 := tdiv_bd (g := Int.gcd n d) (x := d) ⟨by omega, by omega⟩
        rw [wr (by have := b1.2; omega) (by have := b1.1; omega), wr (by have := b2.2; omega) (by have := b2.1; omega)]
        have em : mkR n d = if isRat (-(n.tdiv (Int.gcd n d))) (-(d.tdiv (Int.gcd n d))) = true then (-(n.tdiv (Int.gcd n d)), -(d.tdiv (Int.gcd n d))) else (0, 0) := by rw [mkR, if_neg h0]; simp only [hneg, if_true, if_false, Int.neg_tdiv]
        rw [em]
        refine CallJ.pure (IsRatio _ _) rfl (by simp [-Bool.exists_bool, -Int.not_le, -Int.not_lt, -getElem?_pos, -List.getD_eq_getElem?_getD]) ?_
        generalize isRat (-(n.tdiv (Int.gcd n d))) (-(d.tdiv (Int.gcd n d))) = q
        cases q
        · simp -implicitDefEqProofs -dsimp +contextual [-Bool.exists_bool, -Int.not_le, -Int.not_lt, -getElem?_pos, -List.getD_eq_getElem?_getD]
          exact RLe.pure 2 (by simp [-Bool.exists_bool, -Int.not_le, -Int.not_lt, -getElem?_pos, -List.getD_eq_getElem?_getD])
        · simp -implicitDefEqProofs -dsimp +contextual [-Bool.exists_bool, -Int.not_le, -Int.not_lt, -getElem?_pos, -List.getD_eq_getElem?_getD]
          exact RLe.pure 2 (by simp [-Bool.exists_bool, -Int.not_le, -Int.not_lt, -getElem?_pos, -List.getD_eq_getElem?_getD])
      · intro h
        have ht := tmod_lt (a := x) h
        refine ⟨y, x.tmod y, ⟨by omega, by omega, ?_⟩, ht, ?_⟩
        · rw [← he]
          unfold Int.gcd
          rw [Int.natAbs_tmod, Nat.gcd_comm y.natAbs, ← Nat.gcd_rec, Nat.gcd_comm]
        · refine Le.told [] ?_ ?_ ?_ <;> simp [-Bool.exists_bool, -Int.not_le, -Int.not_lt, -getElem?_pos, -List.getD_eq_getElem?_getD]
  · skip
    refine WP.loop mixed [] (fun p : Int × Int => ⟨tl [(0, I n), (1, I d), (4, .ptr (0, 0) 0), (5, I p.1), (6, I p.2)], hl [((0, 0), .box [I 0, I 0])], 1⟩) (fun p => (-1000000000000000000 ≤ p.1 ∧ p.1 ≤ 1000000000000000000) ∧ (-1000000000000000000 ≤ p.2 ∧ p.2 ≤ 1000000000000000000) ∧ Int.gcd p.1 p.2 = Int.gcd n d) (fun p => p.2.natAbs) (n, d) (by kernel_rfl) ?_ ?_ ?_
    · refine Le.told [] ?_ ?_ ?_ <;> simp [-Bool.exists_bool, -Int.not_le, -Int.not_lt, -getElem?_pos, -List.getD_eq_getElem?_getD, setH]
    · exact ⟨⟨by simp only; omega, by simp only; omega⟩, ⟨by simp only; omega, by simp only; omega⟩, by simp [-Bool.exists_bool, -Int.not_le, -Int.not_lt, -getElem?_pos, -List.getD_eq_getElem?_getD]⟩
    · rintro ⟨x, y⟩ ⟨hx, hy, he⟩
      simp only at hx hy he
      simp -implicitDefEqProofs -dsimp +contextual [-Bool.exists_bool, -Int.not_le, -Int.not_lt, -getElem?_pos, -List.getD_eq_getElem?_getD]
      refine ⟨?_, ?_⟩
      · rintro rfl
        refine CallJ.pure (l1Abs x (by omega) (by omega)) rfl (by simp [-Bool.exists_bool, -Int.not_le, -Int.not_lt, -getElem?_pos, -List.getD_eq_getElem?_getD]) ?_
        have ex : (x.natAbs : Int) = Int.gcd n d := by rw [← he]; simp [-Bool.exists_bool, -Int.not_le, -Int.not_lt, -getElem?_pos, -List.getD_eq_getElem?_getD]
        simp -implicitDefEqProofs -dsimp +contextual [-Bool.exists_bool, -Int.not_le, -Int.not_lt, -getElem?_pos, -List.getD_eq_getElem?_getD]
        rw [ex]
        refine ⟨fun hx0 => hg (by rw [← ex, hx0]; rfl), ?_⟩
        have b1 := tdiv_bd (g := Int.gcd n d) (x := n) ⟨by omega, by omega⟩
        have b2 := tdiv_bd (g := Int.gcd n d) (x := d) ⟨by omega, by omega⟩
        rw [wr (by have := b1.1; omega) (by have := b1.2; omega), wr (by have := b2.1; omega) (by have := b2.2; omega)]
        have em : mkR n d = if isRat (n.tdiv (Int.gcd n d)) (d.tdiv (Int.gcd n d)) = true then (n.tdiv (Int.gcd n d), d.tdiv (Int.gcd n d)) else (0, 0) := by rw [mkR, if_neg h0]; simp only [hneg, if_true, if_false, Int.neg_tdiv]
        rw [em]
        refine CallJ.pure (IsRatio _ _) rfl (by simp [-Bool.exists_bool, -Int.not_le, -Int.not_lt, -getElem?_pos, -List.getD_eq_getElem?_getD]) ?_
        generalize isRat (n.tdiv (Int.gcd n d)) (d.tdiv (Int.gcd n d)) = q
        cases q
        · simp -implicitDefEqProofs -dsimp +contextual [-Bool.exists_bool, -Int.not_le, -Int.not_lt, -getElem?_pos, -List.getD_eq_getElem?_getD]
          exact RLe.pure 2 (by simp [-Bool.exists_bool, -Int.not_le, -Int.not_lt, -getElem?_pos, -List.getD_eq_getElem?_getD])
        · simp -implicitDefEqProofs -dsimp +contextual [-Bool.exists_bool, -Int.not_le, -Int.not_lt, -getElem?_pos, -List.getD_eq_getElem?_getD]
          exact RLe.pure 2 (by simp [-Bool.exists_bool, -Int.not_le, -Int.not_lt, -getElem?_pos, -List.getD_eq_getElem?_getD])
      · intro h
        have ht := tmod_lt (a := x) h
        refine ⟨y, x.tmod y, ⟨by omega, by omega, ?_⟩, ht, ?_⟩
        · rw [← he]
          unfold Int.gcd
          rw [Int.natAbs_tmod, Nat.gcd_comm y.natAbs, ← Nat.gcd_rec, Nat.gcd_comm]
        · refine Le.told [] ?_ ?_ ?_ <;> simp [-Bool.exists_bool, -Int.not_le, -Int.not_lt, -getElem?_pos, -List.getD_eq_getElem?_getD]
theorem MakeRatio (n d : Int) (hn : isNum n = true) (hd : isNum d = true) : Cn Tryz.prog 102 [I n, I d] (Ra (mkR n d).1 (mkR n d).2) hemp := by
  refine Cn.of [] mixed Tryz.func102 rfl Tryz.call102 (by kernel_rfl) rfl ?_
  simp -implicitDefEqProofs -dsimp +contextual [-Bool.exists_bool, -Int.not_le, -Int.not_lt, -getElem?_pos, -List.getD_eq_getElem?_getD, Tryz.f102]
  refine CallJ.pure (IsNumber n) rfl (by simp [-Bool.exists_bool, -Int.not_le, -Int.not_lt, -getElem?_pos, -List.getD_eq_getElem?_getD]) ?_
  simp -implicitDefEqProofs -dsimp +contextual [-Bool.exists_bool, -Int.not_le, -Int.not_lt, -getElem?_pos, -List.getD_eq_getElem?_getD, hn]
  refine CallJ.pure (IsNumber d) rfl (by simp [-Bool.exists_bool, -Int.not_le, -Int.not_lt, -getElem?_pos, -List.getD_eq_getElem?_getD]) ?_
  simp -implicitDefEqProofs -dsimp +contextual [-Bool.exists_bool, -Int.not_le, -Int.not_lt, -getElem?_pos, -List.getD_eq_getElem?_getD, hn, hd]
  refine CallJ.pure (l2Make n d (by have := isNum_iff.1 hn; omega) (by have := isNum_iff.1 hd; omega)) rfl (by simp [-Bool.exists_bool, -Int.not_le, -Int.not_lt, -getElem?_pos, -List.getD_eq_getElem?_getD]) ?_
  simp -implicitDefEqProofs -dsimp +contextual [-Bool.exists_bool, -Int.not_le, -Int.not_lt, -getElem?_pos, -List.getD_eq_getElem?_getD, hn, hd]
  exact RLe.pure 2 (by simp [-Bool.exists_bool, -Int.not_le, -Int.not_lt, -getElem?_pos, -List.getD_eq_getElem?_getD])
theorem mkR_rat {n d : Int} (hn : isNum n = true) (hd : isNum d = true) (h0 : d ≠ 0) : isRat (mkR n d).1 (mkR n d).2 = true := by
  have hn := isNum_iff.1 hn
  have hd := isNum_iff.1 hd
  have hgp : 0 < Int.gcd n d := Nat.pos_of_ne_zero fun h => h0 (Int.gcd_eq_zero_iff.1 h).2
  have key : ∀ n' d' : Int, n'.natAbs = n.natAbs → d'.natAbs = d.natAbs → 0 < d' → isRat (n'.tdiv (Int.gcd n d)) (d'.tdiv (Int.gcd n d)) = true := fun n' d' h1 h2 h3 => by
    rw [isRat_iff]
    have e1 : (n'.tdiv (Int.gcd n d)).natAbs = n.natAbs / Int.gcd n d := by rw [Int.natAbs_tdiv, h1]; rfl
    have e2 : (d'.tdiv (Int.gcd n d)).natAbs = d.natAbs / Int.gcd n d := by rw [Int.natAbs_tdiv, h2]; rfl
    have l1 : n.natAbs / Int.gcd n d ≤ n.natAbs := Nat.div_le_self _ _
    have l2 : d.natAbs / Int.gcd n d ≤ d.natAbs := Nat.div_le_self _ _
    have hdv : Int.gcd n d ∣ d.natAbs := Nat.gcd_dvd_right _ _
    have l3 : 0 < d.natAbs / Int.gcd n d := Nat.div_pos (Nat.le_of_dvd (by omega) hdv) hgp
    have l4 : 0 ≤ d'.tdiv (Int.gcd n d) := Int.tdiv_nonneg (by omega) (by omega)
    refine ⟨by omega, by omega, ?_⟩
    unfold Int.gcd at e1 e2 hgp ⊢
    rw [e1, e2]
    rw [Nat.gcd_div (Nat.gcd_dvd_left _ _) (Nat.gcd_dvd_right _ _), Nat.div_self hgp]
  unfold mkR
  rw [if_neg h0]
  by_cases hneg : d < 0
  · have := key (-n) (-d) (by simp [-Bool.exists_bool, -Int.not_le, -Int.not_lt, -getElem?_pos, -List.getD_eq_getElem?_getD]) (by simp [-Bool.exists_bool, -Int.not_le, -Int.not_lt, -getElem?_pos, -List.getD_eq_getElem?_getD]) (by omega)
    simp only [hneg, if_true, this]
  · have := key n d rfl rfl (by omega)
    simp only [hneg, if_false, if_true, this]
theorem cross_eq {a b : Int × Int} (ha : isRat a.1 a.2 = true) (hb : isRat b.1 b.2 = true) (h : a.1 * b.2 = b.1 * a.2) : a = b := by
  have qa := isRat_iff.1 ha
  have qb := isRat_iff.1 hb
  have hn : a.1.natAbs * b.2.natAbs = b.1.natAbs * a.2.natAbs := by rw [← Int.natAbs_mul, h, Int.natAbs_mul]
  have c1 : Nat.Coprime a.2.natAbs a.1.natAbs := by have := qa.2.2; unfold Int.gcd at this; rw [Nat.Coprime, Nat.gcd_comm]; exact this
  have c2 : Nat.Coprime b.2.natAbs b.1.natAbs := by have := qb.2.2; unfold Int.gcd at this; rw [Nat.Coprime, Nat.gcd_comm]; exact this
  have d1 : a.2.natAbs ∣ b.2.natAbs := Nat.Coprime.dvd_of_dvd_mul_left c1 (hn ▸ Nat.dvd_mul_left _ _)
  have d2 : b.2.natAbs ∣ a.2.natAbs := Nat.Coprime.dvd_of_dvd_mul_left c2 (hn ▸ Nat.dvd_mul_left _ _)
  have e := Nat.dvd_antisymm d1 d2
  have e2 : a.2 = b.2 := by omega
  have e1 : a.1 = b.1 := by
    rw [e2] at h
    exact Int.eq_of_mul_eq_mul_right (by omega) h
  exact Prod.ext e1 e2
end Go.Proofs.YtjknjekemolndaaGreat.ZL
namespace Go.Proofs.YtjknjekemolndaaGreat.ZL
open Go Go.Proofs.YtjknjekemolndaaGreat.Abs Go.Proofs.YtjknjekemolndaaGreat.Abs.Pl Go.RowKit Go.Proofs
set_option linter.unusedVariables false
set_option linter.unusedSimpArgs false
structure Bd where
  hl : Bool
  lo : Int × Int
  lop : Bool
  hh : Bool
  hi : Int × Int
  hop : Bool
  em : Bool
def bd0 : Bd := ⟨false, (0, 0), false, false, (0, 0), false, false⟩
abbrev bdL (b : Bd) : List V := [B b.hl, I b.lo.1, I b.lo.2, B b.lop, B b.hh, I b.hi.1, I b.hi.2, B b.hop, B b.em]
abbrev bdV (b : Bd) : V := .agg (bdL b)
def ltR (a b : Int × Int) : Bool := decide (a.1 * b.2 < b.1 * a.2)
def narrow (v : Nat) (b : Bd) (a : At) : Bd :=
  if nth a.1 v = 0 then b else
  if 0 < nth a.1 v then (if b.hh = false ∨ cmpR (mkR (-a.2.1) (nth a.1 v)) b.hi < 0 ∨ (cmpR (mkR (-a.2.1) (nth a.1 v)) b.hi = 0 ∧ a.2.2 = true) then { b with hh := true, hi := mkR (-a.2.1) (nth a.1 v), hop := a.2.2 } else b)
  else (if b.hl = false ∨ 0 < cmpR (mkR (-a.2.1) (nth a.1 v)) b.lo ∨ (cmpR (mkR (-a.2.1) (nth a.1 v)) b.lo = 0 ∧ a.2.2 = true) then { b with hl := true, lo := mkR (-a.2.1) (nth a.1 v), lop := a.2.2 } else b)
def narrows (v : Nat) : Bd → List At → Bd
  | b, [] => b
  | b, a :: L => narrows v (narrow v b a) L
theorem iBoundsIn (d : Int) (L : List At) (v : Nat) (hv : (v : Int) < d) (h16 : L.length ≤ 16) (hok : allOk d L) : Cn Tryz.prog 81 [C1 d L, I v] (bdV (narrows v bd0 L)) hemp := by
  refine Cn.of [0] mixed Tryz.func81 rfl Tryz.call81 (by kernel_rfl) rfl ?_
  simp -implicitDefEqProofs -dsimp +contextual [-Bool.exists_bool, -Int.not_le, -Int.not_lt, -getElem?_pos, -List.getD_eq_getElem?_getD, Tryz.f81]
  refine WP.loop mixed [0] (fun p : Nat × Bd => ⟨tl [(1, I v), (4, .ptr (1, 0) 0), (5, .ptr (2, 0) 0), (14, As L), (15, I L.length), (16, I p.1)], hl [((1, 0), .box (bdL bd0)), ((2, 0), .box (bdL p.2))], 3⟩)
    (fun p => p.1 ≤ L.length ∧ narrows v bd0 L = narrows v p.2 (L.drop p.1)) (fun p => L.length - p.1) (0, bd0) (by kernel_rfl) ?_ ?_ ?_
  · refine Le.told [((2, 0), (3, 0))] ?_ ?_ ?_ <;> simp [-Bool.exists_bool, -Int.not_le, -Int.not_lt, -getElem?_pos, -List.getD_eq_getElem?_getD, setH, bd0]
  · exact ⟨Nat.zero_le _, rfl⟩
  · rintro ⟨i, b⟩ ⟨hi, he⟩
    simp only at hi he
    by_cases h : i < L.length
    · have ho := hok _ (nth_mem h)
      have hvl : v < (nth L i).1.length := by have := ho.2; omega
      have hnu := okA_num ho
      have hx := isNum_iff.1 (hnu.1 _ (nth_mem hvl))
      have hc := isNum_iff.1 hnu.2.1
      rw [nth_drop h, narrows] at he
      simp -implicitDefEqProofs -dsimp +contextual [-Bool.exists_bool, -Int.not_le, -Int.not_lt, -getElem?_pos, -List.getD_eq_getElem?_getD, h, hvl]
      refine ⟨fun h0 => ?_, fun h0 => ?_⟩
      · refine ⟨i + 1, b, ⟨h, by rw [he, narrow, if_pos h0]⟩, by omega, ?_⟩
        rw [wr (by omega) (by omega)]
        refine Le.told [] ?_ ?_ ?_ <;> simp [-Bool.exists_bool, -Int.not_le, -Int.not_lt, -getElem?_pos, -List.getD_eq_getElem?_getD]
      · rw [wr (by omega) (by omega)]
        refine CallJ.pure (iReduced (-(nth L i).2.1) (nth (nth L i).1 v) ⟨by omega, by omega⟩ ⟨by omega, by omega⟩) rfl (by simp [-Bool.exists_bool, -Int.not_le, -Int.not_lt, -getElem?_pos, -List.getD_eq_getElem?_getD]) ?_
        rw [narrow, if_neg h0] at he
        generalize mkR (-(nth L i).2.1) (nth (nth L i).1 v) = r at he ⊢
        simp -implicitDefEqProofs -dsimp +contextual [-Bool.exists_bool, -Int.not_le, -Int.not_lt, -getElem?_pos, -List.getD_eq_getElem?_getD, h, hvl, h0]
        refine ⟨fun hp => ?_, fun hp => ?_⟩
        · rw [if_pos hp] at he
          refine CallJ.pure (iCompareRatios r b.hi) rfl (by simp [-Bool.exists_bool, -Int.not_le, -Int.not_lt, -getElem?_pos, -List.getD_eq_getElem?_getD]) ?_
          simp -implicitDefEqProofs -dsimp +contextual [-Bool.exists_bool, -Int.not_le, -Int.not_lt, -getElem?_pos, -List.getD_eq_getElem?_getD, h, hvl, h0]
          refine ⟨fun c1 => ⟨fun c2 => ?_, fun c2 => ⟨fun c3 => ⟨fun c4 => ?_, fun c4 => ?_⟩, fun c3 => ?_⟩⟩, fun c1 => ?_⟩
          · refine ⟨Quiet.of [9, 7] (by kernel_rfl) (by simp [-Bool.exists_bool, -Int.not_le, -Int.not_lt, -getElem?_pos, -List.getD_eq_getElem?_getD, allP, offB]), Quiet.of [7] (by kernel_rfl) (by simp [-Bool.exists_bool, -Int.not_le, -Int.not_lt, -getElem?_pos, -List.getD_eq_getElem?_getD, allP, offB]), Quiet.of [] (by kernel_rfl) (by simp [-Bool.exists_bool, -Int.not_le, -Int.not_lt, -getElem?_pos, -List.getD_eq_getElem?_getD, allP, offB]), i + 1, { b with hh := true, hi := r, hop := (nth L i).2.2 }, ⟨h, by rw [he, if_pos (.inr (.inl c2))]⟩, by omega, ?_⟩
            rw [wr (by omega) (by omega)]
            refine Le.told [] ?_ ?_ ?_ <;> simp [-Bool.exists_bool, -Int.not_le, -Int.not_lt, -getElem?_pos, -List.getD_eq_getElem?_getD]
          · refine ⟨Quiet.of [9, 7] (by kernel_rfl) (by simp [-Bool.exists_bool, -Int.not_le, -Int.not_lt, -getElem?_pos, -List.getD_eq_getElem?_getD, allP, offB]), Quiet.of [7] (by kernel_rfl) (by simp [-Bool.exists_bool, -Int.not_le, -Int.not_lt, -getElem?_pos, -List.getD_eq_getElem?_getD, allP, offB]), Quiet.of [] (by kernel_rfl) (by simp [-Bool.exists_bool, -Int.not_le, -Int.not_lt, -getElem?_pos, -List.getD_eq_getElem?_getD, allP, offB]), i + 1, { b with hh := true, hi := r, hop := (nth L i).2.2 }, ⟨h, by rw [he, if_pos (.inr (.inr ⟨c3, c4⟩))]⟩, by omega, ?_⟩
            rw [wr (by omega) (by omega)]
            refine Le.told [] ?_ ?_ ?_ <;> simp [-Bool.exists_bool, -Int.not_le, -Int.not_lt, -getElem?_pos, -List.getD_eq_getElem?_getD, c4]
          · refine ⟨i + 1, b, ⟨h, by rw [he, if_neg (by simp [-Bool.exists_bool, -Int.not_le, -Int.not_lt, -getElem?_pos, -List.getD_eq_getElem?_getD, c1, c3, c4])]⟩, by omega, ?_⟩
            rw [wr (by omega) (by omega)]
            refine Le.told [] ?_ ?_ ?_ <;> simp [-Bool.exists_bool, -Int.not_le, -Int.not_lt, -getElem?_pos, -List.getD_eq_getElem?_getD]
          · refine ⟨i + 1, b, ⟨h, by rw [he, if_neg (by simp only [c1, Bool.true_eq_false, false_or, not_or]; exact ⟨c2, fun h => c3 h.1⟩)]⟩, by omega, ?_⟩
            rw [wr (by omega) (by omega)]
            refine Le.told [] ?_ ?_ ?_ <;> simp [-Bool.exists_bool, -Int.not_le, -Int.not_lt, -getElem?_pos, -List.getD_eq_getElem?_getD]
          · refine ⟨Quiet.of [9, 7] (by kernel_rfl) (by simp [-Bool.exists_bool, -Int.not_le, -Int.not_lt, -getElem?_pos, -List.getD_eq_getElem?_getD, allP, offB]), Quiet.of [7] (by kernel_rfl) (by simp [-Bool.exists_bool, -Int.not_le, -Int.not_lt, -getElem?_pos, -List.getD_eq_getElem?_getD, allP, offB]), Quiet.of [] (by kernel_rfl) (by simp [-Bool.exists_bool, -Int.not_le, -Int.not_lt, -getElem?_pos, -List.getD_eq_getElem?_getD, allP, offB]), i + 1, { b with hh := true, hi := r, hop := (nth L i).2.2 }, ⟨h, by rw [he, if_pos (.inl c1)]⟩, by omega, ?_⟩
            rw [wr (by omega) (by omega)]
            refine Le.told [] ?_ ?_ ?_ <;> simp [-Bool.exists_bool, -Int.not_le, -Int.not_lt, -getElem?_pos, -List.getD_eq_getElem?_getD]
        · rw [if_neg hp] at he
          refine CallJ.pure (iCompareRatios r b.lo) rfl (by simp [-Bool.exists_bool, -Int.not_le, -Int.not_lt, -getElem?_pos, -List.getD_eq_getElem?_getD]) ?_
          simp -implicitDefEqProofs -dsimp +contextual [-Bool.exists_bool, -Int.not_le, -Int.not_lt, -getElem?_pos, -List.getD_eq_getElem?_getD, h, hvl, h0]
          refine ⟨fun c1 => ⟨fun c2 => ?_, fun c2 => ⟨fun c3 => ⟨fun c4 => ?_, fun c4 => ?_⟩, fun c3 => ?_⟩⟩, fun c1 => ?_⟩
          · refine ⟨Quiet.of [9, 7] (by kernel_rfl) (by simp [-Bool.exists_bool, -Int.not_le, -Int.not_lt, -getElem?_pos, -List.getD_eq_getElem?_getD, allP, offB]), Quiet.of [7] (by kernel_rfl) (by simp [-Bool.exists_bool, -Int.not_le, -Int.not_lt, -getElem?_pos, -List.getD_eq_getElem?_getD, allP, offB]), Quiet.of [] (by kernel_rfl) (by simp [-Bool.exists_bool, -Int.not_le, -Int.not_lt, -getElem?_pos, -List.getD_eq_getElem?_getD, allP, offB]), i + 1, { b with hl := true, lo := r, lop := (nth L i).2.2 }, ⟨h, by rw [he, if_pos (.inr (.inl c2))]⟩, by omega, ?_⟩
            rw [wr (by omega) (by omega)]
            refine Le.told [] ?_ ?_ ?_ <;> simp [-Bool.exists_bool, -Int.not_le, -Int.not_lt, -getElem?_pos, -List.getD_eq_getElem?_getD]
          · refine ⟨Quiet.of [9, 7] (by kernel_rfl) (by simp [-Bool.exists_bool, -Int.not_le, -Int.not_lt, -getElem?_pos, -List.getD_eq_getElem?_getD, allP, offB]), Quiet.of [7] (by kernel_rfl) (by simp [-Bool.exists_bool, -Int.not_le, -Int.not_lt, -getElem?_pos, -List.getD_eq_getElem?_getD, allP, offB]), Quiet.of [] (by kernel_rfl) (by simp [-Bool.exists_bool, -Int.not_le, -Int.not_lt, -getElem?_pos, -List.getD_eq_getElem?_getD, allP, offB]), i + 1, { b with hl := true, lo := r, lop := (nth L i).2.2 }, ⟨h, by rw [he, if_pos (.inr (.inr ⟨c3, c4⟩))]⟩, by omega, ?_⟩
            rw [wr (by omega) (by omega)]
            refine Le.told [] ?_ ?_ ?_ <;> simp [-Bool.exists_bool, -Int.not_le, -Int.not_lt, -getElem?_pos, -List.getD_eq_getElem?_getD, c4]
          · refine ⟨i + 1, b, ⟨h, by rw [he, if_neg (by simp [-Bool.exists_bool, -Int.not_le, -Int.not_lt, -getElem?_pos, -List.getD_eq_getElem?_getD, c1, c3, c4])]⟩, by omega, ?_⟩
            rw [wr (by omega) (by omega)]
            refine Le.told [] ?_ ?_ ?_ <;> simp [-Bool.exists_bool, -Int.not_le, -Int.not_lt, -getElem?_pos, -List.getD_eq_getElem?_getD]
          · refine ⟨i + 1, b, ⟨h, by rw [he, if_neg (by simp only [c1, Bool.true_eq_false, false_or, not_or]; exact ⟨c2, fun h => c3 h.1⟩)]⟩, by omega, ?_⟩
            rw [wr (by omega) (by omega)]
            refine Le.told [] ?_ ?_ ?_ <;> simp [-Bool.exists_bool, -Int.not_le, -Int.not_lt, -getElem?_pos, -List.getD_eq_getElem?_getD]
          · refine ⟨Quiet.of [9, 7] (by kernel_rfl) (by simp [-Bool.exists_bool, -Int.not_le, -Int.not_lt, -getElem?_pos, -List.getD_eq_getElem?_getD, allP, offB]), Quiet.of [7] (by kernel_rfl) (by simp [-Bool.exists_bool, -Int.not_le, -Int.not_lt, -getElem?_pos, -List.getD_eq_getElem?_getD, allP, offB]), Quiet.of [] (by kernel_rfl) (by simp [-Bool.exists_bool, -Int.not_le, -Int.not_lt, -getElem?_pos, -List.getD_eq_getElem?_getD, allP, offB]), i + 1, { b with hl := true, lo := r, lop := (nth L i).2.2 }, ⟨h, by rw [he, if_pos (.inl c1)]⟩, by omega, ?_⟩
            rw [wr (by omega) (by omega)]
            refine Le.told [] ?_ ?_ ?_ <;> simp [-Bool.exists_bool, -Int.not_le, -Int.not_lt, -getElem?_pos, -List.getD_eq_getElem?_getD]
    · rw [drop_nil (by omega)] at he
      simp -implicitDefEqProofs -dsimp +contextual [-Bool.exists_bool, -Int.not_le, -Int.not_lt, -getElem?_pos, -List.getD_eq_getElem?_getD, h]
      rw [he]
      exact RLe.pure 2 (by simp [-Bool.exists_bool, -Int.not_le, -Int.not_lt, -getElem?_pos, -List.getD_eq_getElem?_getD, narrows])
end Go.Proofs.YtjknjekemolndaaGreat.ZL
namespace Go.Proofs.YtjknjekemolndaaGreat.ZL
open Go Go.Proofs.YtjknjekemolndaaGreat.Abs Go.Proofs.YtjknjekemolndaaGreat.Abs.Pl Go.RowKit Go.Proofs
set_option linter.unusedVariables false
set_option linter.unusedSimpArgs false
def emF (L : List At) : Bool := decide (L.length = 1) && (!hasV (nth L 0) && (decide ((nth L 0).2.1 = 1) && !(nth L 0).2.2))
theorem iEmptyForm (d : Int) (L : List At) (h16 : L.length ≤ 16) (hok : allOk d L) : Cn Tryz.prog 80 [C1 d L] (B (emF L)) hemp := by
  refine Cn.of [] mixed Tryz.func80 rfl Tryz.call80 (by kernel_rfl) rfl ?_
  simp -implicitDefEqProofs -dsimp +contextual [-Bool.exists_bool, -Int.not_le, -Int.not_lt, -getElem?_pos, -List.getD_eq_getElem?_getD, Tryz.f80]
  rcases L with _ | ⟨a, _ | ⟨b, R⟩⟩
  · exact ⟨fun h => absurd h (by simp [-Bool.exists_bool, -Int.not_le, -Int.not_lt, -getElem?_pos, -List.getD_eq_getElem?_getD]), fun _ => RLe.bb (by simp [-Bool.exists_bool, -Int.not_le, -Int.not_lt, -getElem?_pos, -List.getD_eq_getElem?_getD, emF])⟩
  · have ho := hok a List.mem_cons_self
    have hnu := okA_num ho
    refine ⟨fun _ => ⟨by simp [-Bool.exists_bool, -Int.not_le, -Int.not_lt, -getElem?_pos, -List.getD_eq_getElem?_getD], ?_⟩, fun h => absurd rfl h⟩
    refine CallJ.pure (ks := []) (iHasVariables a (by omega) (fun y hy => isNum_63 (hnu.1 y hy))) (by simp [-Bool.exists_bool, -Int.not_le, -Int.not_lt, -getElem?_pos, -List.getD_eq_getElem?_getD, asD, aD]) (by simp [-Bool.exists_bool, -Int.not_le, -Int.not_lt, -getElem?_pos, -List.getD_eq_getElem?_getD]) ?_
    simp -implicitDefEqProofs -dsimp +contextual [-Bool.exists_bool, -Int.not_le, -Int.not_lt, -getElem?_pos, -List.getD_eq_getElem?_getD, asD, aD]
    have e : emF [a] = (!hasV a && (decide (a.2.1 = 1) && !a.2.2)) := rfl
    exact ⟨fun h1 => RLe.bb (by simp [-Bool.exists_bool, -Int.not_le, -Int.not_lt, -getElem?_pos, -List.getD_eq_getElem?_getD, e, h1]), fun h1 => ⟨fun h2 => RLe.bb (by simp [-Bool.exists_bool, -Int.not_le, -Int.not_lt, -getElem?_pos, -List.getD_eq_getElem?_getD, e, h1, h2]), fun h2 => RLe.bb (by simp [-Bool.exists_bool, -Int.not_le, -Int.not_lt, -getElem?_pos, -List.getD_eq_getElem?_getD, e, h2])⟩⟩
  · refine ⟨fun h => absurd h (by simp [-Bool.exists_bool, -Int.not_le, -Int.not_lt, -getElem?_pos, -List.getD_eq_getElem?_getD]; omega), fun h => RLe.bb ?_⟩
    simp [-Bool.exists_bool, -Int.not_le, -Int.not_lt, -getElem?_pos, -List.getD_eq_getElem?_getD, emF]
def dropsGo (d : Int) (v : Nat) : Nat → List At → Option (List At)
  | 0, x => some x
  | k + 1, x => if k = v then dropsGo d v k x else if (dropC d k x).2.2 = true then dropsGo d v k (dropC d k x).2.1 else none
def bdE : Bd := ⟨false, (0, 0), false, false, (0, 0), false, true⟩
def endB (b : Bd) : Bd := if b.hl = true ∧ b.hh = true ∧ (0 < cmpR b.lo b.hi ∨ (cmpR b.lo b.hi = 0 ∧ (b.lop = true ∨ b.hop = true))) then bdE else b
def bndsI (v : Nat) (x : List At) : Bd := if emF x = true then bdE else endB (narrows v bd0 x)
def bndD (d : Int) (L : List At) (v : Int) : Bd × Bool := if isCe d L = true ∧ 0 ≤ v ∧ v < d then (match dropsGo d v.toNat d.toNat (nrm d L) with
    | some x => (bndsI v.toNat x, true)
    | none => (bd0, false)) else (bd0, false)
theorem dropsGo_ok {d : Int} (hd : 0 ≤ d ∧ d ≤ 4) (v : Nat) : ∀ (k : Nat) {x y : List At}, x.length ≤ 16 → allOk d x → dropsGo d v k x = some y → y.length ≤ 16 ∧ allOk d y
  | 0, x, y, h16, hx, h => by obtain rfl := Option.some.inj h; exact ⟨h16, hx⟩
  | k + 1, x, y, h16, hx, h => by
    unfold dropsGo at h
    split at h
    · exact dropsGo_ok hd v k h16 hx h
    · split at h
      · rename_i hr
        have := dropC_ok hd k h16 hx hr
        exact dropsGo_ok hd v k this.2.1 this.2.2 h
      · exact absurd h (by simp [-Bool.exists_bool, -Int.not_le, -Int.not_lt, -getElem?_pos, -List.getD_eq_getElem?_getD])
theorem iBoundsOf (d : Int) (L : List At) (v : Int) (h20 : L.length ≤ 1048576) : Cn Tryz.prog 33 [C1 d L, I v] (.tup [bdV (bndD d L v).1, B (bndD d L v).2]) hemp := by
  refine Cn.of [] mixed Tryz.func33 rfl Tryz.call33 (by kernel_rfl) rfl ?_
  simp -implicitDefEqProofs -dsimp +contextual [-Bool.exists_bool, -Int.not_le, -Int.not_lt, -getElem?_pos, -List.getD_eq_getElem?_getD, Tryz.f33]
  have no : ∀ {H : Store}, bndD d L v = (bd0, false) → RLe Tryz.prog H (V.tup [V.agg [V.d (D.bool false), V.d (D.int IntKind.i64 0), V.d (D.int IntKind.i64 0), V.d (D.bool false), V.d (D.bool false), V.d (D.int IntKind.i64 0), V.d (D.int IntKind.i64 0), V.d (D.bool false), V.d (D.bool false)], V.d (D.bool false)]) (.tup [bdV (bndD d L v).1, B (bndD d L v).2]) hemp := fun h => by
    rw [h]
    exact RLe.pure 2 (by simp [-Bool.exists_bool, -Int.not_le, -Int.not_lt, -getElem?_pos, -List.getD_eq_getElem?_getD, bd0])
  refine CallJ.pure (iIsCell d L h20) rfl (by simp [-Bool.exists_bool, -Int.not_le, -Int.not_lt, -getElem?_pos, -List.getD_eq_getElem?_getD]) ?_
  simp -implicitDefEqProofs -dsimp +contextual [-Bool.exists_bool, -Int.not_le, -Int.not_lt, -getElem?_pos, -List.getD_eq_getElem?_getD]
  refine ⟨fun h1 => ?_, fun h1 => no (by rw [bndD, if_neg (by simp [-Bool.exists_bool, -Int.not_le, -Int.not_lt, -getElem?_pos, -List.getD_eq_getElem?_getD, h1])])⟩
  have hd := isCe_d h1
  have h16 := isCe_l h1
  have hok := isCe_a h1
  refine ⟨fun h2 => no (by rw [bndD, if_neg]; omega), fun h2 => ⟨fun h2b => no (by rw [bndD, if_neg]; omega), fun h2b => ?_⟩⟩
  have hv : 0 ≤ v ∧ v < d := by omega
  refine CallJ.pure (iNormalW d hd L (by omega) hok) rfl (by simp [-Bool.exists_bool, -Int.not_le, -Int.not_lt, -getElem?_pos, -List.getD_eq_getElem?_getD]) ?_
  simp -implicitDefEqProofs -dsimp +contextual [-Bool.exists_bool, -Int.not_le, -Int.not_lt, -getElem?_pos, -List.getD_eq_getElem?_getD, h1, h2, h2b]
  rw [wr (by omega) (by omega)]
  obtain ⟨v', rfl⟩ : ∃ v' : Nat, v = v' := ⟨v.toNat, by omega⟩
  have eb : bndD d L v' = (match dropsGo d v' d.toNat (nrm d L) with | some x => (bndsI v' x, true) | none => (bd0, false)) := by rw [bndD, if_pos ⟨h1, hv⟩]; rfl
  refine WP.loop mixed [] (fun p : Nat × List At => ⟨tl [(1, I v'), (4, .ptr (1, 0) 0), (6, .ptr (2, 0) 0), (7, I ((p.1 : Int) - 1))], hl [((1, 0), .box (bdL bd0)), ((2, 0), .box [I d, As p.2])], 3⟩)
    (fun p => (p.1 : Int) ≤ d ∧ p.2.length ≤ 16 ∧ allOk d p.2 ∧ dropsGo d v' d.toNat (nrm d L) = dropsGo d v' p.1 p.2) (fun p => p.1) (d.toNat, nrm d L) (by kernel_rfl) ?_ ?_ ?_
  · refine Le.told [((2, 0), (21, 0))] ?_ ?_ ?_ <;> simp [-Bool.exists_bool, -Int.not_le, -Int.not_lt, -getElem?_pos, -List.getD_eq_getElem?_getD, setH, bd0]
    omega
  · exact ⟨by simp only; omega, nrm_16 d L h16, nrm_okL hd hok, rfl⟩
  · rintro ⟨k, x⟩ ⟨hk, hx, hxo, he⟩
    simp only at hk hx hxo he
    cases k with
    | zero =>
      simp only [dropsGo] at he
      simp -implicitDefEqProofs -dsimp +contextual [-Bool.exists_bool, -Int.not_le, -Int.not_lt, -getElem?_pos, -List.getD_eq_getElem?_getD]
      refine CallJ.pure (iEmptyForm d x hx hxo) rfl (by simp [-Bool.exists_bool, -Int.not_le, -Int.not_lt, -getElem?_pos, -List.getD_eq_getElem?_getD]) ?_
      simp -implicitDefEqProofs -dsimp +contextual [-Bool.exists_bool, -Int.not_le, -Int.not_lt, -getElem?_pos, -List.getD_eq_getElem?_getD]
      have eb : bndD d L v' = (bndsI v' x, true) := by rw [eb, he]
      refine ⟨fun hq => RLe.pure 2 (by rw [eb, bndsI, if_pos hq]; simp [-Bool.exists_bool, -Int.not_le, -Int.not_lt, -getElem?_pos, -List.getD_eq_getElem?_getD, bdE]), fun hq => ?_⟩
      rw [eb, bndsI, if_neg (by simp [-Bool.exists_bool, -Int.not_le, -Int.not_lt, -getElem?_pos, -List.getD_eq_getElem?_getD, hq])]
      refine CallJ.pure (iBoundsIn d x v' hv.2 hx hxo) rfl (by simp [-Bool.exists_bool, -Int.not_le, -Int.not_lt, -getElem?_pos, -List.getD_eq_getElem?_getD]) ?_
      generalize narrows v' bd0 x = b
      rcases b with ⟨_ | _, lo, lop, _ | _, hi, hop, em⟩
      · simp -implicitDefEqProofs -dsimp +contextual [-Bool.exists_bool, -Int.not_le, -Int.not_lt, -getElem?_pos, -List.getD_eq_getElem?_getD, hq]
        exact RLe.pure 2 (by simp [-Bool.exists_bool, -Int.not_le, -Int.not_lt, -getElem?_pos, -List.getD_eq_getElem?_getD, endB])
      · simp -implicitDefEqProofs -dsimp +contextual [-Bool.exists_bool, -Int.not_le, -Int.not_lt, -getElem?_pos, -List.getD_eq_getElem?_getD, hq]
        exact RLe.pure 2 (by simp [-Bool.exists_bool, -Int.not_le, -Int.not_lt, -getElem?_pos, -List.getD_eq_getElem?_getD, endB])
      · simp -implicitDefEqProofs -dsimp +contextual [-Bool.exists_bool, -Int.not_le, -Int.not_lt, -getElem?_pos, -List.getD_eq_getElem?_getD, hq]
        exact RLe.pure 2 (by simp [-Bool.exists_bool, -Int.not_le, -Int.not_lt, -getElem?_pos, -List.getD_eq_getElem?_getD, endB])
      · simp -implicitDefEqProofs -dsimp +contextual [-Bool.exists_bool, -Int.not_le, -Int.not_lt, -getElem?_pos, -List.getD_eq_getElem?_getD, hq]
        refine CallJ.pure (iCompareRatios lo hi) rfl (by simp [-Bool.exists_bool, -Int.not_le, -Int.not_lt, -getElem?_pos, -List.getD_eq_getElem?_getD]) ?_
        have e9 : endB ⟨true, lo, lop, true, hi, hop, em⟩ = if 0 < cmpR lo hi ∨ (cmpR lo hi = 0 ∧ (lop = true ∨ hop = true)) then bdE else ⟨true, lo, lop, true, hi, hop, em⟩ := by simp [-Bool.exists_bool, -Int.not_le, -Int.not_lt, -getElem?_pos, -List.getD_eq_getElem?_getD, endB]
        rw [e9]
        generalize cmpR lo hi = c
        by_cases c1 : 0 < c
        · simp -implicitDefEqProofs -dsimp +contextual [-Bool.exists_bool, -Int.not_le, -Int.not_lt, -getElem?_pos, -List.getD_eq_getElem?_getD, hq, c1]
          exact RLe.pure 2 (by simp [-Bool.exists_bool, -Int.not_le, -Int.not_lt, -getElem?_pos, -List.getD_eq_getElem?_getD, bdE])
        · by_cases c2 : c = 0
          · subst c2
            cases lop
            · cases hop
              · simp -implicitDefEqProofs -dsimp +contextual [-Bool.exists_bool, -Int.not_le, -Int.not_lt, -getElem?_pos, -List.getD_eq_getElem?_getD, hq]
                exact RLe.pure 2 (by simp [-Bool.exists_bool, -Int.not_le, -Int.not_lt, -getElem?_pos, -List.getD_eq_getElem?_getD])
              · simp -implicitDefEqProofs -dsimp +contextual [-Bool.exists_bool, -Int.not_le, -Int.not_lt, -getElem?_pos, -List.getD_eq_getElem?_getD, hq]
                exact RLe.pure 2 (by simp [-Bool.exists_bool, -Int.not_le, -Int.not_lt, -getElem?_pos, -List.getD_eq_getElem?_getD, bdE])
            · simp -implicitDefEqProofs -dsimp +contextual [-Bool.exists_bool, -Int.not_le, -Int.not_lt, -getElem?_pos, -List.getD_eq_getElem?_getD, hq]
              exact RLe.pure 2 (by simp [-Bool.exists_bool, -Int.not_le, -Int.not_lt, -getElem?_pos, -List.getD_eq_getElem?_getD, bdE])
          · simp -implicitDefEqProofs -dsimp +contextual [-Bool.exists_bool, -Int.not_le, -Int.not_lt, -getElem?_pos, -List.getD_eq_getElem?_getD, hq, c1, c2]
            exact RLe.pure 2 (by simp [-Bool.exists_bool, -Int.not_le, -Int.not_lt, -getElem?_pos, -List.getD_eq_getElem?_getD])
    | succ k =>
      have hkk : ¬ ((k : Int) < 0) := by omega
      simp -implicitDefEqProofs -dsimp +contextual [-Bool.exists_bool, -Int.not_le, -Int.not_lt, -getElem?_pos, -List.getD_eq_getElem?_getD, hkk]
      rw [dropsGo] at he
      refine ⟨fun hkv => ?_, fun hkv => ?_⟩
      · rw [if_pos (by omega)] at he
        refine ⟨k, x, ⟨by omega, hx, hxo, he⟩, by omega, ?_⟩
        rw [wr (by omega) (by omega)]
        refine Le.told [] ?_ ?_ ?_ <;> simp [-Bool.exists_bool, -Int.not_le, -Int.not_lt, -getElem?_pos, -List.getD_eq_getElem?_getD, hkv]
      · rw [if_neg (by omega)] at he
        have hce : isCe d x = true := isCe_iff.2 ⟨hd, hx, hxo⟩
        have hD := iDropW d k x (by omega)
        have eD : dropD d x k = dropC d k x := by rw [dropD, if_pos ⟨hce, by omega, by omega⟩]; rfl
        rw [eD] at hD
        refine CallJ.pure hD rfl (by simp [-Bool.exists_bool, -Int.not_le, -Int.not_lt, -getElem?_pos, -List.getD_eq_getElem?_getD]) ?_
        have hok2 := dropC_ok hd k hx hxo
        generalize dropC d k x = q at he hok2 ⊢
        simp -implicitDefEqProofs -dsimp +contextual [-Bool.exists_bool, -Int.not_le, -Int.not_lt, -getElem?_pos, -List.getD_eq_getElem?_getD, hkk, hkv]
        refine ⟨fun hq => ?_, fun hq => no (by rw [eb, he, if_neg (by simp [-Bool.exists_bool, -Int.not_le, -Int.not_lt, -getElem?_pos, -List.getD_eq_getElem?_getD, hq])])⟩
        rw [if_pos hq] at he
        obtain ⟨q1, q2, q3⟩ := hok2 hq
        refine ⟨k, q.2.1, ⟨by omega, q2, q3, he⟩, by omega, ?_⟩
        rw [wr (by omega) (by omega)]
        refine Le.told [] ?_ ?_ ?_ <;> simp [-Bool.exists_bool, -Int.not_le, -Int.not_lt, -getElem?_pos, -List.getD_eq_getElem?_getD, q1]
end Go.Proofs.YtjknjekemolndaaGreat.ZL
namespace Go.Proofs.YtjknjekemolndaaGreat.ZL
open Go Go.Proofs.YtjknjekemolndaaGreat.Abs Go.Proofs.YtjknjekemolndaaGreat.Abs.Pl Go.RowKit Go.Proofs
set_option linter.unusedVariables false
set_option linter.unusedSimpArgs false
theorem eq42 : eq2B Tryz.prog 40 .i64 = true := by kernel_rfl
def okB (b : Bd) : Prop := (b.hh = true → isRat b.hi.1 b.hi.2 = true) ∧ (b.hl = true → isRat b.lo.1 b.lo.2 = true)
theorem cmp_gt {a b : Int × Int} (ha : isRat a.1 a.2 = true) (hb : isRat b.1 b.2 = true) : 0 < cmpR a b ↔ b.1 * a.2 < a.1 * b.2 := by
  rw [cmpR, if_pos ⟨ha, hb⟩]; split
  · constructor <;> intro h <;> omega
  · split <;> constructor <;> intro h <;> omega
theorem cmp_lt {a b : Int × Int} (ha : isRat a.1 a.2 = true) (hb : isRat b.1 b.2 = true) : cmpR a b < 0 ↔ a.1 * b.2 < b.1 * a.2 := by
  rw [cmpR, if_pos ⟨ha, hb⟩]; split
  · constructor <;> intro h <;> omega
  · split <;> constructor <;> intro h <;> omega
theorem cmp_eq {a b : Int × Int} (ha : isRat a.1 a.2 = true) (hb : isRat b.1 b.2 = true) : cmpR a b = 0 ↔ (a.1 = b.1 ∧ a.2 = b.2) := by
  rw [cmpR, if_pos ⟨ha, hb⟩]; split
  · rename_i h
    constructor
    · intro h'; omega
    · rintro ⟨h1, h2⟩; rw [h1, h2] at h; omega
  · rename_i h
    split
    · rename_i h'
      constructor
      · intro h'; omega
      · rintro ⟨h1, h2⟩; rw [h1, h2] at h'; omega
    · rename_i h'
      refine ⟨fun _ => ?_, fun _ => rfl⟩
      have := cross_eq ha hb (by omega)
      rw [this]; exact ⟨rfl, rfl⟩
set_option maxRecDepth 100000 in
theorem l3Narrow (d : Int) (b : Bd) (a : At) (v : Nat) (ho : okA d a) (hv : (v : Int) < d) (hb : okB b) : Cn Tryz.prog 130 [bdV b, A1 a, I v] (bdV (narrow v b a)) hemp := by
  refine Cn.of [] mixed Tryz.func130 rfl Tryz.call130 (by kernel_rfl) rfl ?_
  have hvl : v < a.1.length := by have := ho.2; omega
  have hnu := okA_num ho
  have hx := hnu.1 _ (nth_mem hvl)
  have hx' := isNum_iff.1 hx
  have hc := isNum_iff.1 hnu.2.1
  have hcn : isNum (-a.2.1) = true := isNum_iff.2 ⟨by omega, by omega⟩
  simp -implicitDefEqProofs -dsimp +contextual [-Bool.exists_bool, -Int.not_le, -Int.not_lt, -getElem?_pos, -List.getD_eq_getElem?_getD, Tryz.f130, hvl]
  rw [wr (by omega) (by omega)]
  refine CallJ.pure (MakeRatio (-a.2.1) (nth a.1 v) hcn hx) rfl (by simp [-Bool.exists_bool, -Int.not_le, -Int.not_lt, -getElem?_pos, -List.getD_eq_getElem?_getD]) ?_
  have hr : nth a.1 v ≠ 0 → isRat (mkR (-a.2.1) (nth a.1 v)).1 (mkR (-a.2.1) (nth a.1 v)).2 = true := mkR_rat hcn hx
  unfold narrow
  generalize mkR (-a.2.1) (nth a.1 v) = r at hr ⊢
  generalize nth a.1 v = x at hx hx' hr ⊢
  obtain ⟨hl, lo, lop, hh, hi, hop, em⟩ := b
  rcases Int.lt_trichotomy x 0 with h0 | h0 | h0
  · have n1 : ¬ 0 < x := by omega
    have n2 : ¬ x = 0 := by omega
    have hr := hr n2
    simp -implicitDefEqProofs -dsimp +contextual [-Bool.exists_bool, -Int.not_le, -Int.not_lt, -getElem?_pos, -List.getD_eq_getElem?_getD, hvl, n1, n2, h0]
    refine ⟨fun c1 => ?_, fun c1 => ?_⟩
    · subst c1
      have hq := hb.2 rfl
      have hq : isRat lo.1 lo.2 = true := hq
      have g1 := cmp_gt hr hq
      have g2 := cmp_eq hr hq
      generalize cmpR r lo = c at g1 g2 ⊢
      refine CallJ.pure (l1Less lo r hq hr) rfl (by simp [-Bool.exists_bool, -Int.not_le, -Int.not_lt, -getElem?_pos, -List.getD_eq_getElem?_getD]) ?_
      by_cases e1 : lo.1 * r.2 < r.1 * lo.2
      · have m1 := g1.2 e1
        simp -implicitDefEqProofs -dsimp +contextual [-Bool.exists_bool, -Int.not_le, -Int.not_lt, -getElem?_pos, -List.getD_eq_getElem?_getD, hvl, n1, n2, h0, eq42, e1, m1]
        exact RLe.pure 2 (by simp [-Bool.exists_bool, -Int.not_le, -Int.not_lt, -getElem?_pos, -List.getD_eq_getElem?_getD])
      · have m1 : ¬ 0 < c := fun h => e1 (g1.1 h)
        by_cases e2 : r.1 = lo.1 ∧ r.2 = lo.2
        · have m2 := g2.2 e2
          obtain ⟨e2a, e2b⟩ := e2
          have m3 : (r.1 == lo.1 && r.2 == lo.2) = true := by simp [-Bool.exists_bool, -Int.not_le, -Int.not_lt, -getElem?_pos, -List.getD_eq_getElem?_getD, e2a, e2b]
          cases hs : a.2.2
          · simp -implicitDefEqProofs -dsimp +contextual [-Bool.exists_bool, -Int.not_le, -Int.not_lt, -getElem?_pos, -List.getD_eq_getElem?_getD, hvl, n1, n2, h0, eq42, e1, m1, m2, m3, hs]
            exact RLe.pure 2 (by simp [-Bool.exists_bool, -Int.not_le, -Int.not_lt, -getElem?_pos, -List.getD_eq_getElem?_getD])
          · simp -implicitDefEqProofs -dsimp +contextual [-Bool.exists_bool, -Int.not_le, -Int.not_lt, -getElem?_pos, -List.getD_eq_getElem?_getD, hvl, n1, n2, h0, eq42, e1, m1, m2, m3, hs]
            exact RLe.pure 2 (by simp [-Bool.exists_bool, -Int.not_le, -Int.not_lt, -getElem?_pos, -List.getD_eq_getElem?_getD])
        · have m2 : ¬ c = 0 := fun h => e2 (g2.1 h)
          have m3 : (r.1 == lo.1 && r.2 == lo.2) = false := by
            cases hq3 : (r.1 == lo.1 && r.2 == lo.2)
            · rfl
            · exact absurd (by simpa [-Bool.exists_bool, -Int.not_le, -Int.not_lt, -getElem?_pos, -List.getD_eq_getElem?_getD] using hq3) e2
          simp -implicitDefEqProofs -dsimp +contextual [-Bool.exists_bool, -Int.not_le, -Int.not_lt, -getElem?_pos, -List.getD_eq_getElem?_getD, hvl, n1, n2, h0, eq42, e1, m1, m2, m3]
          exact RLe.pure 2 (by simp [-Bool.exists_bool, -Int.not_le, -Int.not_lt, -getElem?_pos, -List.getD_eq_getElem?_getD, m1, m2])
    · subst c1
      exact RLe.pure 2 (by simp [-Bool.exists_bool, -Int.not_le, -Int.not_lt, -getElem?_pos, -List.getD_eq_getElem?_getD])
  · subst h0
    simp -implicitDefEqProofs -dsimp +contextual [-Bool.exists_bool, -Int.not_le, -Int.not_lt, -getElem?_pos, -List.getD_eq_getElem?_getD, hvl]
    exact RLe.pure 2 (by simp [-Bool.exists_bool, -Int.not_le, -Int.not_lt, -getElem?_pos, -List.getD_eq_getElem?_getD])
  · have n1 : ¬ x < 0 := by omega
    have n2 : ¬ x = 0 := by omega
    have hr := hr n2
    simp -implicitDefEqProofs -dsimp +contextual [-Bool.exists_bool, -Int.not_le, -Int.not_lt, -getElem?_pos, -List.getD_eq_getElem?_getD, hvl, n1, n2, h0]
    refine ⟨fun c1 => ?_, fun c1 => ?_⟩
    · subst c1
      have hq := hb.1 rfl
      have hq : isRat hi.1 hi.2 = true := hq
      have g1 := cmp_lt hr hq
      have g2 := cmp_eq hr hq
      generalize cmpR r hi = c at g1 g2 ⊢
      refine CallJ.pure (l1Less r hi hr hq) rfl (by simp [-Bool.exists_bool, -Int.not_le, -Int.not_lt, -getElem?_pos, -List.getD_eq_getElem?_getD]) ?_
      by_cases e1 : r.1 * hi.2 < hi.1 * r.2
      · have m1 := g1.2 e1
        simp -implicitDefEqProofs -dsimp +contextual [-Bool.exists_bool, -Int.not_le, -Int.not_lt, -getElem?_pos, -List.getD_eq_getElem?_getD, hvl, n1, n2, h0, eq42, e1, m1]
        exact RLe.pure 2 (by simp [-Bool.exists_bool, -Int.not_le, -Int.not_lt, -getElem?_pos, -List.getD_eq_getElem?_getD])
      · have m1 : ¬ c < 0 := fun h => e1 (g1.1 h)
        by_cases e2 : r.1 = hi.1 ∧ r.2 = hi.2
        · have m2 := g2.2 e2
          obtain ⟨e2a, e2b⟩ := e2
          have m3 : (r.1 == hi.1 && r.2 == hi.2) = true := by simp [-Bool.exists_bool, -Int.not_le, -Int.not_lt, -getElem?_pos, -List.getD_eq_getElem?_getD, e2a, e2b]
          cases hs : a.2.2
          · simp -implicitDefEqProofs -dsimp +contextual [-Bool.exists_bool, -Int.not_le, -Int.not_lt, -getElem?_pos, -List.getD_eq_getElem?_getD, hvl, n1, n2, h0, eq42, e1, m1, m2, m3, hs]
            exact RLe.pure 2 (by simp [-Bool.exists_bool, -Int.not_le, -Int.not_lt, -getElem?_pos, -List.getD_eq_getElem?_getD])
          · simp -implicitDefEqProofs -dsimp +contextual [-Bool.exists_bool, -Int.not_le, -Int.not_lt, -getElem?_pos, -List.getD_eq_getElem?_getD, hvl, n1, n2, h0, eq42, e1, m1, m2, m3, hs]
            exact RLe.pure 2 (by simp [-Bool.exists_bool, -Int.not_le, -Int.not_lt, -getElem?_pos, -List.getD_eq_getElem?_getD])
        · have m2 : ¬ c = 0 := fun h => e2 (g2.1 h)
          have m3 : (r.1 == hi.1 && r.2 == hi.2) = false := by
            cases hq3 : (r.1 == hi.1 && r.2 == hi.2)
            · rfl
            · exact absurd (by simpa [-Bool.exists_bool, -Int.not_le, -Int.not_lt, -getElem?_pos, -List.getD_eq_getElem?_getD] using hq3) e2
          simp -implicitDefEqProofs -dsimp +contextual [-Bool.exists_bool, -Int.not_le, -Int.not_lt, -getElem?_pos, -List.getD_eq_getElem?_getD, hvl, n1, n2, h0, eq42, e1, m1, m2, m3]
          exact RLe.pure 2 (by simp [-Bool.exists_bool, -Int.not_le, -Int.not_lt, -getElem?_pos, -List.getD_eq_getElem?_getD, m1, m2])
    · subst c1
      exact RLe.pure 2 (by simp [-Bool.exists_bool, -Int.not_le, -Int.not_lt, -getElem?_pos, -List.getD_eq_getElem?_getD])
theorem narrow_ok {d : Int} {b : Bd} {a : At} {v : Nat} (ho : okA d a) (hv : (v : Int) < d) (hb : okB b) : okB (narrow v b a) := by
  have hvl : v < a.1.length := by have := ho.2; omega
  have hnu := okA_num ho
  have hx := hnu.1 _ (nth_mem hvl)
  have hc := isNum_iff.1 hnu.2.1
  have hcn : isNum (-a.2.1) = true := isNum_iff.2 ⟨by omega, by omega⟩
  unfold narrow
  split
  · exact hb
  · rename_i h0
    have hr := mkR_rat hcn hx h0
    split
    · split
      · exact ⟨fun _ => hr, hb.2⟩
      · exact hb
    · split
      · exact ⟨hb.1, fun _ => hr⟩
      · exact hb
def bndsS (v : Nat) : Bd → List At → Bd
  | b, [] => endB b
  | b, a :: L => if gcdL a.1 = 0 then (if truA a = true then bndsS v b L else bdE) else bndsS v (narrow v b a) L
theorem l3Bounds (d : Int) (L : List At) (v : Nat) (hv : (v : Int) < d) (h16 : L.length ≤ 16) (hok : allOk d L) : Cn Tryz.prog 83 [C1 d L, I v] (bdV (bndsS v bd0 L)) hemp := by
  refine Cn.of [] mixed Tryz.func83 rfl Tryz.call83 (by kernel_rfl) rfl ?_
  simp -implicitDefEqProofs -dsimp +contextual [-Bool.exists_bool, -Int.not_le, -Int.not_lt, -getElem?_pos, -List.getD_eq_getElem?_getD, Tryz.f83]
  refine WP.loop mixed [] (fun p : Nat × Bd => ⟨tl [(1, I v), (2, .ptr (0, 0) 0), (4, .ptr (1, 0) 0), (5, .ptr (2, 0) 0), (6, I p.1)], hl [((0, 0), .box [I d, As L]), ((1, 0), .box (bdL bd0)), ((2, 0), .box (bdL p.2))], 3⟩)
    (fun p => p.1 ≤ L.length ∧ okB p.2 ∧ bndsS v bd0 L = bndsS v p.2 (L.drop p.1)) (fun p => L.length - p.1) (0, bd0) (by kernel_rfl) ?_ ?_ ?_
  · refine Le.told [((2, 0), (3, 0))] ?_ ?_ ?_ <;> simp [-Bool.exists_bool, -Int.not_le, -Int.not_lt, -getElem?_pos, -List.getD_eq_getElem?_getD, setH, bd0]
  · exact ⟨Nat.zero_le _, ⟨fun h => by simp [-Bool.exists_bool, -Int.not_le, -Int.not_lt, -getElem?_pos, -List.getD_eq_getElem?_getD, bd0] at h, fun h => by simp [-Bool.exists_bool, -Int.not_le, -Int.not_lt, -getElem?_pos, -List.getD_eq_getElem?_getD, bd0] at h⟩, rfl⟩
  · rintro ⟨i, b⟩ ⟨hi, hb, he⟩
    simp only at hi hb he
    by_cases h : i < L.length
    · have ho := hok _ (nth_mem h)
      simp -implicitDefEqProofs -dsimp +contextual [-Bool.exists_bool, -Int.not_le, -Int.not_lt, -getElem?_pos, -List.getD_eq_getElem?_getD, h]
      refine CallJ.pure (l2Constant (nth L i) (okA_small ho)) rfl (by simp [-Bool.exists_bool, -Int.not_le, -Int.not_lt, -getElem?_pos, -List.getD_eq_getElem?_getD]) ?_
      rw [nth_drop h, bndsS] at he
      simp -implicitDefEqProofs -dsimp +contextual [-Bool.exists_bool, -Int.not_le, -Int.not_lt, -getElem?_pos, -List.getD_eq_getElem?_getD, h]
      refine ⟨fun h0 => ?_, fun h0 => ?_⟩
      · rw [if_pos h0] at he
        refine CallJ.pure (l2Truth (nth L i)) rfl (by simp [-Bool.exists_bool, -Int.not_le, -Int.not_lt, -getElem?_pos, -List.getD_eq_getElem?_getD]) ?_
        simp -implicitDefEqProofs -dsimp +contextual [-Bool.exists_bool, -Int.not_le, -Int.not_lt, -getElem?_pos, -List.getD_eq_getElem?_getD, h, h0]
        refine ⟨fun ht => ?_, fun ht => RLe.pure 2 (by rw [he, if_neg (by simp [-Bool.exists_bool, -Int.not_le, -Int.not_lt, -getElem?_pos, -List.getD_eq_getElem?_getD, ht])]; simp [-Bool.exists_bool, -Int.not_le, -Int.not_lt, -getElem?_pos, -List.getD_eq_getElem?_getD, bdE])⟩
        rw [if_pos ht] at he
        refine ⟨i + 1, b, ⟨h, hb, he⟩, by omega, ?_⟩
        rw [wr (by omega) (by omega)]
        refine Le.told [] ?_ ?_ ?_ <;> simp [-Bool.exists_bool, -Int.not_le, -Int.not_lt, -getElem?_pos, -List.getD_eq_getElem?_getD]
      · rw [if_neg h0] at he
        refine CallJ.pure (l3Narrow d b (nth L i) v ho hv hb) rfl (by simp [-Bool.exists_bool, -Int.not_le, -Int.not_lt, -getElem?_pos, -List.getD_eq_getElem?_getD]) ?_
        have hb2 := narrow_ok ho hv hb
        generalize narrow v b (nth L i) = b2 at he hb2 ⊢
        simp -implicitDefEqProofs -dsimp +contextual [-Bool.exists_bool, -Int.not_le, -Int.not_lt, -getElem?_pos, -List.getD_eq_getElem?_getD, h, h0]
        refine ⟨i + 1, b2, ⟨h, hb2, he⟩, by omega, ?_⟩
        rw [wr (by omega) (by omega)]
        refine Le.told [] ?_ ?_ ?_ <;> simp [-Bool.exists_bool, -Int.not_le, -Int.not_lt, -getElem?_pos, -List.getD_eq_getElem?_getD]
    · rw [drop_nil (by omega)] at he
      rw [he, bndsS]
      rcases b with ⟨_ | _, lo, lop, _ | _, hi, hop, em⟩
      · simp -implicitDefEqProofs -dsimp +contextual [-Bool.exists_bool, -Int.not_le, -Int.not_lt, -getElem?_pos, -List.getD_eq_getElem?_getD, h]
        exact RLe.pure 2 (by simp [-Bool.exists_bool, -Int.not_le, -Int.not_lt, -getElem?_pos, -List.getD_eq_getElem?_getD, endB])
      · simp -implicitDefEqProofs -dsimp +contextual [-Bool.exists_bool, -Int.not_le, -Int.not_lt, -getElem?_pos, -List.getD_eq_getElem?_getD, h]
        exact RLe.pure 2 (by simp [-Bool.exists_bool, -Int.not_le, -Int.not_lt, -getElem?_pos, -List.getD_eq_getElem?_getD, endB])
      · simp -implicitDefEqProofs -dsimp +contextual [-Bool.exists_bool, -Int.not_le, -Int.not_lt, -getElem?_pos, -List.getD_eq_getElem?_getD, h]
        exact RLe.pure 2 (by simp [-Bool.exists_bool, -Int.not_le, -Int.not_lt, -getElem?_pos, -List.getD_eq_getElem?_getD, endB])
      · have q1 : isRat hi.1 hi.2 = true := hb.1 rfl
        have q2 : isRat lo.1 lo.2 = true := hb.2 rfl
        have g1 := cmp_gt q2 q1
        have g2 := cmp_eq q2 q1
        have e9 : endB ⟨true, lo, lop, true, hi, hop, em⟩ = if 0 < cmpR lo hi ∨ (cmpR lo hi = 0 ∧ (lop = true ∨ hop = true)) then bdE else ⟨true, lo, lop, true, hi, hop, em⟩ := by simp [-Bool.exists_bool, -Int.not_le, -Int.not_lt, -getElem?_pos, -List.getD_eq_getElem?_getD, endB]
        rw [e9]
        generalize cmpR lo hi = c at g1 g2 ⊢
        simp -implicitDefEqProofs -dsimp +contextual [-Bool.exists_bool, -Int.not_le, -Int.not_lt, -getElem?_pos, -List.getD_eq_getElem?_getD, h]
        refine CallJ.pure (l1Less hi lo q1 q2) rfl (by simp [-Bool.exists_bool, -Int.not_le, -Int.not_lt, -getElem?_pos, -List.getD_eq_getElem?_getD]) ?_
        by_cases e1 : hi.1 * lo.2 < lo.1 * hi.2
        · have m1 := g1.2 e1
          simp -implicitDefEqProofs -dsimp +contextual [-Bool.exists_bool, -Int.not_le, -Int.not_lt, -getElem?_pos, -List.getD_eq_getElem?_getD, h, eq42, e1, m1]
          exact RLe.pure 2 (by simp [-Bool.exists_bool, -Int.not_le, -Int.not_lt, -getElem?_pos, -List.getD_eq_getElem?_getD, bdE])
        · have m1 : ¬ 0 < c := fun h => e1 (g1.1 h)
          by_cases e2 : lo.1 = hi.1 ∧ lo.2 = hi.2
          · have m2 := g2.2 e2
            obtain ⟨e2a, e2b⟩ := e2
            have m3 : (hi.1 == lo.1 && hi.2 == lo.2) = true := by simp [-Bool.exists_bool, -Int.not_le, -Int.not_lt, -getElem?_pos, -List.getD_eq_getElem?_getD, e2a, e2b]
            cases lop
            · cases hop
              · simp -implicitDefEqProofs -dsimp +contextual [-Bool.exists_bool, -Int.not_le, -Int.not_lt, -getElem?_pos, -List.getD_eq_getElem?_getD, h, eq42, e1, m1, m2, m3]
                exact RLe.pure 2 (by simp [-Bool.exists_bool, -Int.not_le, -Int.not_lt, -getElem?_pos, -List.getD_eq_getElem?_getD])
              · simp -implicitDefEqProofs -dsimp +contextual [-Bool.exists_bool, -Int.not_le, -Int.not_lt, -getElem?_pos, -List.getD_eq_getElem?_getD, h, eq42, e1, m1, m2, m3]
                exact RLe.pure 2 (by simp [-Bool.exists_bool, -Int.not_le, -Int.not_lt, -getElem?_pos, -List.getD_eq_getElem?_getD, bdE])
            · simp -implicitDefEqProofs -dsimp +contextual [-Bool.exists_bool, -Int.not_le, -Int.not_lt, -getElem?_pos, -List.getD_eq_getElem?_getD, h, eq42, e1, m1, m2, m3]
              exact RLe.pure 2 (by simp [-Bool.exists_bool, -Int.not_le, -Int.not_lt, -getElem?_pos, -List.getD_eq_getElem?_getD, bdE])
          · have m2 : ¬ c = 0 := fun h => e2 (g2.1 h)
            have m3 : (hi.1 == lo.1 && hi.2 == lo.2) = false := by
              cases hq3 : (hi.1 == lo.1 && hi.2 == lo.2)
              · rfl
              · have hq4 : hi.1 = lo.1 ∧ hi.2 = lo.2 := by simpa [-Bool.exists_bool, -Int.not_le, -Int.not_lt, -getElem?_pos, -List.getD_eq_getElem?_getD] using hq3
                exact absurd ⟨hq4.1.symm, hq4.2.symm⟩ e2
            simp -implicitDefEqProofs -dsimp +contextual [-Bool.exists_bool, -Int.not_le, -Int.not_lt, -getElem?_pos, -List.getD_eq_getElem?_getD, h, eq42, e1, m1, m2, m3]
            exact RLe.pure 2 (by simp [-Bool.exists_bool, -Int.not_le, -Int.not_lt, -getElem?_pos, -List.getD_eq_getElem?_getD, m1, m2])
end Go.Proofs.YtjknjekemolndaaGreat.ZL
namespace Go.Proofs.YtjknjekemolndaaGreat.ZL
open Go Go.Proofs.YtjknjekemolndaaGreat.Abs Go.Proofs.YtjknjekemolndaaGreat.Abs.Pl Go.RowKit Go.Proofs
set_option linter.unusedVariables false
set_option linter.unusedSimpArgs false
def NF (d : Int) (x : List At) : Prop := x = [noneA d] ∨ ∀ a ∈ x, gcdL a.1 ≠ 0
theorem bndsS_v (v : Nat) : ∀ (x : List At) (b : Bd), (∀ a ∈ x, gcdL a.1 ≠ 0) → bndsS v b x = endB (narrows v b x)
  | [], b, _ => rfl
  | a :: x, b, h => by
    rw [bndsS, if_neg (h a List.mem_cons_self), narrows]
    exact bndsS_v v x _ fun y hy => h y (List.mem_cons_of_mem _ hy)
theorem gcd_zeros : ∀ n : Nat, gcdL (List.replicate n 0) = 0
  | 0 => rfl
  | n + 1 => by
    have := gcd_zeros n
    simp [-Bool.exists_bool, -Int.not_le, -Int.not_lt, -getElem?_pos, -List.getD_eq_getElem?_getD, List.replicate_succ, gcdL, gcdF]
    exact this
theorem bnds_eq {d : Int} (v : Nat) {x : List At} (h : NF d x) : bndsS v bd0 x = bndsI v x := by
  rcases h with rfl | h
  · have hg : gcdL (noneA d).1 = 0 := gcd_zeros _
    have ht : truA (noneA d) = false := rfl
    have he : emF [noneA d] = true := by
      have hh : hasV (noneA d) = false := by simp [-Bool.exists_bool, -Int.not_le, -Int.not_lt, -getElem?_pos, -List.getD_eq_getElem?_getD, hasV, hg]
      show (decide (1 = 1) && (!hasV (noneA d) && (decide ((1 : Int) = 1) && !false))) = true
      rw [hh]; rfl
    rw [bndsS, if_pos hg, if_neg (by simp [-Bool.exists_bool, -Int.not_le, -Int.not_lt, -getElem?_pos, -List.getD_eq_getElem?_getD, ht]), bndsI, if_pos he]
  · rw [bndsS_v v x bd0 h, bndsI, if_neg]
    intro he
    rcases x with _ | ⟨a, _ | ⟨b, R⟩⟩
    · simp [-Bool.exists_bool, -Int.not_le, -Int.not_lt, -getElem?_pos, -List.getD_eq_getElem?_getD, emF] at he
    · have hh : hasV a = true := by simp [-Bool.exists_bool, -Int.not_le, -Int.not_lt, -getElem?_pos, -List.getD_eq_getElem?_getD, hasV, h a List.mem_cons_self]
      have : emF [a] = false := by
        show (decide (1 = 1) && (!hasV a && (decide (a.2.1 = 1) && !a.2.2))) = false
        rw [hh]; rfl
      rw [this] at he; exact absurd he (by simp [-Bool.exists_bool, -Int.not_le, -Int.not_lt, -getElem?_pos, -List.getD_eq_getElem?_getD])
    · simp [-Bool.exists_bool, -Int.not_le, -Int.not_lt, -getElem?_pos, -List.getD_eq_getElem?_getD, emF] at he
theorem nfL_mem {x : At} : ∀ (l acc : List At), x ∈ l.foldl (fun acc a => putN a acc) acc → x ∈ acc ∨ x ∈ l
  | [], acc, h => .inl h
  | a :: l, acc, h => by
    rcases nfL_mem l (putN a acc) h with h | h
    · rcases putN_mem a acc x h with rfl | h
      · exact .inr List.mem_cons_self
      · exact .inl h
    · exact .inr (List.mem_cons_of_mem _ h)
theorem nrm_NF (d : Int) (M : List At) : NF d (nrm d M) := by
  unfold nrm
  split
  · exact .inl rfl
  · refine .inr fun a ha => ?_
    rcases nfL_mem _ _ ha with h | h
    · simp [-Bool.exists_bool, -Int.not_le, -Int.not_lt, -getElem?_pos, -List.getD_eq_getElem?_getD] at h
    · have := (List.mem_filter.1 h).2
      simpa [-Bool.exists_bool, -Int.not_le, -Int.not_lt, -getElem?_pos, -List.getD_eq_getElem?_getD, hasV] using this
theorem dropC_NF {d : Int} {k : Nat} {x : List At} (h : (dropC d k x).2.2 = true) : NF d (dropC d k x).2.1 := by
  unfold dropC at h ⊢
  split
  · rename_i e; rw [e] at h; exact absurd h (by simp [-Bool.exists_bool, -Int.not_le, -Int.not_lt, -getElem?_pos, -List.getD_eq_getElem?_getD])
  · rename_i M e
    rw [e] at h
    simp only at h ⊢
    unfold limN at h ⊢
    split
    · rename_i h2; rw [if_pos h2] at h; exact absurd h (by simp [-Bool.exists_bool, -Int.not_le, -Int.not_lt, -getElem?_pos, -List.getD_eq_getElem?_getD])
    · exact nrm_NF d M
theorem dropsGo_NF {d : Int} {v : Nat} : ∀ (k : Nat) {x y : List At}, NF d x → dropsGo d v k x = some y → NF d y
  | 0, x, y, hx, h => by obtain rfl := Option.some.inj h; exact hx
  | k + 1, x, y, hx, h => by
    unfold dropsGo at h
    split at h
    · exact dropsGo_NF k hx h
    · split at h
      · rename_i hr; exact dropsGo_NF k (dropC_NF hr) h
      · exact absurd h (by simp [-Bool.exists_bool, -Int.not_le, -Int.not_lt, -getElem?_pos, -List.getD_eq_getElem?_getD])
theorem BoundsOf (d : Int) (L : List At) (v : Int) (h20 : L.length ≤ 1048576) : Cn Tryz.prog 34 [C1 d L, I v] (.tup [bdV (bndD d L v).1, B (bndD d L v).2]) hemp := by
  refine Cn.of [] mixed Tryz.func34 rfl Tryz.call34 (by kernel_rfl) rfl ?_
  simp -implicitDefEqProofs -dsimp +contextual [-Bool.exists_bool, -Int.not_le, -Int.not_lt, -getElem?_pos, -List.getD_eq_getElem?_getD, Tryz.f34]
  have no : ∀ {H : Store}, bndD d L v = (bd0, false) → RLe Tryz.prog H (V.tup [V.agg [V.d (D.bool false), V.d (D.int IntKind.i64 0), V.d (D.int IntKind.i64 0), V.d (D.bool false), V.d (D.bool false), V.d (D.int IntKind.i64 0), V.d (D.int IntKind.i64 0), V.d (D.bool false), V.d (D.bool false)], V.d (D.bool false)]) (.tup [bdV (bndD d L v).1, B (bndD d L v).2]) hemp := fun h => by
    rw [h]
    exact RLe.pure 2 (by simp [-Bool.exists_bool, -Int.not_le, -Int.not_lt, -getElem?_pos, -List.getD_eq_getElem?_getD, bd0])
  refine CallJ.pure (IsCell d L h20) rfl (by simp [-Bool.exists_bool, -Int.not_le, -Int.not_lt, -getElem?_pos, -List.getD_eq_getElem?_getD]) ?_
  simp -implicitDefEqProofs -dsimp +contextual [-Bool.exists_bool, -Int.not_le, -Int.not_lt, -getElem?_pos, -List.getD_eq_getElem?_getD]
  refine ⟨fun h1 => ?_, fun h1 => no (by rw [bndD, if_neg (by simp [-Bool.exists_bool, -Int.not_le, -Int.not_lt, -getElem?_pos, -List.getD_eq_getElem?_getD, h1])])⟩
  have hd := isCe_d h1
  have h16 := isCe_l h1
  have hok := isCe_a h1
  rw [wr (by omega) (by omega)]
  refine CallJ.pure (l1In v 0 (d - 1)) rfl (by simp [-Bool.exists_bool, -Int.not_le, -Int.not_lt, -getElem?_pos, -List.getD_eq_getElem?_getD]) ?_
  simp -implicitDefEqProofs -dsimp +contextual [-Bool.exists_bool, -Int.not_le, -Int.not_lt, -getElem?_pos, -List.getD_eq_getElem?_getD, h1]
  refine ⟨fun h2 => ?_, fun h2 => no (by rw [bndD, if_neg]; simp [-Bool.exists_bool, -Int.not_le, -Int.not_lt, -getElem?_pos, -List.getD_eq_getElem?_getD, inB] at h2; omega)⟩
  have hv : 0 ≤ v ∧ v < d := by simp [-Bool.exists_bool, -Int.not_le, -Int.not_lt, -getElem?_pos, -List.getD_eq_getElem?_getD, inB] at h2; omega
  refine CallJ.pure (l3Normal d hd L (by omega) hok) rfl (by simp [-Bool.exists_bool, -Int.not_le, -Int.not_lt, -getElem?_pos, -List.getD_eq_getElem?_getD]) ?_
  simp -implicitDefEqProofs -dsimp +contextual [-Bool.exists_bool, -Int.not_le, -Int.not_lt, -getElem?_pos, -List.getD_eq_getElem?_getD, h1, h2]
  rw [wr (by omega) (by omega)]
  obtain ⟨v', rfl⟩ : ∃ v' : Nat, v = v' := ⟨v.toNat, by omega⟩
  have eb : bndD d L v' = (match dropsGo d v' d.toNat (nrm d L) with | some x => (bndsI v' x, true) | none => (bd0, false)) := by rw [bndD, if_pos ⟨h1, hv⟩]; rfl
  refine WP.loop mixed [] (fun p : Nat × List At => ⟨tl [(1, I v'), (4, .ptr (1, 0) 0), (6, .ptr (2, 0) 0), (7, I ((p.1 : Int) - 1))], hl [((1, 0), .box (bdL bd0)), ((2, 0), .box [I d, As p.2])], 3⟩)
    (fun p => (p.1 : Int) ≤ d ∧ p.2.length ≤ 16 ∧ allOk d p.2 ∧ NF d p.2 ∧ dropsGo d v' d.toNat (nrm d L) = dropsGo d v' p.1 p.2) (fun p => p.1) (d.toNat, nrm d L) (by kernel_rfl) ?_ ?_ ?_
  · refine Le.told [((2, 0), (19, 0))] ?_ ?_ ?_ <;> simp [-Bool.exists_bool, -Int.not_le, -Int.not_lt, -getElem?_pos, -List.getD_eq_getElem?_getD, setH, bd0]
    omega
  · exact ⟨by simp only; omega, nrm_16 d L h16, nrm_okL hd hok, nrm_NF d L, rfl⟩
  · rintro ⟨k, x⟩ ⟨hk, hx, hxo, hnf, he⟩
    simp only at hk hx hxo hnf he
    cases k with
    | zero =>
      simp only [dropsGo] at he
      simp -implicitDefEqProofs -dsimp +contextual [-Bool.exists_bool, -Int.not_le, -Int.not_lt, -getElem?_pos, -List.getD_eq_getElem?_getD]
      have eb : bndD d L v' = (bndsI v' x, true) := by rw [eb, he]
      have hB := l3Bounds d x v' hv.2 hx hxo
      rw [bnds_eq v' hnf] at hB
      refine CallJ.pure hB rfl (by simp [-Bool.exists_bool, -Int.not_le, -Int.not_lt, -getElem?_pos, -List.getD_eq_getElem?_getD]) ?_
      rw [eb]
      simp -implicitDefEqProofs -dsimp +contextual [-Bool.exists_bool, -Int.not_le, -Int.not_lt, -getElem?_pos, -List.getD_eq_getElem?_getD]
      exact RLe.pure 2 (by simp [-Bool.exists_bool, -Int.not_le, -Int.not_lt, -getElem?_pos, -List.getD_eq_getElem?_getD])
    | succ k =>
      have hkk : ¬ ((k : Int) < 0) := by omega
      simp -implicitDefEqProofs -dsimp +contextual [-Bool.exists_bool, -Int.not_le, -Int.not_lt, -getElem?_pos, -List.getD_eq_getElem?_getD, hkk]
      rw [dropsGo] at he
      refine ⟨fun hkv => ?_, fun hkv => ?_⟩
      · rw [if_pos (by omega)] at he
        refine ⟨k, x, ⟨by omega, hx, hxo, hnf, he⟩, by omega, ?_⟩
        rw [wr (by omega) (by omega)]
        refine Le.told [] ?_ ?_ ?_ <;> simp [-Bool.exists_bool, -Int.not_le, -Int.not_lt, -getElem?_pos, -List.getD_eq_getElem?_getD, hkv]
      · rw [if_neg (by omega)] at he
        refine CallJ.pure (l3Drop d hd k x hx hxo (by omega)) rfl (by simp [-Bool.exists_bool, -Int.not_le, -Int.not_lt, -getElem?_pos, -List.getD_eq_getElem?_getD]) ?_
        have hok2 := dropC_ok hd k hx hxo
        have hnf2 := dropC_NF (d := d) (k := k) (x := x)
        generalize dropC d k x = q at he hok2 hnf2 ⊢
        simp -implicitDefEqProofs -dsimp +contextual [-Bool.exists_bool, -Int.not_le, -Int.not_lt, -getElem?_pos, -List.getD_eq_getElem?_getD, hkk, hkv]
        refine ⟨fun hq => ?_, fun hq => no (by rw [eb, he, if_neg (by simp [-Bool.exists_bool, -Int.not_le, -Int.not_lt, -getElem?_pos, -List.getD_eq_getElem?_getD, hq])])⟩
        rw [if_pos hq] at he
        obtain ⟨q1, q2, q3⟩ := hok2 hq
        refine ⟨k, q.2.1, ⟨by omega, q2, q3, hnf2 hq, he⟩, by omega, ?_⟩
        rw [wr (by omega) (by omega)]
        refine Le.told [] ?_ ?_ ?_ <;> simp [-Bool.exists_bool, -Int.not_le, -Int.not_lt, -getElem?_pos, -List.getD_eq_getElem?_getD, q1]
end Go.Proofs.YtjknjekemolndaaGreat.ZL
namespace Go.Proofs.YtjknjekemolndaaGreat.ZL
open Go Go.Proofs.YtjknjekemolndaaGreat.Abs Go.Proofs.YtjknjekemolndaaGreat.Abs.Pl Go.RowKit Go.Proofs
set_option linter.unusedVariables false
set_option linter.unusedSimpArgs false
def minGo (d : Int) : Nat → Nat → List At → Option (List At)
  | 0, _, out => some out
  | n + 1, i, out => if (impA (d, out.take i ++ out.drop (i + 1)) (nth out i)).2 = true then
      (if (impA (d, out.take i ++ out.drop (i + 1)) (nth out i)).1 = true then minGo d n i (out.take i ++ out.drop (i + 1)) else minGo d n (i + 1) out) else none
def minC (d : Int) (x : List At) : Int × List At × Bool := if (emptyC d x).2 = true then (if (emptyC d x).1 = true then (d, [noneA d], true) else match minGo d x.length 0 x with
    | some y => (d, y, true)
    | none => (0, [], false)) else (0, [], false)
theorem l3CopyW (d : Int) (L : List At) (h20 : L.length ≤ 1000) (ha : ∀ a ∈ L, a.1.length ≤ 1048576) : Cn Tryz.prog 155 [C1 d L] (C1 d L) hemp := Cn.freeze 2 (l3Copy d L h20 ha) (by simp [-Bool.exists_bool, -Int.not_le, -Int.not_lt, -getElem?_pos, -List.getD_eq_getElem?_getD, lendT, lendV])
theorem l3Minimal (d : Int) (L : List At) (h20 : L.length ≤ 1048576) : Cn Tryz.prog 119 [C1 d L] (D2 (minC d L)) hemp := by
  refine Cn.of [0] mixed Tryz.func119 rfl Tryz.call119 (by kernel_rfl) rfl ?_
  simp -implicitDefEqProofs -dsimp +contextual [-Bool.exists_bool, -Int.not_le, -Int.not_lt, -getElem?_pos, -List.getD_eq_getElem?_getD, Tryz.f119]
  refine CallJ.pure (IsEmptyCell d L h20) rfl (by simp [-Bool.exists_bool, -Int.not_le, -Int.not_lt, -getElem?_pos, -List.getD_eq_getElem?_getD]) ?_
  simp -implicitDefEqProofs -dsimp +contextual [-Bool.exists_bool, -Int.not_le, -Int.not_lt, -getElem?_pos, -List.getD_eq_getElem?_getD]
  refine ⟨fun h1 => ?_, fun h1 => RLe.pure 2 (by rw [minC, if_neg (by simp [-Bool.exists_bool, -Int.not_le, -Int.not_lt, -getElem?_pos, -List.getD_eq_getElem?_getD, h1])]; simp [-Bool.exists_bool, -Int.not_le, -Int.not_lt, -getElem?_pos, -List.getD_eq_getElem?_getD, asD])⟩
  have hce := emptyC_ce h1
  have hd := isCe_d hce
  have h16 := isCe_l hce
  have hok := isCe_a hce
  refine ⟨fun h2 => ?_, fun h2 => ?_⟩
  · refine CallJ.pure (l3None d hd) rfl (by simp [-Bool.exists_bool, -Int.not_le, -Int.not_lt, -getElem?_pos, -List.getD_eq_getElem?_getD]) ?_
    simp -implicitDefEqProofs -dsimp +contextual [-Bool.exists_bool, -Int.not_le, -Int.not_lt, -getElem?_pos, -List.getD_eq_getElem?_getD, h1, h2]
    rw [minC, if_pos h1, if_pos h2]
    exact RLe.pure 3 (by simp [-Bool.exists_bool, -Int.not_le, -Int.not_lt, -getElem?_pos, -List.getD_eq_getElem?_getD])
  · refine CallJ.pure (l3CopyW d L (by omega) (fun a ha => okA_small (hok a ha))) rfl (by simp [-Bool.exists_bool, -Int.not_le, -Int.not_lt, -getElem?_pos, -List.getD_eq_getElem?_getD]) ?_
    simp -implicitDefEqProofs -dsimp +contextual [-Bool.exists_bool, -Int.not_le, -Int.not_lt, -getElem?_pos, -List.getD_eq_getElem?_getD, h1, h2]
    have e0 : minC d L = (match minGo d L.length 0 L with | some y => (d, y, true) | none => (0, [], false)) := by rw [minC, if_pos h1, if_neg (by simp [-Bool.exists_bool, -Int.not_le, -Int.not_lt, -getElem?_pos, -List.getD_eq_getElem?_getD, h2])]
    refine WP.loop mixed [0] (fun p : Nat × List At => ⟨tl [(1, .ptr (0, 0) 0), (2, .ptr (1, 0) 0), (6, .ptr (2, 0) 0), (7, I p.1)], hl [((0, 0), .box [I d, As L]), ((1, 0), .box [I 0, .nil]), ((2, 0), .box [I d, As p.2])], 3⟩)
      (fun p => p.1 ≤ p.2.length ∧ p.2.length ≤ 16 ∧ allOk d p.2 ∧ minGo d L.length 0 L = minGo d (p.2.length - p.1) p.1 p.2) (fun p => p.2.length - p.1) (0, L) (by kernel_rfl) ?_ ?_ ?_
    · refine Le.told [((2, 0), (15, 0))] ?_ ?_ ?_ <;> simp [-Bool.exists_bool, -Int.not_le, -Int.not_lt, -getElem?_pos, -List.getD_eq_getElem?_getD, setH]
    · exact ⟨Nat.zero_le _, h16, hok, rfl⟩
    · rintro ⟨i, x⟩ ⟨hi, hx, hxo, he⟩
      simp only at hi hx hxo he
      by_cases h : i < x.length
      · have hw : IntKind.wrap .i64 ((i : Int) + 1) = (i : Int) + 1 := wr (by omega) (by omega)
        have hw2 : ((i : Int) + 1).toNat = i + 1 := by omega
        obtain ⟨n, hn⟩ : ∃ n, x.length - i = n + 1 := ⟨x.length - i - 1, by omega⟩
        rw [hn, minGo] at he
        have ht : (x.drop (i + 1)).take (x.length - (i + 1)) = x.drop (i + 1) := List.take_of_length_le (by simp [-Bool.exists_bool, -Int.not_le, -Int.not_lt, -getElem?_pos, -List.getD_eq_getElem?_getD])
        have hmin : min i x.length = i := by omega
        have hrl : (x.take i ++ x.drop (i + 1)).length = i + (x.length - (i + 1)) := by simp [-Bool.exists_bool, -Int.not_le, -Int.not_lt, -getElem?_pos, -List.getD_eq_getElem?_getD]; omega
        have hro : allOk d (x.take i ++ x.drop (i + 1)) := fun y hy => by
          rcases List.mem_append.1 hy with hy | hy
          · exact hxo y (List.mem_of_mem_take hy)
          · exact hxo y (List.mem_of_mem_drop hy)
        have hI := ImpliesAtom (d, x.take i ++ x.drop (i + 1)) (nth x i) (by show (x.take i ++ x.drop (i + 1)).length ≤ 1048576; omega) (okA_small (hxo _ (nth_mem h)))
        generalize impA (d, x.take i ++ x.drop (i + 1)) (nth x i) = q at he hI
        simp -implicitDefEqProofs -dsimp +contextual [-Bool.exists_bool, -Int.not_le, -Int.not_lt, -getElem?_pos, -List.getD_eq_getElem?_getD, h, hw, hw2, ht]
        refine ⟨by omega, ⟨by omega, by omega, by simp [-Bool.exists_bool, -Int.not_le, -Int.not_lt, -getElem?_pos, -List.getD_eq_getElem?_getD, maxLen]; omega⟩, ⟨by omega, by omega⟩, ⟨by omega, by simp [-Bool.exists_bool, -Int.not_le, -Int.not_lt, -getElem?_pos, -List.getD_eq_getElem?_getD, maxLen]; omega⟩, Quiet.of [1] (by kernel_rfl) (by simp [-Bool.exists_bool, -Int.not_le, -Int.not_lt, -getElem?_pos, -List.getD_eq_getElem?_getD, allP, offB]), Quiet.of [] (by kernel_rfl) (by simp [-Bool.exists_bool, -Int.not_le, -Int.not_lt, -getElem?_pos, -List.getD_eq_getElem?_getD, allP, offB]), ?_⟩
        refine CallJ.lent (ks := [(21, 0)]) 2 hI ?_ (by simp [-Bool.exists_bool, -Int.not_le, -Int.not_lt, -getElem?_pos, -List.getD_eq_getElem?_getD]) rfl (by simp [-Bool.exists_bool, -Int.not_le, -Int.not_lt, -getElem?_pos, -List.getD_eq_getElem?_getD]) ?_
        · simp [-Bool.exists_bool, -Int.not_le, -Int.not_lt, -getElem?_pos, -List.getD_eq_getElem?_getD, lendVs, lendV, setH, asD_append, hmin]
        simp -implicitDefEqProofs -dsimp +contextual [-Bool.exists_bool, -Int.not_le, -Int.not_lt, -getElem?_pos, -List.getD_eq_getElem?_getD, h, hw, hw2, ht]
        refine ⟨fun c1 => ⟨fun c2 => ?_, fun c2 => ?_⟩, fun c1 => RLe.pure 2 (by rw [e0, he, if_neg (by simp [-Bool.exists_bool, -Int.not_le, -Int.not_lt, -getElem?_pos, -List.getD_eq_getElem?_getD, c1])]; simp [-Bool.exists_bool, -Int.not_le, -Int.not_lt, -getElem?_pos, -List.getD_eq_getElem?_getD, asD])⟩
        · rw [if_pos c1, if_pos c2] at he
          have hC := l3CopyW d (x.take i ++ x.drop (i + 1)) (by omega) (fun a ha => okA_small (hro a ha))
          refine CallJ.frz (t := 66) (n := i + (x.length - (i + 1))) (c := dl (asD (x.take i) ++ asD (x.drop (i + 1)))) (c' := asD (x.take i) ++ asD (x.drop (i + 1))) (21, 0) hC (by simp [-Bool.exists_bool, -Int.not_le, -Int.not_lt, -getElem?_pos, -List.getD_eq_getElem?_getD, setH]) (dl_asDs _) (ks := [(21, 0)]) (by simp [-Bool.exists_bool, -Int.not_le, -Int.not_lt, -getElem?_pos, -List.getD_eq_getElem?_getD, lendVs, lendV, setH, asD_append, hmin]) (by simp [-Bool.exists_bool, -Int.not_le, -Int.not_lt, -getElem?_pos, -List.getD_eq_getElem?_getD]) ?_
          simp -implicitDefEqProofs -dsimp +contextual [-Bool.exists_bool, -Int.not_le, -Int.not_lt, -getElem?_pos, -List.getD_eq_getElem?_getD, h, hw, hw2, ht, hmin]
          refine ⟨i, x.take i ++ x.drop (i + 1), ⟨by omega, by omega, hro, by rw [he, hrl]; congr 1; omega⟩, by omega, ?_⟩
          refine Le.told [] ?_ ?_ ?_ <;> simp [-Bool.exists_bool, -Int.not_le, -Int.not_lt, -getElem?_pos, -List.getD_eq_getElem?_getD, hmin, asD_append]
        · rw [if_pos c1, if_neg (by simp [-Bool.exists_bool, -Int.not_le, -Int.not_lt, -getElem?_pos, -List.getD_eq_getElem?_getD, c2])] at he
          refine ⟨i + 1, x, ⟨h, hx, hxo, by rw [he]; congr 1; omega⟩, by omega, ?_⟩
          refine Le.told [] ?_ ?_ ?_ <;> simp [-Bool.exists_bool, -Int.not_le, -Int.not_lt, -getElem?_pos, -List.getD_eq_getElem?_getD]
      · rw [show x.length - i = 0 by omega, minGo] at he
        simp -implicitDefEqProofs -dsimp +contextual [-Bool.exists_bool, -Int.not_le, -Int.not_lt, -getElem?_pos, -List.getD_eq_getElem?_getD, h]
        rw [e0, he]
        exact RLe.pure 3 (by simp [-Bool.exists_bool, -Int.not_le, -Int.not_lt, -getElem?_pos, -List.getD_eq_getElem?_getD])
def minD (d : Int) (L : List At) : Int × List At × Bool := if isCe d L = true then minC d (nrm d L) else (0, [], false)
end Go.Proofs.YtjknjekemolndaaGreat.ZL
namespace Go.Proofs.YtjknjekemolndaaGreat.ZL
open Go Go.Proofs.YtjknjekemolndaaGreat.Abs Go.Proofs.YtjknjekemolndaaGreat.Abs.Pl Go.RowKit Go.Proofs
set_option linter.unusedVariables false
set_option linter.unusedSimpArgs false
theorem iEmptyCellW (d : Int) (hd : 0 ≤ d ∧ d ≤ 4) : Cn Tryz.prog 106 [I d] (C1 d [noneA d]) hemp := by
  refine Cn.freeze 2 (iEmptyCell d hd) ?_
  simp only [lendT, lendV, List.map_cons, List.map_nil, joinO, own_lend, lendD_d]
theorem iMinimalCellW (d : Int) (L : List At) (h20 : L.length ≤ 1048576) : Cn Tryz.prog 114 [C1 d L] (D2 (minD d L)) hemp := by
  refine Cn.of [] mixed Tryz.func114 rfl Tryz.call114 (by kernel_rfl) rfl ?_
  simp -implicitDefEqProofs -dsimp +contextual [-Bool.exists_bool, -Int.not_le, -Int.not_lt, -getElem?_pos, -List.getD_eq_getElem?_getD, Tryz.f114]
  refine CallJ.pure (iNormalCellW d L h20) rfl (by simp [-Bool.exists_bool, -Int.not_le, -Int.not_lt, -getElem?_pos, -List.getD_eq_getElem?_getD]) ?_
  by_cases h1 : isCe d L = true
  rotate_left
  · rw [normD, if_neg h1]
    simp -implicitDefEqProofs -dsimp +contextual [-Bool.exists_bool, -Int.not_le, -Int.not_lt, -getElem?_pos, -List.getD_eq_getElem?_getD]
    exact RLe.pure 2 (by rw [minD, if_neg h1]; simp [-Bool.exists_bool, -Int.not_le, -Int.not_lt, -getElem?_pos, -List.getD_eq_getElem?_getD, asD])
  have hd := isCe_d h1
  have h16 := nrm_16 d L (isCe_l h1)
  have hok := nrm_okL hd (isCe_a h1)
  rw [normD, if_pos h1, minD, if_pos h1]
  generalize nrm d L = K at h16 hok ⊢
  simp -implicitDefEqProofs -dsimp +contextual [-Bool.exists_bool, -Int.not_le, -Int.not_lt, -getElem?_pos, -List.getD_eq_getElem?_getD]
  refine CallJ.pure (iIsEmptyCell d K (by omega)) rfl (by simp [-Bool.exists_bool, -Int.not_le, -Int.not_lt, -getElem?_pos, -List.getD_eq_getElem?_getD]) ?_
  simp -implicitDefEqProofs -dsimp +contextual [-Bool.exists_bool, -Int.not_le, -Int.not_lt, -getElem?_pos, -List.getD_eq_getElem?_getD]
  refine ⟨fun c1 => ?_, fun c1 => RLe.pure 2 (by rw [minC, if_neg (by simp [-Bool.exists_bool, -Int.not_le, -Int.not_lt, -getElem?_pos, -List.getD_eq_getElem?_getD, c1])]; simp [-Bool.exists_bool, -Int.not_le, -Int.not_lt, -getElem?_pos, -List.getD_eq_getElem?_getD, asD])⟩
  refine ⟨fun c2 => ?_, fun c2 => ?_⟩
  · refine CallJ.pure (iEmptyCellW d hd) rfl (by simp [-Bool.exists_bool, -Int.not_le, -Int.not_lt, -getElem?_pos, -List.getD_eq_getElem?_getD]) ?_
    simp -implicitDefEqProofs -dsimp +contextual [-Bool.exists_bool, -Int.not_le, -Int.not_lt, -getElem?_pos, -List.getD_eq_getElem?_getD, c1, c2]
    rw [minC, if_pos c1, if_pos c2]
    exact RLe.pure 3 (by simp [-Bool.exists_bool, -Int.not_le, -Int.not_lt, -getElem?_pos, -List.getD_eq_getElem?_getD])
  · have e0 : minC d K = (match minGo d K.length 0 K with | some y => (d, y, true) | none => (0, [], false)) := by rw [minC, if_pos c1, if_neg (by simp [-Bool.exists_bool, -Int.not_le, -Int.not_lt, -getElem?_pos, -List.getD_eq_getElem?_getD, c2])]; try rfl
    refine WP.loop mixed [] (fun p : Nat × List At => ⟨tl [(1, .ptr (0, 0) 0), (2, .ptr (1, 0) 0), (4, .ptr (2, 0) 0), (7, I p.1)], hl [((0, 0), .box [I d, As L]), ((1, 0), .box [I 0, .nil]), ((2, 0), .box [I d, As p.2])], 3⟩)
      (fun p => p.1 ≤ p.2.length ∧ p.2.length ≤ 16 ∧ allOk d p.2 ∧ minGo d K.length 0 K = minGo d (p.2.length - p.1) p.1 p.2) (fun p => p.2.length - p.1) (0, K) (by kernel_rfl) ?_ ?_ ?_
    · refine Le.told [((2, 0), (8, 0))] ?_ ?_ ?_ <;> simp [-Bool.exists_bool, -Int.not_le, -Int.not_lt, -getElem?_pos, -List.getD_eq_getElem?_getD, setH]
    · exact ⟨Nat.zero_le _, h16, hok, rfl⟩
    · rintro ⟨i, x⟩ ⟨hi, hx, hxo, he⟩
      simp only at hi hx hxo he
      by_cases h : i < x.length
      · have hw : IntKind.wrap .i64 ((i : Int) + 1) = (i : Int) + 1 := wr (by omega) (by omega)
        have hw2 : ((i : Int) + 1).toNat = i + 1 := by omega
        obtain ⟨n, hn⟩ : ∃ n, x.length - i = n + 1 := ⟨x.length - i - 1, by omega⟩
        rw [hn, minGo] at he
        have ht : (x.drop (i + 1)).take (x.length - (i + 1)) = x.drop (i + 1) := List.take_of_length_le (by simp [-Bool.exists_bool, -Int.not_le, -Int.not_lt, -getElem?_pos, -List.getD_eq_getElem?_getD])
        have hmin : min i x.length = i := by omega
        have hrl : (x.take i ++ x.drop (i + 1)).length = i + (x.length - (i + 1)) := by simp [-Bool.exists_bool, -Int.not_le, -Int.not_lt, -getElem?_pos, -List.getD_eq_getElem?_getD]; omega
        have e2 : repV 2 [V.nil] = [V.nil, V.nil] := rfl
        simp -implicitDefEqProofs -dsimp +contextual [-Bool.exists_bool, -Int.not_le, -Int.not_lt, -getElem?_pos, -List.getD_eq_getElem?_getD, h, hw, hw2, ht, e2]
        have hro : allOk d (x.take i ++ x.drop (i + 1)) := fun y hy => by
          rcases List.mem_append.1 hy with hy | hy
          · exact hxo y (List.mem_of_mem_take hy)
          · exact hxo y (List.mem_of_mem_drop hy)
        have hf : [x.take i, x.drop (i + 1)].flatten = x.take i ++ x.drop (i + 1) := by simp [-Bool.exists_bool, -Int.not_le, -Int.not_lt, -getElem?_pos, -List.getD_eq_getElem?_getD]
        have hI := iImpliesAtom (d, x.take i ++ x.drop (i + 1)) (nth x i) (by show (x.take i ++ x.drop (i + 1)).length ≤ 1048576; omega) (okA_small (hxo _ (nth_mem h)))
        generalize impA (d, x.take i ++ x.drop (i + 1)) (nth x i) = q at he hI
        have hC := iConcatW [x.take i, x.drop (i + 1)] (by simp [-Bool.exists_bool, -Int.not_le, -Int.not_lt, -getElem?_pos, -List.getD_eq_getElem?_getD]) (by simp [-Bool.exists_bool, -Int.not_le, -Int.not_lt, -getElem?_pos, -List.getD_eq_getElem?_getD, tot]; omega)
        rw [hf] at hC
        generalize x.take i ++ x.drop (i + 1) = y at he hI hC hrl hro
        refine ⟨by omega, ⟨by omega, by omega⟩, ?_⟩
        refine CallJ.pure (ks := []) hC (by simp [-Bool.exists_bool, -Int.not_le, -Int.not_lt, -getElem?_pos, -List.getD_eq_getElem?_getD, sD, hmin]) (by simp [-Bool.exists_bool, -Int.not_le, -Int.not_lt, -getElem?_pos, -List.getD_eq_getElem?_getD]) ?_
        simp -implicitDefEqProofs -dsimp +contextual [-Bool.exists_bool, -Int.not_le, -Int.not_lt, -getElem?_pos, -List.getD_eq_getElem?_getD, h, hw, hw2]
        refine CallJ.pure (ks := []) hI (by simp [-Bool.exists_bool, -Int.not_le, -Int.not_lt, -getElem?_pos, -List.getD_eq_getElem?_getD]) (by simp [-Bool.exists_bool, -Int.not_le, -Int.not_lt, -getElem?_pos, -List.getD_eq_getElem?_getD]) ?_
        simp -implicitDefEqProofs -dsimp +contextual [-Bool.exists_bool, -Int.not_le, -Int.not_lt, -getElem?_pos, -List.getD_eq_getElem?_getD, h, hw, hw2]
        refine ⟨fun b1 => ⟨fun b2 => ?_, fun b2 => ?_⟩, fun b1 => RLe.pure 2 (by rw [e0, he, if_neg (by simp [-Bool.exists_bool, -Int.not_le, -Int.not_lt, -getElem?_pos, -List.getD_eq_getElem?_getD, b1])]; simp [-Bool.exists_bool, -Int.not_le, -Int.not_lt, -getElem?_pos, -List.getD_eq_getElem?_getD, asD])⟩
        · rw [if_pos b1, if_pos b2] at he
          refine ⟨i, y, ⟨by omega, by omega, hro, by rw [he]; congr 1; omega⟩, by omega, ?_⟩
          refine Le.told [] ?_ ?_ ?_ <;> simp [-Bool.exists_bool, -Int.not_le, -Int.not_lt, -getElem?_pos, -List.getD_eq_getElem?_getD]
        · rw [if_pos b1, if_neg (by simp [-Bool.exists_bool, -Int.not_le, -Int.not_lt, -getElem?_pos, -List.getD_eq_getElem?_getD, b2])] at he
          refine ⟨i + 1, x, ⟨h, hx, hxo, by rw [he]; congr 1; omega⟩, by omega, ?_⟩
          refine Le.told [] ?_ ?_ ?_ <;> simp [-Bool.exists_bool, -Int.not_le, -Int.not_lt, -getElem?_pos, -List.getD_eq_getElem?_getD]
      · rw [show x.length - i = 0 by omega, minGo] at he
        simp -implicitDefEqProofs -dsimp +contextual [-Bool.exists_bool, -Int.not_le, -Int.not_lt, -getElem?_pos, -List.getD_eq_getElem?_getD, h]
        rw [e0, he]
        exact RLe.pure 3 (by simp [-Bool.exists_bool, -Int.not_le, -Int.not_lt, -getElem?_pos, -List.getD_eq_getElem?_getD])
end Go.Proofs.YtjknjekemolndaaGreat.ZL
namespace Go.Proofs.YtjknjekemolndaaGreat.ZL
open Go Go.Proofs.YtjknjekemolndaaGreat.Abs Go.Proofs.YtjknjekemolndaaGreat.Abs.Pl Go.RowKit Go.Proofs
set_option linter.unusedVariables false
set_option linter.unusedSimpArgs false
theorem minGo_ok {d : Int} : ∀ (n i : Nat) {x y : List At}, x.length ≤ 16 → allOk d x → minGo d n i x = some y → y.length ≤ 16 ∧ allOk d y
  | 0, _, x, y, h16, hx, h => by obtain rfl := Option.some.inj h; exact ⟨h16, hx⟩
  | n + 1, i, x, y, h16, hx, h => by
    unfold minGo at h
    split at h
    · split at h
      · refine minGo_ok n i ?_ ?_ h
        · simp [-Bool.exists_bool, -Int.not_le, -Int.not_lt, -getElem?_pos, -List.getD_eq_getElem?_getD]; omega
        · intro a ha
          rcases List.mem_append.1 ha with ha | ha
          · exact hx a (List.mem_of_mem_take ha)
          · exact hx a (List.mem_of_mem_drop ha)
      · exact minGo_ok n (i + 1) h16 hx h
    · exact absurd h (by simp [-Bool.exists_bool, -Int.not_le, -Int.not_lt, -getElem?_pos, -List.getD_eq_getElem?_getD])
theorem minC_f {d : Int} {x : List At} (h : ¬ (minC d x).2.2 = true) : minC d x = (0, [], false) := by
  unfold minC at h ⊢
  split
  · rename_i h1
    rw [if_pos h1] at h
    split
    · rename_i h2; rw [if_pos h2] at h; exact absurd rfl h
    · rename_i h2
      rw [if_neg h2] at h
      split
      · rename_i y hy; rw [hy] at h; exact absurd rfl h
      · rfl
  · rfl
theorem minD_f {d : Int} {L : List At} (h : ¬ (minD d L).2.2 = true) : minD d L = (0, [], false) := by
  unfold minD at h ⊢
  split
  · rename_i h1; rw [if_pos h1] at h; exact minC_f h
  · rfl
theorem minD_small (d : Int) (L : List At) : Small (minD d L).2.1 := by
  unfold minD
  split
  · rename_i h1
    have hd := isCe_d h1
    unfold minC
    split
    · split
      · exact Small.ok (d := d) (by simp [-Bool.exists_bool, -Int.not_le, -Int.not_lt, -getElem?_pos, -List.getD_eq_getElem?_getD]) (fun x hx => by rw [List.mem_singleton.1 hx]; exact noneA_ok hd)
      · split
        · rename_i y hy
          have := minGo_ok _ _ (nrm_16 d L (isCe_l h1)) (nrm_okL hd (isCe_a h1)) hy
          exact Small.ok this.1 this.2
        · exact Small.nil
    · exact Small.nil
  · exact Small.nil
end Go.Proofs.YtjknjekemolndaaGreat.ZL
set_option linter.unusedVariables false
namespace Go.Proofs.YtjknjekemolndaaGreat.Abs.Pl
open Go
theorem castQ_ne {d : Int} (h : ¬ d = 0) : (d : Rat) ≠ 0 := by simpa using h
theorem castQ_pos {d : Int} (h : 0 < d) : (0 : Rat) < (d : Rat) := by exact_mod_cast h
theorem castQ_neg {d : Int} (h : d < 0) : (d : Rat) < 0 := by exact_mod_cast h
theorem mulQ_neg {k y : Rat} (hk : 0 < k) : k * y < 0 ↔ y < 0 := by
  constructor
  · intro hn
    by_cases h2 : y < 0
    · exact h2
    · have := Rat.mul_nonneg (Rat.le_of_lt hk) (Rat.not_lt.1 h2); grind
  · intro hn
    have := Rat.mul_pos hk (show 0 < -y by grind); grind
theorem mulQ_zero {k y : Rat} (hk : 0 < k) : k * y = 0 ↔ y = 0 := by
  constructor
  · intro hn
    rcases Rat.mul_eq_zero.1 hn with h2 | h2
    · rw [h2] at hk; exact absurd hk (by decide)
    · exact h2
  · intro hn; rw [hn]; simp
def dt (x : Nat → Rat) : Nat → List Int → Rat
  | _, [] => 0
  | k, n :: l => (n : Rat) * x k + dt x (k + 1) l
def evA (x : Nat → Rat) (a : At) : Rat := (a.2.1 : Rat) + dt x 0 a.1
def Sat (x : Nat → Rat) (a : At) : Prop := evA x a < 0 ∨ evA x a = 0 ∧ a.2.2 = false
def SatL (x : Nat → Rat) (L : List At) : Prop := ∀ a ∈ L, Sat x a
def upd (x : Nat → Rat) (v : Nat) (t : Rat) : Nat → Rat := fun k => if k = v then t else x k
theorem upd_self (x : Nat → Rat) (v : Nat) : upd x v (x v) = x := by funext k; unfold upd; split <;> simp_all
theorem upd_upd (x : Nat → Rat) (v : Nat) (s t : Rat) : upd (upd x v s) v t = upd x v t := by funext k; unfold upd; split <;> simp_all
theorem upd_at (x : Nat → Rat) (v : Nat) (t : Rat) : upd x v t v = t := by simp [upd]
theorem dt_congr {x y : Nat → Rat} : ∀ (l : List Int) (k : Nat), (∀ i, i < l.length → l.getD i 0 = 0 ∨ x (k + i) = y (k + i)) → dt x k l = dt y k l
  | [], _, _ => rfl
  | n :: l, k, h => by
    have h0 := h 0 (by simp)
    have ih := dt_congr (x := x) (y := y) l (k + 1) fun i hi => by
      have := h (i + 1) (by simp; omega)
      rw [List.getD_cons_succ] at this
      rw [Nat.add_assoc, Nat.add_comm 1 i]; exact this
    unfold dt
    rw [ih]
    rw [List.getD_cons_zero] at h0
    rcases h0 with h0 | h0
    · rw [h0]; simp
    · rw [Nat.add_zero] at h0; rw [h0]
theorem dt_upd {x : Nat → Rat} (v : Nat) (t : Rat) : ∀ (l : List Int) (k : Nat), dt (upd x (k + v) t) k l = dt x k l + ((l.getD v 0 : Int) : Rat) * (t - x (k + v))
  | [], k => by simp [dt, Rat.add_zero]
  | n :: l, k => by
    cases v with
    | zero =>
      have e : dt (upd x (k + 0) t) (k + 1) l = dt x (k + 1) l := dt_congr l (k + 1) fun i hi => .inr (by unfold upd; rw [if_neg (by omega)])
      unfold dt
      rw [e]
      simp only [List.getD_cons_zero, Nat.add_zero, upd_at]
      grind
    | succ v =>
      have ih := dt_upd v t l (k + 1) (x := x)
      have e : k + 1 + v = k + (v + 1) := by omega
      rw [e] at ih
      unfold dt
      rw [ih]
      have e2 : upd x (k + (v + 1)) t k = x k := by unfold upd; rw [if_neg (by omega)]
      rw [e2, List.getD_cons_succ]
      grind
theorem dt_mul (x : Nat → Rat) (g : Int) : ∀ (l : List Int) (k : Nat), dt x k (l.map (· * g)) = (g : Rat) * dt x k l
  | [], k => by simp [dt]
  | n :: l, k => by
    simp only [List.map_cons, dt, dt_mul x g l, Rat.intCast_mul]
    grind
theorem dt_neg (x : Nat → Rat) : ∀ (l : List Int) (k : Nat), dt x k (l.map (- ·)) = - dt x k l
  | [], k => by simp [dt]
  | n :: l, k => by
    simp only [List.map_cons, dt, dt_neg x l, Rat.intCast_neg]
    grind
theorem dt_mix (x : Nat → Rat) (p q : Int) : ∀ (l m : List Int) (k : Nat), l.length = m.length → dt x k (mixL p l q m) = (p : Rat) * dt x k l + (q : Rat) * dt x k m
  | [], [], k, _ => by simp [dt, mixL, Rat.add_zero]
  | a :: l, b :: m, k, h => by
    have := dt_mix x p q l m (k + 1) (by simpa using h)
    unfold mixL at this ⊢
    simp only [List.zipWith_cons_cons, dt, this, Rat.intCast_add, Rat.intCast_mul]
    grind
  | [], _ :: _, _, h => by simp at h
  | _ :: _, [], _, h => by simp at h
theorem dt_zero (x : Nat → Rat) : ∀ (l : List Int) (k : Nat), (∀ n ∈ l, n = 0) → dt x k l = 0
  | [], k, _ => rfl
  | n :: l, k, h => by
    unfold dt
    rw [h n (by simp), dt_zero x l (k + 1) fun m hm => h m (by simp [hm])]
    simp [Rat.add_zero]
theorem evA_upd (x : Nat → Rat) (v : Nat) (t : Rat) (a : At) : evA (upd x v t) a = evA x a + ((a.1.getD v 0 : Int) : Rat) * (t - x v) := by
  have := dt_upd (x := x) v t a.1 0
  rw [Nat.zero_add] at this
  unfold evA
  rw [this]; grind
theorem Sat_scale {x : Nat → Rat} {a b : At} {k : Rat} (hk : 0 < k) (h : evA x a = k * evA x b) (hs : a.2.2 = b.2.2) : Sat x a ↔ Sat x b := by
  unfold Sat
  rw [h, mulQ_neg hk, mulQ_zero hk, hs]
theorem gcdM_dvd {l : List Int} {c : Int} : (∀ x ∈ l, div1 (Nat.gcd (gcdL l) c.natAbs) ∣ x) ∧ div1 (Nat.gcd (gcdL l) c.natAbs) ∣ c := by
  unfold div1
  split
  · exact ⟨fun x _ => Int.one_dvd _, Int.one_dvd _⟩
  · exact ⟨fun x hx => Int.ofNat_dvd_left.2 (Nat.dvd_trans (Nat.gcd_dvd_left _ _) (gcdL_dvd l x hx)), Int.ofNat_dvd_left.2 (Nat.gcd_dvd_right _ _)⟩
theorem map_tdivM {l : List Int} {g : Int} (h : ∀ x ∈ l, g ∣ x) : (l.map (·.tdiv g)).map (· * g) = l := by
  rw [List.map_map]
  conv => rhs; rw [← List.map_id l]
  exact List.map_congr_left (fun x hx => Int.tdiv_mul_cancel (h x hx))
theorem mkAt_sat {l : List Int} {c : Int} {s : Bool} (h : (mkAt l c s).2.2.2 = true) (x : Nat → Rat) : Sat x ((mkAt l c s).1, (mkAt l c s).2.1, (mkAt l c s).2.2.1) ↔ Sat x (l, c, s) := by
  unfold mkAt at h ⊢
  simp only [] at h ⊢
  split at h
  · rename_i hi
    rw [if_pos hi]
    have hg := div1_pos (Nat.gcd (gcdL l) c.natAbs)
    have hd := gcdM_dvd (l := l) (c := c)
    refine (Sat_scale (a := (l, c, s)) (b := (l.map (·.tdiv (div1 (Nat.gcd (gcdL l) c.natAbs))), c.tdiv (div1 (Nat.gcd (gcdL l) c.natAbs)), s)) (castQ_pos hg) ?_ rfl).symm
    unfold evA
    have e1 : dt x 0 l = (div1 (Nat.gcd (gcdL l) c.natAbs) : Rat) * dt x 0 (l.map (·.tdiv (div1 (Nat.gcd (gcdL l) c.natAbs)))) := by
      rw [← dt_mul, map_tdivM hd.1]
    have e2 : (c : Rat) = (div1 (Nat.gcd (gcdL l) c.natAbs) : Rat) * ((c.tdiv (div1 (Nat.gcd (gcdL l) c.natAbs)) : Int) : Rat) := by
      rw [← Rat.intCast_mul]
      exact_mod_cast congrArg (fun x : Int => (x : Rat)) (Int.mul_tdiv_cancel' hd.2).symm
    show (c : Rat) + dt x 0 l = _ * (((c.tdiv (div1 (Nat.gcd (gcdL l) c.natAbs)) : Int) : Rat) + dt x 0 (l.map (·.tdiv (div1 (Nat.gcd (gcdL l) c.natAbs)))))
    rw [Rat.mul_add, ← e1, ← e2]
  · simp [noAt] at h
abbrev aOf (m : At2) : At := (m.1, m.2.1, m.2.2.1)
theorem mixAt_sat {a b : At} {p q : Int} (hp : 0 < p) (hq : 0 < q) (h : (mixAt a.1 a.2.1 a.2.2 p b.1 b.2.1 b.2.2 q).2.2.2 = true) (x : Nat → Rat) :
    Sat x (aOf (mixAt a.1 a.2.1 a.2.2 p b.1 b.2.1 b.2.2 q)) ↔ ((p : Rat) * evA x a + (q : Rat) * evA x b < 0 ∨ (p : Rat) * evA x a + (q : Rat) * evA x b = 0 ∧ a.2.2 = false ∧ b.2.2 = false) := by
  unfold mixAt at h ⊢
  split at h
  · rename_i hi
    rw [if_pos hi]
    unfold aOf
    rw [mkAt_sat h x]
    simp only [Bool.and_eq_true, decide_eq_true_eq] at hi
    have e : evA x (mixL p a.1 q b.1, p * a.2.1 + q * b.2.1, (a.2.2 && decide (0 < p) || b.2.2 && decide (0 < q))) = (p : Rat) * evA x a + (q : Rat) * evA x b := by
      unfold evA
      rw [dt_mix x p q a.1 b.1 0 hi.1.1.2]
      simp only [Rat.intCast_add, Rat.intCast_mul]
      grind
    unfold Sat
    rw [e]
    simp only [hp, hq, decide_true, Bool.and_true, Bool.or_eq_false_iff]
  · simp [noAt] at h
theorem evA_const {x : Nat → Rat} {a : At} (h : gcdL a.1 = 0) : evA x a = (a.2.1 : Rat) := by
  unfold evA
  rw [dt_zero x a.1 0 ((gcdL_zero a.1).1 h), Rat.add_zero]
theorem badA_not {x : Nat → Rat} {a : At} (h : badA a = true) : ¬ Sat x a := by
  unfold badA at h
  simp only [Bool.and_eq_true, Bool.or_eq_true, decide_eq_true_eq] at h
  unfold Sat
  rw [evA_const h.1]
  rintro (h1 | ⟨h1, h2⟩)
  · have h1 : a.2.1 < 0 := by exact_mod_cast h1
    rcases h.2 with h3 | h3 <;> omega
  · have h1 : a.2.1 = 0 := by exact_mod_cast h1
    rcases h.2 with h3 | h3
    · omega
    · rw [h2] at h3; exact absurd h3.2 (by simp)
theorem const_sat {x : Nat → Rat} {a : At} (h : hasV a = false) (hb : badA a = false) : Sat x a := by
  have h0 : gcdL a.1 = 0 := by simpa [hasV] using h
  unfold badA at hb
  unfold Sat
  rw [evA_const h0]
  simp only [h0, decide_true, Bool.true_and, Bool.or_eq_false_iff, decide_eq_false_iff_not] at hb
  by_cases h1 : a.2.1 = 0
  · right
    refine ⟨by rw [h1]; rfl, ?_⟩
    have := hb.2
    simpa [h1] using this
  · left
    have : a.2.1 < 0 := by omega
    exact_mod_cast this
theorem noneA_not {x : Nat → Rat} (d : Int) : ¬ Sat x (noneA d) := by
  refine badA_not ?_
  have h : gcdL (noneA d).1 = 0 := (gcdL_zero _).2 fun n hn => (List.mem_replicate.1 hn).2
  unfold badA
  rw [h]
  simp [noneA]
theorem dirL_mul (l : List Int) : (dirL l).map (· * div1 (gcdL l)) = l := by
  by_cases h : gcdL l = 0
  · have e : div1 (gcdL l) = 1 := by unfold div1; rw [if_pos h]
    unfold dirL
    rw [e]; simp
  · have := dir_back l h
    have e : div1 (gcdL l) = ((gcdL l : Nat) : Int) := by unfold div1; rw [if_neg h]
    rw [e]; exact this
theorem strong_sat {x : Nat → Rat} {r a : At} (hl : r.1.length = a.1.length) (hw : wayAt r.1 a.1 = 0) (hs : 0 ≤ stA r a) (h : Sat x r) : Sat x a := by
  have hd := way_dir hl hw
  have hs : stA a r ≤ 0 := by rw [stA_flip]; omega
  rw [stA_iff] at hs
  have ga := div1_pos (gcdL a.1)
  have gr := div1_pos (gcdL r.1)
  have ea : dt x 0 a.1 = (div1 (gcdL a.1) : Rat) * dt x 0 (dirL a.1) := by rw [← dt_mul, dirL_mul]
  have er : dt x 0 r.1 = (div1 (gcdL r.1) : Rat) * dt x 0 (dirL a.1) := by rw [← hd, ← dt_mul, dirL_mul]
  have qa := castQ_pos ga
  have qr := castQ_pos gr
  unfold Sat evA at h ⊢
  rw [er] at h
  rw [ea]
  have hs' : (a.2.1 : Rat) * (div1 (gcdL r.1) : Rat) < (r.2.1 : Rat) * (div1 (gcdL a.1) : Rat) ∨ (a.2.1 : Rat) * (div1 (gcdL r.1) : Rat) = (r.2.1 : Rat) * (div1 (gcdL a.1) : Rat) ∧ (a.2.2 = true → r.2.2 = true) := by
    rcases hs with hs | ⟨hs, hs2⟩
    · left; exact_mod_cast hs
    · right; exact ⟨by exact_mod_cast hs, hs2⟩
  generalize (div1 (gcdL a.1) : Rat) = g at *
  generalize (div1 (gcdL r.1) : Rat) = k at *
  generalize dt x 0 (dirL a.1) = D at *
  generalize (a.2.1 : Rat) = c at *
  generalize (r.2.1 : Rat) = e at *
  have key : k * (c + g * D) = (c * k - e * g) + g * (e + k * D) := by grind
  have hk0 := mulQ_neg (k := k) (y := c + g * D) qr
  have hk1 := mulQ_zero (k := k) (y := c + g * D) qr
  have hg0 := mulQ_neg (k := g) (y := e + k * D) qa
  have hg1 := mulQ_zero (k := g) (y := e + k * D) qa
  rcases hs' with hs' | ⟨hs', hs2⟩
  · left
    rw [← hk0, key]
    have : g * (e + k * D) ≤ 0 := by
      rcases h with h | h
      · have := hg0.2 h; grind
      · rw [h.1]; simp
    grind
  · rcases h with h | h
    · left
      rw [← hk0, key]
      have := hg0.2 h; grind
    · right
      constructor
      · rw [← hk1, key, h.1]; grind
      · cases hh : a.2.2 with
        | false => rfl
        | true => rw [hs2 hh] at h; exact absurd h.2 (by simp)
theorem nrm_sat {d : Int} {L : List At} (hL : ∀ a ∈ L, okA d a) (x : Nat → Rat) : SatL x (nrm d L) ↔ SatL x L := by
  unfold nrm
  split
  · rename_i h
    obtain ⟨a, ha, hb⟩ := List.any_eq_true.1 h
    constructor
    · intro h; exact absurd (h _ (by simp)) (noneA_not d)
    · intro h; exact absurd (h a ha) (badA_not hb)
  · rename_i h
    have hb : ∀ a ∈ L, badA a = false := fun a ha => by
      cases e : badA a with
      | false => rfl
      | true => exact absurd (List.any_eq_true.2 ⟨a, ha, e⟩) h
    have len : ∀ a ∈ L.filter hasV, a.1.length = d.toNat := fun a ha => by
      have := (hL a (List.mem_filter.1 ha).1).2; omega
    have N := nfL_norm d.toNat (L.filter hasV) len
    constructor
    · intro h a ha
      by_cases hv : hasV a = true
      · obtain ⟨r, hr, k1, k2⟩ := N.best a (List.mem_filter.2 ⟨ha, hv⟩)
        exact strong_sat (by rw [len r (N.sub r hr), len a (List.mem_filter.2 ⟨ha, hv⟩)]) k1 k2 (h r hr)
      · exact const_sat (by simpa using hv) (hb a ha)
    · intro h r hr
      exact h r (List.mem_filter.1 (N.sub r hr)).1
end Go.Proofs.YtjknjekemolndaaGreat.Abs.Pl
set_option linter.unusedVariables false
namespace Go.Proofs.YtjknjekemolndaaGreat.Abs.Pl
open Go
def mx (v : Nat) (a b : At) : At2 := mixAt a.1 a.2.1 a.2.2 (-(b.1.getD v 0)) b.1 b.2.1 b.2.2 (a.1.getD v 0)
theorem mixGo_mem (v : Nat) (a : At) : ∀ (bs acc M : List At), mixGo v a bs acc = some M → (∀ m, m ∈ M ↔ m ∈ acc ∨ ∃ b ∈ bs, b.1.getD v 0 < 0 ∧ m = aOf (mx v a b)) ∧ ∀ b ∈ bs, b.1.getD v 0 < 0 → (mx v a b).2.2.2 = true
  | [], acc, M, e => by
    obtain rfl := Option.some.inj e
    simp
  | b :: bs, acc, M, e => by
    unfold mixGo at e
    split at e
    · rename_i h0
      obtain ⟨h1, h2⟩ := mixGo_mem v a bs acc M e
      refine ⟨fun m => ?_, fun c hc hn => ?_⟩
      · rw [h1 m]
        constructor
        · rintro (h | ⟨c, hc, h3⟩)
          · exact .inl h
          · exact .inr ⟨c, List.mem_cons_of_mem _ hc, h3⟩
        · rintro (h | ⟨c, hc, h3⟩)
          · exact .inl h
          · rcases List.mem_cons.1 hc with rfl | hc
            · omega
            · exact .inr ⟨c, hc, h3⟩
      · rcases List.mem_cons.1 hc with rfl | hc
        · omega
        · exact h2 c hc hn
    · rename_i h0
      split at e
      · rename_i hf
        obtain ⟨h1, h2⟩ := mixGo_mem v a bs _ M e
        refine ⟨fun m => ?_, fun c hc hn => ?_⟩
        · rw [h1 m]
          constructor
          · rintro (h | ⟨c, hc, h3⟩)
            · rcases List.mem_append.1 h with h | h
              · exact .inl h
              · exact .inr ⟨b, List.mem_cons_self, by omega, List.mem_singleton.1 h⟩
            · exact .inr ⟨c, List.mem_cons_of_mem _ hc, h3⟩
          · rintro (h | ⟨c, hc, h3⟩)
            · exact .inl (List.mem_append_left _ h)
            · rcases List.mem_cons.1 hc with rfl | hc
              · exact .inl (List.mem_append_right _ (List.mem_singleton.2 h3.2))
              · exact .inr ⟨c, hc, h3⟩
        · rcases List.mem_cons.1 hc with rfl | hc
          · exact hf
          · exact h2 c hc hn
      · cases e
theorem dropGo_mem (v : Nat) (L : List At) : ∀ (T acc M : List At), dropGo v L T acc = some M → (∀ m, m ∈ M ↔ m ∈ acc ∨ ∃ a ∈ T, 0 < a.1.getD v 0 ∧ ∃ b ∈ L, b.1.getD v 0 < 0 ∧ m = aOf (mx v a b)) ∧ ∀ a ∈ T, 0 < a.1.getD v 0 → ∀ b ∈ L, b.1.getD v 0 < 0 → (mx v a b).2.2.2 = true
  | [], acc, M, e => by
    obtain rfl := Option.some.inj e
    simp
  | a :: T, acc, M, e => by
    unfold dropGo at e
    split at e
    · rename_i h0
      obtain ⟨h1, h2⟩ := dropGo_mem v L T acc M e
      refine ⟨fun m => ?_, fun c hc hn => ?_⟩
      · rw [h1 m]
        constructor
        · rintro (h | ⟨c, hc, h3⟩)
          · exact .inl h
          · exact .inr ⟨c, List.mem_cons_of_mem _ hc, h3⟩
        · rintro (h | ⟨c, hc, h3⟩)
          · exact .inl h
          · rcases List.mem_cons.1 hc with rfl | hc
            · omega
            · exact .inr ⟨c, hc, h3⟩
      · rcases List.mem_cons.1 hc with rfl | hc
        · omega
        · exact h2 c hc hn
    · rename_i h0
      obtain ⟨M1, e1, e2⟩ := Option.bind_eq_some_iff.mp e
      obtain ⟨k1, k2⟩ := mixGo_mem v a L acc M1 e1
      obtain ⟨h1, h2⟩ := dropGo_mem v L T M1 M e2
      refine ⟨fun m => ?_, fun c hc hn => ?_⟩
      · rw [h1 m, k1 m]
        constructor
        · rintro ((h | h) | ⟨c, hc, h3⟩)
          · exact .inl h
          · exact .inr ⟨a, List.mem_cons_self, by omega, h⟩
          · exact .inr ⟨c, List.mem_cons_of_mem _ hc, h3⟩
        · rintro (h | ⟨c, hc, h3⟩)
          · exact .inl (.inl h)
          · rcases List.mem_cons.1 hc with rfl | hc
            · exact .inl (.inr h3.2)
            · exact .inr ⟨c, hc, h3⟩
      · rcases List.mem_cons.1 hc with rfl | hc
        · exact k2
        · exact h2 c hc hn
theorem lowBest : ∀ Ls : List (Rat × Bool), Ls ≠ [] → ∃ m ∈ Ls, ∀ l ∈ Ls, l.1 < m.1 ∨ l.1 = m.1 ∧ (l.2 = true → m.2 = true)
  | [], h => absurd rfl h
  | a :: Ls, _ => by
    by_cases he : Ls = []
    · subst he
      exact ⟨a, by simp, fun l hl => by obtain rfl := List.mem_singleton.1 hl; exact .inr ⟨rfl, id⟩⟩
    · obtain ⟨m, hm, h⟩ := lowBest Ls he
      by_cases h1 : a.1 < m.1 ∨ a.1 = m.1 ∧ (a.2 = true → m.2 = true)
      · exact ⟨m, List.mem_cons_of_mem _ hm, fun l hl => by
          rcases List.mem_cons.1 hl with rfl | hl
          · exact h1
          · exact h l hl⟩
      · refine ⟨a, List.mem_cons_self, fun l hl => ?_⟩
        rcases List.mem_cons.1 hl with rfl | hl
        · exact .inr ⟨rfl, id⟩
        · have := h l hl
          have h2 : ¬ a.1 < m.1 := fun h => h1 (.inl h)
          by_cases h3 : a.1 = m.1
          · have h4 : a.2 = true ∧ ¬ m.2 = true := by
              refine ⟨?_, ?_⟩
              · cases h5 : a.2 with
                | true => rfl
                | false => exact absurd (.inr ⟨h3, fun h => by rw [h5] at h; cases h⟩) h1
              · intro h5; exact h1 (.inr ⟨h3, fun _ => h5⟩)
            rcases this with h5 | ⟨h5, h6⟩
            · exact .inl (by rw [h3]; exact h5)
            · exact .inr ⟨by rw [h3]; exact h5, fun _ => h4.1⟩
          · left
            rcases this with h5 | ⟨h5, h6⟩ <;> grind
theorem upBest (Us : List (Rat × Bool)) (h : Us ≠ []) : ∃ m ∈ Us, ∀ u ∈ Us, m.1 < u.1 ∨ u.1 = m.1 ∧ (u.2 = true → m.2 = true) := by
  obtain ⟨m, hm, k⟩ := lowBest (Us.map fun u => (-u.1, u.2)) (by simpa using h)
  obtain ⟨w, hw, rfl⟩ := List.mem_map.1 hm
  refine ⟨w, hw, fun u hu => ?_⟩
  rcases k _ (List.mem_map.2 ⟨u, hu, rfl⟩) with k | ⟨k, k2⟩
  · left
    have k : -u.1 < -w.1 := k
    grind
  · right
    have k : -u.1 = -w.1 := k
    exact ⟨by grind, k2⟩
def belowU (t : Rat) (u : Rat × Bool) : Prop := t < u.1 ∨ t = u.1 ∧ u.2 = false
def aboveL (t : Rat) (l : Rat × Bool) : Prop := l.1 < t ∨ t = l.1 ∧ l.2 = false
def fitsLU (l u : Rat × Bool) : Prop := l.1 < u.1 ∨ l.1 = u.1 ∧ l.2 = false ∧ u.2 = false
theorem mid_fits {l u : Rat × Bool} (h : fitsLU l u) : aboveL ((l.1 + u.1) / 2) l ∧ belowU ((l.1 + u.1) / 2) u := by
  unfold fitsLU at h
  unfold aboveL belowU
  rcases h with h | ⟨h, h1, h2⟩
  · exact ⟨.inl (by grind), .inl (by grind)⟩
  · exact ⟨.inr ⟨by grind, h1⟩, .inr ⟨by grind, h2⟩⟩
theorem aboveL_mono {t : Rat} {l m : Rat × Bool} (h : l.1 < m.1 ∨ l.1 = m.1 ∧ (l.2 = true → m.2 = true)) (h1 : aboveL t m) : aboveL t l := by
  unfold aboveL at *
  rcases h with h | ⟨h, h2⟩
  · left; rcases h1 with h1 | h1 <;> grind
  · rcases h1 with h1 | ⟨h1, h3⟩
    · left; grind
    · right
      refine ⟨by grind, ?_⟩
      cases hl : l.2 with
      | false => rfl
      | true => rw [h2 hl] at h3; cases h3
theorem belowU_mono {t : Rat} {u m : Rat × Bool} (h : m.1 < u.1 ∨ u.1 = m.1 ∧ (u.2 = true → m.2 = true)) (h1 : belowU t m) : belowU t u := by
  unfold belowU at *
  rcases h with h | ⟨h, h2⟩
  · left; rcases h1 with h1 | h1 <;> grind
  · rcases h1 with h1 | ⟨h1, h3⟩
    · left; grind
    · right
      refine ⟨by grind, ?_⟩
      cases hl : u.2 with
      | false => rfl
      | true => rw [h2 hl] at h3; cases h3
theorem exT (Ls Us : List (Rat × Bool)) (h : ∀ l ∈ Ls, ∀ u ∈ Us, fitsLU l u) : ∃ t, (∀ l ∈ Ls, aboveL t l) ∧ ∀ u ∈ Us, belowU t u := by
  by_cases hl : Ls = []
  · by_cases hu : Us = []
    · subst hl hu
      exact ⟨0, by simp, by simp⟩
    · obtain ⟨m, hm, k⟩ := upBest Us hu
      subst hl
      exact ⟨m.1 - 1, by simp, fun u hu => belowU_mono (k u hu) (.inl (by grind))⟩
  · obtain ⟨m, hm, k⟩ := lowBest Ls hl
    by_cases hu : Us = []
    · subst hu
      exact ⟨m.1 + 1, fun l hl => aboveL_mono (k l hl) (.inl (by grind)), by simp⟩
    · obtain ⟨w, hw, k2⟩ := upBest Us hu
      obtain ⟨h1, h2⟩ := mid_fits (h m hm w hw)
      exact ⟨_, fun l hl => aboveL_mono (k l hl) h1, fun u hu => belowU_mono (k2 u hu) h2⟩
def bv (x : Nat → Rat) (v : Nat) (a : At) : Rat := x v - evA x a / ((a.1.getD v 0 : Int) : Rat)
theorem sat_up {x : Nat → Rat} {v : Nat} {a : At} (h : 0 < a.1.getD v 0) (t : Rat) : Sat (upd x v t) a ↔ belowU t (bv x v a, a.2.2) := by
  unfold Sat belowU
  rw [evA_upd]
  have h := castQ_pos h
  unfold bv
  generalize ((a.1.getD v 0 : Int) : Rat) = n at *
  generalize evA x a = e
  have hn : n ≠ 0 := by grind
  have key : e + n * (t - x v) = n * (t - (x v - e / n)) := by grind
  rw [key, mulQ_neg h, mulQ_zero h]
  constructor
  · rintro (k | k)
    · left; grind
    · right; exact ⟨by grind, k.2⟩
  · rintro (k | k)
    · left; grind
    · right; exact ⟨by grind, k.2⟩
theorem sat_lo {x : Nat → Rat} {v : Nat} {a : At} (h : a.1.getD v 0 < 0) (t : Rat) : Sat (upd x v t) a ↔ aboveL t (bv x v a, a.2.2) := by
  unfold Sat aboveL
  rw [evA_upd]
  have h := castQ_neg h
  unfold bv
  generalize ((a.1.getD v 0 : Int) : Rat) = n at *
  generalize evA x a = e
  have hn : n ≠ 0 := by grind
  have h : 0 < -n := by grind
  have key : e + n * (t - x v) = (-n) * ((x v - e / n) - t) := by grind
  rw [key, mulQ_neg h, mulQ_zero h]
  constructor
  · rintro (k | k)
    · left; grind
    · right; exact ⟨by grind, k.2⟩
  · rintro (k | k)
    · left; grind
    · right; exact ⟨by grind, k.2⟩
theorem sat_no {x : Nat → Rat} {v : Nat} {a : At} (h : a.1.getD v 0 = 0) (t : Rat) : Sat (upd x v t) a ↔ Sat x a := by
  unfold Sat
  rw [evA_upd, h]
  simp [Rat.add_zero]
theorem mx_sat {x : Nat → Rat} {v : Nat} {a b : At} (ha : 0 < a.1.getD v 0) (hb : b.1.getD v 0 < 0) (hf : (mx v a b).2.2.2 = true) : Sat x (aOf (mx v a b)) ↔ fitsLU (bv x v b, b.2.2) (bv x v a, a.2.2) := by
  unfold mx at hf ⊢
  rw [mixAt_sat (show 0 < -(b.1.getD v 0) by omega) ha hf x]
  unfold fitsLU bv
  have h1 := castQ_pos ha
  have h2 := castQ_neg hb
  have e : ((-(b.1.getD v 0) : Int) : Rat) = -((b.1.getD v 0 : Int) : Rat) := by simp
  rw [e]
  generalize ((a.1.getD v 0 : Int) : Rat) = n at *
  generalize ((b.1.getD v 0 : Int) : Rat) = m at *
  generalize evA x a = f
  generalize evA x b = g
  have hn : n ≠ 0 := by grind
  have hm : m ≠ 0 := by grind
  have hk : 0 < n * (-m) := Rat.mul_pos h1 (by grind)
  have key : -m * f + n * g = (n * (-m)) * ((x v - g / m) - (x v - f / n)) := by
    have e1 : n * (f / n) = f := by grind
    have e2 : m * (g / m) = g := by grind
    generalize f / n = y at *
    generalize g / m = z at *
    rw [← e1, ← e2]
    grind
  rw [key, mulQ_neg hk, mulQ_zero hk]
  constructor
  · rintro (k | ⟨k, k1, k2⟩)
    · left; show x v - g / m < x v - f / n; grind
    · right; exact ⟨by show x v - g / m = x v - f / n; grind, k2, k1⟩
  · rintro (k | ⟨k, k1, k2⟩)
    · have k : x v - g / m < x v - f / n := k
      left; grind
    · have k : x v - g / m = x v - f / n := k
      right; exact ⟨by grind, k2, k1⟩
theorem dropGo_sat {v : Nat} {L M : List At} (e : dropGo v L L (L.filter (free v)) = some M) (x : Nat → Rat) : SatL x M ↔ ∃ t, SatL (upd x v t) L := by
  obtain ⟨h1, h2⟩ := dropGo_mem v L L _ M e
  constructor
  · intro h
    obtain ⟨t, k1, k2⟩ := exT ((L.filter fun a : At => decide (a.1.getD v 0 < 0)).map fun a : At => (bv x v a, a.2.2)) ((L.filter fun a : At => decide (0 < a.1.getD v 0)).map fun a : At => (bv x v a, a.2.2)) (by
      intro l hl u hu
      obtain ⟨b, hb, rfl⟩ := List.mem_map.1 hl
      obtain ⟨a, ha, rfl⟩ := List.mem_map.1 hu
      simp only [List.mem_filter, decide_eq_true_eq] at ha hb
      rw [← mx_sat ha.2 hb.2 (h2 a ha.1 ha.2 b hb.1 hb.2)]
      exact h _ ((h1 _).2 (.inr ⟨a, ha.1, ha.2, b, hb.1, hb.2, rfl⟩)))
    refine ⟨t, fun a ha => ?_⟩
    rcases Int.lt_trichotomy (a.1.getD v 0) 0 with hz | hz | hz
    · rw [sat_lo hz]
      exact k1 _ (List.mem_map.2 ⟨a, List.mem_filter.2 ⟨ha, by simpa using hz⟩, rfl⟩)
    · rw [sat_no hz]
      exact h a ((h1 a).2 (.inl (List.mem_filter.2 ⟨ha, by simpa [free] using hz⟩)))
    · rw [sat_up hz]
      exact k2 _ (List.mem_map.2 ⟨a, List.mem_filter.2 ⟨ha, by simpa using hz⟩, rfl⟩)
  · rintro ⟨t, h⟩ m hm
    rcases (h1 m).1 hm with hm | ⟨a, ha, hz, b, hb, hz', rfl⟩
    · obtain ⟨hm, hz⟩ := List.mem_filter.1 hm
      have hz : m.1.getD v 0 = 0 := by simpa [free] using hz
      rw [← sat_no hz t]
      exact h m hm
    · rw [mx_sat hz hz' (h2 a ha hz b hb hz')]
      have k1 := (sat_up hz t).1 (h a ha)
      have k2 := (sat_lo hz' t).1 (h b hb)
      unfold belowU at k1
      unfold aboveL at k2
      unfold fitsLU
      dsimp only at k1 k2 ⊢
      rcases k1 with k1 | ⟨k1, s1⟩
      · left; rcases k2 with k2 | k2 <;> grind
      · rcases k2 with k2 | ⟨k2, s2⟩
        · left; grind
        · right; exact ⟨by grind, s2, s1⟩
theorem dropC_some {d : Int} {v : Nat} {L : List At} (h : (dropC d v L).2.2 = true) : ∃ M, dropGo v L L (L.filter (free v)) = some M ∧ (dropC d v L).2.1 = nrm d M ∧ (dropC d v L).1 = d := by
  unfold dropC at h ⊢
  cases e : dropGo v L L (L.filter (free v)) with
  | none => rw [e] at h; cases h
  | some M =>
    rw [e] at h
    simp only [limN] at h ⊢
    split at h
    · cases h
    · rename_i h16
      rw [if_neg h16]
      exact ⟨M, rfl, rfl, rfl⟩
theorem mid_ok {d : Int} (v : Nat) {L M : List At} (hL : ∀ a ∈ L, okA d a) (e : dropGo v L L (L.filter (free v)) = some M) : ∀ b ∈ M, okA d b :=
  (dropGo_ok v hL L _ M hL (fun b hb => hL b (List.mem_filter.1 hb).1) e).1
theorem dropC_sat {d : Int} {v : Nat} {L : List At} (hL : ∀ a ∈ L, okA d a) (h : (dropC d v L).2.2 = true) (x : Nat → Rat) : SatL x (dropC d v L).2.1 ↔ ∃ t, SatL (upd x v t) L := by
  obtain ⟨M, e, e2, _⟩ := dropC_some h
  rw [e2, nrm_sat (mid_ok v hL e), dropGo_sat e]
def noV (v : Nat) (L : List At) : Prop := ∀ a ∈ L, a.1.getD v 0 = 0
theorem mkAt_getD {l : List Int} {c : Int} {s : Bool} {v : Nat} (h : l.getD v 0 = 0) : (mkAt l c s).1.getD v 0 = 0 := by
  unfold mkAt
  dsimp only
  split
  · show (l.map _).getD v 0 = 0
    rw [List.getD_eq_getElem?_getD, List.getElem?_map]
    rw [List.getD_eq_getElem?_getD] at h
    cases e : l[v]? with
    | none => rfl
    | some y => rw [e] at h; simp at h; simp [h]
  · simp [noAt]
theorem mix_getD (p q : Int) (v : Nat) : ∀ (l m : List Int), l.length = m.length → (mixL p l q m).getD v 0 = p * l.getD v 0 + q * m.getD v 0 := by
  intro l m h
  unfold mixL
  simp only [List.getD_eq_getElem?_getD, List.getElem?_zipWith]
  by_cases hv : v < l.length
  · rw [List.getElem?_eq_getElem hv, List.getElem?_eq_getElem (by omega)]; rfl
  · rw [List.getElem?_eq_none (by omega), List.getElem?_eq_none (by omega)]; simp
theorem mx_getD {v w : Nat} {a b : At} (h : (-(b.1.getD v 0)) * a.1.getD w 0 + a.1.getD v 0 * b.1.getD w 0 = 0) : (aOf (mx v a b)).1.getD w 0 = 0 := by
  show (mx v a b).1.getD w 0 = 0
  unfold mx mixAt
  split
  · rename_i hi
    simp only [Bool.and_eq_true, decide_eq_true_eq] at hi
    exact mkAt_getD (by rw [mix_getD _ _ _ _ _ hi.1.1.2]; exact h)
  · simp [noAt]
theorem noneA_getD (d : Int) (v : Nat) : (noneA d).1.getD v 0 = 0 := by
  unfold noneA
  rw [List.getD_eq_getElem?_getD, List.getElem?_replicate]
  split <;> rfl
theorem nrm_noV {d : Int} {v : Nat} {L : List At} (hL : ∀ a ∈ L, okA d a) (h : noV v L) : noV v (nrm d L) := by
  unfold nrm
  split
  · intro a ha
    obtain rfl := List.mem_singleton.1 ha
    exact noneA_getD d v
  · intro a ha
    have len : ∀ a ∈ L.filter hasV, a.1.length = d.toNat := fun a ha => by
      have := (hL a (List.mem_filter.1 ha).1).2; omega
    exact h a (List.mem_filter.1 ((nfL_norm d.toNat (L.filter hasV) len).sub a ha)).1
theorem dropC_noV {d : Int} {v w : Nat} {L : List At} (hL : ∀ a ∈ L, okA d a) (h : (dropC d v L).2.2 = true) (hw : w = v ∨ noV w L) : noV w (dropC d v L).2.1 := by
  obtain ⟨M, e, e2, _⟩ := dropC_some h
  rw [e2]
  refine nrm_noV (mid_ok v hL e) ?_
  intro m hm
  obtain ⟨h1, h2⟩ := dropGo_mem v L L _ M e
  rcases (h1 m).1 hm with hm | ⟨a, ha, hz, b, hb, hz', rfl⟩
  · obtain ⟨hm, hz⟩ := List.mem_filter.1 hm
    have hz : m.1.getD v 0 = 0 := by simpa [free] using hz
    rcases hw with rfl | hw
    · exact hz
    · exact hw m hm
  · refine mx_getD ?_
    rcases hw with rfl | hw
    · rw [Int.neg_mul, Int.mul_comm]; omega
    · rw [hw a ha, hw b hb]; simp
theorem elim_sat {d : Int} (hd : 0 ≤ d ∧ d ≤ 4) : ∀ (n : Nat) (L R : List At), L.length ≤ 16 → (∀ a ∈ L, okA d a) → elim d n L = some R → (∀ a ∈ R, okA d a) ∧ (∀ w, (w < n ∨ noV w L) → noV w R) ∧ ∀ x, SatL x R ↔ ∃ y : Nat → Rat, (∀ k, n ≤ k → y k = x k) ∧ SatL y L
  | 0, L, R, h16, hL, e => by
    obtain rfl := Option.some.inj e
    refine ⟨hL, fun w hw => hw.resolve_left (by omega), fun x => ⟨fun h => ⟨x, fun _ _ => rfl, h⟩, ?_⟩⟩
    rintro ⟨y, hy, h⟩
    have : y = x := funext fun k => hy k (Nat.zero_le k)
    rw [← this]; exact h
  | n + 1, L, R, h16, hL, e => by
    unfold elim at e
    split at e
    · rename_i h
      have ok := dropC_ok hd n h16 hL h
      obtain ⟨r1, r2, r3⟩ := elim_sat hd n _ R ok.2.1 ok.2.2 e
      refine ⟨r1, fun w hw => r2 w ?_, fun x => ?_⟩
      · by_cases hwn : w < n
        · exact .inl hwn
        · right
          refine dropC_noV hL h ?_
          rcases hw with hw | hw
          · exact .inl (by omega)
          · exact .inr hw
      · rw [r3 x]
        constructor
        · rintro ⟨y, hy, h1⟩
          obtain ⟨t, h2⟩ := (dropC_sat hL h y).1 h1
          refine ⟨upd y n t, fun k hk => ?_, h2⟩
          unfold upd
          rw [if_neg (by omega)]
          exact hy k (by omega)
        · rintro ⟨y, hy, h1⟩
          refine ⟨upd y n (x n), fun k hk => ?_, (dropC_sat hL h _).2 ⟨y n, by rw [upd_upd, upd_self]; exact h1⟩⟩
          unfold upd
          split
          · rename_i hk2; rw [hk2]
          · exact hy k (by omega)
    · cases e
theorem nrm_nf {d : Int} {L : List At} (hL : ∀ a ∈ L, okA d a) : nrm d L = [noneA d] ∨ ∀ a ∈ nrm d L, gcdL a.1 ≠ 0 := by
  unfold nrm
  split
  · exact .inl rfl
  · right
    intro a ha
    have len : ∀ a ∈ L.filter hasV, a.1.length = d.toNat := fun a ha => by
      have := (hL a (List.mem_filter.1 ha).1).2; omega
    have := (List.mem_filter.1 ((nfL_norm d.toNat (L.filter hasV) len).sub a ha)).2
    simpa [hasV] using this
theorem noV_gcd {d : Int} {L : List At} (hL : ∀ a ∈ L, okA d a) (h : ∀ w, w < d.toNat → noV w L) : ∀ a ∈ L, gcdL a.1 = 0 := by
  intro a ha
  rw [gcdL_zero]
  intro n hn
  obtain ⟨i, hi, rfl⟩ := List.mem_iff_getElem.1 hn
  have := h i (by have := (hL a ha).2; omega) a ha
  rwa [getD_of_lt hi] at this
theorem elim_nf {d : Int} (hd : 0 ≤ d ∧ d ≤ 4) : ∀ (n : Nat) (L R : List At), L.length ≤ 16 → (∀ a ∈ L, okA d a) → (L = [noneA d] ∨ ∀ a ∈ L, gcdL a.1 ≠ 0) → elim d n L = some R → (R = [noneA d] ∨ ∀ a ∈ R, gcdL a.1 ≠ 0)
  | 0, L, R, h16, hL, h0, e => by
    obtain rfl := Option.some.inj e
    exact h0
  | n + 1, L, R, h16, hL, h0, e => by
    unfold elim at e
    split at e
    · rename_i h
      have ok := dropC_ok hd n h16 hL h
      refine elim_nf hd n _ R ok.2.1 ok.2.2 ?_ e
      obtain ⟨M, e1, e2, _⟩ := dropC_some h
      rw [e2]
      exact nrm_nf (mid_ok n hL e1)
    · cases e
theorem elim_end {d : Int} (hd : 0 ≤ d ∧ d ≤ 4) {L R : List At} (h16 : L.length ≤ 16) (hL : ∀ a ∈ L, okA d a) (e : elim d d.toNat (nrm d L) = some R) : (R = [] ∧ ∃ x, SatL x L) ∨ (R = [noneA d] ∧ ∀ x, ¬ SatL x L) := by
  have hn := nrm_ok hd hL
  obtain ⟨r1, r2, r3⟩ := elim_sat hd d.toNat _ R (nrm_16 d L h16) hn e
  have rf := elim_nf hd d.toNat _ R (nrm_16 d L h16) hn (nrm_nf hL) e
  have rz := noV_gcd r1 fun w hw => r2 w (.inl hw)
  rcases rf with rf | rf
  · right
    refine ⟨rf, fun x hx => ?_⟩
    have := (r3 x).2 ⟨x, fun _ _ => rfl, (nrm_sat hL x).2 hx⟩
    rw [rf] at this
    exact noneA_not d (this _ (by simp))
  · left
    have : R = [] := by
      cases R with
      | nil => rfl
      | cons a R => exact absurd (rz a (by simp)) (rf a (by simp))
    refine ⟨this, ?_⟩
    obtain ⟨y, _, hy⟩ := (r3 (fun _ => 0)).1 (by rw [this]; intro a ha; cases ha)
    exact ⟨y, (nrm_sat hL y).1 hy⟩
theorem emptyC_sat {d : Int} {L : List At} (h : (emptyC d L).2 = true) : isCe d L = true ∧ ((emptyC d L).1 = true ↔ ∀ x, ¬ SatL x L) := by
  unfold emptyC at h ⊢
  split at h
  · rename_i hc
    rw [if_pos hc]
    obtain ⟨hd, h16, hL⟩ := okCe.1 hc
    cases e : elim d d.toNat (nrm d L) with
    | none => rw [e] at h; cases h
    | some R =>
      refine ⟨hc, ?_⟩
      rcases elim_end hd h16 hL e with ⟨rfl, x, hx⟩ | ⟨rfl, hx⟩
      · simp only [List.length_nil, Nat.lt_irrefl, decide_false, Bool.false_eq_true, false_iff]
        exact fun k => k x hx
      · simp only [List.length_singleton, Nat.zero_lt_one, decide_true, true_iff]
        exact hx
  · cases h
end Go.Proofs.YtjknjekemolndaaGreat.Abs.Pl
namespace Go.Proofs.YtjknjekemolndaaGreat.ZL
open Go Go.Proofs.YtjknjekemolndaaGreat.Abs Go.Proofs.YtjknjekemolndaaGreat.Abs.Pl Go.RowKit Go.Proofs
set_option linter.unusedVariables false
set_option linter.unusedSimpArgs false
abbrev mC (c : Ce) : Int × List At × Bool := minD c.1 c.2
theorem minGo_sub {d : Int} {P : At → Prop} : ∀ (n i : Nat) {x y : List At}, (∀ a ∈ x, P a) → minGo d n i x = some y → ∀ a ∈ y, P a
  | 0, _, x, y, hx, h => by obtain rfl := Option.some.inj h; exact hx
  | n + 1, i, x, y, hx, h => by
    unfold minGo at h
    split at h
    · split at h
      · refine minGo_sub n i ?_ h
        intro a ha
        rcases List.mem_append.1 ha with ha | ha
        · exact hx a (List.mem_of_mem_take ha)
        · exact hx a (List.mem_of_mem_drop ha)
      · exact minGo_sub n (i + 1) hx h
    · exact absurd h (by simp [-Bool.exists_bool, -Int.not_le, -Int.not_lt, -getElem?_pos, -List.getD_eq_getElem?_getD])
def okC (d : Int) (c : Ce) : Prop := c.1 = d ∧ isCe d c.2 = true
theorem minD_ok {d : Int} {L : List At} (h : (minD d L).2.2 = true) : (minD d L).1 = d ∧ isCe d (minD d L).2.1 = true ∧ NF d (minD d L).2.1 := by
  unfold minD at h ⊢
  split at h
  · rename_i hc
    rw [if_pos hc]
    have hd := isCe_d hc
    have hok := nrm_okL hd (isCe_a hc)
    have h16 := nrm_16 d L (isCe_l hc)
    unfold minC at h ⊢
    split at h
    · rename_i h1
      rw [if_pos h1]
      split at h
      · rename_i h2
        rw [if_pos h2]
        exact ⟨rfl, okCe.2 ⟨hd, by simp [-Bool.exists_bool, -Int.not_le, -Int.not_lt, -getElem?_pos, -List.getD_eq_getElem?_getD], fun a ha => by rw [List.mem_singleton.1 ha]; exact noneA_ok hd⟩, .inl rfl⟩
      · rename_i h2
        rw [if_neg h2]
        cases hy : minGo d (nrm d L).length 0 (nrm d L) with
        | none => rw [hy] at h; cases h
        | some y =>
          have o := minGo_ok _ _ h16 hok hy
          refine ⟨rfl, okCe.2 ⟨hd, o.1, o.2⟩, .inr ?_⟩
          rcases nrm_NF d L with hn | hn
          · exfalso
            apply h2
            rw [(emptyC_sat h1).2, hn]
            intro x hx
            exact noneA_not d (hx _ (by simp [-Bool.exists_bool, -Int.not_le, -Int.not_lt, -getElem?_pos, -List.getD_eq_getElem?_getD]))
          · exact minGo_sub _ _ hn hy
    · cases h
  · cases h
theorem emF_NF {d : Int} {x : List At} (h : NF d x) : emF x = true ↔ x.length = 1 ∧ gcdL (nth x 0).1 = 0 := by
  rcases h with rfl | h
  · have hg : gcdL (noneA d).1 = 0 := gcd_zeros _
    have hh : hasV (noneA d) = false := by simp [-Bool.exists_bool, -Int.not_le, -Int.not_lt, -getElem?_pos, -List.getD_eq_getElem?_getD, hasV, hg]
    have he : emF [noneA d] = true := by
      show (decide (1 = 1) && (!hasV (noneA d) && (decide ((1 : Int) = 1) && !false))) = true
      rw [hh]; rfl
    exact ⟨fun _ => ⟨rfl, hg⟩, fun _ => he⟩
  · constructor
    · intro he
      rcases x with _ | ⟨a, _ | ⟨b, R⟩⟩
      · simp [-Bool.exists_bool, -Int.not_le, -Int.not_lt, -getElem?_pos, -List.getD_eq_getElem?_getD, emF] at he
      · have hh : hasV a = true := by simp [-Bool.exists_bool, -Int.not_le, -Int.not_lt, -getElem?_pos, -List.getD_eq_getElem?_getD, hasV, h a List.mem_cons_self]
        have : emF [a] = false := by
          show (decide (1 = 1) && (!hasV a && (decide (a.2.1 = 1) && !a.2.2))) = false
          rw [hh]; rfl
        rw [this] at he; cases he
      · simp [-Bool.exists_bool, -Int.not_le, -Int.not_lt, -getElem?_pos, -List.getD_eq_getElem?_getD, emF] at he
    · rintro ⟨h1, h2⟩
      exact absurd h2 (h _ (nth_mem (by omega)))
def addC (cs : List Ce) (c : Ce) : Option (List Ce) := if (mC c).2.2 = true then (if emF (mC c).2.1 = true then some cs else if cs.length < 12 then some (cs ++ [((mC c).1, (mC c).2.1)]) else none) else none
def addS (d : Int) (cs : List Ce) (c : Ce) : Int × List Ce × Bool := if (mC c).2.2 = true then (if emF (mC c).2.1 = true then (d, cs, true) else (d, cs ++ [((mC c).1, (mC c).2.1)], decide ((cs.length : Int) + 1 ≤ 12))) else (0, [], false)
theorem addS_t {d : Int} {cs : List Ce} {c : Ce} (h : (addS d cs c).2.2 = true) : addC cs c = some (addS d cs c).2.1 ∧ (addS d cs c).1 = d := by
  unfold addS at h ⊢
  unfold addC
  split at h
  · rename_i h1
    rw [if_pos h1, if_pos h1]
    split at h
    · rename_i h2; rw [if_pos h2, if_pos h2]; exact ⟨rfl, rfl⟩
    · rename_i h2
      rw [if_neg h2, if_neg h2]
      have h : (cs.length : Int) + 1 ≤ 12 := by simpa [-Bool.exists_bool, -Int.not_le, -Int.not_lt, -getElem?_pos, -List.getD_eq_getElem?_getD] using h
      rw [if_pos (by omega)]
      exact ⟨rfl, rfl⟩
  · cases h
theorem addS_f {d : Int} {cs : List Ce} {c : Ce} (h : ¬ (addS d cs c).2.2 = true) : addC cs c = none := by
  unfold addS at h
  unfold addC
  split at h
  · rename_i h1
    rw [if_pos h1]
    split at h
    · exact absurd rfl h
    · rename_i h2
      rw [if_neg h2]
      have h : ¬ (cs.length : Int) + 1 ≤ 12 := by simpa [-Bool.exists_bool, -Int.not_le, -Int.not_lt, -getElem?_pos, -List.getD_eq_getElem?_getD] using h
      rw [if_neg (by omega)]
  · rename_i h1
    rw [if_neg h1]
def okCs (d : Int) (cs : List Ce) : Prop := cs.length ≤ 12 ∧ ∀ c ∈ cs, okC d c
theorem addC_ok {d : Int} {cs x : List Ce} {c : Ce} (hc : c.1 = d) (hs : okCs d cs) (h : addC cs c = some x) : okCs d x := by
  unfold addC at h
  split at h
  · rename_i h1
    have hm := minD_ok h1
    split at h
    · obtain rfl := Option.some.inj h; exact hs
    · split at h
      · rename_i h12
        obtain rfl := Option.some.inj h
        refine ⟨by simp [-Bool.exists_bool, -Int.not_le, -Int.not_lt, -getElem?_pos, -List.getD_eq_getElem?_getD]; omega, fun y hy => ?_⟩
        rcases List.mem_append.1 hy with hy | hy
        · exact hs.2 y hy
        · obtain rfl := List.mem_singleton.1 hy
          rw [← hc]
          exact ⟨hm.1, hm.2.1⟩
      · cases h
  · cases h
def neatGo : List Ce → List Ce → Option (List Ce)
  | [], acc => some acc
  | c :: cs, acc => (addC acc c).bind (neatGo cs)
theorem neatGo_ok {d : Int} : ∀ {cs acc x : List Ce}, (∀ c ∈ cs, okC d c) → okCs d acc → neatGo cs acc = some x → okCs d x
  | [], acc, x, _, ha, h => by obtain rfl := Option.some.inj h; exact ha
  | c :: cs, acc, x, hc, ha, h => by
    obtain ⟨y, h1, h2⟩ := Option.bind_eq_some_iff.1 h
    exact neatGo_ok (fun z hz => hc z (by simp [-Bool.exists_bool, -Int.not_le, -Int.not_lt, -getElem?_pos, -List.getD_eq_getElem?_getD, hz])) (addC_ok (hc c (by simp [-Bool.exists_bool, -Int.not_le, -Int.not_lt, -getElem?_pos, -List.getD_eq_getElem?_getD])).1 ha h1) h2
def optR (d : Int) : Option (List Ce) → Int × List Ce × Bool
  | some x => (d, x, true)
  | none => (0, [], false)
def neatD (d : Int) (cs : List Ce) : Int × List Ce × Bool := if isRe d cs = true then optR d (neatGo cs []) else (0, [], false)
abbrev RD (r : Int × List Ce × Bool) : V := .tup [R1 r.1 r.2.1, B r.2.2]
theorem okC_len {d : Int} {c : Ce} (h : okC d c) : c.2.length ≤ 16 := isCe_l h.2
theorem isRe_ok {d : Int} {cs : List Ce} (h : isRe d cs = true) : (0 ≤ d ∧ d ≤ 4) ∧ cs.length ≤ 12 ∧ ∀ c ∈ cs, okC d c := by
  obtain ⟨h1, h2, h3⟩ := isRe_iff.1 h
  exact ⟨h1, h2, fun c hc => ⟨(h3 c hc).2, by rw [← (h3 c hc).2]; exact (h3 c hc).1⟩⟩
theorem csD_nil : csD [] = [] := rfl
attribute [simp] csD_nil
set_option maxRecDepth 100000 in
theorem l4Add (d : Int) (cs : List Ce) (c : Ce) (hc : okC d c) (h12 : cs.length ≤ 12) : Cn Tryz.prog 73 [R1 d cs, C1 c.1 c.2] (RD (addS d cs c)) hemp := by
  obtain ⟨hc1, hc2⟩ := hc
  obtain ⟨e, L⟩ := c
  simp only at hc1 hc2
  subst hc1
  have hd := isCe_d hc2
  refine Cn.of [0] mixed Tryz.func73 rfl Tryz.call73 (by kernel_rfl) rfl ?_
  simp -implicitDefEqProofs -dsimp +contextual [-Bool.exists_bool, -Int.not_le, -Int.not_lt, -getElem?_pos, -List.getD_eq_getElem?_getD, Tryz.f73]
  refine CallJ.pure (l3Normal e hd L (by have := isCe_l hc2; omega) (isCe_a hc2)) rfl (by simp [-Bool.exists_bool, -Int.not_le, -Int.not_lt, -getElem?_pos, -List.getD_eq_getElem?_getD]) ?_
  simp -implicitDefEqProofs -dsimp +contextual [-Bool.exists_bool, -Int.not_le, -Int.not_lt, -getElem?_pos, -List.getD_eq_getElem?_getD]
  have em : minC e (nrm e L) = mC (e, L) := by show _ = minD e L; rw [minD, if_pos hc2]
  have hm := l3Minimal e (nrm e L) (by have := nrm_16 e L (isCe_l hc2); omega)
  rw [em] at hm
  have ho : (mC (e, L)).2.2 = true → (mC (e, L)).1 = e ∧ isCe e (mC (e, L)).2.1 = true ∧ NF e (mC (e, L)).2.1 := minD_ok
  refine CallJ.pure hm rfl (by simp [-Bool.exists_bool, -Int.not_le, -Int.not_lt, -getElem?_pos, -List.getD_eq_getElem?_getD]) ?_
  unfold addS
  generalize mC (e, L) = m at ho ⊢
  obtain ⟨m1, m2, m3⟩ := m
  simp only at ho ⊢
  simp -implicitDefEqProofs -dsimp +contextual [-Bool.exists_bool, -Int.not_le, -Int.not_lt, -getElem?_pos, -List.getD_eq_getElem?_getD]
  refine ⟨fun hf => ?_, fun hf => RLe.pure 2 (by simp [-Bool.exists_bool, -Int.not_le, -Int.not_lt, -getElem?_pos, -List.getD_eq_getElem?_getD, asD])⟩
  obtain ⟨rfl, o2, o3⟩ := ho hf
  have hl := isCe_l o2
  refine ⟨fun h16 => absurd h16 (by omega), fun _ => ?_⟩
  have he := emF_NF o3
  refine ⟨fun h1 => ⟨by omega, ?_⟩, fun h1 => ?_⟩
  · obtain ⟨a, rfl⟩ : ∃ a, m2 = [a] := List.length_eq_one_iff.1 (by omega)
    refine CallJ.pure (ks := []) (l2Constant a (okA_small (isCe_a o2 a (by simp [-Bool.exists_bool, -Int.not_le, -Int.not_lt, -getElem?_pos, -List.getD_eq_getElem?_getD])))) (by simp [-Bool.exists_bool, -Int.not_le, -Int.not_lt, -getElem?_pos, -List.getD_eq_getElem?_getD, asD, aD]) (by simp [-Bool.exists_bool, -Int.not_le, -Int.not_lt, -getElem?_pos, -List.getD_eq_getElem?_getD]) ?_
    have ht : emF [a] = decide (gcdL a.1 = 0) := by
      rw [Bool.eq_iff_iff, he]
      have : nth [a] 0 = a := rfl
      rw [this]; simp [-Bool.exists_bool, -Int.not_le, -Int.not_lt, -getElem?_pos, -List.getD_eq_getElem?_getD]
    simp -implicitDefEqProofs -dsimp +contextual [-Bool.exists_bool, -Int.not_le, -Int.not_lt, -getElem?_pos, -List.getD_eq_getElem?_getD, hf]
    refine ⟨fun h0 => RLe.pure 2 (by rw [if_pos (by rw [ht]; simpa [-Bool.exists_bool, -Int.not_le, -Int.not_lt, -getElem?_pos, -List.getD_eq_getElem?_getD] using h0)]; simp [-Bool.exists_bool, -Int.not_le, -Int.not_lt, -getElem?_pos, -List.getD_eq_getElem?_getD]), fun h0 => ?_⟩
    refine ⟨⟨by omega, by simp [-Bool.exists_bool, -Int.not_le, -Int.not_lt, -getElem?_pos, -List.getD_eq_getElem?_getD, maxLen]; omega⟩, ⟨by omega, by simp [-Bool.exists_bool, -Int.not_le, -Int.not_lt, -getElem?_pos, -List.getD_eq_getElem?_getD, maxLen]; omega⟩, Quiet.of [2] (by kernel_rfl) (by simp [-Bool.exists_bool, -Int.not_le, -Int.not_lt, -getElem?_pos, -List.getD_eq_getElem?_getD, allP, offB]), Quiet.of [] (by kernel_rfl) (by simp [-Bool.exists_bool, -Int.not_le, -Int.not_lt, -getElem?_pos, -List.getD_eq_getElem?_getD, allP, offB]), Quiet.of [8] (by kernel_rfl) (by simp [-Bool.exists_bool, -Int.not_le, -Int.not_lt, -getElem?_pos, -List.getD_eq_getElem?_getD, allP, offB]), ?_⟩
    rw [if_neg (by rw [ht]; simpa [-Bool.exists_bool, -Int.not_le, -Int.not_lt, -getElem?_pos, -List.getD_eq_getElem?_getD] using h0)]
    exact RLe.pure 3 (by simp [-Bool.exists_bool, -Int.not_le, -Int.not_lt, -getElem?_pos, -List.getD_eq_getElem?_getD, setH, csD_append, csD_cons, cD])
  · refine ⟨⟨by omega, by simp [-Bool.exists_bool, -Int.not_le, -Int.not_lt, -getElem?_pos, -List.getD_eq_getElem?_getD, maxLen]; omega⟩, ⟨by omega, by simp [-Bool.exists_bool, -Int.not_le, -Int.not_lt, -getElem?_pos, -List.getD_eq_getElem?_getD, maxLen]; omega⟩, Quiet.of [2] (by kernel_rfl) (by simp [-Bool.exists_bool, -Int.not_le, -Int.not_lt, -getElem?_pos, -List.getD_eq_getElem?_getD, allP, offB]), Quiet.of [] (by kernel_rfl) (by simp [-Bool.exists_bool, -Int.not_le, -Int.not_lt, -getElem?_pos, -List.getD_eq_getElem?_getD, allP, offB]), Quiet.of [8] (by kernel_rfl) (by simp [-Bool.exists_bool, -Int.not_le, -Int.not_lt, -getElem?_pos, -List.getD_eq_getElem?_getD, allP, offB]), ?_⟩
    rw [if_neg (by intro h; have := (he.1 h).1; omega)]
    exact RLe.pure 3 (by simp [-Bool.exists_bool, -Int.not_le, -Int.not_lt, -getElem?_pos, -List.getD_eq_getElem?_getD, setH, csD_append, csD_cons, cD])
end Go.Proofs.YtjknjekemolndaaGreat.ZL
namespace Go.Proofs.YtjknjekemolndaaGreat.ZL
open Go Go.Proofs.YtjknjekemolndaaGreat.Abs Go.Proofs.YtjknjekemolndaaGreat.Abs.Pl Go.RowKit Go.Proofs
set_option linter.unusedVariables false
set_option linter.unusedSimpArgs false
set_option maxRecDepth 100000
theorem NeatRegion (d : Int) (L : List Ce) (h20 : L.length ≤ 1048576) (hc : ∀ c ∈ L, c.2.length ≤ 1048576) : Cn Tryz.prog 26 [R1 d L] (RD (neatD d L)) hemp := by
  refine Cn.of [0] mixed Tryz.func26 rfl Tryz.call26 (by kernel_rfl) rfl ?_
  simp -implicitDefEqProofs -dsimp +contextual [-Bool.exists_bool, -Int.not_le, -Int.not_lt, -getElem?_pos, -List.getD_eq_getElem?_getD, Tryz.f26]
  refine CallJ.pure (IsRegion d L h20 hc) rfl (by simp [-Bool.exists_bool, -Int.not_le, -Int.not_lt, -getElem?_pos, -List.getD_eq_getElem?_getD]) ?_
  simp -implicitDefEqProofs -dsimp +contextual [-Bool.exists_bool, -Int.not_le, -Int.not_lt, -getElem?_pos, -List.getD_eq_getElem?_getD]
  refine ⟨fun hr => ?_, fun hr => RLe.pure 2 (by simp [-Bool.exists_bool, -Int.not_le, -Int.not_lt, -getElem?_pos, -List.getD_eq_getElem?_getD, neatD, hr, csD])⟩
  obtain ⟨hd, h12, hok⟩ := isRe_ok hr
  have e0 : neatD d L = optR d (neatGo L []) := by rw [neatD, if_pos hr]
  refine WP.loop mixed [0] (fun p : Nat × List Ce => ⟨tl [(1, .ptr (0, 0) 0), (2, .ptr (1, 0) 0), (4, .ptr (2, 0) 0), (5, I p.1)], hl [((0, 0), .box [I d, Cs L]), ((1, 0), .box [I 0, .nil]), ((2, 0), .box [I d, Cs p.2])], 3⟩) (fun p => p.1 ≤ L.length ∧ okCs d p.2 ∧ neatGo L [] = neatGo (L.drop p.1) p.2) (fun p => L.length - p.1) (0, []) (by kernel_rfl) ?_ ?_ ?_
  · refine Le.told [((2, 0), (9, 0))] ?_ ?_ ?_ <;> simp [-Bool.exists_bool, -Int.not_le, -Int.not_lt, -getElem?_pos, -List.getD_eq_getElem?_getD, setH, csD]
  · exact ⟨Nat.zero_le _, ⟨by simp [-Bool.exists_bool, -Int.not_le, -Int.not_lt, -getElem?_pos, -List.getD_eq_getElem?_getD], by simp [-Bool.exists_bool, -Int.not_le, -Int.not_lt, -getElem?_pos, -List.getD_eq_getElem?_getD]⟩, rfl⟩
  · rintro ⟨i, acc⟩ ⟨hi, ha, he⟩
    simp only at hi ha he
    by_cases h : i < L.length
    · simp -implicitDefEqProofs -dsimp +contextual [-Bool.exists_bool, -Int.not_le, -Int.not_lt, -getElem?_pos, -List.getD_eq_getElem?_getD, h]
      have hcc := hok _ (nth_mem h)
      refine CallJ.pure (l4Add d acc (nth L i) hcc ha.1) rfl (by simp [-Bool.exists_bool, -Int.not_le, -Int.not_lt, -getElem?_pos, -List.getD_eq_getElem?_getD]) ?_
      rw [nth_drop h, neatGo] at he
      have at_ := addS_t (d := d) (cs := acc) (c := nth L i)
      have af_ := addS_f (d := d) (cs := acc) (c := nth L i)
      generalize addS d acc (nth L i) = r at at_ af_ ⊢
      obtain ⟨r1, r2, r3⟩ := r
      simp only at at_ af_
      simp -implicitDefEqProofs -dsimp +contextual [-Bool.exists_bool, -Int.not_le, -Int.not_lt, -getElem?_pos, -List.getD_eq_getElem?_getD, h]
      refine ⟨Quiet.of [] (by kernel_rfl) (by simp [-Bool.exists_bool, -Int.not_le, -Int.not_lt, -getElem?_pos, -List.getD_eq_getElem?_getD, allP, offB]), fun hf => ?_, fun hf => ?_⟩
      · obtain ⟨a1, rfl⟩ := at_ hf
        rw [a1, Option.bind_some] at he
        refine ⟨i + 1, r2, ⟨h, addC_ok hcc.1 ha a1, he⟩, by omega, ?_⟩
        rw [wr (by omega) (by omega)]
        refine Le.told [] ?_ ?_ ?_ <;> simp [-Bool.exists_bool, -Int.not_le, -Int.not_lt, -getElem?_pos, -List.getD_eq_getElem?_getD]
      · rw [af_ (by simp [-Bool.exists_bool, -Int.not_le, -Int.not_lt, -getElem?_pos, -List.getD_eq_getElem?_getD, hf]), Option.bind_none] at he
        exact RLe.pure 2 (by rw [e0, he]; simp [-Bool.exists_bool, -Int.not_le, -Int.not_lt, -getElem?_pos, -List.getD_eq_getElem?_getD, optR])
    · rw [drop_nil (by omega), neatGo] at he
      simp -implicitDefEqProofs -dsimp +contextual [-Bool.exists_bool, -Int.not_le, -Int.not_lt, -getElem?_pos, -List.getD_eq_getElem?_getD, h]
      exact RLe.pure 3 (by rw [e0, he]; simp [-Bool.exists_bool, -Int.not_le, -Int.not_lt, -getElem?_pos, -List.getD_eq_getElem?_getD, optR])
end Go.Proofs.YtjknjekemolndaaGreat.ZL
