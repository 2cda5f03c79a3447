/- Texts of the abs road (plain values, what code does to them, and the contracts of the functions that the law reaches). No condition. -/
import Derived.Test.YtkicjflhokckgaaG8FnExactMinimalCell
namespace Go.Proofs.Ytkicjflhokckgaa.ZL
open Go Go.Proofs.Ytkicjflhokckgaa.Abs Go.Proofs.Ytkicjflhokckgaa.Abs.Pl Go.RowKit Go.Proofs
set_option linter.unusedVariables false
set_option linter.unusedSimpArgs false
def minGo (d : Int) : Nat → Nat → List At → Option (List At)
  | 0, _, out => some out
  | n + 1, i, out => if (impA (d, out.take i ++ out.drop (i + 1)) (nth out i)).2 = true then
      (if (impA (d, out.take i ++ out.drop (i + 1)) (nth out i)).1 = true then minGo d n i (out.take i ++ out.drop (i + 1)) else minGo d n (i + 1) out) else none
def minC (d : Int) (x : List At) : Int × List At × Bool := if (emptyC d x).2 = true then (if (emptyC d x).1 = true then (d, [noneA d], true) else match minGo d x.length 0 x with
    | some y => (d, y, true)
    | none => (0, [], false)) else (0, [], false)
theorem l3CopyW (d : Int) (L : List At) (h20 : L.length ≤ 1000) (ha : ∀ a ∈ L, a.1.length ≤ 1048576) : Cn Try.prog 79 [C1 d L] (C1 d L) hemp := Cn.freeze 2 (l3Copy d L h20 ha) (by simp [-Bool.exists_bool, -Int.not_le, -Int.not_lt, -getElem?_pos, -List.getD_eq_getElem?_getD, lendT, lendV])
theorem l3Minimal (d : Int) (L : List At) (h20 : L.length ≤ 1048576) : Cn Try.prog 87 [C1 d L] (D2 (minC d L)) hemp := by
  refine Cn.of [0] mixed Try.func87 rfl Try.call87 (by kernel_rfl) rfl ?_
  simp -implicitDefEqProofs -dsimp +contextual [-Bool.exists_bool, -Int.not_le, -Int.not_lt, -getElem?_pos, -List.getD_eq_getElem?_getD, Try.f87]
  refine CallJ.pure (IsEmptyCell d L h20) rfl (by simp [-Bool.exists_bool, -Int.not_le, -Int.not_lt, -getElem?_pos, -List.getD_eq_getElem?_getD]) ?_
  simp -implicitDefEqProofs -dsimp +contextual [-Bool.exists_bool, -Int.not_le, -Int.not_lt, -getElem?_pos, -List.getD_eq_getElem?_getD]
  refine ⟨fun h1 => ?_, fun h1 => RLe.pure 2 (by rw [minC, if_neg (by simp [-Bool.exists_bool, -Int.not_le, -Int.not_lt, -getElem?_pos, -List.getD_eq_getElem?_getD, h1])]; simp [-Bool.exists_bool, -Int.not_le, -Int.not_lt, -getElem?_pos, -List.getD_eq_getElem?_getD, asD])⟩
  have hce := emptyC_ce h1
  have hd := isCe_d hce
  have h16 := isCe_l hce
  have hok := isCe_a hce
  refine ⟨fun h2 => ?_, fun h2 => ?_⟩
  · refine CallJ.pure (l3None d hd) rfl (by simp [-Bool.exists_bool, -Int.not_le, -Int.not_lt, -getElem?_pos, -List.getD_eq_getElem?_getD]) ?_
    simp -implicitDefEqProofs -dsimp +contextual [-Bool.exists_bool, -Int.not_le, -Int.not_lt, -getElem?_pos, -List.getD_eq_getElem?_getD, h1, h2]
    rw [minC, if_pos h1, if_pos h2]
    exact RLe.pure 3 (by simp [-Bool.exists_bool, -Int.not_le, -Int.not_lt, -getElem?_pos, -List.getD_eq_getElem?_getD])
  · refine CallJ.pure (l3CopyW d L (by omega) (fun a ha => okA_small (hok a ha))) rfl (by simp [-Bool.exists_bool, -Int.not_le, -Int.not_lt, -getElem?_pos, -List.getD_eq_getElem?_getD]) ?_
    simp -implicitDefEqProofs -dsimp +contextual [-Bool.exists_bool, -Int.not_le, -Int.not_lt, -getElem?_pos, -List.getD_eq_getElem?_getD, h1, h2]
    have e0 : minC d L = (match minGo d L.length 0 L with | some y => (d, y, true) | none => (0, [], false)) := by rw [minC, if_pos h1, if_neg (by simp [-Bool.exists_bool, -Int.not_le, -Int.not_lt, -getElem?_pos, -List.getD_eq_getElem?_getD, h2])]
    refine WP.loop mixed [0] (fun p : Nat × List At => ⟨tl [(1, .ptr (0, 0) 0), (2, .ptr (1, 0) 0), (6, .ptr (2, 0) 0), (7, I p.1)], hl [((0, 0), .box [I d, As L]), ((1, 0), .box [I 0, .nil]), ((2, 0), .box [I d, As p.2])], 3⟩)
      (fun p => p.1 ≤ p.2.length ∧ p.2.length ≤ 16 ∧ allOk d p.2 ∧ minGo d L.length 0 L = minGo d (p.2.length - p.1) p.1 p.2) (fun p => p.2.length - p.1) (0, L) (by kernel_rfl) ?_ ?_ ?_
    · refine Le.told [((2, 0), (15, 0))] ?_ ?_ ?_ <;> simp [-Bool.exists_bool, -Int.not_le, -Int.not_lt, -getElem?_pos, -List.getD_eq_getElem?_getD, setH]
    · exact ⟨Nat.zero_le _, h16, hok, rfl⟩
    · rintro ⟨i, x⟩ ⟨hi, hx, hxo, he⟩
      simp only at hi hx hxo he
      by_cases h : i < x.length
      · have hw : IntKind.wrap .i64 ((i : Int) + 1) = (i : Int) + 1 := wr (by omega) (by omega)
        have hw2 : ((i : Int) + 1).toNat = i + 1 := by omega
        obtain ⟨n, hn⟩ : ∃ n, x.length - i = n + 1 := ⟨x.length - i - 1, by omega⟩
        rw [hn, minGo] at he
        have ht : (x.drop (i + 1)).take (x.length - (i + 1)) = x.drop (i + 1) := List.take_of_length_le (by simp [-Bool.exists_bool, -Int.not_le, -Int.not_lt, -getElem?_pos, -List.getD_eq_getElem?_getD])
        have hmin : min i x.length = i := by omega
        have hrl : (x.take i ++ x.drop (i + 1)).length = i + (x.length - (i + 1)) := by simp [-Bool.exists_bool, -Int.not_le, -Int.not_lt, -getElem?_pos, -List.getD_eq_getElem?_getD]; omega
        have hro : allOk d (x.take i ++ x.drop (i + 1)) := fun y hy => by
          rcases List.mem_append.1 hy with hy | hy
          · exact hxo y (List.mem_of_mem_take hy)
          · exact hxo y (List.mem_of_mem_drop hy)
        have hI := ImpliesAtom (d, x.take i ++ x.drop (i + 1)) (nth x i) (by show (x.take i ++ x.drop (i + 1)).length ≤ 1048576; omega) (okA_small (hxo _ (nth_mem h)))
        generalize impA (d, x.take i ++ x.drop (i + 1)) (nth x i) = q at he hI
        simp -implicitDefEqProofs -dsimp +contextual [-Bool.exists_bool, -Int.not_le, -Int.not_lt, -getElem?_pos, -List.getD_eq_getElem?_getD, h, hw, hw2, ht]
        refine ⟨by omega, ⟨by omega, by omega, by simp [-Bool.exists_bool, -Int.not_le, -Int.not_lt, -getElem?_pos, -List.getD_eq_getElem?_getD, maxLen]; omega⟩, ⟨by omega, by omega⟩, ⟨by omega, by simp [-Bool.exists_bool, -Int.not_le, -Int.not_lt, -getElem?_pos, -List.getD_eq_getElem?_getD, maxLen]; omega⟩, Quiet.of [1] (by kernel_rfl) (by simp [-Bool.exists_bool, -Int.not_le, -Int.not_lt, -getElem?_pos, -List.getD_eq_getElem?_getD, allP, offB]), Quiet.of [] (by kernel_rfl) (by simp [-Bool.exists_bool, -Int.not_le, -Int.not_lt, -getElem?_pos, -List.getD_eq_getElem?_getD, allP, offB]), ?_⟩
        refine CallJ.lent (ks := [(21, 0)]) 2 hI ?_ (by simp [-Bool.exists_bool, -Int.not_le, -Int.not_lt, -getElem?_pos, -List.getD_eq_getElem?_getD]) rfl (by simp [-Bool.exists_bool, -Int.not_le, -Int.not_lt, -getElem?_pos, -List.getD_eq_getElem?_getD]) ?_
        · simp [-Bool.exists_bool, -Int.not_le, -Int.not_lt, -getElem?_pos, -List.getD_eq_getElem?_getD, lendVs, lendV, setH, asD_append, hmin]
        simp -implicitDefEqProofs -dsimp +contextual [-Bool.exists_bool, -Int.not_le, -Int.not_lt, -getElem?_pos, -List.getD_eq_getElem?_getD, h, hw, hw2, ht]
        refine ⟨fun c1 => ⟨fun c2 => ?_, fun c2 => ?_⟩, fun c1 => RLe.pure 2 (by rw [e0, he, if_neg (by simp [-Bool.exists_bool, -Int.not_le, -Int.not_lt, -getElem?_pos, -List.getD_eq_getElem?_getD, c1])]; simp [-Bool.exists_bool, -Int.not_le, -Int.not_lt, -getElem?_pos, -List.getD_eq_getElem?_getD, asD])⟩
        · rw [if_pos c1, if_pos c2] at he
          have hC := l3CopyW d (x.take i ++ x.drop (i + 1)) (by omega) (fun a ha => okA_small (hro a ha))
          refine CallJ.frz (t := 52) (n := i + (x.length - (i + 1))) (c := dl (asD (x.take i) ++ asD (x.drop (i + 1)))) (c' := asD (x.take i) ++ asD (x.drop (i + 1))) (21, 0) hC (by simp [-Bool.exists_bool, -Int.not_le, -Int.not_lt, -getElem?_pos, -List.getD_eq_getElem?_getD, setH]) (dl_asDs _) (ks := [(21, 0)]) (by simp [-Bool.exists_bool, -Int.not_le, -Int.not_lt, -getElem?_pos, -List.getD_eq_getElem?_getD, lendVs, lendV, setH, asD_append, hmin]) (by simp [-Bool.exists_bool, -Int.not_le, -Int.not_lt, -getElem?_pos, -List.getD_eq_getElem?_getD]) ?_
          simp -implicitDefEqProofs -dsimp +contextual [-Bool.exists_bool, -Int.not_le, -Int.not_lt, -getElem?_pos, -List.getD_eq_getElem?_getD, h, hw, hw2, ht, hmin]
          refine ⟨i, x.take i ++ x.drop (i + 1), ⟨by omega, by omega, hro, by rw [he, hrl]; congr 1; omega⟩, by omega, ?_⟩
          refine Le.told [] ?_ ?_ ?_ <;> simp [-Bool.exists_bool, -Int.not_le, -Int.not_lt, -getElem?_pos, -List.getD_eq_getElem?_getD, hmin, asD_append]
        · rw [if_pos c1, if_neg (by simp [-Bool.exists_bool, -Int.not_le, -Int.not_lt, -getElem?_pos, -List.getD_eq_getElem?_getD, c2])] at he
          refine ⟨i + 1, x, ⟨h, hx, hxo, by rw [he]; congr 1; omega⟩, by omega, ?_⟩
          refine Le.told [] ?_ ?_ ?_ <;> simp [-Bool.exists_bool, -Int.not_le, -Int.not_lt, -getElem?_pos, -List.getD_eq_getElem?_getD]
      · rw [show x.length - i = 0 by omega, minGo] at he
        simp -implicitDefEqProofs -dsimp +contextual [-Bool.exists_bool, -Int.not_le, -Int.not_lt, -getElem?_pos, -List.getD_eq_getElem?_getD, h]
        rw [e0, he]
        exact RLe.pure 3 (by simp [-Bool.exists_bool, -Int.not_le, -Int.not_lt, -getElem?_pos, -List.getD_eq_getElem?_getD])
def minD (d : Int) (L : List At) : Int × List At × Bool := if isCe d L = true then minC d (nrm d L) else (0, [], false)
theorem MinimalCell (d : Int) (L : List At) (h20 : L.length ≤ 1048576) : Cn Try.prog 47 [C1 d L] (D2 (minD d L)) hemp := by
  refine Cn.of [] mixed Try.func47 rfl Try.call47 (by kernel_rfl) rfl ?_
  simp -implicitDefEqProofs -dsimp +contextual [-Bool.exists_bool, -Int.not_le, -Int.not_lt, -getElem?_pos, -List.getD_eq_getElem?_getD, Try.f47]
  refine CallJ.pure (IsCell d L h20) rfl (by simp [-Bool.exists_bool, -Int.not_le, -Int.not_lt, -getElem?_pos, -List.getD_eq_getElem?_getD]) ?_
  simp -implicitDefEqProofs -dsimp +contextual [-Bool.exists_bool, -Int.not_le, -Int.not_lt, -getElem?_pos, -List.getD_eq_getElem?_getD]
  refine ⟨fun h1 => ?_, fun h1 => RLe.pure 2 (by rw [minD, if_neg (by simp [-Bool.exists_bool, -Int.not_le, -Int.not_lt, -getElem?_pos, -List.getD_eq_getElem?_getD, h1])]; simp [-Bool.exists_bool, -Int.not_le, -Int.not_lt, -getElem?_pos, -List.getD_eq_getElem?_getD, asD])⟩
  have hd := isCe_d h1
  have h16 := isCe_l h1
  refine CallJ.pure (l3Normal d hd L (by omega) (isCe_a h1)) rfl (by simp [-Bool.exists_bool, -Int.not_le, -Int.not_lt, -getElem?_pos, -List.getD_eq_getElem?_getD]) ?_
  simp -implicitDefEqProofs -dsimp +contextual [-Bool.exists_bool, -Int.not_le, -Int.not_lt, -getElem?_pos, -List.getD_eq_getElem?_getD, h1]
  have hn := nrm_16 d L h16
  refine CallJ.pure (l3Minimal d (nrm d L) (by omega)) rfl (by simp [-Bool.exists_bool, -Int.not_le, -Int.not_lt, -getElem?_pos, -List.getD_eq_getElem?_getD]) ?_
  rw [minD, if_pos h1]
  simp -implicitDefEqProofs -dsimp +contextual [-Bool.exists_bool, -Int.not_le, -Int.not_lt, -getElem?_pos, -List.getD_eq_getElem?_getD, h1]
  exact RLe.pure 3 (by simp [-Bool.exists_bool, -Int.not_le, -Int.not_lt, -getElem?_pos, -List.getD_eq_getElem?_getD])
end Go.Proofs.Ytkicjflhokckgaa.ZL
namespace Go.Proofs.Ytkicjflhokckgaa.ZL
open Go Go.Proofs.Ytkicjflhokckgaa.Abs Go.Proofs.Ytkicjflhokckgaa.Abs.Pl Go.RowKit Go.Proofs
set_option linter.unusedVariables false
set_option linter.unusedSimpArgs false
theorem iEmptyCellW (d : Int) (hd : 0 ≤ d ∧ d ≤ 4) : Cn Try.prog 80 [I d] (C1 d [noneA d]) hemp := by
  refine Cn.freeze 2 (iEmptyCell d hd) ?_
  simp only [lendT, lendV, List.map_cons, List.map_nil, joinO, own_lend, lendD_d]
theorem iMinimalCellW (d : Int) (L : List At) (h20 : L.length ≤ 1048576) : Cn Try.prog 48 [C1 d L] (D2 (minD d L)) hemp := by
  refine Cn.of [] mixed Try.func48 rfl Try.call48 (by kernel_rfl) rfl ?_
  simp -implicitDefEqProofs -dsimp +contextual [-Bool.exists_bool, -Int.not_le, -Int.not_lt, -getElem?_pos, -List.getD_eq_getElem?_getD, Try.f48]
  refine CallJ.pure (iNormalCellW d L h20) rfl (by simp [-Bool.exists_bool, -Int.not_le, -Int.not_lt, -getElem?_pos, -List.getD_eq_getElem?_getD]) ?_
  by_cases h1 : isCe d L = true
  rotate_left
  · rw [normD, if_neg h1]
    simp -implicitDefEqProofs -dsimp +contextual [-Bool.exists_bool, -Int.not_le, -Int.not_lt, -getElem?_pos, -List.getD_eq_getElem?_getD]
    exact RLe.pure 2 (by rw [minD, if_neg h1]; simp [-Bool.exists_bool, -Int.not_le, -Int.not_lt, -getElem?_pos, -List.getD_eq_getElem?_getD, asD])
  have hd := isCe_d h1
  have h16 := nrm_16 d L (isCe_l h1)
  have hok := nrm_okL hd (isCe_a h1)
  rw [normD, if_pos h1, minD, if_pos h1]
  generalize nrm d L = K at h16 hok ⊢
  simp -implicitDefEqProofs -dsimp +contextual [-Bool.exists_bool, -Int.not_le, -Int.not_lt, -getElem?_pos, -List.getD_eq_getElem?_getD]
  refine CallJ.pure (iIsEmptyCell d K (by omega)) rfl (by simp [-Bool.exists_bool, -Int.not_le, -Int.not_lt, -getElem?_pos, -List.getD_eq_getElem?_getD]) ?_
  simp -implicitDefEqProofs -dsimp +contextual [-Bool.exists_bool, -Int.not_le, -Int.not_lt, -getElem?_pos, -List.getD_eq_getElem?_getD]
  refine ⟨fun c1 => ?_, fun c1 => RLe.pure 2 (by rw [minC, if_neg (by simp [-Bool.exists_bool, -Int.not_le, -Int.not_lt, -getElem?_pos, -List.getD_eq_getElem?_getD, c1])]; simp [-Bool.exists_bool, -Int.not_le, -Int.not_lt, -getElem?_pos, -List.getD_eq_getElem?_getD, asD])⟩
  refine ⟨fun c2 => ?_, fun c2 => ?_⟩
  · refine CallJ.pure (iEmptyCellW d hd) rfl (by simp [-Bool.exists_bool, -Int.not_le, -Int.not_lt, -getElem?_pos, -List.getD_eq_getElem?_getD]) ?_
    simp -implicitDefEqProofs -dsimp +contextual [-Bool.exists_bool, -Int.not_le, -Int.not_lt, -getElem?_pos, -List.getD_eq_getElem?_getD, c1, c2]
    rw [minC, if_pos c1, if_pos c2]
    exact RLe.pure 3 (by simp [-Bool.exists_bool, -Int.not_le, -Int.not_lt, -getElem?_pos, -List.getD_eq_getElem?_getD])
  · have e0 : minC d K = (match minGo d K.length 0 K with | some y => (d, y, true) | none => (0, [], false)) := by rw [minC, if_pos c1, if_neg (by simp [-Bool.exists_bool, -Int.not_le, -Int.not_lt, -getElem?_pos, -List.getD_eq_getElem?_getD, c2])]; try rfl
    refine WP.loop mixed [] (fun p : Nat × List At => ⟨tl [(1, .ptr (0, 0) 0), (2, .ptr (1, 0) 0), (4, .ptr (2, 0) 0), (7, I p.1)], hl [((0, 0), .box [I d, As L]), ((1, 0), .box [I 0, .nil]), ((2, 0), .box [I d, As p.2])], 3⟩)
      (fun p => p.1 ≤ p.2.length ∧ p.2.length ≤ 16 ∧ allOk d p.2 ∧ minGo d K.length 0 K = minGo d (p.2.length - p.1) p.1 p.2) (fun p => p.2.length - p.1) (0, K) (by kernel_rfl) ?_ ?_ ?_
    · refine Le.told [((2, 0), (8, 0))] ?_ ?_ ?_ <;> simp [-Bool.exists_bool, -Int.not_le, -Int.not_lt, -getElem?_pos, -List.getD_eq_getElem?_getD, setH]
    · exact ⟨Nat.zero_le _, h16, hok, rfl⟩
    · rintro ⟨i, x⟩ ⟨hi, hx, hxo, he⟩
      simp only at hi hx hxo he
      by_cases h : i < x.length
      · have hw : IntKind.wrap .i64 ((i : Int) + 1) = (i : Int) + 1 := wr (by omega) (by omega)
        have hw2 : ((i : Int) + 1).toNat = i + 1 := by omega
        obtain ⟨n, hn⟩ : ∃ n, x.length - i = n + 1 := ⟨x.length - i - 1, by omega⟩
        rw [hn, minGo] at he
        have ht : (x.drop (i + 1)).take (x.length - (i + 1)) = x.drop (i + 1) := List.take_of_length_le (by simp [-Bool.exists_bool, -Int.not_le, -Int.not_lt, -getElem?_pos, -List.getD_eq_getElem?_getD])
        have hmin : min i x.length = i := by omega
        have hrl : (x.take i ++ x.drop (i + 1)).length = i + (x.length - (i + 1)) := by simp [-Bool.exists_bool, -Int.not_le, -Int.not_lt, -getElem?_pos, -List.getD_eq_getElem?_getD]; omega
        have e2 : repV 2 [V.nil] = [V.nil, V.nil] := rfl
        simp -implicitDefEqProofs -dsimp +contextual [-Bool.exists_bool, -Int.not_le, -Int.not_lt, -getElem?_pos, -List.getD_eq_getElem?_getD, h, hw, hw2, ht, e2]
        have hro : allOk d (x.take i ++ x.drop (i + 1)) := fun y hy => by
          rcases List.mem_append.1 hy with hy | hy
          · exact hxo y (List.mem_of_mem_take hy)
          · exact hxo y (List.mem_of_mem_drop hy)
        have hf : [x.take i, x.drop (i + 1)].flatten = x.take i ++ x.drop (i + 1) := by simp [-Bool.exists_bool, -Int.not_le, -Int.not_lt, -getElem?_pos, -List.getD_eq_getElem?_getD]
        have hI := iImpliesAtom (d, x.take i ++ x.drop (i + 1)) (nth x i) (by show (x.take i ++ x.drop (i + 1)).length ≤ 1048576; omega) (okA_small (hxo _ (nth_mem h)))
        generalize impA (d, x.take i ++ x.drop (i + 1)) (nth x i) = q at he hI
        have hC := iConcatW [x.take i, x.drop (i + 1)] (by simp [-Bool.exists_bool, -Int.not_le, -Int.not_lt, -getElem?_pos, -List.getD_eq_getElem?_getD]) (by simp [-Bool.exists_bool, -Int.not_le, -Int.not_lt, -getElem?_pos, -List.getD_eq_getElem?_getD, tot]; omega)
        rw [hf] at hC
        generalize x.take i ++ x.drop (i + 1) = y at he hI hC hrl hro
        refine ⟨by omega, ⟨by omega, by omega⟩, ?_⟩
        refine CallJ.pure (ks := []) hC (by simp [-Bool.exists_bool, -Int.not_le, -Int.not_lt, -getElem?_pos, -List.getD_eq_getElem?_getD, sD, hmin]) (by simp [-Bool.exists_bool, -Int.not_le, -Int.not_lt, -getElem?_pos, -List.getD_eq_getElem?_getD]) ?_
        simp -implicitDefEqProofs -dsimp +contextual [-Bool.exists_bool, -Int.not_le, -Int.not_lt, -getElem?_pos, -List.getD_eq_getElem?_getD, h, hw, hw2]
        refine CallJ.pure (ks := []) hI (by simp [-Bool.exists_bool, -Int.not_le, -Int.not_lt, -getElem?_pos, -List.getD_eq_getElem?_getD]) (by simp [-Bool.exists_bool, -Int.not_le, -Int.not_lt, -getElem?_pos, -List.getD_eq_getElem?_getD]) ?_
        simp -implicitDefEqProofs -dsimp +contextual [-Bool.exists_bool, -Int.not_le, -Int.not_lt, -getElem?_pos, -List.getD_eq_getElem?_getD, h, hw, hw2]
        refine ⟨fun b1 => ⟨fun b2 => ?_, fun b2 => ?_⟩, fun b1 => RLe.pure 2 (by rw [e0, he, if_neg (by simp [-Bool.exists_bool, -Int.not_le, -Int.not_lt, -getElem?_pos, -List.getD_eq_getElem?_getD, b1])]; simp [-Bool.exists_bool, -Int.not_le, -Int.not_lt, -getElem?_pos, -List.getD_eq_getElem?_getD, asD])⟩
        · rw [if_pos b1, if_pos b2] at he
          refine ⟨i, y, ⟨by omega, by omega, hro, by rw [he]; congr 1; omega⟩, by omega, ?_⟩
          refine Le.told [] ?_ ?_ ?_ <;> simp [-Bool.exists_bool, -Int.not_le, -Int.not_lt, -getElem?_pos, -List.getD_eq_getElem?_getD]
        · rw [if_pos b1, if_neg (by simp [-Bool.exists_bool, -Int.not_le, -Int.not_lt, -getElem?_pos, -List.getD_eq_getElem?_getD, b2])] at he
          refine ⟨i + 1, x, ⟨h, hx, hxo, by rw [he]; congr 1; omega⟩, by omega, ?_⟩
          refine Le.told [] ?_ ?_ ?_ <;> simp [-Bool.exists_bool, -Int.not_le, -Int.not_lt, -getElem?_pos, -List.getD_eq_getElem?_getD]
      · rw [show x.length - i = 0 by omega, minGo] at he
        simp -implicitDefEqProofs -dsimp +contextual [-Bool.exists_bool, -Int.not_le, -Int.not_lt, -getElem?_pos, -List.getD_eq_getElem?_getD, h]
        rw [e0, he]
        exact RLe.pure 3 (by simp [-Bool.exists_bool, -Int.not_le, -Int.not_lt, -getElem?_pos, -List.getD_eq_getElem?_getD])
end Go.Proofs.Ytkicjflhokckgaa.ZL
namespace Go.Proofs.Ytkicjflhokckgaa.ZL
open Go Go.Proofs.Ytkicjflhokckgaa.Abs Go.Proofs.Ytkicjflhokckgaa.Abs.Pl Go.RowKit Go.Proofs
set_option linter.unusedVariables false
set_option linter.unusedSimpArgs false
theorem minGo_ok {d : Int} : ∀ (n i : Nat) {x y : List At}, x.length ≤ 16 → allOk d x → minGo d n i x = some y → y.length ≤ 16 ∧ allOk d y
  | 0, _, x, y, h16, hx, h => by obtain rfl := Option.some.inj h; exact ⟨h16, hx⟩
  | n + 1, i, x, y, h16, hx, h => by
    unfold minGo at h
    split at h
    · split at h
      · refine minGo_ok n i ?_ ?_ h
        · simp [-Bool.exists_bool, -Int.not_le, -Int.not_lt, -getElem?_pos, -List.getD_eq_getElem?_getD]; omega
        · intro a ha
          rcases List.mem_append.1 ha with ha | ha
          · exact hx a (List.mem_of_mem_take ha)
          · exact hx a (List.mem_of_mem_drop ha)
      · exact minGo_ok n (i + 1) h16 hx h
    · exact absurd h (by simp [-Bool.exists_bool, -Int.not_le, -Int.not_lt, -getElem?_pos, -List.getD_eq_getElem?_getD])
theorem minC_f {d : Int} {x : List At} (h : ¬ (minC d x).2.2 = true) : minC d x = (0, [], false) := by
  unfold minC at h ⊢
  split
  · rename_i h1
    rw [if_pos h1] at h
    split
    · rename_i h2; rw [if_pos h2] at h; exact absurd rfl h
    · rename_i h2
      rw [if_neg h2] at h
      split
      · rename_i y hy; rw [hy] at h; exact absurd rfl h
      · rfl
  · rfl
theorem minD_f {d : Int} {L : List At} (h : ¬ (minD d L).2.2 = true) : minD d L = (0, [], false) := by
  unfold minD at h ⊢
  split
  · rename_i h1; rw [if_pos h1] at h; exact minC_f h
  · rfl
theorem minD_small (d : Int) (L : List At) : Small (minD d L).2.1 := by
  unfold minD
  split
  · rename_i h1
    have hd := isCe_d h1
    unfold minC
    split
    · split
      · exact Small.ok (d := d) (by simp [-Bool.exists_bool, -Int.not_le, -Int.not_lt, -getElem?_pos, -List.getD_eq_getElem?_getD]) (fun x hx => by rw [List.mem_singleton.1 hx]; exact noneA_ok hd)
      · split
        · rename_i y hy
          have := minGo_ok _ _ (nrm_16 d L (isCe_l h1)) (nrm_okL hd (isCe_a h1)) hy
          exact Small.ok this.1 this.2
        · exact Small.nil
    · exact Small.nil
  · exact Small.nil
end Go.Proofs.Ytkicjflhokckgaa.ZL
namespace Go.Proofs.Ytkicjflhokckgaa.ZL
open Go Go.Proofs.Ytkicjflhokckgaa.Abs Go.Proofs.Ytkicjflhokckgaa.Abs.Pl Go.RowKit Go.Proofs
set_option linter.unusedVariables false
set_option linter.unusedSimpArgs false
theorem lendCut {H : Store} {s sf i : Nat} {x : List At} {d : Int} (hr : H (s, 0) = some (.row 52 (cutL x i).length (rA (fun j => (sf, cutI i j)) 0 (cutL x i)))) (hF : ∀ j, j < x.length → H (sf, j) = some (rowA (nth x j))) (hi : i < x.length) :
    lendVs true H 2 [.agg [I d, .ref (s, 0) (cutL x i).length], .agg ((rA (fun j => (sf, j)) i (x.drop i)).take 3)] = some ([C1 d (cutL x i), A1 (nth x i)], (s, 0) :: (List.range (cutL x i).length).map (fun j => (sf, cutI i j)) ++ [(sf, i)]) := by
  have h1 : lendD true H 2 (.ref (s, 0) (cutL x i).length) = some (.sl (cutL x i).length (asD (cutL x i)), (s, 0) :: (List.range (cutL x i).length).map (fun j => (sf, cutI i j))) := by
    rw [lendD_ref, hr]
    simp only [lendR, rA_lend (H := H) (n := 0) (f := fun j => (sf, cutI i j)) (cutL x i) 0 (fun j hj => by rw [Nat.zero_add, cutL_nth hi hj]; exact hF _ (cutI_lt hi hj)), consK]
    simp [-Bool.exists_bool, -Int.not_le, -Int.not_lt, -getElem?_pos, -List.getD_eq_getElem?_getD]
  have h2 : lendV true H 2 (.agg [I d, .ref (s, 0) (cutL x i).length]) = some (C1 d (cutL x i), (s, 0) :: (List.range (cutL x i).length).map (fun j => (sf, cutI i j))) := by
    simp only [lendV, List.map_cons, List.map_nil, joinO, h1, lendD_d]
    simp [-Bool.exists_bool, -Int.not_le, -Int.not_lt, -getElem?_pos, -List.getD_eq_getElem?_getD]
  rw [rA_cut0 _ _ _ hi]
  simp only [lendVs, h2]
  simp [-Bool.exists_bool, -Int.not_le, -Int.not_lt, -getElem?_pos, -List.getD_eq_getElem?_getD, lendV, lendD_ref, hF i hi, lendR, rowA]
theorem iMinimalCellO (d : Int) (L : List At) (h20 : L.length ≤ 1048576) : Cn Try.prog 48 [C1 d L] (oV (minD d L)) (oH (minD d L)) := by
  refine Cn.of [0, 47] mixed Try.func48 rfl Try.call48 (by kernel_rfl) rfl ?_
  simp -implicitDefEqProofs -dsimp +contextual [-Bool.exists_bool, -Int.not_le, -Int.not_lt, -getElem?_pos, -List.getD_eq_getElem?_getD, Try.f48]
  refine CallJ.pure (iNormalCell d L h20) rfl (by simp [-Bool.exists_bool, -Int.not_le, -Int.not_lt, -getElem?_pos, -List.getD_eq_getElem?_getD]) ?_
  by_cases h1 : isCe d L = true
  rotate_left
  · have e1 : oV (normD d L) = .tup [.agg [I 0, .nil], B false] := by rw [normD, if_neg h1]; exact oV_f (by simp [-Bool.exists_bool, -Int.not_le, -Int.not_lt, -getElem?_pos, -List.getD_eq_getElem?_getD])
    have e2 : oH (normD d L) = hemp := by rw [normD, if_neg h1]; exact oH_f (by simp [-Bool.exists_bool, -Int.not_le, -Int.not_lt, -getElem?_pos, -List.getD_eq_getElem?_getD])
    have e3 : oV (minD d L) = .tup [.agg [I 0, .nil], B false] := by rw [minD, if_neg h1]; exact oV_f (by simp [-Bool.exists_bool, -Int.not_le, -Int.not_lt, -getElem?_pos, -List.getD_eq_getElem?_getD])
    have e4 : oH (minD d L) = hemp := by rw [minD, if_neg h1]; exact oH_f (by simp [-Bool.exists_bool, -Int.not_le, -Int.not_lt, -getElem?_pos, -List.getD_eq_getElem?_getD])
    rw [e1, e2, e3, e4]
    simp -implicitDefEqProofs -dsimp +contextual [-Bool.exists_bool, -Int.not_le, -Int.not_lt, -getElem?_pos, -List.getD_eq_getElem?_getD]
    exact RLe.emp (by simp [-Bool.exists_bool, -Int.not_le, -Int.not_lt, -getElem?_pos, -List.getD_eq_getElem?_getD])
  have hd := isCe_d h1
  have h16 := nrm_16 d L (isCe_l h1)
  have hok := nrm_okL hd (isCe_a h1)
  have e1 : oV (normD d L) = .tup [O1 d (nrm d L), B true] := by rw [normD, if_pos h1]; exact oV_t rfl
  have e2 : oH (normD d L) = ownR (nrm d L) := by rw [normD, if_pos h1]; exact oH_t rfl
  rw [e1, e2, minD, if_pos h1]
  generalize nrm d L = K at h16 hok ⊢
  simp -implicitDefEqProofs -dsimp +contextual [-Bool.exists_bool, -Int.not_le, -Int.not_lt, -getElem?_pos, -List.getD_eq_getElem?_getD]
  have hO : Owns (setH (8, 0) (some (Ent.box [V.d (D.int IntKind.i64 d), V.ref (4, 0) K.length])) (setH (8, 0) (some (Ent.box [V.d (D.int IntKind.i64 0), V.nil])) (app (upCall 4 (ownR K)) (setH (1, 0) (some (Ent.box [V.d (D.int IntKind.i64 0), V.nil])) (setH (0, 0) (some (Ent.box [I d, As L])) hemp))))) 4 K := ((Owns.call 4 K _).set (by simp [-Bool.exists_bool, -Int.not_le, -Int.not_lt, -getElem?_pos, -List.getD_eq_getElem?_getD])).set (by simp [-Bool.exists_bool, -Int.not_le, -Int.not_lt, -getElem?_pos, -List.getD_eq_getElem?_getD])
  refine CallJ.lent (ks := famK 4 0 K.length) 2 (iIsEmptyCell d K (by omega)) (lends1 (c1 := (d, K)) hO) (fun k hk => .inl (famK_lt (by omega) k hk)) rfl (by simp [-Bool.exists_bool, -Int.not_le, -Int.not_lt, -getElem?_pos, -List.getD_eq_getElem?_getD]) ?_
  simp -implicitDefEqProofs -dsimp +contextual [-Bool.exists_bool, -Int.not_le, -Int.not_lt, -getElem?_pos, -List.getD_eq_getElem?_getD]
  refine ⟨fun c1 => ?_, fun c1 => ?_⟩
  rotate_left
  · rw [minC, if_neg (by simp [-Bool.exists_bool, -Int.not_le, -Int.not_lt, -getElem?_pos, -List.getD_eq_getElem?_getD, c1]), oV_f (by simp [-Bool.exists_bool, -Int.not_le, -Int.not_lt, -getElem?_pos, -List.getD_eq_getElem?_getD]), oH_f (by simp [-Bool.exists_bool, -Int.not_le, -Int.not_lt, -getElem?_pos, -List.getD_eq_getElem?_getD])]
    exact RLe.emp (by simp [-Bool.exists_bool, -Int.not_le, -Int.not_lt, -getElem?_pos, -List.getD_eq_getElem?_getD])
  refine ⟨fun c2 => ?_, fun c2 => ?_⟩
  · refine CallJ.pure (iEmptyCell d hd) rfl (by simp [-Bool.exists_bool, -Int.not_le, -Int.not_lt, -getElem?_pos, -List.getD_eq_getElem?_getD]) ?_
    simp -implicitDefEqProofs -dsimp +contextual [-Bool.exists_bool, -Int.not_le, -Int.not_lt, -getElem?_pos, -List.getD_eq_getElem?_getD, c1, c2]
    rw [minC, if_pos c1, if_pos c2, oV_t rfl, oH_t rfl]
    refine RLe.pass 25 [noneA d] ?_ ?_ ?_
    · simp [-Bool.exists_bool, -Int.not_le, -Int.not_lt, -getElem?_pos, -List.getD_eq_getElem?_getD, invO]
    · simp [-Bool.exists_bool, -Int.not_le, -Int.not_lt, -getElem?_pos, -List.getD_eq_getElem?_getD, setH]
    · intro j hj; simp [-Bool.exists_bool, -Int.not_le, -Int.not_lt, -getElem?_pos, -List.getD_eq_getElem?_getD, setH, upOwn_j _ _ _ _ hj]
  have e0 : minC d K = (match minGo d K.length 0 K with | some y => (d, y, true) | none => (0, [], false)) := by rw [minC, if_pos c1, if_neg (by simp [-Bool.exists_bool, -Int.not_le, -Int.not_lt, -getElem?_pos, -List.getD_eq_getElem?_getD, c2])]; try rfl
  refine WP.loop mixed [0, 47] (fun p : Nat × List At => ⟨tl [(1, .ptr (0, 0) 0), (2, .ptr (1, 0) 0), (4, .ptr (2, 0) 0), (7, I p.1)], famS 4 (ownA p.2) (hl [((0, 0), .box [I d, As L]), ((1, 0), .box [I 0, .nil]), ((2, 0), .box [I d, .ref (3, 0) p.2.length]), ((3, 0), .row 52 p.2.length (rA (fun j => (4, j)) 0 p.2))]), 5⟩)
    (fun p => p.1 ≤ p.2.length ∧ p.2.length ≤ 16 ∧ allOk d p.2 ∧ minGo d K.length 0 K = minGo d (p.2.length - p.1) p.1 p.2) (fun p => p.2.length - p.1) (0, K) (by kernel_rfl) ?_ ?_ ?_
  · refine Le.fam 4 K (fun j => (4, j + 1)) [((2, 0), (8, 0)), ((3, 0), (4, 0))] ?_ ?_ ?_ ?_ ?_ ?_
    · simp [-Bool.exists_bool, -Int.not_le, -Int.not_lt, -getElem?_pos, -List.getD_eq_getElem?_getD, invF]
    · simp [-Bool.exists_bool, -Int.not_le, -Int.not_lt, -getElem?_pos, -List.getD_eq_getElem?_getD, setH, ELe, invF]
      exact rA_VLes _ 0 fun j hj => ⟨by simp [-Bool.exists_bool, -Int.not_le, -Int.not_lt, -getElem?_pos, -List.getD_eq_getElem?_getD, invF], by show 4 < 5; omega⟩
    · simp [-Bool.exists_bool, -Int.not_le, -Int.not_lt, -getElem?_pos, -List.getD_eq_getElem?_getD]
    · intro j hj; simp [-Bool.exists_bool, -Int.not_le, -Int.not_lt, -getElem?_pos, -List.getD_eq_getElem?_getD, setH, upOwn_j _ _ _ _ hj]
    · simp [-Bool.exists_bool, -Int.not_le, -Int.not_lt, -getElem?_pos, -List.getD_eq_getElem?_getD]
    · intro j hj; simp [-Bool.exists_bool, -Int.not_le, -Int.not_lt, -getElem?_pos, -List.getD_eq_getElem?_getD]
  · exact ⟨Nat.zero_le _, h16, hok, rfl⟩
  · rintro ⟨i, x⟩ ⟨hi, hx, hxo, he⟩
    simp only at hi hx hxo he
    by_cases h : i < x.length
    · have hw : IntKind.wrap .i64 ((i : Int) + 1) = (i : Int) + 1 := wr (by omega) (by omega)
      have hw2 : ((i : Int) + 1).toNat = i + 1 := by omega
      have hmin : min i x.length = i := by omega
      have e2 : repV 2 [V.nil] = [V.nil, V.nil] := rfl
      obtain ⟨n, hn⟩ : ∃ n, x.length - i = n + 1 := ⟨x.length - i - 1, by omega⟩
      rw [hn, minGo] at he
      simp -implicitDefEqProofs -dsimp +contextual [-Bool.exists_bool, -Int.not_le, -Int.not_lt, -getElem?_pos, -List.getD_eq_getElem?_getD, h, hw, hw2, e2]
      refine ⟨by omega, ⟨by omega, by omega⟩, ?_⟩
      refine callConcat (21, 0) (3, 0) 4 i (x.length - (i + 1)) x (by omega) (by omega) (by simp [-Bool.exists_bool, -Int.not_le, -Int.not_lt, -getElem?_pos, -List.getD_eq_getElem?_getD, setH]) (by simp [-Bool.exists_bool, -Int.not_le, -Int.not_lt, -getElem?_pos, -List.getD_eq_getElem?_getD, setH]) (by intro j hj; simp [-Bool.exists_bool, -Int.not_le, -Int.not_lt, -getElem?_pos, -List.getD_eq_getElem?_getD, setH, ownA_lt hj]) (by decide) (by decide) (by decide) ?_
      simp -implicitDefEqProofs -dsimp +contextual [-Bool.exists_bool, -Int.not_le, -Int.not_lt, -getElem?_pos, -List.getD_eq_getElem?_getD, h, hw, hw2]
      refine ⟨Quiet.of [1] (by kernel_rfl) (by simp [-Bool.exists_bool, -Int.not_le, -Int.not_lt, -getElem?_pos, -List.getD_eq_getElem?_getD, allP, offB]), ?_⟩
      simp -implicitDefEqProofs -dsimp +contextual [-Bool.exists_bool, -Int.not_le, -Int.not_lt, -getElem?_pos, -List.getD_eq_getElem?_getD, h, hw, hw2, setH, upCon_s, upCon_ka, upCon_ne]
      refine ⟨Quiet.of [] (by kernel_rfl) (by simp [-Bool.exists_bool, -Int.not_le, -Int.not_lt, -getElem?_pos, -List.getD_eq_getElem?_getD, allP]), ?_⟩
      have hro : allOk d (cutL x i) := fun y hy => by
        rcases List.mem_append.1 hy with hy | hy
        · exact hxo y (List.mem_of_mem_take hy)
        · exact hxo y (List.mem_of_mem_drop hy)
      have hcl := cutL_len h
      have hI := iImpliesAtom (d, cutL x i) (nth x i) (by show (cutL x i).length ≤ 1048576; omega) (okA_small (hxo _ (nth_mem h)))
      rw [show x.take i ++ x.drop (i + 1) = cutL x i from rfl] at he
      generalize impA (d, cutL x i) (nth x i) = q at he hI
      refine CallJ.lent (ks := (22, 0) :: (List.range (cutL x i).length).map (fun j => (4, cutI i j)) ++ [(4, i)]) 2 hI (lendCut ?_ ?_ h) ?_ rfl (by simp [-Bool.exists_bool, -Int.not_le, -Int.not_lt, -getElem?_pos, -List.getD_eq_getElem?_getD]) ?_
      · simp [-Bool.exists_bool, -Int.not_le, -Int.not_lt, -getElem?_pos, -List.getD_eq_getElem?_getD, setH, upCon_s]
      · intro j hj; simp [-Bool.exists_bool, -Int.not_le, -Int.not_lt, -getElem?_pos, -List.getD_eq_getElem?_getD, setH, upCon_ne, ownA_lt hj]
      · simp [-Bool.exists_bool, -Int.not_le, -Int.not_lt, -getElem?_pos, -List.getD_eq_getElem?_getD, slotsL, slotsV]
        rintro a b (⟨_, _, rfl, _⟩ | ⟨rfl, _⟩) <;> exact .inl (by omega)
      simp -implicitDefEqProofs -dsimp +contextual [-Bool.exists_bool, -Int.not_le, -Int.not_lt, -getElem?_pos, -List.getD_eq_getElem?_getD, h, hw, hw2, setH, upCon_ne]
      refine ⟨fun b1 => ⟨fun b2 => ?_, fun b2 => ?_⟩, fun b1 => ?_⟩
      · rw [if_pos b1, if_pos b2] at he
        refine ⟨i, cutL x i, ⟨by omega, by omega, hro, by rw [he]; congr 1; omega⟩, by omega, ?_⟩
        refine Le.fam 4 (cutL x i) (fun j => (4, cutI i j)) [((3, 0), (22, 0))] ?_ ?_ ?_ ?_ ?_ ?_
        · simp [-Bool.exists_bool, -Int.not_le, -Int.not_lt, -getElem?_pos, -List.getD_eq_getElem?_getD, invF]
        · simp [-Bool.exists_bool, -Int.not_le, -Int.not_lt, -getElem?_pos, -List.getD_eq_getElem?_getD, setH, ELe, invF, upCon_s, upCon_ne]
          exact rA_VLes _ 0 fun j hj => ⟨by simp [-Bool.exists_bool, -Int.not_le, -Int.not_lt, -getElem?_pos, -List.getD_eq_getElem?_getD, invF], by show 4 < 5; omega⟩
        · simp [-Bool.exists_bool, -Int.not_le, -Int.not_lt, -getElem?_pos, -List.getD_eq_getElem?_getD]
        · intro j hj; simp [-Bool.exists_bool, -Int.not_le, -Int.not_lt, -getElem?_pos, -List.getD_eq_getElem?_getD, setH, upCon_ne, cutL_nth h hj, ownA_lt (cutI_lt h hj)]
        · intro a b _ _ hab; injection hab with _ hab; exact cutI_inj hab
        · intro j hj; simp [-Bool.exists_bool, -Int.not_le, -Int.not_lt, -getElem?_pos, -List.getD_eq_getElem?_getD]
      · rw [if_pos b1, if_neg (by simp [-Bool.exists_bool, -Int.not_le, -Int.not_lt, -getElem?_pos, -List.getD_eq_getElem?_getD, b2])] at he
        refine ⟨i + 1, x, ⟨h, hx, hxo, by rw [he]; congr 1; omega⟩, by omega, ?_⟩
        refine Le.fam 4 x (fun j => (4, j)) [] ?_ ?_ ?_ ?_ ?_ ?_
        · simp [-Bool.exists_bool, -Int.not_le, -Int.not_lt, -getElem?_pos, -List.getD_eq_getElem?_getD, invF]
        · simp [-Bool.exists_bool, -Int.not_le, -Int.not_lt, -getElem?_pos, -List.getD_eq_getElem?_getD, setH, ELe, invF, upCon_ka, upCon_ne]
          exact rA_VLes _ 0 fun j hj => ⟨by simp [-Bool.exists_bool, -Int.not_le, -Int.not_lt, -getElem?_pos, -List.getD_eq_getElem?_getD, invF], by show 4 < 5; omega⟩
        · simp [-Bool.exists_bool, -Int.not_le, -Int.not_lt, -getElem?_pos, -List.getD_eq_getElem?_getD]
        · intro j hj; simp [-Bool.exists_bool, -Int.not_le, -Int.not_lt, -getElem?_pos, -List.getD_eq_getElem?_getD, setH, upCon_ne, ownA_lt hj]
        · intro a b _ _ hab; injection hab
        · intro j hj; simp [-Bool.exists_bool, -Int.not_le, -Int.not_lt, -getElem?_pos, -List.getD_eq_getElem?_getD]
      · rw [e0, he, if_neg (by simp [-Bool.exists_bool, -Int.not_le, -Int.not_lt, -getElem?_pos, -List.getD_eq_getElem?_getD, b1]), oV_f (by simp [-Bool.exists_bool, -Int.not_le, -Int.not_lt, -getElem?_pos, -List.getD_eq_getElem?_getD]), oH_f (by simp [-Bool.exists_bool, -Int.not_le, -Int.not_lt, -getElem?_pos, -List.getD_eq_getElem?_getD])]
        exact RLe.emp (by simp [-Bool.exists_bool, -Int.not_le, -Int.not_lt, -getElem?_pos, -List.getD_eq_getElem?_getD])
    · rw [show x.length - i = 0 by omega, minGo] at he
      simp -implicitDefEqProofs -dsimp +contextual [-Bool.exists_bool, -Int.not_le, -Int.not_lt, -getElem?_pos, -List.getD_eq_getElem?_getD, h]
      rw [e0, he, oV_t rfl, oH_t rfl]
      refine RLe.own (3, 0) (fun j => (4, j)) x ?_ ?_ ?_ ?_ ?_
      · simp [-Bool.exists_bool, -Int.not_le, -Int.not_lt, -getElem?_pos, -List.getD_eq_getElem?_getD, invO]
      · simp [-Bool.exists_bool, -Int.not_le, -Int.not_lt, -getElem?_pos, -List.getD_eq_getElem?_getD, setH]
      · intro j hj; simp [-Bool.exists_bool, -Int.not_le, -Int.not_lt, -getElem?_pos, -List.getD_eq_getElem?_getD, setH, ownA_lt hj]
      · intro a b _ _ hab; injection hab
      · intro j _; simp [-Bool.exists_bool, -Int.not_le, -Int.not_lt, -getElem?_pos, -List.getD_eq_getElem?_getD]
end Go.Proofs.Ytkicjflhokckgaa.ZL
namespace Go.Proofs.Ytkicjflhokckgaa.ZL
open Go Go.Proofs.Ytkicjflhokckgaa.Abs Go.Proofs.Ytkicjflhokckgaa.Abs.Pl Go.RowKit Go.Proofs
set_option linter.unusedVariables false
set_option linter.unusedSimpArgs false
theorem lawMinimalCell (c : Ce) (w_c : wfC c) : Cn Try.prog 13 [.agg (cV c)] (B true) hemp := by
  refine Cn.of [] mixed Try.func13 rfl Try.call13 (by kernel_rfl) rfl ?_
  simp -implicitDefEqProofs -dsimp +contextual [-Bool.exists_bool, -Int.not_le, -Int.not_lt, -getElem?_pos, -List.getD_eq_getElem?_getD, Try.f13]
  refine CallJ.pure (szCell c 1048576 ok20 w_c) rfl (by simp [-Bool.exists_bool, -Int.not_le, -Int.not_lt, -getElem?_pos, -List.getD_eq_getElem?_getD]) ?_
  simp -implicitDefEqProofs -dsimp +contextual [-Bool.exists_bool, -Int.not_le, -Int.not_lt, -getElem?_pos, -List.getD_eq_getElem?_getD]
  refine ⟨fun _ => RLe.bb rfl, fun h_c => ?_⟩
  obtain ⟨w1_c, k_c⟩ := lft_2 ok20 h_c
  obtain ⟨l_c, d_c⟩ := wAs_small w1_c
  refine CallJ.pure (toCellW c l_c d_c) rfl (by simp [-Bool.exists_bool, -Int.not_le, -Int.not_lt, -getElem?_pos, -List.getD_eq_getElem?_getD]) ?_
  simp -implicitDefEqProofs -dsimp +contextual [-Bool.exists_bool, -Int.not_le, -Int.not_lt, -getElem?_pos, -List.getD_eq_getElem?_getD, h_c]
  refine CallJ.pure (MinimalCell c.1 c.2 l_c) rfl (by simp [-Bool.exists_bool, -Int.not_le, -Int.not_lt, -getElem?_pos, -List.getD_eq_getElem?_getD]) ?_
  simp -implicitDefEqProofs -dsimp +contextual [-Bool.exists_bool, -Int.not_le, -Int.not_lt, -getElem?_pos, -List.getD_eq_getElem?_getD, h_c]
  refine CallJ.pure (toCell c l_c d_c) rfl (by simp [-Bool.exists_bool, -Int.not_le, -Int.not_lt, -getElem?_pos, -List.getD_eq_getElem?_getD]) ?_
  simp -implicitDefEqProofs -dsimp +contextual [-Bool.exists_bool, -Int.not_le, -Int.not_lt, -getElem?_pos, -List.getD_eq_getElem?_getD, h_c]
  have hL := iMinimalCellO c.1 c.2 l_c
  have hW := iMinimalCellW c.1 c.2 l_c
  have hR := minD_small c.1 c.2
  have hr0 := minD_f (d := c.1) (L := c.2)
  generalize minD c.1 c.2 = r at *
  have p1 := nxtS_le r.2.1 1
  have q1 : ¬ nxtS r.2.1 1 < 0 := by omega
  have hI_c := Small.input w1_c
  have n_c := nxtS_w c.2 (1)
  have g_c := nxtS_le c.2 (1)
  change wAs c.2 ≤ 1048576 at w1_c
  have q2 : ¬ nxtS c.2 (1) < 0 := by omega
  by_cases hr : r.2.2 = true
  · rw [oV_t hr, oH_t hr] at hL
    refine CallJ.lent (ks := famK 19 0 c.2.length) 2 hL ?_ ?_ (by simp [-Bool.exists_bool, -Int.not_le, -Int.not_lt, -getElem?_pos, -List.getD_eq_getElem?_getD, noSh, noShL, noShD]) (fun k e h => noSh_ownR _ k e h) ?_
    · refine lends1 (c1 := c) ?_
      · repeat first | exact Owns.mark _ _ _ | exact Owns.call _ _ _ | refine Owns.set ?_ (by simp [-Bool.exists_bool, -Int.not_le, -Int.not_lt, -getElem?_pos, -List.getD_eq_getElem?_getD]) | refine Owns.other ?_ (by simp [-Bool.exists_bool, -Int.not_le, -Int.not_lt, -getElem?_pos, -List.getD_eq_getElem?_getD]) | refine Owns.otherM ?_ (by simp [-Bool.exists_bool, -Int.not_le, -Int.not_lt, -getElem?_pos, -List.getD_eq_getElem?_getD])
    · intro k hk
      exact .inl (famK_lt (by omega) k hk)
    simp -implicitDefEqProofs -dsimp +contextual [-Bool.exists_bool, -Int.not_le, -Int.not_lt, -getElem?_pos, -List.getD_eq_getElem?_getD, h_c, hr, q1, q2]
    refine Owns.eqCell (s := 23) (L := r.2.1) ?_ r.1 hR.len hR.dir ?_ ?_
    · repeat first | exact Owns.mark _ _ _ | exact Owns.call _ _ _ | refine Owns.set ?_ (by simp [-Bool.exists_bool, -Int.not_le, -Int.not_lt, -getElem?_pos, -List.getD_eq_getElem?_getD]) | refine Owns.other ?_ (by simp [-Bool.exists_bool, -Int.not_le, -Int.not_lt, -getElem?_pos, -List.getD_eq_getElem?_getD]) | refine Owns.otherM ?_ (by simp [-Bool.exists_bool, -Int.not_le, -Int.not_lt, -getElem?_pos, -List.getD_eq_getElem?_getD])
    · omega
    simp -implicitDefEqProofs -dsimp +contextual [-Bool.exists_bool, -Int.not_le, -Int.not_lt, -getElem?_pos, -List.getD_eq_getElem?_getD, h_c, hr, q1, q2]
    refine CallJ.pure (toCellW c l_c d_c) rfl (by simp [-Bool.exists_bool, -Int.not_le, -Int.not_lt, -getElem?_pos, -List.getD_eq_getElem?_getD]) ?_
    simp -implicitDefEqProofs -dsimp +contextual [-Bool.exists_bool, -Int.not_le, -Int.not_lt, -getElem?_pos, -List.getD_eq_getElem?_getD, h_c, hr, q1, q2]
    refine Owns.eqCell (s := 19) (L := c.2) ?_ c.1 l_c d_c ?_ ?_
    · repeat first | exact Owns.mark _ _ _ | exact Owns.call _ _ _ | refine Owns.set ?_ (by simp [-Bool.exists_bool, -Int.not_le, -Int.not_lt, -getElem?_pos, -List.getD_eq_getElem?_getD]) | refine Owns.other ?_ (by simp [-Bool.exists_bool, -Int.not_le, -Int.not_lt, -getElem?_pos, -List.getD_eq_getElem?_getD]) | refine Owns.otherM ?_ (by simp [-Bool.exists_bool, -Int.not_le, -Int.not_lt, -getElem?_pos, -List.getD_eq_getElem?_getD])
    · omega
    simp -implicitDefEqProofs -dsimp +contextual [-Bool.exists_bool, -Int.not_le, -Int.not_lt, -getElem?_pos, -List.getD_eq_getElem?_getD, h_c, hr, q1, q2]
    refine Owns.marks (s := 19) (L := c.2) ?_ c.1 (1) ⟨by omega, by omega⟩ l_c d_c ?_ ?_ ?_
    · repeat first | exact Owns.mark _ _ _ | exact Owns.call _ _ _ | refine Owns.set ?_ (by simp [-Bool.exists_bool, -Int.not_le, -Int.not_lt, -getElem?_pos, -List.getD_eq_getElem?_getD]) | refine Owns.other ?_ (by simp [-Bool.exists_bool, -Int.not_le, -Int.not_lt, -getElem?_pos, -List.getD_eq_getElem?_getD]) | refine Owns.otherM ?_ (by simp [-Bool.exists_bool, -Int.not_le, -Int.not_lt, -getElem?_pos, -List.getD_eq_getElem?_getD])
    · omega
    · omega
    simp -implicitDefEqProofs -dsimp +contextual [-Bool.exists_bool, -Int.not_le, -Int.not_lt, -getElem?_pos, -List.getD_eq_getElem?_getD, h_c, hr, q1, q2]
    refine Owns.eqCell (s := 23) (L := r.2.1) ?_ r.1 hR.len hR.dir ?_ ?_
    · repeat first | exact Owns.mark _ _ _ | exact Owns.call _ _ _ | refine Owns.set ?_ (by simp [-Bool.exists_bool, -Int.not_le, -Int.not_lt, -getElem?_pos, -List.getD_eq_getElem?_getD]) | refine Owns.other ?_ (by simp [-Bool.exists_bool, -Int.not_le, -Int.not_lt, -getElem?_pos, -List.getD_eq_getElem?_getD]) | refine Owns.otherM ?_ (by simp [-Bool.exists_bool, -Int.not_le, -Int.not_lt, -getElem?_pos, -List.getD_eq_getElem?_getD])
    · omega
    simp -implicitDefEqProofs -dsimp +contextual [-Bool.exists_bool, -Int.not_le, -Int.not_lt, -getElem?_pos, -List.getD_eq_getElem?_getD, h_c, hr, q1, q2]
    refine Owns.marks (s := 23) (L := r.2.1) ?_ r.1 1 ⟨by omega, hR.nxt⟩ hR.len hR.dir ?_ ?_ ?_
    · repeat first | exact Owns.mark _ _ _ | exact Owns.call _ _ _ | refine Owns.set ?_ (by simp [-Bool.exists_bool, -Int.not_le, -Int.not_lt, -getElem?_pos, -List.getD_eq_getElem?_getD]) | refine Owns.other ?_ (by simp [-Bool.exists_bool, -Int.not_le, -Int.not_lt, -getElem?_pos, -List.getD_eq_getElem?_getD]) | refine Owns.otherM ?_ (by simp [-Bool.exists_bool, -Int.not_le, -Int.not_lt, -getElem?_pos, -List.getD_eq_getElem?_getD])
    · omega
    · omega
    simp -implicitDefEqProofs -dsimp +contextual [-Bool.exists_bool, -Int.not_le, -Int.not_lt, -getElem?_pos, -List.getD_eq_getElem?_getD, h_c, hr, q1, q2]
    refine Owns.held (s := 23) (M := r.2.1) ?_ r.1 ⟨by omega, hR.nxt⟩ hR.len hR.dir ?_ ?_
    · repeat first | exact Owns.mark _ _ _ | exact Owns.call _ _ _ | refine Owns.set ?_ (by simp [-Bool.exists_bool, -Int.not_le, -Int.not_lt, -getElem?_pos, -List.getD_eq_getElem?_getD]) | refine Owns.other ?_ (by simp [-Bool.exists_bool, -Int.not_le, -Int.not_lt, -getElem?_pos, -List.getD_eq_getElem?_getD]) | refine Owns.otherM ?_ (by simp [-Bool.exists_bool, -Int.not_le, -Int.not_lt, -getElem?_pos, -List.getD_eq_getElem?_getD])
    · omega
    simp -implicitDefEqProofs -dsimp +contextual [-Bool.exists_bool, -Int.not_le, -Int.not_lt, -getElem?_pos, -List.getD_eq_getElem?_getD, h_c, hr, q1, q2]
    refine CallJ.pure (toCellW c l_c d_c) rfl (by simp [-Bool.exists_bool, -Int.not_le, -Int.not_lt, -getElem?_pos, -List.getD_eq_getElem?_getD]) ?_
    simp -implicitDefEqProofs -dsimp +contextual [-Bool.exists_bool, -Int.not_le, -Int.not_lt, -getElem?_pos, -List.getD_eq_getElem?_getD, h_c, hr, q1, q2]
    refine CallJ.pure hW rfl (by simp [-Bool.exists_bool, -Int.not_le, -Int.not_lt, -getElem?_pos, -List.getD_eq_getElem?_getD]) ?_
    simp -implicitDefEqProofs -dsimp +contextual [-Bool.exists_bool, -Int.not_le, -Int.not_lt, -getElem?_pos, -List.getD_eq_getElem?_getD, h_c, hr, q1, q2]
    refine CallJ.pure (eqCell (r.1, r.2.1) hR.len hR.dir) rfl (by simp [-Bool.exists_bool, -Int.not_le, -Int.not_lt, -getElem?_pos, -List.getD_eq_getElem?_getD]) ?_
    simp -implicitDefEqProofs -dsimp +contextual [-Bool.exists_bool, -Int.not_le, -Int.not_lt, -getElem?_pos, -List.getD_eq_getElem?_getD, h_c, hr, q1, q2]
    refine Owns.held (s := 23) (M := r.2.1) ?_ r.1 ⟨by omega, hR.nxt⟩ hR.len hR.dir ?_ ?_
    · repeat first | exact Owns.mark _ _ _ | exact Owns.call _ _ _ | refine Owns.set ?_ (by simp [-Bool.exists_bool, -Int.not_le, -Int.not_lt, -getElem?_pos, -List.getD_eq_getElem?_getD]) | refine Owns.other ?_ (by simp [-Bool.exists_bool, -Int.not_le, -Int.not_lt, -getElem?_pos, -List.getD_eq_getElem?_getD]) | refine Owns.otherM ?_ (by simp [-Bool.exists_bool, -Int.not_le, -Int.not_lt, -getElem?_pos, -List.getD_eq_getElem?_getD])
    · omega
    simp -implicitDefEqProofs -dsimp +contextual [-Bool.exists_bool, -Int.not_le, -Int.not_lt, -getElem?_pos, -List.getD_eq_getElem?_getD, h_c, hr, q1, q2]
    exact RLe.bb rfl
  · rw [oV_f hr, oH_f hr] at hL
    obtain rfl := hr0 hr
    refine CallJ.lent (ks := famK 19 0 c.2.length) 2 hL ?_ ?_ rfl (by simp [-Bool.exists_bool, -Int.not_le, -Int.not_lt, -getElem?_pos, -List.getD_eq_getElem?_getD]) ?_
    · refine lends1 (c1 := c) ?_
      · repeat first | exact Owns.mark _ _ _ | exact Owns.call _ _ _ | refine Owns.set ?_ (by simp [-Bool.exists_bool, -Int.not_le, -Int.not_lt, -getElem?_pos, -List.getD_eq_getElem?_getD]) | refine Owns.other ?_ (by simp [-Bool.exists_bool, -Int.not_le, -Int.not_lt, -getElem?_pos, -List.getD_eq_getElem?_getD]) | refine Owns.otherM ?_ (by simp [-Bool.exists_bool, -Int.not_le, -Int.not_lt, -getElem?_pos, -List.getD_eq_getElem?_getD])
    · intro k hk
      exact .inl (famK_lt (by omega) k hk)
    simp -implicitDefEqProofs -dsimp +contextual [-Bool.exists_bool, -Int.not_le, -Int.not_lt, -getElem?_pos, -List.getD_eq_getElem?_getD, h_c, q2]
    refine CallJ.pure (ks := []) (eqCell (0, []) (by simp [-Bool.exists_bool, -Int.not_le, -Int.not_lt, -getElem?_pos, -List.getD_eq_getElem?_getD]) (by simp [-Bool.exists_bool, -Int.not_le, -Int.not_lt, -getElem?_pos, -List.getD_eq_getElem?_getD])) (by simp [-Bool.exists_bool, -Int.not_le, -Int.not_lt, -getElem?_pos, -List.getD_eq_getElem?_getD, asD]) (by simp [-Bool.exists_bool, -Int.not_le, -Int.not_lt, -getElem?_pos, -List.getD_eq_getElem?_getD]) ?_
    simp -implicitDefEqProofs -dsimp +contextual [-Bool.exists_bool, -Int.not_le, -Int.not_lt, -getElem?_pos, -List.getD_eq_getElem?_getD, h_c, q2]
    refine CallJ.pure (toCellW c l_c d_c) rfl (by simp [-Bool.exists_bool, -Int.not_le, -Int.not_lt, -getElem?_pos, -List.getD_eq_getElem?_getD]) ?_
    simp -implicitDefEqProofs -dsimp +contextual [-Bool.exists_bool, -Int.not_le, -Int.not_lt, -getElem?_pos, -List.getD_eq_getElem?_getD, h_c, q2]
    refine Owns.eqCell (s := 19) (L := c.2) ?_ c.1 l_c d_c ?_ ?_
    · repeat first | exact Owns.mark _ _ _ | exact Owns.call _ _ _ | refine Owns.set ?_ (by simp [-Bool.exists_bool, -Int.not_le, -Int.not_lt, -getElem?_pos, -List.getD_eq_getElem?_getD]) | refine Owns.other ?_ (by simp [-Bool.exists_bool, -Int.not_le, -Int.not_lt, -getElem?_pos, -List.getD_eq_getElem?_getD]) | refine Owns.otherM ?_ (by simp [-Bool.exists_bool, -Int.not_le, -Int.not_lt, -getElem?_pos, -List.getD_eq_getElem?_getD])
    · omega
    simp -implicitDefEqProofs -dsimp +contextual [-Bool.exists_bool, -Int.not_le, -Int.not_lt, -getElem?_pos, -List.getD_eq_getElem?_getD, h_c, q2]
    refine Owns.marks (s := 19) (L := c.2) ?_ c.1 (1) ⟨by omega, by omega⟩ l_c d_c ?_ ?_ ?_
    · repeat first | exact Owns.mark _ _ _ | exact Owns.call _ _ _ | refine Owns.set ?_ (by simp [-Bool.exists_bool, -Int.not_le, -Int.not_lt, -getElem?_pos, -List.getD_eq_getElem?_getD]) | refine Owns.other ?_ (by simp [-Bool.exists_bool, -Int.not_le, -Int.not_lt, -getElem?_pos, -List.getD_eq_getElem?_getD]) | refine Owns.otherM ?_ (by simp [-Bool.exists_bool, -Int.not_le, -Int.not_lt, -getElem?_pos, -List.getD_eq_getElem?_getD])
    · omega
    · omega
    simp -implicitDefEqProofs -dsimp +contextual [-Bool.exists_bool, -Int.not_le, -Int.not_lt, -getElem?_pos, -List.getD_eq_getElem?_getD, h_c, q2]
    refine CallJ.pure (ks := []) (eqCell (0, []) (by simp [-Bool.exists_bool, -Int.not_le, -Int.not_lt, -getElem?_pos, -List.getD_eq_getElem?_getD]) (by simp [-Bool.exists_bool, -Int.not_le, -Int.not_lt, -getElem?_pos, -List.getD_eq_getElem?_getD])) (by simp [-Bool.exists_bool, -Int.not_le, -Int.not_lt, -getElem?_pos, -List.getD_eq_getElem?_getD, asD]) (by simp [-Bool.exists_bool, -Int.not_le, -Int.not_lt, -getElem?_pos, -List.getD_eq_getElem?_getD]) ?_
    simp -implicitDefEqProofs -dsimp +contextual [-Bool.exists_bool, -Int.not_le, -Int.not_lt, -getElem?_pos, -List.getD_eq_getElem?_getD, h_c, q2]
    refine CallJ.pure (ks := []) (markCell0 0 1) (by simp [-Bool.exists_bool, -Int.not_le, -Int.not_lt, -getElem?_pos, -List.getD_eq_getElem?_getD, asD]) (by simp [-Bool.exists_bool, -Int.not_le, -Int.not_lt, -getElem?_pos, -List.getD_eq_getElem?_getD]) ?_
    simp -implicitDefEqProofs -dsimp +contextual [-Bool.exists_bool, -Int.not_le, -Int.not_lt, -getElem?_pos, -List.getD_eq_getElem?_getD, h_c, q2]
    refine CallJ.pure (ks := []) (heldCell0 0 1) (by simp [-Bool.exists_bool, -Int.not_le, -Int.not_lt, -getElem?_pos, -List.getD_eq_getElem?_getD, asD]) (by simp [-Bool.exists_bool, -Int.not_le, -Int.not_lt, -getElem?_pos, -List.getD_eq_getElem?_getD]) ?_
    simp -implicitDefEqProofs -dsimp +contextual [-Bool.exists_bool, -Int.not_le, -Int.not_lt, -getElem?_pos, -List.getD_eq_getElem?_getD, h_c, q2]
    refine CallJ.pure (toCellW c l_c d_c) rfl (by simp [-Bool.exists_bool, -Int.not_le, -Int.not_lt, -getElem?_pos, -List.getD_eq_getElem?_getD]) ?_
    simp -implicitDefEqProofs -dsimp +contextual [-Bool.exists_bool, -Int.not_le, -Int.not_lt, -getElem?_pos, -List.getD_eq_getElem?_getD, h_c, q2]
    refine CallJ.pure hW rfl (by simp [-Bool.exists_bool, -Int.not_le, -Int.not_lt, -getElem?_pos, -List.getD_eq_getElem?_getD]) ?_
    simp -implicitDefEqProofs -dsimp +contextual [-Bool.exists_bool, -Int.not_le, -Int.not_lt, -getElem?_pos, -List.getD_eq_getElem?_getD, h_c, q2]
    refine CallJ.pure (ks := []) (eqCell (0, []) (by simp [-Bool.exists_bool, -Int.not_le, -Int.not_lt, -getElem?_pos, -List.getD_eq_getElem?_getD]) (by simp [-Bool.exists_bool, -Int.not_le, -Int.not_lt, -getElem?_pos, -List.getD_eq_getElem?_getD])) (by simp [-Bool.exists_bool, -Int.not_le, -Int.not_lt, -getElem?_pos, -List.getD_eq_getElem?_getD, asD]) (by simp [-Bool.exists_bool, -Int.not_le, -Int.not_lt, -getElem?_pos, -List.getD_eq_getElem?_getD]) ?_
    simp -implicitDefEqProofs -dsimp +contextual [-Bool.exists_bool, -Int.not_le, -Int.not_lt, -getElem?_pos, -List.getD_eq_getElem?_getD, h_c, q2]
    refine CallJ.pure (ks := []) (heldCell0 0 1) (by simp [-Bool.exists_bool, -Int.not_le, -Int.not_lt, -getElem?_pos, -List.getD_eq_getElem?_getD, asD]) (by simp [-Bool.exists_bool, -Int.not_le, -Int.not_lt, -getElem?_pos, -List.getD_eq_getElem?_getD]) ?_
    simp -implicitDefEqProofs -dsimp +contextual [-Bool.exists_bool, -Int.not_le, -Int.not_lt, -getElem?_pos, -List.getD_eq_getElem?_getD, h_c, q2]
    exact RLe.bb rfl
end Go.Proofs.Ytkicjflhokckgaa.ZL
