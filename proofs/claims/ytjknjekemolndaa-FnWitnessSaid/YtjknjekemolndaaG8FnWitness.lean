/- Texts of the abs road (plain values, what code does to them, and the contracts of the functions that the law reaches). No condition. -/
import Derived.Test.YtjknjekemolndaaG7FnWitness
namespace Go.Proofs.Ytjknjekemolndaa.ZL
open Go Go.Proofs.Ytjknjekemolndaa.Abs Go.Proofs.Ytjknjekemolndaa.Abs.Pl Go.RowKit Go.Proofs
set_option linter.unusedVariables false
set_option linter.unusedSimpArgs false
set_option maxRecDepth 100000
def rD (r : Int × Int) : List D := [.int .i64 r.1, .int .i64 r.2]
def rsD (L : List (Int × Int)) : List D := L.flatMap rD
abbrev Rs (L : List (Int × Int)) : V := .d (.sl L.length (rsD L))
theorem rsD_len (L : List (Int × Int)) : (rsD L).length = L.length * 2 := by induction L with
  | nil => rfl
  | cons a L ih => simp [-Bool.exists_bool, -Int.not_le, -Int.not_lt, -getElem?_pos, -List.getD_eq_getElem?_getD, rsD, rD] at *; omega
theorem rsD_dropE (L : List (Int × Int)) : ∀ i, (rsD L).drop (i * 2) = rsD (L.drop i) := by
  induction L with
  | nil => intro i; simp [-Bool.exists_bool, -Int.not_le, -Int.not_lt, -getElem?_pos, -List.getD_eq_getElem?_getD, rsD]
  | cons a L ih =>
    intro i
    cases i with
    | zero => simp [-Bool.exists_bool, -Int.not_le, -Int.not_lt, -getElem?_pos, -List.getD_eq_getElem?_getD, rsD]
    | succ i =>
      have := ih i
      rw [show (i + 1) * 2 = 2 + i * 2 by omega, ← List.drop_drop]
      simpa [-Bool.exists_bool, -Int.not_le, -Int.not_lt, -getElem?_pos, -List.getD_eq_getElem?_getD, rsD, rD] using this
theorem rsD_take (L : List (Int × Int)) : ∀ i, (rsD L).take (i * 2) = rsD (L.take i) := by
  induction L with
  | nil => intro i; simp [-Bool.exists_bool, -Int.not_le, -Int.not_lt, -getElem?_pos, -List.getD_eq_getElem?_getD, rsD]
  | cons a L ih =>
    intro i
    cases i with
    | zero => simp [-Bool.exists_bool, -Int.not_le, -Int.not_lt, -getElem?_pos, -List.getD_eq_getElem?_getD, rsD]
    | succ i =>
      have := ih i
      rw [show (i + 1) * 2 = 2 + i * 2 by omega, List.take_add]
      simp [-Bool.exists_bool, -Int.not_le, -Int.not_lt, -getElem?_pos, -List.getD_eq_getElem?_getD, rsD, rD] at this ⊢
      exact this
theorem rsD_cons (a : Int × Int) (L : List (Int × Int)) : rsD (a :: L) = rD a ++ rsD L := by simp [-Bool.exists_bool, -Int.not_le, -Int.not_lt, -getElem?_pos, -List.getD_eq_getElem?_getD, rsD]
theorem rsD_append (L M : List (Int × Int)) : rsD (L ++ M) = rsD L ++ rsD M := by simp [-Bool.exists_bool, -Int.not_le, -Int.not_lt, -getElem?_pos, -List.getD_eq_getElem?_getD, rsD]
theorem rsD_nth (L : List (Int × Int)) (i : Nat) (h : i < L.length) : (rsD L).drop (i * 2) = rD (nth L i) ++ rsD (L.drop (i + 1)) := by rw [rsD_dropE, nth_drop h, rsD_cons]
theorem rsD_get0 (L : List (Int × Int)) (i : Nat) (h : i < L.length) : (rsD L)[i * 2]? = some (.int .i64 (nth L i).1) := by
  have := rsD_nth L i h
  have e : (rsD L)[i * 2]? = ((rsD L).drop (i * 2))[0]? := by simp [-Bool.exists_bool, -Int.not_le, -Int.not_lt, -getElem?_pos, -List.getD_eq_getElem?_getD]
  rw [e, this]; rfl
theorem rsD_get1 (L : List (Int × Int)) (i : Nat) (h : i < L.length) : (rsD L)[i * 2 + 1]? = some (.int .i64 (nth L i).2) := by
  have := rsD_nth L i h
  have e : (rsD L)[i * 2 + 1]? = ((rsD L).drop (i * 2))[1]? := by simp [-Bool.exists_bool, -Int.not_le, -Int.not_lt, -getElem?_pos, -List.getD_eq_getElem?_getD]
  rw [e, this]; rfl
theorem rsD_cutD (L : List (Int × Int)) (i : Nat) (h : i < L.length) : (rsD (L.drop i)).take 2 = rD (nth L i) := by rw [← rsD_dropE, rsD_nth L i h]; simp [-Bool.exists_bool, -Int.not_le, -Int.not_lt, -getElem?_pos, -List.getD_eq_getElem?_getD, rD]
theorem dl_rD (c : Int × Int) : dl (rD c) = [I c.1, I c.2] := rfl
attribute [simp] rsD_get0 rsD_get1 rsD_cutD dl_rD rsD_take rsD_dropE rsD_len
theorem nth_rev {α : Type} [Inhabited α] {Z : List α} {n i : Nat} (hz : Z.length = n + 1) (hi : i ≤ n) : nth Z.reverse i = nth Z (n - i) := by
  rw [nth_eq (by simp [-Bool.exists_bool, -Int.not_le, -Int.not_lt, -getElem?_pos, -List.getD_eq_getElem?_getD]; omega), nth_eq (by omega), List.getElem_reverse]
  congr 1
  omega
theorem csD_nil0 : csD [] = [] := rfl
theorem rsD_nil : rsD [] = [] := rfl
attribute [simp] csD_nil0 rsD_nil
abbrev WR (r : List (Int × Int) × Int) : V := .tup [Rs r.1, I r.2]
end Go.Proofs.Ytjknjekemolndaa.ZL
namespace Go.Proofs.Ytjknjekemolndaa.ZL
open Go Go.Proofs.Ytjknjekemolndaa.Abs Go.Proofs.Ytjknjekemolndaa.Abs.Pl Go.RowKit Go.Proofs
set_option linter.unusedVariables false
set_option linter.unusedSimpArgs false
abbrev hV (d : Int) (L : List At) : V := .agg [I d, .ref (0, 0) L.length]
abbrev hH (L : List At) : Store := hl [((0, 0), .row 51 L.length (dl (asD L)))]
theorem iCopyAtomW (a : At) (h : a.1.length ≤ 1048576) : Cn Try.prog 39 [A1 a] (A1 a) hemp := Cn.freeze 2 (iCopyAtom a h) (by simp [-Bool.exists_bool, -Int.not_le, -Int.not_lt, -getElem?_pos, -List.getD_eq_getElem?_getD, lendT, lendV])
theorem iCopyCell (d : Int) (L : List At) (h20 : L.length ≤ 1000) (ha : ∀ a ∈ L, a.1.length ≤ 1048576) : Cn Try.prog 18 [C1 d L] (hV d L) (hH L) := by
  refine Cn.of [] mixed Try.func18 rfl Try.call18 (by kernel_rfl) rfl ?_
  simp -implicitDefEqProofs -dsimp +contextual [-Bool.exists_bool, -Int.not_le, -Int.not_lt, -getElem?_pos, -List.getD_eq_getElem?_getD, Try.f18]
  refine ⟨⟨by omega, by simp [-Bool.exists_bool, -Int.not_le, -Int.not_lt, -getElem?_pos, -List.getD_eq_getElem?_getD, maxLen]; omega⟩, ?_⟩
  refine WP.loop mixed [] (fun i : Nat => ⟨tl [(1, .ptr (0, 0) 0), (2, .ptr (1, 0) 0), (3, .ptr (2, 0) 0), (14, As L), (15, I L.length), (16, I i)], hl [((0, 0), .box [I d, As L]), ((1, 0), .box [I 0, .nil]), ((2, 0), .box [I d, .ref (3, 0) i]), ((3, 0), .row 51 i (dl (asD (L.take i))))], 4⟩) (fun i => i ≤ L.length) (fun i => L.length - i) 0 (by kernel_rfl) ?_ ?_ ?_
  · refine Le.told [((2, 0), (9, 0)), ((3, 0), (7, 0))] ?_ ?_ ?_ <;> simp [-Bool.exists_bool, -Int.not_le, -Int.not_lt, -getElem?_pos, -List.getD_eq_getElem?_getD, setH, asD]
  · simp [-Bool.exists_bool, -Int.not_le, -Int.not_lt, -getElem?_pos, -List.getD_eq_getElem?_getD]
  · intro i hi
    by_cases h : i < L.length
    · simp -implicitDefEqProofs -dsimp +contextual [-Bool.exists_bool, -Int.not_le, -Int.not_lt, -getElem?_pos, -List.getD_eq_getElem?_getD, h]
      refine CallJ.pure (iCopyAtomW (nth L i) (ha _ (nth_mem h))) rfl (by simp [-Bool.exists_bool, -Int.not_le, -Int.not_lt, -getElem?_pos, -List.getD_eq_getElem?_getD]) ?_
      simp -implicitDefEqProofs -dsimp +contextual [-Bool.exists_bool, -Int.not_le, -Int.not_lt, -getElem?_pos, -List.getD_eq_getElem?_getD, h]
      refine ⟨⟨by omega, by simp [-Bool.exists_bool, -Int.not_le, -Int.not_lt, -getElem?_pos, -List.getD_eq_getElem?_getD, maxLen]; omega⟩, by kernel_rfl, i + 1, h, by omega, ?_⟩
      rw [wr (by omega) (by omega)]
      have hx : asD (L.take (i + 1)) = asD (L.take i) ++ aD (nth L i) := by rw [nth_take h, asD_append]; simp [-Bool.exists_bool, -Int.not_le, -Int.not_lt, -getElem?_pos, -List.getD_eq_getElem?_getD, asD]
      refine Le.told [((3, 0), (14, 0))] ?_ ?_ ?_ <;> simp [-Bool.exists_bool, -Int.not_le, -Int.not_lt, -getElem?_pos, -List.getD_eq_getElem?_getD, hx, aD]
    · obtain rfl : i = L.length := by omega
      simp -implicitDefEqProofs -dsimp +contextual [-Bool.exists_bool, -Int.not_le, -Int.not_lt, -getElem?_pos, -List.getD_eq_getElem?_getD, h]
      refine RLe.told [((0, 0), (3, 0))] ?_ ?_ ?_ <;> simp [-Bool.exists_bool, -Int.not_le, -Int.not_lt, -getElem?_pos, -List.getD_eq_getElem?_getD]
def clo (a : At) : At := (a.1, a.2.1, false)
def closD (d : Int) (L : List At) : Int × List At × Bool := if (emptyC d L).2 = true then (if (emptyC d L).1 = true then (d, [noneA d], true) else (d, nrm d (L.map clo), true)) else (0, [], false)
theorem emptyC_ce {d : Int} {L : List At} (h : (emptyC d L).2 = true) : isCe d L = true := by
  unfold emptyC at h
  split at h
  · assumption
  · exact absurd h (by simp [-Bool.exists_bool, -Int.not_le, -Int.not_lt, -getElem?_pos, -List.getD_eq_getElem?_getD])
def curL (L : List At) (i : Nat) : List At := (L.take i).map clo ++ L.drop i
theorem curL_len (L : List At) (i : Nat) : (curL L i).length = L.length := by simp [-Bool.exists_bool, -Int.not_le, -Int.not_lt, -getElem?_pos, -List.getD_eq_getElem?_getD, curL]; omega
theorem asD_put (L : List At) (i : Nat) (h : i < L.length) : (asD (curL L i)).take (i * 3 + 2) ++ D.bool false :: (asD (curL L i)).drop (i * 3 + 2 + 1) = asD (curL L (i + 1)) := by
  have e1 : curL L i = (L.take i).map clo ++ nth L i :: L.drop (i + 1) := by rw [curL, nth_drop h]
  have e2 : curL L (i + 1) = (L.take i).map clo ++ clo (nth L i) :: L.drop (i + 1) := by rw [curL, nth_take h]; simp [-Bool.exists_bool, -Int.not_le, -Int.not_lt, -getElem?_pos, -List.getD_eq_getElem?_getD]
  have hA : (asD ((L.take i).map clo)).length = i * 3 := by rw [asD_len]; simp [-Bool.exists_bool, -Int.not_le, -Int.not_lt, -getElem?_pos, -List.getD_eq_getElem?_getD]; omega
  rw [e1, e2, asD_append, asD_append]
  generalize asD ((L.take i).map clo) = A at hA
  rw [← hA]
  have c1 : asD (nth L i :: L.drop (i + 1)) = aD (nth L i) ++ asD (L.drop (i + 1)) := by simp [-Bool.exists_bool, -Int.not_le, -Int.not_lt, -getElem?_pos, -List.getD_eq_getElem?_getD, asD]
  have c2 : asD (clo (nth L i) :: L.drop (i + 1)) = aD (clo (nth L i)) ++ asD (L.drop (i + 1)) := by simp [-Bool.exists_bool, -Int.not_le, -Int.not_lt, -getElem?_pos, -List.getD_eq_getElem?_getD, asD]
  have t2 : A.take (A.length + 2) = A := List.take_of_length_le (by omega)
  have d2 : A.drop (A.length + 2 + 1) = [] := List.drop_eq_nil_of_le (by omega)
  have k2 : A.length + 2 + 1 - A.length = 3 := by omega
  rw [c1, c2]
  simp [-Bool.exists_bool, -Int.not_le, -Int.not_lt, -getElem?_pos, -List.getD_eq_getElem?_getD, List.take_append, List.drop_append, t2, d2, k2, aD, clo]
theorem clo_all {d : Int} {L : List At} (h : allOk d L) : allOk d (L.map clo) := fun x hx => by
  obtain ⟨a, ha, rfl⟩ := List.mem_map.1 hx
  exact h a ha
theorem closD_small (d : Int) (L : List At) : Small (closD d L).2.1 := by
  unfold closD
  split
  · rename_i h
    have hce := emptyC_ce h
    split
    · exact Small.ok (d := d) (by simp [-Bool.exists_bool, -Int.not_le, -Int.not_lt, -getElem?_pos, -List.getD_eq_getElem?_getD]) (fun x hx => by rw [List.mem_singleton.1 hx]; exact noneA_ok (isCe_d hce))
    · exact Small.ok (nrm_16 d _ (by simpa [-Bool.exists_bool, -Int.not_le, -Int.not_lt, -getElem?_pos, -List.getD_eq_getElem?_getD] using isCe_l hce)) (nrm_okL (isCe_d hce) (clo_all (isCe_a hce)))
  · exact Small.nil
theorem closD_f {d : Int} {L : List At} (h : ¬ (closD d L).2.2 = true) : closD d L = (0, [], false) := by
  unfold closD at h ⊢
  split
  · rename_i h1
    rw [if_pos h1] at h
    split at h <;> exact absurd rfl h
  · rfl
theorem isCe_clo {d : Int} {L : List At} (h : isCe d L = true) : isCe d (L.map clo) = true := by
  rw [isCe_iff] at h ⊢
  refine ⟨h.1, by simpa [-Bool.exists_bool, -Int.not_le, -Int.not_lt, -getElem?_pos, -List.getD_eq_getElem?_getD] using h.2.1, fun x hx => ?_⟩
  obtain ⟨a, ha, rfl⟩ := List.mem_map.1 hx
  exact h.2.2 a ha
end Go.Proofs.Ytjknjekemolndaa.ZL
namespace Go.Proofs.Ytjknjekemolndaa.ZL
open Go Go.Proofs.Ytjknjekemolndaa.Abs Go.Proofs.Ytjknjekemolndaa.Abs.Pl Go.RowKit Go.Proofs
set_option linter.unusedVariables false
set_option linter.unusedSimpArgs false
set_option maxRecDepth 100000
theorem iAddRatios (a b : Int × Int) : Cn Try.prog 43 [Rp a, Rp b] (Rp (sumR a b)) hemp := by
  refine Cn.of [] mixed Try.func43 rfl Try.call43 (by kernel_rfl) rfl ?_
  simp -implicitDefEqProofs -dsimp +contextual [-Bool.exists_bool, -Int.not_le, -Int.not_lt, -getElem?_pos, -List.getD_eq_getElem?_getD, Try.f43]
  refine CallJ.pure (iIsRatio a.1 a.2) rfl (by simp [-Bool.exists_bool, -Int.not_le, -Int.not_lt, -getElem?_pos, -List.getD_eq_getElem?_getD]) ?_
  simp -implicitDefEqProofs -dsimp +contextual [-Bool.exists_bool, -Int.not_le, -Int.not_lt, -getElem?_pos, -List.getD_eq_getElem?_getD]
  refine ⟨fun h1 => ?_, fun h1 => RLe.pure 2 (by simp [-Bool.exists_bool, -Int.not_le, -Int.not_lt, -getElem?_pos, -List.getD_eq_getElem?_getD, sumR, h1])⟩
  refine CallJ.pure (iIsRatio b.1 b.2) rfl (by simp [-Bool.exists_bool, -Int.not_le, -Int.not_lt, -getElem?_pos, -List.getD_eq_getElem?_getD]) ?_
  simp -implicitDefEqProofs -dsimp +contextual [-Bool.exists_bool, -Int.not_le, -Int.not_lt, -getElem?_pos, -List.getD_eq_getElem?_getD, h1]
  refine ⟨fun h2 => ?_, fun h2 => RLe.pure 2 (by simp [-Bool.exists_bool, -Int.not_le, -Int.not_lt, -getElem?_pos, -List.getD_eq_getElem?_getD, sumR, h1, h2])⟩
  have m1 := rat_mul h1 h2
  have m2 := rat_mul h2 h1
  have m3 := rat_den2 h1 h2
  have w1 : IntKind.wrap .i64 (a.1 * b.2) = a.1 * b.2 := wr (by omega) (by omega)
  have w2 : IntKind.wrap .i64 (b.1 * a.2) = b.1 * a.2 := wr (by omega) (by omega)
  rw [w1, w2, wr (by omega) (by omega), wr (by omega) (by omega)]
  refine CallJ.pure (iReduced (a.1 * b.2 + b.1 * a.2) (a.2 * b.2) ⟨by omega, by omega⟩ ⟨by omega, by omega⟩) rfl (by simp [-Bool.exists_bool, -Int.not_le, -Int.not_lt, -getElem?_pos, -List.getD_eq_getElem?_getD]) ?_
  simp -implicitDefEqProofs -dsimp +contextual [-Bool.exists_bool, -Int.not_le, -Int.not_lt, -getElem?_pos, -List.getD_eq_getElem?_getD, h1, h2]
  exact RLe.pure 2 (by simp [-Bool.exists_bool, -Int.not_le, -Int.not_lt, -getElem?_pos, -List.getD_eq_getElem?_getD, sumR, h1, h2])
theorem iMultiplyRatios (a b : Int × Int) : Cn Try.prog 42 [Rp a, Rp b] (Rp (prdR a b)) hemp := by
  refine Cn.of [] mixed Try.func42 rfl Try.call42 (by kernel_rfl) rfl ?_
  simp -implicitDefEqProofs -dsimp +contextual [-Bool.exists_bool, -Int.not_le, -Int.not_lt, -getElem?_pos, -List.getD_eq_getElem?_getD, Try.f42]
  refine CallJ.pure (iIsRatio a.1 a.2) rfl (by simp [-Bool.exists_bool, -Int.not_le, -Int.not_lt, -getElem?_pos, -List.getD_eq_getElem?_getD]) ?_
  simp -implicitDefEqProofs -dsimp +contextual [-Bool.exists_bool, -Int.not_le, -Int.not_lt, -getElem?_pos, -List.getD_eq_getElem?_getD]
  refine ⟨fun h1 => ?_, fun h1 => RLe.pure 2 (by simp [-Bool.exists_bool, -Int.not_le, -Int.not_lt, -getElem?_pos, -List.getD_eq_getElem?_getD, prdR, h1])⟩
  refine CallJ.pure (iIsRatio b.1 b.2) rfl (by simp [-Bool.exists_bool, -Int.not_le, -Int.not_lt, -getElem?_pos, -List.getD_eq_getElem?_getD]) ?_
  simp -implicitDefEqProofs -dsimp +contextual [-Bool.exists_bool, -Int.not_le, -Int.not_lt, -getElem?_pos, -List.getD_eq_getElem?_getD, h1]
  refine ⟨fun h2 => ?_, fun h2 => RLe.pure 2 (by simp [-Bool.exists_bool, -Int.not_le, -Int.not_lt, -getElem?_pos, -List.getD_eq_getElem?_getD, prdR, h1, h2])⟩
  have m1 := rat_num2 h1 h2
  have m3 := rat_den2 h1 h2
  rw [wr (by omega) (by omega), wr (by omega) (by omega)]
  refine CallJ.pure (iReduced (a.1 * b.1) (a.2 * b.2) ⟨by omega, by omega⟩ ⟨by omega, by omega⟩) rfl (by simp [-Bool.exists_bool, -Int.not_le, -Int.not_lt, -getElem?_pos, -List.getD_eq_getElem?_getD]) ?_
  simp -implicitDefEqProofs -dsimp +contextual [-Bool.exists_bool, -Int.not_le, -Int.not_lt, -getElem?_pos, -List.getD_eq_getElem?_getD, h1, h2]
  exact RLe.pure 2 (by simp [-Bool.exists_bool, -Int.not_le, -Int.not_lt, -getElem?_pos, -List.getD_eq_getElem?_getD, prdR, h1, h2])
theorem iNegateRatio (a : Int × Int) (h : isRat a.1 a.2 = true) : Cn Try.prog 69 [Rp a] (Rp (-a.1, a.2)) hemp := by
  refine Cn.of [] mixed Try.func69 rfl Try.call69 (by kernel_rfl) rfl ?_
  simp -implicitDefEqProofs -dsimp +contextual [-Bool.exists_bool, -Int.not_le, -Int.not_lt, -getElem?_pos, -List.getD_eq_getElem?_getD, Try.f69]
  refine CallJ.pure (iIsRatio a.1 a.2) rfl (by simp [-Bool.exists_bool, -Int.not_le, -Int.not_lt, -getElem?_pos, -List.getD_eq_getElem?_getD]) ?_
  simp -implicitDefEqProofs -dsimp +contextual [-Bool.exists_bool, -Int.not_le, -Int.not_lt, -getElem?_pos, -List.getD_eq_getElem?_getD, h]
  have q := isRat_iff.1 h
  rw [wr (by omega) (by omega)]
  exact RLe.pure 2 (by simp [-Bool.exists_bool, -Int.not_le, -Int.not_lt, -getElem?_pos, -List.getD_eq_getElem?_getD])
theorem iSubOne (a : Int × Int) : Cn Try.prog 44 [Rp a, Rp (1, 1)] (Rp (sumR a (-1, 1))) hemp := by
  refine Cn.of [] mixed Try.func44 rfl Try.call44 (by kernel_rfl) rfl ?_
  simp -implicitDefEqProofs -dsimp +contextual [-Bool.exists_bool, -Int.not_le, -Int.not_lt, -getElem?_pos, -List.getD_eq_getElem?_getD, Try.f44]
  refine CallJ.pure (iNegateRatio (1, 1) (by decide)) rfl (by simp [-Bool.exists_bool, -Int.not_le, -Int.not_lt, -getElem?_pos, -List.getD_eq_getElem?_getD]) ?_
  simp -implicitDefEqProofs -dsimp +contextual [-Bool.exists_bool, -Int.not_le, -Int.not_lt, -getElem?_pos, -List.getD_eq_getElem?_getD]
  refine CallJ.pure (iAddRatios a (-1, 1)) rfl (by simp [-Bool.exists_bool, -Int.not_le, -Int.not_lt, -getElem?_pos, -List.getD_eq_getElem?_getD]) ?_
  simp -implicitDefEqProofs -dsimp +contextual [-Bool.exists_bool, -Int.not_le, -Int.not_lt, -getElem?_pos, -List.getD_eq_getElem?_getD]
  exact RLe.pure 2 (by simp [-Bool.exists_bool, -Int.not_le, -Int.not_lt, -getElem?_pos, -List.getD_eq_getElem?_getD])
theorem iChosen (b : Bd) : Cn Try.prog 20 [bdV b] (Rp (chooseR b)) hemp := by
  refine Cn.of [] mixed Try.func20 rfl Try.call20 (by kernel_rfl) rfl ?_
  obtain ⟨hl, lo, lop, hh, hi, hop, em⟩ := b
  cases hl
  · cases hh
    · simp -implicitDefEqProofs -dsimp +contextual [-Bool.exists_bool, -Int.not_le, -Int.not_lt, -getElem?_pos, -List.getD_eq_getElem?_getD, Try.f20]
      exact RLe.pure 2 (by simp [-Bool.exists_bool, -Int.not_le, -Int.not_lt, -getElem?_pos, -List.getD_eq_getElem?_getD, chooseR])
    · simp -implicitDefEqProofs -dsimp +contextual [-Bool.exists_bool, -Int.not_le, -Int.not_lt, -getElem?_pos, -List.getD_eq_getElem?_getD, Try.f20]
      refine CallJ.pure (iSubOne hi) rfl (by simp [-Bool.exists_bool, -Int.not_le, -Int.not_lt, -getElem?_pos, -List.getD_eq_getElem?_getD]) ?_
      simp -implicitDefEqProofs -dsimp +contextual [-Bool.exists_bool, -Int.not_le, -Int.not_lt, -getElem?_pos, -List.getD_eq_getElem?_getD]
      exact RLe.pure 2 (by simp [-Bool.exists_bool, -Int.not_le, -Int.not_lt, -getElem?_pos, -List.getD_eq_getElem?_getD, chooseR])
  · cases hh
    · simp -implicitDefEqProofs -dsimp +contextual [-Bool.exists_bool, -Int.not_le, -Int.not_lt, -getElem?_pos, -List.getD_eq_getElem?_getD, Try.f20]
      refine CallJ.pure (iAddRatios lo (1, 1)) rfl (by simp [-Bool.exists_bool, -Int.not_le, -Int.not_lt, -getElem?_pos, -List.getD_eq_getElem?_getD]) ?_
      simp -implicitDefEqProofs -dsimp +contextual [-Bool.exists_bool, -Int.not_le, -Int.not_lt, -getElem?_pos, -List.getD_eq_getElem?_getD]
      exact RLe.pure 2 (by simp [-Bool.exists_bool, -Int.not_le, -Int.not_lt, -getElem?_pos, -List.getD_eq_getElem?_getD, chooseR])
    · simp -implicitDefEqProofs -dsimp +contextual [-Bool.exists_bool, -Int.not_le, -Int.not_lt, -getElem?_pos, -List.getD_eq_getElem?_getD, Try.f20]
      refine CallJ.pure (iAddRatios lo hi) rfl (by simp [-Bool.exists_bool, -Int.not_le, -Int.not_lt, -getElem?_pos, -List.getD_eq_getElem?_getD]) ?_
      simp -implicitDefEqProofs -dsimp +contextual [-Bool.exists_bool, -Int.not_le, -Int.not_lt, -getElem?_pos, -List.getD_eq_getElem?_getD]
      refine CallJ.pure (iMultiplyRatios (sumR lo hi) (1, 2)) rfl (by simp [-Bool.exists_bool, -Int.not_le, -Int.not_lt, -getElem?_pos, -List.getD_eq_getElem?_getD]) ?_
      simp -implicitDefEqProofs -dsimp +contextual [-Bool.exists_bool, -Int.not_le, -Int.not_lt, -getElem?_pos, -List.getD_eq_getElem?_getD]
      exact RLe.pure 2 (by simp [-Bool.exists_bool, -Int.not_le, -Int.not_lt, -getElem?_pos, -List.getD_eq_getElem?_getD, chooseR])
end Go.Proofs.Ytjknjekemolndaa.ZL
namespace Go.Proofs.Ytjknjekemolndaa.ZL
open Go Go.Proofs.Ytjknjekemolndaa.Abs Go.Proofs.Ytjknjekemolndaa.Abs.Pl Go.RowKit Go.Proofs
set_option linter.unusedVariables false
set_option linter.unusedSimpArgs false
set_option linter.unnecessarySimpa false
set_option maxRecDepth 100000
theorem iIsPoint (p : List (Int × Int)) (d : Int) (h20 : p.length ≤ 1048576) : Cn Try.prog 26 [Rs p, I d] (B (isPoint p d)) hemp := by
  refine Cn.of [] mixed Try.func26 rfl Try.call26 (by kernel_rfl) rfl ?_
  simp -implicitDefEqProofs -dsimp +contextual [-Bool.exists_bool, -Int.not_le, -Int.not_lt, -getElem?_pos, -List.getD_eq_getElem?_getD, Try.f26]
  refine ⟨fun h => ?_, fun h => ?_⟩
  · subst h
    refine WP.loop mixed [] (fun i : Nat => ⟨tl [(11, Rs p), (12, I p.length), (13, I i)], hl [], 1⟩) (fun i => i ≤ p.length ∧ isPoint p p.length = (p.drop i).all fun r => isRat r.1 r.2) (fun i => p.length - i) 0 (by kernel_rfl) ?_ ?_ ?_
    · refine Le.told [] ?_ ?_ ?_ <;> simp [-Bool.exists_bool, -Int.not_le, -Int.not_lt, -getElem?_pos, -List.getD_eq_getElem?_getD]
    · refine ⟨Nat.zero_le _, ?_⟩
      unfold isPoint
      simp [-Bool.exists_bool, -Int.not_le, -Int.not_lt, -getElem?_pos, -List.getD_eq_getElem?_getD]
    · rintro i ⟨hi, he⟩
      by_cases hl : i < p.length
      · rw [nth_drop hl, List.all_cons] at he
        simp -implicitDefEqProofs -dsimp +contextual [-Bool.exists_bool, -Int.not_le, -Int.not_lt, -getElem?_pos, -List.getD_eq_getElem?_getD, hl]
        refine ⟨by omega, ?_⟩
        refine CallJ.pure (iIsRatio _ _) rfl (by simp [-Bool.exists_bool, -Int.not_le, -Int.not_lt, -getElem?_pos, -List.getD_eq_getElem?_getD]) ?_
        simp -implicitDefEqProofs -dsimp +contextual [-Bool.exists_bool, -Int.not_le, -Int.not_lt, -getElem?_pos, -List.getD_eq_getElem?_getD, hl]
        refine ⟨fun h1 => ?_, fun h1 => ?_⟩
        · rw [h1, Bool.true_and] at he
          refine ⟨i + 1, ⟨hl, he⟩, by omega, ?_⟩
          rw [wr (by omega) (by omega)]
          refine Le.told [] ?_ ?_ ?_ <;> simp [-Bool.exists_bool, -Int.not_le, -Int.not_lt, -getElem?_pos, -List.getD_eq_getElem?_getD]
        · rw [h1, Bool.false_and] at he
          exact RLe.bb he.symm
      · rw [drop_nil (by omega)] at he
        simp -implicitDefEqProofs -dsimp +contextual [-Bool.exists_bool, -Int.not_le, -Int.not_lt, -getElem?_pos, -List.getD_eq_getElem?_getD, hl]
        exact RLe.bb (by rw [he]; rfl)
  · exact RLe.bb (by unfold isPoint; simp [-Bool.exists_bool, -Int.not_le, -Int.not_lt, -getElem?_pos, -List.getD_eq_getElem?_getD, h])
def valG : List Int → List (Int × Int) → Int × Int → Int × Int
  | x :: xs, r :: rs, v => valG xs rs (sumR v (prdR (x, 1) r))
  | _, _, v => v
def valI (a : At) (p : List (Int × Int)) : (Int × Int) × Bool := if isAt a.1 a.2.1 = true ∧ isPoint p a.1.length = true then (valG a.1 p (a.2.1, 1), isRat (valG a.1 p (a.2.1, 1)).1 (valG a.1 p (a.2.1, 1)).2) else ((0, 0), false)
theorem iValueOf (a : At) (p : List (Int × Int)) (h20 : p.length ≤ 1048576) : Cn Try.prog 50 [A1 a, Rs p] (.tup [Rp (valI a p).1, B (valI a p).2]) hemp := by
  refine Cn.of [0] mixed Try.func50 rfl Try.call50 (by kernel_rfl) rfl ?_
  simp -implicitDefEqProofs -dsimp +contextual [-Bool.exists_bool, -Int.not_le, -Int.not_lt, -getElem?_pos, -List.getD_eq_getElem?_getD, Try.f50]
  refine CallJ.pure (iIsAtom a) rfl (by simp [-Bool.exists_bool, -Int.not_le, -Int.not_lt, -getElem?_pos, -List.getD_eq_getElem?_getD]) ?_
  simp -implicitDefEqProofs -dsimp +contextual [-Bool.exists_bool, -Int.not_le, -Int.not_lt, -getElem?_pos, -List.getD_eq_getElem?_getD]
  refine ⟨fun ha => ?_, fun ha => ?_⟩
  · refine CallJ.pure (iIsPoint p a.1.length h20) rfl (by simp [-Bool.exists_bool, -Int.not_le, -Int.not_lt, -getElem?_pos, -List.getD_eq_getElem?_getD]) ?_
    simp -implicitDefEqProofs -dsimp +contextual [-Bool.exists_bool, -Int.not_le, -Int.not_lt, -getElem?_pos, -List.getD_eq_getElem?_getD, ha]
    refine ⟨fun hp => ?_, fun hp => ?_⟩
    · have hpl : p.length = a.1.length := by have := isPoint_len hp; omega
      have ev : valI a p = (valG a.1 p (a.2.1, 1), isRat (valG a.1 p (a.2.1, 1)).1 (valG a.1 p (a.2.1, 1)).2) := if_pos ⟨ha, hp⟩
      rw [ev]
      refine WP.loop mixed [0] (fun q : Nat × Int × Int => ⟨tl [(1, Rs p), (2, .ptr (0, 0) 0), (4, .ptr (1, 0) 0), (6, .ptr (2, 0) 0), (25, Is a.1), (26, I a.1.length), (27, I q.1)], hl [((0, 0), .box (aV a)), ((1, 0), .box [I 0, I 0]), ((2, 0), .box [I q.2.1, I q.2.2])], 3⟩) (fun q => q.1 ≤ a.1.length ∧ valG a.1 p (a.2.1, 1) = valG (a.1.drop q.1) (p.drop q.1) q.2) (fun q => a.1.length - q.1) (0, a.2.1, 1) (by kernel_rfl) ?_ ?_ ?_
      · refine Le.told [((2, 0), (17, 0))] ?_ ?_ ?_ <;> simp [-Bool.exists_bool, -Int.not_le, -Int.not_lt, -getElem?_pos, -List.getD_eq_getElem?_getD, setH]
      · exact ⟨Nat.zero_le _, by simp [-Bool.exists_bool, -Int.not_le, -Int.not_lt, -getElem?_pos, -List.getD_eq_getElem?_getD]⟩
      · rintro ⟨i, v⟩ ⟨hi, he⟩
        simp only at hi he
        by_cases hl : i < a.1.length
        · have hlp : i < p.length := by omega
          rw [nth_drop hl, nth_drop hlp, valG] at he
          simp -implicitDefEqProofs -dsimp +contextual [-Bool.exists_bool, -Int.not_le, -Int.not_lt, -getElem?_pos, -List.getD_eq_getElem?_getD, hl, hlp]
          refine ⟨by omega, ?_⟩
          refine CallJ.pure (iMultiplyRatios (nth a.1 i, 1) (nth p i)) rfl (by simp [-Bool.exists_bool, -Int.not_le, -Int.not_lt, -getElem?_pos, -List.getD_eq_getElem?_getD]) ?_
          simp -implicitDefEqProofs -dsimp +contextual [-Bool.exists_bool, -Int.not_le, -Int.not_lt, -getElem?_pos, -List.getD_eq_getElem?_getD]
          refine CallJ.pure (iAddRatios v (prdR (nth a.1 i, 1) (nth p i))) rfl (by simp [-Bool.exists_bool, -Int.not_le, -Int.not_lt, -getElem?_pos, -List.getD_eq_getElem?_getD]) ?_
          simp -implicitDefEqProofs -dsimp +contextual [-Bool.exists_bool, -Int.not_le, -Int.not_lt, -getElem?_pos, -List.getD_eq_getElem?_getD]
          refine ⟨Quiet.of [] (by kernel_rfl) (by simp [-Bool.exists_bool, -Int.not_le, -Int.not_lt, -getElem?_pos, -List.getD_eq_getElem?_getD, allP, offB]), i + 1, (sumR v (prdR (nth a.1 i, 1) (nth p i))).1, (sumR v (prdR (nth a.1 i, 1) (nth p i))).2, ⟨hl, he⟩, by omega, ?_⟩
          rw [wr (x := (i : Int) + 1) (by omega) (by omega)]
          refine Le.told [] ?_ ?_ ?_ <;> simp [-Bool.exists_bool, -Int.not_le, -Int.not_lt, -getElem?_pos, -List.getD_eq_getElem?_getD]
        · rw [drop_nil (by omega), drop_nil (by omega)] at he
          simp -implicitDefEqProofs -dsimp +contextual [-Bool.exists_bool, -Int.not_le, -Int.not_lt, -getElem?_pos, -List.getD_eq_getElem?_getD, hl]
          refine CallJ.pure (iIsRatio _ _) rfl (by simp [-Bool.exists_bool, -Int.not_le, -Int.not_lt, -getElem?_pos, -List.getD_eq_getElem?_getD]) ?_
          simp -implicitDefEqProofs -dsimp +contextual [-Bool.exists_bool, -Int.not_le, -Int.not_lt, -getElem?_pos, -List.getD_eq_getElem?_getD]
          rw [he]
          refine ⟨Quiet.of [] (by kernel_rfl) (by simp [-Bool.exists_bool, -Int.not_le, -Int.not_lt, -getElem?_pos, -List.getD_eq_getElem?_getD, allP, offB]), ?_⟩
          exact RLe.pure 2 (by simp [-Bool.exists_bool, -Int.not_le, -Int.not_lt, -getElem?_pos, -List.getD_eq_getElem?_getD, setH, valG])
    · rw [show valI a p = ((0, 0), false) from if_neg (by simp [-Bool.exists_bool, -Int.not_le, -Int.not_lt, -getElem?_pos, -List.getD_eq_getElem?_getD, hp])]
      exact RLe.pure 2 (by simp [-Bool.exists_bool, -Int.not_le, -Int.not_lt, -getElem?_pos, -List.getD_eq_getElem?_getD])
  · rw [show valI a p = ((0, 0), false) from if_neg (by simp [-Bool.exists_bool, -Int.not_le, -Int.not_lt, -getElem?_pos, -List.getD_eq_getElem?_getD, ha])]
    exact RLe.pure 2 (by simp [-Bool.exists_bool, -Int.not_le, -Int.not_lt, -getElem?_pos, -List.getD_eq_getElem?_getD])
def holdI (a : At) (p : List (Int × Int)) : Bool × Bool := if (valI a p).2 = true then (decide ((valI a p).1.1 < 0) || (decide ((valI a p).1.1 = 0) && !a.2.2), true) else (false, false)
theorem iHoldsAt (a : At) (p : List (Int × Int)) (h20 : p.length ≤ 1048576) : Cn Try.prog 27 [A1 a, Rs p] (.tup [B (holdI a p).1, B (holdI a p).2]) hemp := by
  refine Cn.of [] mixed Try.func27 rfl Try.call27 (by kernel_rfl) rfl ?_
  simp -implicitDefEqProofs -dsimp +contextual [-Bool.exists_bool, -Int.not_le, -Int.not_lt, -getElem?_pos, -List.getD_eq_getElem?_getD, Try.f27]
  refine CallJ.pure (iValueOf a p h20) rfl (by simp [-Bool.exists_bool, -Int.not_le, -Int.not_lt, -getElem?_pos, -List.getD_eq_getElem?_getD]) ?_
  unfold holdI
  generalize valI a p = y
  obtain ⟨v, f⟩ := y
  simp -implicitDefEqProofs -dsimp +contextual [-Bool.exists_bool, -Int.not_le, -Int.not_lt, -getElem?_pos, -List.getD_eq_getElem?_getD]
  refine ⟨fun h => ⟨fun h1 => ?_, fun h1 => ⟨fun h2 => ?_, fun h2 => ?_⟩⟩, fun h => ?_⟩
  · exact RLe.pure 2 (by simp [-Bool.exists_bool, -Int.not_le, -Int.not_lt, -getElem?_pos, -List.getD_eq_getElem?_getD, h1])
  · exact RLe.pure 2 (by simp [-Bool.exists_bool, -Int.not_le, -Int.not_lt, -getElem?_pos, -List.getD_eq_getElem?_getD, h1, h2])
  · exact RLe.pure 2 (by simp [-Bool.exists_bool, -Int.not_le, -Int.not_lt, -getElem?_pos, -List.getD_eq_getElem?_getD, h1, h2])
  · exact RLe.pure 2 (by simp [-Bool.exists_bool, -Int.not_le, -Int.not_lt, -getElem?_pos, -List.getD_eq_getElem?_getD])
def inGoI (p : List (Int × Int)) : List At → Bool → Bool × Bool
  | [], b => (b, true)
  | a :: T, b => if (holdI a p).2 = true then inGoI p T (b && (holdI a p).1) else (false, false)
def inI (d : Int) (L : List At) (p : List (Int × Int)) : Bool × Bool := if isCe d L = true ∧ isPoint p d = true then inGoI p L true else (false, false)
theorem iInCell (d : Int) (L : List At) (p : List (Int × Int)) (hl20 : L.length ≤ 1048576) (h20 : p.length ≤ 1048576) : Cn Try.prog 10 [C1 d L, Rs p] (.tup [B (inI d L p).1, B (inI d L p).2]) hemp := by
  refine Cn.of [] mixed Try.func10 rfl Try.call10 (by kernel_rfl) rfl ?_
  simp -implicitDefEqProofs -dsimp +contextual [-Bool.exists_bool, -Int.not_le, -Int.not_lt, -getElem?_pos, -List.getD_eq_getElem?_getD, Try.f10]
  refine CallJ.pure (iIsCell d L hl20) rfl (by simp [-Bool.exists_bool, -Int.not_le, -Int.not_lt, -getElem?_pos, -List.getD_eq_getElem?_getD]) ?_
  simp -implicitDefEqProofs -dsimp +contextual [-Bool.exists_bool, -Int.not_le, -Int.not_lt, -getElem?_pos, -List.getD_eq_getElem?_getD]
  refine ⟨fun ha => ?_, fun ha => ?_⟩
  · refine CallJ.pure (iIsPoint p d h20) rfl (by simp [-Bool.exists_bool, -Int.not_le, -Int.not_lt, -getElem?_pos, -List.getD_eq_getElem?_getD]) ?_
    simp -implicitDefEqProofs -dsimp +contextual [-Bool.exists_bool, -Int.not_le, -Int.not_lt, -getElem?_pos, -List.getD_eq_getElem?_getD, ha]
    refine ⟨fun hp => ?_, fun hp => ?_⟩
    · rw [show inI d L p = inGoI p L true from if_pos ⟨ha, hp⟩]
      refine WP.loop mixed [] (fun q : Nat × Bool => ⟨tl [(1, Rs p), (6, B q.2), (22, As L), (23, I L.length), (24, I q.1)], hl [], 1⟩) (fun q => q.1 ≤ L.length ∧ inGoI p L true = inGoI p (L.drop q.1) q.2) (fun q => L.length - q.1) (0, true) (by kernel_rfl) ?_ ?_ ?_
      · refine Le.told [] ?_ ?_ ?_ <;> simp [-Bool.exists_bool, -Int.not_le, -Int.not_lt, -getElem?_pos, -List.getD_eq_getElem?_getD]
      · exact ⟨Nat.zero_le _, by simp [-Bool.exists_bool, -Int.not_le, -Int.not_lt, -getElem?_pos, -List.getD_eq_getElem?_getD]⟩
      · rintro ⟨i, b⟩ ⟨hi, he⟩
        simp only at hi he
        by_cases hl : i < L.length
        · rw [nth_drop hl, inGoI] at he
          simp -implicitDefEqProofs -dsimp +contextual [-Bool.exists_bool, -Int.not_le, -Int.not_lt, -getElem?_pos, -List.getD_eq_getElem?_getD, hl]
          refine CallJ.pure (iHoldsAt (nth L i) p h20) rfl (by simp [-Bool.exists_bool, -Int.not_le, -Int.not_lt, -getElem?_pos, -List.getD_eq_getElem?_getD]) ?_
          generalize holdI (nth L i) p = y at *
          obtain ⟨h1, h2⟩ := y
          simp -implicitDefEqProofs -dsimp +contextual [-Bool.exists_bool, -Int.not_le, -Int.not_lt, -getElem?_pos, -List.getD_eq_getElem?_getD]
          refine ⟨fun hf => ⟨fun hb => ?_, fun hb => ?_⟩, fun hf => ?_⟩
          · rw [if_pos hf, hb, Bool.true_and] at he
            refine ⟨i + 1, h1, ⟨hl, he⟩, by omega, ?_⟩
            rw [wr (x := (i : Int) + 1) (by omega) (by omega)]
            refine Le.told [] ?_ ?_ ?_ <;> simp [-Bool.exists_bool, -Int.not_le, -Int.not_lt, -getElem?_pos, -List.getD_eq_getElem?_getD]
          · rw [if_pos hf, hb, Bool.false_and] at he
            refine ⟨i + 1, false, ⟨hl, he⟩, by omega, ?_⟩
            rw [wr (x := (i : Int) + 1) (by omega) (by omega)]
            refine Le.told [] ?_ ?_ ?_ <;> simp [-Bool.exists_bool, -Int.not_le, -Int.not_lt, -getElem?_pos, -List.getD_eq_getElem?_getD]
          · rw [if_neg (by simp [-Bool.exists_bool, -Int.not_le, -Int.not_lt, -getElem?_pos, -List.getD_eq_getElem?_getD, hf])] at he
            rw [he]
            exact RLe.pure 2 (by simp [-Bool.exists_bool, -Int.not_le, -Int.not_lt, -getElem?_pos, -List.getD_eq_getElem?_getD])
        · rw [drop_nil (by omega), inGoI] at he
          simp -implicitDefEqProofs -dsimp +contextual [-Bool.exists_bool, -Int.not_le, -Int.not_lt, -getElem?_pos, -List.getD_eq_getElem?_getD, hl]
          rw [he]
          exact RLe.pure 2 (by simp [-Bool.exists_bool, -Int.not_le, -Int.not_lt, -getElem?_pos, -List.getD_eq_getElem?_getD])
    · rw [show inI d L p = (false, false) from if_neg (by simp [-Bool.exists_bool, -Int.not_le, -Int.not_lt, -getElem?_pos, -List.getD_eq_getElem?_getD, hp])]
      exact RLe.pure 2 (by simp [-Bool.exists_bool, -Int.not_le, -Int.not_lt, -getElem?_pos, -List.getD_eq_getElem?_getD])
  · rw [show inI d L p = (false, false) from if_neg (by simp [-Bool.exists_bool, -Int.not_le, -Int.not_lt, -getElem?_pos, -List.getD_eq_getElem?_getD, ha])]
    exact RLe.pure 2 (by simp [-Bool.exists_bool, -Int.not_le, -Int.not_lt, -getElem?_pos, -List.getD_eq_getElem?_getD])
end Go.Proofs.Ytjknjekemolndaa.ZL
namespace Go.Proofs.Ytjknjekemolndaa.ZL
open Go Go.Proofs.Ytjknjekemolndaa.Abs Go.Proofs.Ytjknjekemolndaa.Abs.Pl Go.RowKit Go.Proofs
set_option linter.unusedVariables false
set_option linter.unusedSimpArgs false
theorem rv_one (n : Int) : rv (n, 1) = (n : Rat) := by
  unfold rv
  simp [-Bool.exists_bool, -Int.not_le, -Int.not_lt, -getElem?_pos, -List.getD_eq_getElem?_getD]
  grind
theorem valG_rv {x : Nat → Rat} : ∀ (l : List Int) (p : List (Int × Int)) (v : Int × Int) (k : Nat), p.length = l.length → (∀ i, i < p.length → x (k + i) = rv (nth p i)) → isRat (valG l p v).1 (valG l p v).2 = true →
    isRat v.1 v.2 = true ∧ rv (valG l p v) = rv v + dt x k l
  | [], p, v, k, hl, hx, h => by
    have e : valG [] p v = v := by cases p <;> rfl
    rw [e] at h ⊢
    refine ⟨h, ?_⟩
    show rv v = rv v + 0
    grind
  | n :: l, [], v, k, hl, hx, h => by simp [-Bool.exists_bool, -Int.not_le, -Int.not_lt, -getElem?_pos, -List.getD_eq_getElem?_getD] at hl
  | n :: l, r :: p, v, k, hl, hx, h => by
    have e : valG (n :: l) (r :: p) v = valG l p (sumR v (prdR (n, 1) r)) := rfl
    rw [e] at h ⊢
    have h0 := hx 0 (by simp [-Bool.exists_bool, -Int.not_le, -Int.not_lt, -getElem?_pos, -List.getD_eq_getElem?_getD])
    have ih := valG_rv (x := x) l p (sumR v (prdR (n, 1) r)) (k + 1) (by simpa [-Bool.exists_bool, -Int.not_le, -Int.not_lt, -getElem?_pos, -List.getD_eq_getElem?_getD] using hl) (fun i hi => by
      have := hx (i + 1) (by simp [-Bool.exists_bool, -Int.not_le, -Int.not_lt, -getElem?_pos, -List.getD_eq_getElem?_getD]; omega)
      rw [show k + 1 + i = k + (i + 1) by omega, this]
      rfl) h
    obtain ⟨i1, i2⟩ := ih
    obtain ⟨s1, s2, s3⟩ := sumR_rv i1
    obtain ⟨p1, p2, p3⟩ := prdR_rv s2
    refine ⟨s1, ?_⟩
    rw [i2, s3, p3, rv_one]
    have h0' : x k = rv r := by rw [Nat.add_zero] at h0; exact h0
    show _ = rv v + ((n : Rat) * x k + dt x (k + 1) l)
    rw [h0']
    grind
theorem rv_neg {r : Int × Int} (h : isRat r.1 r.2 = true) : r.1 < 0 ↔ rv r < 0 := by
  have := rat_lt (a := r) (b := (0, 1)) h rfl
  rw [rv_one] at this
  simp only [Int.mul_one, Int.zero_mul] at this
  simpa [-Bool.exists_bool, -Int.not_le, -Int.not_lt, -getElem?_pos, -List.getD_eq_getElem?_getD] using this
theorem rv_zero {r : Int × Int} (h : isRat r.1 r.2 = true) : r.1 = 0 ↔ rv r = 0 := by
  have := rat_eq (a := r) (b := (0, 1)) h rfl
  rw [rv_one] at this
  simp only [Int.mul_one, Int.zero_mul] at this
  simpa [-Bool.exists_bool, -Int.not_le, -Int.not_lt, -getElem?_pos, -List.getD_eq_getElem?_getD] using this
theorem holdI_sat {x : Nat → Rat} {a : At} {p : List (Int × Int)} (hx : ∀ i, i < p.length → x i = rv (nth p i)) (h : (holdI a p).2 = true) : (holdI a p).1 = true ↔ Sat x a := by
  unfold holdI at h ⊢
  split at h
  · rename_i hv
    rw [if_pos hv]
    unfold valI at hv ⊢
    split at hv
    · rename_i hc
      rw [if_pos hc]
      have hl : p.length = a.1.length := by have := isPoint_len hc.2; omega
      obtain ⟨_, e⟩ := valG_rv (x := x) a.1 p (a.2.1, 1) 0 hl (fun i hi => by rw [Nat.zero_add]; exact hx i hi) hv
      rw [rv_one] at e
      have e : rv (valG a.1 p (a.2.1, 1)) = evA x a := e
      have n1 := rv_neg hv
      have n2 := rv_zero hv
      rw [e] at n1 n2
      unfold Sat
      rw [← n1, ← n2]
      simp [-Bool.exists_bool, -Int.not_le, -Int.not_lt, -getElem?_pos, -List.getD_eq_getElem?_getD]
    · cases hv
  · cases h
theorem inGoI_sat {x : Nat → Rat} {p : List (Int × Int)} (hx : ∀ i, i < p.length → x i = rv (nth p i)) : ∀ {L : List At} {b : Bool}, (inGoI p L b).2 = true → ((inGoI p L b).1 = true ↔ b = true ∧ SatL x L)
  | [], b, h => by
    show b = true ↔ _
    exact ⟨fun h => ⟨h, fun a ha => by simp [-Bool.exists_bool, -Int.not_le, -Int.not_lt, -getElem?_pos, -List.getD_eq_getElem?_getD] at ha⟩, fun h => h.1⟩
  | a :: L, b, h => by
    unfold inGoI at h ⊢
    split at h
    · rename_i hh
      rw [if_pos hh, inGoI_sat hx h, Bool.and_eq_true, holdI_sat hx hh]
      constructor
      · rintro ⟨⟨h1, h2⟩, h3⟩
        refine ⟨h1, fun c hc => ?_⟩
        rcases List.mem_cons.1 hc with rfl | hc
        · exact h2
        · exact h3 c hc
      · rintro ⟨h1, h2⟩
        exact ⟨⟨h1, h2 a (by simp [-Bool.exists_bool, -Int.not_le, -Int.not_lt, -getElem?_pos, -List.getD_eq_getElem?_getD])⟩, fun c hc => h2 c (by simp [-Bool.exists_bool, -Int.not_le, -Int.not_lt, -getElem?_pos, -List.getD_eq_getElem?_getD, hc])⟩
    · cases h
theorem inI_sat {x : Nat → Rat} {d : Int} {L : List At} {p : List (Int × Int)} (hx : ∀ i, i < p.length → x i = rv (nth p i)) (h : (inI d L p).2 = true) : isCe d L = true ∧ (p.length : Int) = d ∧ ((inI d L p).1 = true ↔ SatL x L) := by
  unfold inI at h ⊢
  split at h
  · rename_i hc
    rw [if_pos hc]
    refine ⟨hc.1, isPoint_len hc.2, ?_⟩
    rw [inGoI_sat hx h]
    simp [-Bool.exists_bool, -Int.not_le, -Int.not_lt, -getElem?_pos, -List.getD_eq_getElem?_getD]
  · cases h
theorem inI_f {d : Int} {L : List At} {p : List (Int × Int)} (h : (inI d L p).2 = false) : (inI d L p).1 = false := by
  unfold inI at h ⊢
  split
  · rename_i hc
    rw [if_pos hc] at h
    have : ∀ (L : List At) (b : Bool), (inGoI p L b).2 = false → (inGoI p L b).1 = false := by
      intro L
      induction L with
      | nil => intro b h; cases h
      | cons a L ih =>
        intro b h
        unfold inGoI at h ⊢
        split
        · rename_i hh
          rw [if_pos hh] at h
          exact ih _ h
        · rfl
    exact this L true h
  · rfl
theorem dt_addMul (x : Nat → Rat) (n : Int) : ∀ (c s : List Int) (k : Nat), c.length = s.length → dt x k (addMul n c s) = dt x k s + (n : Rat) * dt x k c
  | [], [], k, _ => by simp [-Bool.exists_bool, -Int.not_le, -Int.not_lt, -getElem?_pos, -List.getD_eq_getElem?_getD, dt, addMul, Rat.add_zero]
  | a :: c, b :: s, k, h => by
    have := dt_addMul x n c s (k + 1) (by simpa [-Bool.exists_bool, -Int.not_le, -Int.not_lt, -getElem?_pos, -List.getD_eq_getElem?_getD] using h)
    have e : addMul n (a :: c) (b :: s) = (b + n * a) :: addMul n c s := by
      unfold addMul
      rw [List.mapIdx_cons]
      simp only [List.getD_cons_zero, List.getD_cons_succ]
    rw [e]
    simp only [dt, this, Rat.intCast_add, Rat.intCast_mul]
    grind
  | [], _ :: _, _, h => by simp [-Bool.exists_bool, -Int.not_le, -Int.not_lt, -getElem?_pos, -List.getD_eq_getElem?_getD] at h
  | _ :: _, [], _, h => by simp [-Bool.exists_bool, -Int.not_le, -Int.not_lt, -getElem?_pos, -List.getD_eq_getElem?_getD] at h
theorem refGo_farkas {x : Nat → Rat} : ∀ {ms : List Int} {L : List At} {S : List Int} {k : Int} {st : Bool}, refGo S k st ms L = true → (∀ a ∈ L, a.1.length = S.length) → SatL x L →
    0 < (k : Rat) + dt x 0 S ∨ ((k : Rat) + dt x 0 S = 0 ∧ st = true)
  | [], L, S, k, st, h, hl, hs => by
    have e : refGo S k st [] L = refEnd S k st := by cases L <;> rfl
    rw [e] at h
    unfold refEnd at h
    simp only [Bool.and_eq_true, List.all_eq_true, decide_eq_true_eq, Bool.or_eq_true] at h
    rw [dt_zero x S 0 h.1, Rat.add_zero]
    rcases h.2 with h3 | ⟨rfl, h3⟩
    · left; exact_mod_cast h3
    · right; exact ⟨by simp [-Bool.exists_bool, -Int.not_le, -Int.not_lt, -getElem?_pos, -List.getD_eq_getElem?_getD], h3⟩
  | n :: ms, [], S, k, st, h, hl, hs => by
    rw [show refGo S k st (n :: ms) [] = refEnd S k st from rfl] at h
    unfold refEnd at h
    simp only [Bool.and_eq_true, List.all_eq_true, decide_eq_true_eq, Bool.or_eq_true] at h
    rw [dt_zero x S 0 h.1, Rat.add_zero]
    rcases h.2 with h3 | ⟨rfl, h3⟩
    · left; exact_mod_cast h3
    · right; exact ⟨by simp [-Bool.exists_bool, -Int.not_le, -Int.not_lt, -getElem?_pos, -List.getD_eq_getElem?_getD], h3⟩
  | n :: ms, a :: L, S, k, st, h, hl, hs => by
    unfold refGo at h
    split at h
    · rename_i hn
      simp only [Bool.and_eq_true, decide_eq_true_eq] at hn
      have hal := hl a (by simp [-Bool.exists_bool, -Int.not_le, -Int.not_lt, -getElem?_pos, -List.getD_eq_getElem?_getD])
      have hml : (addMul n a.1 S).length = S.length := by simp [-Bool.exists_bool, -Int.not_le, -Int.not_lt, -getElem?_pos, -List.getD_eq_getElem?_getD, addMul]
      have ih := refGo_farkas (x := x) h (fun b hb => by rw [hml]; exact hl b (by simp [-Bool.exists_bool, -Int.not_le, -Int.not_lt, -getElem?_pos, -List.getD_eq_getElem?_getD, hb])) (fun b hb => hs b (by simp [-Bool.exists_bool, -Int.not_le, -Int.not_lt, -getElem?_pos, -List.getD_eq_getElem?_getD, hb]))
      rw [dt_addMul x n a.1 S 0 hal] at ih
      have hsa := hs a (by simp [-Bool.exists_bool, -Int.not_le, -Int.not_lt, -getElem?_pos, -List.getD_eq_getElem?_getD])
      have hn0 : (0 : Rat) ≤ (n : Rat) := by exact_mod_cast hn.1
      have ev : evA x a = (a.2.1 : Rat) + dt x 0 a.1 := rfl
      have e : ((k + n * a.2.1 : Int) : Rat) + (dt x 0 S + (n : Rat) * dt x 0 a.1) = ((k : Rat) + dt x 0 S) + (n : Rat) * evA x a := by
        rw [ev]
        simp only [Rat.intCast_add, Rat.intCast_mul]
        grind
      rw [e] at ih
      generalize (k : Rat) + dt x 0 S = E at *
      rcases hsa with hsa | ⟨hsa, hst⟩
      · by_cases hz : n = 0
        · subst hz
          simp [-Bool.exists_bool, -Int.not_le, -Int.not_lt, -getElem?_pos, -List.getD_eq_getElem?_getD] at ih
          rcases ih with ih | ih
          · left; grind
          · right; refine ⟨by grind, ih.2⟩
        · have hp : (0 : Rat) < (n : Rat) := by
            have : 0 < n := by omega
            exact_mod_cast this
          have hm : (n : Rat) * evA x a < 0 := (mulQ_neg hp).2 hsa
          left
          rcases ih with ih | ih
          · grind
          · grind
      · rw [hsa] at ih
        rw [hst] at ih
        simp [-Bool.exists_bool, -Int.not_le, -Int.not_lt, -getElem?_pos, -List.getD_eq_getElem?_getD] at ih
        rcases ih with ih | ih
        · left; grind
        · right; exact ⟨by grind, ih.2⟩
    · cases h
theorem isRef_unsat {d : Int} {L : List At} {m : List Int} (h : isRef d L m = true) : isCe d L = true ∧ ∀ x, ¬ SatL x L := by
  unfold isRef at h
  split at h
  · rename_i hc
    simp only [Bool.and_eq_true, decide_eq_true_eq] at hc
    refine ⟨hc.1, fun x hs => ?_⟩
    have hok := isCe_a hc.1
    have hd := isCe_d hc.1
    have := refGo_farkas (x := x) h (fun a ha => by have := (hok a ha).2; simp [-Bool.exists_bool, -Int.not_le, -Int.not_lt, -getElem?_pos, -List.getD_eq_getElem?_getD]; omega) hs
    rw [dt_zero x _ 0 (fun n hn => (List.mem_replicate.1 hn).2)] at this
    rcases this with h | h
    · simp [-Bool.exists_bool, -Int.not_le, -Int.not_lt, -getElem?_pos, -List.getD_eq_getElem?_getD] at h
      exact absurd h (by grind)
    · cases h.2
  · cases h
end Go.Proofs.Ytjknjekemolndaa.ZL
namespace Go.Proofs.Ytjknjekemolndaa.ZL
open Go Go.Proofs.Ytjknjekemolndaa.Abs Go.Proofs.Ytjknjekemolndaa.Abs.Pl Go.RowKit Go.Proofs
set_option linter.unusedVariables false
set_option linter.unusedSimpArgs false
theorem updL_nth {x : Nat → Rat} : ∀ (p : List (Int × Int)) (k i : Nat), i < p.length → updL x k p (k + i) = rv (nth p i)
  | [], k, i, h => by simp [-Bool.exists_bool, -Int.not_le, -Int.not_lt, -getElem?_pos, -List.getD_eq_getElem?_getD] at h
  | q :: p, k, 0, h => by
    show upd _ k (rv q) (k + 0) = _
    unfold upd; rw [if_pos (Nat.add_zero k)]; rfl
  | q :: p, k, i + 1, h => by
    show upd (updL x (k + 1) p) k (rv q) (k + (i + 1)) = _
    unfold upd
    rw [if_neg (by omega), show k + (i + 1) = k + 1 + i by omega, updL_nth p (k + 1) i (by simpa [-Bool.exists_bool, -Int.not_le, -Int.not_lt, -getElem?_pos, -List.getD_eq_getElem?_getD] using h)]
    rfl
theorem xp_nth (p : List (Int × Int)) (i : Nat) (h : i < p.length) : xp p i = rv (nth p i) := by
  have := updL_nth (x := fun _ => 0) p 0 i h
  rwa [Nat.zero_add] at this
theorem witD_cases (d : Int) (L : List At) : (witD d L).2 = 0 ∨ (witD d L).2 = 1 ∨ (witD d L).2 = 2 := by
  unfold witD
  cases projs d L with
  | none => exact .inr (.inr rfl)
  | some Z =>
    dsimp only
    split
    · exact .inr (.inl rfl)
    · cases witGo bI Z d.toNat [] with
      | none => exact .inr (.inr rfl)
      | some p => exact .inl rfl
theorem witD_empty {d : Int} {L : List At} (h : (emptyC d L).2 = true) (h2 : (witD d L).2 ≠ 2) : (emptyC d L).1 = decide ((witD d L).2 = 1) := by
  rw [projs_empty] at h ⊢
  unfold witD at h2 ⊢
  cases hz : projs d L with
  | none => rw [hz] at h; cases h
  | some Z =>
    rw [hz] at h2
    dsimp only at h2 ⊢
    split
    · rename_i h0; simp [-Bool.exists_bool, -Int.not_le, -Int.not_lt, -getElem?_pos, -List.getD_eq_getElem?_getD, h0]
    · rename_i h0
      rw [if_neg h0] at h2
      cases hw : witGo bI Z d.toNat [] with
      | none => rw [hw] at h2; exact absurd rfl h2
      | some p => simp [-Bool.exists_bool, -Int.not_le, -Int.not_lt, -getElem?_pos, -List.getD_eq_getElem?_getD, h0]
theorem wit_in {d : Int} {L : List At} (h : (witD d L).2 = 0) : (inI d L (witD d L).1).2 = false ∨ (inI d L (witD d L).1).1 = true := by
  cases h2 : (inI d L (witD d L).1).2 with
  | false => exact .inl rfl
  | true => exact .inr ((inI_sat (fun i hi => xp_nth _ i hi) h2).2.2.2 (witD_found h).2.2.2)
theorem wit_nil {d : Int} {L : List At} : (witD d L).2 ≠ 0 → (witD d L).1 = [] := by
  unfold witD
  cases projs d L with
  | none => intro _; rfl
  | some Z =>
    dsimp only
    split
    · intro _; rfl
    · cases witGo bI Z d.toNat [] with
      | none => intro _; rfl
      | some p => intro h; exact absurd rfl h
theorem wit_unref {d : Int} {L : List At} {m : List Int} (h : isRef d L m = true) : (witD d L).2 ≠ 0 := fun h0 => (isRef_unsat h).2 _ (witD_found h0).2.2.2
end Go.Proofs.Ytjknjekemolndaa.ZL
namespace Go.Proofs.Ytjknjekemolndaa.ZL
open Go Go.Proofs.Ytjknjekemolndaa.Abs Go.RowKit Go.Proofs
theorem dg61 : digest Try.prog 61 = some ⟨.slice 3, 1, 24, [.nil]⟩ := by kernel_rfl
theorem dg92 : digest Try.prog 92 = some ⟨.struct [(0, 31), (1, 3), (2, 4), (3, 31)], 4, 64, [.nil, .d (.int .i64 0), .d (.bool false), .nil]⟩ := by kernel_rfl
attribute [simp] dg61 dg92
end Go.Proofs.Ytjknjekemolndaa.ZL
namespace Go.Proofs.Ytjknjekemolndaa.ZL
open Go Go.Proofs.Ytjknjekemolndaa.Abs Go.Proofs.Ytjknjekemolndaa.Abs.Pl Go.RowKit Go.Proofs
set_option linter.unusedVariables false
set_option linter.unusedSimpArgs false
set_option maxRecDepth 100000
def divAll (S : List Int) : List Int := S.map (·.tdiv (div1 (gcdL S)))
def combF (x : List Int) (p : Int) (y : List Int) (q : Int) : Option (List Int) := if (divAll (mixL p x q y)).all isNum = true then some (divAll (mixL p x q y)) else none
def cF (r : Option (List Int)) : V := match r with
  | some z => .tup [Is z, B true]
  | none => .tup [.nil, B false]
def curV (S : List Int) (i : Nat) : List Int := (S.take i).map (·.tdiv (div1 (gcdL S))) ++ S.drop i
theorem curV_len (S : List Int) (i : Nat) : (curV S i).length = S.length := by simp [-Bool.exists_bool, -Int.not_le, -Int.not_lt, -getElem?_pos, -List.getD_eq_getElem?_getD, curV]; omega
theorem curV_nth (S : List Int) (i : Nat) (h : i < S.length) : nth (curV S i) i = nth S i := by
  rw [nth_eq (by rw [curV_len]; exact h), nth_eq h]
  unfold curV
  rw [List.getElem_append_right (by simp [-Bool.exists_bool, -Int.not_le, -Int.not_lt, -getElem?_pos, -List.getD_eq_getElem?_getD]; omega)]
  simp [-Bool.exists_bool, -Int.not_le, -Int.not_lt, -getElem?_pos, -List.getD_eq_getElem?_getD]
  congr 1
  omega
theorem curV_set (S : List Int) (i : Nat) (h : i < S.length) : (curV S i).set i ((nth S i).tdiv (div1 (gcdL S))) = curV S (i + 1) := by
  unfold curV
  have hl : ((S.take i).map (·.tdiv (div1 (gcdL S)))).length = i := by simp [-Bool.exists_bool, -Int.not_le, -Int.not_lt, -getElem?_pos, -List.getD_eq_getElem?_getD]; omega
  rw [List.set_append_right _ _ (by rw [hl]; exact Nat.le_refl _), hl, nth_drop h, nth_take h]
  simp [-Bool.exists_bool, -Int.not_le, -Int.not_lt, -getElem?_pos, -List.getD_eq_getElem?_getD]
theorem curV_new (S : List Int) (i : Nat) (h : i < S.length) : nth (curV S (i + 1)) i = (nth S i).tdiv (div1 (gcdL S)) := by
  rw [← curV_set S i h, nth_eq (by simp [-Bool.exists_bool, -Int.not_le, -Int.not_lt, -getElem?_pos, -List.getD_eq_getElem?_getD, curV_len]; exact h)]
  simp [-Bool.exists_bool, -Int.not_le, -Int.not_lt, -getElem?_pos, -List.getD_eq_getElem?_getD]
theorem curV_end (S : List Int) : curV S S.length = divAll S := by simp [-Bool.exists_bool, -Int.not_le, -Int.not_lt, -getElem?_pos, -List.getD_eq_getElem?_getD, curV, divAll]
theorem iCombine (x : List Int) (p : Int) (y : List Int) (q : Int) (hl : x.length = y.length) (h100 : x.length ≤ 100) (hx : ∀ n ∈ x, isNum n = true) (hy : ∀ n ∈ y, isNum n = true) (hp : 0 ≤ p ∧ p ≤ 400000000) (hq : 0 ≤ q ∧ q ≤ 400000000) :
    Cn Try.prog 49 [Is x, I p, Is y, I q] (cF (combF x p y q)) hemp := by
  refine Cn.of [0] mixed Try.func49 rfl Try.call49 (by kernel_rfl) rfl ?_
  simp -implicitDefEqProofs -dsimp +contextual [-Bool.exists_bool, -Int.not_le, -Int.not_lt, -getElem?_pos, -List.getD_eq_getElem?_getD, Try.f49]
  have mul : ∀ {x y : Int}, (0 ≤ x ∧ x ≤ 400000000) → isNum y = true → IntKind.wrap .i64 (x * y) = x * y ∧ (-160000000000000000 ≤ x * y ∧ x * y ≤ 160000000000000000) := fun {x y} h1 h2 => by
    have := Pl.mul_bd (a := x) ⟨by omega, h1.2⟩ (isNum_iff.1 h2)
    exact ⟨wr (by omega) (by omega), this⟩
  refine ⟨⟨by omega, by simp [-Bool.exists_bool, -Int.not_le, -Int.not_lt, -getElem?_pos, -List.getD_eq_getElem?_getD, maxLen]; omega⟩, ?_⟩
  refine WP.loop mixed [0] (fun i : Nat => ⟨tl [(0, Is x), (1, I p), (2, Is y), (3, I q), (10, .ref (0, 0) x.length), (17, .ref (0, 0) x.length), (18, I x.length), (19, I i)], Go.Proofs.Ytjknjekemolndaa.Abs.hl [((0, 0), .row 3 x.length (dl ((mixs p x q y i).map (D.int .i64))))], 1⟩) (fun i => i ≤ x.length) (fun i => x.length - i) 0 (by kernel_rfl) ?_ ?_ ?_
  · refine Le.told [((0, 0), (4, 0))] ?_ ?_ ?_ <;> simp [-Bool.exists_bool, -Int.not_le, -Int.not_lt, -getElem?_pos, -List.getD_eq_getElem?_getD, setH, mixs, mixL, hl]
  · simp [-Bool.exists_bool, -Int.not_le, -Int.not_lt, -getElem?_pos, -List.getD_eq_getElem?_getD]
  · intro i hi
    by_cases h : i < x.length
    · have h2 : i < y.length := by omega
      have h1 : i + 1 ≤ (mixs p x q y i).length := by rw [mixs_len p x q y i hi hl]; exact h
      simp -implicitDefEqProofs -dsimp +contextual [-Bool.exists_bool, -Int.not_le, -Int.not_lt, -getElem?_pos, -List.getD_eq_getElem?_getD, h, h2, h1]
      obtain ⟨e1, e2⟩ := mul hp (hx _ (nth_mem h))
      obtain ⟨e3, e4⟩ := mul hq (hy _ (nth_mem h2))
      rw [e1, e3, wr (x := p * nth x i + q * nth y i) (by omega) (by omega), wr (x := (i : Int) + 1) (by omega) (by omega)]
      refine ⟨Quiet.of [] (by kernel_rfl) (by simp [-Bool.exists_bool, -Int.not_le, -Int.not_lt, -getElem?_pos, -List.getD_eq_getElem?_getD, allP, offB]), i + 1, h, by omega, ?_⟩
      refine Le.told [] ?_ ?_ ?_ <;> simp [-Bool.exists_bool, -Int.not_le, -Int.not_lt, -getElem?_pos, -List.getD_eq_getElem?_getD]
      rw [← mixs_set p x q y i h h2 hl, List.map_set, List.set_eq_take_append_cons_drop, if_pos (by rw [List.length_map]; exact h1)]
    · obtain rfl : i = x.length := by omega
      simp -implicitDefEqProofs -dsimp +contextual [-Bool.exists_bool, -Int.not_le, -Int.not_lt, -getElem?_pos, -List.getD_eq_getElem?_getD, h, mixs_end p x q y hl]
      have hSl : (mixL p x q y).length = x.length := by simp [-Bool.exists_bool, -Int.not_le, -Int.not_lt, -getElem?_pos, -List.getD_eq_getElem?_getD, mixL, hl]
      have hSb : ∀ n ∈ mixL p x q y, -400000000000000000 ≤ n ∧ n ≤ 400000000000000000 := fun n hn => by
        obtain ⟨j, hj, rfl⟩ := List.getElem_of_mem hn
        have hj1 : j < x.length := by omega
        have hj2 : j < y.length := by omega
        have e : (mixL p x q y)[j] = p * x[j] + q * y[j] := by simp [-Bool.exists_bool, -Int.not_le, -Int.not_lt, -getElem?_pos, -List.getD_eq_getElem?_getD, mixL]
        rw [e]
        have := (mul hp (hx _ (List.getElem_mem hj1))).2
        have := (mul hq (hy _ (List.getElem_mem hj2))).2
        omega
      unfold combF
      generalize mixL p x q y = S at hSl hSb ⊢
      rw [← hSl]
      refine CallJ.lent (ks := [(0, 0)]) 2 (iDivisorOf S (by omega) (fun n hn => ⟨by have := hSb n hn; omega, by have := hSb n hn; omega⟩)) (by simp [-Bool.exists_bool, -Int.not_le, -Int.not_lt, -getElem?_pos, -List.getD_eq_getElem?_getD, lendVs, lendV]) (by simp [-Bool.exists_bool, -Int.not_le, -Int.not_lt, -getElem?_pos, -List.getD_eq_getElem?_getD]) rfl (by simp [-Bool.exists_bool, -Int.not_le, -Int.not_lt, -getElem?_pos, -List.getD_eq_getElem?_getD]) ?_
      simp -implicitDefEqProofs -dsimp +contextual [-Bool.exists_bool, -Int.not_le, -Int.not_lt, -getElem?_pos, -List.getD_eq_getElem?_getD]
      have hg : ∀ n ∈ S, gcdL S = 0 → n = 0 := fun n hn h0 => (gcdL_zero S).1 h0 n hn
      refine WP.loopF mixed [0] (fun i : Nat => ⟨tl [(10, .ref (0, 0) S.length), (12, I (gcdL S : Nat)), (41, .ref (0, 0) S.length), (42, I S.length), (43, I i)], Go.Proofs.Ytjknjekemolndaa.Abs.hl [((0, 0), .row 3 S.length (dl ((curV S i).map (D.int .i64))))], 1⟩) (fun i => i ≤ S.length ∧ ∀ j, j < i → isNum ((nth S j).tdiv (div1 (gcdL S))) = true) (fun i => S.length - i) 0 (by kernel_rfl) ?_ ?_ ?_
      · refine Le.told [] ?_ ?_ ?_ <;> simp [-Bool.exists_bool, -Int.not_le, -Int.not_lt, -getElem?_pos, -List.getD_eq_getElem?_getD, curV]
      · exact ⟨Nat.zero_le _, fun j hj => by omega⟩
      · rintro i ⟨hi, hnum⟩
        by_cases h : i < S.length
        · refine ⟨_, Le.refl _ _ _, ?_⟩
          have hci : i + 1 ≤ (curV S i).length := by rw [curV_len]; exact h
          have hcl := curV_len S i
          have hn := curV_nth S i h
          have h' : i + 1 ≤ S.length := h
          simp -implicitDefEqProofs -dsimp +contextual [-Bool.exists_bool, -Int.not_le, -Int.not_lt, -getElem?_pos, -List.getD_eq_getElem?_getD, h, h', hcl, hn, hci]
          have hd1 : div1 (gcdL S) = if gcdL S = 0 then 1 else (gcdL S : Int) := rfl
          have hnS := nth_mem h
          have hb := hSb _ hnS
          have no : ∀ {H : Store}, isNum ((nth S i).tdiv (div1 (gcdL S))) = false → RLe Try.prog H (V.tup [V.nil, V.d (D.bool false)]) (cF (if ∀ (x : Int), x ∈ divAll S → isNum x = true then some (divAll S) else none)) hemp := fun hf => by
            rw [if_neg (fun k => by
              have := k ((nth S i).tdiv (div1 (gcdL S))) (List.mem_map.2 ⟨_, hnS, rfl⟩)
              rw [hf] at this; cases this)]
            exact RLe.emp (by simp [-Bool.exists_bool, -Int.not_le, -Int.not_lt, -getElem?_pos, -List.getD_eq_getElem?_getD, cF])
          have nx : isNum ((nth S i).tdiv (div1 (gcdL S))) = true → ∀ j, j < i + 1 → isNum ((nth S j).tdiv (div1 (gcdL S))) = true := fun ht j hj => by
            by_cases e : j = i
            · rw [e]; exact ht
            · exact hnum j (by omega)
          refine ⟨fun hgp => ⟨by omega, ?_⟩, fun hgp => ?_⟩
          · have hd : div1 (gcdL S) = (gcdL S : Int) := by rw [hd1, if_neg (by omega)]
            have hq := tdiv_le (nth S i) (gcdL S)
            rw [wr (x := (nth S i).tdiv (gcdL S)) (by omega) (by omega), ← hd]
            have hset := curV_set S i h
            have hnew := curV_new S i h
            have hset2 : List.take i (List.map (D.int IntKind.i64) (curV S i)) ++ D.int IntKind.i64 ((nth S i).tdiv (div1 (gcdL S))) :: List.drop (i + 1) (List.map (D.int IntKind.i64) (curV S i)) = List.map (D.int IntKind.i64) (curV S (i + 1)) := by
              rw [← hset, List.map_set, List.set_eq_take_append_cons_drop, if_pos (by rw [List.length_map, curV_len]; exact h)]
            have hcl2 := curV_len S (i + 1)
            have hget : (curV S (i + 1))[i]? = some ((nth S i).tdiv (div1 (gcdL S))) := by rw [nth_some (by rw [hcl2]; exact h), hnew]
            simp -implicitDefEqProofs -dsimp +contextual [-Bool.exists_bool, -Int.not_le, -Int.not_lt, -getElem?_pos, -List.getD_eq_getElem?_getD, h, h', hset2, hget]
            refine CallJ.pure (iIsNumber ((nth S i).tdiv (div1 (gcdL S)))) rfl (by simp [-Bool.exists_bool, -Int.not_le, -Int.not_lt, -getElem?_pos, -List.getD_eq_getElem?_getD]) ?_
            simp -implicitDefEqProofs -dsimp +contextual [-Bool.exists_bool, -Int.not_le, -Int.not_lt, -getElem?_pos, -List.getD_eq_getElem?_getD, h, h']
            refine ⟨fun ht => ?_, fun hf => no hf⟩
            refine ⟨i + 1, ⟨h, nx ht⟩, by omega, ?_⟩
            rw [wr (x := (i : Int) + 1) (by omega) (by omega)]
            refine Le.told [] ?_ ?_ ?_ <;> simp [-Bool.exists_bool, -Int.not_le, -Int.not_lt, -getElem?_pos, -List.getD_eq_getElem?_getD]
          · have hd : div1 (gcdL S) = 1 := by rw [hd1, if_pos (by omega)]
            have hid : (nth S i).tdiv (div1 (gcdL S)) = nth S i := by rw [hd]; simp [-Bool.exists_bool, -Int.not_le, -Int.not_lt, -getElem?_pos, -List.getD_eq_getElem?_getD]
            rw [hid] at no nx
            have hset := curV_set S i h
            rw [hid] at hset
            have hsame : curV S (i + 1) = curV S i := by
              rw [← hset, ← hn, nth_eq (by rw [hcl]; exact h), List.set_getElem_self]
            refine CallJ.pure (iIsNumber (nth S i)) rfl (by simp [-Bool.exists_bool, -Int.not_le, -Int.not_lt, -getElem?_pos, -List.getD_eq_getElem?_getD]) ?_
            simp -implicitDefEqProofs -dsimp +contextual [-Bool.exists_bool, -Int.not_le, -Int.not_lt, -getElem?_pos, -List.getD_eq_getElem?_getD, h, h']
            refine ⟨fun ht => ?_, fun hf => no hf⟩
            refine ⟨i + 1, ⟨h, ?_⟩, by omega, ?_⟩
            · intro j hj
              by_cases e : j = i
              · rw [e, hid]; exact ht
              · exact hnum j (by omega)
            rw [wr (x := (i : Int) + 1) (by omega) (by omega), hsame]
            refine Le.told [] ?_ ?_ ?_ <;> simp [-Bool.exists_bool, -Int.not_le, -Int.not_lt, -getElem?_pos, -List.getD_eq_getElem?_getD]
        · refine ⟨_, Le.refl _ _ _, ?_⟩
          simp -implicitDefEqProofs -dsimp +contextual [-Bool.exists_bool, -Int.not_le, -Int.not_lt, -getElem?_pos, -List.getD_eq_getElem?_getD, h]
          obtain rfl : i = S.length := by omega
          rw [curV_end, if_pos (fun x hx => by
            obtain ⟨y, hy, rfl⟩ := List.mem_map.1 hx
            obtain ⟨j, hj, rfl⟩ := List.getElem_of_mem hy
            have := hnum j hj
            rwa [nth_eq hj] at this)]
          exact RLe.pure 2 (by simp [-Bool.exists_bool, -Int.not_le, -Int.not_lt, -getElem?_pos, -List.getD_eq_getElem?_getD, cF, divAll])
end Go.Proofs.Ytjknjekemolndaa.ZL
namespace Go.Proofs.Ytjknjekemolndaa.ZL
open Go Go.Proofs.Ytjknjekemolndaa.Abs Go.Proofs.Ytjknjekemolndaa.Abs.Pl Go.RowKit Go.Proofs
set_option linter.unusedVariables false
set_option linter.unusedSimpArgs false
set_option maxRecDepth 100000
def isD (x : List Int) : D := .sl x.length (x.map (D.int .i64))
def isDs (L : List (List Int)) : List D := L.map isD
abbrev Cl (L : List (List Int)) : V := .d (.sl L.length (isDs L))
theorem isDs_len (L : List (List Int)) : (isDs L).length = L.length := by simp [-Bool.exists_bool, -Int.not_le, -Int.not_lt, -getElem?_pos, -List.getD_eq_getElem?_getD, isDs]
theorem isDs_get (L : List (List Int)) (i : Nat) (h : i < L.length) : (isDs L)[i]? = some (isD (nth L i)) := by
  unfold isDs
  rw [List.getElem?_map, nth_some h]; rfl
theorem isDs_app (L M : List (List Int)) : isDs (L ++ M) = isDs L ++ isDs M := by simp [-Bool.exists_bool, -Int.not_le, -Int.not_lt, -getElem?_pos, -List.getD_eq_getElem?_getD, isDs]
theorem isDs_one (x : List Int) : isDs [x] = [isD x] := rfl
theorem isDs_nil : isDs [] = [] := rfl
attribute [simp] isDs_len isDs_get isDs_nil
def rjIn (v : Nat) (a : List Int) : List (List Int) → List (List Int) → Option (List (List Int))
  | [], acc => some acc
  | b :: bs, acc => if 0 ≤ nth b v then rjIn v a bs acc else match combF a (-(nth b v)) b (nth a v) with
    | none => none
    | some z => if acc.length = 64 then none else rjIn v a bs (acc ++ [z])
def rjOut (v : Nat) (l : List (List Int)) : List (List Int) → List (List Int) → Option (List (List Int))
  | [], acc => some acc
  | a :: T, acc => if nth a v ≤ 0 then rjOut v l T acc else (rjIn v a l acc).bind (rjOut v l T)
def freeF (v : Nat) (x : List Int) : Bool := decide (nth x v = 0)
def rdrop (v : Nat) (l : List (List Int)) : Option (List (List Int)) := rjOut v l l (l.filter (freeF v))
def okF (n : Nat) (x : List Int) : Prop := x.length = n ∧ ∀ y ∈ x, isNum y = true
theorem combF_ok {n : Nat} {x y z : List Int} {p q : Int} (hx : x.length = n) (hy : y.length = n) (h : combF x p y q = some z) : okF n z := by
  unfold combF at h
  split at h
  · rename_i ha
    obtain rfl := Option.some.inj h
    refine ⟨?_, fun w hw => by rw [List.all_eq_true] at ha; exact ha w hw⟩
    simp [-Bool.exists_bool, -Int.not_le, -Int.not_lt, -getElem?_pos, -List.getD_eq_getElem?_getD, divAll, mixL, hx, hy]
  · cases h
theorem rjIn_ok {n v : Nat} {a : List Int} (ha : okF n a) : ∀ {bs acc z : List (List Int)}, (∀ b ∈ bs, okF n b) → (acc.length ≤ 64 ∧ ∀ b ∈ acc, okF n b) → rjIn v a bs acc = some z → z.length ≤ 64 ∧ ∀ b ∈ z, okF n b
  | [], acc, z, _, h, e => by obtain rfl := Option.some.inj e; exact h
  | b :: bs, acc, z, hb, h, e => by
    unfold rjIn at e
    have hb' : ∀ x ∈ bs, okF n x := fun x hx => hb x (by simp [-Bool.exists_bool, -Int.not_le, -Int.not_lt, -getElem?_pos, -List.getD_eq_getElem?_getD, hx])
    split at e
    · exact rjIn_ok ha hb' h e
    · split at e
      · cases e
      · rename_i y hy
        split at e
        · cases e
        · refine rjIn_ok ha hb' ⟨by simp [-Bool.exists_bool, -Int.not_le, -Int.not_lt, -getElem?_pos, -List.getD_eq_getElem?_getD]; omega, fun x hx => ?_⟩ e
          rcases List.mem_append.1 hx with hx | hx
          · exact h.2 x hx
          · rw [List.mem_singleton.1 hx]; exact combF_ok ha.1 (hb b (by simp [-Bool.exists_bool, -Int.not_le, -Int.not_lt, -getElem?_pos, -List.getD_eq_getElem?_getD])).1 hy
theorem rjOut_ok {n v : Nat} {l : List (List Int)} (hl : ∀ a ∈ l, okF n a) : ∀ {T acc z : List (List Int)}, (∀ b ∈ T, okF n b) → (acc.length ≤ 64 ∧ ∀ b ∈ acc, okF n b) → rjOut v l T acc = some z → z.length ≤ 64 ∧ ∀ b ∈ z, okF n b
  | [], acc, z, _, h, e => by obtain rfl := Option.some.inj e; exact h
  | a :: T, acc, z, hb, h, e => by
    unfold rjOut at e
    have hb' : ∀ x ∈ T, okF n x := fun x hx => hb x (by simp [-Bool.exists_bool, -Int.not_le, -Int.not_lt, -getElem?_pos, -List.getD_eq_getElem?_getD, hx])
    split at e
    · exact rjOut_ok hl hb' h e
    · obtain ⟨y, e1, e2⟩ := Option.bind_eq_some_iff.1 e
      exact rjOut_ok hl hb' (rjIn_ok (hb a (by simp [-Bool.exists_bool, -Int.not_le, -Int.not_lt, -getElem?_pos, -List.getD_eq_getElem?_getD])) hl h e1) e2
theorem rdrop_ok {n v : Nat} {l z : List (List Int)} (hl : l.length ≤ 64 ∧ ∀ a ∈ l, okF n a) (e : rdrop v l = some z) : z.length ≤ 64 ∧ ∀ b ∈ z, okF n b :=
  rjOut_ok hl.2 hl.2 ⟨by have := List.length_filter_le (freeF v) l; omega, fun b hb => hl.2 b (List.mem_filter.1 hb).1⟩ e
def clV (r : Option (List (List Int))) : V := match r with
  | some z => .tup [Cl z, B true]
  | none => .tup [.nil, B false]
theorem iDropComb (l : List (List Int)) (v n : Nat) (hl : l.length ≤ 64 ∧ ∀ a ∈ l, okF n a) (hn : n ≤ 100) (hv : v < n) : Cn Try.prog 24 [Cl l, I v] (clV (rdrop v l)) hemp := by
  refine Cn.of [0] mixed Try.func24 rfl Try.call24 (by kernel_rfl) rfl ?_
  simp -implicitDefEqProofs -dsimp +contextual [-Bool.exists_bool, -Int.not_le, -Int.not_lt, -getElem?_pos, -List.getD_eq_getElem?_getD, Try.f24]
  refine WP.loop mixed [0] (fun p : Nat × List (List Int) => ⟨tl [(0, Cl l), (1, I v), (6, .ref (0, 0) p.2.length), (16, Cl l), (17, I l.length), (18, I p.1)], Go.Proofs.Ytjknjekemolndaa.Abs.hl [((0, 0), .row 61 p.2.length (dl (isDs p.2)))], 1⟩) (fun p => p.1 ≤ l.length ∧ p.2 = (l.take p.1).filter (freeF v)) (fun p => l.length - p.1) (0, []) (by kernel_rfl) ?_ ?_ ?_
  · refine Le.trans (Le.nil 6 61 (by simp [-Bool.exists_bool, -Int.not_le, -Int.not_lt, -getElem?_pos, -List.getD_eq_getElem?_getD])) (Le.told [((0, 0), (7, 0))] ?_ ?_ ?_) <;> simp [-Bool.exists_bool, -Int.not_le, -Int.not_lt, -getElem?_pos, -List.getD_eq_getElem?_getD, setH]
  · exact ⟨Nat.zero_le _, by simp [-Bool.exists_bool, -Int.not_le, -Int.not_lt, -getElem?_pos, -List.getD_eq_getElem?_getD]⟩
  · rintro ⟨i, acc⟩ ⟨hi, ha⟩
    simp only at hi ha
    have hacl : acc.length ≤ 64 := by
      rw [ha]
      have := List.length_filter_le (freeF v) (l.take i)
      have := List.length_take_le i l
      omega
    by_cases h : i < l.length
    · have hvl : v < (nth l i).length := by rw [(hl.2 _ (nth_mem h)).1]; exact hv
      have hta := nth_take h
      simp -implicitDefEqProofs -dsimp +contextual [-Bool.exists_bool, -Int.not_le, -Int.not_lt, -getElem?_pos, -List.getD_eq_getElem?_getD, h, isD, hvl]
      refine ⟨fun h0 => ?_, fun h0 => ?_⟩
      · refine ⟨⟨by omega, by simp [-Bool.exists_bool, -Int.not_le, -Int.not_lt, -getElem?_pos, -List.getD_eq_getElem?_getD, maxLen]; omega⟩, i + 1, acc ++ [nth l i], ⟨h, ?_⟩, by omega, ?_⟩
        · rw [hta, List.filter_append, ← ha]
          simp [-Bool.exists_bool, -Int.not_le, -Int.not_lt, -getElem?_pos, -List.getD_eq_getElem?_getD, freeF, h0]
        · rw [wr (by omega) (by omega)]
          refine Le.told [((0, 0), (13, 0))] ?_ ?_ ?_ <;> simp [-Bool.exists_bool, -Int.not_le, -Int.not_lt, -getElem?_pos, -List.getD_eq_getElem?_getD, isDs_app, isDs_one, isD]
      · refine ⟨i + 1, acc, ⟨h, ?_⟩, by omega, ?_⟩
        · rw [hta, List.filter_append, ← ha]
          simp [-Bool.exists_bool, -Int.not_le, -Int.not_lt, -getElem?_pos, -List.getD_eq_getElem?_getD, freeF, h0]
        · rw [wr (by omega) (by omega)]
          refine Le.told [] ?_ ?_ ?_ <;> simp [-Bool.exists_bool, -Int.not_le, -Int.not_lt, -getElem?_pos, -List.getD_eq_getElem?_getD]
    · have hal : acc = l.filter (freeF v) := by rw [ha, List.take_of_length_le (by omega)]
      have haok : ∀ b ∈ acc, okF n b := fun b hb => by rw [hal] at hb; exact hl.2 b (List.mem_filter.1 hb).1
      have e0 : rdrop v l = rjOut v l l acc := by rw [rdrop, hal]
      rw [e0]
      clear ha hal e0
      simp -implicitDefEqProofs -dsimp +contextual [-Bool.exists_bool, -Int.not_le, -Int.not_lt, -getElem?_pos, -List.getD_eq_getElem?_getD, h]
      refine WP.loop mixed [0] (fun p : Nat × List (List Int) => ⟨tl [(0, Cl l), (1, I v), (6, .ref (0, 0) p.2.length), (32, Cl l), (33, I l.length), (34, I p.1)], Go.Proofs.Ytjknjekemolndaa.Abs.hl [((0, 0), .row 61 p.2.length (dl (isDs p.2)))], 1⟩) (fun p => p.1 ≤ l.length ∧ (p.2.length ≤ 64 ∧ ∀ b ∈ p.2, okF n b) ∧ rjOut v l l acc = rjOut v l (l.drop p.1) p.2) (fun p => l.length - p.1) (0, acc) (by kernel_rfl) ?_ ?_ ?_
      · refine Le.told [] ?_ ?_ ?_ <;> simp [-Bool.exists_bool, -Int.not_le, -Int.not_lt, -getElem?_pos, -List.getD_eq_getElem?_getD]
      · exact ⟨Nat.zero_le _, ⟨hacl, haok⟩, rfl⟩
      · clear hacl haok
        rintro ⟨i, ac⟩ ⟨hi, hac, he⟩
        simp only at hi hac he
        by_cases h : i < l.length
        · have hva : v < (nth l i).length := by rw [(hl.2 _ (nth_mem h)).1]; exact hv
          have hoa := hl.2 _ (nth_mem h)
          rw [nth_drop h, rjOut] at he
          simp -implicitDefEqProofs -dsimp +contextual [-Bool.exists_bool, -Int.not_le, -Int.not_lt, -getElem?_pos, -List.getD_eq_getElem?_getD, h, isD, hva]
          generalize nth l i = a at hva hoa he ⊢
          refine ⟨fun h0 => ?_, fun h0 => ?_⟩
          · rw [if_pos h0] at he
            refine ⟨i + 1, ac, ⟨h, hac, he⟩, by omega, ?_⟩
            rw [wr (by omega) (by omega)]
            refine Le.told [] ?_ ?_ ?_ <;> simp [-Bool.exists_bool, -Int.not_le, -Int.not_lt, -getElem?_pos, -List.getD_eq_getElem?_getD]
          · rw [if_neg h0] at he
            refine WP.loop mixed [0] (fun p : Nat × List (List Int) => ⟨tl [(0, Cl l), (1, I v), (6, .ref (0, 0) p.2.length), (10, Is a), (32, Cl l), (33, I l.length), (34, I i), (43, Cl l), (44, I l.length), (45, I p.1)], Go.Proofs.Ytjknjekemolndaa.Abs.hl [((0, 0), .row 61 p.2.length (dl (isDs p.2)))], 1⟩) (fun p => p.1 ≤ l.length ∧ (p.2.length ≤ 64 ∧ ∀ b ∈ p.2, okF n b) ∧ rjOut v l l acc = (rjIn v a (l.drop p.1) p.2).bind (rjOut v l (l.drop (i + 1)))) (fun p => l.length - p.1) (0, ac) (by kernel_rfl) ?_ ?_ ?_
            · refine Le.told [] ?_ ?_ ?_ <;> simp [-Bool.exists_bool, -Int.not_le, -Int.not_lt, -getElem?_pos, -List.getD_eq_getElem?_getD]
            · exact ⟨Nat.zero_le _, hac, he⟩
            · rintro ⟨k, a2⟩ ⟨hk, ha2, hek⟩
              simp only at hk ha2 hek
              by_cases hkl : k < l.length
              · have hvb : v < (nth l k).length := by rw [(hl.2 _ (nth_mem hkl)).1]; exact hv
                have hob := hl.2 _ (nth_mem hkl)
                rw [nth_drop hkl, rjIn] at hek
                simp -implicitDefEqProofs -dsimp +contextual [-Bool.exists_bool, -Int.not_le, -Int.not_lt, -getElem?_pos, -List.getD_eq_getElem?_getD, h, hkl, isD, hvb, hva]
                generalize nth l k = b at hvb hob hek ⊢
                have na := isNum_iff.1 (hoa.2 _ (nth_mem hva))
                have nb := isNum_iff.1 (hob.2 _ (nth_mem hvb))
                refine ⟨fun h1 => ?_, fun h1 => ?_⟩
                · rw [if_pos h1] at hek
                  refine ⟨k + 1, a2, ⟨hkl, ha2, hek⟩, by omega, ?_⟩
                  rw [wr (by omega) (by omega)]
                  refine Le.told [] ?_ ?_ ?_ <;> simp [-Bool.exists_bool, -Int.not_le, -Int.not_lt, -getElem?_pos, -List.getD_eq_getElem?_getD]
                · rw [if_neg h1] at hek
                  rw [wr (x := -(nth b v)) (by omega) (by omega)]
                  have hC := iCombine a (-(nth b v)) b (nth a v) (by rw [hoa.1, hob.1]) (by rw [hoa.1]; exact hn) hoa.2 hob.2 (by omega) (by omega)
                  have hCo := fun z => combF_ok (z := z) (p := -(nth b v)) (q := nth a v) hoa.1 hob.1
                  cases hq : combF a (-(nth b v)) b (nth a v) with
                  | none =>
                    rw [hq] at hC hek
                    refine CallJ.pure hC rfl (by simp [-Bool.exists_bool, -Int.not_le, -Int.not_lt, -getElem?_pos, -List.getD_eq_getElem?_getD]) ?_
                    simp -implicitDefEqProofs -dsimp +contextual [-Bool.exists_bool, -Int.not_le, -Int.not_lt, -getElem?_pos, -List.getD_eq_getElem?_getD, h, hkl, cF]
                    simp only [Option.bind_none] at hek
                    exact RLe.emp (by rw [hek]; simp [-Bool.exists_bool, -Int.not_le, -Int.not_lt, -getElem?_pos, -List.getD_eq_getElem?_getD, clV])
                  | some z =>
                    rw [hq] at hC hek
                    have hzo := hCo z hq
                    refine CallJ.pure hC rfl (by simp [-Bool.exists_bool, -Int.not_le, -Int.not_lt, -getElem?_pos, -List.getD_eq_getElem?_getD]) ?_
                    simp -implicitDefEqProofs -dsimp +contextual [-Bool.exists_bool, -Int.not_le, -Int.not_lt, -getElem?_pos, -List.getD_eq_getElem?_getD, h, hkl, cF]
                    simp only at hek
                    refine ⟨fun h64 => ?_, fun h64 => ?_⟩
                    · rw [if_pos (by omega), Option.bind_none] at hek
                      exact RLe.emp (by rw [hek]; simp [-Bool.exists_bool, -Int.not_le, -Int.not_lt, -getElem?_pos, -List.getD_eq_getElem?_getD, clV])
                    · rw [if_neg (by omega)] at hek
                      refine ⟨⟨by omega, by simp [-Bool.exists_bool, -Int.not_le, -Int.not_lt, -getElem?_pos, -List.getD_eq_getElem?_getD, maxLen]; omega⟩, k + 1, a2 ++ [z], ⟨hkl, ⟨by simp [-Bool.exists_bool, -Int.not_le, -Int.not_lt, -getElem?_pos, -List.getD_eq_getElem?_getD]; omega, fun b hb => ?_⟩, hek⟩, by omega, ?_⟩
                      · rcases List.mem_append.1 hb with hb | hb
                        · exact ha2.2 b hb
                        · rw [List.mem_singleton.1 hb]; exact hzo
                      · rw [wr (by omega) (by omega)]
                        refine Le.told [((0, 0), (37, 0))] ?_ ?_ ?_ <;> simp [-Bool.exists_bool, -Int.not_le, -Int.not_lt, -getElem?_pos, -List.getD_eq_getElem?_getD, isDs_app, isDs_one, isD]
              · rw [drop_nil (by omega), rjIn, Option.bind_some] at hek
                simp -implicitDefEqProofs -dsimp +contextual [-Bool.exists_bool, -Int.not_le, -Int.not_lt, -getElem?_pos, -List.getD_eq_getElem?_getD, h, hkl]
                refine ⟨i + 1, a2, ⟨h, ha2, hek⟩, by omega, ?_⟩
                rw [wr (by omega) (by omega)]
                refine Le.told [] ?_ ?_ ?_ <;> simp [-Bool.exists_bool, -Int.not_le, -Int.not_lt, -getElem?_pos, -List.getD_eq_getElem?_getD]
        · rw [drop_nil (by omega), rjOut] at he
          simp -implicitDefEqProofs -dsimp +contextual [-Bool.exists_bool, -Int.not_le, -Int.not_lt, -getElem?_pos, -List.getD_eq_getElem?_getD, h]
          exact RLe.pure 2 (by rw [he]; simp [-Bool.exists_bool, -Int.not_le, -Int.not_lt, -getElem?_pos, -List.getD_eq_getElem?_getD, clV])
end Go.Proofs.Ytjknjekemolndaa.ZL
namespace Go.Proofs.Ytjknjekemolndaa.ZL
open Go Go.Proofs.Ytjknjekemolndaa.Abs Go.Proofs.Ytjknjekemolndaa.Abs.Pl Go.RowKit Go.Proofs
set_option linter.unusedVariables false
set_option linter.unusedSimpArgs false
set_option maxRecDepth 100000
theorem addMul_len (n : Int) (c s : List Int) : (addMul n c s).length = s.length := by simp [-Bool.exists_bool, -Int.not_le, -Int.not_lt, -getElem?_pos, -List.getD_eq_getElem?_getD, addMul]
theorem addMul_nth (n : Int) (c s : List Int) (j : Nat) (h : j < s.length) : nth (addMul n c s) j = nth s j + n * nth c j := by
  rw [nth_eq (by rw [addMul_len]; exact h), nth_eq h]
  unfold addMul nth
  simp [-Bool.exists_bool, -Int.not_le, -Int.not_lt, -getElem?_pos, -List.getD_eq_getElem?_getD]
def curM (n : Int) (c s : List Int) (j : Nat) : List Int := (addMul n c s).take j ++ s.drop j
theorem curM_len (n : Int) (c s : List Int) (j : Nat) (h : j ≤ s.length) : (curM n c s j).length = s.length := by simp [-Bool.exists_bool, -Int.not_le, -Int.not_lt, -getElem?_pos, -List.getD_eq_getElem?_getD, curM, addMul_len]; omega
theorem curM_nth (n : Int) (c s : List Int) (j : Nat) (h : j < s.length) : nth (curM n c s j) j = nth s j := by
  rw [nth_eq (by rw [curM_len _ _ _ _ (by omega)]; exact h), nth_eq h]
  unfold curM
  rw [List.getElem_append_right (by simp [-Bool.exists_bool, -Int.not_le, -Int.not_lt, -getElem?_pos, -List.getD_eq_getElem?_getD, addMul_len]; omega)]
  simp [-Bool.exists_bool, -Int.not_le, -Int.not_lt, -getElem?_pos, -List.getD_eq_getElem?_getD, addMul_len]
  congr 1
  omega
theorem curM_set (n : Int) (c s : List Int) (j : Nat) (h : j < s.length) : (curM n c s j).set j (nth s j + n * nth c j) = curM n c s (j + 1) := by
  unfold curM
  have hl : ((addMul n c s).take j).length = j := by simp [-Bool.exists_bool, -Int.not_le, -Int.not_lt, -getElem?_pos, -List.getD_eq_getElem?_getD, addMul_len]; omega
  rw [List.set_append_right _ _ (by rw [hl]; exact Nat.le_refl _), hl, nth_drop h, nth_take (by rw [addMul_len]; exact h), addMul_nth _ _ _ _ h]
  simp [-Bool.exists_bool, -Int.not_le, -Int.not_lt, -getElem?_pos, -List.getD_eq_getElem?_getD]
def bd2 (i : Nat) (x : Int) : Prop := -(160000000000000000 * i) ≤ x ∧ x ≤ 160000000000000000 * i
theorem iIsRefuted (d : Int) (L : List At) (m : List Int) (h20 : L.length ≤ 1048576) (hm20 : m.length ≤ 1048576) : Cn Try.prog 11 [C1 d L, Is m] (B (isRef d L m)) hemp := by
  refine Cn.of [0] mixed Try.func11 rfl Try.call11 (by kernel_rfl) rfl ?_
  simp -implicitDefEqProofs -dsimp +contextual [-Bool.exists_bool, -Int.not_le, -Int.not_lt, -getElem?_pos, -List.getD_eq_getElem?_getD, Try.f11]
  refine CallJ.pure (iIsCell d L h20) rfl (by simp [-Bool.exists_bool, -Int.not_le, -Int.not_lt, -getElem?_pos, -List.getD_eq_getElem?_getD]) ?_
  simp -implicitDefEqProofs -dsimp +contextual [-Bool.exists_bool, -Int.not_le, -Int.not_lt, -getElem?_pos, -List.getD_eq_getElem?_getD]
  refine ⟨fun hc => ?_, fun hc => RLe.bb (by simp [-Bool.exists_bool, -Int.not_le, -Int.not_lt, -getElem?_pos, -List.getD_eq_getElem?_getD, isRef, hc])⟩
  have hd := isCe_d hc
  have h16 := isCe_l hc
  have hok := isCe_a hc
  refine ⟨fun hml => ?_, fun hml => RLe.bb (by rw [isRef, if_neg (by simp [-Bool.exists_bool, -Int.not_le, -Int.not_lt, -getElem?_pos, -List.getD_eq_getElem?_getD, hc]; omega)])⟩
  have hml : m.length = L.length := by omega
  obtain ⟨Dn, rfl⟩ : ∃ n : Nat, d = n := ⟨d.toNat, by omega⟩
  have e0 : isRef Dn L m = refGo (List.replicate Dn 0) 0 false m L := by rw [isRef, if_pos (by simp [-Bool.exists_bool, -Int.not_le, -Int.not_lt, -getElem?_pos, -List.getD_eq_getElem?_getD, hc, hml])]; rfl
  rw [e0, Int.toNat_natCast]
  refine ⟨⟨by omega, by omega, by simp [-Bool.exists_bool, -Int.not_le, -Int.not_lt, -getElem?_pos, -List.getD_eq_getElem?_getD, maxLen]; omega⟩, ?_⟩
  refine WP.loop mixed [0] (fun p : Nat × List Int × Int × Bool => ⟨tl [(2, .ptr (0, 0) 0), (5, .ref (1, 0) Dn), (6, I p.2.2.1), (7, B p.2.2.2), (28, Is m), (29, I m.length), (30, I p.1)], Go.Proofs.Ytjknjekemolndaa.Abs.hl [((0, 0), .box [I Dn, As L]), ((1, 0), .row 3 Dn (dl (p.2.1.map (D.int .i64))))], 2⟩)
    (fun p => p.1 ≤ m.length ∧ p.2.1.length = Dn ∧ (∀ x ∈ p.2.1, bd2 p.1 x) ∧ bd2 p.1 p.2.2.1 ∧ refGo (List.replicate Dn 0) 0 false m L = refGo p.2.1 p.2.2.1 p.2.2.2 (m.drop p.1) (L.drop p.1)) (fun p => m.length - p.1) (0, List.replicate Dn 0, 0, false) (by kernel_rfl) ?_ ?_ ?_
  · refine Le.told [((1, 0), (15, 0))] ?_ ?_ ?_ <;> simp [-Bool.exists_bool, -Int.not_le, -Int.not_lt, -getElem?_pos, -List.getD_eq_getElem?_getD, setH, hml]
  · refine ⟨Nat.zero_le _, by simp [-Bool.exists_bool, -Int.not_le, -Int.not_lt, -getElem?_pos, -List.getD_eq_getElem?_getD], fun x hx => ?_, by simp [-Bool.exists_bool, -Int.not_le, -Int.not_lt, -getElem?_pos, -List.getD_eq_getElem?_getD, bd2], rfl⟩
    rw [(List.mem_replicate.1 hx).2]; simp [-Bool.exists_bool, -Int.not_le, -Int.not_lt, -getElem?_pos, -List.getD_eq_getElem?_getD, bd2]
  · rintro ⟨i, s, k, st⟩ ⟨hi, hsl, hsb, hkb, he⟩
    simp only at hi hsl hsb hkb he
    by_cases h : i < m.length
    · have hL : i < L.length := by omega
      have ho := hok _ (nth_mem hL)
      have hnu := okA_num ho
      have hcl : (nth L i).1.length = Dn := by have := ho.2; omega
      rw [nth_drop h, nth_drop hL, refGo] at he
      simp -implicitDefEqProofs -dsimp +contextual [-Bool.exists_bool, -Int.not_le, -Int.not_lt, -getElem?_pos, -List.getD_eq_getElem?_getD, h, hL]
      generalize hai : nth L i = a at ho hnu hcl he ⊢
      generalize nth m i = n at he ⊢
      refine ⟨fun hn => RLe.bb ?_, fun hn => ⟨fun hn2 => RLe.bb ?_, fun hn2 => ?_⟩⟩
      · rw [he, if_neg (by simp [-Bool.exists_bool, -Int.not_le, -Int.not_lt, -getElem?_pos, -List.getD_eq_getElem?_getD]; omega)]
      · rw [he, if_neg (by simp [-Bool.exists_bool, -Int.not_le, -Int.not_lt, -getElem?_pos, -List.getD_eq_getElem?_getD]; omega)]
      · rw [if_pos (by simp [-Bool.exists_bool, -Int.not_le, -Int.not_lt, -getElem?_pos, -List.getD_eq_getElem?_getD]; omega)] at he
        refine WP.loop mixed [0] (fun j : Nat => ⟨tl [(2, .ptr (0, 0) 0), (5, .ref (1, 0) Dn), (6, I k), (7, B st), (8, I i), (9, I n), (28, Is m), (29, I m.length), (30, I i), (46, Is a.1), (47, I Dn), (48, I j)], Go.Proofs.Ytjknjekemolndaa.Abs.hl [((0, 0), .box [I Dn, As L]), ((1, 0), .row 3 Dn (dl ((curM n a.1 s j).map (D.int .i64))))], 2⟩) (fun j => j ≤ Dn) (fun j => Dn - j) 0 (by kernel_rfl) ?_ ?_ ?_
        · refine Le.told [] ?_ ?_ ?_ <;> simp [-Bool.exists_bool, -Int.not_le, -Int.not_lt, -getElem?_pos, -List.getD_eq_getElem?_getD, curM, hcl]
        · simp [-Bool.exists_bool, -Int.not_le, -Int.not_lt, -getElem?_pos, -List.getD_eq_getElem?_getD]
        · intro j hj
          by_cases hjd : j < Dn
          · have hjs : j < s.length := by omega
            have hja : j < a.1.length := by omega
            have hcm := curM_len n a.1 s j (by omega)
            rw [hsl] at hcm
            have hcn := curM_nth n a.1 s j hjs
            have hset := curM_set n a.1 s j hjs
            have hj1 : j + 1 ≤ Dn := hjd
            have hget : (curM n a.1 s j)[j]? = some (nth s j) := by rw [nth_some (by rw [hcm]; exact hjd), hcn]
            simp -implicitDefEqProofs -dsimp +contextual [-Bool.exists_bool, -Int.not_le, -Int.not_lt, -getElem?_pos, -List.getD_eq_getElem?_getD, h, hjd, hja, hcm, hj1, hget]
            have nx := isNum_iff.1 (hnu.1 _ (nth_mem hja))
            have mb := Pl.mul_bd (a := n) (b := nth a.1 j) (by omega) (by omega)
            have sb := hsb _ (nth_mem hjs)
            unfold bd2 at sb
            have hi16 : (i : Int) ≤ 15 := by omega
            rw [wr (x := n * nth a.1 j) (by omega) (by omega), wr (x := nth s j + n * nth a.1 j) (by omega) (by omega), wr (x := (j : Int) + 1) (by omega) (by omega)]
            refine ⟨j + 1, hjd, by omega, ?_⟩
            refine Le.told [] ?_ ?_ ?_ <;> simp [-Bool.exists_bool, -Int.not_le, -Int.not_lt, -getElem?_pos, -List.getD_eq_getElem?_getD]
            rw [← hset, List.map_set, List.set_eq_take_append_cons_drop, if_pos (by rw [List.length_map, hcm]; exact hjd)]
          · have hjD : j = Dn := by omega
            subst hjD
            simp -implicitDefEqProofs -dsimp +contextual [-Bool.exists_bool, -Int.not_le, -Int.not_lt, -getElem?_pos, -List.getD_eq_getElem?_getD, h, hjd, hL, hai]
            have nx := isNum_iff.1 hnu.2.1
            have mb := Pl.mul_bd (a := n) (b := a.2.1) (by omega) (by omega)
            unfold bd2 at hkb
            have hi16 : (i : Int) ≤ 15 := by omega
            rw [wr (x := n * a.2.1) (by omega) (by omega), wr (x := k + n * a.2.1) (by omega) (by omega), wr (x := (i : Int) + 1) (by omega) (by omega)]
            have hcur : curM n a.1 s s.length = addMul n a.1 s := by simp [-Bool.exists_bool, -Int.not_le, -Int.not_lt, -getElem?_pos, -List.getD_eq_getElem?_getD, curM, addMul_len, List.take_of_length_le]
            rw [hsl] at hcur
            have hnb : ∀ x ∈ addMul n a.1 s, bd2 (i + 1) x := fun x hx => by
              obtain ⟨j', hj', rfl⟩ := List.getElem_of_mem hx
              have hjl : j' < s.length := by rwa [addMul_len] at hj'
              have e := addMul_nth n a.1 s j' hjl
              rw [nth_eq hj'] at e
              rw [e]
              have sb := hsb _ (nth_mem hjl)
              have hja : j' < a.1.length := by omega
              have nx := isNum_iff.1 (hnu.1 _ (nth_mem hja))
              have mb := Pl.mul_bd (a := n) (b := nth a.1 j') (by omega) (by omega)
              unfold bd2 at sb ⊢
              omega
            have hkb' : bd2 (i + 1) (k + n * a.2.1) := by unfold bd2; omega
            have fin : ∀ st', (st || decide (0 < n) && a.2.2) = st' → refGo (List.replicate j 0) 0 false m L = refGo (addMul n a.1 s) (k + n * a.2.1) st' (m.drop (i + 1)) (L.drop (i + 1)) := fun st' e => by rw [he, e]
            refine ⟨fun hst => ?_, fun hst => ⟨fun hn0 => ?_, fun hn0 => ?_⟩⟩
            · refine ⟨i + 1, addMul n a.1 s, k + n * a.2.1, true, ⟨h, by rw [addMul_len, hsl], hnb, hkb', fin _ (by simp [-Bool.exists_bool, -Int.not_le, -Int.not_lt, -getElem?_pos, -List.getD_eq_getElem?_getD, hst])⟩, by omega, ?_⟩
              refine Le.told [] ?_ ?_ ?_ <;> simp [-Bool.exists_bool, -Int.not_le, -Int.not_lt, -getElem?_pos, -List.getD_eq_getElem?_getD, hcur]
            · refine ⟨i + 1, addMul n a.1 s, k + n * a.2.1, a.2.2, ⟨h, by rw [addMul_len, hsl], hnb, hkb', fin _ (by simp [-Bool.exists_bool, -Int.not_le, -Int.not_lt, -getElem?_pos, -List.getD_eq_getElem?_getD, hst, hn0])⟩, by omega, ?_⟩
              refine Le.told [] ?_ ?_ ?_ <;> simp [-Bool.exists_bool, -Int.not_le, -Int.not_lt, -getElem?_pos, -List.getD_eq_getElem?_getD, hcur]
            · refine ⟨i + 1, addMul n a.1 s, k + n * a.2.1, false, ⟨h, by rw [addMul_len, hsl], hnb, hkb', fin _ (by simp [-Bool.exists_bool, -Int.not_le, -Int.not_lt, -getElem?_pos, -List.getD_eq_getElem?_getD, hst, hn0])⟩, by omega, ?_⟩
              refine Le.told [] ?_ ?_ ?_ <;> simp [-Bool.exists_bool, -Int.not_le, -Int.not_lt, -getElem?_pos, -List.getD_eq_getElem?_getD, hcur]
    · have e1 : refGo (List.replicate Dn 0) 0 false m L = refEnd s k st := by
        rw [he, drop_nil (by omega)]
        rfl
      rw [e1]
      simp -implicitDefEqProofs -dsimp +contextual [-Bool.exists_bool, -Int.not_le, -Int.not_lt, -getElem?_pos, -List.getD_eq_getElem?_getD, h]
      refine WP.loopF mixed [0] (fun j : Nat => ⟨tl [(6, I k), (7, B st), (87, .ref (1, 0) Dn), (88, I Dn), (89, I j)], Go.Proofs.Ytjknjekemolndaa.Abs.hl [((1, 0), .row 3 Dn (dl (s.map (D.int .i64))))], 2⟩) (fun j => j ≤ Dn ∧ ∀ q, q < j → nth s q = 0) (fun j => Dn - j) 0 (by kernel_rfl) ?_ ?_ ?_
      · refine Le.told [] ?_ ?_ ?_ <;> simp [-Bool.exists_bool, -Int.not_le, -Int.not_lt, -getElem?_pos, -List.getD_eq_getElem?_getD]
      · exact ⟨Nat.zero_le _, fun q hq => by omega⟩
      · rintro j ⟨hj, hz⟩
        by_cases hjd : j < Dn
        · refine ⟨_, Le.refl _ _ _, ?_⟩
          have hjs : j < s.length := by omega
          simp -implicitDefEqProofs -dsimp +contextual [-Bool.exists_bool, -Int.not_le, -Int.not_lt, -getElem?_pos, -List.getD_eq_getElem?_getD, hjd, hjs, hsl]
          refine ⟨fun h0 => ?_, fun h0 => RLe.bb ?_⟩
          · refine ⟨j + 1, ⟨hjd, fun q hq => ?_⟩, by omega, ?_⟩
            · by_cases e : q = j
              · rw [e]; exact h0
              · exact hz q (by omega)
            · rw [wr (by omega) (by omega)]
              refine Le.told [] ?_ ?_ ?_ <;> simp [-Bool.exists_bool, -Int.not_le, -Int.not_lt, -getElem?_pos, -List.getD_eq_getElem?_getD]
          · symm
            unfold refEnd
            rw [Bool.and_eq_false_iff]
            left
            rw [List.all_eq_false]
            exact ⟨nth s j, nth_mem hjs, by simpa [-Bool.exists_bool, -Int.not_le, -Int.not_lt, -getElem?_pos, -List.getD_eq_getElem?_getD] using h0⟩
        · refine ⟨_, Le.refl _ _ _, ?_⟩
          simp -implicitDefEqProofs -dsimp +contextual [-Bool.exists_bool, -Int.not_le, -Int.not_lt, -getElem?_pos, -List.getD_eq_getElem?_getD, hjd]
          have hall : s.all (fun x => decide (x = 0)) = true := by
            rw [List.all_eq_true]
            intro x hx
            obtain ⟨q, hq, rfl⟩ := List.getElem_of_mem hx
            have := hz q (by omega)
            rw [nth_eq hq] at this
            simpa [-Bool.exists_bool, -Int.not_le, -Int.not_lt, -getElem?_pos, -List.getD_eq_getElem?_getD] using this
          refine ⟨fun h1 => RLe.bb (by simp [-Bool.exists_bool, -Int.not_le, -Int.not_lt, -getElem?_pos, -List.getD_eq_getElem?_getD, refEnd, hall, h1]), fun h1 => ⟨fun h2 => RLe.bb (by simp [-Bool.exists_bool, -Int.not_le, -Int.not_lt, -getElem?_pos, -List.getD_eq_getElem?_getD, refEnd, hall]), fun h2 => RLe.bb (by simp [-Bool.exists_bool, -Int.not_le, -Int.not_lt, -getElem?_pos, -List.getD_eq_getElem?_getD, refEnd, hall, h1, h2])⟩⟩
end Go.Proofs.Ytjknjekemolndaa.ZL
namespace Go.Proofs.Ytjknjekemolndaa.ZL
open Go Go.Proofs.Ytjknjekemolndaa.Abs Go.Proofs.Ytjknjekemolndaa.Abs.Pl Go.RowKit Go.Proofs
set_option linter.unusedVariables false
set_option linter.unusedSimpArgs false
set_option maxRecDepth 100000
theorem copyS_row {P : Program} {H : Store} {t e : TypeId} {s0 b0 : Nat} {zc0 : List V} {I : TI} {k : Key} {n m : Nat} {cs : List D} {e' : TypeId} {c : List V} {K : Eff → Prop} (hg : digest P t = some ⟨.slice e, s0, b0, zc0⟩) (hI : digest P e = some I) (hk : H k = some (.row e' n c))
    (h : I.size = 1 ∧ n = n ∧ c.length = n ∧ cs.length = m ∧ m ≤ n ∧ 0 < n) (hK : K ⟨.d (.int .i64 m), [k], [k], up1 k (some (.row e' n (splice c 0 (cs.map V.d)))) noUp⟩) : copyS P H t (.ref k n) (.d (.sl m cs)) K := by
  unfold copyS
  rw [hg]
  simp only [hI, hk]
  exact ⟨⟨h.1, trivial, h.2.2⟩, hK⟩
def unit (n i : Nat) : List Int := (List.replicate n 0).set i 1
def iniF (L : List At) (i : Nat) : List Int := (nth L i).1 ++ (nth L i).2.1 :: unit L.length i
def iniFs (L : List At) (n : Nat) : List (List Int) := (List.range n).map (iniF L)
def rallF : Nat → List (List Int) → Option (List (List Int))
  | 0, l => some l
  | v + 1, l => (rdrop v l).bind (rallF v)
def findF (d : Int) (L : List At) : List (List Int) → List Int × Bool
  | [] => ([], false)
  | x :: xs => if isRef d L (x.drop (d.toNat + 1)) = true then (x.drop (d.toNat + 1), true) else findF d L xs
def refF (d : Int) (L : List At) : List Int × Bool := if isCe d L = true then (match rallF d.toNat (iniFs L L.length) with
  | none => ([], false)
  | some l => findF d L l) else ([], false)
theorem unit_len (n i : Nat) : (unit n i).length = n := by simp [-Bool.exists_bool, -Int.not_le, -Int.not_lt, -getElem?_pos, -List.getD_eq_getElem?_getD, unit]
theorem iniF_len {L : List At} {i D : Nat} (h : (nth L i).1.length = D) : (iniF L i).length = D + 1 + L.length := by simp [-Bool.exists_bool, -Int.not_le, -Int.not_lt, -getElem?_pos, -List.getD_eq_getElem?_getD, iniF, unit_len, h]; omega
theorem iniF_ok {L : List At} {i D : Nat} (hL : allOk D L) (h : i < L.length) : okF (D + 1 + L.length) (iniF L i) := by
  have ho := hL _ (nth_mem h)
  have hnu := okA_num ho
  refine ⟨iniF_len (by have := ho.2; omega), fun y hy => ?_⟩
  unfold iniF at hy
  rcases List.mem_append.1 hy with hy | hy
  · exact hnu.1 y hy
  · rcases List.mem_cons.1 hy with rfl | hy
    · exact hnu.2.1
    · unfold unit at hy
      rcases List.mem_or_eq_of_mem_set hy with hy | rfl
      · rw [(List.mem_replicate.1 hy).2]; decide
      · decide
def rfV (r : List Int × Bool) : V := if r.2 = true then .tup [.ref (0, 0) r.1.length, B true] else .tup [.nil, B false]
def rfH (r : List Int × Bool) : Store := if r.2 = true then hl [((0, 0), .row 3 r.1.length (dl (r.1.map (D.int .i64))))] else hemp
theorem iRefuteCell (d : Int) (L : List At) (h20 : L.length ≤ 1048576) : Cn Try.prog 8 [C1 d L] (rfV (refF d L)) (rfH (refF d L)) := by
  refine Cn.of [0] mixed Try.func8 rfl Try.call8 (by kernel_rfl) rfl ?_
  simp -implicitDefEqProofs -dsimp +contextual [-Bool.exists_bool, -Int.not_le, -Int.not_lt, -getElem?_pos, -List.getD_eq_getElem?_getD, Try.f8]
  refine CallJ.pure (iIsCell d L h20) rfl (by simp [-Bool.exists_bool, -Int.not_le, -Int.not_lt, -getElem?_pos, -List.getD_eq_getElem?_getD]) ?_
  simp -implicitDefEqProofs -dsimp +contextual [-Bool.exists_bool, -Int.not_le, -Int.not_lt, -getElem?_pos, -List.getD_eq_getElem?_getD]
  refine ⟨fun hc => ?_, fun hc => by rw [refF, if_neg (by simp [-Bool.exists_bool, -Int.not_le, -Int.not_lt, -getElem?_pos, -List.getD_eq_getElem?_getD, hc])]; exact RLe.emp (by simp [-Bool.exists_bool, -Int.not_le, -Int.not_lt, -getElem?_pos, -List.getD_eq_getElem?_getD, rfV])⟩
  have hd := isCe_d hc
  have h16 := isCe_l hc
  have hok := isCe_a hc
  obtain ⟨Dn, rfl⟩ : ∃ n : Nat, d = n := ⟨d.toNat, by omega⟩
  have e0 : refF Dn L = (match rallF Dn (iniFs L L.length) with
      | none => ([], false)
      | some l => findF Dn L l) := by
    unfold refF
    rw [if_pos hc, Int.toNat_natCast]
    try rfl
  refine WP.loop mixed [0] (fun i : Nat => ⟨tl [(1, .ptr (0, 0) 0), (4, .ref (1, 0) i), (19, As L), (20, I L.length), (21, I i)], Go.Proofs.Ytjknjekemolndaa.Abs.hl [((0, 0), .box [I Dn, As L]), ((1, 0), .row 61 i (dl (isDs (iniFs L i))))], 2⟩) (fun i => i ≤ L.length) (fun i => L.length - i) 0 (by kernel_rfl) ?_ ?_ ?_
  · refine Le.trans (Le.nil 4 61 (by simp [-Bool.exists_bool, -Int.not_le, -Int.not_lt, -getElem?_pos, -List.getD_eq_getElem?_getD])) (Le.told [((1, 0), (12, 0))] ?_ ?_ ?_) <;> simp [-Bool.exists_bool, -Int.not_le, -Int.not_lt, -getElem?_pos, -List.getD_eq_getElem?_getD, setH, iniFs]
  · simp [-Bool.exists_bool, -Int.not_le, -Int.not_lt, -getElem?_pos, -List.getD_eq_getElem?_getD]
  · intro i hi
    by_cases h : i < L.length
    · have ho := hok _ (nth_mem h)
      have hcl : (nth L i).1.length = Dn := by have := ho.2; omega
      have w1 : IntKind.wrap .i64 ((Dn : Int) + 1) = (Dn : Int) + 1 := wr (by omega) (by omega)
      have w2 : IntKind.wrap .i64 ((Dn : Int) + 1 + L.length) = (Dn : Int) + 1 + L.length := wr (by omega) (by omega)
      have t2 : ((Dn : Int) + 1 + L.length).toNat = Dn + 1 + L.length := by omega
      simp -implicitDefEqProofs -dsimp +contextual [-Bool.exists_bool, -Int.not_le, -Int.not_lt, -getElem?_pos, -List.getD_eq_getElem?_getD, h, w1, w2, t2]
      refine ⟨⟨by omega, by omega, by simp [-Bool.exists_bool, -Int.not_le, -Int.not_lt, -getElem?_pos, -List.getD_eq_getElem?_getD, maxLen]; omega⟩, ?_⟩
      refine copyS_row dg61 dg3 (by simp [-Bool.exists_bool, -Int.not_le, -Int.not_lt, -getElem?_pos, -List.getD_eq_getElem?_getD, setH]; exact ⟨rfl, rfl⟩) ⟨rfl, rfl, by simp [-Bool.exists_bool, -Int.not_le, -Int.not_lt, -getElem?_pos, -List.getD_eq_getElem?_getD], by simp [-Bool.exists_bool, -Int.not_le, -Int.not_lt, -getElem?_pos, -List.getD_eq_getElem?_getD], by omega, by omega⟩ ?_
      have hA : List.take Dn (List.map (D.int IntKind.i64) (nth L i).1 ++ List.replicate (Dn + 1 + L.length - Dn) (D.int IntKind.i64 0)) = List.map (D.int IntKind.i64) (nth L i).1 := List.take_left' (by simp [-Bool.exists_bool, -Int.not_le, -Int.not_lt, -getElem?_pos, -List.getD_eq_getElem?_getD, hcl])
      have hB : List.drop (Dn + 1) (List.map (D.int IntKind.i64) (nth L i).1 ++ List.replicate (Dn + 1 + L.length - Dn) (D.int IntKind.i64 0)) = List.replicate L.length (D.int IntKind.i64 0) := by
        rw [List.drop_append, List.drop_eq_nil_of_le (by simp [-Bool.exists_bool, -Int.not_le, -Int.not_lt, -getElem?_pos, -List.getD_eq_getElem?_getD, hcl]), List.length_map, hcl, List.nil_append, List.drop_replicate]
        congr 1
        omega
      have hr : Dn + 1 ≤ Dn + (Dn + 1 + L.length - Dn) := by omega
      have hr2 : (Dn : Int) < (Dn : Int) + 1 + L.length := by omega
      have w3 : IntKind.wrap .i64 ((Dn : Int) + 1 + i) = (Dn : Int) + 1 + i := wr (by omega) (by omega)
      have t3 : ((Dn : Int) + 1 + i).toNat = Dn + 1 + i := by omega
      have hr3 : Dn + 1 + i + 1 ≤ Dn + (L.length + 1) := by omega
      have hr4 : 0 ≤ (Dn : Int) + 1 + i ∧ (Dn : Int) + 1 + i < (Dn : Int) + 1 + L.length := by omega
      have hC : List.take (Dn + 1 + i) (List.map (D.int IntKind.i64) (nth L i).1 ++ D.int IntKind.i64 (nth L i).2.1 :: List.replicate L.length (D.int IntKind.i64 0)) ++ D.int IntKind.i64 1 :: List.drop (Dn + 1 + i + 1) (List.map (D.int IntKind.i64) (nth L i).1 ++ D.int IntKind.i64 (nth L i).2.1 :: List.replicate L.length (D.int IntKind.i64 0)) = (iniF L i).map (D.int .i64) := by
        have hl1 : (List.map (D.int IntKind.i64) (nth L i).1).length = Dn := by simp [-Bool.exists_bool, -Int.not_le, -Int.not_lt, -getElem?_pos, -List.getD_eq_getElem?_getD, hcl]
        have q1 : Dn + 1 + i - Dn = i + 1 := by omega
        have q2 : Dn + 1 + i + 1 - Dn = i + 2 := by omega
        rw [List.take_append, List.drop_append, List.take_of_length_le (by omega), List.drop_eq_nil_of_le (by omega), hl1, q1, q2]
        unfold iniF unit
        rw [List.map_append, List.map_cons, List.map_set, List.map_replicate, List.set_eq_take_append_cons_drop, if_pos (by simp [-Bool.exists_bool, -Int.not_le, -Int.not_lt, -getElem?_pos, -List.getD_eq_getElem?_getD]; exact h)]
        simp [-Bool.exists_bool, -Int.not_le, -Int.not_lt, -getElem?_pos, -List.getD_eq_getElem?_getD]
      simp -implicitDefEqProofs -dsimp +contextual [-Bool.exists_bool, -Int.not_le, -Int.not_lt, -getElem?_pos, -List.getD_eq_getElem?_getD, h, w1, w2, t2, hcl, hr, hA, hB, hr2, w3, t3, hr3, hr4, hC]
      have hil := iniF_len (L := L) (i := i) hcl
      refine ⟨⟨by omega, by simp [-Bool.exists_bool, -Int.not_le, -Int.not_lt, -getElem?_pos, -List.getD_eq_getElem?_getD, maxLen]; omega⟩, i + 1, h, by omega, ?_⟩
      rw [wr (x := (i : Int) + 1) (by omega) (by omega)]
      have hi1 : isDs (iniFs L (i + 1)) = isDs (iniFs L i) ++ [.sl (Dn + 1 + L.length) ((iniF L i).map (D.int .i64))] := by
        unfold iniFs
        rw [List.range_succ, List.map_append, isDs_app]
        simp [-Bool.exists_bool, -Int.not_le, -Int.not_lt, -getElem?_pos, -List.getD_eq_getElem?_getD, isDs, isD, hil]
      refine Le.trans (S' := ⟨tl [(1, .ptr (0, 0) 0), (4, .ref (1, 0) (i + 1)), (19, As L), (20, I L.length), (21, I ((i : Int) + 1))], Abs.hl [((0, 0), .box [I Dn, As L]), ((1, 0), .row 61 (i + 1) (dl (isDs (iniFs L i)) ++ [.ref (2, 0) (Dn + 1 + L.length)])), ((2, 0), .fz (Dn + 1 + L.length) ((iniF L i).map (D.int .i64)))], 3⟩) (Le.told [((1, 0), (40, 0)), ((2, 0), (16, 0))] ?_ ?_ ?_) (Le.told [] ?_ ?_ ?_)
      all_goals simp [-Bool.exists_bool, -Int.not_le, -Int.not_lt, -getElem?_pos, -List.getD_eq_getElem?_getD, hi1]
      · exact VLes_app (VLes_refl_d _ _ _ _) (by simp [-Bool.exists_bool, -Int.not_le, -Int.not_lt, -getElem?_pos, -List.getD_eq_getElem?_getD, VLes, VLe])
      · have : dl (isDs (iniFs L i) ++ [D.sl (Dn + 1 + L.length) (List.map (D.int IntKind.i64) (iniF L i))]) = dl (isDs (iniFs L i)) ++ [V.d (D.sl (Dn + 1 + L.length) (List.map (D.int IntKind.i64) (iniF L i)))] := by unfold dl; rw [List.map_append]; rfl
        rw [this]
        exact VLes_app (VLes_refl_d _ _ _ _) (by simp [-Bool.exists_bool, -Int.not_le, -Int.not_lt, -getElem?_pos, -List.getD_eq_getElem?_getD, VLes, VLe, asDz])
    · obtain rfl : i = L.length := by omega
      have hlok : (iniFs L L.length).length ≤ 64 ∧ ∀ x ∈ iniFs L L.length, okF (Dn + 1 + L.length) x := by
        refine ⟨by simp [-Bool.exists_bool, -Int.not_le, -Int.not_lt, -getElem?_pos, -List.getD_eq_getElem?_getD, iniFs]; omega, fun x hx => ?_⟩
        obtain ⟨j, hj, rfl⟩ := List.mem_map.1 hx
        exact iniF_ok hok (List.mem_range.1 hj)
      have hil : (iniFs L L.length).length = L.length := by simp [-Bool.exists_bool, -Int.not_le, -Int.not_lt, -getElem?_pos, -List.getD_eq_getElem?_getD, iniFs]
      generalize iniFs L L.length = l0 at *
      simp -implicitDefEqProofs -dsimp +contextual [-Bool.exists_bool, -Int.not_le, -Int.not_lt, -getElem?_pos, -List.getD_eq_getElem?_getD, h]
      refine WP.loopF mixed [0] (fun p : Nat × List (List Int) => ⟨tl [(1, .ptr (0, 0) 0), (4, Cl p.2), (8, I ((p.1 : Int) - 1))], Abs.hl [((0, 0), .box [I Dn, As L])], 1⟩) (fun p => p.1 ≤ Dn ∧ (p.2.length ≤ 64 ∧ ∀ x ∈ p.2, okF (Dn + 1 + L.length) x) ∧ rallF Dn l0 = rallF p.1 p.2) (fun p => p.1) (Dn, l0) (by kernel_rfl) ?_ ?_ ?_
      · rw [wr (x := (Dn : Int) - 1) (by omega) (by omega)]
        refine Le.trans (S' := ⟨tl [(1, .ptr (0, 0) 0), (4, .ref (1, 0) L.length), (8, I ((Dn : Int) - 1))], Abs.hl [((0, 0), .box [I Dn, As L]), ((1, 0), .fz L.length (isDs l0))], 2⟩) (Le.told [] ?_ ?_ ?_) (Le.told [] ?_ ?_ ?_)
        all_goals simp [-Bool.exists_bool, -Int.not_le, -Int.not_lt, -getElem?_pos, -List.getD_eq_getElem?_getD, hil]
      · exact ⟨Nat.le_refl _, hlok, rfl⟩
      · rintro ⟨m, l⟩ ⟨hm, hl, he⟩
        simp only at hm hl he
        refine ⟨_, Le.refl _ _ _, ?_⟩
        cases m with
        | zero =>
          rw [rallF] at he
          rw [he] at e0
          have e0 : refF Dn L = findF Dn L l := e0
          simp -implicitDefEqProofs -dsimp +contextual [-Bool.exists_bool, -Int.not_le, -Int.not_lt, -getElem?_pos, -List.getD_eq_getElem?_getD]
          refine WP.loopF mixed [0] (fun i : Nat => ⟨tl [(1, .ptr (0, 0) 0), (72, Cl l), (73, I l.length), (74, I i)], Abs.hl [((0, 0), .box [I Dn, As L])], 1⟩) (fun i => i ≤ l.length ∧ findF Dn L l = findF Dn L (l.drop i)) (fun i => l.length - i) 0 (by kernel_rfl) ?_ ?_ ?_
          · refine Le.told [] ?_ ?_ ?_ <;> simp [-Bool.exists_bool, -Int.not_le, -Int.not_lt, -getElem?_pos, -List.getD_eq_getElem?_getD]
          · exact ⟨Nat.zero_le _, rfl⟩
          · rintro i ⟨hi, hf⟩
            refine ⟨_, Le.refl _ _ _, ?_⟩
            by_cases h : i < l.length
            · have hox := hl.2 _ (nth_mem h)
              rw [nth_drop h, findF, Int.toNat_natCast] at hf
              have w1 : IntKind.wrap .i64 ((Dn : Int) + 1) = (Dn : Int) + 1 := wr (by omega) (by omega)
              have t1 : ((Dn : Int) + 1).toNat = Dn + 1 := by omega
              have hxl := hox.1
              simp -implicitDefEqProofs -dsimp +contextual [-Bool.exists_bool, -Int.not_le, -Int.not_lt, -getElem?_pos, -List.getD_eq_getElem?_getD, h, isD, w1, t1, hxl]
              generalize nth l i = x at hox hf hxl ⊢
              have hml : (x.drop (Dn + 1)).length = L.length := by simp [-Bool.exists_bool, -Int.not_le, -Int.not_lt, -getElem?_pos, -List.getD_eq_getElem?_getD, hxl]
              have hm : List.take L.length (List.drop (Dn + 1) (List.map (D.int IntKind.i64) x)) = (x.drop (Dn + 1)).map (D.int .i64) := by
                rw [List.take_of_length_le (by simp [-Bool.exists_bool, -Int.not_le, -Int.not_lt, -getElem?_pos, -List.getD_eq_getElem?_getD, hxl]), List.map_drop]
              rw [hm]
              generalize x.drop (Dn + 1) = mm at hml hm hf ⊢
              refine ⟨by omega, ?_⟩
              have hcp := iCopyNumbers mm (by omega)
              rw [hml] at hcp
              refine CallJ.pure (ks := []) hcp (by simp [-Bool.exists_bool, -Int.not_le, -Int.not_lt, -getElem?_pos, -List.getD_eq_getElem?_getD, hml]) (by simp [-Bool.exists_bool, -Int.not_le, -Int.not_lt, -getElem?_pos, -List.getD_eq_getElem?_getD]) ?_
              simp -implicitDefEqProofs -dsimp +contextual [-Bool.exists_bool, -Int.not_le, -Int.not_lt, -getElem?_pos, -List.getD_eq_getElem?_getD, h]
              have hRf := iIsRefuted Dn L mm h20 (by omega)
              refine CallJ.lent (ks := [(10, 0)]) 2 hRf (by simp [-Bool.exists_bool, -Int.not_le, -Int.not_lt, -getElem?_pos, -List.getD_eq_getElem?_getD, lendVs, lendV, setH, hml]) (by simp [-Bool.exists_bool, -Int.not_le, -Int.not_lt, -getElem?_pos, -List.getD_eq_getElem?_getD]) rfl (by simp [-Bool.exists_bool, -Int.not_le, -Int.not_lt, -getElem?_pos, -List.getD_eq_getElem?_getD]) ?_
              simp -implicitDefEqProofs -dsimp +contextual [-Bool.exists_bool, -Int.not_le, -Int.not_lt, -getElem?_pos, -List.getD_eq_getElem?_getD, h]
              refine ⟨fun hr => ?_, fun hr => ?_⟩
              · rw [if_pos hr] at hf
                rw [hf] at e0
                have eV : rfV (refF Dn L) = V.tup [.ref (0, 0) L.length, B true] := by rw [e0, rfV, if_pos rfl, ← hml]
                have eH : rfH (refF Dn L) = Abs.hl [((0, 0), .row 3 L.length (dl (mm.map (D.int .i64))))] := by rw [e0, rfH, if_pos rfl, ← hml]
                rw [eV, eH]
                refine RLe.told [((0, 0), (10, 0))] ?_ ?_ ?_ <;> simp [-Bool.exists_bool, -Int.not_le, -Int.not_lt, -getElem?_pos, -List.getD_eq_getElem?_getD, setH]
              · rw [if_neg (by simp [-Bool.exists_bool, -Int.not_le, -Int.not_lt, -getElem?_pos, -List.getD_eq_getElem?_getD, hr])] at hf
                refine ⟨i + 1, ⟨h, hf⟩, by omega, ?_⟩
                rw [wr (x := (i : Int) + 1) (by omega) (by omega)]
                refine Le.told [] ?_ ?_ ?_ <;> simp [-Bool.exists_bool, -Int.not_le, -Int.not_lt, -getElem?_pos, -List.getD_eq_getElem?_getD]
            · rw [drop_nil (by omega), findF] at hf
              rw [hf] at e0
              simp -implicitDefEqProofs -dsimp +contextual [-Bool.exists_bool, -Int.not_le, -Int.not_lt, -getElem?_pos, -List.getD_eq_getElem?_getD, h]
              rw [e0]
              exact RLe.emp (by simp [-Bool.exists_bool, -Int.not_le, -Int.not_lt, -getElem?_pos, -List.getD_eq_getElem?_getD, rfV])
        | succ n =>
          have e1 : ((n + 1 : Nat) : Int) - 1 = (n : Int) := by omega
          rw [e1]
          rw [rallF] at he
          simp -implicitDefEqProofs -dsimp +contextual [-Bool.exists_bool, -Int.not_le, -Int.not_lt, -getElem?_pos, -List.getD_eq_getElem?_getD]
          have hR := iDropComb l n (Dn + 1 + L.length) hl (by omega) (by omega)
          have hro := fun z => rdrop_ok (v := n) (z := z) hl
          cases hq : rdrop n l with
          | none =>
            rw [hq] at hR he
            refine CallJ.pure hR rfl (by simp [-Bool.exists_bool, -Int.not_le, -Int.not_lt, -getElem?_pos, -List.getD_eq_getElem?_getD]) ?_
            simp -implicitDefEqProofs -dsimp +contextual [-Bool.exists_bool, -Int.not_le, -Int.not_lt, -getElem?_pos, -List.getD_eq_getElem?_getD, clV]
            rw [Option.bind_none] at he
            rw [he] at e0
            rw [e0]
            exact RLe.emp (by simp [-Bool.exists_bool, -Int.not_le, -Int.not_lt, -getElem?_pos, -List.getD_eq_getElem?_getD, rfV])
          | some z =>
            rw [hq] at hR he
            have hz := hro z hq
            refine CallJ.pure hR rfl (by simp [-Bool.exists_bool, -Int.not_le, -Int.not_lt, -getElem?_pos, -List.getD_eq_getElem?_getD]) ?_
            simp -implicitDefEqProofs -dsimp +contextual [-Bool.exists_bool, -Int.not_le, -Int.not_lt, -getElem?_pos, -List.getD_eq_getElem?_getD, clV]
            rw [Option.bind_some] at he
            refine ⟨n, z, ⟨by omega, hz, he⟩, by omega, ?_⟩
            rw [wr (x := (n : Int) - 1) (by omega) (by omega)]
            refine Le.told [] ?_ ?_ ?_ <;> simp [-Bool.exists_bool, -Int.not_le, -Int.not_lt, -getElem?_pos, -List.getD_eq_getElem?_getD]
theorem findF_nil {d : Int} {L : List At} : ∀ {l : List (List Int)}, (findF d L l).2 = false → (findF d L l).1 = []
  | [], _ => rfl
  | x :: xs, h => by
    unfold findF at h ⊢
    split at h
    · cases h
    · rename_i hn
      rw [if_neg hn]
      exact findF_nil h
theorem refF_nil {d : Int} {L : List At} : (refF d L).2 = false → (refF d L).1 = [] := by
  unfold refF
  split
  · cases rallF d.toNat (iniFs L L.length) with
    | none => intro _; rfl
    | some l => exact findF_nil
  · intro _; rfl
theorem iRefuteCellW (d : Int) (L : List At) (h20 : L.length ≤ 1048576) : Cn Try.prog 8 [C1 d L] (.tup [Is (refF d L).1, B (refF d L).2]) hemp := by
  have h := iRefuteCell d L h20
  have h0 := refF_nil (d := d) (L := L)
  generalize refF d L = r at h h0
  obtain ⟨p, b⟩ := r
  simp only at h0
  cases b
  · rw [rfV, rfH, if_neg (by simp [-Bool.exists_bool, -Int.not_le, -Int.not_lt, -getElem?_pos, -List.getD_eq_getElem?_getD]), if_neg (by simp [-Bool.exists_bool, -Int.not_le, -Int.not_lt, -getElem?_pos, -List.getD_eq_getElem?_getD])] at h
    rw [h0 rfl]
    exact h.res (RLe.emp (by simp [-Bool.exists_bool, -Int.not_le, -Int.not_lt, -getElem?_pos, -List.getD_eq_getElem?_getD]))
  · rw [rfV, rfH, if_pos rfl, if_pos rfl] at h
    exact Cn.freeze 3 h (by simp [-Bool.exists_bool, -Int.not_le, -Int.not_lt, -getElem?_pos, -List.getD_eq_getElem?_getD, lendT, lendV])
end Go.Proofs.Ytjknjekemolndaa.ZL
namespace Go.Proofs.Ytjknjekemolndaa.ZL
open Go Go.Proofs.Ytjknjekemolndaa.Abs Go.Proofs.Ytjknjekemolndaa.Abs.Pl Go.RowKit Go.Proofs
set_option linter.unusedVariables false
set_option linter.unusedSimpArgs false
set_option maxRecDepth 100000
structure Cb where
  s : List Int
  k : Int
  st : Bool
  t : List Int
instance : Inhabited Cb := ⟨⟨[], 0, false, []⟩⟩
abbrev cbL (x : Cb) : List V := [Is x.s, I x.k, B x.st, Is x.t]
abbrev cbV (x : Cb) : V := .agg (cbL x)
structure okQ (d n : Nat) (x : Cb) : Prop where
  s : okF d x.s
  k : isNum x.k = true
  t : okF n x.t
def jg (S T : List Int) (K : Int) : Int := div1 (Nat.gcd K.natAbs (gcdL (S ++ T)))
def dv (g : Int) (S : List Int) : List Int := S.map (·.tdiv g)
def joinS (a : Cb) (p : Int) (b : Cb) (q : Int) : List Int := mixL p a.s q b.s
def joinT (a : Cb) (p : Int) (b : Cb) (q : Int) : List Int := mixL p a.t q b.t
def joinK (a : Cb) (p : Int) (b : Cb) (q : Int) : Int := p * a.k + q * b.k
def joinG (a : Cb) (p : Int) (b : Cb) (q : Int) : Int := jg (joinS a p b q) (joinT a p b q) (joinK a p b q)
def joinC (a : Cb) (p : Int) (b : Cb) (q : Int) : Cb × Bool :=
  (⟨dv (joinG a p b q) (joinS a p b q), (joinK a p b q).tdiv (joinG a p b q), a.st || b.st, dv (joinG a p b q) (joinT a p b q)⟩,
    isNum ((joinK a p b q).tdiv (joinG a p b q)) && ((dv (joinG a p b q) (joinS a p b q)).all isNum && (dv (joinG a p b q) (joinT a p b q)).all isNum))
theorem mixL_len {p q : Int} {a b : List Int} (h : a.length = b.length) : (mixL p a q b).length = a.length := by simp [-Bool.exists_bool, -Int.not_le, -Int.not_lt, -getElem?_pos, -List.getD_eq_getElem?_getD, mixL, h]
theorem mixL_nth {p q : Int} {a b : List Int} (h : a.length = b.length) {i : Nat} (hi : i < a.length) : nth (mixL p a q b) i = p * nth a i + q * nth b i := by
  rw [nth_eq (by rw [mixL_len h]; exact hi), nth_eq hi, nth_eq (by omega)]
  simp [-Bool.exists_bool, -Int.not_le, -Int.not_lt, -getElem?_pos, -List.getD_eq_getElem?_getD, mixL]
def curG (g : Int) (S : List Int) (i : Nat) : List Int := (S.take i).map (·.tdiv g) ++ S.drop i
theorem curG_len (g : Int) (S : List Int) (i : Nat) : (curG g S i).length = S.length := by simp [-Bool.exists_bool, -Int.not_le, -Int.not_lt, -getElem?_pos, -List.getD_eq_getElem?_getD, curG]; omega
theorem curG_0 (g : Int) (S : List Int) : curG g S 0 = S := by simp [-Bool.exists_bool, -Int.not_le, -Int.not_lt, -getElem?_pos, -List.getD_eq_getElem?_getD, curG]
theorem curG_nth (g : Int) (S : List Int) (i : Nat) (h : i < S.length) : nth (curG g S i) i = nth S i := by
  rw [nth_eq (by rw [curG_len]; exact h), nth_eq h]
  unfold curG
  rw [List.getElem_append_right (by simp [-Bool.exists_bool, -Int.not_le, -Int.not_lt, -getElem?_pos, -List.getD_eq_getElem?_getD]; omega)]
  simp [-Bool.exists_bool, -Int.not_le, -Int.not_lt, -getElem?_pos, -List.getD_eq_getElem?_getD]
  congr 1
  omega
theorem curG_set (g : Int) (S : List Int) (i : Nat) (h : i < S.length) : (curG g S i).set i ((nth S i).tdiv g) = curG g S (i + 1) := by
  unfold curG
  have hl : ((S.take i).map (·.tdiv g)).length = i := by simp [-Bool.exists_bool, -Int.not_le, -Int.not_lt, -getElem?_pos, -List.getD_eq_getElem?_getD]; omega
  rw [List.set_append_right _ _ (by rw [hl]; exact Nat.le_refl _), hl, nth_drop h, nth_take h]
  simp [-Bool.exists_bool, -Int.not_le, -Int.not_lt, -getElem?_pos, -List.getD_eq_getElem?_getD]
theorem curG_new (g : Int) (S : List Int) (i : Nat) (h : i < S.length) : nth (curG g S (i + 1)) i = (nth S i).tdiv g := by
  rw [← curG_set g S i h, nth_eq (by simp [-Bool.exists_bool, -Int.not_le, -Int.not_lt, -getElem?_pos, -List.getD_eq_getElem?_getD, curG_len]; exact h)]
  simp [-Bool.exists_bool, -Int.not_le, -Int.not_lt, -getElem?_pos, -List.getD_eq_getElem?_getD]
theorem curG_end (g : Int) (S : List Int) : curG g S S.length = dv g S := by simp [-Bool.exists_bool, -Int.not_le, -Int.not_lt, -getElem?_pos, -List.getD_eq_getElem?_getD, curG, dv]
theorem dv_take (g : Int) (S : List Int) (i : Nat) (h : i < S.length) : ((dv g S).take (i + 1)).all isNum = (((dv g S).take i).all isNum && isNum ((nth S i).tdiv g)) := by
  have hl : i < (dv g S).length := by simp [-Bool.exists_bool, -Int.not_le, -Int.not_lt, -getElem?_pos, -List.getD_eq_getElem?_getD, dv]; exact h
  have e : nth (dv g S) i = (nth S i).tdiv g := by rw [nth_eq hl, nth_eq h]; simp [-Bool.exists_bool, -Int.not_le, -Int.not_lt, -getElem?_pos, -List.getD_eq_getElem?_getD, dv]
  rw [nth_take hl, List.all_append, e]
  simp [-Bool.exists_bool, -Int.not_le, -Int.not_lt, -getElem?_pos, -List.getD_eq_getElem?_getD]
set_option maxHeartbeats 1000000 in
theorem l3Join (d n : Nat) (a : Cb) (p : Int) (b : Cb) (q : Int) (ha : okQ d n a) (hb : okQ d n b) (hd : d ≤ 100) (hn : n ≤ 100) (hp : 0 ≤ p ∧ p ≤ 400000000) (hq : 0 ≤ q ∧ q ≤ 400000000) :
    Cn Try.prog 52 [cbV a, I p, cbV b, I q] (.tup [cbV (joinC a p b q).1, B (joinC a p b q).2]) hemp := by
  refine Cn.of [0] mixed Try.func52 rfl Try.call52 (by kernel_rfl) rfl ?_
  have mul : ∀ {x y : Int}, (0 ≤ x ∧ x ≤ 400000000) → isNum y = true → IntKind.wrap .i64 (x * y) = x * y ∧ (-160000000000000000 ≤ x * y ∧ x * y ≤ 160000000000000000) := fun {x y} h1 h2 => by
    have := Pl.mul_bd (a := x) ⟨by omega, h1.2⟩ (isNum_iff.1 h2)
    exact ⟨wr (by omega) (by omega), this⟩
  obtain ⟨eK1, bK1⟩ := mul hp ha.k
  obtain ⟨eK2, bK2⟩ := mul hq hb.k
  have eK3 : IntKind.wrap .i64 (p * a.k + q * b.k) = joinK a p b q := wr (by omega) (by omega)
  have bK : -400000000000000000 ≤ joinK a p b q ∧ joinK a p b q ≤ 400000000000000000 := by unfold joinK; omega
  have hsl : a.s.length = b.s.length := by rw [ha.s.1, hb.s.1]
  have htl : a.t.length = b.t.length := by rw [ha.t.1, hb.t.1]
  have sb : ∀ {x y : List Int}, x.length = y.length → (∀ w ∈ x, isNum w = true) → (∀ w ∈ y, isNum w = true) → ∀ i, i < x.length → IntKind.wrap .i64 (p * nth x i) = p * nth x i ∧ IntKind.wrap .i64 (q * nth y i) = q * nth y i ∧ IntKind.wrap .i64 (p * nth x i + q * nth y i) = nth (mixL p x q y) i ∧ (-400000000000000000 ≤ nth (mixL p x q y) i ∧ nth (mixL p x q y) i ≤ 400000000000000000) := fun {x y} hl hx hy i hi => by
    obtain ⟨e1, b1⟩ := mul hp (hx _ (nth_mem hi))
    obtain ⟨e2, b2⟩ := mul hq (hy _ (nth_mem (i := i) (by omega)))
    rw [mixL_nth hl hi]
    exact ⟨e1, e2, wr (by omega) (by omega), by omega⟩
  have hS := sb hsl ha.s.2 hb.s.2
  have hT := sb htl ha.t.2 hb.t.2
  have hSl : (joinS a p b q).length = d := by rw [joinS, mixL_len hsl, ha.s.1]
  have hTl : (joinT a p b q).length = n := by rw [joinT, mixL_len htl, ha.t.1]
  have hal := ha.s.1
  have hat := ha.t.1
  have hbl := hb.s.1
  have hbt := hb.t.1
  change ∀ i, i < a.s.length → _ ∧ _ ∧ _ = nth (joinS a p b q) i ∧ (_ ≤ nth (joinS a p b q) i ∧ nth (joinS a p b q) i ≤ _) at hS
  change ∀ i, i < a.t.length → _ ∧ _ ∧ _ = nth (joinT a p b q) i ∧ (_ ≤ nth (joinT a p b q) i ∧ nth (joinT a p b q) i ≤ _) at hT
  unfold joinC joinG
  generalize joinS a p b q = S at *
  generalize joinT a p b q = T at *
  generalize joinK a p b q = K at *
  simp -implicitDefEqProofs -dsimp +contextual [-Bool.exists_bool, -Int.not_le, -Int.not_lt, -getElem?_pos, -List.getD_eq_getElem?_getD, Try.f52, eK1, eK2, eK3]
  have hsv : ∀ x : Bool, (a.st = true → (a.st || b.st) = true) ∧ (a.st = false → (a.st || b.st) = b.st) := fun x => ⟨fun h => by simp [-Bool.exists_bool, -Int.not_le, -Int.not_lt, -getElem?_pos, -List.getD_eq_getElem?_getD, h], fun h => by simp [-Bool.exists_bool, -Int.not_le, -Int.not_lt, -getElem?_pos, -List.getD_eq_getElem?_getD, h]⟩
  refine ⟨fun hst => ?_, fun hst => ?_⟩
  all_goals
    refine WP.loop mixed [0] (fun i : Nat => ⟨tl [(1, I p), (3, I q), (4, .ptr (0, 0) 0), (6, .ptr (1, 0) 0), (8, .ptr (2, 0) 0), (10, .ptr (3, 0) 0), (11, I i)], Abs.hl [((0, 0), .box (cbL a)), ((1, 0), .box (cbL b)), ((2, 0), .box [.nil, I 0, B false, .nil]), ((3, 0), .box [.ref (4, 0) i, I K, B (a.st || b.st), .nil]), ((4, 0), .row 3 i (dl ((S.take i).map (D.int .i64))))], 5⟩) (fun i => i ≤ d) (fun i => d - i) 0 (by kernel_rfl) ?_ ?_ ?_
    · refine Le.trans (Le.nilBox (20, 0) 0 3 (c := [.nil, I K, B (a.st || b.st), .nil]) (by simp [-Bool.exists_bool, -Int.not_le, -Int.not_lt, -getElem?_pos, -List.getD_eq_getElem?_getD, setH, hst]) rfl) (Le.told [((3, 0), (20, 0)), ((4, 0), (23, 0))] ?_ ?_ ?_) <;> simp [-Bool.exists_bool, -Int.not_le, -Int.not_lt, -getElem?_pos, -List.getD_eq_getElem?_getD, setH, ELe]
    · simp [-Bool.exists_bool, -Int.not_le, -Int.not_lt, -getElem?_pos, -List.getD_eq_getElem?_getD]
    · intro i hi
      by_cases h : i < d
      · obtain ⟨e1, e2, e3, _⟩ := hS i (by omega)
        have hia : i < a.s.length := by omega
        have hib : i < b.s.length := by omega
        have hiS : i < S.length := by omega
        have htk := nth_take hiS
        simp -implicitDefEqProofs -dsimp +contextual [-Bool.exists_bool, -Int.not_le, -Int.not_lt, -getElem?_pos, -List.getD_eq_getElem?_getD, h, hal, hbl, e1, e2, e3]
        refine ⟨⟨by omega, by simp [-Bool.exists_bool, -Int.not_le, -Int.not_lt, -getElem?_pos, -List.getD_eq_getElem?_getD, maxLen]; omega⟩, Quiet.of [] (by kernel_rfl) (by simp [-Bool.exists_bool, -Int.not_le, -Int.not_lt, -getElem?_pos, -List.getD_eq_getElem?_getD, allP, offB]), Quiet.of [] (by kernel_rfl) (by simp [-Bool.exists_bool, -Int.not_le, -Int.not_lt, -getElem?_pos, -List.getD_eq_getElem?_getD, allP, offB]), i + 1, h, by omega, ?_⟩
        rw [wr (x := (i : Int) + 1) (by omega) (by omega)]
        refine Le.told [((4, 0), (28, 0))] ?_ ?_ ?_ <;> simp [-Bool.exists_bool, -Int.not_le, -Int.not_lt, -getElem?_pos, -List.getD_eq_getElem?_getD, htk, ← List.map_take]
      · obtain rfl : i = d := by omega
        simp -implicitDefEqProofs -dsimp +contextual [-Bool.exists_bool, -Int.not_le, -Int.not_lt, -getElem?_pos, -List.getD_eq_getElem?_getD, h, hal]
        have hSt : List.take i (S.map (D.int IntKind.i64)) = S.map (D.int IntKind.i64) := List.take_of_length_le (by simp [-Bool.exists_bool, -Int.not_le, -Int.not_lt, -getElem?_pos, -List.getD_eq_getElem?_getD]; omega)
        refine WP.loop mixed [0] (fun j : Nat => ⟨tl [(1, I p), (3, I q), (4, .ptr (0, 0) 0), (6, .ptr (1, 0) 0), (8, .ptr (2, 0) 0), (10, .ptr (3, 0) 0), (12, I j)], Abs.hl [((0, 0), .box (cbL a)), ((1, 0), .box (cbL b)), ((2, 0), .box [.nil, I 0, B false, .nil]), ((3, 0), .box [.ref (4, 0) i, I K, B (a.st || b.st), .ref (5, 0) j]), ((4, 0), .row 3 i (dl (S.map (D.int .i64)))), ((5, 0), .row 3 j (dl ((T.take j).map (D.int .i64))))], 6⟩) (fun j => j ≤ n) (fun j => n - j) 0 (by kernel_rfl) ?_ ?_ ?_
        · refine Le.trans (Le.nilBox (3, 0) 3 3 (c := [.ref (4, 0) i, I K, B (a.st || b.st), .nil]) (by simp [-Bool.exists_bool, -Int.not_le, -Int.not_lt, -getElem?_pos, -List.getD_eq_getElem?_getD, setH]) rfl) (Le.told [((5, 0), (11, 0))] ?_ ?_ ?_) <;> simp [-Bool.exists_bool, -Int.not_le, -Int.not_lt, -getElem?_pos, -List.getD_eq_getElem?_getD, setH, ELe, hSt]
        · simp [-Bool.exists_bool, -Int.not_le, -Int.not_lt, -getElem?_pos, -List.getD_eq_getElem?_getD]
        · intro j hj
          by_cases hjn : j < n
          · obtain ⟨e1, e2, e3, _⟩ := hT j (by omega)
            have hjT : j < T.length := by omega
            have htk := nth_take hjT
            simp -implicitDefEqProofs -dsimp +contextual [-Bool.exists_bool, -Int.not_le, -Int.not_lt, -getElem?_pos, -List.getD_eq_getElem?_getD, h, hjn, hat, hbt, e1, e2, e3]
            refine ⟨⟨by omega, by simp [-Bool.exists_bool, -Int.not_le, -Int.not_lt, -getElem?_pos, -List.getD_eq_getElem?_getD, maxLen]; omega⟩, Quiet.of [] (by kernel_rfl) (by simp [-Bool.exists_bool, -Int.not_le, -Int.not_lt, -getElem?_pos, -List.getD_eq_getElem?_getD, allP, offB]), Quiet.of [] (by kernel_rfl) (by simp [-Bool.exists_bool, -Int.not_le, -Int.not_lt, -getElem?_pos, -List.getD_eq_getElem?_getD, allP, offB]), j + 1, hjn, by omega, ?_⟩
            rw [wr (x := (j : Int) + 1) (by omega) (by omega)]
            refine Le.told [((5, 0), (29, 0))] ?_ ?_ ?_ <;> simp [-Bool.exists_bool, -Int.not_le, -Int.not_lt, -getElem?_pos, -List.getD_eq_getElem?_getD, htk, ← List.map_take]
          · obtain rfl : j = n := by omega
            have hTt : List.take j (T.map (D.int IntKind.i64)) = T.map (D.int IntKind.i64) := List.take_of_length_le (by simp [-Bool.exists_bool, -Int.not_le, -Int.not_lt, -getElem?_pos, -List.getD_eq_getElem?_getD]; omega)
            simp -implicitDefEqProofs -dsimp +contextual [-Bool.exists_bool, -Int.not_le, -Int.not_lt, -getElem?_pos, -List.getD_eq_getElem?_getD, hjn, hat, hTt]
            refine ⟨⟨by omega, by omega, by simp [-Bool.exists_bool, -Int.not_le, -Int.not_lt, -getElem?_pos, -List.getD_eq_getElem?_getD, maxLen]; omega⟩, ⟨by omega, by omega, by simp [-Bool.exists_bool, -Int.not_le, -Int.not_lt, -getElem?_pos, -List.getD_eq_getElem?_getD, maxLen]; omega⟩, Quiet.of [10] (by kernel_rfl) (by simp [-Bool.exists_bool, -Int.not_le, -Int.not_lt, -getElem?_pos, -List.getD_eq_getElem?_getD, allP, offB]), ?_⟩
            have hSTb : ∀ y ∈ S ++ T, -400000000000000000 ≤ y ∧ y ≤ 400000000000000000 := fun y hy => by
              rcases List.mem_append.1 hy with hy | hy
              · obtain ⟨w, hw, rfl⟩ := List.getElem_of_mem hy
                have := (hS w (by omega)).2.2.2
                rwa [nth_eq hw] at this
              · obtain ⟨w, hw, rfl⟩ := List.getElem_of_mem hy
                have := (hT w (by omega)).2.2.2
                rwa [nth_eq hw] at this
            have hG := l2Gcd (S ++ T) K (by simp [-Bool.exists_bool, -Int.not_le, -Int.not_lt, -getElem?_pos, -List.getD_eq_getElem?_getD]; omega) (fun y hy => by have := hSTb y hy; omega) (by omega)
            have hle : (S ++ T).length = i + j := by simp [-Bool.exists_bool, -Int.not_le, -Int.not_lt, -getElem?_pos, -List.getD_eq_getElem?_getD]; omega
            have hgeq : gcdF K.natAbs (S ++ T) = Nat.gcd K.natAbs (gcdL (S ++ T)) := gcdF_eq _ _
            rw [hgeq] at hG
            refine CallJ.lent (ks := [(17, 0)]) 2 hG (by simp [-Bool.exists_bool, -Int.not_le, -Int.not_lt, -getElem?_pos, -List.getD_eq_getElem?_getD, lendVs, lendV, setH, hle]) (by simp [-Bool.exists_bool, -Int.not_le, -Int.not_lt, -getElem?_pos, -List.getD_eq_getElem?_getD, slotsL, slotsV]) rfl (by simp [-Bool.exists_bool, -Int.not_le, -Int.not_lt, -getElem?_pos, -List.getD_eq_getElem?_getD]) ?_
            simp -implicitDefEqProofs -dsimp +contextual [-Bool.exists_bool, -Int.not_le, -Int.not_lt, -getElem?_pos, -List.getD_eq_getElem?_getD]
            have hgd : (if 1 < ((K.natAbs.gcd (gcdL (S ++ T)) : Nat) : Int) then ((K.natAbs.gcd (gcdL (S ++ T)) : Nat) : Int) else 1) = jg S T K := by
              unfold jg div1
              split <;> split <;> omega
            have hgp : 0 < jg S T K := div1_pos _
            rw [hgd]
            generalize jg S T K = g at hgp ⊢
            refine ⟨by omega, ?_⟩
            have tb : ∀ y : Int, (-400000000000000000 ≤ y ∧ y ≤ 400000000000000000) → IntKind.wrap .i64 (y.tdiv g) = y.tdiv g := fun y hy => by
              have h1 : (y.tdiv g).natAbs ≤ y.natAbs := by rw [Int.natAbs_tdiv]; exact Nat.div_le_self _ _
              exact wr (by omega) (by omega)
            rw [tb K bK]
            refine CallJ.pure (IsNumber (K.tdiv g)) rfl (by simp [-Bool.exists_bool, -Int.not_le, -Int.not_lt, -getElem?_pos, -List.getD_eq_getElem?_getD]) ?_
            simp -implicitDefEqProofs -dsimp +contextual [-Bool.exists_bool, -Int.not_le, -Int.not_lt, -getElem?_pos, -List.getD_eq_getElem?_getD]
            generalize K.tdiv g = K'
            refine WP.loop mixed [0] (fun x : Nat × Bool => ⟨tl [(8, .ptr (2, 0) 0), (10, .ptr (3, 0) 0), (13, I g), (14, B x.2), (15, I x.1)], Abs.hl [((2, 0), .box [.nil, I 0, B false, .nil]), ((3, 0), .box [.ref (4, 0) i, I K', B (a.st || b.st), .ref (5, 0) j]), ((4, 0), .row 3 i (dl ((curG g S x.1).map (D.int .i64)))), ((5, 0), .row 3 j (dl (T.map (D.int .i64))))], 6⟩) (fun x => x.1 ≤ i ∧ x.2 = (isNum K' && ((dv g S).take x.1).all isNum)) (fun x => i - x.1) (0, isNum K') (by kernel_rfl) ?_ ?_ ?_
            · refine Le.told [] ?_ ?_ ?_ <;> simp [-Bool.exists_bool, -Int.not_le, -Int.not_lt, -getElem?_pos, -List.getD_eq_getElem?_getD, setH, curG]
            · exact ⟨Nat.zero_le _, by simp [-Bool.exists_bool, -Int.not_le, -Int.not_lt, -getElem?_pos, -List.getD_eq_getElem?_getD]⟩
            · rintro ⟨v, f⟩ ⟨hv, hf⟩
              simp only at hv hf
              by_cases hvi : v < i
              · have hvS : v < S.length := by omega
                have hcl := curG_len g S v
                have hcn := curG_nth g S v hvS
                have hset := curG_set g S v hvS
                have hget : (curG g S v)[v]? = some (nth S v) := by rw [nth_some (by rw [hcl]; exact hvS), hcn]
                have hv1 : v + 1 ≤ i := hvi
                have hg0 : ¬ g = 0 := by omega
                have hset2 : List.take v (List.map (D.int IntKind.i64) (curG g S v)) ++ D.int IntKind.i64 ((nth S v).tdiv g) :: List.drop (v + 1) (List.map (D.int IntKind.i64) (curG g S v)) = List.map (D.int IntKind.i64) (curG g S (v + 1)) := by
                  rw [← hset, List.map_set, List.set_eq_take_append_cons_drop, if_pos (by rw [List.length_map, hcl]; exact hvS)]
                have hcl2 := curG_len g S (v + 1)
                have hget2 : (curG g S (v + 1))[v]? = some ((nth S v).tdiv g) := by rw [nth_some (by rw [hcl2]; exact hvS), curG_new g S v hvS]
                have htb := tb _ (hS v (by omega)).2.2.2
                simp -implicitDefEqProofs -dsimp +contextual [-Bool.exists_bool, -Int.not_le, -Int.not_lt, -getElem?_pos, -List.getD_eq_getElem?_getD, hvi, hget, hg0, hcl, hSl, hv1, htb, hset2, hget2]
                refine ⟨Quiet.of [] (by kernel_rfl) (by simp [-Bool.exists_bool, -Int.not_le, -Int.not_lt, -getElem?_pos, -List.getD_eq_getElem?_getD, allP, offB]), fun hft => ?_, fun hft => ?_⟩
                · refine CallJ.pure (IsNumber ((nth S v).tdiv g)) rfl (by simp [-Bool.exists_bool, -Int.not_le, -Int.not_lt, -getElem?_pos, -List.getD_eq_getElem?_getD]) ?_
                  simp -implicitDefEqProofs -dsimp +contextual [-Bool.exists_bool, -Int.not_le, -Int.not_lt, -getElem?_pos, -List.getD_eq_getElem?_getD, hvi, hft]
                  refine ⟨v + 1, isNum ((nth S v).tdiv g), ⟨hvi, ?_⟩, by omega, ?_⟩
                  · rw [dv_take g S v hvS, ← Bool.and_assoc, ← hf, hft]; simp [-Bool.exists_bool, -Int.not_le, -Int.not_lt, -getElem?_pos, -List.getD_eq_getElem?_getD]
                  · rw [wr (x := (v : Int) + 1) (by omega) (by omega)]
                    refine Le.told [] ?_ ?_ ?_ <;> simp [-Bool.exists_bool, -Int.not_le, -Int.not_lt, -getElem?_pos, -List.getD_eq_getElem?_getD]
                · refine ⟨v + 1, false, ⟨hvi, ?_⟩, by omega, ?_⟩
                  · rw [dv_take g S v hvS, ← Bool.and_assoc, ← hf, hft]; simp [-Bool.exists_bool, -Int.not_le, -Int.not_lt, -getElem?_pos, -List.getD_eq_getElem?_getD]
                  · rw [wr (x := (v : Int) + 1) (by omega) (by omega)]
                    refine Le.told [] ?_ ?_ ?_ <;> simp [-Bool.exists_bool, -Int.not_le, -Int.not_lt, -getElem?_pos, -List.getD_eq_getElem?_getD]
              · obtain rfl : v = i := by omega
                have hSe : curG g S v = dv g S := by rw [← hSl, curG_end]
                have hfe : f = (isNum K' && (dv g S).all isNum) := by rw [hf, List.take_of_length_le (by simp [-Bool.exists_bool, -Int.not_le, -Int.not_lt, -getElem?_pos, -List.getD_eq_getElem?_getD, dv]; omega)]
                simp -implicitDefEqProofs -dsimp +contextual [-Bool.exists_bool, -Int.not_le, -Int.not_lt, -getElem?_pos, -List.getD_eq_getElem?_getD, hvi]
                refine WP.loop mixed [0] (fun x : Nat × Bool => ⟨tl [(8, .ptr (2, 0) 0), (10, .ptr (3, 0) 0), (13, I g), (14, B x.2), (16, I x.1)], Abs.hl [((2, 0), .box [.nil, I 0, B false, .nil]), ((3, 0), .box [.ref (4, 0) v, I K', B (a.st || b.st), .ref (5, 0) j]), ((4, 0), .row 3 v (dl ((dv g S).map (D.int .i64)))), ((5, 0), .row 3 j (dl ((curG g T x.1).map (D.int .i64))))], 6⟩) (fun x => x.1 ≤ j ∧ x.2 = (f && ((dv g T).take x.1).all isNum)) (fun x => j - x.1) (0, f) (by kernel_rfl) ?_ ?_ ?_
                · refine Le.told [] ?_ ?_ ?_ <;> simp [-Bool.exists_bool, -Int.not_le, -Int.not_lt, -getElem?_pos, -List.getD_eq_getElem?_getD, setH, curG_0, hSe]
                · exact ⟨Nat.zero_le _, by simp [-Bool.exists_bool, -Int.not_le, -Int.not_lt, -getElem?_pos, -List.getD_eq_getElem?_getD]⟩
                · rintro ⟨u, f2⟩ ⟨hu, hf2⟩
                  simp only at hu hf2
                  by_cases huj : u < j
                  · have huT : u < T.length := by omega
                    have hcl := curG_len g T u
                    have hcn := curG_nth g T u huT
                    have hset := curG_set g T u huT
                    have hget : (curG g T u)[u]? = some (nth T u) := by rw [nth_some (by rw [hcl]; exact huT), hcn]
                    have hu1 : u + 1 ≤ j := huj
                    have hg0 : ¬ g = 0 := by omega
                    have hset2 : List.take u (List.map (D.int IntKind.i64) (curG g T u)) ++ D.int IntKind.i64 ((nth T u).tdiv g) :: List.drop (u + 1) (List.map (D.int IntKind.i64) (curG g T u)) = List.map (D.int IntKind.i64) (curG g T (u + 1)) := by
                      rw [← hset, List.map_set, List.set_eq_take_append_cons_drop, if_pos (by rw [List.length_map, hcl]; exact huT)]
                    have hcl2 := curG_len g T (u + 1)
                    have hget2 : (curG g T (u + 1))[u]? = some ((nth T u).tdiv g) := by rw [nth_some (by rw [hcl2]; exact huT), curG_new g T u huT]
                    have htb := tb _ (hT u (by omega)).2.2.2
                    simp -implicitDefEqProofs -dsimp +contextual [-Bool.exists_bool, -Int.not_le, -Int.not_lt, -getElem?_pos, -List.getD_eq_getElem?_getD, huj, hget, hg0, hcl, hTl, hu1, htb, hset2, hget2]
                    refine ⟨Quiet.of [] (by kernel_rfl) (by simp [-Bool.exists_bool, -Int.not_le, -Int.not_lt, -getElem?_pos, -List.getD_eq_getElem?_getD, allP, offB]), fun hft => ?_, fun hft => ?_⟩
                    · refine CallJ.pure (IsNumber ((nth T u).tdiv g)) rfl (by simp [-Bool.exists_bool, -Int.not_le, -Int.not_lt, -getElem?_pos, -List.getD_eq_getElem?_getD]) ?_
                      simp -implicitDefEqProofs -dsimp +contextual [-Bool.exists_bool, -Int.not_le, -Int.not_lt, -getElem?_pos, -List.getD_eq_getElem?_getD, huj, hft]
                      refine ⟨u + 1, isNum ((nth T u).tdiv g), ⟨huj, ?_⟩, by omega, ?_⟩
                      · rw [dv_take g T u huT, ← Bool.and_assoc, ← hf2, hft]; simp [-Bool.exists_bool, -Int.not_le, -Int.not_lt, -getElem?_pos, -List.getD_eq_getElem?_getD]
                      · rw [wr (x := (u : Int) + 1) (by omega) (by omega)]
                        refine Le.told [] ?_ ?_ ?_ <;> simp [-Bool.exists_bool, -Int.not_le, -Int.not_lt, -getElem?_pos, -List.getD_eq_getElem?_getD]
                    · refine ⟨u + 1, false, ⟨huj, ?_⟩, by omega, ?_⟩
                      · rw [dv_take g T u huT, ← Bool.and_assoc, ← hf2, hft]; simp [-Bool.exists_bool, -Int.not_le, -Int.not_lt, -getElem?_pos, -List.getD_eq_getElem?_getD]
                      · rw [wr (x := (u : Int) + 1) (by omega) (by omega)]
                        refine Le.told [] ?_ ?_ ?_ <;> simp [-Bool.exists_bool, -Int.not_le, -Int.not_lt, -getElem?_pos, -List.getD_eq_getElem?_getD]
                  · obtain rfl : u = j := by omega
                    have hTe : curG g T u = dv g T := by rw [← hTl, curG_end]
                    have hf2e : f2 = (isNum K' && ((dv g S).all isNum && (dv g T).all isNum)) := by
                      rw [hf2, hfe, List.take_of_length_le (by simp [-Bool.exists_bool, -Int.not_le, -Int.not_lt, -getElem?_pos, -List.getD_eq_getElem?_getD, dv]; omega), Bool.and_assoc]
                    have hdS : (dv g S).length = v := by simp [-Bool.exists_bool, -Int.not_le, -Int.not_lt, -getElem?_pos, -List.getD_eq_getElem?_getD, dv, hSl]
                    have hdT : (dv g T).length = u := by simp [-Bool.exists_bool, -Int.not_le, -Int.not_lt, -getElem?_pos, -List.getD_eq_getElem?_getD, dv, hTl]
                    simp -implicitDefEqProofs -dsimp +contextual [-Bool.exists_bool, -Int.not_le, -Int.not_lt, -getElem?_pos, -List.getD_eq_getElem?_getD, huj]
                    rw [← hf2e]
                    exact RLe.pure 3 (by simp [-Bool.exists_bool, -Int.not_le, -Int.not_lt, -getElem?_pos, -List.getD_eq_getElem?_getD, setH, hTe, hdS, hdT])
end Go.Proofs.Ytjknjekemolndaa.ZL
namespace Go.Proofs.Ytjknjekemolndaa.ZL
open Go Go.Proofs.Ytjknjekemolndaa.Abs Go.Proofs.Ytjknjekemolndaa.Abs.Pl Go.RowKit Go.Proofs
set_option linter.unusedVariables false
set_option linter.unusedSimpArgs false
set_option maxRecDepth 100000
def qD (x : Cb) : List D := [.sl x.s.length (x.s.map (D.int .i64)), .int .i64 x.k, .bool x.st, .sl x.t.length (x.t.map (D.int .i64))]
def qsD (L : List Cb) : List D := L.flatMap qD
abbrev Ql (L : List Cb) : V := .d (.sl L.length (qsD L))
theorem qsD_len (L : List Cb) : (qsD L).length = L.length * 4 := by induction L with
  | nil => rfl
  | cons a L ih => simp [-Bool.exists_bool, -Int.not_le, -Int.not_lt, -getElem?_pos, -List.getD_eq_getElem?_getD, qsD, qD] at *; omega
theorem qsD_dropE (L : List Cb) : ∀ i, (qsD L).drop (i * 4) = qsD (L.drop i) := by
  induction L with
  | nil => intro i; simp [-Bool.exists_bool, -Int.not_le, -Int.not_lt, -getElem?_pos, -List.getD_eq_getElem?_getD, qsD]
  | cons a L ih =>
    intro i
    cases i with
    | zero => simp [-Bool.exists_bool, -Int.not_le, -Int.not_lt, -getElem?_pos, -List.getD_eq_getElem?_getD, qsD]
    | succ i =>
      have := ih i
      rw [show (i + 1) * 4 = 4 + i * 4 by omega, ← List.drop_drop]
      simpa [-Bool.exists_bool, -Int.not_le, -Int.not_lt, -getElem?_pos, -List.getD_eq_getElem?_getD, qsD, qD] using this
theorem qsD_take (L : List Cb) : ∀ i, (qsD L).take (i * 4) = qsD (L.take i) := by
  induction L with
  | nil => intro i; simp [-Bool.exists_bool, -Int.not_le, -Int.not_lt, -getElem?_pos, -List.getD_eq_getElem?_getD, qsD]
  | cons a L ih =>
    intro i
    cases i with
    | zero => simp [-Bool.exists_bool, -Int.not_le, -Int.not_lt, -getElem?_pos, -List.getD_eq_getElem?_getD, qsD]
    | succ i =>
      have := ih i
      rw [show (i + 1) * 4 = 4 + i * 4 by omega, List.take_add]
      simp [-Bool.exists_bool, -Int.not_le, -Int.not_lt, -getElem?_pos, -List.getD_eq_getElem?_getD, qsD, qD] at this ⊢
      exact this
theorem qsD_cons (a : Cb) (L : List Cb) : qsD (a :: L) = qD a ++ qsD L := by simp [-Bool.exists_bool, -Int.not_le, -Int.not_lt, -getElem?_pos, -List.getD_eq_getElem?_getD, qsD]
theorem qsD_append (L M : List Cb) : qsD (L ++ M) = qsD L ++ qsD M := by simp [-Bool.exists_bool, -Int.not_le, -Int.not_lt, -getElem?_pos, -List.getD_eq_getElem?_getD, qsD]
theorem qsD_nth (L : List Cb) (i : Nat) (h : i < L.length) : (qsD L).drop (i * 4) = qD (nth L i) ++ qsD (L.drop (i + 1)) := by rw [qsD_dropE, nth_drop h, qsD_cons]
theorem qsD_get (L : List Cb) (i : Nat) (h : i < L.length) (j : Nat) (hj : j < 4) : (qsD L)[i * 4 + j]? = (qD (nth L i))[j]? := by
  have := qsD_nth L i h
  have e : (qsD L)[i * 4 + j]? = ((qsD L).drop (i * 4))[j]? := by simp [-Bool.exists_bool, -Int.not_le, -Int.not_lt, -getElem?_pos, -List.getD_eq_getElem?_getD]
  rw [e, this, List.getElem?_append_left (by simp [-Bool.exists_bool, -Int.not_le, -Int.not_lt, -getElem?_pos, -List.getD_eq_getElem?_getD, qD]; omega)]
theorem qsD_get0 (L : List Cb) (i : Nat) (h : i < L.length) : (qsD L)[i * 4]? = some (.sl (nth L i).s.length ((nth L i).s.map (D.int .i64))) := qsD_get L i h 0 (by omega)
theorem qsD_get1 (L : List Cb) (i : Nat) (h : i < L.length) : (qsD L)[i * 4 + 1]? = some (.int .i64 (nth L i).k) := qsD_get L i h 1 (by omega)
theorem qsD_get2 (L : List Cb) (i : Nat) (h : i < L.length) : (qsD L)[i * 4 + 2]? = some (.bool (nth L i).st) := qsD_get L i h 2 (by omega)
theorem qsD_get3 (L : List Cb) (i : Nat) (h : i < L.length) : (qsD L)[i * 4 + 3]? = some (.sl (nth L i).t.length ((nth L i).t.map (D.int .i64))) := qsD_get L i h 3 (by omega)
theorem qsD_cutD (L : List Cb) (i : Nat) (h : i < L.length) : (qsD (L.drop i)).take 4 = qD (nth L i) := by rw [← qsD_dropE, qsD_nth L i h]; simp [-Bool.exists_bool, -Int.not_le, -Int.not_lt, -getElem?_pos, -List.getD_eq_getElem?_getD, qD]
theorem dl_qD (x : Cb) : dl (qD x) = cbL x := rfl
theorem qsD_roomD (L : List Cb) (i : Nat) (h : i < L.length) : (i * 4 + 4 ≤ L.length * 4) = True := by simp [-Bool.exists_bool, -Int.not_le, -Int.not_lt, -getElem?_pos, -List.getD_eq_getElem?_getD]; omega
theorem qsD_nil : qsD [] = [] := rfl
attribute [simp] qsD_get0 qsD_get1 qsD_get2 qsD_get3 qsD_cutD dl_qD qsD_take qsD_dropE qsD_len qsD_roomD qsD_nil
def jIn (v : Nat) (a : Cb) : List Cb → List Cb → Option (List Cb)
  | [], acc => some acc
  | b :: bs, acc => if 0 ≤ nth b.s v then jIn v a bs acc else
      if (joinC a (-(nth b.s v)) b (nth a.s v)).2 = false ∨ 64 ≤ acc.length then none else jIn v a bs (acc ++ [(joinC a (-(nth b.s v)) b (nth a.s v)).1])
def jOut (v : Nat) (l : List Cb) : List Cb → List Cb → Option (List Cb)
  | [], acc => some acc
  | a :: T, acc => if nth a.s v ≤ 0 then jOut v l T acc else (jIn v a l acc).bind (jOut v l T)
def freeS (v : Nat) (x : Cb) : Bool := decide (nth x.s v = 0)
def jdrop (v : Nat) (l : List Cb) : Option (List Cb) := jOut v l l (l.filter (freeS v))
def jall : Nat → List Cb → Option (List Cb)
  | 0, l => some l
  | v + 1, l => (jdrop v l).bind (jall v)
def uniC (L : List At) (i : Nat) : Cb := ⟨(nth L i).1, (nth L i).2.1, (nth L i).2.2, unit L.length i⟩
def iniC (L : List At) (n : Nat) : List Cb := (List.range n).map (uniC L)
def hitS (x : Cb) : Bool := decide (0 < x.k) || (decide (x.k = 0) && x.st)
def findS : List Cb → List Int × Bool
  | [] => ([], false)
  | x :: xs => if hitS x = true then (x.t, true) else findS xs
def refS (d : Int) (L : List At) : List Int × Bool := if isCe d L = true then (match jall d.toNat (iniC L L.length) with
  | none => ([], false)
  | some l => findS l) else ([], false)
theorem joinC_ok {d n : Nat} {a b : Cb} {p q : Int} (ha : okQ d n a) (hb : okQ d n b) (h : (joinC a p b q).2 = true) : okQ d n (joinC a p b q).1 := by
  unfold joinC at h
  simp only [Bool.and_eq_true, List.all_eq_true] at h
  refine ⟨⟨?_, h.2.1⟩, h.1, ⟨?_, h.2.2⟩⟩
  · simp [-Bool.exists_bool, -Int.not_le, -Int.not_lt, -getElem?_pos, -List.getD_eq_getElem?_getD, joinC, dv, joinS, mixL, ha.s.1, hb.s.1]
  · simp [-Bool.exists_bool, -Int.not_le, -Int.not_lt, -getElem?_pos, -List.getD_eq_getElem?_getD, joinC, dv, joinT, mixL, ha.t.1, hb.t.1]
def okBs (d n : Nat) (l : List Cb) : Prop := l.length ≤ 64 ∧ ∀ x ∈ l, okQ d n x
theorem jIn_ok {d n v : Nat} {a : Cb} (ha : okQ d n a) : ∀ {bs acc z : List Cb}, (∀ b ∈ bs, okQ d n b) → okBs d n acc → jIn v a bs acc = some z → okBs d n z
  | [], acc, z, _, h, e => by obtain rfl := Option.some.inj e; exact h
  | b :: bs, acc, z, hb, h, e => by
    unfold jIn at e
    have hb' : ∀ x ∈ bs, okQ d n x := fun x hx => hb x (by simp [-Bool.exists_bool, -Int.not_le, -Int.not_lt, -getElem?_pos, -List.getD_eq_getElem?_getD, hx])
    split at e
    · exact jIn_ok ha hb' h e
    · split at e
      · cases e
      · rename_i hno
        have h1 : (joinC a (-(nth b.s v)) b (nth a.s v)).2 = true := by
          cases hq : (joinC a (-(nth b.s v)) b (nth a.s v)).2 with
          | true => rfl
          | false => exact absurd (.inl hq) hno
        have h2 : ¬ 64 ≤ acc.length := fun hh => hno (.inr hh)
        refine jIn_ok ha hb' ⟨by simp [-Bool.exists_bool, -Int.not_le, -Int.not_lt, -getElem?_pos, -List.getD_eq_getElem?_getD]; omega, fun x hx => ?_⟩ e
        rcases List.mem_append.1 hx with hx | hx
        · exact h.2 x hx
        · rw [List.mem_singleton.1 hx]; exact joinC_ok ha (hb b (by simp [-Bool.exists_bool, -Int.not_le, -Int.not_lt, -getElem?_pos, -List.getD_eq_getElem?_getD])) h1
theorem jOut_ok {d n v : Nat} {l : List Cb} (hl : ∀ a ∈ l, okQ d n a) : ∀ {T acc z : List Cb}, (∀ b ∈ T, okQ d n b) → okBs d n acc → jOut v l T acc = some z → okBs d n z
  | [], acc, z, _, h, e => by obtain rfl := Option.some.inj e; exact h
  | a :: T, acc, z, hb, h, e => by
    unfold jOut at e
    have hb' : ∀ x ∈ T, okQ d n x := fun x hx => hb x (by simp [-Bool.exists_bool, -Int.not_le, -Int.not_lt, -getElem?_pos, -List.getD_eq_getElem?_getD, hx])
    split at e
    · exact jOut_ok hl hb' h e
    · obtain ⟨y, e1, e2⟩ := Option.bind_eq_some_iff.1 e
      exact jOut_ok hl hb' (jIn_ok (hb a (by simp [-Bool.exists_bool, -Int.not_le, -Int.not_lt, -getElem?_pos, -List.getD_eq_getElem?_getD])) hl h e1) e2
theorem jdrop_ok {d n v : Nat} {l z : List Cb} (hl : okBs d n l) (e : jdrop v l = some z) : okBs d n z :=
  jOut_ok hl.2 hl.2 ⟨by have := List.length_filter_le (freeS v) l; have := hl.1; omega, fun b hb => hl.2 b (List.mem_filter.1 hb).1⟩ e
theorem uniC_ok {L : List At} {i D : Nat} (hL : allOk D L) (h : i < L.length) : okQ D L.length (uniC L i) := by
  have ho := hL _ (nth_mem h)
  have hnu := okA_num ho
  have := (iniF_ok hL h).2
  refine ⟨⟨by have := ho.2; show (nth L i).1.length = D; omega, hnu.1⟩, hnu.2.1, ⟨unit_len _ _, fun y hy => this y ?_⟩⟩
  unfold iniF
  exact List.mem_append_right _ (List.mem_cons_of_mem _ hy)
end Go.Proofs.Ytjknjekemolndaa.ZL
namespace Go.Proofs.Ytjknjekemolndaa.ZL
open Go Go.Proofs.Ytjknjekemolndaa.Abs Go.Proofs.Ytjknjekemolndaa.Abs.Pl Go.RowKit Go.Proofs
set_option linter.unusedVariables false
set_option linter.unusedSimpArgs false
set_option maxRecDepth 100000
theorem RefuteCell (d : Int) (L : List At) (h20 : L.length ≤ 1048576) : Cn Try.prog 30 [C1 d L] (.tup [Is (refS d L).1, B (refS d L).2]) hemp := by
  refine Cn.of [0] mixed Try.func30 rfl Try.call30 (by kernel_rfl) rfl ?_
  simp -implicitDefEqProofs -dsimp +contextual [-Bool.exists_bool, -Int.not_le, -Int.not_lt, -getElem?_pos, -List.getD_eq_getElem?_getD, Try.f30]
  by_cases hc : isCe d L = true
  rotate_left
  · have hcf : isCe d L = false := by simpa [-Bool.exists_bool, -Int.not_le, -Int.not_lt, -getElem?_pos, -List.getD_eq_getElem?_getD] using hc
    rw [refS, if_neg hc]
    refine WP.loop mixed [0] (fun i : Nat => ⟨tl [(1, .ptr (0, 0) 0), (4, .nil), (5, I 0)], Abs.hl [((0, 0), .box [I d, As L])], 1⟩) (fun i => i = 0) (fun i => 0 - i) 0 (by kernel_rfl) ?_ ?_ ?_
    · refine Le.told [] ?_ ?_ ?_ <;> simp [-Bool.exists_bool, -Int.not_le, -Int.not_lt, -getElem?_pos, -List.getD_eq_getElem?_getD]
    · rfl
    · rintro i rfl
      simp -implicitDefEqProofs -dsimp +contextual [-Bool.exists_bool, -Int.not_le, -Int.not_lt, -getElem?_pos, -List.getD_eq_getElem?_getD]
      refine ⟨fun h0 => ?_, fun h0 => ?_⟩
      · refine CallJ.pure (IsCell d L h20) rfl (by simp [-Bool.exists_bool, -Int.not_le, -Int.not_lt, -getElem?_pos, -List.getD_eq_getElem?_getD]) ?_
        simp -implicitDefEqProofs -dsimp +contextual [-Bool.exists_bool, -Int.not_le, -Int.not_lt, -getElem?_pos, -List.getD_eq_getElem?_getD, hcf, h0]
        refine WP.loop mixed [0] (fun i : Nat => ⟨tl [(1, .ptr (0, 0) 0), (4, .nil), (7, I (IntKind.wrap .i64 (d - 1)))], Abs.hl [((0, 0), .box [I d, As L])], 1⟩) (fun i => i = 0) (fun i => 0 - i) 0 (by kernel_rfl) ?_ ?_ ?_
        · refine Le.told [] ?_ ?_ ?_ <;> simp [-Bool.exists_bool, -Int.not_le, -Int.not_lt, -getElem?_pos, -List.getD_eq_getElem?_getD]
        · rfl
        · rintro i rfl
          simp -implicitDefEqProofs -dsimp +contextual [-Bool.exists_bool, -Int.not_le, -Int.not_lt, -getElem?_pos, -List.getD_eq_getElem?_getD]
          refine ⟨fun h1 => ?_, fun h1 => ?_⟩
          · refine CallJ.pure (IsCell d L h20) rfl (by simp [-Bool.exists_bool, -Int.not_le, -Int.not_lt, -getElem?_pos, -List.getD_eq_getElem?_getD]) ?_
            simp -implicitDefEqProofs -dsimp +contextual [-Bool.exists_bool, -Int.not_le, -Int.not_lt, -getElem?_pos, -List.getD_eq_getElem?_getD, hcf, h1]
            refine WP.loop mixed [0] (fun i : Nat => ⟨tl [(1, .ptr (0, 0) 0), (4, .nil), (14, I 0)], Abs.hl [((0, 0), .box [I d, As L])], 1⟩) (fun i => i = 0) (fun i => 0 - i) 0 (by kernel_rfl) ?_ ?_ ?_
            · refine Le.told [] ?_ ?_ ?_ <;> simp [-Bool.exists_bool, -Int.not_le, -Int.not_lt, -getElem?_pos, -List.getD_eq_getElem?_getD]
            · rfl
            · rintro i rfl
              simp -implicitDefEqProofs -dsimp +contextual [-Bool.exists_bool, -Int.not_le, -Int.not_lt, -getElem?_pos, -List.getD_eq_getElem?_getD]
              exact RLe.pure 2 (by simp [-Bool.exists_bool, -Int.not_le, -Int.not_lt, -getElem?_pos, -List.getD_eq_getElem?_getD])
          · refine WP.loop mixed [0] (fun i : Nat => ⟨tl [(1, .ptr (0, 0) 0), (4, .nil), (14, I 0)], Abs.hl [((0, 0), .box [I d, As L])], 1⟩) (fun i => i = 0) (fun i => 0 - i) 0 (by kernel_rfl) ?_ ?_ ?_
            · refine Le.told [] ?_ ?_ ?_ <;> simp [-Bool.exists_bool, -Int.not_le, -Int.not_lt, -getElem?_pos, -List.getD_eq_getElem?_getD]
            · rfl
            · rintro i rfl
              simp -implicitDefEqProofs -dsimp +contextual [-Bool.exists_bool, -Int.not_le, -Int.not_lt, -getElem?_pos, -List.getD_eq_getElem?_getD]
              exact RLe.pure 2 (by simp [-Bool.exists_bool, -Int.not_le, -Int.not_lt, -getElem?_pos, -List.getD_eq_getElem?_getD])
      · refine WP.loop mixed [0] (fun i : Nat => ⟨tl [(1, .ptr (0, 0) 0), (4, .nil), (7, I (IntKind.wrap .i64 (d - 1)))], Abs.hl [((0, 0), .box [I d, As L])], 1⟩) (fun i => i = 0) (fun i => 0 - i) 0 (by kernel_rfl) ?_ ?_ ?_
        · refine Le.told [] ?_ ?_ ?_ <;> simp [-Bool.exists_bool, -Int.not_le, -Int.not_lt, -getElem?_pos, -List.getD_eq_getElem?_getD]
        · rfl
        · rintro i rfl
          simp -implicitDefEqProofs -dsimp +contextual [-Bool.exists_bool, -Int.not_le, -Int.not_lt, -getElem?_pos, -List.getD_eq_getElem?_getD]
          refine ⟨fun h1 => ?_, fun h1 => ?_⟩
          · refine CallJ.pure (IsCell d L h20) rfl (by simp [-Bool.exists_bool, -Int.not_le, -Int.not_lt, -getElem?_pos, -List.getD_eq_getElem?_getD]) ?_
            simp -implicitDefEqProofs -dsimp +contextual [-Bool.exists_bool, -Int.not_le, -Int.not_lt, -getElem?_pos, -List.getD_eq_getElem?_getD, hcf, h1]
            refine WP.loop mixed [0] (fun i : Nat => ⟨tl [(1, .ptr (0, 0) 0), (4, .nil), (14, I 0)], Abs.hl [((0, 0), .box [I d, As L])], 1⟩) (fun i => i = 0) (fun i => 0 - i) 0 (by kernel_rfl) ?_ ?_ ?_
            · refine Le.told [] ?_ ?_ ?_ <;> simp [-Bool.exists_bool, -Int.not_le, -Int.not_lt, -getElem?_pos, -List.getD_eq_getElem?_getD]
            · rfl
            · rintro i rfl
              simp -implicitDefEqProofs -dsimp +contextual [-Bool.exists_bool, -Int.not_le, -Int.not_lt, -getElem?_pos, -List.getD_eq_getElem?_getD]
              exact RLe.pure 2 (by simp [-Bool.exists_bool, -Int.not_le, -Int.not_lt, -getElem?_pos, -List.getD_eq_getElem?_getD])
          · refine WP.loop mixed [0] (fun i : Nat => ⟨tl [(1, .ptr (0, 0) 0), (4, .nil), (14, I 0)], Abs.hl [((0, 0), .box [I d, As L])], 1⟩) (fun i => i = 0) (fun i => 0 - i) 0 (by kernel_rfl) ?_ ?_ ?_
            · refine Le.told [] ?_ ?_ ?_ <;> simp [-Bool.exists_bool, -Int.not_le, -Int.not_lt, -getElem?_pos, -List.getD_eq_getElem?_getD]
            · rfl
            · rintro i rfl
              simp -implicitDefEqProofs -dsimp +contextual [-Bool.exists_bool, -Int.not_le, -Int.not_lt, -getElem?_pos, -List.getD_eq_getElem?_getD]
              exact RLe.pure 2 (by simp [-Bool.exists_bool, -Int.not_le, -Int.not_lt, -getElem?_pos, -List.getD_eq_getElem?_getD])
  have hd := isCe_d hc
  have h16 := isCe_l hc
  have hok := isCe_a hc
  obtain ⟨Dn, rfl⟩ : ∃ n : Nat, d = n := ⟨d.toNat, by omega⟩
  have e0 : refS Dn L = (match jall Dn (iniC L L.length) with
      | none => ([], false)
      | some l => findS l) := by
    unfold refS
    rw [if_pos hc, Int.toNat_natCast]
    try rfl
  refine WP.loop mixed [0] (fun i : Nat => ⟨tl [(1, .ptr (0, 0) 0), (4, .ref (1, 0) i), (5, I i)], Abs.hl [((0, 0), .box [I Dn, As L]), ((1, 0), .row 92 i (dl (qsD (iniC L i))))], 2⟩) (fun i => i ≤ L.length) (fun i => L.length - i) 0 (by kernel_rfl) ?_ ?_ ?_
  · refine Le.trans (Le.nil 4 92 (by simp [-Bool.exists_bool, -Int.not_le, -Int.not_lt, -getElem?_pos, -List.getD_eq_getElem?_getD])) (Le.told [((1, 0), (6, 0))] ?_ ?_ ?_) <;> simp [-Bool.exists_bool, -Int.not_le, -Int.not_lt, -getElem?_pos, -List.getD_eq_getElem?_getD, setH, iniC]
  · simp [-Bool.exists_bool, -Int.not_le, -Int.not_lt, -getElem?_pos, -List.getD_eq_getElem?_getD]
  · intro i hi
    by_cases h : i < L.length
    · simp -implicitDefEqProofs -dsimp +contextual [-Bool.exists_bool, -Int.not_le, -Int.not_lt, -getElem?_pos, -List.getD_eq_getElem?_getD, h]
      refine CallJ.pure (IsCell Dn L h20) rfl (by simp [-Bool.exists_bool, -Int.not_le, -Int.not_lt, -getElem?_pos, -List.getD_eq_getElem?_getD]) ?_
      simp -implicitDefEqProofs -dsimp +contextual [-Bool.exists_bool, -Int.not_le, -Int.not_lt, -getElem?_pos, -List.getD_eq_getElem?_getD, h, hc]
      have h1 : i + 1 ≤ L.length := h
      have hmin : min i L.length = i := by omega
      refine ⟨⟨by omega, by simp [-Bool.exists_bool, -Int.not_le, -Int.not_lt, -getElem?_pos, -List.getD_eq_getElem?_getD, maxLen]; omega⟩, ?_⟩
      have hU : List.replicate i (D.int IntKind.i64 0) ++ D.int IntKind.i64 1 :: List.replicate (L.length - (i + 1)) (D.int IntKind.i64 0) = (unit L.length i).map (D.int .i64) := by
        unfold unit
        rw [List.map_set, List.map_replicate, List.set_eq_take_append_cons_drop, if_pos (by simp [-Bool.exists_bool, -Int.not_le, -Int.not_lt, -getElem?_pos, -List.getD_eq_getElem?_getD]; exact h)]
        simp [-Bool.exists_bool, -Int.not_le, -Int.not_lt, -getElem?_pos, -List.getD_eq_getElem?_getD, hmin]
      simp -implicitDefEqProofs -dsimp +contextual [-Bool.exists_bool, -Int.not_le, -Int.not_lt, -getElem?_pos, -List.getD_eq_getElem?_getD, h, hc, h1, hmin, hU]
      have ho := hok _ (nth_mem h)
      have hcl : (nth L i).1.length = Dn := by have := ho.2; omega
      refine ⟨⟨by omega, by simp [-Bool.exists_bool, -Int.not_le, -Int.not_lt, -getElem?_pos, -List.getD_eq_getElem?_getD, maxLen]; omega⟩, ⟨by omega, by simp [-Bool.exists_bool, -Int.not_le, -Int.not_lt, -getElem?_pos, -List.getD_eq_getElem?_getD, maxLen]; omega⟩, Quiet.of [] (by kernel_rfl) (by simp [-Bool.exists_bool, -Int.not_le, -Int.not_lt, -getElem?_pos, -List.getD_eq_getElem?_getD, allP, offB]), i + 1, h, by omega, ?_⟩
      rw [wr (x := (i : Int) + 1) (by omega) (by omega)]
      have hul := unit_len L.length i
      have hi1 : dl (qsD (iniC L (i + 1))) = dl (qsD (iniC L i)) ++ [V.d (.sl (nth L i).1.length ((nth L i).1.map (D.int .i64))), I (nth L i).2.1, B (nth L i).2.2, V.d (.sl L.length ((unit L.length i).map (D.int .i64)))] := by
        unfold iniC
        rw [List.range_succ, List.map_append, qsD_append]
        unfold dl
        rw [List.map_append]
        simp [-Bool.exists_bool, -Int.not_le, -Int.not_lt, -getElem?_pos, -List.getD_eq_getElem?_getD, qsD, qD, uniC, hul]
      refine Le.trans (S' := ⟨tl [(1, .ptr (0, 0) 0), (4, .ref (1, 0) (i + 1)), (5, I ((i : Int) + 1))], Abs.hl [((0, 0), .box [I Dn, As L]), ((1, 0), .row 92 (i + 1) (dl (qsD (iniC L i)) ++ [.ref (2, 0) (nth L i).1.length, I (nth L i).2.1, B (nth L i).2.2, .ref (3, 0) L.length])), ((2, 0), .fz (nth L i).1.length ((nth L i).1.map (D.int .i64))), ((3, 0), .fz L.length ((unit L.length i).map (D.int .i64)))], 4⟩) (Le.told [((1, 0), (44, 0)), ((2, 0), (28, 0)), ((3, 0), (14, 0))] ?_ ?_ ?_) (Le.told [] ?_ ?_ ?_)
      all_goals simp [-Bool.exists_bool, -Int.not_le, -Int.not_lt, -getElem?_pos, -List.getD_eq_getElem?_getD]
      · exact VLes_app (VLes_refl_d _ _ _ _) (by simp [-Bool.exists_bool, -Int.not_le, -Int.not_lt, -getElem?_pos, -List.getD_eq_getElem?_getD, VLes, VLe])
      · rw [hi1]
        exact VLes_app (VLes_refl_d _ _ _ _) (by simp [-Bool.exists_bool, -Int.not_le, -Int.not_lt, -getElem?_pos, -List.getD_eq_getElem?_getD, VLes, VLe, asDz])
    · obtain rfl : i = L.length := by omega
      have hlok : okBs Dn L.length (iniC L L.length) := by
        refine ⟨by simp [-Bool.exists_bool, -Int.not_le, -Int.not_lt, -getElem?_pos, -List.getD_eq_getElem?_getD, iniC]; omega, fun x hx => ?_⟩
        obtain ⟨j, hj, rfl⟩ := List.mem_map.1 hx
        exact uniC_ok hok (List.mem_range.1 hj)
      have hil : (iniC L L.length).length = L.length := by simp [-Bool.exists_bool, -Int.not_le, -Int.not_lt, -getElem?_pos, -List.getD_eq_getElem?_getD, iniC]
      generalize iniC L L.length = l0 at *
      simp -implicitDefEqProofs -dsimp +contextual [-Bool.exists_bool, -Int.not_le, -Int.not_lt, -getElem?_pos, -List.getD_eq_getElem?_getD, h]
      refine WP.loopF mixed [0] (fun p : Nat × List Cb => ⟨tl [(1, .ptr (0, 0) 0), (4, Ql p.2), (7, I ((p.1 : Int) - 1))], Abs.hl [((0, 0), .box [I Dn, As L])], 1⟩) (fun p => p.1 ≤ Dn ∧ okBs Dn L.length p.2 ∧ jall Dn l0 = jall p.1 p.2) (fun p => p.1) (Dn, l0) (by kernel_rfl) ?_ ?_ ?_
      · rw [wr (x := (Dn : Int) - 1) (by omega) (by omega)]
        refine Le.trans (S' := ⟨tl [(1, .ptr (0, 0) 0), (4, .ref (1, 0) L.length), (7, I ((Dn : Int) - 1))], Abs.hl [((0, 0), .box [I Dn, As L]), ((1, 0), .fz L.length (qsD l0))], 2⟩) (Le.told [] ?_ ?_ ?_) (Le.told [] ?_ ?_ ?_)
        all_goals simp [-Bool.exists_bool, -Int.not_le, -Int.not_lt, -getElem?_pos, -List.getD_eq_getElem?_getD, hil]
      · exact ⟨Nat.le_refl _, hlok, rfl⟩
      · clear hlok hil
        rintro ⟨m, l⟩ ⟨hm, hl, he⟩
        simp only at hm hl he
        refine ⟨_, Le.refl _ _ _, ?_⟩
        cases m with
        | zero =>
          rw [jall] at he
          rw [he] at e0
          have e0 : refS Dn L = findS l := e0
          simp -implicitDefEqProofs -dsimp +contextual [-Bool.exists_bool, -Int.not_le, -Int.not_lt, -getElem?_pos, -List.getD_eq_getElem?_getD]
          have hl64 := hl.1
          refine WP.loop mixed [0] (fun i : Nat => ⟨tl [(1, .ptr (0, 0) 0), (4, Ql l), (14, I i)], Abs.hl [((0, 0), .box [I Dn, As L])], 1⟩) (fun i => i ≤ l.length ∧ findS l = findS (l.drop i)) (fun i => l.length - i) 0 (by kernel_rfl) ?_ ?_ ?_
          · refine Le.told [] ?_ ?_ ?_ <;> simp [-Bool.exists_bool, -Int.not_le, -Int.not_lt, -getElem?_pos, -List.getD_eq_getElem?_getD]
          · exact ⟨Nat.zero_le _, by simp [-Bool.exists_bool, -Int.not_le, -Int.not_lt, -getElem?_pos, -List.getD_eq_getElem?_getD]⟩
          · rintro i ⟨hi, hef⟩
            by_cases h : i < l.length
            · simp -implicitDefEqProofs -dsimp +contextual [-Bool.exists_bool, -Int.not_le, -Int.not_lt, -getElem?_pos, -List.getD_eq_getElem?_getD, h]
              refine CallJ.pure (IsCell Dn L h20) rfl (by simp [-Bool.exists_bool, -Int.not_le, -Int.not_lt, -getElem?_pos, -List.getD_eq_getElem?_getD]) ?_
              simp -implicitDefEqProofs -dsimp +contextual [-Bool.exists_bool, -Int.not_le, -Int.not_lt, -getElem?_pos, -List.getD_eq_getElem?_getD, h, hc]
              rw [nth_drop h, findS] at hef
              rw [e0]
              generalize nth l i = x at hef ⊢
              unfold hitS at hef
              refine ⟨fun h1 => ?_, fun h1 => ?_⟩
              · simp [-Bool.exists_bool, -Int.not_le, -Int.not_lt, -getElem?_pos, -List.getD_eq_getElem?_getD, h1] at hef
                rw [hef]
                exact RLe.pure 2 (by simp [-Bool.exists_bool, -Int.not_le, -Int.not_lt, -getElem?_pos, -List.getD_eq_getElem?_getD])
              · refine ⟨fun h2 => ⟨fun h3 => ?_, fun h3 => ?_⟩, fun h2 => ?_⟩
                · simp [-Bool.exists_bool, -Int.not_le, -Int.not_lt, -getElem?_pos, -List.getD_eq_getElem?_getD, h1, h2, h3] at hef
                  rw [hef]
                  exact RLe.pure 2 (by simp [-Bool.exists_bool, -Int.not_le, -Int.not_lt, -getElem?_pos, -List.getD_eq_getElem?_getD])
                all_goals
                  first
                  | simp [-Bool.exists_bool, -Int.not_le, -Int.not_lt, -getElem?_pos, -List.getD_eq_getElem?_getD, h1, h2, h3] at hef
                  | simp [-Bool.exists_bool, -Int.not_le, -Int.not_lt, -getElem?_pos, -List.getD_eq_getElem?_getD, h1, h2] at hef
                  refine ⟨i + 1, ⟨h, hef⟩, by omega, ?_⟩
                  rw [wr (by omega) (by omega)]
                  refine Le.told [] ?_ ?_ ?_ <;> simp [-Bool.exists_bool, -Int.not_le, -Int.not_lt, -getElem?_pos, -List.getD_eq_getElem?_getD]
            · rw [drop_nil (by omega), findS] at hef
              simp -implicitDefEqProofs -dsimp +contextual [-Bool.exists_bool, -Int.not_le, -Int.not_lt, -getElem?_pos, -List.getD_eq_getElem?_getD, h]
              rw [e0, hef]
              exact RLe.pure 2 (by simp [-Bool.exists_bool, -Int.not_le, -Int.not_lt, -getElem?_pos, -List.getD_eq_getElem?_getD])
        | succ v =>
          have e1 : ((v + 1 : Nat) : Int) - 1 = (v : Int) := by omega
          rw [e1]
          rw [jall] at he
          simp -implicitDefEqProofs -dsimp +contextual [-Bool.exists_bool, -Int.not_le, -Int.not_lt, -getElem?_pos, -List.getD_eq_getElem?_getD]
          refine CallJ.pure (IsCell Dn L h20) rfl (by simp [-Bool.exists_bool, -Int.not_le, -Int.not_lt, -getElem?_pos, -List.getD_eq_getElem?_getD]) ?_
          have hl64 := hl.1
          simp -implicitDefEqProofs -dsimp +contextual [-Bool.exists_bool, -Int.not_le, -Int.not_lt, -getElem?_pos, -List.getD_eq_getElem?_getD, hc]
          refine WP.loop mixed [0] (fun p : Nat × List Cb => ⟨tl [(1, .ptr (0, 0) 0), (4, Ql l), (7, I v), (8, .ref (1, 0) p.2.length), (9, I p.1)], Abs.hl [((0, 0), .box [I Dn, As L]), ((1, 0), .row 92 p.2.length (dl (qsD p.2)))], 2⟩) (fun p => p.1 ≤ l.length ∧ p.2 = (l.take p.1).filter (freeS v)) (fun p => l.length - p.1) (0, []) (by kernel_rfl) ?_ ?_ ?_
          · refine Le.trans (Le.nil 8 92 (by simp [-Bool.exists_bool, -Int.not_le, -Int.not_lt, -getElem?_pos, -List.getD_eq_getElem?_getD])) (Le.told [((1, 0), (10, 0))] ?_ ?_ ?_) <;> simp [-Bool.exists_bool, -Int.not_le, -Int.not_lt, -getElem?_pos, -List.getD_eq_getElem?_getD, setH]
          · exact ⟨Nat.zero_le _, by simp [-Bool.exists_bool, -Int.not_le, -Int.not_lt, -getElem?_pos, -List.getD_eq_getElem?_getD]⟩
          · rintro ⟨i, acc⟩ ⟨hi, ha⟩
            simp only at hi ha
            have hacl : acc.length ≤ 64 := by
              rw [ha]
              have := List.length_filter_le (freeS v) (l.take i)
              have := List.length_take_le i l
              omega
            by_cases h : i < l.length
            · have hvl : v < (nth l i).s.length := by rw [(hl.2 _ (nth_mem h)).s.1]; omega
              have hta := nth_take h
              have htl : (nth l i).t.length = L.length := (hl.2 _ (nth_mem h)).t.1
              simp -implicitDefEqProofs -dsimp +contextual [-Bool.exists_bool, -Int.not_le, -Int.not_lt, -getElem?_pos, -List.getD_eq_getElem?_getD, h, hvl]
              refine ⟨fun h0 => ?_, fun h0 => ?_⟩
              · refine ⟨⟨by omega, by simp [-Bool.exists_bool, -Int.not_le, -Int.not_lt, -getElem?_pos, -List.getD_eq_getElem?_getD, maxLen]; omega⟩, i + 1, acc ++ [nth l i], ⟨h, ?_⟩, by omega, ?_⟩
                · rw [hta, List.filter_append, ← ha]
                  simp [-Bool.exists_bool, -Int.not_le, -Int.not_lt, -getElem?_pos, -List.getD_eq_getElem?_getD, freeS, h0]
                · rw [wr (x := (i : Int) + 1) (by omega) (by omega)]
                  refine Le.told [((1, 0), (21, 0))] ?_ ?_ ?_
                  all_goals simp [-Bool.exists_bool, -Int.not_le, -Int.not_lt, -getElem?_pos, -List.getD_eq_getElem?_getD]
                  rw [qsD_append]
                  simp [-Bool.exists_bool, -Int.not_le, -Int.not_lt, -getElem?_pos, -List.getD_eq_getElem?_getD, qsD, qD]
              · refine ⟨i + 1, acc, ⟨h, ?_⟩, by omega, ?_⟩
                · rw [hta, List.filter_append, ← ha]
                  simp [-Bool.exists_bool, -Int.not_le, -Int.not_lt, -getElem?_pos, -List.getD_eq_getElem?_getD, freeS, h0]
                · rw [wr (x := (i : Int) + 1) (by omega) (by omega)]
                  refine Le.told [] ?_ ?_ ?_ <;> simp [-Bool.exists_bool, -Int.not_le, -Int.not_lt, -getElem?_pos, -List.getD_eq_getElem?_getD]
            · have hal : acc = l.filter (freeS v) := by rw [ha, List.take_of_length_le (by omega)]
              have haok : ∀ b ∈ acc, okQ Dn L.length b := fun b hb => by rw [hal] at hb; exact hl.2 b (List.mem_filter.1 hb).1
              have ej : jdrop v l = jOut v l l acc := by rw [jdrop, hal]
              rw [ej] at he
              clear ha hal ej
              simp -implicitDefEqProofs -dsimp +contextual [-Bool.exists_bool, -Int.not_le, -Int.not_lt, -getElem?_pos, -List.getD_eq_getElem?_getD, h]
              refine WP.loopF mixed [0] (fun p : Nat × List Cb => ⟨tl [(1, .ptr (0, 0) 0), (4, Ql l), (7, I v), (8, .ref (1, 0) p.2.length), (10, I p.1)], Abs.hl [((0, 0), .box [I Dn, As L]), ((1, 0), .row 92 p.2.length (dl (qsD p.2)))], 2⟩) (fun p => p.1 ≤ l.length ∧ okBs Dn L.length p.2 ∧ jOut v l l acc = jOut v l (l.drop p.1) p.2) (fun p => l.length - p.1) (0, acc) (by kernel_rfl) ?_ ?_ ?_
              · refine Le.told [] ?_ ?_ ?_ <;> simp [-Bool.exists_bool, -Int.not_le, -Int.not_lt, -getElem?_pos, -List.getD_eq_getElem?_getD]
              · exact ⟨Nat.zero_le _, ⟨hacl, haok⟩, rfl⟩
              · clear hacl haok
                rintro ⟨i, ac⟩ ⟨hi, hac, hea⟩
                simp only at hi hac hea
                by_cases h : i < l.length
                · refine ⟨_, Le.refl _ _ _, ?_⟩
                  have hva : v < (nth l i).s.length := by rw [(hl.2 _ (nth_mem h)).s.1]; omega
                  have hoa := hl.2 _ (nth_mem h)
                  rw [nth_drop h, jOut] at hea
                  have hae : ∃ a, nth l i = a := ⟨_, rfl⟩
                  obtain ⟨a, hae⟩ := hae
                  rw [hae] at hva hoa hea
                  simp -implicitDefEqProofs -dsimp +contextual [-Bool.exists_bool, -Int.not_le, -Int.not_lt, -getElem?_pos, -List.getD_eq_getElem?_getD, h]
                  refine WP.loop mixed [0] (fun p : Nat × List Cb => ⟨tl [(1, .ptr (0, 0) 0), (4, Ql l), (7, I v), (8, .ref (1, 0) p.2.length), (10, I i), (11, I p.1)], Abs.hl [((0, 0), .box [I Dn, As L]), ((1, 0), .row 92 p.2.length (dl (qsD p.2)))], 2⟩) (fun p => p.1 ≤ l.length ∧ okBs Dn L.length p.2 ∧ jOut v l l acc = (if nth a.s v ≤ 0 then some p.2 else jIn v a (l.drop p.1) p.2).bind (jOut v l (l.drop (i + 1)))) (fun p => l.length - p.1) (0, ac) (by kernel_rfl) ?_ ?_ ?_
                  · refine Le.told [] ?_ ?_ ?_ <;> simp [-Bool.exists_bool, -Int.not_le, -Int.not_lt, -getElem?_pos, -List.getD_eq_getElem?_getD]
                  · refine ⟨Nat.zero_le _, hac, ?_⟩
                    rw [hea]
                    split <;> simp [-Bool.exists_bool, -Int.not_le, -Int.not_lt, -getElem?_pos, -List.getD_eq_getElem?_getD]
                  · clear hac hea
                    rintro ⟨k, a2⟩ ⟨hk, ha2, hek⟩
                    simp only at hk ha2 hek
                    by_cases hkl : k < l.length
                    · have hvb : v < (nth l k).s.length := by rw [(hl.2 _ (nth_mem hkl)).s.1]; omega
                      have hob := hl.2 _ (nth_mem hkl)
                      rw [nth_drop hkl, jIn] at hek
                      have hbe : ∃ b, nth l k = b := ⟨_, rfl⟩
                      obtain ⟨b, hbe⟩ := hbe
                      rw [hbe] at hvb hob hek
                      have na := isNum_iff.1 (hoa.s.2 _ (nth_mem hva))
                      have nb := isNum_iff.1 (hob.s.2 _ (nth_mem hvb))
                      simp -implicitDefEqProofs -dsimp +contextual [-Bool.exists_bool, -Int.not_le, -Int.not_lt, -getElem?_pos, -List.getD_eq_getElem?_getD, h, hkl, hae, hbe, hva, hvb]
                      refine ⟨fun h0 => ?_, fun h0 => ?_⟩
                      · rw [if_pos h0, Option.bind_some] at hek
                        refine ⟨k + 1, a2, ⟨hkl, ha2, ?_⟩, by omega, ?_⟩
                        · exact hek
                        · rw [wr (x := (k : Int) + 1) (by omega) (by omega)]
                          refine Le.told [] ?_ ?_ ?_ <;> simp [-Bool.exists_bool, -Int.not_le, -Int.not_lt, -getElem?_pos, -List.getD_eq_getElem?_getD]
                      · rw [if_neg h0] at hek
                        refine ⟨fun h1 => ?_, fun h1 => ?_⟩
                        · rw [if_pos h1] at hek
                          refine ⟨k + 1, a2, ⟨hkl, ha2, ?_⟩, by omega, ?_⟩
                          · exact hek
                          · rw [wr (x := (k : Int) + 1) (by omega) (by omega)]
                            refine Le.told [] ?_ ?_ ?_ <;> simp [-Bool.exists_bool, -Int.not_le, -Int.not_lt, -getElem?_pos, -List.getD_eq_getElem?_getD]
                        · rw [if_neg h1] at hek
                          rw [wr (x := -(nth b.s v)) (by omega) (by omega)]
                          have hC := l3Join Dn L.length a (-(nth b.s v)) b (nth a.s v) hoa hob (by omega) (by omega) ⟨by omega, by omega⟩ ⟨by omega, by omega⟩
                          have hCo := joinC_ok (p := -(nth b.s v)) (q := nth a.s v) hoa hob
                          generalize joinC a (-(nth b.s v)) b (nth a.s v) = z at hC hCo hek
                          obtain ⟨z, f⟩ := z
                          simp only at hC hCo hek
                          refine CallJ.pure hC rfl (by simp [-Bool.exists_bool, -Int.not_le, -Int.not_lt, -getElem?_pos, -List.getD_eq_getElem?_getD]) ?_
                          simp -implicitDefEqProofs -dsimp +contextual [-Bool.exists_bool, -Int.not_le, -Int.not_lt, -getElem?_pos, -List.getD_eq_getElem?_getD, h, hkl]
                          refine ⟨Quiet.of [] (by kernel_rfl) (by simp [-Bool.exists_bool, -Int.not_le, -Int.not_lt, -getElem?_pos, -List.getD_eq_getElem?_getD, allP, offB]), fun hf => ?_, fun hf => ?_⟩
                          · refine ⟨fun h64 => ?_, fun h64 => ?_⟩
                            · rw [if_pos (.inr (by omega)), Option.bind_none] at hek
                              rw [hek, Option.bind_none] at he
                              rw [he] at e0
                              rw [e0]
                              exact RLe.pure 2 (by simp [-Bool.exists_bool, -Int.not_le, -Int.not_lt, -getElem?_pos, -List.getD_eq_getElem?_getD])
                            · have hno : ¬ (f = false ∨ 64 ≤ a2.length) := by
                                rintro (hh | hh)
                                · rw [hf] at hh; cases hh
                                · omega
                              rw [if_neg hno] at hek
                              refine ⟨⟨by omega, by simp [-Bool.exists_bool, -Int.not_le, -Int.not_lt, -getElem?_pos, -List.getD_eq_getElem?_getD, maxLen]; omega⟩, k + 1, a2 ++ [z], ⟨hkl, ⟨by simp [-Bool.exists_bool, -Int.not_le, -Int.not_lt, -getElem?_pos, -List.getD_eq_getElem?_getD]; omega, fun b hb => ?_⟩, ?_⟩, by omega, ?_⟩
                              · rcases List.mem_append.1 hb with hb | hb
                                · exact ha2.2 b hb
                                · rw [List.mem_singleton.1 hb]; exact hCo hf
                              · simp [-Bool.exists_bool, -Int.not_le, -Int.not_lt, -getElem?_pos, -List.getD_eq_getElem?_getD, h0]; exact hek
                              · rw [wr (x := (k : Int) + 1) (by omega) (by omega)]
                                refine Le.told [((1, 0), (68, 0))] ?_ ?_ ?_
                                all_goals simp [-Bool.exists_bool, -Int.not_le, -Int.not_lt, -getElem?_pos, -List.getD_eq_getElem?_getD]
                                rw [qsD_append]
                                simp [-Bool.exists_bool, -Int.not_le, -Int.not_lt, -getElem?_pos, -List.getD_eq_getElem?_getD, qsD, qD]
                          · rw [if_pos (.inl hf), Option.bind_none] at hek
                            rw [hek, Option.bind_none] at he
                            rw [he] at e0
                            rw [e0]
                            exact RLe.pure 2 (by simp [-Bool.exists_bool, -Int.not_le, -Int.not_lt, -getElem?_pos, -List.getD_eq_getElem?_getD])
                    · rw [drop_nil (by omega), jIn] at hek
                      simp -implicitDefEqProofs -dsimp +contextual [-Bool.exists_bool, -Int.not_le, -Int.not_lt, -getElem?_pos, -List.getD_eq_getElem?_getD, h, hkl]
                      refine ⟨i + 1, a2, ⟨h, ha2, ?_⟩, by omega, ?_⟩
                      · rw [hek]; split <;> simp [-Bool.exists_bool, -Int.not_le, -Int.not_lt, -getElem?_pos, -List.getD_eq_getElem?_getD]
                      · rw [wr (x := (i : Int) + 1) (by omega) (by omega)]
                        refine Le.told [] ?_ ?_ ?_ <;> simp [-Bool.exists_bool, -Int.not_le, -Int.not_lt, -getElem?_pos, -List.getD_eq_getElem?_getD]
                · obtain rfl : i = l.length := by omega
                  rw [drop_nil (by omega), jOut] at hea
                  rw [hea, Option.bind_some] at he
                  refine ⟨⟨tl [(1, .ptr (0, 0) 0), (4, Ql l), (7, I v), (8, Ql ac), (10, I l.length)], Abs.hl [((0, 0), .box [I Dn, As L])], 1⟩, Le.trans (S' := ⟨tl [(1, .ptr (0, 0) 0), (4, Ql l), (7, I v), (8, .ref (1, 0) ac.length), (10, I l.length)], Abs.hl [((0, 0), .box [I Dn, As L]), ((1, 0), .fz ac.length (qsD ac))], 2⟩) (Le.told [] ?_ ?_ ?_) (Le.told [] ?_ ?_ ?_), ?_⟩
                  all_goals first | (simp [-Bool.exists_bool, -Int.not_le, -Int.not_lt, -getElem?_pos, -List.getD_eq_getElem?_getD]; done) | skip
                  simp -implicitDefEqProofs -dsimp +contextual [-Bool.exists_bool, -Int.not_le, -Int.not_lt, -getElem?_pos, -List.getD_eq_getElem?_getD, h]
                  refine ⟨v, ac, ⟨by omega, hac, he⟩, by omega, ?_⟩
                  rw [wr (x := (v : Int) - 1) (by omega) (by omega)]
                  refine Le.told [] ?_ ?_ ?_ <;> simp [-Bool.exists_bool, -Int.not_le, -Int.not_lt, -getElem?_pos, -List.getD_eq_getElem?_getD]
end Go.Proofs.Ytjknjekemolndaa.ZL
namespace Go.Proofs.Ytjknjekemolndaa.ZL
open Go Go.Proofs.Ytjknjekemolndaa.Abs Go.Proofs.Ytjknjekemolndaa.Abs.Pl Go.RowKit Go.Proofs
set_option linter.unusedVariables false
set_option linter.unusedSimpArgs false
theorem findF_isRef {d : Int} {L : List At} : ∀ {l : List (List Int)}, (findF d L l).2 = true → isRef d L (findF d L l).1 = true
  | [], h => by cases h
  | x :: xs, h => by
    unfold findF at h ⊢
    split
    · rename_i hx; exact hx
    · rename_i hx
      rw [if_neg hx] at h
      exact findF_isRef h
theorem refF_isRef {d : Int} {L : List At} (h : (refF d L).2 = true) : isRef d L (refF d L).1 = true := by
  unfold refF at h ⊢
  split at h
  · rename_i hc
    rw [if_pos hc]
    cases hr : rallF d.toNat (iniFs L L.length) with
    | none => rw [hr] at h; cases h
    | some l => rw [hr] at h; exact findF_isRef h
  · cases h
theorem findF_len' {d : Int} {L : List At} : ∀ {l : List (List Int)}, (findF d L l).2 = true → (findF d L l).1.length = L.length := fun h => by
  have := findF_isRef h
  unfold isRef at this
  split at this
  · rename_i hc; simp only [Bool.and_eq_true, decide_eq_true_eq] at hc; exact hc.2
  · cases this
theorem isRef_len {d : Int} {L : List At} {m : List Int} (h : isRef d L m = true) : isCe d L = true ∧ m.length = L.length := by
  unfold isRef at h
  split at h
  · rename_i hc; simpa only [Bool.and_eq_true, decide_eq_true_eq] using hc
  · cases h
theorem isRef_in {d : Int} {L : List At} {m : List Int} (h : isRef d L m = true) (p : List (Int × Int)) : (inI d L p).1 = false := by
  cases h2 : (inI d L p).2 with
  | false => exact inI_f h2
  | true =>
    cases h1 : (inI d L p).1 with
    | false => rfl
    | true => exact absurd ((inI_sat (fun i hi => xp_nth p i hi) h2).2.2.1 h1) ((isRef_unsat h).2 _)
theorem isRef_empty {d : Int} {L : List At} {m : List Int} (h : isRef d L m = true) (h2 : (emptyC d L).2 = true) : (emptyC d L).1 = true := (emptyC_sat h2).2.2 (isRef_unsat h).2
end Go.Proofs.Ytjknjekemolndaa.ZL
namespace Go.Proofs.Ytjknjekemolndaa.ZL
open Go Go.Proofs.Ytjknjekemolndaa.Abs Go.RowKit Go.Proofs
theorem dg75 : digest Try.prog 75 = some ⟨.struct [(0, 22), (1, 3), (2, 3)], 3, 40, [.nil, .d (.int .i64 0), .d (.int .i64 0)]⟩ := by kernel_rfl
attribute [simp] dg75
end Go.Proofs.Ytjknjekemolndaa.ZL
namespace Go.Proofs.Ytjknjekemolndaa.ZL
open Go Go.Proofs.Ytjknjekemolndaa.Abs Go.Proofs.Ytjknjekemolndaa.Abs.Pl Go.RowKit Go.Proofs
set_option linter.unusedVariables false
set_option linter.unusedSimpArgs false
set_option maxRecDepth 100000
abbrev Bs (cd : List Int) : V := .d (.sl cd.length (cd.map (D.int .u8)))
abbrev Cu := Nat × Int
abbrev cuL (cd : List Int) (c : Cu) : List V := [Bs cd, I c.1, I c.2]
abbrev cuE (cd : List Int) (c : Cu) : Ent := .box (cuL cd c)
abbrev cuH (cd : List Int) (c : Cu) : Store := hl [((0, 1), cuE cd c)]
def cA (k : Key) : Prop := k = (0, 1)
def byteH (h : Int) : Int := IntKind.wrap .i64 (IntKind.wrap .i64 (h * 6364136223846793005) + 1442695040888963407)
def byteX (h : Int) : Int := andI .i64 (xorI .i64 (shrI .i64 h 33) (shrI .i64 h 45)) 255
def byteF (cd : List Int) (c : Cu) : Int × Cu := if c.1 < cd.length then (andI .i64 (IntKind.wrap .i64 (byteX (byteH c.2) + IntKind.wrap .i64 (nth cd c.1))) 255, (c.1 + 1, byteH c.2)) else (byteX (byteH c.2), (c.1, byteH c.2))
theorem and255 (a : Int) : 0 ≤ andI .i64 a 255 ∧ andI .i64 a 255 ≤ 255 := by
  have h : (BitVec.ofInt 64 a &&& BitVec.ofInt 64 255).toNat ≤ 255 := by
    rw [BitVec.toNat_and]
    exact Nat.and_le_right
  have e : andI .i64 a 255 = IntKind.wrap .i64 ((BitVec.ofInt 64 a &&& BitVec.ofInt 64 255).toNat : Int) := rfl
  rw [e, wr (by omega) (by omega)]
  omega
theorem byteF_bd (cd : List Int) (c : Cu) : 0 ≤ (byteF cd c).1 ∧ (byteF cd c).1 ≤ 255 := by
  unfold byteF
  split
  · exact and255 _
  · exact and255 _
theorem byteF_cu (cd : List Int) (c : Cu) (h : c.1 ≤ cd.length) : (byteF cd c).2.1 ≤ cd.length := by
  unfold byteF
  split
  · show c.1 + 1 ≤ cd.length; omega
  · exact h
theorem l1Byte (cd : List Int) (c : Cu) (hc : c.1 ≤ cd.length) (h20 : cd.length ≤ 1048576) : Cm Try.prog 71 cA [.ptr (0, 1) 0] (cuH cd c) (I (byteF cd c).1) (cuH cd (byteF cd c).2) := by
  refine Cm.of [] mixed Try.func71 rfl Try.call71 (by kernel_rfl) rfl ?_
  simp -implicitDefEqProofs -dsimp +contextual [-Bool.exists_bool, -Int.not_le, -Int.not_lt, -getElem?_pos, -List.getD_eq_getElem?_getD, Try.f71]
  refine ⟨fun h => ?_, fun h => ?_⟩
  · have e : byteF cd c = (andI .i64 (IntKind.wrap .i64 (byteX (byteH c.2) + IntKind.wrap .i64 (nth cd c.1))) 255, (c.1 + 1, byteH c.2)) := if_pos h
    rw [e, wr (x := (c.1 : Int) + 1) (by omega) (by omega)]
    refine RLm.told ?_ ?_ ?_
    · simp [-Bool.exists_bool, -Int.not_le, -Int.not_lt, -getElem?_pos, -List.getD_eq_getElem?_getD, byteX, byteH]
    · simp [-Bool.exists_bool, -Int.not_le, -Int.not_lt, -getElem?_pos, -List.getD_eq_getElem?_getD, allK]
    · simp [-Bool.exists_bool, -Int.not_le, -Int.not_lt, -getElem?_pos, -List.getD_eq_getElem?_getD, okKey, allKE, allKs, allK, cA, byteH]
  · have e : byteF cd c = (byteX (byteH c.2), (c.1, byteH c.2)) := if_neg h
    rw [e]
    refine RLm.told ?_ ?_ ?_
    · simp [-Bool.exists_bool, -Int.not_le, -Int.not_lt, -getElem?_pos, -List.getD_eq_getElem?_getD, byteX, byteH]
    · simp [-Bool.exists_bool, -Int.not_le, -Int.not_lt, -getElem?_pos, -List.getD_eq_getElem?_getD, allK]
    · simp [-Bool.exists_bool, -Int.not_le, -Int.not_lt, -getElem?_pos, -List.getD_eq_getElem?_getD, okKey, allKE, allKs, allK, cA, byteH]
theorem callCu {N nx s f : Nat} {H : Store} {K : Eff → Prop} {cd : List Int} {c c' : Cu} {r : V} {vs : List V} (kb : Key) (h : Cm Try.prog f cA (.ptr (0, 1) 0 :: vs) (cuH cd c) r (cuH cd c')) (hv : ∀ g : Key → Key, mapL g vs = vs) (hvk : ∀ p : Key → Prop, allKs p vs) (hr : ∀ g : Key → Key, mapK g r = r)
    (hH : H kb = some (cuE cd c)) (hs : kb.1 ≠ s) (hn : kb.1 < nx) (hk : K ⟨r, [kb], [kb], up1 kb (some (cuE cd c')) noUp⟩) : CallJ Try.prog N nx s H f (.ptr kb 0 :: vs) K := by
  have hup : upMut (fun _ => kb) (fun k => if k = kb then some 0 else none) s (cuH cd c') = up1 kb (some (cuE cd c')) noUp := by
    funext k
    unfold upMut up1
    by_cases h1 : k = kb
    · subst h1
      rw [if_neg hs, if_pos rfl]
      simp [-Bool.exists_bool, -Int.not_le, -Int.not_lt, -getElem?_pos, -List.getD_eq_getElem?_getD, mapE]
    · rw [if_neg h1]
      simp [-Bool.exists_bool, -Int.not_le, -Int.not_lt, -getElem?_pos, -List.getD_eq_getElem?_getD, h1, noUp]
  rw [← hup] at hk
  refine CallJ.mut (fun _ => kb) (fun k => if k = kb then some 0 else none) [kb] [] h ?_ ?_ ?_ ?_ ?_ ?_ ?_ ?_ (by rw [hr]; simpa [-Bool.exists_bool, -Int.not_le, -Int.not_lt, -getElem?_pos, -List.getD_eq_getElem?_getD] using hk)
  · simp [-Bool.exists_bool, -Int.not_le, -Int.not_lt, -getElem?_pos, -List.getD_eq_getElem?_getD, gk, hv]
  · simp [-Bool.exists_bool, -Int.not_le, -Int.not_lt, -getElem?_pos, -List.getD_eq_getElem?_getD, allKs, allK, hvk, cA]
  · rintro k rfl; simp [-Bool.exists_bool, -Int.not_le, -Int.not_lt, -getElem?_pos, -List.getD_eq_getElem?_getD, hH]
  · intro k e h
    simp [-Bool.exists_bool, -Int.not_le, -Int.not_lt, -getElem?_pos, -List.getD_eq_getElem?_getD] at h
    obtain ⟨rfl, rfl⟩ := h
    simp [-Bool.exists_bool, -Int.not_le, -Int.not_lt, -getElem?_pos, -List.getD_eq_getElem?_getD, hH, mapE, allKE, allKs, allK, cA]
  · intro k j h
    simp [-Bool.exists_bool, -Int.not_le, -Int.not_lt, -getElem?_pos, -List.getD_eq_getElem?_getD] at h
    obtain ⟨rfl, rfl⟩ := h
    simp [-Bool.exists_bool, -Int.not_le, -Int.not_lt, -getElem?_pos, -List.getD_eq_getElem?_getD]
  · simp [-Bool.exists_bool, -Int.not_le, -Int.not_lt, -getElem?_pos, -List.getD_eq_getElem?_getD]
  · intro k e h
    simp [-Bool.exists_bool, -Int.not_le, -Int.not_lt, -getElem?_pos, -List.getD_eq_getElem?_getD] at h
    obtain ⟨rfl, rfl⟩ := h
    simp [-Bool.exists_bool, -Int.not_le, -Int.not_lt, -getElem?_pos, -List.getD_eq_getElem?_getD]
  · simp [-Bool.exists_bool, -Int.not_le, -Int.not_lt, -getElem?_pos, -List.getD_eq_getElem?_getD, hH, hn]
theorem mapL_nil (g : Key → Key) : mapL g [] = [] := rfl
def belowF (cd : List Int) (n : Int) (c : Cu) : Int × Cu :=
  if n ≤ 0 then (0, c) else if n ≤ 256 then ((byteF cd c).1.tmod n, (byteF cd c).2) else
    (((byteF cd c).1 * 16777216 + (byteF cd (byteF cd c).2).1 * 65536 + (byteF cd (byteF cd (byteF cd c).2).2).1 * 256 + (byteF cd (byteF cd (byteF cd (byteF cd c).2).2).2).1).tmod n, (byteF cd (byteF cd (byteF cd (byteF cd c).2).2).2).2)
theorem belowF_cu (cd : List Int) (n : Int) (c : Cu) (h : c.1 ≤ cd.length) : (belowF cd n c).2.1 ≤ cd.length := by
  unfold belowF
  split
  · exact h
  · split
    · exact byteF_cu _ _ h
    · exact byteF_cu _ _ (byteF_cu _ _ (byteF_cu _ _ (byteF_cu _ _ h)))
theorem belowF_bd (cd : List Int) {n : Int} (c : Cu) (h : 0 < n) : 0 ≤ (belowF cd n c).1 ∧ (belowF cd n c).1 < n := by
  unfold belowF
  rw [if_neg (by omega)]
  have h1 := byteF_bd cd c
  have h2 := byteF_bd cd (byteF cd c).2
  have h3 := byteF_bd cd (byteF cd (byteF cd c).2).2
  have h4 := byteF_bd cd (byteF cd (byteF cd (byteF cd c).2).2).2
  split
  · exact ⟨Int.tmod_nonneg _ h1.1, Int.tmod_lt_of_pos _ h⟩
  · exact ⟨Int.tmod_nonneg _ (by omega), Int.tmod_lt_of_pos _ h⟩
theorem l1Below (cd : List Int) (n : Int) (c : Cu) (hc : c.1 ≤ cd.length) (h20 : cd.length ≤ 1048576) : Cm Try.prog 53 cA [.ptr (0, 1) 0, I n] (cuH cd c) (I (belowF cd n c).1) (cuH cd (belowF cd n c).2) := by
  refine Cm.of [] mixed Try.func53 rfl Try.call53 (by kernel_rfl) rfl ?_
  simp -implicitDefEqProofs -dsimp +contextual [-Bool.exists_bool, -Int.not_le, -Int.not_lt, -getElem?_pos, -List.getD_eq_getElem?_getD, Try.f53]
  refine ⟨fun h => ?_, fun h => ⟨fun h1 => ?_, fun h1 => ?_⟩⟩
  · have e : belowF cd n c = (0, c) := if_pos h
    rw [e]
    refine RLm.told ?_ ?_ ?_
    · simp [-Bool.exists_bool, -Int.not_le, -Int.not_lt, -getElem?_pos, -List.getD_eq_getElem?_getD]
    · simp [-Bool.exists_bool, -Int.not_le, -Int.not_lt, -getElem?_pos, -List.getD_eq_getElem?_getD, allK]
    · simp [-Bool.exists_bool, -Int.not_le, -Int.not_lt, -getElem?_pos, -List.getD_eq_getElem?_getD, okKey, allKE, allKs, allK, cA]
  · have e : belowF cd n c = ((byteF cd c).1.tmod n, (byteF cd c).2) := by unfold belowF; rw [if_neg h, if_pos h1]
    rw [e]
    refine callCu (0, 1) (l1Byte cd c hc h20) mapL_nil (fun _ => by simp [-Bool.exists_bool, -Int.not_le, -Int.not_lt, -getElem?_pos, -List.getD_eq_getElem?_getD, allKs]) (fun g => rfl) (by simp [-Bool.exists_bool, -Int.not_le, -Int.not_lt, -getElem?_pos, -List.getD_eq_getElem?_getD]) (by simp [-Bool.exists_bool, -Int.not_le, -Int.not_lt, -getElem?_pos, -List.getD_eq_getElem?_getD]) (by simp [-Bool.exists_bool, -Int.not_le, -Int.not_lt, -getElem?_pos, -List.getD_eq_getElem?_getD]) ?_
    simp -implicitDefEqProofs -dsimp +contextual [-Bool.exists_bool, -Int.not_le, -Int.not_lt, -getElem?_pos, -List.getD_eq_getElem?_getD]
    refine ⟨by omega, ?_⟩
    refine RLm.told ?_ ?_ ?_
    · simp [-Bool.exists_bool, -Int.not_le, -Int.not_lt, -getElem?_pos, -List.getD_eq_getElem?_getD]
    · simp [-Bool.exists_bool, -Int.not_le, -Int.not_lt, -getElem?_pos, -List.getD_eq_getElem?_getD, allK]
    · simp [-Bool.exists_bool, -Int.not_le, -Int.not_lt, -getElem?_pos, -List.getD_eq_getElem?_getD, okKey, allKE, allKs, allK, cA]
  · have e : belowF cd n c = (((byteF cd c).1 * 16777216 + (byteF cd (byteF cd c).2).1 * 65536 + (byteF cd (byteF cd (byteF cd c).2).2).1 * 256 + (byteF cd (byteF cd (byteF cd (byteF cd c).2).2).2).1).tmod n, (byteF cd (byteF cd (byteF cd (byteF cd c).2).2).2).2) := by unfold belowF; rw [if_neg h, if_neg h1]
    rw [e]
    have b1 := byteF_bd cd c
    have c1 := byteF_cu cd c hc
    refine callCu (0, 1) (l1Byte cd c hc h20) mapL_nil (fun _ => by simp [-Bool.exists_bool, -Int.not_le, -Int.not_lt, -getElem?_pos, -List.getD_eq_getElem?_getD, allKs]) (fun g => rfl) (by simp [-Bool.exists_bool, -Int.not_le, -Int.not_lt, -getElem?_pos, -List.getD_eq_getElem?_getD]) (by simp [-Bool.exists_bool, -Int.not_le, -Int.not_lt, -getElem?_pos, -List.getD_eq_getElem?_getD]) (by simp [-Bool.exists_bool, -Int.not_le, -Int.not_lt, -getElem?_pos, -List.getD_eq_getElem?_getD]) ?_
    generalize byteF cd c = x1 at *
    simp -implicitDefEqProofs -dsimp +contextual [-Bool.exists_bool, -Int.not_le, -Int.not_lt, -getElem?_pos, -List.getD_eq_getElem?_getD]
    have b2 := byteF_bd cd x1.2
    have c2 := byteF_cu cd x1.2 c1
    refine callCu (0, 1) (l1Byte cd x1.2 c1 h20) mapL_nil (fun _ => by simp [-Bool.exists_bool, -Int.not_le, -Int.not_lt, -getElem?_pos, -List.getD_eq_getElem?_getD, allKs]) (fun g => rfl) (by simp [-Bool.exists_bool, -Int.not_le, -Int.not_lt, -getElem?_pos, -List.getD_eq_getElem?_getD]) (by simp [-Bool.exists_bool, -Int.not_le, -Int.not_lt, -getElem?_pos, -List.getD_eq_getElem?_getD]) (by simp [-Bool.exists_bool, -Int.not_le, -Int.not_lt, -getElem?_pos, -List.getD_eq_getElem?_getD]) ?_
    generalize byteF cd x1.2 = x2 at *
    simp -implicitDefEqProofs -dsimp +contextual [-Bool.exists_bool, -Int.not_le, -Int.not_lt, -getElem?_pos, -List.getD_eq_getElem?_getD]
    have b3 := byteF_bd cd x2.2
    have c3 := byteF_cu cd x2.2 c2
    refine callCu (0, 1) (l1Byte cd x2.2 c2 h20) mapL_nil (fun _ => by simp [-Bool.exists_bool, -Int.not_le, -Int.not_lt, -getElem?_pos, -List.getD_eq_getElem?_getD, allKs]) (fun g => rfl) (by simp [-Bool.exists_bool, -Int.not_le, -Int.not_lt, -getElem?_pos, -List.getD_eq_getElem?_getD]) (by simp [-Bool.exists_bool, -Int.not_le, -Int.not_lt, -getElem?_pos, -List.getD_eq_getElem?_getD]) (by simp [-Bool.exists_bool, -Int.not_le, -Int.not_lt, -getElem?_pos, -List.getD_eq_getElem?_getD]) ?_
    generalize byteF cd x2.2 = x3 at *
    simp -implicitDefEqProofs -dsimp +contextual [-Bool.exists_bool, -Int.not_le, -Int.not_lt, -getElem?_pos, -List.getD_eq_getElem?_getD]
    have b4 := byteF_bd cd x3.2
    refine callCu (0, 1) (l1Byte cd x3.2 c3 h20) mapL_nil (fun _ => by simp [-Bool.exists_bool, -Int.not_le, -Int.not_lt, -getElem?_pos, -List.getD_eq_getElem?_getD, allKs]) (fun g => rfl) (by simp [-Bool.exists_bool, -Int.not_le, -Int.not_lt, -getElem?_pos, -List.getD_eq_getElem?_getD]) (by simp [-Bool.exists_bool, -Int.not_le, -Int.not_lt, -getElem?_pos, -List.getD_eq_getElem?_getD]) (by simp [-Bool.exists_bool, -Int.not_le, -Int.not_lt, -getElem?_pos, -List.getD_eq_getElem?_getD]) ?_
    generalize byteF cd x3.2 = x4 at *
    simp -implicitDefEqProofs -dsimp +contextual [-Bool.exists_bool, -Int.not_le, -Int.not_lt, -getElem?_pos, -List.getD_eq_getElem?_getD]
    rw [wr (x := x1.1 * 16777216) (by omega) (by omega), wr (x := x2.1 * 65536) (by omega) (by omega), wr (x := x1.1 * 16777216 + x2.1 * 65536) (by omega) (by omega), wr (x := x3.1 * 256) (by omega) (by omega), wr (x := x1.1 * 16777216 + x2.1 * 65536 + x3.1 * 256) (by omega) (by omega), wr (x := x1.1 * 16777216 + x2.1 * 65536 + x3.1 * 256 + x4.1) (by omega) (by omega)]
    refine ⟨by omega, ?_⟩
    refine RLm.told ?_ ?_ ?_
    · simp [-Bool.exists_bool, -Int.not_le, -Int.not_lt, -getElem?_pos, -List.getD_eq_getElem?_getD]
    · simp [-Bool.exists_bool, -Int.not_le, -Int.not_lt, -getElem?_pos, -List.getD_eq_getElem?_getD, allK]
    · simp [-Bool.exists_bool, -Int.not_le, -Int.not_lt, -getElem?_pos, -List.getD_eq_getElem?_getD, okKey, allKE, allKs, allK, cA]
theorem callBelow {N nx s : Nat} {H : Store} {K : Eff → Prop} {cd : List Int} {c : Cu} (n : Int) (kb : Key) (hc : c.1 ≤ cd.length) (h20 : cd.length ≤ 1048576) (hH : H kb = some (cuE cd c)) (hs : kb.1 ≠ s) (hn : kb.1 < nx) (hk : K ⟨I (belowF cd n c).1, [kb], [kb], up1 kb (some (cuE cd (belowF cd n c).2)) noUp⟩) :
    CallJ Try.prog N nx s H 53 [.ptr kb 0, I n] K := callCu kb (l1Below cd n c hc h20) (fun g => rfl) (fun _ => by simp [-Bool.exists_bool, -Int.not_le, -Int.not_lt, -getElem?_pos, -List.getD_eq_getElem?_getD, allKs, allK]) (fun g => rfl) hH hs hn hk
theorem l1Once (cd : List Int) (n : Int) (c : Cu) (hc : c.1 ≤ cd.length) (h20 : cd.length ≤ 1048576) : Cm Try.prog 31 cA [.ptr (0, 1) 0, I n] (cuH cd c) (B (decide ((belowF cd n c).1 = 0))) (cuH cd (belowF cd n c).2) := by
  refine Cm.of [] mixed Try.func31 rfl Try.call31 (by kernel_rfl) rfl ?_
  simp -implicitDefEqProofs -dsimp +contextual [-Bool.exists_bool, -Int.not_le, -Int.not_lt, -getElem?_pos, -List.getD_eq_getElem?_getD, Try.f31]
  refine callBelow n (0, 1) hc h20 (by simp [-Bool.exists_bool, -Int.not_le, -Int.not_lt, -getElem?_pos, -List.getD_eq_getElem?_getD]) (by simp [-Bool.exists_bool, -Int.not_le, -Int.not_lt, -getElem?_pos, -List.getD_eq_getElem?_getD]) (by simp [-Bool.exists_bool, -Int.not_le, -Int.not_lt, -getElem?_pos, -List.getD_eq_getElem?_getD]) ?_
  simp -implicitDefEqProofs -dsimp +contextual [-Bool.exists_bool, -Int.not_le, -Int.not_lt, -getElem?_pos, -List.getD_eq_getElem?_getD]
  refine RLm.told ?_ ?_ ?_
  · simp [-Bool.exists_bool, -Int.not_le, -Int.not_lt, -getElem?_pos, -List.getD_eq_getElem?_getD]
  · simp [-Bool.exists_bool, -Int.not_le, -Int.not_lt, -getElem?_pos, -List.getD_eq_getElem?_getD, allK]
  · simp [-Bool.exists_bool, -Int.not_le, -Int.not_lt, -getElem?_pos, -List.getD_eq_getElem?_getD, okKey, allKE, allKs, allK, cA]
theorem callOnce {N nx s : Nat} {H : Store} {K : Eff → Prop} {cd : List Int} {c : Cu} (n : Int) (kb : Key) (hc : c.1 ≤ cd.length) (h20 : cd.length ≤ 1048576) (hH : H kb = some (cuE cd c)) (hs : kb.1 ≠ s) (hn : kb.1 < nx) (hk : K ⟨B (decide ((belowF cd n c).1 = 0)), [kb], [kb], up1 kb (some (cuE cd (belowF cd n c).2)) noUp⟩) :
    CallJ Try.prog N nx s H 31 [.ptr kb 0, I n] K := callCu kb (l1Once cd n c hc h20) (fun g => rfl) (fun _ => by simp [-Bool.exists_bool, -Int.not_le, -Int.not_lt, -getElem?_pos, -List.getD_eq_getElem?_getD, allKs, allK]) (fun g => rfl) hH hs hn hk
def pickF (cd : List Int) (l : List Int) (c : Cu) : Int × Cu := (nth l (belowF cd l.length c).1.toNat, (belowF cd l.length c).2)
theorem l1PickInt (cd : List Int) (l : List Int) (c : Cu) (hl : 0 < l.length ∧ l.length ≤ 256) (hc : c.1 ≤ cd.length) (h20 : cd.length ≤ 1048576) : Cm Try.prog 36 cA [.ptr (0, 1) 0, Is l] (cuH cd c) (I (pickF cd l c).1) (cuH cd (pickF cd l c).2) := by
  refine Cm.of [] mixed Try.func36 rfl Try.call36 (by kernel_rfl) rfl ?_
  simp -implicitDefEqProofs -dsimp +contextual [-Bool.exists_bool, -Int.not_le, -Int.not_lt, -getElem?_pos, -List.getD_eq_getElem?_getD, Try.f36]
  refine callBelow l.length (0, 1) hc h20 (by simp [-Bool.exists_bool, -Int.not_le, -Int.not_lt, -getElem?_pos, -List.getD_eq_getElem?_getD]) (by simp [-Bool.exists_bool, -Int.not_le, -Int.not_lt, -getElem?_pos, -List.getD_eq_getElem?_getD]) (by simp [-Bool.exists_bool, -Int.not_le, -Int.not_lt, -getElem?_pos, -List.getD_eq_getElem?_getD]) ?_
  have b := belowF_bd cd (n := l.length) c (by omega)
  unfold pickF
  generalize belowF cd l.length c = x at *
  obtain ⟨x, c2⟩ := x
  simp only at b ⊢
  obtain ⟨m, rfl⟩ : ∃ m : Nat, x = m := ⟨x.toNat, by omega⟩
  have hm : m < l.length := by omega
  simp -implicitDefEqProofs -dsimp +contextual [-Bool.exists_bool, -Int.not_le, -Int.not_lt, -getElem?_pos, -List.getD_eq_getElem?_getD, hm]
  refine RLm.told ?_ ?_ ?_
  · simp [-Bool.exists_bool, -Int.not_le, -Int.not_lt, -getElem?_pos, -List.getD_eq_getElem?_getD]
  · simp [-Bool.exists_bool, -Int.not_le, -Int.not_lt, -getElem?_pos, -List.getD_eq_getElem?_getD, allK]
  · simp [-Bool.exists_bool, -Int.not_le, -Int.not_lt, -getElem?_pos, -List.getD_eq_getElem?_getD, okKey, allKE, allKs, allK, cA]
theorem callPick {N nx s : Nat} {H : Store} {K : Eff → Prop} {cd : List Int} {c : Cu} (l : List Int) (kb : Key) (hl : 0 < l.length ∧ l.length ≤ 256) (hc : c.1 ≤ cd.length) (h20 : cd.length ≤ 1048576) (hH : H kb = some (cuE cd c)) (hs : kb.1 ≠ s) (hn : kb.1 < nx) (hk : K ⟨I (pickF cd l c).1, [kb], [kb], up1 kb (some (cuE cd (pickF cd l c).2)) noUp⟩) :
    CallJ Try.prog N nx s H 36 [.ptr kb 0, Is l] K := callCu kb (l1PickInt cd l c hl hc h20) (fun g => rfl) (fun _ => by simp [-Bool.exists_bool, -Int.not_le, -Int.not_lt, -getElem?_pos, -List.getD_eq_getElem?_getD, allKs, allK]) (fun g => rfl) hH hs hn hk
theorem dl_tail (l : List D) : (dl l).tail = dl l.tail := by cases l <;> rfl
attribute [simp] dl_tail
def oddL : List Int := [0, 1, -1, 2, 400000000, -400000000, 400000001, -400000001, 399999999, 9223372036854775807, -9223372036854775808]
theorem l1Odd (cd : List Int) (c : Cu) (hc : c.1 ≤ cd.length) (h20 : cd.length ≤ 1048576) : Cm Try.prog 54 cA [.ptr (0, 1) 0] (cuH cd c) (I (pickF cd oddL c).1) (cuH cd (pickF cd oddL c).2) := by
  refine Cm.of [] mixed Try.func54 rfl Try.call54 (by kernel_rfl) rfl ?_
  simp -implicitDefEqProofs -dsimp +contextual [-Bool.exists_bool, -Int.not_le, -Int.not_lt, -getElem?_pos, -List.getD_eq_getElem?_getD, Try.f54]
  refine callPick oddL (0, 1) (by simp [-Bool.exists_bool, -Int.not_le, -Int.not_lt, -getElem?_pos, -List.getD_eq_getElem?_getD, oddL]) hc h20 (by simp [-Bool.exists_bool, -Int.not_le, -Int.not_lt, -getElem?_pos, -List.getD_eq_getElem?_getD]) (by simp [-Bool.exists_bool, -Int.not_le, -Int.not_lt, -getElem?_pos, -List.getD_eq_getElem?_getD]) (by simp [-Bool.exists_bool, -Int.not_le, -Int.not_lt, -getElem?_pos, -List.getD_eq_getElem?_getD]) ?_
  simp -implicitDefEqProofs -dsimp +contextual [-Bool.exists_bool, -Int.not_le, -Int.not_lt, -getElem?_pos, -List.getD_eq_getElem?_getD]
  refine RLm.told ?_ ?_ ?_
  · simp [-Bool.exists_bool, -Int.not_le, -Int.not_lt, -getElem?_pos, -List.getD_eq_getElem?_getD]
  · simp [-Bool.exists_bool, -Int.not_le, -Int.not_lt, -getElem?_pos, -List.getD_eq_getElem?_getD, allK]
  · simp [-Bool.exists_bool, -Int.not_le, -Int.not_lt, -getElem?_pos, -List.getD_eq_getElem?_getD, okKey, allKE, allKs, allK, cA]
theorem callOdd {N nx s : Nat} {H : Store} {K : Eff → Prop} {cd : List Int} {c : Cu} (kb : Key) (hc : c.1 ≤ cd.length) (h20 : cd.length ≤ 1048576) (hH : H kb = some (cuE cd c)) (hs : kb.1 ≠ s) (hn : kb.1 < nx) (hk : K ⟨I (pickF cd oddL c).1, [kb], [kb], up1 kb (some (cuE cd (pickF cd oddL c).2)) noUp⟩) :
    CallJ Try.prog N nx s H 54 [.ptr kb 0] K := callCu kb (l1Odd cd c hc h20) (fun g => rfl) (fun _ => by simp [-Bool.exists_bool, -Int.not_le, -Int.not_lt, -getElem?_pos, -List.getD_eq_getElem?_getD, allKs, allK]) (fun g => rfl) hH hs hn hk
end Go.Proofs.Ytjknjekemolndaa.ZL
namespace Go.Proofs.Ytjknjekemolndaa.ZL
open Go Go.Proofs.Ytjknjekemolndaa.Abs Go.Proofs.Ytjknjekemolndaa.Abs.Pl Go.RowKit Go.Proofs
set_option linter.unusedVariables false
set_option linter.unusedSimpArgs false
set_option linter.unnecessarySimpa false
set_option maxRecDepth 100000
def ptN (cd : List Int) (i : Nat) : Int := if i < cd.length then nth cd i else i
def pt1 (cd : List Int) (i : Nat) : Int × Int := mkR ((ptN cd i).tmod 17 - 8) (1 + ((ptN cd i).tdiv 17).tmod 3)
def ptF (cd : List Int) (n : Nat) : List (Int × Int) := (List.range n).map (pt1 cd)
def byts (cd : List Int) : Prop := ∀ y ∈ cd, 0 ≤ y ∧ y ≤ 255
theorem ptF_len (cd : List Int) (n : Nat) : (ptF cd n).length = n := by simp [-Bool.exists_bool, -Int.not_le, -Int.not_lt, -getElem?_pos, -List.getD_eq_getElem?_getD, ptF]
theorem ptF_succ (cd : List Int) (n : Nat) : ptF cd (n + 1) = ptF cd n ++ [pt1 cd n] := by simp [-Bool.exists_bool, -Int.not_le, -Int.not_lt, -getElem?_pos, -List.getD_eq_getElem?_getD, ptF, List.range_succ]
theorem ptN_bd {cd : List Int} (hb : byts cd) {i : Nat} (hi : i ≤ 100) : 0 ≤ ptN cd i ∧ ptN cd i ≤ 255 := by
  unfold ptN
  split
  · rename_i h; exact hb _ (nth_mem h)
  · omega
theorem pt_bd {n : Int} (h : 0 ≤ n ∧ n ≤ 255) : (0 ≤ n.tmod 17 ∧ n.tmod 17 < 17) ∧ (0 ≤ n.tdiv 17 ∧ n.tdiv 17 ≤ 255) ∧ (0 ≤ (n.tdiv 17).tmod 3 ∧ (n.tdiv 17).tmod 3 < 3) := by
  rw [Int.tmod_eq_emod_of_nonneg h.1, Int.tdiv_eq_ediv_of_nonneg h.1, Int.tmod_eq_emod_of_nonneg (by omega)]
  omega
theorem point (cd : List Int) (d : Nat) (hd : d ≤ 100) (hb : byts cd) (h20 : cd.length ≤ 1048576) : Cn Try.prog 14 [Bs cd, I d] (Rs (ptF cd d)) hemp := by
  refine Cn.of [] mixed Try.func14 rfl Try.call14 (by kernel_rfl) rfl ?_
  simp -implicitDefEqProofs -dsimp +contextual [-Bool.exists_bool, -Int.not_le, -Int.not_lt, -getElem?_pos, -List.getD_eq_getElem?_getD, Try.f14]
  refine WP.loop mixed [] (fun i : Nat => ⟨tl [(0, Bs cd), (1, I d), (5, .ref (2, 0) i), (6, I i)], hl [((2, 0), .row 49 i (dl (rsD (ptF cd i))))], 3⟩) (fun i => i ≤ d) (fun i => d - i) 0 (by kernel_rfl) ?_ ?_ ?_
  · refine Le.trans (Le.nil 5 49 (by simp [-Bool.exists_bool, -Int.not_le, -Int.not_lt, -getElem?_pos, -List.getD_eq_getElem?_getD])) (Le.told [((2, 0), (4, 0))] ?_ ?_ ?_) <;> simp [-Bool.exists_bool, -Int.not_le, -Int.not_lt, -getElem?_pos, -List.getD_eq_getElem?_getD, setH, ptF, rsD]
  · simp [-Bool.exists_bool, -Int.not_le, -Int.not_lt, -getElem?_pos, -List.getD_eq_getElem?_getD]
  · intro i hi
    by_cases h : i < d
    · have hn := ptN_bd hb (show i ≤ 100 by omega)
      have hp := pt_bd hn
      have hM := MakeRatio ((ptN cd i).tmod 17 - 8) (1 + ((ptN cd i).tdiv 17).tmod 3) (isNum_iff.2 ⟨by omega, by omega⟩) (isNum_iff.2 ⟨by omega, by omega⟩)
      have e1 : mkR ((ptN cd i).tmod 17 - 8) (1 + ((ptN cd i).tdiv 17).tmod 3) = pt1 cd i := rfl
      rw [e1] at hM
      have es := ptF_succ cd i
      generalize pt1 cd i = r at *
      have w1 : IntKind.wrap .i64 (ptN cd i) = ptN cd i := wr (by omega) (by omega)
      have w2 : IntKind.wrap .i64 ((ptN cd i).tmod 17 - 8) = (ptN cd i).tmod 17 - 8 := wr (by omega) (by omega)
      have w3 : IntKind.wrap .i64 ((ptN cd i).tdiv 17) = (ptN cd i).tdiv 17 := wr (by omega) (by omega)
      have w4 : IntKind.wrap .i64 (1 + ((ptN cd i).tdiv 17).tmod 3) = 1 + ((ptN cd i).tdiv 17).tmod 3 := wr (by omega) (by omega)
      by_cases hl : i < cd.length
      · have en : nth cd i = ptN cd i := by rw [ptN, if_pos hl]
        simp -implicitDefEqProofs -dsimp +contextual [-Bool.exists_bool, -Int.not_le, -Int.not_lt, -getElem?_pos, -List.getD_eq_getElem?_getD, h, hl]
        rw [en, w1]
        rw [w2, w3, w4]
        refine CallJ.pure hM rfl (by simp [-Bool.exists_bool, -Int.not_le, -Int.not_lt, -getElem?_pos, -List.getD_eq_getElem?_getD]) ?_
        simp -implicitDefEqProofs -dsimp +contextual [-Bool.exists_bool, -Int.not_le, -Int.not_lt, -getElem?_pos, -List.getD_eq_getElem?_getD, h]
        refine ⟨⟨by omega, by simp [-Bool.exists_bool, -Int.not_le, -Int.not_lt, -getElem?_pos, -List.getD_eq_getElem?_getD, maxLen]; omega⟩, i + 1, h, by omega, ?_⟩
        rw [wr (x := (i : Int) + 1) (by omega) (by omega), es]
        refine Le.told [((2, 0), (28, 0))] ?_ ?_ ?_ <;> simp [-Bool.exists_bool, -Int.not_le, -Int.not_lt, -getElem?_pos, -List.getD_eq_getElem?_getD, rsD_append, rsD_cons, rsD_nil, rD]
      · have en : (i : Int) = ptN cd i := by rw [ptN, if_neg hl]
        simp -implicitDefEqProofs -dsimp +contextual [-Bool.exists_bool, -Int.not_le, -Int.not_lt, -getElem?_pos, -List.getD_eq_getElem?_getD, h, hl]
        rw [← en] at w2 w3 w4 hM hp hn
        rw [w2, (Int.tdiv_eq_ediv_of_nonneg hn.1).symm, w3, w4]
        refine CallJ.pure hM rfl (by simp [-Bool.exists_bool, -Int.not_le, -Int.not_lt, -getElem?_pos, -List.getD_eq_getElem?_getD]) ?_
        simp -implicitDefEqProofs -dsimp +contextual [-Bool.exists_bool, -Int.not_le, -Int.not_lt, -getElem?_pos, -List.getD_eq_getElem?_getD, h]
        refine ⟨⟨by omega, by simp [-Bool.exists_bool, -Int.not_le, -Int.not_lt, -getElem?_pos, -List.getD_eq_getElem?_getD, maxLen]; omega⟩, i + 1, h, by omega, ?_⟩
        rw [wr (x := (i : Int) + 1) (by omega) (by omega), es]
        refine Le.told [((2, 0), (22, 0))] ?_ ?_ ?_ <;> simp [-Bool.exists_bool, -Int.not_le, -Int.not_lt, -getElem?_pos, -List.getD_eq_getElem?_getD, rsD_append, rsD_cons, rsD_nil, rD]
    · simp -implicitDefEqProofs -dsimp +contextual [-Bool.exists_bool, -Int.not_le, -Int.not_lt, -getElem?_pos, -List.getD_eq_getElem?_getD, h]
      have : i = d := by omega
      subst this
      exact RLe.pure 3 (by simp [-Bool.exists_bool, -Int.not_le, -Int.not_lt, -getElem?_pos, -List.getD_eq_getElem?_getD, setH, ptF_len])
end Go.Proofs.Ytjknjekemolndaa.ZL
namespace Go.Proofs.Ytjknjekemolndaa.ZL
open Go Go.Proofs.Ytjknjekemolndaa.Abs Go.Proofs.Ytjknjekemolndaa.Abs.Pl Go.RowKit Go.Proofs
set_option linter.unusedVariables false
set_option linter.unusedSimpArgs false
set_option maxRecDepth 100000
def newF (cd : List Int) (n : Nat) : Int := (cd.take n).foldl (fun h b => andI .i64 (IntKind.wrap .i64 (IntKind.wrap .i64 (IntKind.wrap .i64 (h * 131) + IntKind.wrap .i64 b) + 7)) 1073741823) (IntKind.wrap .i64 (10101 + (cd.length : Int)))
def newN (cd : List Int) : Nat := if cd.length < 4000 then cd.length else 4000
theorem newF_succ (cd : List Int) (i : Nat) (h : i < cd.length) : newF cd (i + 1) = andI .i64 (IntKind.wrap .i64 (IntKind.wrap .i64 (IntKind.wrap .i64 (newF cd i * 131) + IntKind.wrap .i64 (nth cd i)) + 7)) 1073741823 := by
  unfold newF
  rw [nth_take h, List.foldl_append]
  rfl
theorem l1New (cd : List Int) (h20 : cd.length ≤ 1048576) : Cn Try.prog 16 [Bs cd] (.ptr (0, 0) 0) (hl [((0, 0), cuE cd (0, newF cd (newN cd)))]) := by
  refine Cn.of [] mixed Try.func16 rfl Try.call16 (by kernel_rfl) rfl ?_
  simp -implicitDefEqProofs -dsimp +contextual [-Bool.exists_bool, -Int.not_le, -Int.not_lt, -getElem?_pos, -List.getD_eq_getElem?_getD, Try.f16]
  refine WP.loop mixed [] (fun i : Nat => ⟨tl [(0, Bs cd), (3, I (newF cd i)), (4, I i)], hl [], 1⟩) (fun i => i ≤ cd.length ∧ i ≤ 4000) (fun i => cd.length - i) 0 (by kernel_rfl) ?_ ?_ ?_
  · refine Le.told [] ?_ ?_ ?_ <;> simp [-Bool.exists_bool, -Int.not_le, -Int.not_lt, -getElem?_pos, -List.getD_eq_getElem?_getD, newF]
  · simp [-Bool.exists_bool, -Int.not_le, -Int.not_lt, -getElem?_pos, -List.getD_eq_getElem?_getD]
  · intro i hi
    have fin : newN cd = i → RLe Try.prog (setH (12, 0) (some (Ent.box [Bs cd, V.d (D.int IntKind.i64 0), I (newF cd i)])) (hl [])) (.ptr (12, 0) 0) (.ptr (0, 0) 0) (hl [((0, 0), cuE cd (0, newF cd (newN cd)))]) := fun e => by
      rw [e]
      refine RLe.told [((0, 0), (12, 0))] ?_ ?_ ?_
      · simp [-Bool.exists_bool, -Int.not_le, -Int.not_lt, -getElem?_pos, -List.getD_eq_getElem?_getD]
      · simp [-Bool.exists_bool, -Int.not_le, -Int.not_lt, -getElem?_pos, -List.getD_eq_getElem?_getD, setH]
      · simp [-Bool.exists_bool, -Int.not_le, -Int.not_lt, -getElem?_pos, -List.getD_eq_getElem?_getD]
    by_cases h : i < cd.length
    · by_cases h2 : i < 4000
      · have h2' : ((i : Int) < 4000) = True := by simp [-Bool.exists_bool, -Int.not_le, -Int.not_lt, -getElem?_pos, -List.getD_eq_getElem?_getD]; omega
        simp -implicitDefEqProofs -dsimp +contextual [-Bool.exists_bool, -Int.not_le, -Int.not_lt, -getElem?_pos, -List.getD_eq_getElem?_getD, h, h2']
        refine ⟨i + 1, ⟨by omega, by omega⟩, by omega, ?_⟩
        rw [newF_succ cd i h, wr (x := (i : Int) + 1) (by omega) (by omega)]
        refine Le.told [] ?_ ?_ ?_ <;> simp [-Bool.exists_bool, -Int.not_le, -Int.not_lt, -getElem?_pos, -List.getD_eq_getElem?_getD]
      · have h2' : ((i : Int) < 4000) = False := by simp [-Bool.exists_bool, -Int.not_le, -Int.not_lt, -getElem?_pos, -List.getD_eq_getElem?_getD]; omega
        simp -implicitDefEqProofs -dsimp +contextual [-Bool.exists_bool, -Int.not_le, -Int.not_lt, -getElem?_pos, -List.getD_eq_getElem?_getD, h, h2']
        exact fin (by unfold newN; split <;> omega)
    · simp -implicitDefEqProofs -dsimp +contextual [-Bool.exists_bool, -Int.not_le, -Int.not_lt, -getElem?_pos, -List.getD_eq_getElem?_getD, h]
      exact fin (by unfold newN; split <;> omega)
def oAV (r : At2) : V := if r.2.2.2 = true then .tup [.agg [.ref (0, 0) r.1.length, I r.2.1, B r.2.2.1], B true] else .tup [.agg [.nil, I 0, B false], B false]
def oAH (r : At2) : Store := if r.2.2.2 = true then hl [((0, 0), .row 3 r.1.length (dl (r.1.map (D.int .i64))))] else hemp
theorem l2AtomO (l : List Int) (c : Int) (s : Bool) (h40 : l.length ≤ 1048576) (hm : ∀ y ∈ l, -9223372036854775807 ≤ y ∧ y ≤ 9223372036854775807) (hc : -9223372036854775807 ≤ c ∧ c ≤ 9223372036854775807) : Cn Try.prog 74 [Is l, I c, B s] (oAV (mkAt l c s)) (oAH (mkAt l c s)) := by
  refine Cn.of [] mixed Try.func74 rfl Try.call74 (by kernel_rfl) rfl ?_
  simp -implicitDefEqProofs -dsimp +contextual [-Bool.exists_bool, -Int.not_le, -Int.not_lt, -getElem?_pos, -List.getD_eq_getElem?_getD, Try.f74]
  refine CallJ.pure (l2Gcd l c (by omega) hm hc) rfl (by simp [-Bool.exists_bool, -Int.not_le, -Int.not_lt, -getElem?_pos, -List.getD_eq_getElem?_getD]) ?_
  simp -implicitDefEqProofs -dsimp +contextual [-Bool.exists_bool, -Int.not_le, -Int.not_lt, -getElem?_pos, -List.getD_eq_getElem?_getD]
  have hg : gcdF c.natAbs l = Nat.gcd (gcdL l) c.natAbs := by rw [gcdF_eq, Nat.gcd_comm]
  have hp := div1_pos (Nat.gcd (gcdL l) c.natAbs)
  rw [hg, max1, tdiv64 hc.1 hc.2]
  have em : mkAt l c s = if isAt (l.map (·.tdiv (div1 (Nat.gcd (gcdL l) c.natAbs)))) (c.tdiv (div1 (Nat.gcd (gcdL l) c.natAbs))) then (l.map (·.tdiv (div1 (Nat.gcd (gcdL l) c.natAbs))), c.tdiv (div1 (Nat.gcd (gcdL l) c.natAbs)), s, true) else noAt := rfl
  rw [em]
  generalize div1 (Nat.gcd (gcdL l) c.natAbs) = g at hp ⊢
  refine ⟨by omega, ?_⟩
  refine WP.loop mixed [] (fun i : Nat => ⟨tl [(0, Is l), (6, .ptr (0, 0) 0), (8, I g), (9, .ptr (12, 0) 0), (10, I i)], hl [((0, 0), .box [.nil, I 0, B false]), ((12, 0), .box [.ref (15, 0) i, I (c.tdiv g), B s]), ((15, 0), .row 3 i (dl ((l.take i).map fun x => .int .i64 (x.tdiv g))))], 16⟩) (fun i => i ≤ l.length) (fun i => l.length - i) 0 (by kernel_rfl) ?_ ?_ ?_
  · refine Le.trans (Le.nilBox (12, 0) 0 3 (c := [.nil, I (c.tdiv g), B s]) (by simp [-Bool.exists_bool, -Int.not_le, -Int.not_lt, -getElem?_pos, -List.getD_eq_getElem?_getD, setH]) rfl) (Le.told [] ?_ ?_ ?_) <;> simp [-Bool.exists_bool, -Int.not_le, -Int.not_lt, -getElem?_pos, -List.getD_eq_getElem?_getD, setH, ELe]
  · simp [-Bool.exists_bool, -Int.not_le, -Int.not_lt, -getElem?_pos, -List.getD_eq_getElem?_getD]
  · intro i hi
    simp -implicitDefEqProofs -dsimp +contextual [-Bool.exists_bool, -Int.not_le, -Int.not_lt, -getElem?_pos, -List.getD_eq_getElem?_getD]
    refine ⟨fun h => ?_, fun h => ?_⟩
    · refine ⟨by omega, ⟨by omega, by simp [-Bool.exists_bool, -Int.not_le, -Int.not_lt, -getElem?_pos, -List.getD_eq_getElem?_getD, maxLen]; omega⟩, by kernel_rfl, ?_⟩
      have hy := hm (nth l i) (nth_mem h)
      refine ⟨i + 1, by omega, by omega, ?_⟩
      rw [tdiv64 hy.1 hy.2, wr (by omega) (by omega)]
      refine Le.told [((15, 0), (29, 0))] ?_ ?_ ?_ <;> simp [-Bool.exists_bool, -Int.not_le, -Int.not_lt, -getElem?_pos, -List.getD_eq_getElem?_getD]
      rw [← List.map_take, ← List.map_take, nth_take h]
      simp [-Bool.exists_bool, -Int.not_le, -Int.not_lt, -getElem?_pos, -List.getD_eq_getElem?_getD]
    · obtain rfl : i = l.length := by omega
      have hT : List.take l.length (List.map (fun x => D.int IntKind.i64 (x.tdiv g)) l) = List.map (D.int IntKind.i64 ∘ fun x => x.tdiv g) l := by rw [List.take_of_length_le (by simp [-Bool.exists_bool, -Int.not_le, -Int.not_lt, -getElem?_pos, -List.getD_eq_getElem?_getD])]; rfl
      refine CallJ.lent (ks := [(15, 0)]) 3 (IsAtom (l.map (·.tdiv g), c.tdiv g, s)) (by simp [-Bool.exists_bool, -Int.not_le, -Int.not_lt, -getElem?_pos, -List.getD_eq_getElem?_getD, hT]) (by simp [-Bool.exists_bool, -Int.not_le, -Int.not_lt, -getElem?_pos, -List.getD_eq_getElem?_getD]) rfl (by simp [-Bool.exists_bool, -Int.not_le, -Int.not_lt, -getElem?_pos, -List.getD_eq_getElem?_getD]) ?_
      simp -implicitDefEqProofs -dsimp +contextual [-Bool.exists_bool, -Int.not_le, -Int.not_lt, -getElem?_pos, -List.getD_eq_getElem?_getD]
      refine ⟨fun hb => ?_, fun hb => ?_⟩
      · rw [show oAV (l.map (·.tdiv g), c.tdiv g, s, true) = .tup [.agg [.ref (0, 0) (l.map (·.tdiv g)).length, I (c.tdiv g), B s], B true] from rfl, show oAH (l.map (·.tdiv g), c.tdiv g, s, true) = hl [((0, 0), .row 3 (l.map (·.tdiv g)).length (dl ((l.map (·.tdiv g)).map (D.int .i64))))] from rfl]
        refine RLe.told [((0, 0), (15, 0))] ?_ ?_ ?_
        · simp [-Bool.exists_bool, -Int.not_le, -Int.not_lt, -getElem?_pos, -List.getD_eq_getElem?_getD]
        · simp [-Bool.exists_bool, -Int.not_le, -Int.not_lt, -getElem?_pos, -List.getD_eq_getElem?_getD, setH, hT]
        · simp [-Bool.exists_bool, -Int.not_le, -Int.not_lt, -getElem?_pos, -List.getD_eq_getElem?_getD]
      · rw [show oAV noAt = .tup [.agg [.nil, I 0, B false], B false] from rfl, show oAH noAt = hemp from rfl]
        exact RLe.emp (by simp [-Bool.exists_bool, -Int.not_le, -Int.not_lt, -getElem?_pos, -List.getD_eq_getElem?_getD])
theorem gcdL_tdiv {g : Nat} (hg : 0 < g) : ∀ {l : List Int}, (∀ x ∈ l, g ∣ x.natAbs) → gcdL (l.map (·.tdiv (g : Int))) = gcdL l / g
  | [], _ => by simp [-Bool.exists_bool, -Int.not_le, -Int.not_lt, -getElem?_pos, -List.getD_eq_getElem?_getD, gcdL, gcdF]
  | x :: l, h => by
    have hx := h x (by simp [-Bool.exists_bool, -Int.not_le, -Int.not_lt, -getElem?_pos, -List.getD_eq_getElem?_getD])
    have hl := fun y hy => h y (List.mem_cons_of_mem x hy)
    have hd : g ∣ gcdL l := by
      clear hx h
      induction l with
      | nil => exact ⟨0, rfl⟩
      | cons y l ih =>
        rw [gcdL_cons]
        exact Nat.dvd_gcd (hl y (by simp [-Bool.exists_bool, -Int.not_le, -Int.not_lt, -getElem?_pos, -List.getD_eq_getElem?_getD])) (ih (fun z hz => hl z (by simp [-Bool.exists_bool, -Int.not_le, -Int.not_lt, -getElem?_pos, -List.getD_eq_getElem?_getD, hz])))
    rw [List.map_cons, gcdL_cons, gcdL_cons, gcdL_tdiv hg hl, Int.natAbs_tdiv, Int.natAbs_natCast]
    show Nat.gcd (x.natAbs / g) _ = _
    rw [Nat.gcd_div hx hd]
theorem mkAt_small {l : List Int} {c : Int} {s : Bool} (hl : l.length ≤ 4) (h : ∀ x ∈ l, isNum x = true) (hc : isNum c = true) : (mkAt l c s).2.2.2 = true := by
  have key : isAt (l.map (·.tdiv (div1 (Nat.gcd (gcdL l) c.natAbs)))) (c.tdiv (div1 (Nat.gcd (gcdL l) c.natAbs))) = true := by
    have hn : ∀ (y : Int) (g : Int), isNum y = true → isNum (y.tdiv g) = true := fun y g hy => by
      have := isNum_iff.1 hy
      have h1 : (y.tdiv g).natAbs ≤ y.natAbs := by rw [Int.natAbs_tdiv]; exact Nat.div_le_self _ _
      exact isNum_iff.2 ⟨by omega, by omega⟩
    rw [isAt_iff]
    refine ⟨by simpa [-Bool.exists_bool, -Int.not_le, -Int.not_lt, -getElem?_pos, -List.getD_eq_getElem?_getD] using hl, hn _ _ hc, fun x hx => ?_, ?_⟩
    · obtain ⟨y, hy, rfl⟩ := List.mem_map.1 hx
      exact hn _ _ (h y hy)
    · by_cases h0 : Nat.gcd (gcdL l) c.natAbs = 0
      · have e : div1 (Nat.gcd (gcdL l) c.natAbs) = 1 := by unfold div1; rw [if_pos h0]
        rw [e]
        simp only [Int.tdiv_one, List.map_id']
        omega
      · have hp : 0 < Nat.gcd (gcdL l) c.natAbs := by omega
        have e : div1 (Nat.gcd (gcdL l) c.natAbs) = ((Nat.gcd (gcdL l) c.natAbs : Nat) : Int) := by unfold div1; rw [if_neg h0]
        rw [e, gcdL_tdiv hp (fun x hx => Nat.dvd_trans (Nat.gcd_dvd_left _ _) (gcdL_dvd l x hx)), Int.natAbs_tdiv, Int.natAbs_natCast]
        show Nat.gcd _ (c.natAbs / _) ≤ 1
        rw [Nat.gcd_div (Nat.gcd_dvd_left _ _) (Nat.gcd_dvd_right _ _), Nat.div_self hp]
        exact Nat.le_refl 1
  unfold mkAt
  simp only
  rw [if_pos key]
def mkA (l : List Int) (c : Int) (s : Bool) : At2 := if l.length ≤ 4 then mkAt l c s else noAt
theorem MakeAtomO (l : List Int) (c : Int) (s : Bool) (h40 : l.length ≤ 1048576) (hm : ∀ y ∈ l, isNum y = true) (hc : isNum c = true) : Cn Try.prog 59 [Is l, I c, B s] (oAV (mkA l c s)) (oAH (mkA l c s)) := by
  refine Cn.of [] mixed Try.func59 rfl Try.call59 (by kernel_rfl) rfl ?_
  simp -implicitDefEqProofs -dsimp +contextual [-Bool.exists_bool, -Int.not_le, -Int.not_lt, -getElem?_pos, -List.getD_eq_getElem?_getD, Try.f59]
  refine WP.loop mixed [] (fun i : Nat => ⟨tl [(0, Is l), (1, I c), (2, B s), (6, .ptr (0, 0) 0), (7, B false), (8, I i)], hl [((0, 0), .box [.nil, I 0, B false])], 1⟩) (fun i => i ≤ l.length) (fun i => l.length - i) 0 (by kernel_rfl) ?_ ?_ ?_
  · refine Le.told [] ?_ ?_ ?_ <;> simp [-Bool.exists_bool, -Int.not_le, -Int.not_lt, -getElem?_pos, -List.getD_eq_getElem?_getD]
  · simp [-Bool.exists_bool, -Int.not_le, -Int.not_lt, -getElem?_pos, -List.getD_eq_getElem?_getD]
  · intro i hi
    by_cases h : i < l.length
    · simp -implicitDefEqProofs -dsimp +contextual [-Bool.exists_bool, -Int.not_le, -Int.not_lt, -getElem?_pos, -List.getD_eq_getElem?_getD, h]
      refine CallJ.pure (IsNumber _) rfl (by simp [-Bool.exists_bool, -Int.not_le, -Int.not_lt, -getElem?_pos, -List.getD_eq_getElem?_getD]) ?_
      have h1 := hm _ (nth_mem h)
      simp -implicitDefEqProofs -dsimp +contextual [-Bool.exists_bool, -Int.not_le, -Int.not_lt, -getElem?_pos, -List.getD_eq_getElem?_getD, h, h1]
      refine ⟨i + 1, h, by omega, ?_⟩
      rw [wr (x := (i : Int) + 1) (by omega) (by omega)]
      refine Le.told [] ?_ ?_ ?_ <;> simp [-Bool.exists_bool, -Int.not_le, -Int.not_lt, -getElem?_pos, -List.getD_eq_getElem?_getD]
    · simp -implicitDefEqProofs -dsimp +contextual [-Bool.exists_bool, -Int.not_le, -Int.not_lt, -getElem?_pos, -List.getD_eq_getElem?_getD, h]
      refine CallJ.pure (IsNumber _) rfl (by simp [-Bool.exists_bool, -Int.not_le, -Int.not_lt, -getElem?_pos, -List.getD_eq_getElem?_getD]) ?_
      simp -implicitDefEqProofs -dsimp +contextual [-Bool.exists_bool, -Int.not_le, -Int.not_lt, -getElem?_pos, -List.getD_eq_getElem?_getD, hc]
      refine ⟨fun h4 => ?_, fun h4 => ?_⟩
      · rw [show mkA l c s = noAt from if_neg (by omega)]
        rw [show oAV noAt = .tup [.agg [.nil, I 0, B false], B false] from rfl, show oAH noAt = hemp from rfl]
        exact RLe.emp (by simp [-Bool.exists_bool, -Int.not_le, -Int.not_lt, -getElem?_pos, -List.getD_eq_getElem?_getD])
      · rw [show mkA l c s = mkAt l c s from if_pos (by omega)]
        have hN := l2AtomO l c s h40 (fun y hy => by have := isNum_iff.1 (hm y hy); omega) (by have := isNum_iff.1 hc; omega)
        have hok := mkAt_small (s := s) (by omega) hm hc
        generalize mkAt l c s = r at hN hok ⊢
        obtain ⟨r1, r2, r3, r4⟩ := r
        obtain rfl : r4 = true := hok
        rw [show oAV (r1, r2, r3, true) = .tup [.agg [.ref (0, 0) r1.length, I r2, B r3], B true] from rfl, show oAH (r1, r2, r3, true) = hl [((0, 0), .row 3 r1.length (dl (r1.map (D.int .i64))))] from rfl] at hN ⊢
        refine CallJ.pure hN rfl (by simp [-Bool.exists_bool, -Int.not_le, -Int.not_lt, -getElem?_pos, -List.getD_eq_getElem?_getD]) ?_
        simp -implicitDefEqProofs -dsimp +contextual [-Bool.exists_bool, -Int.not_le, -Int.not_lt, -getElem?_pos, -List.getD_eq_getElem?_getD, h, h4]
        refine RLe.told [((0, 0), (16, 0))] ?_ ?_ ?_
        · simp [-Bool.exists_bool, -Int.not_le, -Int.not_lt, -getElem?_pos, -List.getD_eq_getElem?_getD]
        · simp [-Bool.exists_bool, -Int.not_le, -Int.not_lt, -getElem?_pos, -List.getD_eq_getElem?_getD, setH]
        · simp [-Bool.exists_bool, -Int.not_le, -Int.not_lt, -getElem?_pos, -List.getD_eq_getElem?_getD]
end Go.Proofs.Ytjknjekemolndaa.ZL
namespace Go.Proofs.Ytjknjekemolndaa.ZL
open Go Go.Proofs.Ytjknjekemolndaa.Abs Go.Proofs.Ytjknjekemolndaa.Abs.Pl Go.RowKit Go.Proofs
set_option linter.unusedVariables false
set_option linter.unusedSimpArgs false
set_option maxRecDepth 100000
theorem invK_id {k : Key} (hk : k.1 = 0) : ∀ {iv : List (Key × Key)}, allP (fun p : Key × Key => p.1.1 ≠ 0) iv → invK iv k = k
  | [], _ => rfl
  | p :: iv, h => by
    have h1 : p.1.1 ≠ 0 := h.1
    unfold invK
    rw [if_neg (fun e => h1 (by rw [← e]; exact hk))]
    exact invK_id hk h.2
theorem RLm.toldL {P : Program} {A : Key → Prop} {H : Store} {r v : V} {K : List (Key × Ent)} (iv : List (Key × Key)) (hid : allP (fun p : Key × Key => p.1.1 ≠ 0) iv) (hv : VLe H (invK iv) 2 v r) (hr : allK (okKey A) r)
    (hK : allP (fun p : Key × Ent => p.1.1 < 2 ∧ okKey A p.1 ∧ allKE (okKey A) p.2 ∧ entIs (H (invK iv p.1)) fun e => ELe H (invK iv) 2 e p.2) K) (hn : (K.map fun p => invK iv p.1).Nodup) : RLm P A H v r (hl K) := by
  refine RLm.mk (invK iv) (fun k hk => invK_id hk hid) hv hr (fun k e' hk => ?_) (fun k k' e e' h1 h2 h => ?_)
  · obtain ⟨h1, h2, h3, h4⟩ := allP_mem hK _ (hl_mem hk)
    simp only [entIs] at h4
    refine ⟨h1, h2, h3, ?_⟩
    cases hq : H (invK iv k) with
    | none => rw [hq] at h4; exact h4.elim
    | some e => rw [hq] at h4; exact ⟨e, rfl, h4⟩
  · have := nodup_told hn _ (hl_mem h1) _ (hl_mem h2) h
    exact congrArg Prod.fst this
def drL (cd : List Int) : Nat → Cu → List Int × Cu
  | 0, c => ([], c)
  | n + 1, c => ((drL cd n c).1 ++ [(belowF cd 5 (drL cd n c).2).1 - 2], (belowF cd 5 (drL cd n c).2).2)
theorem drL_len (cd : List Int) : ∀ (n : Nat) (c : Cu), (drL cd n c).1.length = n
  | 0, c => rfl
  | n + 1, c => by simp [-Bool.exists_bool, -Int.not_le, -Int.not_lt, -getElem?_pos, -List.getD_eq_getElem?_getD, drL, drL_len cd n c]
theorem drL_cu (cd : List Int) : ∀ (n : Nat) (c : Cu), c.1 ≤ cd.length → (drL cd n c).2.1 ≤ cd.length
  | 0, c, h => h
  | n + 1, c, h => belowF_cu _ _ _ (drL_cu cd n c h)
theorem drL_num (cd : List Int) : ∀ (n : Nat) (c : Cu), ∀ x ∈ (drL cd n c).1, isNum x = true
  | 0, c, x, h => by simp [-Bool.exists_bool, -Int.not_le, -Int.not_lt, -getElem?_pos, -List.getD_eq_getElem?_getD, drL] at h
  | n + 1, c, x, h => by
    rcases List.mem_append.1 h with h | h
    · exact drL_num cd n c x h
    · have := belowF_bd cd (n := 5) (drL cd n c).2 (by omega)
      rw [List.mem_singleton.1 h]
      exact isNum_iff.2 ⟨by omega, by omega⟩
def drA (cd : List Int) (n : Nat) (c : Cu) : At2 × Cu :=
  (mkA (drL cd n c).1 ((belowF cd 13 (drL cd n c).2).1 - 6) (decide ((belowF cd 3 (belowF cd 13 (drL cd n c).2).2).1 = 0)), (belowF cd 3 (belowF cd 13 (drL cd n c).2).2).2)
theorem drA_cu (cd : List Int) (n : Nat) (c : Cu) (h : c.1 ≤ cd.length) : (drA cd n c).2.1 ≤ cd.length := belowF_cu _ _ _ (belowF_cu _ _ _ (drL_cu _ _ _ h))
def dV (r : At2) : V := if r.2.2.2 = true then .agg [.ref (1, 0) r.1.length, I r.2.1, B r.2.2.1] else .agg [.nil, I 0, B false]
def dH (cd : List Int) (r : At2) (c : Cu) : Store := if r.2.2.2 = true then hl [((0, 1), cuE cd c), ((1, 0), .row 3 r.1.length (dl (r.1.map (D.int .i64))))] else cuH cd c
theorem l2Draw (cd : List Int) (n : Nat) (c : Cu) (hn : n ≤ 5) (hc : c.1 ≤ cd.length) (h20 : cd.length ≤ 1048576) : Cm Try.prog 58 cA [.ptr (0, 1) 0, I n] (cuH cd c) (dV (drA cd n c).1) (dH cd (drA cd n c).1 (drA cd n c).2) := by
  refine Cm.of [] mixed Try.func58 rfl Try.call58 (by kernel_rfl) rfl ?_
  simp -implicitDefEqProofs -dsimp +contextual [-Bool.exists_bool, -Int.not_le, -Int.not_lt, -getElem?_pos, -List.getD_eq_getElem?_getD, Try.f58]
  refine WP.loop mixed [] (fun i : Nat => ⟨tl [(0, .ptr (0, 1) 0), (1, I n), (4, .ptr (1, 0) 0), (5, .ref (2, 0) i), (6, I i)], hl [((0, 1), cuE cd (drL cd i c).2), ((1, 0), .box [.nil, I 0, B false]), ((2, 0), .row 3 i (dl ((drL cd i c).1.map (D.int .i64))))], 3⟩) (fun i => i ≤ n) (fun i => n - i) 0 (by kernel_rfl) ?_ ?_ ?_
  · refine Le.trans (Le.nil 5 3 (by simp [-Bool.exists_bool, -Int.not_le, -Int.not_lt, -getElem?_pos, -List.getD_eq_getElem?_getD])) (Le.told [((2, 0), (5, 0))] ?_ ?_ ?_) <;> simp [-Bool.exists_bool, -Int.not_le, -Int.not_lt, -getElem?_pos, -List.getD_eq_getElem?_getD, setH, drL]
  · simp [-Bool.exists_bool, -Int.not_le, -Int.not_lt, -getElem?_pos, -List.getD_eq_getElem?_getD]
  · intro i hi
    by_cases h : i < n
    · have hci := drL_cu cd i c hc
      have hli := drL_len cd i c
      simp -implicitDefEqProofs -dsimp +contextual [-Bool.exists_bool, -Int.not_le, -Int.not_lt, -getElem?_pos, -List.getD_eq_getElem?_getD, h]
      refine callBelow 5 (0, 1) hci h20 (by simp [-Bool.exists_bool, -Int.not_le, -Int.not_lt, -getElem?_pos, -List.getD_eq_getElem?_getD]) (by simp [-Bool.exists_bool, -Int.not_le, -Int.not_lt, -getElem?_pos, -List.getD_eq_getElem?_getD]) (by simp [-Bool.exists_bool, -Int.not_le, -Int.not_lt, -getElem?_pos, -List.getD_eq_getElem?_getD]) ?_
      have hb := belowF_bd cd (n := 5) (drL cd i c).2 (by omega)
      simp -implicitDefEqProofs -dsimp +contextual [-Bool.exists_bool, -Int.not_le, -Int.not_lt, -getElem?_pos, -List.getD_eq_getElem?_getD, h]
      refine ⟨⟨by omega, by simp [-Bool.exists_bool, -Int.not_le, -Int.not_lt, -getElem?_pos, -List.getD_eq_getElem?_getD, maxLen]; omega⟩, i + 1, h, by omega, ?_⟩
      rw [wr (x := (i : Int) + 1) (by omega) (by omega), wr (x := (belowF cd 5 (drL cd i c).2).1 - 2) (by omega) (by omega)]
      refine Le.told [((2, 0), (11, 0))] ?_ ?_ ?_ <;> simp [-Bool.exists_bool, -Int.not_le, -Int.not_lt, -getElem?_pos, -List.getD_eq_getElem?_getD, drL]
    · obtain rfl : i = n := by omega
      have hci := drL_cu cd i c hc
      have hli := drL_len cd i c
      have hnum := drL_num cd i c
      unfold drA
      generalize drL cd i c = z at *
      obtain ⟨l, c1⟩ := z
      simp only at hci hli hnum ⊢
      obtain rfl := hli
      simp -implicitDefEqProofs -dsimp +contextual [-Bool.exists_bool, -Int.not_le, -Int.not_lt, -getElem?_pos, -List.getD_eq_getElem?_getD, h]
      have hb := belowF_bd cd (n := 13) c1 (by omega)
      have hc2 := belowF_cu cd 13 c1 hci
      refine callBelow 13 (0, 1) hci h20 (by simp [-Bool.exists_bool, -Int.not_le, -Int.not_lt, -getElem?_pos, -List.getD_eq_getElem?_getD]) (by simp [-Bool.exists_bool, -Int.not_le, -Int.not_lt, -getElem?_pos, -List.getD_eq_getElem?_getD]) (by simp [-Bool.exists_bool, -Int.not_le, -Int.not_lt, -getElem?_pos, -List.getD_eq_getElem?_getD]) ?_
      generalize belowF cd 13 c1 = y at *
      obtain ⟨k, c2⟩ := y
      simp only at hb hc2 ⊢
      simp -implicitDefEqProofs -dsimp +contextual [-Bool.exists_bool, -Int.not_le, -Int.not_lt, -getElem?_pos, -List.getD_eq_getElem?_getD]
      rw [wr (x := k - 6) (by omega) (by omega)]
      have hc3 := belowF_cu cd 3 c2 hc2
      refine callOnce 3 (0, 1) hc2 h20 (by simp [-Bool.exists_bool, -Int.not_le, -Int.not_lt, -getElem?_pos, -List.getD_eq_getElem?_getD]) (by simp [-Bool.exists_bool, -Int.not_le, -Int.not_lt, -getElem?_pos, -List.getD_eq_getElem?_getD]) (by simp [-Bool.exists_bool, -Int.not_le, -Int.not_lt, -getElem?_pos, -List.getD_eq_getElem?_getD]) ?_
      generalize belowF cd 3 c2 = y at *
      obtain ⟨k3, c3⟩ := y
      simp only at hc3 ⊢
      simp -implicitDefEqProofs -dsimp +contextual [-Bool.exists_bool, -Int.not_le, -Int.not_lt, -getElem?_pos, -List.getD_eq_getElem?_getD]
      have hM := MakeAtomO l (k - 6) (decide (k3 = 0)) (by omega) hnum (isNum_iff.2 ⟨by omega, by omega⟩)
      generalize mkA l (k - 6) (decide (k3 = 0)) = r at hM ⊢
      obtain ⟨r1, r2, r3, r4⟩ := r
      cases r4 with
      | true =>
        rw [show oAV (r1, r2, r3, true) = .tup [.agg [.ref (0, 0) r1.length, I r2, B r3], B true] from rfl, show oAH (r1, r2, r3, true) = hl [((0, 0), .row 3 r1.length (dl (r1.map (D.int .i64))))] from rfl] at hM
        refine CallJ.lent (ks := [(2, 0)]) 2 hM (by simp [-Bool.exists_bool, -Int.not_le, -Int.not_lt, -getElem?_pos, -List.getD_eq_getElem?_getD]) (by simp [-Bool.exists_bool, -Int.not_le, -Int.not_lt, -getElem?_pos, -List.getD_eq_getElem?_getD]) (by simp [-Bool.exists_bool, -Int.not_le, -Int.not_lt, -getElem?_pos, -List.getD_eq_getElem?_getD, noSh, noShL, noShD]) ?_ ?_
        · intro k e h
          simp [-Bool.exists_bool, -Int.not_le, -Int.not_lt, -getElem?_pos, -List.getD_eq_getElem?_getD] at h
          obtain ⟨rfl, rfl⟩ := h
          simp only [noShE, noShL_all, List.all_eq_true]
          intro x hx
          obtain ⟨y, hy, rfl⟩ := List.mem_map.1 hx
          obtain ⟨z, _, rfl⟩ := List.mem_map.1 hy
          rfl
        simp -implicitDefEqProofs -dsimp +contextual [-Bool.exists_bool, -Int.not_le, -Int.not_lt, -getElem?_pos, -List.getD_eq_getElem?_getD]
        rw [show dV (r1, r2, r3, true) = .agg [.ref (1, 0) r1.length, I r2, B r3] from rfl, show dH cd (r1, r2, r3, true) c3 = hl [((0, 1), cuE cd c3), ((1, 0), .row 3 r1.length (dl (r1.map (D.int .i64))))] from rfl]
        refine RLm.toldL [((1, 0), (12, 0))] ?_ ?_ ?_ ?_ ?_
        · simp [-Bool.exists_bool, -Int.not_le, -Int.not_lt, -getElem?_pos, -List.getD_eq_getElem?_getD]
        · simp [-Bool.exists_bool, -Int.not_le, -Int.not_lt, -getElem?_pos, -List.getD_eq_getElem?_getD]
        · simp [-Bool.exists_bool, -Int.not_le, -Int.not_lt, -getElem?_pos, -List.getD_eq_getElem?_getD, allKs, allK, okKey]
        · simp [-Bool.exists_bool, -Int.not_le, -Int.not_lt, -getElem?_pos, -List.getD_eq_getElem?_getD, okKey, allKE, allKs, allK, cA, setH]
        · simp [-Bool.exists_bool, -Int.not_le, -Int.not_lt, -getElem?_pos, -List.getD_eq_getElem?_getD]
      | false =>
        rw [show oAV (r1, r2, r3, false) = .tup [.agg [.nil, I 0, B false], B false] from rfl, show oAH (r1, r2, r3, false) = hemp from rfl] at hM
        refine CallJ.lent (ks := [(2, 0)]) 2 hM (by simp [-Bool.exists_bool, -Int.not_le, -Int.not_lt, -getElem?_pos, -List.getD_eq_getElem?_getD]) (by simp [-Bool.exists_bool, -Int.not_le, -Int.not_lt, -getElem?_pos, -List.getD_eq_getElem?_getD]) (by simp [-Bool.exists_bool, -Int.not_le, -Int.not_lt, -getElem?_pos, -List.getD_eq_getElem?_getD, noSh, noShL, noShD]) (by simp [-Bool.exists_bool, -Int.not_le, -Int.not_lt, -getElem?_pos, -List.getD_eq_getElem?_getD]) ?_
        simp -implicitDefEqProofs -dsimp +contextual [-Bool.exists_bool, -Int.not_le, -Int.not_lt, -getElem?_pos, -List.getD_eq_getElem?_getD]
        rw [show dV (r1, r2, r3, false) = .agg [.nil, I 0, B false] from rfl, show dH cd (r1, r2, r3, false) c3 = cuH cd c3 from rfl]
        refine RLm.toldL [] ?_ ?_ ?_ ?_ ?_
        · simp [-Bool.exists_bool, -Int.not_le, -Int.not_lt, -getElem?_pos, -List.getD_eq_getElem?_getD]
        · simp [-Bool.exists_bool, -Int.not_le, -Int.not_lt, -getElem?_pos, -List.getD_eq_getElem?_getD]
        · simp [-Bool.exists_bool, -Int.not_le, -Int.not_lt, -getElem?_pos, -List.getD_eq_getElem?_getD, allKs, allK, okKey]
        · simp [-Bool.exists_bool, -Int.not_le, -Int.not_lt, -getElem?_pos, -List.getD_eq_getElem?_getD, okKey, allKE, allKs, allK, cA, setH]
        · simp [-Bool.exists_bool, -Int.not_le, -Int.not_lt, -getElem?_pos, -List.getD_eq_getElem?_getD]
end Go.Proofs.Ytjknjekemolndaa.ZL
namespace Go.Proofs.Ytjknjekemolndaa.Abs
open Go Go.RowKit
set_option linter.unusedVariables false
theorem DenVs.dl {M M' : Key → Option Value} {F : Nat → Prop} {w : World} : ∀ {cs : List D} {us : List Value}, DenVs M F w (Abs.dl cs) us → DenVs M' F w (Abs.dl cs) us
  | [], us, h => by
    simp only [Abs.dl, List.map_nil] at h ⊢
    unfold DenVs at h ⊢; exact h
  | x :: cs, us, h => by
    simp only [Abs.dl, List.map_cons] at h ⊢
    unfold DenVs at h ⊢
    obtain ⟨u, r, hu, hd, hr⟩ := h
    refine ⟨u, r, hu, ?_, DenVs.dl (cs := cs) hr⟩
    unfold DenV at hd ⊢; exact hd
theorem RLm.frz {P : Program} {A : Key → Prop} {H : Store} {v r : V} {ks : List Key} {cs : List D} (k0 : Key) (n : Nat) (hv : lendV true H n v = some (r, ks)) (hk : k0.1 = 0) (hA0 : A k0) (hk0 : H k0 = some (.box (dl cs))) (hn : k0 ∉ ks) : RLm P A H v r (hl [(k0, .box (dl cs))]) := by
  intro M0 M F F0 E0 w w0 u hkeep hlt hR hreach h0 hA hd
  let M' : Key → Option Value := fun k => if k.1 = 0 then M0 k else none
  let F' : Nat → Prop := fun b => F b ∧ ¬ Lent H M ks b
  obtain ⟨x, hx⟩ := hA k0 hA0
  have hMk : M' k0 = M k0 := by show (if k0.1 = 0 then M0 k0 else none) = M k0; rw [if_pos hk, hx, h0 k0 x hx]
  have hone : ∀ k e, hl [(k0, Ent.box (dl cs))] k = some e → k = k0 ∧ e = .box (dl cs) := fun k e h => by
    have := hl_mem h
    simp at this
    exact this
  have hRes := lendV_den (Fc := F') hR (fun b hb => hb.1) hv (fun _ b hb => hb.2) hd
  refine ⟨M', F', fun b hb hne => ⟨hkeep b hb hne, ?_⟩, hRes.move (fun _ _ h => by cases h) ⟨fun b hb => .inl hb, fun _ _ _ => rfl⟩, ⟨fun k e h => ?_, fun k k' e e' u u' b h h' _ _ _ _ _ _ => ?_⟩, fun k e u b h hl hu hb => ?_, fun k h => ?_, fun k h => ?_⟩
  · rintro ⟨k, _, e, u, h1, h2, h3, h4⟩
    rcases hreach k e u b h1 h2 h3 h4 with h5 | h5
    · exact hne h5
    · have := hlt b hb; omega
  · obtain ⟨rfl, rfl⟩ := hone k e h
    obtain ⟨u, hu, hok, hF⟩ := hR.ent k _ hk0
    refine ⟨u, by rw [hMk]; exact hu, ?_, fun hlv b hb => ⟨hF hlv b hb, ?_⟩⟩
    · obtain ⟨b, cs', t, h1, h2, h3⟩ := hok
      refine ⟨b, cs', t, h1, h2, ?_⟩
      exact (DenVs.dl (M' := M') h3).move (fun _ _ h => h) ⟨fun b hb => .inl hb.1, fun _ _ _ => rfl⟩
    · rintro ⟨k', hk', e, u', h1, h2, h3, h4⟩
      have := hR.inj k' k e _ u' u b h1 hk0 h2 hlv h3 hu h4 hb
      exact hn (by rw [← this]; exact hk')
  · rw [(hone k e h).1, (hone k' e' h').1]
  · obtain ⟨rfl, rfl⟩ := hone k e h
    rw [hMk] at hu
    exact hreach k _ u b hk0 hl hu hb
  · show (if k.1 = 0 then M0 k else none) = M0 k
    rw [if_pos h]
  · show (if k.1 = 0 then M0 k else none) = none
    rw [if_neg (by omega)]
end Go.Proofs.Ytjknjekemolndaa.Abs
namespace Go.Proofs.Ytjknjekemolndaa.ZL
open Go Go.Proofs.Ytjknjekemolndaa.Abs Go.Proofs.Ytjknjekemolndaa.Abs.Pl Go.RowKit Go.Proofs
set_option linter.unusedVariables false
set_option linter.unusedSimpArgs false
set_option maxRecDepth 100000
theorem RLm.frzC {P : Program} {A : Key → Prop} {H : Store} {v r : V} {cd : List Int} {c : Cu} (ks : List Key) (n : Nat) (hv : lendV true H n v = some (r, ks)) (hA0 : A (0, 1)) (hk0 : H (0, 1) = some (cuE cd c)) (hn : (0, 1) ∉ ks) : RLm P A H v r (cuH cd c) :=
  RLm.frz (cs := [.sl cd.length (cd.map (D.int .u8)), .int .i64 c.1, .int .i64 c.2]) (0, 1) n hv rfl hA0 hk0 hn
def spA (cd : List Int) (a : At) (c : Cu) : At × Cu :=
  if (belowF cd 40 c).1 = 0 then ((a.1, (pickF cd oddL (belowF cd 40 c).2).1, a.2.2), (pickF cd oddL (belowF cd 40 c).2).2)
  else if (belowF cd 40 c).1 = 1 then ((a.1 ++ [2], a.2.1, a.2.2), (belowF cd 40 c).2)
  else if (belowF cd 40 c).1 = 2 then ((a.1, IntKind.wrap .i64 (2 * a.2.1), a.2.2), (belowF cd 40 c).2)
  else (a, (belowF cd 40 c).2)
theorem spA_cu (cd : List Int) (a : At) (c : Cu) (h : c.1 ≤ cd.length) : (spA cd a c).2.1 ≤ cd.length := by
  have h1 := belowF_cu cd 40 c h
  unfold spA
  split
  · exact belowF_cu _ _ _ h1
  · split
    · exact h1
    · split
      · exact h1
      · exact h1
def sA (k : Key) : Prop := k = (0, 1) ∨ k = (0, 2)
abbrev rI (l : List Int) : Ent := .row 3 l.length (dl (l.map (D.int .i64)))
abbrev sH (cd : List Int) (c : Cu) (l : List Int) : Store := hl [((0, 1), cuE cd c), ((0, 2), rI l)]
theorem l2SpoilS (cd : List Int) (c : Cu) (a : At) (hx : ¬ (belowF cd 40 c).1 = 1) (hc : c.1 ≤ cd.length) (h20 : cd.length ≤ 1048576) : Cm Try.prog 57 sA [.ptr (0, 1) 0, .agg [.ref (0, 2) a.1.length, I a.2.1, B a.2.2]] (sH cd c a.1) (.agg [.ref (0, 2) (spA cd a c).1.1.length, I (spA cd a c).1.2.1, B (spA cd a c).1.2.2]) (sH cd (spA cd a c).2 (spA cd a c).1.1) := by
  refine Cm.of [] mixed Try.func57 rfl Try.call57 (by kernel_rfl) rfl ?_
  simp -implicitDefEqProofs -dsimp +contextual [-Bool.exists_bool, -Int.not_le, -Int.not_lt, -getElem?_pos, -List.getD_eq_getElem?_getD, Try.f57]
  have hc1 := belowF_cu cd 40 c hc
  refine callBelow 40 (0, 1) hc h20 (by simp [-Bool.exists_bool, -Int.not_le, -Int.not_lt, -getElem?_pos, -List.getD_eq_getElem?_getD]) (by simp [-Bool.exists_bool, -Int.not_le, -Int.not_lt, -getElem?_pos, -List.getD_eq_getElem?_getD]) (by simp [-Bool.exists_bool, -Int.not_le, -Int.not_lt, -getElem?_pos, -List.getD_eq_getElem?_getD]) ?_
  unfold spA
  generalize belowF cd 40 c = y at *
  obtain ⟨x, c1⟩ := y
  simp only at hx hc1 ⊢
  simp -implicitDefEqProofs -dsimp +contextual [-Bool.exists_bool, -Int.not_le, -Int.not_lt, -getElem?_pos, -List.getD_eq_getElem?_getD, hx]
  refine ⟨fun h0 => ?_, fun h0 => ⟨fun h2 => ?_, fun h2 => ?_⟩⟩
  · refine callOdd (0, 1) hc1 h20 (by simp [-Bool.exists_bool, -Int.not_le, -Int.not_lt, -getElem?_pos, -List.getD_eq_getElem?_getD, setH]) (by simp [-Bool.exists_bool, -Int.not_le, -Int.not_lt, -getElem?_pos, -List.getD_eq_getElem?_getD]) (by simp [-Bool.exists_bool, -Int.not_le, -Int.not_lt, -getElem?_pos, -List.getD_eq_getElem?_getD]) ?_
    simp -implicitDefEqProofs -dsimp +contextual [-Bool.exists_bool, -Int.not_le, -Int.not_lt, -getElem?_pos, -List.getD_eq_getElem?_getD, hx]
    refine RLm.told ?_ ?_ ?_
    · simp [-Bool.exists_bool, -Int.not_le, -Int.not_lt, -getElem?_pos, -List.getD_eq_getElem?_getD, h0]
    · simp [-Bool.exists_bool, -Int.not_le, -Int.not_lt, -getElem?_pos, -List.getD_eq_getElem?_getD, allK, allKs, okKey, sA]
    · simp [-Bool.exists_bool, -Int.not_le, -Int.not_lt, -getElem?_pos, -List.getD_eq_getElem?_getD, okKey, allKE, allKs, allK, sA, setH, h0]
  · refine RLm.told ?_ ?_ ?_
    · simp [-Bool.exists_bool, -Int.not_le, -Int.not_lt, -getElem?_pos, -List.getD_eq_getElem?_getD, h0, h2]
    · simp [-Bool.exists_bool, -Int.not_le, -Int.not_lt, -getElem?_pos, -List.getD_eq_getElem?_getD, allK, allKs, okKey, sA]
    · simp [-Bool.exists_bool, -Int.not_le, -Int.not_lt, -getElem?_pos, -List.getD_eq_getElem?_getD, okKey, allKE, allKs, allK, sA, setH, h0, h2]
  · refine RLm.told ?_ ?_ ?_
    · simp [-Bool.exists_bool, -Int.not_le, -Int.not_lt, -getElem?_pos, -List.getD_eq_getElem?_getD, h0, h2]
    · simp [-Bool.exists_bool, -Int.not_le, -Int.not_lt, -getElem?_pos, -List.getD_eq_getElem?_getD, allK, allKs, okKey, sA]
    · simp [-Bool.exists_bool, -Int.not_le, -Int.not_lt, -getElem?_pos, -List.getD_eq_getElem?_getD, okKey, allKE, allKs, allK, sA, setH, h0, h2]
theorem l2SpoilA (cd : List Int) (c : Cu) (a : At) (hx : (belowF cd 40 c).1 = 1) (ha : a.1.length ≤ 1048576) (hc : c.1 ≤ cd.length) (h20 : cd.length ≤ 1048576) : Cm Try.prog 57 sA [.ptr (0, 1) 0, .agg [.ref (0, 2) a.1.length, I a.2.1, B a.2.2]] (sH cd c a.1) (.agg [.ref (1, 0) (spA cd a c).1.1.length, I (spA cd a c).1.2.1, B (spA cd a c).1.2.2]) (hl [((0, 1), cuE cd (spA cd a c).2), ((1, 0), rI (spA cd a c).1.1)]) := by
  refine Cm.of [] mixed Try.func57 rfl Try.call57 (by kernel_rfl) rfl ?_
  simp -implicitDefEqProofs -dsimp +contextual [-Bool.exists_bool, -Int.not_le, -Int.not_lt, -getElem?_pos, -List.getD_eq_getElem?_getD, Try.f57]
  have hc1 := belowF_cu cd 40 c hc
  refine callBelow 40 (0, 1) hc h20 (by simp [-Bool.exists_bool, -Int.not_le, -Int.not_lt, -getElem?_pos, -List.getD_eq_getElem?_getD]) (by simp [-Bool.exists_bool, -Int.not_le, -Int.not_lt, -getElem?_pos, -List.getD_eq_getElem?_getD]) (by simp [-Bool.exists_bool, -Int.not_le, -Int.not_lt, -getElem?_pos, -List.getD_eq_getElem?_getD]) ?_
  unfold spA
  generalize belowF cd 40 c = y at *
  obtain ⟨x, c1⟩ := y
  simp only at hx hc1 ⊢
  subst hx
  simp -implicitDefEqProofs -dsimp +contextual [-Bool.exists_bool, -Int.not_le, -Int.not_lt, -getElem?_pos, -List.getD_eq_getElem?_getD]
  refine ⟨⟨by omega, by simp [-Bool.exists_bool, -Int.not_le, -Int.not_lt, -getElem?_pos, -List.getD_eq_getElem?_getD, maxLen]; omega⟩, ?_⟩
  refine RLm.toldL [((1, 0), (12, 0))] ?_ ?_ ?_ ?_ ?_
  · simp [-Bool.exists_bool, -Int.not_le, -Int.not_lt, -getElem?_pos, -List.getD_eq_getElem?_getD]
  · simp [-Bool.exists_bool, -Int.not_le, -Int.not_lt, -getElem?_pos, -List.getD_eq_getElem?_getD]
  · simp [-Bool.exists_bool, -Int.not_le, -Int.not_lt, -getElem?_pos, -List.getD_eq_getElem?_getD, allKs, allK, okKey]
  · simp [-Bool.exists_bool, -Int.not_le, -Int.not_lt, -getElem?_pos, -List.getD_eq_getElem?_getD, okKey, allKE, allKs, allK, sA, setH]
  · simp [-Bool.exists_bool, -Int.not_le, -Int.not_lt, -getElem?_pos, -List.getD_eq_getElem?_getD]
theorem l2SpoilN (cd : List Int) (c : Cu) (k : Int) (s : Bool) (hc : c.1 ≤ cd.length) (h20 : cd.length ≤ 1048576) : ∃ a : At, a.1.length ≤ 1 ∧ Cm Try.prog 57 cA [.ptr (0, 1) 0, .agg [.nil, I k, B s]] (cuH cd c) (A1 a) (cuH cd (spA cd ([], k, s) c).2) := by
  have hc1 := belowF_cu cd 40 c hc
  refine ⟨(spA cd ([], k, s) c).1, ?_, ?_⟩
  · unfold spA; repeat' split
    all_goals simp [-Bool.exists_bool, -Int.not_le, -Int.not_lt, -getElem?_pos, -List.getD_eq_getElem?_getD]
  refine Cm.of [] mixed Try.func57 rfl Try.call57 (by kernel_rfl) rfl ?_
  simp -implicitDefEqProofs -dsimp +contextual [-Bool.exists_bool, -Int.not_le, -Int.not_lt, -getElem?_pos, -List.getD_eq_getElem?_getD, Try.f57]
  refine callBelow 40 (0, 1) hc h20 (by simp [-Bool.exists_bool, -Int.not_le, -Int.not_lt, -getElem?_pos, -List.getD_eq_getElem?_getD]) (by simp [-Bool.exists_bool, -Int.not_le, -Int.not_lt, -getElem?_pos, -List.getD_eq_getElem?_getD]) (by simp [-Bool.exists_bool, -Int.not_le, -Int.not_lt, -getElem?_pos, -List.getD_eq_getElem?_getD]) ?_
  unfold spA
  generalize belowF cd 40 c = y at *
  obtain ⟨x, c1⟩ := y
  simp only at hc1 ⊢
  simp -implicitDefEqProofs -dsimp +contextual [-Bool.exists_bool, -Int.not_le, -Int.not_lt, -getElem?_pos, -List.getD_eq_getElem?_getD]
  refine ⟨fun h0 => ?_, fun h0 => ⟨fun h1 => ?_, fun h1 => ⟨fun h2 => ?_, fun h2 => ?_⟩⟩⟩
  · refine callOdd (0, 1) hc1 h20 (by simp [-Bool.exists_bool, -Int.not_le, -Int.not_lt, -getElem?_pos, -List.getD_eq_getElem?_getD, setH]) (by simp [-Bool.exists_bool, -Int.not_le, -Int.not_lt, -getElem?_pos, -List.getD_eq_getElem?_getD]) (by simp [-Bool.exists_bool, -Int.not_le, -Int.not_lt, -getElem?_pos, -List.getD_eq_getElem?_getD]) ?_
    simp -implicitDefEqProofs -dsimp +contextual [-Bool.exists_bool, -Int.not_le, -Int.not_lt, -getElem?_pos, -List.getD_eq_getElem?_getD]
    refine RLm.frzC [] 2 ?_ rfl ?_ ?_
    all_goals simp [-Bool.exists_bool, -Int.not_le, -Int.not_lt, -getElem?_pos, -List.getD_eq_getElem?_getD, setH, h0]
  · refine ⟨by simp [-Bool.exists_bool, -Int.not_le, -Int.not_lt, -getElem?_pos, -List.getD_eq_getElem?_getD, maxLen], ?_⟩
    refine RLm.frzC [(12, 0)] 2 ?_ rfl ?_ ?_
    all_goals simp [-Bool.exists_bool, -Int.not_le, -Int.not_lt, -getElem?_pos, -List.getD_eq_getElem?_getD, setH]
  · refine RLm.frzC [] 2 ?_ rfl ?_ ?_
    all_goals simp [-Bool.exists_bool, -Int.not_le, -Int.not_lt, -getElem?_pos, -List.getD_eq_getElem?_getD, setH]
  · refine RLm.frzC [] 2 ?_ rfl ?_ ?_
    all_goals simp [-Bool.exists_bool, -Int.not_le, -Int.not_lt, -getElem?_pos, -List.getD_eq_getElem?_getD, setH]
def upS2 (kb kr : Key) (e1 e2 : Ent) : Key → Option (Option Ent) := fun k => if k = kb then some (some e1) else if k = kr then some (some e2) else none
def upA2 (kb kr : Key) (s : Nat) (e1 e2 : Ent) : Key → Option (Option Ent) := fun k => if k = (s, 0) then some (some e2) else if k = kb then some (some e1) else if k = kr then some none else none
theorem app_upS2 (kb kr : Key) (e1 e2 : Ent) (H : Store) : app (upS2 kb kr e1 e2) H = setH kb (some e1) (setH kr (some e2) H) := by
  funext k
  unfold app upS2 setH
  by_cases h2 : k = kb
  · simp only [if_pos h2]
  · by_cases h3 : k = kr
    · simp only [if_neg h2, if_pos h3]
    · simp only [if_neg h2, if_neg h3]
theorem app_upA2 (kb kr : Key) (s : Nat) (e1 e2 : Ent) (H : Store) : app (upA2 kb kr s e1 e2) H = setH (s, 0) (some e2) (setH kb (some e1) (setH kr none H)) := by
  funext k
  unfold app upA2 setH
  by_cases h1 : k = (s, 0)
  · simp only [if_pos h1]
  · by_cases h2 : k = kb
    · simp only [if_neg h1, if_pos h2]
    · by_cases h3 : k = kr
      · simp only [if_neg h1, if_neg h2, if_pos h3]
      · simp only [if_neg h1, if_neg h2, if_neg h3]
attribute [simp] app_upS2 app_upA2
theorem callSpoil {N nx s : Nat} {H : Store} {K : Eff → Prop} {cd : List Int} {c : Cu} (kb kr : Key) (a : At) (ha : a.1.length ≤ 1048576) (hc : c.1 ≤ cd.length) (h20 : cd.length ≤ 1048576) (hb : H kb = some (cuE cd c)) (hr : H kr = some (rI a.1)) (hne : kb ≠ kr) (hn : kb.1 < nx ∧ kr.1 < nx) (hs : kb.1 ≠ s ∧ kr.1 ≠ s)
    (k1 : ¬ (belowF cd 40 c).1 = 1 → K ⟨.agg [.ref kr (spA cd a c).1.1.length, I (spA cd a c).1.2.1, B (spA cd a c).1.2.2], [kb, kr], [kb, kr], upS2 kb kr (cuE cd (spA cd a c).2) (rI (spA cd a c).1.1)⟩)
    (k2 : (belowF cd 40 c).1 = 1 → K ⟨.agg [.ref (s, 0) (spA cd a c).1.1.length, I (spA cd a c).1.2.1, B (spA cd a c).1.2.2], [kb, kr], [kb, kr], upA2 kb kr s (cuE cd (spA cd a c).2) (rI (spA cd a c).1.1)⟩) :
    CallJ Try.prog N nx s H 57 [.ptr kb 0, .agg [.ref kr a.1.length, I a.2.1, B a.2.2]] K := by
  have base : ∀ {r : V} {Hr : Store}, Cm Try.prog 57 sA [.ptr (0, 1) 0, .agg [.ref (0, 2) a.1.length, I a.2.1, B a.2.2]] (sH cd c a.1) r Hr → (∀ k e, Hr k = some e → k.1 < 2 ∧ (k.1 = 0 → (sH cd c a.1 k).isSome = true)) → K ⟨mapK (gk (fun j => if j = 0 then kb else kr) s) r, [kb, kr], [kb, kr], upMut (fun j => if j = 0 then kb else kr) (fun k => if k = kb then some 0 else if k = kr then some 1 else none) s Hr⟩ → CallJ Try.prog N nx s H 57 [.ptr kb 0, .agg [.ref kr a.1.length, I a.2.1, B a.2.2]] K := fun {r Hr} hm h2 hk => by
    refine CallJ.mut (fun j => if j = 0 then kb else kr) (fun k => if k = kb then some 0 else if k = kr then some 1 else none) [kb, kr] [] hm ?_ ?_ ?_ ?_ ?_ ?_ h2 ?_ (by simpa [-Bool.exists_bool, -Int.not_le, -Int.not_lt, -getElem?_pos, -List.getD_eq_getElem?_getD] using hk)
    · simp [-Bool.exists_bool, -Int.not_le, -Int.not_lt, -getElem?_pos, -List.getD_eq_getElem?_getD, gk]
    · simp [-Bool.exists_bool, -Int.not_le, -Int.not_lt, -getElem?_pos, -List.getD_eq_getElem?_getD, allKs, allK, sA]
    · rintro k (rfl | rfl)
      · simp [-Bool.exists_bool, -Int.not_le, -Int.not_lt, -getElem?_pos, -List.getD_eq_getElem?_getD, hb]
      · simp [-Bool.exists_bool, -Int.not_le, -Int.not_lt, -getElem?_pos, -List.getD_eq_getElem?_getD, hr]
    · intro k e h
      have h := hl_mem h
      simp [-Bool.exists_bool, -Int.not_le, -Int.not_lt, -getElem?_pos, -List.getD_eq_getElem?_getD] at h
      rcases h with ⟨rfl, rfl⟩ | ⟨rfl, rfl⟩
      · simp [-Bool.exists_bool, -Int.not_le, -Int.not_lt, -getElem?_pos, -List.getD_eq_getElem?_getD, sA, hb, mapE, allKE, allKs, allK, gk]
      · simp [-Bool.exists_bool, -Int.not_le, -Int.not_lt, -getElem?_pos, -List.getD_eq_getElem?_getD, sA, hr, mapE, allKE, allKs, allK, gk, hne.symm]
    · intro k j h
      split at h
      · rename_i e
        obtain rfl := Option.some.inj h
        simp [-Bool.exists_bool, -Int.not_le, -Int.not_lt, -getElem?_pos, -List.getD_eq_getElem?_getD, e]
      · split at h
        · rename_i e1 e2
          obtain rfl := Option.some.inj h
          simp [-Bool.exists_bool, -Int.not_le, -Int.not_lt, -getElem?_pos, -List.getD_eq_getElem?_getD, e2]
        · cases h
    · simp [-Bool.exists_bool, -Int.not_le, -Int.not_lt, -getElem?_pos, -List.getD_eq_getElem?_getD, hne.symm]
    · simp [-Bool.exists_bool, -Int.not_le, -Int.not_lt, -getElem?_pos, -List.getD_eq_getElem?_getD, hb, hr, hn]
  by_cases hx : (belowF cd 40 c).1 = 1
  · refine base (l2SpoilA cd c a hx ha hc h20) ?_ ?_
    · intro k e h
      have h := hl_mem h
      simp [-Bool.exists_bool, -Int.not_le, -Int.not_lt, -getElem?_pos, -List.getD_eq_getElem?_getD] at h
      rcases h with ⟨rfl, rfl⟩ | ⟨rfl, rfl⟩ <;> simp [-Bool.exists_bool, -Int.not_le, -Int.not_lt, -getElem?_pos, -List.getD_eq_getElem?_getD]
    · have := k2 hx
      have e : upMut (fun j => if j = 0 then kb else kr) (fun k => if k = kb then some 0 else if k = kr then some 1 else none) s (hl [((0, 1), cuE cd (spA cd a c).2), ((1, 0), rI (spA cd a c).1.1)]) = upA2 kb kr s (cuE cd (spA cd a c).2) (rI (spA cd a c).1.1) := by
        funext k
        unfold upMut upA2
        obtain ⟨a', b'⟩ := k
        split
        · rename_i hks
          simp only at hks
          subst hks
          have n1 : (a', b') ≠ kb := fun e => hs.1 (by rw [← e])
          have n2 : (a', b') ≠ kr := fun e => hs.2 (by rw [← e])
          by_cases hb0 : b' = 0
          · subst hb0; simp [-Bool.exists_bool, -Int.not_le, -Int.not_lt, -getElem?_pos, -List.getD_eq_getElem?_getD, mapE]
          · simp [-Bool.exists_bool, -Int.not_le, -Int.not_lt, -getElem?_pos, -List.getD_eq_getElem?_getD, n1, n2, hb0]
        · rename_i hks
          simp only at hks
          have e0 : ¬ (a', b') = (s, 0) := fun e => hks (by injection e)
          by_cases e1 : (a', b') = kb
          · simp only [if_neg e0, if_pos e1]; simp [-Bool.exists_bool, -Int.not_le, -Int.not_lt, -getElem?_pos, -List.getD_eq_getElem?_getD, mapE, gk]
          · by_cases e2 : (a', b') = kr
            · simp only [if_neg e0, if_neg e1, if_pos e2]; simp [-Bool.exists_bool, -Int.not_le, -Int.not_lt, -getElem?_pos, -List.getD_eq_getElem?_getD]
            · simp only [if_neg e0, if_neg e1, if_neg e2]
      rw [e]
      simpa [-Bool.exists_bool, -Int.not_le, -Int.not_lt, -getElem?_pos, -List.getD_eq_getElem?_getD, gk] using this
  · refine base (l2SpoilS cd c a hx hc h20) ?_ ?_
    · intro k e h
      have h := hl_mem h
      simp [-Bool.exists_bool, -Int.not_le, -Int.not_lt, -getElem?_pos, -List.getD_eq_getElem?_getD] at h
      rcases h with ⟨rfl, rfl⟩ | ⟨rfl, rfl⟩ <;> simp [-Bool.exists_bool, -Int.not_le, -Int.not_lt, -getElem?_pos, -List.getD_eq_getElem?_getD]
    · have := k1 hx
      have e : upMut (fun j => if j = 0 then kb else kr) (fun k => if k = kb then some 0 else if k = kr then some 1 else none) s (sH cd (spA cd a c).2 (spA cd a c).1.1) = upS2 kb kr (cuE cd (spA cd a c).2) (rI (spA cd a c).1.1) := by
        funext k
        unfold upMut upS2
        split
        · rename_i hks
          have n1 : k ≠ kb := fun e => hs.1 (by rw [← e]; exact hks)
          have n2 : k ≠ kr := fun e => hs.2 (by rw [← e]; exact hks)
          simp [-Bool.exists_bool, -Int.not_le, -Int.not_lt, -getElem?_pos, -List.getD_eq_getElem?_getD, n1, n2, hks]
        · by_cases e1 : k = kb
          · simp only [if_pos e1]; simp [-Bool.exists_bool, -Int.not_le, -Int.not_lt, -getElem?_pos, -List.getD_eq_getElem?_getD, mapE, gk]
          · by_cases e2 : k = kr
            · simp only [if_neg e1, if_pos e2]; simp [-Bool.exists_bool, -Int.not_le, -Int.not_lt, -getElem?_pos, -List.getD_eq_getElem?_getD, mapE, gk]
            · simp only [if_neg e1, if_neg e2]
      rw [e]
      simpa [-Bool.exists_bool, -Int.not_le, -Int.not_lt, -getElem?_pos, -List.getD_eq_getElem?_getD, gk] using this
end Go.Proofs.Ytjknjekemolndaa.ZL
