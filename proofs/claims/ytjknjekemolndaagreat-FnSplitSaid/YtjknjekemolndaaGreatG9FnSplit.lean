/- Texts of the abs road (plain values, what code does to them, and the contracts of the functions that the law reaches). No condition. -/
import Derived.Test.YtjknjekemolndaaGreatG8FnSplit
namespace Go.Proofs.YtjknjekemolndaaGreat.ZL
open Go Go.Proofs.YtjknjekemolndaaGreat.Abs Go.Proofs.YtjknjekemolndaaGreat.Abs.Pl Go.RowKit Go.Proofs
set_option linter.unusedVariables false
set_option linter.unusedSimpArgs false
set_option maxRecDepth 100000
def rD (r : Int × Int) : List D := [.int .i64 r.1, .int .i64 r.2]
def rsD (L : List (Int × Int)) : List D := L.flatMap rD
abbrev Rs (L : List (Int × Int)) : V := .d (.sl L.length (rsD L))
theorem rsD_len (L : List (Int × Int)) : (rsD L).length = L.length * 2 := by induction L with
  | nil => rfl
  | cons a L ih => simp [-Bool.exists_bool, -Int.not_le, -Int.not_lt, -getElem?_pos, -List.getD_eq_getElem?_getD, rsD, rD] at *; omega
theorem rsD_dropE (L : List (Int × Int)) : ∀ i, (rsD L).drop (i * 2) = rsD (L.drop i) := by
  induction L with
  | nil => intro i; simp [-Bool.exists_bool, -Int.not_le, -Int.not_lt, -getElem?_pos, -List.getD_eq_getElem?_getD, rsD]
  | cons a L ih =>
    intro i
    cases i with
    | zero => simp [-Bool.exists_bool, -Int.not_le, -Int.not_lt, -getElem?_pos, -List.getD_eq_getElem?_getD, rsD]
    | succ i =>
      have := ih i
      rw [show (i + 1) * 2 = 2 + i * 2 by omega, ← List.drop_drop]
      simpa [-Bool.exists_bool, -Int.not_le, -Int.not_lt, -getElem?_pos, -List.getD_eq_getElem?_getD, rsD, rD] using this
theorem rsD_take (L : List (Int × Int)) : ∀ i, (rsD L).take (i * 2) = rsD (L.take i) := by
  induction L with
  | nil => intro i; simp [-Bool.exists_bool, -Int.not_le, -Int.not_lt, -getElem?_pos, -List.getD_eq_getElem?_getD, rsD]
  | cons a L ih =>
    intro i
    cases i with
    | zero => simp [-Bool.exists_bool, -Int.not_le, -Int.not_lt, -getElem?_pos, -List.getD_eq_getElem?_getD, rsD]
    | succ i =>
      have := ih i
      rw [show (i + 1) * 2 = 2 + i * 2 by omega, List.take_add]
      simp [-Bool.exists_bool, -Int.not_le, -Int.not_lt, -getElem?_pos, -List.getD_eq_getElem?_getD, rsD, rD] at this ⊢
      exact this
theorem rsD_cons (a : Int × Int) (L : List (Int × Int)) : rsD (a :: L) = rD a ++ rsD L := by simp [-Bool.exists_bool, -Int.not_le, -Int.not_lt, -getElem?_pos, -List.getD_eq_getElem?_getD, rsD]
theorem rsD_append (L M : List (Int × Int)) : rsD (L ++ M) = rsD L ++ rsD M := by simp [-Bool.exists_bool, -Int.not_le, -Int.not_lt, -getElem?_pos, -List.getD_eq_getElem?_getD, rsD]
theorem rsD_nth (L : List (Int × Int)) (i : Nat) (h : i < L.length) : (rsD L).drop (i * 2) = rD (nth L i) ++ rsD (L.drop (i + 1)) := by rw [rsD_dropE, nth_drop h, rsD_cons]
theorem rsD_get0 (L : List (Int × Int)) (i : Nat) (h : i < L.length) : (rsD L)[i * 2]? = some (.int .i64 (nth L i).1) := by
  have := rsD_nth L i h
  have e : (rsD L)[i * 2]? = ((rsD L).drop (i * 2))[0]? := by simp [-Bool.exists_bool, -Int.not_le, -Int.not_lt, -getElem?_pos, -List.getD_eq_getElem?_getD]
  rw [e, this]; rfl
theorem rsD_get1 (L : List (Int × Int)) (i : Nat) (h : i < L.length) : (rsD L)[i * 2 + 1]? = some (.int .i64 (nth L i).2) := by
  have := rsD_nth L i h
  have e : (rsD L)[i * 2 + 1]? = ((rsD L).drop (i * 2))[1]? := by simp [-Bool.exists_bool, -Int.not_le, -Int.not_lt, -getElem?_pos, -List.getD_eq_getElem?_getD]
  rw [e, this]; rfl
theorem rsD_cutD (L : List (Int × Int)) (i : Nat) (h : i < L.length) : (rsD (L.drop i)).take 2 = rD (nth L i) := by rw [← rsD_dropE, rsD_nth L i h]; simp [-Bool.exists_bool, -Int.not_le, -Int.not_lt, -getElem?_pos, -List.getD_eq_getElem?_getD, rD]
theorem dl_rD (c : Int × Int) : dl (rD c) = [I c.1, I c.2] := rfl
attribute [simp] rsD_get0 rsD_get1 rsD_cutD dl_rD rsD_take rsD_dropE rsD_len
theorem nth_rev {α : Type} [Inhabited α] {Z : List α} {n i : Nat} (hz : Z.length = n + 1) (hi : i ≤ n) : nth Z.reverse i = nth Z (n - i) := by
  rw [nth_eq (by simp [-Bool.exists_bool, -Int.not_le, -Int.not_lt, -getElem?_pos, -List.getD_eq_getElem?_getD]; omega), nth_eq (by omega), List.getElem_reverse]
  congr 1
  omega
theorem csD_nil0 : csD [] = [] := rfl
theorem rsD_nil : rsD [] = [] := rfl
attribute [simp] csD_nil0 rsD_nil
abbrev WR (r : List (Int × Int) × Int) : V := .tup [Rs r.1, I r.2]
theorem WitnessOf (d : Int) (L : List At) (h20 : L.length ≤ 1048576) : Cn Tryz.prog 101 [C1 d L] (WR (witD d L)) hemp := by
  refine Cn.of [0, 27] mixed Tryz.func101 rfl Tryz.call101 (by kernel_rfl) rfl ?_
  simp -implicitDefEqProofs -dsimp +contextual [-Bool.exists_bool, -Int.not_le, -Int.not_lt, -getElem?_pos, -List.getD_eq_getElem?_getD, Tryz.f101]
  refine CallJ.pure (IsCell d L h20) rfl (by simp [-Bool.exists_bool, -Int.not_le, -Int.not_lt, -getElem?_pos, -List.getD_eq_getElem?_getD]) ?_
  simp -implicitDefEqProofs -dsimp +contextual [-Bool.exists_bool, -Int.not_le, -Int.not_lt, -getElem?_pos, -List.getD_eq_getElem?_getD]
  refine ⟨fun hc => ?_, fun hc => RLe.pure 2 (by simp [-Bool.exists_bool, -Int.not_le, -Int.not_lt, -getElem?_pos, -List.getD_eq_getElem?_getD, witD, projs, hc, rsD])⟩
  have hd := isCe_d hc
  have h16 := isCe_l hc
  have hL := isCe_a hc
  refine CallJ.pure (l3Normal d hd L (by omega) hL) rfl (by simp [-Bool.exists_bool, -Int.not_le, -Int.not_lt, -getElem?_pos, -List.getD_eq_getElem?_getD]) ?_
  simp -implicitDefEqProofs -dsimp +contextual [-Bool.exists_bool, -Int.not_le, -Int.not_lt, -getElem?_pos, -List.getD_eq_getElem?_getD]
  obtain ⟨D, rfl⟩ : ∃ n : Nat, d = n := ⟨d.toNat, by omega⟩
  have e0 : witD D L = (match chain D D (nrm D L) with
    | none => ([], 2)
    | some Z => if 0 < (nth Z 0).2.length then ([], 1) else match witGo bI Z D [] with
      | none => ([], 2)
      | some p => (p, 0)) := by
    unfold witD projs
    rw [if_pos hc, Int.toNat_natCast]
    try rfl
  refine WP.loop mixed [0, 27] (fun p : Nat × List Ce × List At => ⟨tl [(1, .ptr (0, 0) 0), (4, .ref (1, 0) (p.2.1.length + 1)), (5, I ((p.1 : Int) - 1))], hl [((0, 0), .box [I D, As L]), ((1, 0), .row 26 (p.2.1.length + 1) (dl (csD (p.2.1 ++ [((D : Int), p.2.2)]))))], 2⟩)
    (fun p => p.1 + p.2.1.length = D ∧ p.2.2.length ≤ 16 ∧ allOk D p.2.2 ∧ chain D D (nrm D L) = (chain D p.1 p.2.2).map (· ++ p.2.1.reverse)) (fun p => p.1) (D, [], nrm D L) (by kernel_rfl) ?_ ?_ ?_
  · rw [wr (by omega) (by omega)]
    refine Le.told [((1, 0), (11, 0))] ?_ ?_ ?_ <;> simp [-Bool.exists_bool, -Int.not_le, -Int.not_lt, -getElem?_pos, -List.getD_eq_getElem?_getD, setH, csD_cons, cD, dl, VLes, VLe]
  · refine ⟨rfl, nrm_16 D L h16, nrm_okL hd hL, ?_⟩
    simp [-Bool.exists_bool, -Int.not_le, -Int.not_lt, -getElem?_pos, -List.getD_eq_getElem?_getD]
  · rintro ⟨m, P, R⟩ ⟨hm, hR, hRa, he⟩
    simp only at hm hR hRa he
    have hwp : IntKind.wrap .i64 (P.length : Int) = P.length := wr (by omega) (by omega)
    have hnl : nth (P ++ [((D : Int), R)]) P.length = ((D : Int), R) := nth_last P _
    cases m with
    | zero =>
      have hPD : P.length = D := by omega
      have hget : (csD (P ++ [((D : Int), R)]))[D * 2 + 1]? = some (.sl R.length (asD R)) := by
        have hnlD := hnl
        rw [hPD] at hnlD
        rw [csD_get1 _ D (by simp [-Bool.exists_bool, -Int.not_le, -Int.not_lt, -getElem?_pos, -List.getD_eq_getElem?_getD]; omega), hnlD]
      rw [chain] at he
      have he : chain D D (nrm D L) = some (((D : Int), R) :: P.reverse) := he
      have hZ : projs D L = some (((D : Int), R) :: P.reverse) := by unfold projs; rw [if_pos hc, Int.toNat_natCast]; exact he
      obtain ⟨_, hC, hlast⟩ := projs_ok hZ
      rw [Int.toNat_natCast] at hC hlast
      have hY : P ++ [((D : Int), R)] = (((D : Int), R) :: P.reverse).reverse := by simp [-Bool.exists_bool, -Int.not_le, -Int.not_lt, -getElem?_pos, -List.getD_eq_getElem?_getD]
      rw [he] at e0
      have e0 : witD D L = if 0 < R.length then (([], 1) : List (Int × Int) × Int) else match witGo bI (((D : Int), R) :: P.reverse) D [] with
        | none => ([], 2)
        | some p => (p, 0) := e0
      have hs0 : R.length = 0 → SatL (xp []) (nth (((D : Int), R) :: P.reverse) 0).2 := fun h a ha => by
        have : (nth (((D : Int), R) :: P.reverse) 0).2 = [] := List.eq_nil_of_length_eq_zero h
        rw [this] at ha; cases ha
      simp -implicitDefEqProofs -dsimp +contextual [-Bool.exists_bool, -Int.not_le, -Int.not_lt, -getElem?_pos, -List.getD_eq_getElem?_getD, hget]
      rw [hY]
      have hpl1 : P.length + 1 = D + 1 := by omega
      rw [hpl1]
      generalize (((D : Int), R) :: P.reverse) = Z at *
      refine ⟨by omega, fun hpos => RLe.pure 2 (by rw [e0, if_pos (by omega)]; simp [-Bool.exists_bool, -Int.not_le, -Int.not_lt, -getElem?_pos, -List.getD_eq_getElem?_getD]), fun hpos => ?_⟩
      have hs0 := hs0 (by omega)
      have hzl := hC.len
      clear he hZ hY hlast hget hnl hwp hPD hpl1
      rw [if_neg (by omega)] at e0
      refine WP.loopF mixed [0, 27] (fun p : List (Int × Int) => ⟨tl [(1, .ptr (0, 0) 0), (4, .ref (1, 0) (D + 1)), (8, .ref (2, 0) p.length), (9, I p.length)], hl [((0, 0), .box [I D, As L]), ((1, 0), .row 26 (D + 1) (dl (csD Z.reverse))), ((2, 0), .row 40 p.length (dl (rsD p)))], 3⟩)
        (fun p => p.length ≤ D ∧ (∀ r ∈ p, isRat r.1 r.2 = true) ∧ SatL (xp p) (nth Z p.length).2 ∧ witGo bI Z D [] = witGo bI Z (D - p.length) p) (fun p => D - p.length) [] (by kernel_rfl) ?_ ?_ ?_
      · refine Le.trans (Le.nil 8 40 (by simp [-Bool.exists_bool, -Int.not_le, -Int.not_lt, -getElem?_pos, -List.getD_eq_getElem?_getD])) (Le.told [((2, 0), (15, 0))] ?_ ?_ ?_) <;> simp [-Bool.exists_bool, -Int.not_le, -Int.not_lt, -getElem?_pos, -List.getD_eq_getElem?_getD, setH]
      · exact ⟨Nat.zero_le _, by simp [-Bool.exists_bool, -Int.not_le, -Int.not_lt, -getElem?_pos, -List.getD_eq_getElem?_getD], hs0, rfl⟩
      · intro p
        rintro ⟨hp, hpr, hps, hpw⟩
        by_cases hpD : p.length = D
        · refine ⟨_, Le.refl _ _ _, ?_⟩
          rw [show D - p.length = 0 by omega, witGo] at hpw
          rw [hpw] at e0
          simp -implicitDefEqProofs -dsimp +contextual [-Bool.exists_bool, -Int.not_le, -Int.not_lt, -getElem?_pos, -List.getD_eq_getElem?_getD, hpD]
          exact RLe.pure 3 (by rw [e0]; simp [-Bool.exists_bool, -Int.not_le, -Int.not_lt, -getElem?_pos, -List.getD_eq_getElem?_getD, setH, hpD])
        · have hpl : p.length < D := by omega
          refine ⟨_, Le.refl _ _ _, ?_⟩
          have wD : IntKind.wrap .i64 ((D : Int) - 1) = (D : Int) - 1 := wr (by omega) (by omega)
          have wDp : IntKind.wrap .i64 ((D : Int) - 1 - p.length) = (D : Int) - 1 - p.length := wr (by omega) (by omega)
          have tD : ((D : Int) - 1 - p.length).toNat = D - 1 - p.length := by omega
          have hidx : nth Z.reverse (D - 1 - p.length) = nth Z (p.length + 1) := by rw [nth_rev hzl (by omega)]; congr 1; omega
          have hcut : (csD (Z.reverse.drop (D - 1 - p.length))).take 2 = cD (nth Z (p.length + 1)) := by rw [csD_cutD _ _ (by simp [-Bool.exists_bool, -Int.not_le, -Int.not_lt, -getElem?_pos, -List.getD_eq_getElem?_getD]; omega), hidx]
          have hdim := hC.dim (p.length + 1) (by omega)
          have hx16 := hC.l16 (p.length + 1) (by omega)
          have hxok := hC.ok (p.length + 1) (by omega)
          obtain ⟨m, hm⟩ : ∃ m, D - p.length = m + 1 := ⟨D - p.length - 1, by omega⟩
          rw [hm, witGo] at hpw
          have hstep := fun {M : List At} => wit_step (M := M) (Int.toNat_natCast D).symm hd hC hpl rfl hps
          have hD := hpl
          generalize hV : p.length = v at *
          generalize hcg : nth Z (v + 1) = c at *
          obtain ⟨c1, x⟩ := c
          simp only at hdim hx16 hxok hstep hpw
          subst hdim
          simp -implicitDefEqProofs -dsimp +contextual [-Bool.exists_bool, -Int.not_le, -Int.not_lt, -getElem?_pos, -List.getD_eq_getElem?_getD, hpl, wD, wDp, tD, hcut, hzl]
          refine ⟨by omega, by omega, ?_⟩
          have hlp : ∀ a ∈ x, a.1.length = D := fun a ha => by have := (hxok a ha).2; omega
          refine WP.loop mixed [0, 27] (fun q : Nat × List At => ⟨tl [(1, .ptr (0, 0) 0), (4, .ref (1, 0) (D + 1)), (8, .ref (2, 0) v), (9, I v), (10, .ptr (3, 0) 0), (11, .ptr (4, 0) 0), (12, I q.1)], hl [((0, 0), .box [I D, As L]), ((1, 0), .row 26 (D + 1) (dl (csD Z.reverse))), ((2, 0), .row 40 v (dl (rsD p))), ((3, 0), .box [I D, As x]), ((4, 0), .box [I D, .ref (5, 0) q.1]), ((5, 0), .row 66 q.1 (dl (asD q.2)))], 6⟩)
            (fun q => q.1 ≤ x.length ∧ q.2.length = q.1 ∧ mapO (fixes 0 p) x = (mapO (fixes 0 p) (x.drop q.1)).map (q.2 ++ ·)) (fun q => x.length - q.1) (0, []) (by kernel_rfl) ?_ ?_ ?_
          · refine Le.trans (Le.nilBox (20, 0) 1 66 (c := [I D, .nil]) (by simp [-Bool.exists_bool, -Int.not_le, -Int.not_lt, -getElem?_pos, -List.getD_eq_getElem?_getD, setH]) rfl) (Le.told [((3, 0), (15, 0)), ((4, 0), (20, 0)), ((5, 0), (23, 0))] ?_ ?_ ?_) <;> simp [-Bool.exists_bool, -Int.not_le, -Int.not_lt, -getElem?_pos, -List.getD_eq_getElem?_getD, setH, ELe, asD]
          · exact ⟨Nat.zero_le _, rfl, by simp [-Bool.exists_bool, -Int.not_le, -Int.not_lt, -getElem?_pos, -List.getD_eq_getElem?_getD]⟩
          · rintro ⟨i, M⟩ ⟨hi, hM, hMe⟩
            simp only at hi hM hMe
            by_cases hix : i < x.length
            · simp -implicitDefEqProofs -dsimp +contextual [-Bool.exists_bool, -Int.not_le, -Int.not_lt, -getElem?_pos, -List.getD_eq_getElem?_getD, hpl, hix]
              rw [nth_drop hix, mapO] at hMe
              have hao := hxok _ (nth_mem hix)
              generalize nth x i = a0 at *
              refine WP.loopF mixed [0, 27] (fun q : Nat × At => ⟨tl [(1, .ptr (0, 0) 0), (4, .ref (1, 0) (D + 1)), (8, .ref (2, 0) v), (9, I v), (10, .ptr (3, 0) 0), (11, .ptr (4, 0) 0), (12, I i), (13, .ptr (6, 0) 0), (14, I q.1)], hl [((0, 0), .box [I D, As L]), ((1, 0), .row 26 (D + 1) (dl (csD Z.reverse))), ((2, 0), .row 40 v (dl (rsD p))), ((3, 0), .box [I D, As x]), ((4, 0), .box [I D, .ref (5, 0) i]), ((5, 0), .row 66 i (dl (asD M))), ((6, 0), .box (aV q.2))], 7⟩)
                (fun q => q.1 ≤ v ∧ okA D q.2 ∧ fixes 0 p a0 = fixes q.1 (p.drop q.1) q.2) (fun q => v - q.1) (0, a0) (by kernel_rfl) ?_ ?_ ?_
              · refine Le.told [((6, 0), (16, 0))] ?_ ?_ ?_ <;> simp [-Bool.exists_bool, -Int.not_le, -Int.not_lt, -getElem?_pos, -List.getD_eq_getElem?_getD, setH]
              · exact ⟨Nat.zero_le _, hao, rfl⟩
              · rintro ⟨k, a⟩ ⟨hk, hak, hke⟩
                simp only at hk hak hke
                by_cases hkv : k < v
                · refine ⟨_, Le.refl _ _ _, ?_⟩
                  have hkp : k < p.length := by omega
                  simp -implicitDefEqProofs -dsimp +contextual [-Bool.exists_bool, -Int.not_le, -Int.not_lt, -getElem?_pos, -List.getD_eq_getElem?_getD, hpl, hix, hkv, hkp]
                  refine ⟨by omega, ?_⟩
                  rw [nth_drop hkp, fixes] at hke
                  have hF := FixVariable a k (nth p k).1 (nth p k).2 (okA_small hak)
                  have hfo := fixA_ok (v := k) (n := (nth p k).1) (e := (nth p k).2) hak
                  generalize fixA a k (nth p k).1 (nth p k).2 = f at hF hfo hke
                  obtain ⟨f1, f2, f3, f4⟩ := f
                  simp only [at1] at hfo hke
                  refine CallJ.pure hF rfl (by simp [-Bool.exists_bool, -Int.not_le, -Int.not_lt, -getElem?_pos, -List.getD_eq_getElem?_getD]) ?_
                  simp -implicitDefEqProofs -dsimp +contextual [-Bool.exists_bool, -Int.not_le, -Int.not_lt, -getElem?_pos, -List.getD_eq_getElem?_getD, hpl, hix, hkv, hkp]
                  refine ⟨Quiet.of [] (by kernel_rfl) (by simp [-Bool.exists_bool, -Int.not_le, -Int.not_lt, -getElem?_pos, -List.getD_eq_getElem?_getD, allP, offB]), fun hf => ?_, fun hf => ?_⟩
                  · rw [if_pos hf] at hke
                    refine ⟨k + 1, f1, f2, f3, ⟨hkv, hfo hf, hke⟩, by omega, ?_⟩
                    rw [wr (by omega) (by omega)]
                    refine Le.told [] ?_ ?_ ?_ <;> simp [-Bool.exists_bool, -Int.not_le, -Int.not_lt, -getElem?_pos, -List.getD_eq_getElem?_getD]
                  · rw [if_neg (by simp [-Bool.exists_bool, -Int.not_le, -Int.not_lt, -getElem?_pos, -List.getD_eq_getElem?_getD, hf])] at hke
                    rw [hke] at hMe
                    rw [hMe] at hpw
                    rw [hpw] at e0
                    exact RLe.pure 2 (by rw [e0]; simp [-Bool.exists_bool, -Int.not_le, -Int.not_lt, -getElem?_pos, -List.getD_eq_getElem?_getD])
                · refine ⟨_, Le.refl _ _ _, ?_⟩
                  rw [drop_nil (by omega), fixes] at hke
                  rw [hke] at hMe
                  simp -implicitDefEqProofs -dsimp +contextual [-Bool.exists_bool, -Int.not_le, -Int.not_lt, -getElem?_pos, -List.getD_eq_getElem?_getD, hpl, hix, hkv]
                  refine ⟨⟨by omega, by simp [-Bool.exists_bool, -Int.not_le, -Int.not_lt, -getElem?_pos, -List.getD_eq_getElem?_getD, maxLen]; omega⟩, i + 1, M ++ [a], ⟨hix, by simp [-Bool.exists_bool, -Int.not_le, -Int.not_lt, -getElem?_pos, -List.getD_eq_getElem?_getD, hM], ?_⟩, by omega, ?_⟩
                  · rw [hMe]
                    cases mapO (fixes 0 p) (x.drop (i + 1)) <;> simp [-Bool.exists_bool, -Int.not_le, -Int.not_lt, -getElem?_pos, -List.getD_eq_getElem?_getD]
                  · rw [wr (by omega) (by omega)]
                    refine Le.told [((5, 0), (14, 0))] ?_ ?_ ?_ <;> simp [-Bool.exists_bool, -Int.not_le, -Int.not_lt, -getElem?_pos, -List.getD_eq_getElem?_getD, asD_append, asD, aD]
            · simp -implicitDefEqProofs -dsimp +contextual [-Bool.exists_bool, -Int.not_le, -Int.not_lt, -getElem?_pos, -List.getD_eq_getElem?_getD, hpl, hix]
              obtain rfl : i = x.length := by omega
              rw [drop_nil (by omega), mapO] at hMe
              have hMe : mapO (fixes 0 p) x = some M := by rw [hMe]; simp [-Bool.exists_bool, -Int.not_le, -Int.not_lt, -getElem?_pos, -List.getD_eq_getElem?_getD]
              obtain ⟨⟨hm16, hmo⟩, hsame, hnext⟩ := hstep hMe
              rw [hMe] at hpw
              have hB := l3Bounds D M v (by omega) hm16 hmo
              change Cn _ _ _ (bdV (bS v M)) _ at hB
              rw [hsame] at hB
              simp only at hpw
              refine CallJ.lent (ks := [(5, 0)]) 2 hB (by simp [-Bool.exists_bool, -Int.not_le, -Int.not_lt, -getElem?_pos, -List.getD_eq_getElem?_getD, lendVs, lendV, hM]) (by simp [-Bool.exists_bool, -Int.not_le, -Int.not_lt, -getElem?_pos, -List.getD_eq_getElem?_getD]) rfl (by simp [-Bool.exists_bool, -Int.not_le, -Int.not_lt, -getElem?_pos, -List.getD_eq_getElem?_getD]) ?_
              simp -implicitDefEqProofs -dsimp +contextual [-Bool.exists_bool, -Int.not_le, -Int.not_lt, -getElem?_pos, -List.getD_eq_getElem?_getD, hpl, hix]
              refine CallJ.pure (l3Choose (bI v M)) rfl (by simp [-Bool.exists_bool, -Int.not_le, -Int.not_lt, -getElem?_pos, -List.getD_eq_getElem?_getD]) ?_
              generalize chooseR (bI v M) = r at hnext hpw
              simp -implicitDefEqProofs -dsimp +contextual [-Bool.exists_bool, -Int.not_le, -Int.not_lt, -getElem?_pos, -List.getD_eq_getElem?_getD, hpl, hix]
              refine CallJ.pure (IsRatio r.1 r.2) rfl (by simp [-Bool.exists_bool, -Int.not_le, -Int.not_lt, -getElem?_pos, -List.getD_eq_getElem?_getD]) ?_
              simp -implicitDefEqProofs -dsimp +contextual [-Bool.exists_bool, -Int.not_le, -Int.not_lt, -getElem?_pos, -List.getD_eq_getElem?_getD, hpl, hix]
              refine ⟨fun hr => ?_, fun hr => ?_⟩
              · rw [if_pos hr] at hpw
                refine ⟨⟨by omega, by simp [-Bool.exists_bool, -Int.not_le, -Int.not_lt, -getElem?_pos, -List.getD_eq_getElem?_getD, maxLen]; omega⟩, p ++ [r], ⟨by simp [-Bool.exists_bool, -Int.not_le, -Int.not_lt, -getElem?_pos, -List.getD_eq_getElem?_getD]; omega, fun a b hq => ?_, ?_, ?_⟩, by simp [-Bool.exists_bool, -Int.not_le, -Int.not_lt, -getElem?_pos, -List.getD_eq_getElem?_getD]; omega, ?_⟩
                · rcases List.mem_append.1 hq with hq | hq
                  · exact hpr (a, b) hq
                  · have := List.mem_singleton.1 hq
                    rw [← this] at hr; exact hr
                · have e : (p ++ [r]).length = v + 1 := by simp [-Bool.exists_bool, -Int.not_le, -Int.not_lt, -getElem?_pos, -List.getD_eq_getElem?_getD]; omega
                  rw [e, hcg]; exact hnext hr
                · rw [hpw]; congr 1; simp [-Bool.exists_bool, -Int.not_le, -Int.not_lt, -getElem?_pos, -List.getD_eq_getElem?_getD]; omega
                · rw [wr (by omega) (by omega)]
                  refine Le.told [((2, 0), (23, 0))] ?_ ?_ ?_ <;> simp [-Bool.exists_bool, -Int.not_le, -Int.not_lt, -getElem?_pos, -List.getD_eq_getElem?_getD, rsD_append, rsD_cons, rD, hV]
              · rw [if_neg (by simp [-Bool.exists_bool, -Int.not_le, -Int.not_lt, -getElem?_pos, -List.getD_eq_getElem?_getD, hr])] at hpw
                rw [hpw] at e0
                exact RLe.pure 2 (by rw [e0]; simp [-Bool.exists_bool, -Int.not_le, -Int.not_lt, -getElem?_pos, -List.getD_eq_getElem?_getD])
    | succ n =>
      have e1 : ((n + 1 : Nat) : Int) - 1 = (n : Int) := by omega
      have hcut : (csD ((P ++ [((D : Int), R)]).drop P.length)).take 2 = cD ((D : Int), R) := by rw [csD_cutD _ _ (by simp [-Bool.exists_bool, -Int.not_le, -Int.not_lt, -getElem?_pos, -List.getD_eq_getElem?_getD]), hnl]
      rw [e1]
      simp -implicitDefEqProofs -dsimp +contextual [-Bool.exists_bool, -Int.not_le, -Int.not_lt, -getElem?_pos, -List.getD_eq_getElem?_getD, hwp, hcut]
      refine ⟨by omega, by omega, ?_⟩
      have hdr := l3Drop D hd n R hR hRa (by omega)
      have hok := dropC_ok hd n hR hRa
      refine CallJ.pure hdr rfl (by simp [-Bool.exists_bool, -Int.not_le, -Int.not_lt, -getElem?_pos, -List.getD_eq_getElem?_getD]) ?_
      rw [chain] at he
      generalize dropC D n R = r at hok he ⊢
      obtain ⟨r1, r2, r3⟩ := r
      simp only at hok he ⊢
      simp -implicitDefEqProofs -dsimp +contextual [-Bool.exists_bool, -Int.not_le, -Int.not_lt, -getElem?_pos, -List.getD_eq_getElem?_getD]
      refine ⟨fun hf => ?_, fun hf => ?_⟩
      · obtain ⟨rfl, h1, h2⟩ := hok hf
        rw [if_pos hf] at he
        refine ⟨⟨by omega, by simp [-Bool.exists_bool, -Int.not_le, -Int.not_lt, -getElem?_pos, -List.getD_eq_getElem?_getD, maxLen]; omega⟩, n, P ++ [((D : Int), R)], r2, ⟨by simp [-Bool.exists_bool, -Int.not_le, -Int.not_lt, -getElem?_pos, -List.getD_eq_getElem?_getD]; omega, h1, h2, ?_⟩, by omega, ?_⟩
        · rw [he]
          cases chain D n r2 <;> simp [-Bool.exists_bool, -Int.not_le, -Int.not_lt, -getElem?_pos, -List.getD_eq_getElem?_getD]
        · rw [wr (by omega) (by omega)]
          refine Le.told [((1, 0), (23, 0))] ?_ ?_ ?_ <;> simp [-Bool.exists_bool, -Int.not_le, -Int.not_lt, -getElem?_pos, -List.getD_eq_getElem?_getD, csD_append, csD_cons, cD]
      · rw [if_neg (by rw [hf]; simp [-Bool.exists_bool, -Int.not_le, -Int.not_lt, -getElem?_pos, -List.getD_eq_getElem?_getD])] at he
        rw [e0, he]
        exact RLe.pure 2 (by simp [-Bool.exists_bool, -Int.not_le, -Int.not_lt, -getElem?_pos, -List.getD_eq_getElem?_getD])
end Go.Proofs.YtjknjekemolndaaGreat.ZL
namespace Go.Proofs.YtjknjekemolndaaGreat.ZL
open Go Go.Proofs.YtjknjekemolndaaGreat.Abs Go.RowKit Go.Proofs
theorem dg125 : digest Tryz.prog 125 = some ⟨.struct [(0, 22), (1, 3), (2, 3)], 3, 40, [.nil, .d (.int .i64 0), .d (.int .i64 0)]⟩ := by kernel_rfl
attribute [simp] dg125
end Go.Proofs.YtjknjekemolndaaGreat.ZL
namespace Go.Proofs.YtjknjekemolndaaGreat.ZL
open Go Go.Proofs.YtjknjekemolndaaGreat.Abs Go.Proofs.YtjknjekemolndaaGreat.Abs.Pl Go.RowKit Go.Proofs
set_option linter.unusedVariables false
set_option linter.unusedSimpArgs false
set_option maxRecDepth 100000
abbrev Bs (cd : List Int) : V := .d (.sl cd.length (cd.map (D.int .u8)))
abbrev Cu := Nat × Int
abbrev cuL (cd : List Int) (c : Cu) : List V := [Bs cd, I c.1, I c.2]
abbrev cuE (cd : List Int) (c : Cu) : Ent := .box (cuL cd c)
abbrev cuH (cd : List Int) (c : Cu) : Store := hl [((0, 1), cuE cd c)]
def cA (k : Key) : Prop := k = (0, 1)
def byteH (h : Int) : Int := IntKind.wrap .i64 (IntKind.wrap .i64 (h * 6364136223846793005) + 1442695040888963407)
def byteX (h : Int) : Int := andI .i64 (xorI .i64 (shrI .i64 h 33) (shrI .i64 h 45)) 255
def byteF (cd : List Int) (c : Cu) : Int × Cu := if c.1 < cd.length then (andI .i64 (IntKind.wrap .i64 (byteX (byteH c.2) + IntKind.wrap .i64 (nth cd c.1))) 255, (c.1 + 1, byteH c.2)) else (byteX (byteH c.2), (c.1, byteH c.2))
theorem and255 (a : Int) : 0 ≤ andI .i64 a 255 ∧ andI .i64 a 255 ≤ 255 := by
  have h : (BitVec.ofInt 64 a &&& BitVec.ofInt 64 255).toNat ≤ 255 := by
    rw [BitVec.toNat_and]
    exact Nat.and_le_right
  have e : andI .i64 a 255 = IntKind.wrap .i64 ((BitVec.ofInt 64 a &&& BitVec.ofInt 64 255).toNat : Int) := rfl
  rw [e, wr (by omega) (by omega)]
  omega
theorem byteF_bd (cd : List Int) (c : Cu) : 0 ≤ (byteF cd c).1 ∧ (byteF cd c).1 ≤ 255 := by
  unfold byteF
  split
  · exact and255 _
  · exact and255 _
theorem byteF_cu (cd : List Int) (c : Cu) (h : c.1 ≤ cd.length) : (byteF cd c).2.1 ≤ cd.length := by
  unfold byteF
  split
  · show c.1 + 1 ≤ cd.length; omega
  · exact h
theorem l1Byte (cd : List Int) (c : Cu) (hc : c.1 ≤ cd.length) (h20 : cd.length ≤ 1048576) : Cm Tryz.prog 139 cA [.ptr (0, 1) 0] (cuH cd c) (I (byteF cd c).1) (cuH cd (byteF cd c).2) := by
  refine Cm.of [] mixed Tryz.func139 rfl Tryz.call139 (by kernel_rfl) rfl ?_
  simp -implicitDefEqProofs -dsimp +contextual [-Bool.exists_bool, -Int.not_le, -Int.not_lt, -getElem?_pos, -List.getD_eq_getElem?_getD, Tryz.f139]
  refine ⟨fun h => ?_, fun h => ?_⟩
  · have e : byteF cd c = (andI .i64 (IntKind.wrap .i64 (byteX (byteH c.2) + IntKind.wrap .i64 (nth cd c.1))) 255, (c.1 + 1, byteH c.2)) := if_pos h
    rw [e, wr (x := (c.1 : Int) + 1) (by omega) (by omega)]
    refine RLm.told ?_ ?_ ?_
    · simp [-Bool.exists_bool, -Int.not_le, -Int.not_lt, -getElem?_pos, -List.getD_eq_getElem?_getD, byteX, byteH]
    · simp [-Bool.exists_bool, -Int.not_le, -Int.not_lt, -getElem?_pos, -List.getD_eq_getElem?_getD, allK]
    · simp [-Bool.exists_bool, -Int.not_le, -Int.not_lt, -getElem?_pos, -List.getD_eq_getElem?_getD, okKey, allKE, allKs, allK, cA, byteH]
  · have e : byteF cd c = (byteX (byteH c.2), (c.1, byteH c.2)) := if_neg h
    rw [e]
    refine RLm.told ?_ ?_ ?_
    · simp [-Bool.exists_bool, -Int.not_le, -Int.not_lt, -getElem?_pos, -List.getD_eq_getElem?_getD, byteX, byteH]
    · simp [-Bool.exists_bool, -Int.not_le, -Int.not_lt, -getElem?_pos, -List.getD_eq_getElem?_getD, allK]
    · simp [-Bool.exists_bool, -Int.not_le, -Int.not_lt, -getElem?_pos, -List.getD_eq_getElem?_getD, okKey, allKE, allKs, allK, cA, byteH]
theorem callCu {N nx s f : Nat} {H : Store} {K : Eff → Prop} {cd : List Int} {c c' : Cu} {r : V} {vs : List V} (kb : Key) (h : Cm Tryz.prog f cA (.ptr (0, 1) 0 :: vs) (cuH cd c) r (cuH cd c')) (hv : ∀ g : Key → Key, mapL g vs = vs) (hvk : ∀ p : Key → Prop, allKs p vs) (hr : ∀ g : Key → Key, mapK g r = r)
    (hH : H kb = some (cuE cd c)) (hs : kb.1 ≠ s) (hn : kb.1 < nx) (hk : K ⟨r, [kb], [kb], up1 kb (some (cuE cd c')) noUp⟩) : CallJ Tryz.prog N nx s H f (.ptr kb 0 :: vs) K := by
  have hup : upMut (fun _ => kb) (fun k => if k = kb then some 0 else none) s (cuH cd c') = up1 kb (some (cuE cd c')) noUp := by
    funext k
    unfold upMut up1
    by_cases h1 : k = kb
    · subst h1
      rw [if_neg hs, if_pos rfl]
      simp [-Bool.exists_bool, -Int.not_le, -Int.not_lt, -getElem?_pos, -List.getD_eq_getElem?_getD, mapE]
    · rw [if_neg h1]
      simp [-Bool.exists_bool, -Int.not_le, -Int.not_lt, -getElem?_pos, -List.getD_eq_getElem?_getD, h1, noUp]
  rw [← hup] at hk
  refine CallJ.mut (fun _ => kb) (fun k => if k = kb then some 0 else none) [kb] [] h ?_ ?_ ?_ ?_ ?_ ?_ ?_ ?_ (by rw [hr]; simpa [-Bool.exists_bool, -Int.not_le, -Int.not_lt, -getElem?_pos, -List.getD_eq_getElem?_getD] using hk)
  · simp [-Bool.exists_bool, -Int.not_le, -Int.not_lt, -getElem?_pos, -List.getD_eq_getElem?_getD, gk, hv]
  · simp [-Bool.exists_bool, -Int.not_le, -Int.not_lt, -getElem?_pos, -List.getD_eq_getElem?_getD, allKs, allK, hvk, cA]
  · rintro k rfl; simp [-Bool.exists_bool, -Int.not_le, -Int.not_lt, -getElem?_pos, -List.getD_eq_getElem?_getD, hH]
  · intro k e h
    simp [-Bool.exists_bool, -Int.not_le, -Int.not_lt, -getElem?_pos, -List.getD_eq_getElem?_getD] at h
    obtain ⟨rfl, rfl⟩ := h
    simp [-Bool.exists_bool, -Int.not_le, -Int.not_lt, -getElem?_pos, -List.getD_eq_getElem?_getD, hH, mapE, allKE, allKs, allK, cA]
  · intro k j h
    simp [-Bool.exists_bool, -Int.not_le, -Int.not_lt, -getElem?_pos, -List.getD_eq_getElem?_getD] at h
    obtain ⟨rfl, rfl⟩ := h
    simp [-Bool.exists_bool, -Int.not_le, -Int.not_lt, -getElem?_pos, -List.getD_eq_getElem?_getD]
  · simp [-Bool.exists_bool, -Int.not_le, -Int.not_lt, -getElem?_pos, -List.getD_eq_getElem?_getD]
  · intro k e h
    simp [-Bool.exists_bool, -Int.not_le, -Int.not_lt, -getElem?_pos, -List.getD_eq_getElem?_getD] at h
    obtain ⟨rfl, rfl⟩ := h
    simp [-Bool.exists_bool, -Int.not_le, -Int.not_lt, -getElem?_pos, -List.getD_eq_getElem?_getD]
  · simp [-Bool.exists_bool, -Int.not_le, -Int.not_lt, -getElem?_pos, -List.getD_eq_getElem?_getD, hH, hn]
theorem mapL_nil (g : Key → Key) : mapL g [] = [] := rfl
def belowF (cd : List Int) (n : Int) (c : Cu) : Int × Cu :=
  if n ≤ 0 then (0, c) else if n ≤ 256 then ((byteF cd c).1.tmod n, (byteF cd c).2) else
    (((byteF cd c).1 * 16777216 + (byteF cd (byteF cd c).2).1 * 65536 + (byteF cd (byteF cd (byteF cd c).2).2).1 * 256 + (byteF cd (byteF cd (byteF cd (byteF cd c).2).2).2).1).tmod n, (byteF cd (byteF cd (byteF cd (byteF cd c).2).2).2).2)
theorem belowF_cu (cd : List Int) (n : Int) (c : Cu) (h : c.1 ≤ cd.length) : (belowF cd n c).2.1 ≤ cd.length := by
  unfold belowF
  split
  · exact h
  · split
    · exact byteF_cu _ _ h
    · exact byteF_cu _ _ (byteF_cu _ _ (byteF_cu _ _ (byteF_cu _ _ h)))
theorem belowF_bd (cd : List Int) {n : Int} (c : Cu) (h : 0 < n) : 0 ≤ (belowF cd n c).1 ∧ (belowF cd n c).1 < n := by
  unfold belowF
  rw [if_neg (by omega)]
  have h1 := byteF_bd cd c
  have h2 := byteF_bd cd (byteF cd c).2
  have h3 := byteF_bd cd (byteF cd (byteF cd c).2).2
  have h4 := byteF_bd cd (byteF cd (byteF cd (byteF cd c).2).2).2
  split
  · exact ⟨Int.tmod_nonneg _ h1.1, Int.tmod_lt_of_pos _ h⟩
  · exact ⟨Int.tmod_nonneg _ (by omega), Int.tmod_lt_of_pos _ h⟩
theorem l1Below (cd : List Int) (n : Int) (c : Cu) (hc : c.1 ≤ cd.length) (h20 : cd.length ≤ 1048576) : Cm Tryz.prog 96 cA [.ptr (0, 1) 0, I n] (cuH cd c) (I (belowF cd n c).1) (cuH cd (belowF cd n c).2) := by
  refine Cm.of [] mixed Tryz.func96 rfl Tryz.call96 (by kernel_rfl) rfl ?_
  simp -implicitDefEqProofs -dsimp +contextual [-Bool.exists_bool, -Int.not_le, -Int.not_lt, -getElem?_pos, -List.getD_eq_getElem?_getD, Tryz.f96]
  refine ⟨fun h => ?_, fun h => ⟨fun h1 => ?_, fun h1 => ?_⟩⟩
  · have e : belowF cd n c = (0, c) := if_pos h
    rw [e]
    refine RLm.told ?_ ?_ ?_
    · simp [-Bool.exists_bool, -Int.not_le, -Int.not_lt, -getElem?_pos, -List.getD_eq_getElem?_getD]
    · simp [-Bool.exists_bool, -Int.not_le, -Int.not_lt, -getElem?_pos, -List.getD_eq_getElem?_getD, allK]
    · simp [-Bool.exists_bool, -Int.not_le, -Int.not_lt, -getElem?_pos, -List.getD_eq_getElem?_getD, okKey, allKE, allKs, allK, cA]
  · have e : belowF cd n c = ((byteF cd c).1.tmod n, (byteF cd c).2) := by unfold belowF; rw [if_neg h, if_pos h1]
    rw [e]
    refine callCu (0, 1) (l1Byte cd c hc h20) mapL_nil (fun _ => by simp [-Bool.exists_bool, -Int.not_le, -Int.not_lt, -getElem?_pos, -List.getD_eq_getElem?_getD, allKs]) (fun g => rfl) (by simp [-Bool.exists_bool, -Int.not_le, -Int.not_lt, -getElem?_pos, -List.getD_eq_getElem?_getD]) (by simp [-Bool.exists_bool, -Int.not_le, -Int.not_lt, -getElem?_pos, -List.getD_eq_getElem?_getD]) (by simp [-Bool.exists_bool, -Int.not_le, -Int.not_lt, -getElem?_pos, -List.getD_eq_getElem?_getD]) ?_
    simp -implicitDefEqProofs -dsimp +contextual [-Bool.exists_bool, -Int.not_le, -Int.not_lt, -getElem?_pos, -List.getD_eq_getElem?_getD]
    refine ⟨by omega, ?_⟩
    refine RLm.told ?_ ?_ ?_
    · simp [-Bool.exists_bool, -Int.not_le, -Int.not_lt, -getElem?_pos, -List.getD_eq_getElem?_getD]
    · simp [-Bool.exists_bool, -Int.not_le, -Int.not_lt, -getElem?_pos, -List.getD_eq_getElem?_getD, allK]
    · simp [-Bool.exists_bool, -Int.not_le, -Int.not_lt, -getElem?_pos, -List.getD_eq_getElem?_getD, okKey, allKE, allKs, allK, cA]
  · have e : belowF cd n c = (((byteF cd c).1 * 16777216 + (byteF cd (byteF cd c).2).1 * 65536 + (byteF cd (byteF cd (byteF cd c).2).2).1 * 256 + (byteF cd (byteF cd (byteF cd (byteF cd c).2).2).2).1).tmod n, (byteF cd (byteF cd (byteF cd (byteF cd c).2).2).2).2) := by unfold belowF; rw [if_neg h, if_neg h1]
    rw [e]
    have b1 := byteF_bd cd c
    have c1 := byteF_cu cd c hc
    refine callCu (0, 1) (l1Byte cd c hc h20) mapL_nil (fun _ => by simp [-Bool.exists_bool, -Int.not_le, -Int.not_lt, -getElem?_pos, -List.getD_eq_getElem?_getD, allKs]) (fun g => rfl) (by simp [-Bool.exists_bool, -Int.not_le, -Int.not_lt, -getElem?_pos, -List.getD_eq_getElem?_getD]) (by simp [-Bool.exists_bool, -Int.not_le, -Int.not_lt, -getElem?_pos, -List.getD_eq_getElem?_getD]) (by simp [-Bool.exists_bool, -Int.not_le, -Int.not_lt, -getElem?_pos, -List.getD_eq_getElem?_getD]) ?_
    generalize byteF cd c = x1 at *
    simp -implicitDefEqProofs -dsimp +contextual [-Bool.exists_bool, -Int.not_le, -Int.not_lt, -getElem?_pos, -List.getD_eq_getElem?_getD]
    have b2 := byteF_bd cd x1.2
    have c2 := byteF_cu cd x1.2 c1
    refine callCu (0, 1) (l1Byte cd x1.2 c1 h20) mapL_nil (fun _ => by simp [-Bool.exists_bool, -Int.not_le, -Int.not_lt, -getElem?_pos, -List.getD_eq_getElem?_getD, allKs]) (fun g => rfl) (by simp [-Bool.exists_bool, -Int.not_le, -Int.not_lt, -getElem?_pos, -List.getD_eq_getElem?_getD]) (by simp [-Bool.exists_bool, -Int.not_le, -Int.not_lt, -getElem?_pos, -List.getD_eq_getElem?_getD]) (by simp [-Bool.exists_bool, -Int.not_le, -Int.not_lt, -getElem?_pos, -List.getD_eq_getElem?_getD]) ?_
    generalize byteF cd x1.2 = x2 at *
    simp -implicitDefEqProofs -dsimp +contextual [-Bool.exists_bool, -Int.not_le, -Int.not_lt, -getElem?_pos, -List.getD_eq_getElem?_getD]
    have b3 := byteF_bd cd x2.2
    have c3 := byteF_cu cd x2.2 c2
    refine callCu (0, 1) (l1Byte cd x2.2 c2 h20) mapL_nil (fun _ => by simp [-Bool.exists_bool, -Int.not_le, -Int.not_lt, -getElem?_pos, -List.getD_eq_getElem?_getD, allKs]) (fun g => rfl) (by simp [-Bool.exists_bool, -Int.not_le, -Int.not_lt, -getElem?_pos, -List.getD_eq_getElem?_getD]) (by simp [-Bool.exists_bool, -Int.not_le, -Int.not_lt, -getElem?_pos, -List.getD_eq_getElem?_getD]) (by simp [-Bool.exists_bool, -Int.not_le, -Int.not_lt, -getElem?_pos, -List.getD_eq_getElem?_getD]) ?_
    generalize byteF cd x2.2 = x3 at *
    simp -implicitDefEqProofs -dsimp +contextual [-Bool.exists_bool, -Int.not_le, -Int.not_lt, -getElem?_pos, -List.getD_eq_getElem?_getD]
    have b4 := byteF_bd cd x3.2
    refine callCu (0, 1) (l1Byte cd x3.2 c3 h20) mapL_nil (fun _ => by simp [-Bool.exists_bool, -Int.not_le, -Int.not_lt, -getElem?_pos, -List.getD_eq_getElem?_getD, allKs]) (fun g => rfl) (by simp [-Bool.exists_bool, -Int.not_le, -Int.not_lt, -getElem?_pos, -List.getD_eq_getElem?_getD]) (by simp [-Bool.exists_bool, -Int.not_le, -Int.not_lt, -getElem?_pos, -List.getD_eq_getElem?_getD]) (by simp [-Bool.exists_bool, -Int.not_le, -Int.not_lt, -getElem?_pos, -List.getD_eq_getElem?_getD]) ?_
    generalize byteF cd x3.2 = x4 at *
    simp -implicitDefEqProofs -dsimp +contextual [-Bool.exists_bool, -Int.not_le, -Int.not_lt, -getElem?_pos, -List.getD_eq_getElem?_getD]
    rw [wr (x := x1.1 * 16777216) (by omega) (by omega), wr (x := x2.1 * 65536) (by omega) (by omega), wr (x := x1.1 * 16777216 + x2.1 * 65536) (by omega) (by omega), wr (x := x3.1 * 256) (by omega) (by omega), wr (x := x1.1 * 16777216 + x2.1 * 65536 + x3.1 * 256) (by omega) (by omega), wr (x := x1.1 * 16777216 + x2.1 * 65536 + x3.1 * 256 + x4.1) (by omega) (by omega)]
    refine ⟨by omega, ?_⟩
    refine RLm.told ?_ ?_ ?_
    · simp [-Bool.exists_bool, -Int.not_le, -Int.not_lt, -getElem?_pos, -List.getD_eq_getElem?_getD]
    · simp [-Bool.exists_bool, -Int.not_le, -Int.not_lt, -getElem?_pos, -List.getD_eq_getElem?_getD, allK]
    · simp [-Bool.exists_bool, -Int.not_le, -Int.not_lt, -getElem?_pos, -List.getD_eq_getElem?_getD, okKey, allKE, allKs, allK, cA]
theorem callBelow {N nx s : Nat} {H : Store} {K : Eff → Prop} {cd : List Int} {c : Cu} (n : Int) (kb : Key) (hc : c.1 ≤ cd.length) (h20 : cd.length ≤ 1048576) (hH : H kb = some (cuE cd c)) (hs : kb.1 ≠ s) (hn : kb.1 < nx) (hk : K ⟨I (belowF cd n c).1, [kb], [kb], up1 kb (some (cuE cd (belowF cd n c).2)) noUp⟩) :
    CallJ Tryz.prog N nx s H 96 [.ptr kb 0, I n] K := callCu kb (l1Below cd n c hc h20) (fun g => rfl) (fun _ => by simp [-Bool.exists_bool, -Int.not_le, -Int.not_lt, -getElem?_pos, -List.getD_eq_getElem?_getD, allKs, allK]) (fun g => rfl) hH hs hn hk
theorem l1Once (cd : List Int) (n : Int) (c : Cu) (hc : c.1 ≤ cd.length) (h20 : cd.length ≤ 1048576) : Cm Tryz.prog 136 cA [.ptr (0, 1) 0, I n] (cuH cd c) (B (decide ((belowF cd n c).1 = 0))) (cuH cd (belowF cd n c).2) := by
  refine Cm.of [] mixed Tryz.func136 rfl Tryz.call136 (by kernel_rfl) rfl ?_
  simp -implicitDefEqProofs -dsimp +contextual [-Bool.exists_bool, -Int.not_le, -Int.not_lt, -getElem?_pos, -List.getD_eq_getElem?_getD, Tryz.f136]
  refine callBelow n (0, 1) hc h20 (by simp [-Bool.exists_bool, -Int.not_le, -Int.not_lt, -getElem?_pos, -List.getD_eq_getElem?_getD]) (by simp [-Bool.exists_bool, -Int.not_le, -Int.not_lt, -getElem?_pos, -List.getD_eq_getElem?_getD]) (by simp [-Bool.exists_bool, -Int.not_le, -Int.not_lt, -getElem?_pos, -List.getD_eq_getElem?_getD]) ?_
  simp -implicitDefEqProofs -dsimp +contextual [-Bool.exists_bool, -Int.not_le, -Int.not_lt, -getElem?_pos, -List.getD_eq_getElem?_getD]
  refine RLm.told ?_ ?_ ?_
  · simp [-Bool.exists_bool, -Int.not_le, -Int.not_lt, -getElem?_pos, -List.getD_eq_getElem?_getD]
  · simp [-Bool.exists_bool, -Int.not_le, -Int.not_lt, -getElem?_pos, -List.getD_eq_getElem?_getD, allK]
  · simp [-Bool.exists_bool, -Int.not_le, -Int.not_lt, -getElem?_pos, -List.getD_eq_getElem?_getD, okKey, allKE, allKs, allK, cA]
theorem callOnce {N nx s : Nat} {H : Store} {K : Eff → Prop} {cd : List Int} {c : Cu} (n : Int) (kb : Key) (hc : c.1 ≤ cd.length) (h20 : cd.length ≤ 1048576) (hH : H kb = some (cuE cd c)) (hs : kb.1 ≠ s) (hn : kb.1 < nx) (hk : K ⟨B (decide ((belowF cd n c).1 = 0)), [kb], [kb], up1 kb (some (cuE cd (belowF cd n c).2)) noUp⟩) :
    CallJ Tryz.prog N nx s H 136 [.ptr kb 0, I n] K := callCu kb (l1Once cd n c hc h20) (fun g => rfl) (fun _ => by simp [-Bool.exists_bool, -Int.not_le, -Int.not_lt, -getElem?_pos, -List.getD_eq_getElem?_getD, allKs, allK]) (fun g => rfl) hH hs hn hk
def pickF (cd : List Int) (l : List Int) (c : Cu) : Int × Cu := (nth l (belowF cd l.length c).1.toNat, (belowF cd l.length c).2)
theorem l1PickInt (cd : List Int) (l : List Int) (c : Cu) (hl : 0 < l.length ∧ l.length ≤ 256) (hc : c.1 ≤ cd.length) (h20 : cd.length ≤ 1048576) : Cm Tryz.prog 113 cA [.ptr (0, 1) 0, Is l] (cuH cd c) (I (pickF cd l c).1) (cuH cd (pickF cd l c).2) := by
  refine Cm.of [] mixed Tryz.func113 rfl Tryz.call113 (by kernel_rfl) rfl ?_
  simp -implicitDefEqProofs -dsimp +contextual [-Bool.exists_bool, -Int.not_le, -Int.not_lt, -getElem?_pos, -List.getD_eq_getElem?_getD, Tryz.f113]
  refine callBelow l.length (0, 1) hc h20 (by simp [-Bool.exists_bool, -Int.not_le, -Int.not_lt, -getElem?_pos, -List.getD_eq_getElem?_getD]) (by simp [-Bool.exists_bool, -Int.not_le, -Int.not_lt, -getElem?_pos, -List.getD_eq_getElem?_getD]) (by simp [-Bool.exists_bool, -Int.not_le, -Int.not_lt, -getElem?_pos, -List.getD_eq_getElem?_getD]) ?_
  have b := belowF_bd cd (n := l.length) c (by omega)
  unfold pickF
  generalize belowF cd l.length c = x at *
  obtain ⟨x, c2⟩ := x
  simp only at b ⊢
  obtain ⟨m, rfl⟩ : ∃ m : Nat, x = m := ⟨x.toNat, by omega⟩
  have hm : m < l.length := by omega
  simp -implicitDefEqProofs -dsimp +contextual [-Bool.exists_bool, -Int.not_le, -Int.not_lt, -getElem?_pos, -List.getD_eq_getElem?_getD, hm]
  refine RLm.told ?_ ?_ ?_
  · simp [-Bool.exists_bool, -Int.not_le, -Int.not_lt, -getElem?_pos, -List.getD_eq_getElem?_getD]
  · simp [-Bool.exists_bool, -Int.not_le, -Int.not_lt, -getElem?_pos, -List.getD_eq_getElem?_getD, allK]
  · simp [-Bool.exists_bool, -Int.not_le, -Int.not_lt, -getElem?_pos, -List.getD_eq_getElem?_getD, okKey, allKE, allKs, allK, cA]
theorem callPick {N nx s : Nat} {H : Store} {K : Eff → Prop} {cd : List Int} {c : Cu} (l : List Int) (kb : Key) (hl : 0 < l.length ∧ l.length ≤ 256) (hc : c.1 ≤ cd.length) (h20 : cd.length ≤ 1048576) (hH : H kb = some (cuE cd c)) (hs : kb.1 ≠ s) (hn : kb.1 < nx) (hk : K ⟨I (pickF cd l c).1, [kb], [kb], up1 kb (some (cuE cd (pickF cd l c).2)) noUp⟩) :
    CallJ Tryz.prog N nx s H 113 [.ptr kb 0, Is l] K := callCu kb (l1PickInt cd l c hl hc h20) (fun g => rfl) (fun _ => by simp [-Bool.exists_bool, -Int.not_le, -Int.not_lt, -getElem?_pos, -List.getD_eq_getElem?_getD, allKs, allK]) (fun g => rfl) hH hs hn hk
theorem dl_tail (l : List D) : (dl l).tail = dl l.tail := by cases l <;> rfl
attribute [simp] dl_tail
def oddL : List Int := [0, 1, -1, 2, 400000000, -400000000, 400000001, -400000001, 399999999, 9223372036854775807, -9223372036854775808]
theorem l1Odd (cd : List Int) (c : Cu) (hc : c.1 ≤ cd.length) (h20 : cd.length ≤ 1048576) : Cm Tryz.prog 134 cA [.ptr (0, 1) 0] (cuH cd c) (I (pickF cd oddL c).1) (cuH cd (pickF cd oddL c).2) := by
  refine Cm.of [] mixed Tryz.func134 rfl Tryz.call134 (by kernel_rfl) rfl ?_
  simp -implicitDefEqProofs -dsimp +contextual [-Bool.exists_bool, -Int.not_le, -Int.not_lt, -getElem?_pos, -List.getD_eq_getElem?_getD, Tryz.f134]
  refine callPick oddL (0, 1) (by simp [-Bool.exists_bool, -Int.not_le, -Int.not_lt, -getElem?_pos, -List.getD_eq_getElem?_getD, oddL]) hc h20 (by simp [-Bool.exists_bool, -Int.not_le, -Int.not_lt, -getElem?_pos, -List.getD_eq_getElem?_getD]) (by simp [-Bool.exists_bool, -Int.not_le, -Int.not_lt, -getElem?_pos, -List.getD_eq_getElem?_getD]) (by simp [-Bool.exists_bool, -Int.not_le, -Int.not_lt, -getElem?_pos, -List.getD_eq_getElem?_getD]) ?_
  simp -implicitDefEqProofs -dsimp +contextual [-Bool.exists_bool, -Int.not_le, -Int.not_lt, -getElem?_pos, -List.getD_eq_getElem?_getD]
  refine RLm.told ?_ ?_ ?_
  · simp [-Bool.exists_bool, -Int.not_le, -Int.not_lt, -getElem?_pos, -List.getD_eq_getElem?_getD]
  · simp [-Bool.exists_bool, -Int.not_le, -Int.not_lt, -getElem?_pos, -List.getD_eq_getElem?_getD, allK]
  · simp [-Bool.exists_bool, -Int.not_le, -Int.not_lt, -getElem?_pos, -List.getD_eq_getElem?_getD, okKey, allKE, allKs, allK, cA]
theorem callOdd {N nx s : Nat} {H : Store} {K : Eff → Prop} {cd : List Int} {c : Cu} (kb : Key) (hc : c.1 ≤ cd.length) (h20 : cd.length ≤ 1048576) (hH : H kb = some (cuE cd c)) (hs : kb.1 ≠ s) (hn : kb.1 < nx) (hk : K ⟨I (pickF cd oddL c).1, [kb], [kb], up1 kb (some (cuE cd (pickF cd oddL c).2)) noUp⟩) :
    CallJ Tryz.prog N nx s H 134 [.ptr kb 0] K := callCu kb (l1Odd cd c hc h20) (fun g => rfl) (fun _ => by simp [-Bool.exists_bool, -Int.not_le, -Int.not_lt, -getElem?_pos, -List.getD_eq_getElem?_getD, allKs, allK]) (fun g => rfl) hH hs hn hk
end Go.Proofs.YtjknjekemolndaaGreat.ZL
namespace Go.Proofs.YtjknjekemolndaaGreat.ZL
open Go Go.Proofs.YtjknjekemolndaaGreat.Abs Go.Proofs.YtjknjekemolndaaGreat.Abs.Pl Go.RowKit Go.Proofs
set_option linter.unusedVariables false
set_option linter.unusedSimpArgs false
set_option linter.unnecessarySimpa false
set_option maxRecDepth 100000
def ptN (cd : List Int) (i : Nat) : Int := if i < cd.length then nth cd i else i
def pt1 (cd : List Int) (i : Nat) : Int × Int := mkR ((ptN cd i).tmod 17 - 8) (1 + ((ptN cd i).tdiv 17).tmod 3)
def ptF (cd : List Int) (n : Nat) : List (Int × Int) := (List.range n).map (pt1 cd)
def byts (cd : List Int) : Prop := ∀ y ∈ cd, 0 ≤ y ∧ y ≤ 255
theorem ptF_len (cd : List Int) (n : Nat) : (ptF cd n).length = n := by simp [-Bool.exists_bool, -Int.not_le, -Int.not_lt, -getElem?_pos, -List.getD_eq_getElem?_getD, ptF]
theorem ptF_succ (cd : List Int) (n : Nat) : ptF cd (n + 1) = ptF cd n ++ [pt1 cd n] := by simp [-Bool.exists_bool, -Int.not_le, -Int.not_lt, -getElem?_pos, -List.getD_eq_getElem?_getD, ptF, List.range_succ]
theorem ptN_bd {cd : List Int} (hb : byts cd) {i : Nat} (hi : i ≤ 100) : 0 ≤ ptN cd i ∧ ptN cd i ≤ 255 := by
  unfold ptN
  split
  · rename_i h; exact hb _ (nth_mem h)
  · omega
theorem pt_bd {n : Int} (h : 0 ≤ n ∧ n ≤ 255) : (0 ≤ n.tmod 17 ∧ n.tmod 17 < 17) ∧ (0 ≤ n.tdiv 17 ∧ n.tdiv 17 ≤ 255) ∧ (0 ≤ (n.tdiv 17).tmod 3 ∧ (n.tdiv 17).tmod 3 < 3) := by
  rw [Int.tmod_eq_emod_of_nonneg h.1, Int.tdiv_eq_ediv_of_nonneg h.1, Int.tmod_eq_emod_of_nonneg (by omega)]
  omega
theorem point (cd : List Int) (d : Nat) (hd : d ≤ 100) (hb : byts cd) (h20 : cd.length ≤ 1048576) : Cn Tryz.prog 58 [Bs cd, I d] (Rs (ptF cd d)) hemp := by
  refine Cn.of [] mixed Tryz.func58 rfl Tryz.call58 (by kernel_rfl) rfl ?_
  simp -implicitDefEqProofs -dsimp +contextual [-Bool.exists_bool, -Int.not_le, -Int.not_lt, -getElem?_pos, -List.getD_eq_getElem?_getD, Tryz.f58]
  refine WP.loop mixed [] (fun i : Nat => ⟨tl [(0, Bs cd), (1, I d), (5, .ref (2, 0) i), (6, I i)], hl [((2, 0), .row 40 i (dl (rsD (ptF cd i))))], 3⟩) (fun i => i ≤ d) (fun i => d - i) 0 (by kernel_rfl) ?_ ?_ ?_
  · refine Le.trans (Le.nil 5 40 (by simp [-Bool.exists_bool, -Int.not_le, -Int.not_lt, -getElem?_pos, -List.getD_eq_getElem?_getD])) (Le.told [((2, 0), (4, 0))] ?_ ?_ ?_) <;> simp [-Bool.exists_bool, -Int.not_le, -Int.not_lt, -getElem?_pos, -List.getD_eq_getElem?_getD, setH, ptF, rsD]
  · simp [-Bool.exists_bool, -Int.not_le, -Int.not_lt, -getElem?_pos, -List.getD_eq_getElem?_getD]
  · intro i hi
    by_cases h : i < d
    · have hn := ptN_bd hb (show i ≤ 100 by omega)
      have hp := pt_bd hn
      have hM := MakeRatio ((ptN cd i).tmod 17 - 8) (1 + ((ptN cd i).tdiv 17).tmod 3) (isNum_iff.2 ⟨by omega, by omega⟩) (isNum_iff.2 ⟨by omega, by omega⟩)
      have e1 : mkR ((ptN cd i).tmod 17 - 8) (1 + ((ptN cd i).tdiv 17).tmod 3) = pt1 cd i := rfl
      rw [e1] at hM
      have es := ptF_succ cd i
      generalize pt1 cd i = r at *
      have w1 : IntKind.wrap .i64 (ptN cd i) = ptN cd i := wr (by omega) (by omega)
      have w2 : IntKind.wrap .i64 ((ptN cd i).tmod 17 - 8) = (ptN cd i).tmod 17 - 8 := wr (by omega) (by omega)
      have w3 : IntKind.wrap .i64 ((ptN cd i).tdiv 17) = (ptN cd i).tdiv 17 := wr (by omega) (by omega)
      have w4 : IntKind.wrap .i64 (1 + ((ptN cd i).tdiv 17).tmod 3) = 1 + ((ptN cd i).tdiv 17).tmod 3 := wr (by omega) (by omega)
      by_cases hl : i < cd.length
      · have en : nth cd i = ptN cd i := by rw [ptN, if_pos hl]
        simp -implicitDefEqProofs -dsimp +contextual [-Bool.exists_bool, -Int.not_le, -Int.not_lt, -getElem?_pos, -List.getD_eq_getElem?_getD, h, hl]
        rw [en, w1]
        rw [w2, w3, w4]
        refine CallJ.pure hM rfl (by simp [-Bool.exists_bool, -Int.not_le, -Int.not_lt, -getElem?_pos, -List.getD_eq_getElem?_getD]) ?_
        simp -implicitDefEqProofs -dsimp +contextual [-Bool.exists_bool, -Int.not_le, -Int.not_lt, -getElem?_pos, -List.getD_eq_getElem?_getD, h]
        refine ⟨⟨by omega, by simp [-Bool.exists_bool, -Int.not_le, -Int.not_lt, -getElem?_pos, -List.getD_eq_getElem?_getD, maxLen]; omega⟩, i + 1, h, by omega, ?_⟩
        rw [wr (x := (i : Int) + 1) (by omega) (by omega), es]
        refine Le.told [((2, 0), (28, 0))] ?_ ?_ ?_ <;> simp [-Bool.exists_bool, -Int.not_le, -Int.not_lt, -getElem?_pos, -List.getD_eq_getElem?_getD, rsD_append, rsD_cons, rsD_nil, rD]
      · have en : (i : Int) = ptN cd i := by rw [ptN, if_neg hl]
        simp -implicitDefEqProofs -dsimp +contextual [-Bool.exists_bool, -Int.not_le, -Int.not_lt, -getElem?_pos, -List.getD_eq_getElem?_getD, h, hl]
        rw [← en] at w2 w3 w4 hM hp hn
        rw [w2, (Int.tdiv_eq_ediv_of_nonneg hn.1).symm, w3, w4]
        refine CallJ.pure hM rfl (by simp [-Bool.exists_bool, -Int.not_le, -Int.not_lt, -getElem?_pos, -List.getD_eq_getElem?_getD]) ?_
        simp -implicitDefEqProofs -dsimp +contextual [-Bool.exists_bool, -Int.not_le, -Int.not_lt, -getElem?_pos, -List.getD_eq_getElem?_getD, h]
        refine ⟨⟨by omega, by simp [-Bool.exists_bool, -Int.not_le, -Int.not_lt, -getElem?_pos, -List.getD_eq_getElem?_getD, maxLen]; omega⟩, i + 1, h, by omega, ?_⟩
        rw [wr (x := (i : Int) + 1) (by omega) (by omega), es]
        refine Le.told [((2, 0), (22, 0))] ?_ ?_ ?_ <;> simp [-Bool.exists_bool, -Int.not_le, -Int.not_lt, -getElem?_pos, -List.getD_eq_getElem?_getD, rsD_append, rsD_cons, rsD_nil, rD]
    · simp -implicitDefEqProofs -dsimp +contextual [-Bool.exists_bool, -Int.not_le, -Int.not_lt, -getElem?_pos, -List.getD_eq_getElem?_getD, h]
      have : i = d := by omega
      subst this
      exact RLe.pure 3 (by simp [-Bool.exists_bool, -Int.not_le, -Int.not_lt, -getElem?_pos, -List.getD_eq_getElem?_getD, setH, ptF_len])
end Go.Proofs.YtjknjekemolndaaGreat.ZL
namespace Go.Proofs.YtjknjekemolndaaGreat.ZL
open Go Go.Proofs.YtjknjekemolndaaGreat.Abs Go.Proofs.YtjknjekemolndaaGreat.Abs.Pl Go.RowKit Go.Proofs
set_option linter.unusedVariables false
set_option linter.unusedSimpArgs false
abbrev hV (d : Int) (L : List At) : V := .agg [I d, .ref (0, 0) L.length]
abbrev hH (L : List At) : Store := hl [((0, 0), .row 66 L.length (dl (asD L)))]
theorem l3Copy (d : Int) (L : List At) (h20 : L.length ≤ 1000) (ha : ∀ a ∈ L, a.1.length ≤ 1048576) : Cn Tryz.prog 155 [C1 d L] (hV d L) (hH L) := by
  refine Cn.of [] mixed Tryz.func155 rfl Tryz.call155 (by kernel_rfl) rfl ?_
  simp -implicitDefEqProofs -dsimp +contextual [-Bool.exists_bool, -Int.not_le, -Int.not_lt, -getElem?_pos, -List.getD_eq_getElem?_getD, Tryz.f155]
  refine WP.loop mixed [] (fun i : Nat => ⟨tl [(1, .ptr (0, 0) 0), (2, .ptr (1, 0) 0), (3, .ptr (2, 0) 0), (4, I i)], hl [((0, 0), .box [I d, As L]), ((1, 0), .box [I 0, .nil]), ((2, 0), .box [I d, .ref (3, 0) i]), ((3, 0), .row 66 i (dl (asD (L.take i))))], 4⟩) (fun i => i ≤ L.length) (fun i => L.length - i) 0 (by kernel_rfl) ?_ ?_ ?_
  · refine Le.trans (Le.nilBox (5, 0) 1 66 (c := [I d, .nil]) (by simp [-Bool.exists_bool, -Int.not_le, -Int.not_lt, -getElem?_pos, -List.getD_eq_getElem?_getD, setH]) rfl) (Le.told [((2, 0), (5, 0)), ((3, 0), (8, 0))] ?_ ?_ ?_) <;> simp [-Bool.exists_bool, -Int.not_le, -Int.not_lt, -getElem?_pos, -List.getD_eq_getElem?_getD, setH, ELe, asD]
  · simp [-Bool.exists_bool, -Int.not_le, -Int.not_lt, -getElem?_pos, -List.getD_eq_getElem?_getD]
  · intro i hi
    by_cases h : i < L.length
    · simp -implicitDefEqProofs -dsimp +contextual [-Bool.exists_bool, -Int.not_le, -Int.not_lt, -getElem?_pos, -List.getD_eq_getElem?_getD, h]
      refine CallJ.pure (l3Atom (nth L i) (ha _ (nth_mem h))) rfl (by simp [-Bool.exists_bool, -Int.not_le, -Int.not_lt, -getElem?_pos, -List.getD_eq_getElem?_getD]) ?_
      simp -implicitDefEqProofs -dsimp +contextual [-Bool.exists_bool, -Int.not_le, -Int.not_lt, -getElem?_pos, -List.getD_eq_getElem?_getD, h]
      refine ⟨⟨by omega, by simp [-Bool.exists_bool, -Int.not_le, -Int.not_lt, -getElem?_pos, -List.getD_eq_getElem?_getD, maxLen]; omega⟩, by kernel_rfl, i + 1, h, by omega, ?_⟩
      rw [wr (by omega) (by omega)]
      have hx : asD (L.take (i + 1)) = asD (L.take i) ++ aD (nth L i) := by rw [nth_take h, asD_append]; simp [-Bool.exists_bool, -Int.not_le, -Int.not_lt, -getElem?_pos, -List.getD_eq_getElem?_getD, asD]
      refine Le.told [((3, 0), (18, 0))] ?_ ?_ ?_ <;> simp [-Bool.exists_bool, -Int.not_le, -Int.not_lt, -getElem?_pos, -List.getD_eq_getElem?_getD, hx, aD]
    · obtain rfl : i = L.length := by omega
      simp -implicitDefEqProofs -dsimp +contextual [-Bool.exists_bool, -Int.not_le, -Int.not_lt, -getElem?_pos, -List.getD_eq_getElem?_getD, h]
      refine RLe.told [((0, 0), (3, 0))] ?_ ?_ ?_ <;> simp [-Bool.exists_bool, -Int.not_le, -Int.not_lt, -getElem?_pos, -List.getD_eq_getElem?_getD]
theorem iCopyAtomW (a : At) (h : a.1.length ≤ 1048576) : Cn Tryz.prog 107 [A1 a] (A1 a) hemp := Cn.freeze 2 (iCopyAtom a h) (by simp [-Bool.exists_bool, -Int.not_le, -Int.not_lt, -getElem?_pos, -List.getD_eq_getElem?_getD, lendT, lendV])
def clo (a : At) : At := (a.1, a.2.1, false)
def closD (d : Int) (L : List At) : Int × List At × Bool := if (emptyC d L).2 = true then (if (emptyC d L).1 = true then (d, [noneA d], true) else (d, nrm d (L.map clo), true)) else (0, [], false)
theorem emptyC_ce {d : Int} {L : List At} (h : (emptyC d L).2 = true) : isCe d L = true := by
  unfold emptyC at h
  split at h
  · assumption
  · exact absurd h (by simp [-Bool.exists_bool, -Int.not_le, -Int.not_lt, -getElem?_pos, -List.getD_eq_getElem?_getD])
def curL (L : List At) (i : Nat) : List At := (L.take i).map clo ++ L.drop i
theorem curL_len (L : List At) (i : Nat) : (curL L i).length = L.length := by simp [-Bool.exists_bool, -Int.not_le, -Int.not_lt, -getElem?_pos, -List.getD_eq_getElem?_getD, curL]; omega
theorem asD_put (L : List At) (i : Nat) (h : i < L.length) : (asD (curL L i)).take (i * 3 + 2) ++ D.bool false :: (asD (curL L i)).drop (i * 3 + 2 + 1) = asD (curL L (i + 1)) := by
  have e1 : curL L i = (L.take i).map clo ++ nth L i :: L.drop (i + 1) := by rw [curL, nth_drop h]
  have e2 : curL L (i + 1) = (L.take i).map clo ++ clo (nth L i) :: L.drop (i + 1) := by rw [curL, nth_take h]; simp [-Bool.exists_bool, -Int.not_le, -Int.not_lt, -getElem?_pos, -List.getD_eq_getElem?_getD]
  have hA : (asD ((L.take i).map clo)).length = i * 3 := by rw [asD_len]; simp [-Bool.exists_bool, -Int.not_le, -Int.not_lt, -getElem?_pos, -List.getD_eq_getElem?_getD]; omega
  rw [e1, e2, asD_append, asD_append]
  generalize asD ((L.take i).map clo) = A at hA
  rw [← hA]
  have c1 : asD (nth L i :: L.drop (i + 1)) = aD (nth L i) ++ asD (L.drop (i + 1)) := by simp [-Bool.exists_bool, -Int.not_le, -Int.not_lt, -getElem?_pos, -List.getD_eq_getElem?_getD, asD]
  have c2 : asD (clo (nth L i) :: L.drop (i + 1)) = aD (clo (nth L i)) ++ asD (L.drop (i + 1)) := by simp [-Bool.exists_bool, -Int.not_le, -Int.not_lt, -getElem?_pos, -List.getD_eq_getElem?_getD, asD]
  have t2 : A.take (A.length + 2) = A := List.take_of_length_le (by omega)
  have d2 : A.drop (A.length + 2 + 1) = [] := List.drop_eq_nil_of_le (by omega)
  have k2 : A.length + 2 + 1 - A.length = 3 := by omega
  rw [c1, c2]
  simp [-Bool.exists_bool, -Int.not_le, -Int.not_lt, -getElem?_pos, -List.getD_eq_getElem?_getD, List.take_append, List.drop_append, t2, d2, k2, aD, clo]
theorem clo_all {d : Int} {L : List At} (h : allOk d L) : allOk d (L.map clo) := fun x hx => by
  obtain ⟨a, ha, rfl⟩ := List.mem_map.1 hx
  exact h a ha
theorem closD_small (d : Int) (L : List At) : Small (closD d L).2.1 := by
  unfold closD
  split
  · rename_i h
    have hce := emptyC_ce h
    split
    · exact Small.ok (d := d) (by simp [-Bool.exists_bool, -Int.not_le, -Int.not_lt, -getElem?_pos, -List.getD_eq_getElem?_getD]) (fun x hx => by rw [List.mem_singleton.1 hx]; exact noneA_ok (isCe_d hce))
    · exact Small.ok (nrm_16 d _ (by simpa [-Bool.exists_bool, -Int.not_le, -Int.not_lt, -getElem?_pos, -List.getD_eq_getElem?_getD] using isCe_l hce)) (nrm_okL (isCe_d hce) (clo_all (isCe_a hce)))
  · exact Small.nil
theorem closD_f {d : Int} {L : List At} (h : ¬ (closD d L).2.2 = true) : closD d L = (0, [], false) := by
  unfold closD at h ⊢
  split
  · rename_i h1
    rw [if_pos h1] at h
    split at h <;> exact absurd rfl h
  · rfl
theorem isCe_clo {d : Int} {L : List At} (h : isCe d L = true) : isCe d (L.map clo) = true := by
  rw [isCe_iff] at h ⊢
  refine ⟨h.1, by simpa [-Bool.exists_bool, -Int.not_le, -Int.not_lt, -getElem?_pos, -List.getD_eq_getElem?_getD] using h.2.1, fun x hx => ?_⟩
  obtain ⟨a, ha, rfl⟩ := List.mem_map.1 hx
  exact h.2.2 a ha
end Go.Proofs.YtjknjekemolndaaGreat.ZL
namespace Go.Proofs.YtjknjekemolndaaGreat.ZL
open Go Go.Proofs.YtjknjekemolndaaGreat.Abs Go.Proofs.YtjknjekemolndaaGreat.Abs.Pl Go.RowKit Go.Proofs
set_option linter.unusedVariables false
set_option linter.unusedSimpArgs false
set_option maxRecDepth 100000
theorem iAddRatios (a b : Int × Int) : Cn Tryz.prog 137 [Rp a, Rp b] (Rp (sumR a b)) hemp := by
  refine Cn.of [] mixed Tryz.func137 rfl Tryz.call137 (by kernel_rfl) rfl ?_
  simp -implicitDefEqProofs -dsimp +contextual [-Bool.exists_bool, -Int.not_le, -Int.not_lt, -getElem?_pos, -List.getD_eq_getElem?_getD, Tryz.f137]
  refine CallJ.pure (iIsRatio a.1 a.2) rfl (by simp [-Bool.exists_bool, -Int.not_le, -Int.not_lt, -getElem?_pos, -List.getD_eq_getElem?_getD]) ?_
  simp -implicitDefEqProofs -dsimp +contextual [-Bool.exists_bool, -Int.not_le, -Int.not_lt, -getElem?_pos, -List.getD_eq_getElem?_getD]
  refine ⟨fun h1 => ?_, fun h1 => RLe.pure 2 (by simp [-Bool.exists_bool, -Int.not_le, -Int.not_lt, -getElem?_pos, -List.getD_eq_getElem?_getD, sumR, h1])⟩
  refine CallJ.pure (iIsRatio b.1 b.2) rfl (by simp [-Bool.exists_bool, -Int.not_le, -Int.not_lt, -getElem?_pos, -List.getD_eq_getElem?_getD]) ?_
  simp -implicitDefEqProofs -dsimp +contextual [-Bool.exists_bool, -Int.not_le, -Int.not_lt, -getElem?_pos, -List.getD_eq_getElem?_getD, h1]
  refine ⟨fun h2 => ?_, fun h2 => RLe.pure 2 (by simp [-Bool.exists_bool, -Int.not_le, -Int.not_lt, -getElem?_pos, -List.getD_eq_getElem?_getD, sumR, h1, h2])⟩
  have m1 := rat_mul h1 h2
  have m2 := rat_mul h2 h1
  have m3 := rat_den2 h1 h2
  have w1 : IntKind.wrap .i64 (a.1 * b.2) = a.1 * b.2 := wr (by omega) (by omega)
  have w2 : IntKind.wrap .i64 (b.1 * a.2) = b.1 * a.2 := wr (by omega) (by omega)
  rw [w1, w2, wr (by omega) (by omega), wr (by omega) (by omega)]
  refine CallJ.pure (iReduced (a.1 * b.2 + b.1 * a.2) (a.2 * b.2) ⟨by omega, by omega⟩ ⟨by omega, by omega⟩) rfl (by simp [-Bool.exists_bool, -Int.not_le, -Int.not_lt, -getElem?_pos, -List.getD_eq_getElem?_getD]) ?_
  simp -implicitDefEqProofs -dsimp +contextual [-Bool.exists_bool, -Int.not_le, -Int.not_lt, -getElem?_pos, -List.getD_eq_getElem?_getD, h1, h2]
  exact RLe.pure 2 (by simp [-Bool.exists_bool, -Int.not_le, -Int.not_lt, -getElem?_pos, -List.getD_eq_getElem?_getD, sumR, h1, h2])
theorem iMultiplyRatios (a b : Int × Int) : Cn Tryz.prog 138 [Rp a, Rp b] (Rp (prdR a b)) hemp := by
  refine Cn.of [] mixed Tryz.func138 rfl Tryz.call138 (by kernel_rfl) rfl ?_
  simp -implicitDefEqProofs -dsimp +contextual [-Bool.exists_bool, -Int.not_le, -Int.not_lt, -getElem?_pos, -List.getD_eq_getElem?_getD, Tryz.f138]
  refine CallJ.pure (iIsRatio a.1 a.2) rfl (by simp [-Bool.exists_bool, -Int.not_le, -Int.not_lt, -getElem?_pos, -List.getD_eq_getElem?_getD]) ?_
  simp -implicitDefEqProofs -dsimp +contextual [-Bool.exists_bool, -Int.not_le, -Int.not_lt, -getElem?_pos, -List.getD_eq_getElem?_getD]
  refine ⟨fun h1 => ?_, fun h1 => RLe.pure 2 (by simp [-Bool.exists_bool, -Int.not_le, -Int.not_lt, -getElem?_pos, -List.getD_eq_getElem?_getD, prdR, h1])⟩
  refine CallJ.pure (iIsRatio b.1 b.2) rfl (by simp [-Bool.exists_bool, -Int.not_le, -Int.not_lt, -getElem?_pos, -List.getD_eq_getElem?_getD]) ?_
  simp -implicitDefEqProofs -dsimp +contextual [-Bool.exists_bool, -Int.not_le, -Int.not_lt, -getElem?_pos, -List.getD_eq_getElem?_getD, h1]
  refine ⟨fun h2 => ?_, fun h2 => RLe.pure 2 (by simp [-Bool.exists_bool, -Int.not_le, -Int.not_lt, -getElem?_pos, -List.getD_eq_getElem?_getD, prdR, h1, h2])⟩
  have m1 := rat_num2 h1 h2
  have m3 := rat_den2 h1 h2
  rw [wr (by omega) (by omega), wr (by omega) (by omega)]
  refine CallJ.pure (iReduced (a.1 * b.1) (a.2 * b.2) ⟨by omega, by omega⟩ ⟨by omega, by omega⟩) rfl (by simp [-Bool.exists_bool, -Int.not_le, -Int.not_lt, -getElem?_pos, -List.getD_eq_getElem?_getD]) ?_
  simp -implicitDefEqProofs -dsimp +contextual [-Bool.exists_bool, -Int.not_le, -Int.not_lt, -getElem?_pos, -List.getD_eq_getElem?_getD, h1, h2]
  exact RLe.pure 2 (by simp [-Bool.exists_bool, -Int.not_le, -Int.not_lt, -getElem?_pos, -List.getD_eq_getElem?_getD, prdR, h1, h2])
end Go.Proofs.YtjknjekemolndaaGreat.ZL
namespace Go.Proofs.YtjknjekemolndaaGreat.ZL
open Go Go.Proofs.YtjknjekemolndaaGreat.Abs Go.Proofs.YtjknjekemolndaaGreat.Abs.Pl Go.RowKit Go.Proofs
set_option linter.unusedVariables false
set_option linter.unusedSimpArgs false
set_option linter.unnecessarySimpa false
set_option maxRecDepth 100000
theorem iIsPoint (p : List (Int × Int)) (d : Int) (h20 : p.length ≤ 1048576) : Cn Tryz.prog 59 [Rs p, I d] (B (isPoint p d)) hemp := by
  refine Cn.of [] mixed Tryz.func59 rfl Tryz.call59 (by kernel_rfl) rfl ?_
  simp -implicitDefEqProofs -dsimp +contextual [-Bool.exists_bool, -Int.not_le, -Int.not_lt, -getElem?_pos, -List.getD_eq_getElem?_getD, Tryz.f59]
  refine ⟨fun h => ?_, fun h => ?_⟩
  · subst h
    refine WP.loop mixed [] (fun i : Nat => ⟨tl [(11, Rs p), (12, I p.length), (13, I i)], hl [], 1⟩) (fun i => i ≤ p.length ∧ isPoint p p.length = (p.drop i).all fun r => isRat r.1 r.2) (fun i => p.length - i) 0 (by kernel_rfl) ?_ ?_ ?_
    · refine Le.told [] ?_ ?_ ?_ <;> simp [-Bool.exists_bool, -Int.not_le, -Int.not_lt, -getElem?_pos, -List.getD_eq_getElem?_getD]
    · refine ⟨Nat.zero_le _, ?_⟩
      unfold isPoint
      simp [-Bool.exists_bool, -Int.not_le, -Int.not_lt, -getElem?_pos, -List.getD_eq_getElem?_getD]
    · rintro i ⟨hi, he⟩
      by_cases hl : i < p.length
      · rw [nth_drop hl, List.all_cons] at he
        simp -implicitDefEqProofs -dsimp +contextual [-Bool.exists_bool, -Int.not_le, -Int.not_lt, -getElem?_pos, -List.getD_eq_getElem?_getD, hl]
        refine ⟨by omega, ?_⟩
        refine CallJ.pure (iIsRatio _ _) rfl (by simp [-Bool.exists_bool, -Int.not_le, -Int.not_lt, -getElem?_pos, -List.getD_eq_getElem?_getD]) ?_
        simp -implicitDefEqProofs -dsimp +contextual [-Bool.exists_bool, -Int.not_le, -Int.not_lt, -getElem?_pos, -List.getD_eq_getElem?_getD, hl]
        refine ⟨fun h1 => ?_, fun h1 => ?_⟩
        · rw [h1, Bool.true_and] at he
          refine ⟨i + 1, ⟨hl, he⟩, by omega, ?_⟩
          rw [wr (by omega) (by omega)]
          refine Le.told [] ?_ ?_ ?_ <;> simp [-Bool.exists_bool, -Int.not_le, -Int.not_lt, -getElem?_pos, -List.getD_eq_getElem?_getD]
        · rw [h1, Bool.false_and] at he
          exact RLe.bb he.symm
      · rw [drop_nil (by omega)] at he
        simp -implicitDefEqProofs -dsimp +contextual [-Bool.exists_bool, -Int.not_le, -Int.not_lt, -getElem?_pos, -List.getD_eq_getElem?_getD, hl]
        exact RLe.bb (by rw [he]; rfl)
  · exact RLe.bb (by unfold isPoint; simp [-Bool.exists_bool, -Int.not_le, -Int.not_lt, -getElem?_pos, -List.getD_eq_getElem?_getD, h])
def valG : List Int → List (Int × Int) → Int × Int → Int × Int
  | x :: xs, r :: rs, v => valG xs rs (sumR v (prdR (x, 1) r))
  | _, _, v => v
def valI (a : At) (p : List (Int × Int)) : (Int × Int) × Bool := if isAt a.1 a.2.1 = true ∧ isPoint p a.1.length = true then (valG a.1 p (a.2.1, 1), isRat (valG a.1 p (a.2.1, 1)).1 (valG a.1 p (a.2.1, 1)).2) else ((0, 0), false)
theorem iValueOf (a : At) (p : List (Int × Int)) (h20 : p.length ≤ 1048576) : Cn Tryz.prog 94 [A1 a, Rs p] (.tup [Rp (valI a p).1, B (valI a p).2]) hemp := by
  refine Cn.of [0] mixed Tryz.func94 rfl Tryz.call94 (by kernel_rfl) rfl ?_
  simp -implicitDefEqProofs -dsimp +contextual [-Bool.exists_bool, -Int.not_le, -Int.not_lt, -getElem?_pos, -List.getD_eq_getElem?_getD, Tryz.f94]
  refine CallJ.pure (iIsAtom a) rfl (by simp [-Bool.exists_bool, -Int.not_le, -Int.not_lt, -getElem?_pos, -List.getD_eq_getElem?_getD]) ?_
  simp -implicitDefEqProofs -dsimp +contextual [-Bool.exists_bool, -Int.not_le, -Int.not_lt, -getElem?_pos, -List.getD_eq_getElem?_getD]
  refine ⟨fun ha => ?_, fun ha => ?_⟩
  · refine CallJ.pure (iIsPoint p a.1.length h20) rfl (by simp [-Bool.exists_bool, -Int.not_le, -Int.not_lt, -getElem?_pos, -List.getD_eq_getElem?_getD]) ?_
    simp -implicitDefEqProofs -dsimp +contextual [-Bool.exists_bool, -Int.not_le, -Int.not_lt, -getElem?_pos, -List.getD_eq_getElem?_getD, ha]
    refine ⟨fun hp => ?_, fun hp => ?_⟩
    · have hpl : p.length = a.1.length := by have := isPoint_len hp; omega
      have ev : valI a p = (valG a.1 p (a.2.1, 1), isRat (valG a.1 p (a.2.1, 1)).1 (valG a.1 p (a.2.1, 1)).2) := if_pos ⟨ha, hp⟩
      rw [ev]
      refine WP.loop mixed [0] (fun q : Nat × Int × Int => ⟨tl [(1, Rs p), (2, .ptr (0, 0) 0), (4, .ptr (1, 0) 0), (6, .ptr (2, 0) 0), (25, Is a.1), (26, I a.1.length), (27, I q.1)], hl [((0, 0), .box (aV a)), ((1, 0), .box [I 0, I 0]), ((2, 0), .box [I q.2.1, I q.2.2])], 3⟩) (fun q => q.1 ≤ a.1.length ∧ valG a.1 p (a.2.1, 1) = valG (a.1.drop q.1) (p.drop q.1) q.2) (fun q => a.1.length - q.1) (0, a.2.1, 1) (by kernel_rfl) ?_ ?_ ?_
      · refine Le.told [((2, 0), (17, 0))] ?_ ?_ ?_ <;> simp [-Bool.exists_bool, -Int.not_le, -Int.not_lt, -getElem?_pos, -List.getD_eq_getElem?_getD, setH]
      · exact ⟨Nat.zero_le _, by simp [-Bool.exists_bool, -Int.not_le, -Int.not_lt, -getElem?_pos, -List.getD_eq_getElem?_getD]⟩
      · rintro ⟨i, v⟩ ⟨hi, he⟩
        simp only at hi he
        by_cases hl : i < a.1.length
        · have hlp : i < p.length := by omega
          rw [nth_drop hl, nth_drop hlp, valG] at he
          simp -implicitDefEqProofs -dsimp +contextual [-Bool.exists_bool, -Int.not_le, -Int.not_lt, -getElem?_pos, -List.getD_eq_getElem?_getD, hl, hlp]
          refine ⟨by omega, ?_⟩
          refine CallJ.pure (iMultiplyRatios (nth a.1 i, 1) (nth p i)) rfl (by simp [-Bool.exists_bool, -Int.not_le, -Int.not_lt, -getElem?_pos, -List.getD_eq_getElem?_getD]) ?_
          simp -implicitDefEqProofs -dsimp +contextual [-Bool.exists_bool, -Int.not_le, -Int.not_lt, -getElem?_pos, -List.getD_eq_getElem?_getD]
          refine CallJ.pure (iAddRatios v (prdR (nth a.1 i, 1) (nth p i))) rfl (by simp [-Bool.exists_bool, -Int.not_le, -Int.not_lt, -getElem?_pos, -List.getD_eq_getElem?_getD]) ?_
          simp -implicitDefEqProofs -dsimp +contextual [-Bool.exists_bool, -Int.not_le, -Int.not_lt, -getElem?_pos, -List.getD_eq_getElem?_getD]
          refine ⟨Quiet.of [] (by kernel_rfl) (by simp [-Bool.exists_bool, -Int.not_le, -Int.not_lt, -getElem?_pos, -List.getD_eq_getElem?_getD, allP, offB]), i + 1, (sumR v (prdR (nth a.1 i, 1) (nth p i))).1, (sumR v (prdR (nth a.1 i, 1) (nth p i))).2, ⟨hl, he⟩, by omega, ?_⟩
          rw [wr (x := (i : Int) + 1) (by omega) (by omega)]
          refine Le.told [] ?_ ?_ ?_ <;> simp [-Bool.exists_bool, -Int.not_le, -Int.not_lt, -getElem?_pos, -List.getD_eq_getElem?_getD]
        · rw [drop_nil (by omega), drop_nil (by omega)] at he
          simp -implicitDefEqProofs -dsimp +contextual [-Bool.exists_bool, -Int.not_le, -Int.not_lt, -getElem?_pos, -List.getD_eq_getElem?_getD, hl]
          refine CallJ.pure (iIsRatio _ _) rfl (by simp [-Bool.exists_bool, -Int.not_le, -Int.not_lt, -getElem?_pos, -List.getD_eq_getElem?_getD]) ?_
          simp -implicitDefEqProofs -dsimp +contextual [-Bool.exists_bool, -Int.not_le, -Int.not_lt, -getElem?_pos, -List.getD_eq_getElem?_getD]
          rw [he]
          refine ⟨Quiet.of [] (by kernel_rfl) (by simp [-Bool.exists_bool, -Int.not_le, -Int.not_lt, -getElem?_pos, -List.getD_eq_getElem?_getD, allP, offB]), ?_⟩
          exact RLe.pure 2 (by simp [-Bool.exists_bool, -Int.not_le, -Int.not_lt, -getElem?_pos, -List.getD_eq_getElem?_getD, setH, valG])
    · rw [show valI a p = ((0, 0), false) from if_neg (by simp [-Bool.exists_bool, -Int.not_le, -Int.not_lt, -getElem?_pos, -List.getD_eq_getElem?_getD, hp])]
      exact RLe.pure 2 (by simp [-Bool.exists_bool, -Int.not_le, -Int.not_lt, -getElem?_pos, -List.getD_eq_getElem?_getD])
  · rw [show valI a p = ((0, 0), false) from if_neg (by simp [-Bool.exists_bool, -Int.not_le, -Int.not_lt, -getElem?_pos, -List.getD_eq_getElem?_getD, ha])]
    exact RLe.pure 2 (by simp [-Bool.exists_bool, -Int.not_le, -Int.not_lt, -getElem?_pos, -List.getD_eq_getElem?_getD])
def holdI (a : At) (p : List (Int × Int)) : Bool × Bool := if (valI a p).2 = true then (decide ((valI a p).1.1 < 0) || (decide ((valI a p).1.1 = 0) && !a.2.2), true) else (false, false)
theorem iHoldsAt (a : At) (p : List (Int × Int)) (h20 : p.length ≤ 1048576) : Cn Tryz.prog 45 [A1 a, Rs p] (.tup [B (holdI a p).1, B (holdI a p).2]) hemp := by
  refine Cn.of [] mixed Tryz.func45 rfl Tryz.call45 (by kernel_rfl) rfl ?_
  simp -implicitDefEqProofs -dsimp +contextual [-Bool.exists_bool, -Int.not_le, -Int.not_lt, -getElem?_pos, -List.getD_eq_getElem?_getD, Tryz.f45]
  refine CallJ.pure (iValueOf a p h20) rfl (by simp [-Bool.exists_bool, -Int.not_le, -Int.not_lt, -getElem?_pos, -List.getD_eq_getElem?_getD]) ?_
  unfold holdI
  generalize valI a p = y
  obtain ⟨v, f⟩ := y
  simp -implicitDefEqProofs -dsimp +contextual [-Bool.exists_bool, -Int.not_le, -Int.not_lt, -getElem?_pos, -List.getD_eq_getElem?_getD]
  refine ⟨fun h => ⟨fun h1 => ?_, fun h1 => ⟨fun h2 => ?_, fun h2 => ?_⟩⟩, fun h => ?_⟩
  · exact RLe.pure 2 (by simp [-Bool.exists_bool, -Int.not_le, -Int.not_lt, -getElem?_pos, -List.getD_eq_getElem?_getD, h1])
  · exact RLe.pure 2 (by simp [-Bool.exists_bool, -Int.not_le, -Int.not_lt, -getElem?_pos, -List.getD_eq_getElem?_getD, h1, h2])
  · exact RLe.pure 2 (by simp [-Bool.exists_bool, -Int.not_le, -Int.not_lt, -getElem?_pos, -List.getD_eq_getElem?_getD, h1, h2])
  · exact RLe.pure 2 (by simp [-Bool.exists_bool, -Int.not_le, -Int.not_lt, -getElem?_pos, -List.getD_eq_getElem?_getD])
def inGoI (p : List (Int × Int)) : List At → Bool → Bool × Bool
  | [], b => (b, true)
  | a :: T, b => if (holdI a p).2 = true then inGoI p T (b && (holdI a p).1) else (false, false)
def inI (d : Int) (L : List At) (p : List (Int × Int)) : Bool × Bool := if isCe d L = true ∧ isPoint p d = true then inGoI p L true else (false, false)
theorem iInCell (d : Int) (L : List At) (p : List (Int × Int)) (hl20 : L.length ≤ 1048576) (h20 : p.length ≤ 1048576) : Cn Tryz.prog 17 [C1 d L, Rs p] (.tup [B (inI d L p).1, B (inI d L p).2]) hemp := by
  refine Cn.of [] mixed Tryz.func17 rfl Tryz.call17 (by kernel_rfl) rfl ?_
  simp -implicitDefEqProofs -dsimp +contextual [-Bool.exists_bool, -Int.not_le, -Int.not_lt, -getElem?_pos, -List.getD_eq_getElem?_getD, Tryz.f17]
  refine CallJ.pure (iIsCell d L hl20) rfl (by simp [-Bool.exists_bool, -Int.not_le, -Int.not_lt, -getElem?_pos, -List.getD_eq_getElem?_getD]) ?_
  simp -implicitDefEqProofs -dsimp +contextual [-Bool.exists_bool, -Int.not_le, -Int.not_lt, -getElem?_pos, -List.getD_eq_getElem?_getD]
  refine ⟨fun ha => ?_, fun ha => ?_⟩
  · refine CallJ.pure (iIsPoint p d h20) rfl (by simp [-Bool.exists_bool, -Int.not_le, -Int.not_lt, -getElem?_pos, -List.getD_eq_getElem?_getD]) ?_
    simp -implicitDefEqProofs -dsimp +contextual [-Bool.exists_bool, -Int.not_le, -Int.not_lt, -getElem?_pos, -List.getD_eq_getElem?_getD, ha]
    refine ⟨fun hp => ?_, fun hp => ?_⟩
    · rw [show inI d L p = inGoI p L true from if_pos ⟨ha, hp⟩]
      refine WP.loop mixed [] (fun q : Nat × Bool => ⟨tl [(1, Rs p), (6, B q.2), (22, As L), (23, I L.length), (24, I q.1)], hl [], 1⟩) (fun q => q.1 ≤ L.length ∧ inGoI p L true = inGoI p (L.drop q.1) q.2) (fun q => L.length - q.1) (0, true) (by kernel_rfl) ?_ ?_ ?_
      · refine Le.told [] ?_ ?_ ?_ <;> simp [-Bool.exists_bool, -Int.not_le, -Int.not_lt, -getElem?_pos, -List.getD_eq_getElem?_getD]
      · exact ⟨Nat.zero_le _, by simp [-Bool.exists_bool, -Int.not_le, -Int.not_lt, -getElem?_pos, -List.getD_eq_getElem?_getD]⟩
      · rintro ⟨i, b⟩ ⟨hi, he⟩
        simp only at hi he
        by_cases hl : i < L.length
        · rw [nth_drop hl, inGoI] at he
          simp -implicitDefEqProofs -dsimp +contextual [-Bool.exists_bool, -Int.not_le, -Int.not_lt, -getElem?_pos, -List.getD_eq_getElem?_getD, hl]
          refine CallJ.pure (iHoldsAt (nth L i) p h20) rfl (by simp [-Bool.exists_bool, -Int.not_le, -Int.not_lt, -getElem?_pos, -List.getD_eq_getElem?_getD]) ?_
          generalize holdI (nth L i) p = y at *
          obtain ⟨h1, h2⟩ := y
          simp -implicitDefEqProofs -dsimp +contextual [-Bool.exists_bool, -Int.not_le, -Int.not_lt, -getElem?_pos, -List.getD_eq_getElem?_getD]
          refine ⟨fun hf => ⟨fun hb => ?_, fun hb => ?_⟩, fun hf => ?_⟩
          · rw [if_pos hf, hb, Bool.true_and] at he
            refine ⟨i + 1, h1, ⟨hl, he⟩, by omega, ?_⟩
            rw [wr (x := (i : Int) + 1) (by omega) (by omega)]
            refine Le.told [] ?_ ?_ ?_ <;> simp [-Bool.exists_bool, -Int.not_le, -Int.not_lt, -getElem?_pos, -List.getD_eq_getElem?_getD]
          · rw [if_pos hf, hb, Bool.false_and] at he
            refine ⟨i + 1, false, ⟨hl, he⟩, by omega, ?_⟩
            rw [wr (x := (i : Int) + 1) (by omega) (by omega)]
            refine Le.told [] ?_ ?_ ?_ <;> simp [-Bool.exists_bool, -Int.not_le, -Int.not_lt, -getElem?_pos, -List.getD_eq_getElem?_getD]
          · rw [if_neg (by simp [-Bool.exists_bool, -Int.not_le, -Int.not_lt, -getElem?_pos, -List.getD_eq_getElem?_getD, hf])] at he
            rw [he]
            exact RLe.pure 2 (by simp [-Bool.exists_bool, -Int.not_le, -Int.not_lt, -getElem?_pos, -List.getD_eq_getElem?_getD])
        · rw [drop_nil (by omega), inGoI] at he
          simp -implicitDefEqProofs -dsimp +contextual [-Bool.exists_bool, -Int.not_le, -Int.not_lt, -getElem?_pos, -List.getD_eq_getElem?_getD, hl]
          rw [he]
          exact RLe.pure 2 (by simp [-Bool.exists_bool, -Int.not_le, -Int.not_lt, -getElem?_pos, -List.getD_eq_getElem?_getD])
    · rw [show inI d L p = (false, false) from if_neg (by simp [-Bool.exists_bool, -Int.not_le, -Int.not_lt, -getElem?_pos, -List.getD_eq_getElem?_getD, hp])]
      exact RLe.pure 2 (by simp [-Bool.exists_bool, -Int.not_le, -Int.not_lt, -getElem?_pos, -List.getD_eq_getElem?_getD])
  · rw [show inI d L p = (false, false) from if_neg (by simp [-Bool.exists_bool, -Int.not_le, -Int.not_lt, -getElem?_pos, -List.getD_eq_getElem?_getD, ha])]
    exact RLe.pure 2 (by simp [-Bool.exists_bool, -Int.not_le, -Int.not_lt, -getElem?_pos, -List.getD_eq_getElem?_getD])
end Go.Proofs.YtjknjekemolndaaGreat.ZL
namespace Go.Proofs.YtjknjekemolndaaGreat.ZL
open Go Go.Proofs.YtjknjekemolndaaGreat.Abs Go.Proofs.YtjknjekemolndaaGreat.Abs.Pl Go.RowKit Go.Proofs
set_option linter.unusedVariables false
set_option linter.unusedSimpArgs false
theorem rv_one (n : Int) : rv (n, 1) = (n : Rat) := by
  unfold rv
  simp [-Bool.exists_bool, -Int.not_le, -Int.not_lt, -getElem?_pos, -List.getD_eq_getElem?_getD]
  grind
theorem valG_rv {x : Nat → Rat} : ∀ (l : List Int) (p : List (Int × Int)) (v : Int × Int) (k : Nat), p.length = l.length → (∀ i, i < p.length → x (k + i) = rv (nth p i)) → isRat (valG l p v).1 (valG l p v).2 = true →
    isRat v.1 v.2 = true ∧ rv (valG l p v) = rv v + dt x k l
  | [], p, v, k, hl, hx, h => by
    have e : valG [] p v = v := by cases p <;> rfl
    rw [e] at h ⊢
    refine ⟨h, ?_⟩
    show rv v = rv v + 0
    grind
  | n :: l, [], v, k, hl, hx, h => by simp [-Bool.exists_bool, -Int.not_le, -Int.not_lt, -getElem?_pos, -List.getD_eq_getElem?_getD] at hl
  | n :: l, r :: p, v, k, hl, hx, h => by
    have e : valG (n :: l) (r :: p) v = valG l p (sumR v (prdR (n, 1) r)) := rfl
    rw [e] at h ⊢
    have h0 := hx 0 (by simp [-Bool.exists_bool, -Int.not_le, -Int.not_lt, -getElem?_pos, -List.getD_eq_getElem?_getD])
    have ih := valG_rv (x := x) l p (sumR v (prdR (n, 1) r)) (k + 1) (by simpa [-Bool.exists_bool, -Int.not_le, -Int.not_lt, -getElem?_pos, -List.getD_eq_getElem?_getD] using hl) (fun i hi => by
      have := hx (i + 1) (by simp [-Bool.exists_bool, -Int.not_le, -Int.not_lt, -getElem?_pos, -List.getD_eq_getElem?_getD]; omega)
      rw [show k + 1 + i = k + (i + 1) by omega, this]
      rfl) h
    obtain ⟨i1, i2⟩ := ih
    obtain ⟨s1, s2, s3⟩ := sumR_rv i1
    obtain ⟨p1, p2, p3⟩ := prdR_rv s2
    refine ⟨s1, ?_⟩
    rw [i2, s3, p3, rv_one]
    have h0' : x k = rv r := by rw [Nat.add_zero] at h0; exact h0
    show _ = rv v + ((n : Rat) * x k + dt x (k + 1) l)
    rw [h0']
    grind
theorem rv_neg {r : Int × Int} (h : isRat r.1 r.2 = true) : r.1 < 0 ↔ rv r < 0 := by
  have := rat_lt (a := r) (b := (0, 1)) h rfl
  rw [rv_one] at this
  simp only [Int.mul_one, Int.zero_mul] at this
  simpa [-Bool.exists_bool, -Int.not_le, -Int.not_lt, -getElem?_pos, -List.getD_eq_getElem?_getD] using this
theorem rv_zero {r : Int × Int} (h : isRat r.1 r.2 = true) : r.1 = 0 ↔ rv r = 0 := by
  have := rat_eq (a := r) (b := (0, 1)) h rfl
  rw [rv_one] at this
  simp only [Int.mul_one, Int.zero_mul] at this
  simpa [-Bool.exists_bool, -Int.not_le, -Int.not_lt, -getElem?_pos, -List.getD_eq_getElem?_getD] using this
theorem holdI_sat {x : Nat → Rat} {a : At} {p : List (Int × Int)} (hx : ∀ i, i < p.length → x i = rv (nth p i)) (h : (holdI a p).2 = true) : (holdI a p).1 = true ↔ Sat x a := by
  unfold holdI at h ⊢
  split at h
  · rename_i hv
    rw [if_pos hv]
    unfold valI at hv ⊢
    split at hv
    · rename_i hc
      rw [if_pos hc]
      have hl : p.length = a.1.length := by have := isPoint_len hc.2; omega
      obtain ⟨_, e⟩ := valG_rv (x := x) a.1 p (a.2.1, 1) 0 hl (fun i hi => by rw [Nat.zero_add]; exact hx i hi) hv
      rw [rv_one] at e
      have e : rv (valG a.1 p (a.2.1, 1)) = evA x a := e
      have n1 := rv_neg hv
      have n2 := rv_zero hv
      rw [e] at n1 n2
      unfold Sat
      rw [← n1, ← n2]
      simp [-Bool.exists_bool, -Int.not_le, -Int.not_lt, -getElem?_pos, -List.getD_eq_getElem?_getD]
    · cases hv
  · cases h
theorem inGoI_sat {x : Nat → Rat} {p : List (Int × Int)} (hx : ∀ i, i < p.length → x i = rv (nth p i)) : ∀ {L : List At} {b : Bool}, (inGoI p L b).2 = true → ((inGoI p L b).1 = true ↔ b = true ∧ SatL x L)
  | [], b, h => by
    show b = true ↔ _
    exact ⟨fun h => ⟨h, fun a ha => by simp [-Bool.exists_bool, -Int.not_le, -Int.not_lt, -getElem?_pos, -List.getD_eq_getElem?_getD] at ha⟩, fun h => h.1⟩
  | a :: L, b, h => by
    unfold inGoI at h ⊢
    split at h
    · rename_i hh
      rw [if_pos hh, inGoI_sat hx h, Bool.and_eq_true, holdI_sat hx hh]
      constructor
      · rintro ⟨⟨h1, h2⟩, h3⟩
        refine ⟨h1, fun c hc => ?_⟩
        rcases List.mem_cons.1 hc with rfl | hc
        · exact h2
        · exact h3 c hc
      · rintro ⟨h1, h2⟩
        exact ⟨⟨h1, h2 a (by simp [-Bool.exists_bool, -Int.not_le, -Int.not_lt, -getElem?_pos, -List.getD_eq_getElem?_getD])⟩, fun c hc => h2 c (by simp [-Bool.exists_bool, -Int.not_le, -Int.not_lt, -getElem?_pos, -List.getD_eq_getElem?_getD, hc])⟩
    · cases h
theorem inI_sat {x : Nat → Rat} {d : Int} {L : List At} {p : List (Int × Int)} (hx : ∀ i, i < p.length → x i = rv (nth p i)) (h : (inI d L p).2 = true) : isCe d L = true ∧ (p.length : Int) = d ∧ ((inI d L p).1 = true ↔ SatL x L) := by
  unfold inI at h ⊢
  split at h
  · rename_i hc
    rw [if_pos hc]
    refine ⟨hc.1, isPoint_len hc.2, ?_⟩
    rw [inGoI_sat hx h]
    simp [-Bool.exists_bool, -Int.not_le, -Int.not_lt, -getElem?_pos, -List.getD_eq_getElem?_getD]
  · cases h
theorem inI_f {d : Int} {L : List At} {p : List (Int × Int)} (h : (inI d L p).2 = false) : (inI d L p).1 = false := by
  unfold inI at h ⊢
  split
  · rename_i hc
    rw [if_pos hc] at h
    have : ∀ (L : List At) (b : Bool), (inGoI p L b).2 = false → (inGoI p L b).1 = false := by
      intro L
      induction L with
      | nil => intro b h; cases h
      | cons a L ih =>
        intro b h
        unfold inGoI at h ⊢
        split
        · rename_i hh
          rw [if_pos hh] at h
          exact ih _ h
        · rfl
    exact this L true h
  · rfl
theorem dt_addMul (x : Nat → Rat) (n : Int) : ∀ (c s : List Int) (k : Nat), c.length = s.length → dt x k (addMul n c s) = dt x k s + (n : Rat) * dt x k c
  | [], [], k, _ => by simp [-Bool.exists_bool, -Int.not_le, -Int.not_lt, -getElem?_pos, -List.getD_eq_getElem?_getD, dt, addMul, Rat.add_zero]
  | a :: c, b :: s, k, h => by
    have := dt_addMul x n c s (k + 1) (by simpa [-Bool.exists_bool, -Int.not_le, -Int.not_lt, -getElem?_pos, -List.getD_eq_getElem?_getD] using h)
    have e : addMul n (a :: c) (b :: s) = (b + n * a) :: addMul n c s := by
      unfold addMul
      rw [List.mapIdx_cons]
      simp only [List.getD_cons_zero, List.getD_cons_succ]
    rw [e]
    simp only [dt, this, Rat.intCast_add, Rat.intCast_mul]
    grind
  | [], _ :: _, _, h => by simp [-Bool.exists_bool, -Int.not_le, -Int.not_lt, -getElem?_pos, -List.getD_eq_getElem?_getD] at h
  | _ :: _, [], _, h => by simp [-Bool.exists_bool, -Int.not_le, -Int.not_lt, -getElem?_pos, -List.getD_eq_getElem?_getD] at h
theorem refGo_farkas {x : Nat → Rat} : ∀ {ms : List Int} {L : List At} {S : List Int} {k : Int} {st : Bool}, refGo S k st ms L = true → (∀ a ∈ L, a.1.length = S.length) → SatL x L →
    0 < (k : Rat) + dt x 0 S ∨ ((k : Rat) + dt x 0 S = 0 ∧ st = true)
  | [], L, S, k, st, h, hl, hs => by
    have e : refGo S k st [] L = refEnd S k st := by cases L <;> rfl
    rw [e] at h
    unfold refEnd at h
    simp only [Bool.and_eq_true, List.all_eq_true, decide_eq_true_eq, Bool.or_eq_true] at h
    rw [dt_zero x S 0 h.1, Rat.add_zero]
    rcases h.2 with h3 | ⟨rfl, h3⟩
    · left; exact_mod_cast h3
    · right; exact ⟨by simp [-Bool.exists_bool, -Int.not_le, -Int.not_lt, -getElem?_pos, -List.getD_eq_getElem?_getD], h3⟩
  | n :: ms, [], S, k, st, h, hl, hs => by
    rw [show refGo S k st (n :: ms) [] = refEnd S k st from rfl] at h
    unfold refEnd at h
    simp only [Bool.and_eq_true, List.all_eq_true, decide_eq_true_eq, Bool.or_eq_true] at h
    rw [dt_zero x S 0 h.1, Rat.add_zero]
    rcases h.2 with h3 | ⟨rfl, h3⟩
    · left; exact_mod_cast h3
    · right; exact ⟨by simp [-Bool.exists_bool, -Int.not_le, -Int.not_lt, -getElem?_pos, -List.getD_eq_getElem?_getD], h3⟩
  | n :: ms, a :: L, S, k, st, h, hl, hs => by
    unfold refGo at h
    split at h
    · rename_i hn
      simp only [Bool.and_eq_true, decide_eq_true_eq] at hn
      have hal := hl a (by simp [-Bool.exists_bool, -Int.not_le, -Int.not_lt, -getElem?_pos, -List.getD_eq_getElem?_getD])
      have hml : (addMul n a.1 S).length = S.length := by simp [-Bool.exists_bool, -Int.not_le, -Int.not_lt, -getElem?_pos, -List.getD_eq_getElem?_getD, addMul]
      have ih := refGo_farkas (x := x) h (fun b hb => by rw [hml]; exact hl b (by simp [-Bool.exists_bool, -Int.not_le, -Int.not_lt, -getElem?_pos, -List.getD_eq_getElem?_getD, hb])) (fun b hb => hs b (by simp [-Bool.exists_bool, -Int.not_le, -Int.not_lt, -getElem?_pos, -List.getD_eq_getElem?_getD, hb]))
      rw [dt_addMul x n a.1 S 0 hal] at ih
      have hsa := hs a (by simp [-Bool.exists_bool, -Int.not_le, -Int.not_lt, -getElem?_pos, -List.getD_eq_getElem?_getD])
      have hn0 : (0 : Rat) ≤ (n : Rat) := by exact_mod_cast hn.1
      have ev : evA x a = (a.2.1 : Rat) + dt x 0 a.1 := rfl
      have e : ((k + n * a.2.1 : Int) : Rat) + (dt x 0 S + (n : Rat) * dt x 0 a.1) = ((k : Rat) + dt x 0 S) + (n : Rat) * evA x a := by
        rw [ev]
        simp only [Rat.intCast_add, Rat.intCast_mul]
        grind
      rw [e] at ih
      generalize (k : Rat) + dt x 0 S = E at *
      rcases hsa with hsa | ⟨hsa, hst⟩
      · by_cases hz : n = 0
        · subst hz
          simp [-Bool.exists_bool, -Int.not_le, -Int.not_lt, -getElem?_pos, -List.getD_eq_getElem?_getD] at ih
          rcases ih with ih | ih
          · left; grind
          · right; refine ⟨by grind, ih.2⟩
        · have hp : (0 : Rat) < (n : Rat) := by
            have : 0 < n := by omega
            exact_mod_cast this
          have hm : (n : Rat) * evA x a < 0 := (mulQ_neg hp).2 hsa
          left
          rcases ih with ih | ih
          · grind
          · grind
      · rw [hsa] at ih
        rw [hst] at ih
        simp [-Bool.exists_bool, -Int.not_le, -Int.not_lt, -getElem?_pos, -List.getD_eq_getElem?_getD] at ih
        rcases ih with ih | ih
        · left; grind
        · right; exact ⟨by grind, ih.2⟩
    · cases h
theorem isRef_unsat {d : Int} {L : List At} {m : List Int} (h : isRef d L m = true) : isCe d L = true ∧ ∀ x, ¬ SatL x L := by
  unfold isRef at h
  split at h
  · rename_i hc
    simp only [Bool.and_eq_true, decide_eq_true_eq] at hc
    refine ⟨hc.1, fun x hs => ?_⟩
    have hok := isCe_a hc.1
    have hd := isCe_d hc.1
    have := refGo_farkas (x := x) h (fun a ha => by have := (hok a ha).2; simp [-Bool.exists_bool, -Int.not_le, -Int.not_lt, -getElem?_pos, -List.getD_eq_getElem?_getD]; omega) hs
    rw [dt_zero x _ 0 (fun n hn => (List.mem_replicate.1 hn).2)] at this
    rcases this with h | h
    · simp [-Bool.exists_bool, -Int.not_le, -Int.not_lt, -getElem?_pos, -List.getD_eq_getElem?_getD] at h
      exact absurd h (by grind)
    · cases h.2
  · cases h
end Go.Proofs.YtjknjekemolndaaGreat.ZL
namespace Go.Proofs.YtjknjekemolndaaGreat.ZL
open Go Go.Proofs.YtjknjekemolndaaGreat.Abs Go.Proofs.YtjknjekemolndaaGreat.Abs.Pl Go.RowKit Go.Proofs
set_option linter.unusedVariables false
set_option linter.unusedSimpArgs false
theorem updL_nth {x : Nat → Rat} : ∀ (p : List (Int × Int)) (k i : Nat), i < p.length → updL x k p (k + i) = rv (nth p i)
  | [], k, i, h => by simp [-Bool.exists_bool, -Int.not_le, -Int.not_lt, -getElem?_pos, -List.getD_eq_getElem?_getD] at h
  | q :: p, k, 0, h => by
    show upd _ k (rv q) (k + 0) = _
    unfold upd; rw [if_pos (Nat.add_zero k)]; rfl
  | q :: p, k, i + 1, h => by
    show upd (updL x (k + 1) p) k (rv q) (k + (i + 1)) = _
    unfold upd
    rw [if_neg (by omega), show k + (i + 1) = k + 1 + i by omega, updL_nth p (k + 1) i (by simpa [-Bool.exists_bool, -Int.not_le, -Int.not_lt, -getElem?_pos, -List.getD_eq_getElem?_getD] using h)]
    rfl
theorem xp_nth (p : List (Int × Int)) (i : Nat) (h : i < p.length) : xp p i = rv (nth p i) := by
  have := updL_nth (x := fun _ => 0) p 0 i h
  rwa [Nat.zero_add] at this
theorem witD_cases (d : Int) (L : List At) : (witD d L).2 = 0 ∨ (witD d L).2 = 1 ∨ (witD d L).2 = 2 := by
  unfold witD
  cases projs d L with
  | none => exact .inr (.inr rfl)
  | some Z =>
    dsimp only
    split
    · exact .inr (.inl rfl)
    · cases witGo bI Z d.toNat [] with
      | none => exact .inr (.inr rfl)
      | some p => exact .inl rfl
theorem witD_empty {d : Int} {L : List At} (h : (emptyC d L).2 = true) (h2 : (witD d L).2 ≠ 2) : (emptyC d L).1 = decide ((witD d L).2 = 1) := by
  rw [projs_empty] at h ⊢
  unfold witD at h2 ⊢
  cases hz : projs d L with
  | none => rw [hz] at h; cases h
  | some Z =>
    rw [hz] at h2
    dsimp only at h2 ⊢
    split
    · rename_i h0; simp [-Bool.exists_bool, -Int.not_le, -Int.not_lt, -getElem?_pos, -List.getD_eq_getElem?_getD, h0]
    · rename_i h0
      rw [if_neg h0] at h2
      cases hw : witGo bI Z d.toNat [] with
      | none => rw [hw] at h2; exact absurd rfl h2
      | some p => simp [-Bool.exists_bool, -Int.not_le, -Int.not_lt, -getElem?_pos, -List.getD_eq_getElem?_getD, h0]
theorem wit_in {d : Int} {L : List At} (h : (witD d L).2 = 0) : (inI d L (witD d L).1).2 = false ∨ (inI d L (witD d L).1).1 = true := by
  cases h2 : (inI d L (witD d L).1).2 with
  | false => exact .inl rfl
  | true => exact .inr ((inI_sat (fun i hi => xp_nth _ i hi) h2).2.2.2 (witD_found h).2.2.2)
theorem wit_nil {d : Int} {L : List At} : (witD d L).2 ≠ 0 → (witD d L).1 = [] := by
  unfold witD
  cases projs d L with
  | none => intro _; rfl
  | some Z =>
    dsimp only
    split
    · intro _; rfl
    · cases witGo bI Z d.toNat [] with
      | none => intro _; rfl
      | some p => intro h; exact absurd rfl h
theorem wit_unref {d : Int} {L : List At} {m : List Int} (h : isRef d L m = true) : (witD d L).2 ≠ 0 := fun h0 => (isRef_unsat h).2 _ (witD_found h0).2.2.2
end Go.Proofs.YtjknjekemolndaaGreat.ZL
namespace Go.Proofs.YtjknjekemolndaaGreat.ZL
open Go Go.Proofs.YtjknjekemolndaaGreat.Abs Go.Proofs.YtjknjekemolndaaGreat.Abs.Pl Go.RowKit Go.Proofs
set_option linter.unusedVariables false
set_option linter.unusedSimpArgs false
def NF (d : Int) (x : List At) : Prop := x = [noneA d] ∨ ∀ a ∈ x, gcdL a.1 ≠ 0
theorem bndsS_v (v : Nat) : ∀ (x : List At) (b : Bd), (∀ a ∈ x, gcdL a.1 ≠ 0) → bndsS v b x = endB (narrows v b x)
  | [], b, _ => rfl
  | a :: x, b, h => by
    rw [bndsS, if_neg (h a List.mem_cons_self), narrows]
    exact bndsS_v v x _ fun y hy => h y (List.mem_cons_of_mem _ hy)
theorem gcd_zeros : ∀ n : Nat, gcdL (List.replicate n 0) = 0
  | 0 => rfl
  | n + 1 => by
    have := gcd_zeros n
    simp [-Bool.exists_bool, -Int.not_le, -Int.not_lt, -getElem?_pos, -List.getD_eq_getElem?_getD, List.replicate_succ, gcdL, gcdF]
    exact this
theorem bnds_eq {d : Int} (v : Nat) {x : List At} (h : NF d x) : bndsS v bd0 x = bndsI v x := by
  rcases h with rfl | h
  · have hg : gcdL (noneA d).1 = 0 := gcd_zeros _
    have ht : truA (noneA d) = false := rfl
    have he : emF [noneA d] = true := by
      have hh : hasV (noneA d) = false := by simp [-Bool.exists_bool, -Int.not_le, -Int.not_lt, -getElem?_pos, -List.getD_eq_getElem?_getD, hasV, hg]
      show (decide (1 = 1) && (!hasV (noneA d) && (decide ((1 : Int) = 1) && !false))) = true
      rw [hh]; rfl
    rw [bndsS, if_pos hg, if_neg (by simp [-Bool.exists_bool, -Int.not_le, -Int.not_lt, -getElem?_pos, -List.getD_eq_getElem?_getD, ht]), bndsI, if_pos he]
  · rw [bndsS_v v x bd0 h, bndsI, if_neg]
    intro he
    rcases x with _ | ⟨a, _ | ⟨b, R⟩⟩
    · simp [-Bool.exists_bool, -Int.not_le, -Int.not_lt, -getElem?_pos, -List.getD_eq_getElem?_getD, emF] at he
    · have hh : hasV a = true := by simp [-Bool.exists_bool, -Int.not_le, -Int.not_lt, -getElem?_pos, -List.getD_eq_getElem?_getD, hasV, h a List.mem_cons_self]
      have : emF [a] = false := by
        show (decide (1 = 1) && (!hasV a && (decide (a.2.1 = 1) && !a.2.2))) = false
        rw [hh]; rfl
      rw [this] at he; exact absurd he (by simp [-Bool.exists_bool, -Int.not_le, -Int.not_lt, -getElem?_pos, -List.getD_eq_getElem?_getD])
    · simp [-Bool.exists_bool, -Int.not_le, -Int.not_lt, -getElem?_pos, -List.getD_eq_getElem?_getD, emF] at he
theorem nfL_mem {x : At} : ∀ (l acc : List At), x ∈ l.foldl (fun acc a => putN a acc) acc → x ∈ acc ∨ x ∈ l
  | [], acc, h => .inl h
  | a :: l, acc, h => by
    rcases nfL_mem l (putN a acc) h with h | h
    · rcases putN_mem a acc x h with rfl | h
      · exact .inr List.mem_cons_self
      · exact .inl h
    · exact .inr (List.mem_cons_of_mem _ h)
theorem nrm_NF (d : Int) (M : List At) : NF d (nrm d M) := by
  unfold nrm
  split
  · exact .inl rfl
  · refine .inr fun a ha => ?_
    rcases nfL_mem _ _ ha with h | h
    · simp [-Bool.exists_bool, -Int.not_le, -Int.not_lt, -getElem?_pos, -List.getD_eq_getElem?_getD] at h
    · have := (List.mem_filter.1 h).2
      simpa [-Bool.exists_bool, -Int.not_le, -Int.not_lt, -getElem?_pos, -List.getD_eq_getElem?_getD, hasV] using this
theorem dropC_NF {d : Int} {k : Nat} {x : List At} (h : (dropC d k x).2.2 = true) : NF d (dropC d k x).2.1 := by
  unfold dropC at h ⊢
  split
  · rename_i e; rw [e] at h; exact absurd h (by simp [-Bool.exists_bool, -Int.not_le, -Int.not_lt, -getElem?_pos, -List.getD_eq_getElem?_getD])
  · rename_i M e
    rw [e] at h
    simp only at h ⊢
    unfold limN at h ⊢
    split
    · rename_i h2; rw [if_pos h2] at h; exact absurd h (by simp [-Bool.exists_bool, -Int.not_le, -Int.not_lt, -getElem?_pos, -List.getD_eq_getElem?_getD])
    · exact nrm_NF d M
theorem dropsGo_NF {d : Int} {v : Nat} : ∀ (k : Nat) {x y : List At}, NF d x → dropsGo d v k x = some y → NF d y
  | 0, x, y, hx, h => by obtain rfl := Option.some.inj h; exact hx
  | k + 1, x, y, hx, h => by
    unfold dropsGo at h
    split at h
    · exact dropsGo_NF k hx h
    · split at h
      · rename_i hr; exact dropsGo_NF k (dropC_NF hr) h
      · exact absurd h (by simp [-Bool.exists_bool, -Int.not_le, -Int.not_lt, -getElem?_pos, -List.getD_eq_getElem?_getD])
theorem BoundsOf (d : Int) (L : List At) (v : Int) (h20 : L.length ≤ 1048576) : Cn Tryz.prog 34 [C1 d L, I v] (.tup [bdV (bndD d L v).1, B (bndD d L v).2]) hemp := by
  refine Cn.of [] mixed Tryz.func34 rfl Tryz.call34 (by kernel_rfl) rfl ?_
  simp -implicitDefEqProofs -dsimp +contextual [-Bool.exists_bool, -Int.not_le, -Int.not_lt, -getElem?_pos, -List.getD_eq_getElem?_getD, Tryz.f34]
  have no : ∀ {H : Store}, bndD d L v = (bd0, false) → RLe Tryz.prog H (V.tup [V.agg [V.d (D.bool false), V.d (D.int IntKind.i64 0), V.d (D.int IntKind.i64 0), V.d (D.bool false), V.d (D.bool false), V.d (D.int IntKind.i64 0), V.d (D.int IntKind.i64 0), V.d (D.bool false), V.d (D.bool false)], V.d (D.bool false)]) (.tup [bdV (bndD d L v).1, B (bndD d L v).2]) hemp := fun h => by
    rw [h]
    exact RLe.pure 2 (by simp [-Bool.exists_bool, -Int.not_le, -Int.not_lt, -getElem?_pos, -List.getD_eq_getElem?_getD, bd0])
  refine CallJ.pure (IsCell d L h20) rfl (by simp [-Bool.exists_bool, -Int.not_le, -Int.not_lt, -getElem?_pos, -List.getD_eq_getElem?_getD]) ?_
  simp -implicitDefEqProofs -dsimp +contextual [-Bool.exists_bool, -Int.not_le, -Int.not_lt, -getElem?_pos, -List.getD_eq_getElem?_getD]
  refine ⟨fun h1 => ?_, fun h1 => no (by rw [bndD, if_neg (by simp [-Bool.exists_bool, -Int.not_le, -Int.not_lt, -getElem?_pos, -List.getD_eq_getElem?_getD, h1])])⟩
  have hd := isCe_d h1
  have h16 := isCe_l h1
  have hok := isCe_a h1
  rw [wr (by omega) (by omega)]
  refine CallJ.pure (l1In v 0 (d - 1)) rfl (by simp [-Bool.exists_bool, -Int.not_le, -Int.not_lt, -getElem?_pos, -List.getD_eq_getElem?_getD]) ?_
  simp -implicitDefEqProofs -dsimp +contextual [-Bool.exists_bool, -Int.not_le, -Int.not_lt, -getElem?_pos, -List.getD_eq_getElem?_getD, h1]
  refine ⟨fun h2 => ?_, fun h2 => no (by rw [bndD, if_neg]; simp [-Bool.exists_bool, -Int.not_le, -Int.not_lt, -getElem?_pos, -List.getD_eq_getElem?_getD, inB] at h2; omega)⟩
  have hv : 0 ≤ v ∧ v < d := by simp [-Bool.exists_bool, -Int.not_le, -Int.not_lt, -getElem?_pos, -List.getD_eq_getElem?_getD, inB] at h2; omega
  refine CallJ.pure (l3Normal d hd L (by omega) hok) rfl (by simp [-Bool.exists_bool, -Int.not_le, -Int.not_lt, -getElem?_pos, -List.getD_eq_getElem?_getD]) ?_
  simp -implicitDefEqProofs -dsimp +contextual [-Bool.exists_bool, -Int.not_le, -Int.not_lt, -getElem?_pos, -List.getD_eq_getElem?_getD, h1, h2]
  rw [wr (by omega) (by omega)]
  obtain ⟨v', rfl⟩ : ∃ v' : Nat, v = v' := ⟨v.toNat, by omega⟩
  have eb : bndD d L v' = (match dropsGo d v' d.toNat (nrm d L) with | some x => (bndsI v' x, true) | none => (bd0, false)) := by rw [bndD, if_pos ⟨h1, hv⟩]; rfl
  refine WP.loop mixed [] (fun p : Nat × List At => ⟨tl [(1, I v'), (4, .ptr (1, 0) 0), (6, .ptr (2, 0) 0), (7, I ((p.1 : Int) - 1))], hl [((1, 0), .box (bdL bd0)), ((2, 0), .box [I d, As p.2])], 3⟩)
    (fun p => (p.1 : Int) ≤ d ∧ p.2.length ≤ 16 ∧ allOk d p.2 ∧ NF d p.2 ∧ dropsGo d v' d.toNat (nrm d L) = dropsGo d v' p.1 p.2) (fun p => p.1) (d.toNat, nrm d L) (by kernel_rfl) ?_ ?_ ?_
  · refine Le.told [((2, 0), (19, 0))] ?_ ?_ ?_ <;> simp [-Bool.exists_bool, -Int.not_le, -Int.not_lt, -getElem?_pos, -List.getD_eq_getElem?_getD, setH, bd0]
    omega
  · exact ⟨by simp only; omega, nrm_16 d L h16, nrm_okL hd hok, nrm_NF d L, rfl⟩
  · rintro ⟨k, x⟩ ⟨hk, hx, hxo, hnf, he⟩
    simp only at hk hx hxo hnf he
    cases k with
    | zero =>
      simp only [dropsGo] at he
      simp -implicitDefEqProofs -dsimp +contextual [-Bool.exists_bool, -Int.not_le, -Int.not_lt, -getElem?_pos, -List.getD_eq_getElem?_getD]
      have eb : bndD d L v' = (bndsI v' x, true) := by rw [eb, he]
      have hB := l3Bounds d x v' hv.2 hx hxo
      rw [bnds_eq v' hnf] at hB
      refine CallJ.pure hB rfl (by simp [-Bool.exists_bool, -Int.not_le, -Int.not_lt, -getElem?_pos, -List.getD_eq_getElem?_getD]) ?_
      rw [eb]
      simp -implicitDefEqProofs -dsimp +contextual [-Bool.exists_bool, -Int.not_le, -Int.not_lt, -getElem?_pos, -List.getD_eq_getElem?_getD]
      exact RLe.pure 2 (by simp [-Bool.exists_bool, -Int.not_le, -Int.not_lt, -getElem?_pos, -List.getD_eq_getElem?_getD])
    | succ k =>
      have hkk : ¬ ((k : Int) < 0) := by omega
      simp -implicitDefEqProofs -dsimp +contextual [-Bool.exists_bool, -Int.not_le, -Int.not_lt, -getElem?_pos, -List.getD_eq_getElem?_getD, hkk]
      rw [dropsGo] at he
      refine ⟨fun hkv => ?_, fun hkv => ?_⟩
      · rw [if_pos (by omega)] at he
        refine ⟨k, x, ⟨by omega, hx, hxo, hnf, he⟩, by omega, ?_⟩
        rw [wr (by omega) (by omega)]
        refine Le.told [] ?_ ?_ ?_ <;> simp [-Bool.exists_bool, -Int.not_le, -Int.not_lt, -getElem?_pos, -List.getD_eq_getElem?_getD, hkv]
      · rw [if_neg (by omega)] at he
        refine CallJ.pure (l3Drop d hd k x hx hxo (by omega)) rfl (by simp [-Bool.exists_bool, -Int.not_le, -Int.not_lt, -getElem?_pos, -List.getD_eq_getElem?_getD]) ?_
        have hok2 := dropC_ok hd k hx hxo
        have hnf2 := dropC_NF (d := d) (k := k) (x := x)
        generalize dropC d k x = q at he hok2 hnf2 ⊢
        simp -implicitDefEqProofs -dsimp +contextual [-Bool.exists_bool, -Int.not_le, -Int.not_lt, -getElem?_pos, -List.getD_eq_getElem?_getD, hkk, hkv]
        refine ⟨fun hq => ?_, fun hq => no (by rw [eb, he, if_neg (by simp [-Bool.exists_bool, -Int.not_le, -Int.not_lt, -getElem?_pos, -List.getD_eq_getElem?_getD, hq])])⟩
        rw [if_pos hq] at he
        obtain ⟨q1, q2, q3⟩ := hok2 hq
        refine ⟨k, q.2.1, ⟨by omega, q2, q3, hnf2 hq, he⟩, by omega, ?_⟩
        rw [wr (by omega) (by omega)]
        refine Le.told [] ?_ ?_ ?_ <;> simp [-Bool.exists_bool, -Int.not_le, -Int.not_lt, -getElem?_pos, -List.getD_eq_getElem?_getD, q1]
end Go.Proofs.YtjknjekemolndaaGreat.ZL
namespace Go.Proofs.YtjknjekemolndaaGreat.ZL
open Go Go.Proofs.YtjknjekemolndaaGreat.Abs Go.Proofs.YtjknjekemolndaaGreat.Abs.Pl Go.RowKit Go.Proofs
set_option linter.unusedVariables false
set_option linter.unusedSimpArgs false
def minGo (d : Int) : Nat → Nat → List At → Option (List At)
  | 0, _, out => some out
  | n + 1, i, out => if (impA (d, out.take i ++ out.drop (i + 1)) (nth out i)).2 = true then
      (if (impA (d, out.take i ++ out.drop (i + 1)) (nth out i)).1 = true then minGo d n i (out.take i ++ out.drop (i + 1)) else minGo d n (i + 1) out) else none
def minC (d : Int) (x : List At) : Int × List At × Bool := if (emptyC d x).2 = true then (if (emptyC d x).1 = true then (d, [noneA d], true) else match minGo d x.length 0 x with
    | some y => (d, y, true)
    | none => (0, [], false)) else (0, [], false)
theorem l3CopyW (d : Int) (L : List At) (h20 : L.length ≤ 1000) (ha : ∀ a ∈ L, a.1.length ≤ 1048576) : Cn Tryz.prog 155 [C1 d L] (C1 d L) hemp := Cn.freeze 2 (l3Copy d L h20 ha) (by simp [-Bool.exists_bool, -Int.not_le, -Int.not_lt, -getElem?_pos, -List.getD_eq_getElem?_getD, lendT, lendV])
theorem l3Minimal (d : Int) (L : List At) (h20 : L.length ≤ 1048576) : Cn Tryz.prog 119 [C1 d L] (D2 (minC d L)) hemp := by
  refine Cn.of [0] mixed Tryz.func119 rfl Tryz.call119 (by kernel_rfl) rfl ?_
  simp -implicitDefEqProofs -dsimp +contextual [-Bool.exists_bool, -Int.not_le, -Int.not_lt, -getElem?_pos, -List.getD_eq_getElem?_getD, Tryz.f119]
  refine CallJ.pure (IsEmptyCell d L h20) rfl (by simp [-Bool.exists_bool, -Int.not_le, -Int.not_lt, -getElem?_pos, -List.getD_eq_getElem?_getD]) ?_
  simp -implicitDefEqProofs -dsimp +contextual [-Bool.exists_bool, -Int.not_le, -Int.not_lt, -getElem?_pos, -List.getD_eq_getElem?_getD]
  refine ⟨fun h1 => ?_, fun h1 => RLe.pure 2 (by rw [minC, if_neg (by simp [-Bool.exists_bool, -Int.not_le, -Int.not_lt, -getElem?_pos, -List.getD_eq_getElem?_getD, h1])]; simp [-Bool.exists_bool, -Int.not_le, -Int.not_lt, -getElem?_pos, -List.getD_eq_getElem?_getD, asD])⟩
  have hce := emptyC_ce h1
  have hd := isCe_d hce
  have h16 := isCe_l hce
  have hok := isCe_a hce
  refine ⟨fun h2 => ?_, fun h2 => ?_⟩
  · refine CallJ.pure (l3None d hd) rfl (by simp [-Bool.exists_bool, -Int.not_le, -Int.not_lt, -getElem?_pos, -List.getD_eq_getElem?_getD]) ?_
    simp -implicitDefEqProofs -dsimp +contextual [-Bool.exists_bool, -Int.not_le, -Int.not_lt, -getElem?_pos, -List.getD_eq_getElem?_getD, h1, h2]
    rw [minC, if_pos h1, if_pos h2]
    exact RLe.pure 3 (by simp [-Bool.exists_bool, -Int.not_le, -Int.not_lt, -getElem?_pos, -List.getD_eq_getElem?_getD])
  · refine CallJ.pure (l3CopyW d L (by omega) (fun a ha => okA_small (hok a ha))) rfl (by simp [-Bool.exists_bool, -Int.not_le, -Int.not_lt, -getElem?_pos, -List.getD_eq_getElem?_getD]) ?_
    simp -implicitDefEqProofs -dsimp +contextual [-Bool.exists_bool, -Int.not_le, -Int.not_lt, -getElem?_pos, -List.getD_eq_getElem?_getD, h1, h2]
    have e0 : minC d L = (match minGo d L.length 0 L with | some y => (d, y, true) | none => (0, [], false)) := by rw [minC, if_pos h1, if_neg (by simp [-Bool.exists_bool, -Int.not_le, -Int.not_lt, -getElem?_pos, -List.getD_eq_getElem?_getD, h2])]
    refine WP.loop mixed [0] (fun p : Nat × List At => ⟨tl [(1, .ptr (0, 0) 0), (2, .ptr (1, 0) 0), (6, .ptr (2, 0) 0), (7, I p.1)], hl [((0, 0), .box [I d, As L]), ((1, 0), .box [I 0, .nil]), ((2, 0), .box [I d, As p.2])], 3⟩)
      (fun p => p.1 ≤ p.2.length ∧ p.2.length ≤ 16 ∧ allOk d p.2 ∧ minGo d L.length 0 L = minGo d (p.2.length - p.1) p.1 p.2) (fun p => p.2.length - p.1) (0, L) (by kernel_rfl) ?_ ?_ ?_
    · refine Le.told [((2, 0), (15, 0))] ?_ ?_ ?_ <;> simp [-Bool.exists_bool, -Int.not_le, -Int.not_lt, -getElem?_pos, -List.getD_eq_getElem?_getD, setH]
    · exact ⟨Nat.zero_le _, h16, hok, rfl⟩
    · rintro ⟨i, x⟩ ⟨hi, hx, hxo, he⟩
      simp only at hi hx hxo he
      by_cases h : i < x.length
      · have hw : IntKind.wrap .i64 ((i : Int) + 1) = (i : Int) + 1 := wr (by omega) (by omega)
        have hw2 : ((i : Int) + 1).toNat = i + 1 := by omega
        obtain ⟨n, hn⟩ : ∃ n, x.length - i = n + 1 := ⟨x.length - i - 1, by omega⟩
        rw [hn, minGo] at he
        have ht : (x.drop (i + 1)).take (x.length - (i + 1)) = x.drop (i + 1) := List.take_of_length_le (by simp [-Bool.exists_bool, -Int.not_le, -Int.not_lt, -getElem?_pos, -List.getD_eq_getElem?_getD])
        have hmin : min i x.length = i := by omega
        have hrl : (x.take i ++ x.drop (i + 1)).length = i + (x.length - (i + 1)) := by simp [-Bool.exists_bool, -Int.not_le, -Int.not_lt, -getElem?_pos, -List.getD_eq_getElem?_getD]; omega
        have hro : allOk d (x.take i ++ x.drop (i + 1)) := fun y hy => by
          rcases List.mem_append.1 hy with hy | hy
          · exact hxo y (List.mem_of_mem_take hy)
          · exact hxo y (List.mem_of_mem_drop hy)
        have hI := ImpliesAtom (d, x.take i ++ x.drop (i + 1)) (nth x i) (by show (x.take i ++ x.drop (i + 1)).length ≤ 1048576; omega) (okA_small (hxo _ (nth_mem h)))
        generalize impA (d, x.take i ++ x.drop (i + 1)) (nth x i) = q at he hI
        simp -implicitDefEqProofs -dsimp +contextual [-Bool.exists_bool, -Int.not_le, -Int.not_lt, -getElem?_pos, -List.getD_eq_getElem?_getD, h, hw, hw2, ht]
        refine ⟨by omega, ⟨by omega, by omega, by simp [-Bool.exists_bool, -Int.not_le, -Int.not_lt, -getElem?_pos, -List.getD_eq_getElem?_getD, maxLen]; omega⟩, ⟨by omega, by omega⟩, ⟨by omega, by simp [-Bool.exists_bool, -Int.not_le, -Int.not_lt, -getElem?_pos, -List.getD_eq_getElem?_getD, maxLen]; omega⟩, Quiet.of [1] (by kernel_rfl) (by simp [-Bool.exists_bool, -Int.not_le, -Int.not_lt, -getElem?_pos, -List.getD_eq_getElem?_getD, allP, offB]), Quiet.of [] (by kernel_rfl) (by simp [-Bool.exists_bool, -Int.not_le, -Int.not_lt, -getElem?_pos, -List.getD_eq_getElem?_getD, allP, offB]), ?_⟩
        refine CallJ.lent (ks := [(21, 0)]) 2 hI ?_ (by simp [-Bool.exists_bool, -Int.not_le, -Int.not_lt, -getElem?_pos, -List.getD_eq_getElem?_getD]) rfl (by simp [-Bool.exists_bool, -Int.not_le, -Int.not_lt, -getElem?_pos, -List.getD_eq_getElem?_getD]) ?_
        · simp [-Bool.exists_bool, -Int.not_le, -Int.not_lt, -getElem?_pos, -List.getD_eq_getElem?_getD, lendVs, lendV, setH, asD_append, hmin]
        simp -implicitDefEqProofs -dsimp +contextual [-Bool.exists_bool, -Int.not_le, -Int.not_lt, -getElem?_pos, -List.getD_eq_getElem?_getD, h, hw, hw2, ht]
        refine ⟨fun c1 => ⟨fun c2 => ?_, fun c2 => ?_⟩, fun c1 => RLe.pure 2 (by rw [e0, he, if_neg (by simp [-Bool.exists_bool, -Int.not_le, -Int.not_lt, -getElem?_pos, -List.getD_eq_getElem?_getD, c1])]; simp [-Bool.exists_bool, -Int.not_le, -Int.not_lt, -getElem?_pos, -List.getD_eq_getElem?_getD, asD])⟩
        · rw [if_pos c1, if_pos c2] at he
          have hC := l3CopyW d (x.take i ++ x.drop (i + 1)) (by omega) (fun a ha => okA_small (hro a ha))
          refine CallJ.frz (t := 66) (n := i + (x.length - (i + 1))) (c := dl (asD (x.take i) ++ asD (x.drop (i + 1)))) (c' := asD (x.take i) ++ asD (x.drop (i + 1))) (21, 0) hC (by simp [-Bool.exists_bool, -Int.not_le, -Int.not_lt, -getElem?_pos, -List.getD_eq_getElem?_getD, setH]) (dl_asDs _) (ks := [(21, 0)]) (by simp [-Bool.exists_bool, -Int.not_le, -Int.not_lt, -getElem?_pos, -List.getD_eq_getElem?_getD, lendVs, lendV, setH, asD_append, hmin]) (by simp [-Bool.exists_bool, -Int.not_le, -Int.not_lt, -getElem?_pos, -List.getD_eq_getElem?_getD]) ?_
          simp -implicitDefEqProofs -dsimp +contextual [-Bool.exists_bool, -Int.not_le, -Int.not_lt, -getElem?_pos, -List.getD_eq_getElem?_getD, h, hw, hw2, ht, hmin]
          refine ⟨i, x.take i ++ x.drop (i + 1), ⟨by omega, by omega, hro, by rw [he, hrl]; congr 1; omega⟩, by omega, ?_⟩
          refine Le.told [] ?_ ?_ ?_ <;> simp [-Bool.exists_bool, -Int.not_le, -Int.not_lt, -getElem?_pos, -List.getD_eq_getElem?_getD, hmin, asD_append]
        · rw [if_pos c1, if_neg (by simp [-Bool.exists_bool, -Int.not_le, -Int.not_lt, -getElem?_pos, -List.getD_eq_getElem?_getD, c2])] at he
          refine ⟨i + 1, x, ⟨h, hx, hxo, by rw [he]; congr 1; omega⟩, by omega, ?_⟩
          refine Le.told [] ?_ ?_ ?_ <;> simp [-Bool.exists_bool, -Int.not_le, -Int.not_lt, -getElem?_pos, -List.getD_eq_getElem?_getD]
      · rw [show x.length - i = 0 by omega, minGo] at he
        simp -implicitDefEqProofs -dsimp +contextual [-Bool.exists_bool, -Int.not_le, -Int.not_lt, -getElem?_pos, -List.getD_eq_getElem?_getD, h]
        rw [e0, he]
        exact RLe.pure 3 (by simp [-Bool.exists_bool, -Int.not_le, -Int.not_lt, -getElem?_pos, -List.getD_eq_getElem?_getD])
def minD (d : Int) (L : List At) : Int × List At × Bool := if isCe d L = true then minC d (nrm d L) else (0, [], false)
end Go.Proofs.YtjknjekemolndaaGreat.ZL
namespace Go.Proofs.YtjknjekemolndaaGreat.ZL
open Go Go.Proofs.YtjknjekemolndaaGreat.Abs Go.Proofs.YtjknjekemolndaaGreat.Abs.Pl Go.RowKit Go.Proofs
set_option linter.unusedVariables false
set_option linter.unusedSimpArgs false
theorem iEmptyCellW (d : Int) (hd : 0 ≤ d ∧ d ≤ 4) : Cn Tryz.prog 106 [I d] (C1 d [noneA d]) hemp := by
  refine Cn.freeze 2 (iEmptyCell d hd) ?_
  simp only [lendT, lendV, List.map_cons, List.map_nil, joinO, own_lend, lendD_d]
theorem iMinimalCellW (d : Int) (L : List At) (h20 : L.length ≤ 1048576) : Cn Tryz.prog 114 [C1 d L] (D2 (minD d L)) hemp := by
  refine Cn.of [] mixed Tryz.func114 rfl Tryz.call114 (by kernel_rfl) rfl ?_
  simp -implicitDefEqProofs -dsimp +contextual [-Bool.exists_bool, -Int.not_le, -Int.not_lt, -getElem?_pos, -List.getD_eq_getElem?_getD, Tryz.f114]
  refine CallJ.pure (iNormalCellW d L h20) rfl (by simp [-Bool.exists_bool, -Int.not_le, -Int.not_lt, -getElem?_pos, -List.getD_eq_getElem?_getD]) ?_
  by_cases h1 : isCe d L = true
  rotate_left
  · rw [normD, if_neg h1]
    simp -implicitDefEqProofs -dsimp +contextual [-Bool.exists_bool, -Int.not_le, -Int.not_lt, -getElem?_pos, -List.getD_eq_getElem?_getD]
    exact RLe.pure 2 (by rw [minD, if_neg h1]; simp [-Bool.exists_bool, -Int.not_le, -Int.not_lt, -getElem?_pos, -List.getD_eq_getElem?_getD, asD])
  have hd := isCe_d h1
  have h16 := nrm_16 d L (isCe_l h1)
  have hok := nrm_okL hd (isCe_a h1)
  rw [normD, if_pos h1, minD, if_pos h1]
  generalize nrm d L = K at h16 hok ⊢
  simp -implicitDefEqProofs -dsimp +contextual [-Bool.exists_bool, -Int.not_le, -Int.not_lt, -getElem?_pos, -List.getD_eq_getElem?_getD]
  refine CallJ.pure (iIsEmptyCell d K (by omega)) rfl (by simp [-Bool.exists_bool, -Int.not_le, -Int.not_lt, -getElem?_pos, -List.getD_eq_getElem?_getD]) ?_
  simp -implicitDefEqProofs -dsimp +contextual [-Bool.exists_bool, -Int.not_le, -Int.not_lt, -getElem?_pos, -List.getD_eq_getElem?_getD]
  refine ⟨fun c1 => ?_, fun c1 => RLe.pure 2 (by rw [minC, if_neg (by simp [-Bool.exists_bool, -Int.not_le, -Int.not_lt, -getElem?_pos, -List.getD_eq_getElem?_getD, c1])]; simp [-Bool.exists_bool, -Int.not_le, -Int.not_lt, -getElem?_pos, -List.getD_eq_getElem?_getD, asD])⟩
  refine ⟨fun c2 => ?_, fun c2 => ?_⟩
  · refine CallJ.pure (iEmptyCellW d hd) rfl (by simp [-Bool.exists_bool, -Int.not_le, -Int.not_lt, -getElem?_pos, -List.getD_eq_getElem?_getD]) ?_
    simp -implicitDefEqProofs -dsimp +contextual [-Bool.exists_bool, -Int.not_le, -Int.not_lt, -getElem?_pos, -List.getD_eq_getElem?_getD, c1, c2]
    rw [minC, if_pos c1, if_pos c2]
    exact RLe.pure 3 (by simp [-Bool.exists_bool, -Int.not_le, -Int.not_lt, -getElem?_pos, -List.getD_eq_getElem?_getD])
  · have e0 : minC d K = (match minGo d K.length 0 K with | some y => (d, y, true) | none => (0, [], false)) := by rw [minC, if_pos c1, if_neg (by simp [-Bool.exists_bool, -Int.not_le, -Int.not_lt, -getElem?_pos, -List.getD_eq_getElem?_getD, c2])]; try rfl
    refine WP.loop mixed [] (fun p : Nat × List At => ⟨tl [(1, .ptr (0, 0) 0), (2, .ptr (1, 0) 0), (4, .ptr (2, 0) 0), (7, I p.1)], hl [((0, 0), .box [I d, As L]), ((1, 0), .box [I 0, .nil]), ((2, 0), .box [I d, As p.2])], 3⟩)
      (fun p => p.1 ≤ p.2.length ∧ p.2.length ≤ 16 ∧ allOk d p.2 ∧ minGo d K.length 0 K = minGo d (p.2.length - p.1) p.1 p.2) (fun p => p.2.length - p.1) (0, K) (by kernel_rfl) ?_ ?_ ?_
    · refine Le.told [((2, 0), (8, 0))] ?_ ?_ ?_ <;> simp [-Bool.exists_bool, -Int.not_le, -Int.not_lt, -getElem?_pos, -List.getD_eq_getElem?_getD, setH]
    · exact ⟨Nat.zero_le _, h16, hok, rfl⟩
    · rintro ⟨i, x⟩ ⟨hi, hx, hxo, he⟩
      simp only at hi hx hxo he
      by_cases h : i < x.length
      · have hw : IntKind.wrap .i64 ((i : Int) + 1) = (i : Int) + 1 := wr (by omega) (by omega)
        have hw2 : ((i : Int) + 1).toNat = i + 1 := by omega
        obtain ⟨n, hn⟩ : ∃ n, x.length - i = n + 1 := ⟨x.length - i - 1, by omega⟩
        rw [hn, minGo] at he
        have ht : (x.drop (i + 1)).take (x.length - (i + 1)) = x.drop (i + 1) := List.take_of_length_le (by simp [-Bool.exists_bool, -Int.not_le, -Int.not_lt, -getElem?_pos, -List.getD_eq_getElem?_getD])
        have hmin : min i x.length = i := by omega
        have hrl : (x.take i ++ x.drop (i + 1)).length = i + (x.length - (i + 1)) := by simp [-Bool.exists_bool, -Int.not_le, -Int.not_lt, -getElem?_pos, -List.getD_eq_getElem?_getD]; omega
        have e2 : repV 2 [V.nil] = [V.nil, V.nil] := rfl
        simp -implicitDefEqProofs -dsimp +contextual [-Bool.exists_bool, -Int.not_le, -Int.not_lt, -getElem?_pos, -List.getD_eq_getElem?_getD, h, hw, hw2, ht, e2]
        have hro : allOk d (x.take i ++ x.drop (i + 1)) := fun y hy => by
          rcases List.mem_append.1 hy with hy | hy
          · exact hxo y (List.mem_of_mem_take hy)
          · exact hxo y (List.mem_of_mem_drop hy)
        have hf : [x.take i, x.drop (i + 1)].flatten = x.take i ++ x.drop (i + 1) := by simp [-Bool.exists_bool, -Int.not_le, -Int.not_lt, -getElem?_pos, -List.getD_eq_getElem?_getD]
        have hI := iImpliesAtom (d, x.take i ++ x.drop (i + 1)) (nth x i) (by show (x.take i ++ x.drop (i + 1)).length ≤ 1048576; omega) (okA_small (hxo _ (nth_mem h)))
        generalize impA (d, x.take i ++ x.drop (i + 1)) (nth x i) = q at he hI
        have hC := iConcatW [x.take i, x.drop (i + 1)] (by simp [-Bool.exists_bool, -Int.not_le, -Int.not_lt, -getElem?_pos, -List.getD_eq_getElem?_getD]) (by simp [-Bool.exists_bool, -Int.not_le, -Int.not_lt, -getElem?_pos, -List.getD_eq_getElem?_getD, tot]; omega)
        rw [hf] at hC
        generalize x.take i ++ x.drop (i + 1) = y at he hI hC hrl hro
        refine ⟨by omega, ⟨by omega, by omega⟩, ?_⟩
        refine CallJ.pure (ks := []) hC (by simp [-Bool.exists_bool, -Int.not_le, -Int.not_lt, -getElem?_pos, -List.getD_eq_getElem?_getD, sD, hmin]) (by simp [-Bool.exists_bool, -Int.not_le, -Int.not_lt, -getElem?_pos, -List.getD_eq_getElem?_getD]) ?_
        simp -implicitDefEqProofs -dsimp +contextual [-Bool.exists_bool, -Int.not_le, -Int.not_lt, -getElem?_pos, -List.getD_eq_getElem?_getD, h, hw, hw2]
        refine CallJ.pure (ks := []) hI (by simp [-Bool.exists_bool, -Int.not_le, -Int.not_lt, -getElem?_pos, -List.getD_eq_getElem?_getD]) (by simp [-Bool.exists_bool, -Int.not_le, -Int.not_lt, -getElem?_pos, -List.getD_eq_getElem?_getD]) ?_
        simp -implicitDefEqProofs -dsimp +contextual [-Bool.exists_bool, -Int.not_le, -Int.not_lt, -getElem?_pos, -List.getD_eq_getElem?_getD, h, hw, hw2]
        refine ⟨fun b1 => ⟨fun b2 => ?_, fun b2 => ?_⟩, fun b1 => RLe.pure 2 (by rw [e0, he, if_neg (by simp [-Bool.exists_bool, -Int.not_le, -Int.not_lt, -getElem?_pos, -List.getD_eq_getElem?_getD, b1])]; simp [-Bool.exists_bool, -Int.not_le, -Int.not_lt, -getElem?_pos, -List.getD_eq_getElem?_getD, asD])⟩
        · rw [if_pos b1, if_pos b2] at he
          refine ⟨i, y, ⟨by omega, by omega, hro, by rw [he]; congr 1; omega⟩, by omega, ?_⟩
          refine Le.told [] ?_ ?_ ?_ <;> simp [-Bool.exists_bool, -Int.not_le, -Int.not_lt, -getElem?_pos, -List.getD_eq_getElem?_getD]
        · rw [if_pos b1, if_neg (by simp [-Bool.exists_bool, -Int.not_le, -Int.not_lt, -getElem?_pos, -List.getD_eq_getElem?_getD, b2])] at he
          refine ⟨i + 1, x, ⟨h, hx, hxo, by rw [he]; congr 1; omega⟩, by omega, ?_⟩
          refine Le.told [] ?_ ?_ ?_ <;> simp [-Bool.exists_bool, -Int.not_le, -Int.not_lt, -getElem?_pos, -List.getD_eq_getElem?_getD]
      · rw [show x.length - i = 0 by omega, minGo] at he
        simp -implicitDefEqProofs -dsimp +contextual [-Bool.exists_bool, -Int.not_le, -Int.not_lt, -getElem?_pos, -List.getD_eq_getElem?_getD, h]
        rw [e0, he]
        exact RLe.pure 3 (by simp [-Bool.exists_bool, -Int.not_le, -Int.not_lt, -getElem?_pos, -List.getD_eq_getElem?_getD])
end Go.Proofs.YtjknjekemolndaaGreat.ZL
namespace Go.Proofs.YtjknjekemolndaaGreat.ZL
open Go Go.Proofs.YtjknjekemolndaaGreat.Abs Go.Proofs.YtjknjekemolndaaGreat.Abs.Pl Go.RowKit Go.Proofs
set_option linter.unusedVariables false
set_option linter.unusedSimpArgs false
theorem minGo_ok {d : Int} : ∀ (n i : Nat) {x y : List At}, x.length ≤ 16 → allOk d x → minGo d n i x = some y → y.length ≤ 16 ∧ allOk d y
  | 0, _, x, y, h16, hx, h => by obtain rfl := Option.some.inj h; exact ⟨h16, hx⟩
  | n + 1, i, x, y, h16, hx, h => by
    unfold minGo at h
    split at h
    · split at h
      · refine minGo_ok n i ?_ ?_ h
        · simp [-Bool.exists_bool, -Int.not_le, -Int.not_lt, -getElem?_pos, -List.getD_eq_getElem?_getD]; omega
        · intro a ha
          rcases List.mem_append.1 ha with ha | ha
          · exact hx a (List.mem_of_mem_take ha)
          · exact hx a (List.mem_of_mem_drop ha)
      · exact minGo_ok n (i + 1) h16 hx h
    · exact absurd h (by simp [-Bool.exists_bool, -Int.not_le, -Int.not_lt, -getElem?_pos, -List.getD_eq_getElem?_getD])
theorem minC_f {d : Int} {x : List At} (h : ¬ (minC d x).2.2 = true) : minC d x = (0, [], false) := by
  unfold minC at h ⊢
  split
  · rename_i h1
    rw [if_pos h1] at h
    split
    · rename_i h2; rw [if_pos h2] at h; exact absurd rfl h
    · rename_i h2
      rw [if_neg h2] at h
      split
      · rename_i y hy; rw [hy] at h; exact absurd rfl h
      · rfl
  · rfl
theorem minD_f {d : Int} {L : List At} (h : ¬ (minD d L).2.2 = true) : minD d L = (0, [], false) := by
  unfold minD at h ⊢
  split
  · rename_i h1; rw [if_pos h1] at h; exact minC_f h
  · rfl
theorem minD_small (d : Int) (L : List At) : Small (minD d L).2.1 := by
  unfold minD
  split
  · rename_i h1
    have hd := isCe_d h1
    unfold minC
    split
    · split
      · exact Small.ok (d := d) (by simp [-Bool.exists_bool, -Int.not_le, -Int.not_lt, -getElem?_pos, -List.getD_eq_getElem?_getD]) (fun x hx => by rw [List.mem_singleton.1 hx]; exact noneA_ok hd)
      · split
        · rename_i y hy
          have := minGo_ok _ _ (nrm_16 d L (isCe_l h1)) (nrm_okL hd (isCe_a h1)) hy
          exact Small.ok this.1 this.2
        · exact Small.nil
    · exact Small.nil
  · exact Small.nil
end Go.Proofs.YtjknjekemolndaaGreat.ZL
namespace Go.Proofs.YtjknjekemolndaaGreat.ZL
open Go Go.Proofs.YtjknjekemolndaaGreat.Abs Go.Proofs.YtjknjekemolndaaGreat.Abs.Pl Go.RowKit Go.Proofs
set_option linter.unusedVariables false
set_option linter.unusedSimpArgs false
abbrev mC (c : Ce) : Int × List At × Bool := minD c.1 c.2
theorem minGo_sub {d : Int} {P : At → Prop} : ∀ (n i : Nat) {x y : List At}, (∀ a ∈ x, P a) → minGo d n i x = some y → ∀ a ∈ y, P a
  | 0, _, x, y, hx, h => by obtain rfl := Option.some.inj h; exact hx
  | n + 1, i, x, y, hx, h => by
    unfold minGo at h
    split at h
    · split at h
      · refine minGo_sub n i ?_ h
        intro a ha
        rcases List.mem_append.1 ha with ha | ha
        · exact hx a (List.mem_of_mem_take ha)
        · exact hx a (List.mem_of_mem_drop ha)
      · exact minGo_sub n (i + 1) hx h
    · exact absurd h (by simp [-Bool.exists_bool, -Int.not_le, -Int.not_lt, -getElem?_pos, -List.getD_eq_getElem?_getD])
def okC (d : Int) (c : Ce) : Prop := c.1 = d ∧ isCe d c.2 = true
theorem minD_ok {d : Int} {L : List At} (h : (minD d L).2.2 = true) : (minD d L).1 = d ∧ isCe d (minD d L).2.1 = true ∧ NF d (minD d L).2.1 := by
  unfold minD at h ⊢
  split at h
  · rename_i hc
    rw [if_pos hc]
    have hd := isCe_d hc
    have hok := nrm_okL hd (isCe_a hc)
    have h16 := nrm_16 d L (isCe_l hc)
    unfold minC at h ⊢
    split at h
    · rename_i h1
      rw [if_pos h1]
      split at h
      · rename_i h2
        rw [if_pos h2]
        exact ⟨rfl, okCe.2 ⟨hd, by simp [-Bool.exists_bool, -Int.not_le, -Int.not_lt, -getElem?_pos, -List.getD_eq_getElem?_getD], fun a ha => by rw [List.mem_singleton.1 ha]; exact noneA_ok hd⟩, .inl rfl⟩
      · rename_i h2
        rw [if_neg h2]
        cases hy : minGo d (nrm d L).length 0 (nrm d L) with
        | none => rw [hy] at h; cases h
        | some y =>
          have o := minGo_ok _ _ h16 hok hy
          refine ⟨rfl, okCe.2 ⟨hd, o.1, o.2⟩, .inr ?_⟩
          rcases nrm_NF d L with hn | hn
          · exfalso
            apply h2
            rw [(emptyC_sat h1).2, hn]
            intro x hx
            exact noneA_not d (hx _ (by simp [-Bool.exists_bool, -Int.not_le, -Int.not_lt, -getElem?_pos, -List.getD_eq_getElem?_getD]))
          · exact minGo_sub _ _ hn hy
    · cases h
  · cases h
theorem emF_NF {d : Int} {x : List At} (h : NF d x) : emF x = true ↔ x.length = 1 ∧ gcdL (nth x 0).1 = 0 := by
  rcases h with rfl | h
  · have hg : gcdL (noneA d).1 = 0 := gcd_zeros _
    have hh : hasV (noneA d) = false := by simp [-Bool.exists_bool, -Int.not_le, -Int.not_lt, -getElem?_pos, -List.getD_eq_getElem?_getD, hasV, hg]
    have he : emF [noneA d] = true := by
      show (decide (1 = 1) && (!hasV (noneA d) && (decide ((1 : Int) = 1) && !false))) = true
      rw [hh]; rfl
    exact ⟨fun _ => ⟨rfl, hg⟩, fun _ => he⟩
  · constructor
    · intro he
      rcases x with _ | ⟨a, _ | ⟨b, R⟩⟩
      · simp [-Bool.exists_bool, -Int.not_le, -Int.not_lt, -getElem?_pos, -List.getD_eq_getElem?_getD, emF] at he
      · have hh : hasV a = true := by simp [-Bool.exists_bool, -Int.not_le, -Int.not_lt, -getElem?_pos, -List.getD_eq_getElem?_getD, hasV, h a List.mem_cons_self]
        have : emF [a] = false := by
          show (decide (1 = 1) && (!hasV a && (decide (a.2.1 = 1) && !a.2.2))) = false
          rw [hh]; rfl
        rw [this] at he; cases he
      · simp [-Bool.exists_bool, -Int.not_le, -Int.not_lt, -getElem?_pos, -List.getD_eq_getElem?_getD, emF] at he
    · rintro ⟨h1, h2⟩
      exact absurd h2 (h _ (nth_mem (by omega)))
def addC (cs : List Ce) (c : Ce) : Option (List Ce) := if (mC c).2.2 = true then (if emF (mC c).2.1 = true then some cs else if cs.length < 12 then some (cs ++ [((mC c).1, (mC c).2.1)]) else none) else none
def addS (d : Int) (cs : List Ce) (c : Ce) : Int × List Ce × Bool := if (mC c).2.2 = true then (if emF (mC c).2.1 = true then (d, cs, true) else (d, cs ++ [((mC c).1, (mC c).2.1)], decide ((cs.length : Int) + 1 ≤ 12))) else (0, [], false)
theorem addS_t {d : Int} {cs : List Ce} {c : Ce} (h : (addS d cs c).2.2 = true) : addC cs c = some (addS d cs c).2.1 ∧ (addS d cs c).1 = d := by
  unfold addS at h ⊢
  unfold addC
  split at h
  · rename_i h1
    rw [if_pos h1, if_pos h1]
    split at h
    · rename_i h2; rw [if_pos h2, if_pos h2]; exact ⟨rfl, rfl⟩
    · rename_i h2
      rw [if_neg h2, if_neg h2]
      have h : (cs.length : Int) + 1 ≤ 12 := by simpa [-Bool.exists_bool, -Int.not_le, -Int.not_lt, -getElem?_pos, -List.getD_eq_getElem?_getD] using h
      rw [if_pos (by omega)]
      exact ⟨rfl, rfl⟩
  · cases h
theorem addS_f {d : Int} {cs : List Ce} {c : Ce} (h : ¬ (addS d cs c).2.2 = true) : addC cs c = none := by
  unfold addS at h
  unfold addC
  split at h
  · rename_i h1
    rw [if_pos h1]
    split at h
    · exact absurd rfl h
    · rename_i h2
      rw [if_neg h2]
      have h : ¬ (cs.length : Int) + 1 ≤ 12 := by simpa [-Bool.exists_bool, -Int.not_le, -Int.not_lt, -getElem?_pos, -List.getD_eq_getElem?_getD] using h
      rw [if_neg (by omega)]
  · rename_i h1
    rw [if_neg h1]
def okCs (d : Int) (cs : List Ce) : Prop := cs.length ≤ 12 ∧ ∀ c ∈ cs, okC d c
theorem addC_ok {d : Int} {cs x : List Ce} {c : Ce} (hc : c.1 = d) (hs : okCs d cs) (h : addC cs c = some x) : okCs d x := by
  unfold addC at h
  split at h
  · rename_i h1
    have hm := minD_ok h1
    split at h
    · obtain rfl := Option.some.inj h; exact hs
    · split at h
      · rename_i h12
        obtain rfl := Option.some.inj h
        refine ⟨by simp [-Bool.exists_bool, -Int.not_le, -Int.not_lt, -getElem?_pos, -List.getD_eq_getElem?_getD]; omega, fun y hy => ?_⟩
        rcases List.mem_append.1 hy with hy | hy
        · exact hs.2 y hy
        · obtain rfl := List.mem_singleton.1 hy
          rw [← hc]
          exact ⟨hm.1, hm.2.1⟩
      · cases h
  · cases h
def neatGo : List Ce → List Ce → Option (List Ce)
  | [], acc => some acc
  | c :: cs, acc => (addC acc c).bind (neatGo cs)
theorem neatGo_ok {d : Int} : ∀ {cs acc x : List Ce}, (∀ c ∈ cs, okC d c) → okCs d acc → neatGo cs acc = some x → okCs d x
  | [], acc, x, _, ha, h => by obtain rfl := Option.some.inj h; exact ha
  | c :: cs, acc, x, hc, ha, h => by
    obtain ⟨y, h1, h2⟩ := Option.bind_eq_some_iff.1 h
    exact neatGo_ok (fun z hz => hc z (by simp [-Bool.exists_bool, -Int.not_le, -Int.not_lt, -getElem?_pos, -List.getD_eq_getElem?_getD, hz])) (addC_ok (hc c (by simp [-Bool.exists_bool, -Int.not_le, -Int.not_lt, -getElem?_pos, -List.getD_eq_getElem?_getD])).1 ha h1) h2
def optR (d : Int) : Option (List Ce) → Int × List Ce × Bool
  | some x => (d, x, true)
  | none => (0, [], false)
def neatD (d : Int) (cs : List Ce) : Int × List Ce × Bool := if isRe d cs = true then optR d (neatGo cs []) else (0, [], false)
abbrev RD (r : Int × List Ce × Bool) : V := .tup [R1 r.1 r.2.1, B r.2.2]
theorem okC_len {d : Int} {c : Ce} (h : okC d c) : c.2.length ≤ 16 := isCe_l h.2
theorem isRe_ok {d : Int} {cs : List Ce} (h : isRe d cs = true) : (0 ≤ d ∧ d ≤ 4) ∧ cs.length ≤ 12 ∧ ∀ c ∈ cs, okC d c := by
  obtain ⟨h1, h2, h3⟩ := isRe_iff.1 h
  exact ⟨h1, h2, fun c hc => ⟨(h3 c hc).2, by rw [← (h3 c hc).2]; exact (h3 c hc).1⟩⟩
theorem csD_nil : csD [] = [] := rfl
attribute [simp] csD_nil
set_option maxRecDepth 100000 in
theorem l4Add (d : Int) (cs : List Ce) (c : Ce) (hc : okC d c) (h12 : cs.length ≤ 12) : Cn Tryz.prog 73 [R1 d cs, C1 c.1 c.2] (RD (addS d cs c)) hemp := by
  obtain ⟨hc1, hc2⟩ := hc
  obtain ⟨e, L⟩ := c
  simp only at hc1 hc2
  subst hc1
  have hd := isCe_d hc2
  refine Cn.of [0] mixed Tryz.func73 rfl Tryz.call73 (by kernel_rfl) rfl ?_
  simp -implicitDefEqProofs -dsimp +contextual [-Bool.exists_bool, -Int.not_le, -Int.not_lt, -getElem?_pos, -List.getD_eq_getElem?_getD, Tryz.f73]
  refine CallJ.pure (l3Normal e hd L (by have := isCe_l hc2; omega) (isCe_a hc2)) rfl (by simp [-Bool.exists_bool, -Int.not_le, -Int.not_lt, -getElem?_pos, -List.getD_eq_getElem?_getD]) ?_
  simp -implicitDefEqProofs -dsimp +contextual [-Bool.exists_bool, -Int.not_le, -Int.not_lt, -getElem?_pos, -List.getD_eq_getElem?_getD]
  have em : minC e (nrm e L) = mC (e, L) := by show _ = minD e L; rw [minD, if_pos hc2]
  have hm := l3Minimal e (nrm e L) (by have := nrm_16 e L (isCe_l hc2); omega)
  rw [em] at hm
  have ho : (mC (e, L)).2.2 = true → (mC (e, L)).1 = e ∧ isCe e (mC (e, L)).2.1 = true ∧ NF e (mC (e, L)).2.1 := minD_ok
  refine CallJ.pure hm rfl (by simp [-Bool.exists_bool, -Int.not_le, -Int.not_lt, -getElem?_pos, -List.getD_eq_getElem?_getD]) ?_
  unfold addS
  generalize mC (e, L) = m at ho ⊢
  obtain ⟨m1, m2, m3⟩ := m
  simp only at ho ⊢
  simp -implicitDefEqProofs -dsimp +contextual [-Bool.exists_bool, -Int.not_le, -Int.not_lt, -getElem?_pos, -List.getD_eq_getElem?_getD]
  refine ⟨fun hf => ?_, fun hf => RLe.pure 2 (by simp [-Bool.exists_bool, -Int.not_le, -Int.not_lt, -getElem?_pos, -List.getD_eq_getElem?_getD, asD])⟩
  obtain ⟨rfl, o2, o3⟩ := ho hf
  have hl := isCe_l o2
  refine ⟨fun h16 => absurd h16 (by omega), fun _ => ?_⟩
  have he := emF_NF o3
  refine ⟨fun h1 => ⟨by omega, ?_⟩, fun h1 => ?_⟩
  · obtain ⟨a, rfl⟩ : ∃ a, m2 = [a] := List.length_eq_one_iff.1 (by omega)
    refine CallJ.pure (ks := []) (l2Constant a (okA_small (isCe_a o2 a (by simp [-Bool.exists_bool, -Int.not_le, -Int.not_lt, -getElem?_pos, -List.getD_eq_getElem?_getD])))) (by simp [-Bool.exists_bool, -Int.not_le, -Int.not_lt, -getElem?_pos, -List.getD_eq_getElem?_getD, asD, aD]) (by simp [-Bool.exists_bool, -Int.not_le, -Int.not_lt, -getElem?_pos, -List.getD_eq_getElem?_getD]) ?_
    have ht : emF [a] = decide (gcdL a.1 = 0) := by
      rw [Bool.eq_iff_iff, he]
      have : nth [a] 0 = a := rfl
      rw [this]; simp [-Bool.exists_bool, -Int.not_le, -Int.not_lt, -getElem?_pos, -List.getD_eq_getElem?_getD]
    simp -implicitDefEqProofs -dsimp +contextual [-Bool.exists_bool, -Int.not_le, -Int.not_lt, -getElem?_pos, -List.getD_eq_getElem?_getD, hf]
    refine ⟨fun h0 => RLe.pure 2 (by rw [if_pos (by rw [ht]; simpa [-Bool.exists_bool, -Int.not_le, -Int.not_lt, -getElem?_pos, -List.getD_eq_getElem?_getD] using h0)]; simp [-Bool.exists_bool, -Int.not_le, -Int.not_lt, -getElem?_pos, -List.getD_eq_getElem?_getD]), fun h0 => ?_⟩
    refine ⟨⟨by omega, by simp [-Bool.exists_bool, -Int.not_le, -Int.not_lt, -getElem?_pos, -List.getD_eq_getElem?_getD, maxLen]; omega⟩, ⟨by omega, by simp [-Bool.exists_bool, -Int.not_le, -Int.not_lt, -getElem?_pos, -List.getD_eq_getElem?_getD, maxLen]; omega⟩, Quiet.of [2] (by kernel_rfl) (by simp [-Bool.exists_bool, -Int.not_le, -Int.not_lt, -getElem?_pos, -List.getD_eq_getElem?_getD, allP, offB]), Quiet.of [] (by kernel_rfl) (by simp [-Bool.exists_bool, -Int.not_le, -Int.not_lt, -getElem?_pos, -List.getD_eq_getElem?_getD, allP, offB]), Quiet.of [8] (by kernel_rfl) (by simp [-Bool.exists_bool, -Int.not_le, -Int.not_lt, -getElem?_pos, -List.getD_eq_getElem?_getD, allP, offB]), ?_⟩
    rw [if_neg (by rw [ht]; simpa [-Bool.exists_bool, -Int.not_le, -Int.not_lt, -getElem?_pos, -List.getD_eq_getElem?_getD] using h0)]
    exact RLe.pure 3 (by simp [-Bool.exists_bool, -Int.not_le, -Int.not_lt, -getElem?_pos, -List.getD_eq_getElem?_getD, setH, csD_append, csD_cons, cD])
  · refine ⟨⟨by omega, by simp [-Bool.exists_bool, -Int.not_le, -Int.not_lt, -getElem?_pos, -List.getD_eq_getElem?_getD, maxLen]; omega⟩, ⟨by omega, by simp [-Bool.exists_bool, -Int.not_le, -Int.not_lt, -getElem?_pos, -List.getD_eq_getElem?_getD, maxLen]; omega⟩, Quiet.of [2] (by kernel_rfl) (by simp [-Bool.exists_bool, -Int.not_le, -Int.not_lt, -getElem?_pos, -List.getD_eq_getElem?_getD, allP, offB]), Quiet.of [] (by kernel_rfl) (by simp [-Bool.exists_bool, -Int.not_le, -Int.not_lt, -getElem?_pos, -List.getD_eq_getElem?_getD, allP, offB]), Quiet.of [8] (by kernel_rfl) (by simp [-Bool.exists_bool, -Int.not_le, -Int.not_lt, -getElem?_pos, -List.getD_eq_getElem?_getD, allP, offB]), ?_⟩
    rw [if_neg (by intro h; have := (he.1 h).1; omega)]
    exact RLe.pure 3 (by simp [-Bool.exists_bool, -Int.not_le, -Int.not_lt, -getElem?_pos, -List.getD_eq_getElem?_getD, setH, csD_append, csD_cons, cD])
end Go.Proofs.YtjknjekemolndaaGreat.ZL
namespace Go.Proofs.YtjknjekemolndaaGreat.ZL
open Go Go.Proofs.YtjknjekemolndaaGreat.Abs Go.Proofs.YtjknjekemolndaaGreat.Abs.Pl Go.RowKit Go.Proofs
set_option linter.unusedVariables false
set_option linter.unusedSimpArgs false
theorem sat_congr {x y : Nat → Rat} {a : At} (h : ∀ i, i < a.1.length → x i = y i) : Sat x a ↔ Sat y a := by
  have e : evA x a = evA y a := by
    unfold evA
    rw [dt_congr (y := y) a.1 0 (fun i hi => .inr (by rw [Nat.zero_add]; exact h i hi))]
  unfold Sat
  rw [e]
theorem satL_congr {d : Int} {x y : Nat → Rat} {L : List At} (hL : ∀ a ∈ L, okA d a) (h : ∀ i : Nat, (i : Int) < d → x i = y i) : SatL x L ↔ SatL y L :=
  ⟨fun hs a ha => (sat_congr fun i hi => h i (by have := (hL a ha).2; omega)).1 (hs a ha), fun hs a ha => (sat_congr fun i hi => h i (by have := (hL a ha).2; omega)).2 (hs a ha)⟩
theorem neg_sat {x : Nat → Rat} {a : At} : Sat x (a.1.map (- ·), -a.2.1, !a.2.2) ↔ ¬ Sat x a := by
  have e : evA x (a.1.map (- ·), -a.2.1, !a.2.2) = - evA x a := by
    unfold evA
    show ((-a.2.1 : Int) : Rat) + dt x 0 (a.1.map (- ·)) = _
    rw [dt_neg, Rat.intCast_neg]
    grind
  unfold Sat
  rw [e]
  show (- evA x a < 0 ∨ - evA x a = 0 ∧ (!a.2.2) = false) ↔ _
  generalize evA x a = E
  cases a.2.2 <;> simp [-Bool.exists_bool, -Int.not_le, -Int.not_lt, -getElem?_pos, -List.getD_eq_getElem?_getD] <;> grind
theorem limN_sat {d : Int} {M : List At} (hM : ∀ a ∈ M, okA d a) (h : (limN d M).2.2 = true) : (limN d M).1 = d ∧ ∀ x, SatL x (limN d M).2.1 ↔ SatL x M := by
  unfold limN at h ⊢
  split at h
  · cases h
  · rename_i h2
    rw [if_neg h2]
    exact ⟨rfl, fun x => nrm_sat hM x⟩
theorem meetC_sat {a b : Ce} (h : (meetC a b).2.2 = true) : isCe a.1 a.2 = true ∧ isCe b.1 b.2 = true ∧ a.1 = b.1 ∧ ∀ x, SatL x (meetC a b).2.1 ↔ SatL x a.2 ∧ SatL x b.2 := by
  unfold meetC at h ⊢
  split at h
  · rename_i hc
    rw [if_pos hc]
    have ho : ∀ y ∈ a.2 ++ b.2, okA a.1 y := fun y hy => by
      rcases List.mem_append.1 hy with hy | hy
      · exact isCe_a hc.1 y hy
      · rw [hc.2.2]; exact isCe_a hc.2.1 y hy
    refine ⟨hc.1, hc.2.1, hc.2.2, fun x => ?_⟩
    rw [(limN_sat ho h).2 x]
    exact ⟨fun hs => ⟨fun y hy => hs y (List.mem_append.2 (.inl hy)), fun y hy => hs y (List.mem_append.2 (.inr hy))⟩, fun hs y hy => (List.mem_append.1 hy).elim (hs.1 y) (hs.2 y)⟩
  · cases h
theorem impA_sat {c : Ce} {a : At} (h : (impA c a).2 = true) : isCe c.1 c.2 = true ∧ okA c.1 a ∧ ((impA c a).1 = true ↔ ∀ x, SatL x c.2 → Sat x a) := by
  unfold impA at h ⊢
  split at h
  · rename_i h1
    rw [if_pos h1]
    split at h
    · rename_i h2
      rw [if_pos h2]
      obtain ⟨m1, m2, m3, m4⟩ := meetC_sat h2
      obtain ⟨e1, e2⟩ := emptyC_sat h
      refine ⟨m1, ⟨h1, m3.symm⟩, ?_⟩
      rw [e2]
      constructor
      · intro hn x hs
        exact Classical.byContradiction fun hna => hn x ((m4 x).2 ⟨hs, fun y hy => by rw [List.mem_singleton.1 hy]; exact neg_sat.2 hna⟩)
      · intro hi x hx
        obtain ⟨s1, s2⟩ := (m4 x).1 hx
        exact neg_sat.1 (s2 _ (List.mem_singleton.2 rfl)) (hi x s1)
    · cases h
  · cases h
theorem covGo_sat {b : Ce} : ∀ {L : List At}, (covGo b L).2 = true → ((covGo b L).1 = true ↔ ∀ x, SatL x b.2 → SatL x L)
  | [], h => by simp [-Bool.exists_bool, -Int.not_le, -Int.not_lt, -getElem?_pos, -List.getD_eq_getElem?_getD, covGo, SatL]
  | a :: r, h => by
    unfold covGo at h ⊢
    split at h
    · rename_i hc
      rw [if_pos hc, covGo_sat h]
      have i := (impA_sat hc.1).2.2.1 hc.2
      constructor
      · intro hr x hs y hy
        rcases List.mem_cons.1 hy with rfl | hy
        · exact i x hs
        · exact hr x hs y hy
      · intro hr x hs y hy
        exact hr x hs y (List.mem_cons_of_mem _ hy)
    · rename_i hc
      rw [if_neg hc]
      have h : (impA b a).2 = true := h
      constructor
      · intro h'; cases h'
      · intro hr
        exact absurd ⟨h, (impA_sat h).2.2.2 fun x hs => hr x hs a (by simp [-Bool.exists_bool, -Int.not_le, -Int.not_lt, -getElem?_pos, -List.getD_eq_getElem?_getD])⟩ hc
theorem covC_sat {a b : Ce} (h : (covC a b).2 = true) : (covC a b).1 = true ↔ ∀ x, SatL x b.2 → SatL x a.2 := by
  unfold covC at h ⊢
  split at h
  · rename_i hc
    rw [if_pos hc]
    exact covGo_sat h
  · cases h
theorem fixGo_sat {v : Nat} {n e : Int} (x : Nat → Rat) : ∀ {L acc M : List At}, fixGo v n e L acc = some M → (SatL x M ↔ SatL x acc ∧ SatL (upd x v (rv (n, e))) L)
  | [], acc, M, h => by
    obtain rfl := Option.some.inj h
    exact ⟨fun h => ⟨h, fun a ha => by simp [-Bool.exists_bool, -Int.not_le, -Int.not_lt, -getElem?_pos, -List.getD_eq_getElem?_getD] at ha⟩, fun h => h.1⟩
  | a :: L, acc, M, h => by
    unfold fixGo at h
    split at h
    · rename_i hf
      rw [fixGo_sat x h]
      have hs := fixA_sat hf x
      constructor
      · rintro ⟨h1, h2⟩
        refine ⟨fun y hy => h1 y (List.mem_append.2 (.inl hy)), fun y hy => ?_⟩
        rcases List.mem_cons.1 hy with rfl | hy
        · exact hs.1 (h1 _ (List.mem_append.2 (.inr (by simp [-Bool.exists_bool, -Int.not_le, -Int.not_lt, -getElem?_pos, -List.getD_eq_getElem?_getD]))))
        · exact h2 y hy
      · rintro ⟨h1, h2⟩
        refine ⟨fun y hy => ?_, fun y hy => h2 y (List.mem_cons_of_mem _ hy)⟩
        rcases List.mem_append.1 hy with hy | hy
        · exact h1 y hy
        · rw [List.mem_singleton.1 hy]
          exact hs.2 (h2 a (by simp [-Bool.exists_bool, -Int.not_le, -Int.not_lt, -getElem?_pos, -List.getD_eq_getElem?_getD]))
    · cases h
theorem sliceD_sat {d : Int} {L : List At} {v : Nat} {n e : Int} (h : (sliceD d L v n e).2.2 = true) : isCe d L = true ∧ (v : Int) < d ∧ isRat n e = true ∧ (sliceD d L v n e).1 = d ∧ ∀ x, SatL x (sliceD d L v n e).2.1 ↔ SatL (upd x v (rv (n, e))) L := by
  unfold sliceD at h ⊢
  split at h
  · rename_i hc
    rw [if_pos hc]
    cases hg : fixGo v n e L [] with
    | none => rw [hg] at h; cases h
    | some M =>
      dsimp only
      have ok := (fixGo_ok (isCe_a hc.1) (fun a ha => by simp [-Bool.exists_bool, -Int.not_le, -Int.not_lt, -getElem?_pos, -List.getD_eq_getElem?_getD] at ha) hg).1
      refine ⟨hc.1, hc.2.1.2, hc.2.2, rfl, fun x => ?_⟩
      rw [nrm_sat ok, fixGo_sat x hg]
      exact ⟨fun h => h.2, fun h => ⟨fun a ha => by simp [-Bool.exists_bool, -Int.not_le, -Int.not_lt, -getElem?_pos, -List.getD_eq_getElem?_getD] at ha, h⟩⟩
  · cases h
theorem dropsGo_sat {d : Int} (hd : 0 ≤ d ∧ d ≤ 4) (v : Nat) : ∀ (k : Nat) {x y : List At}, x.length ≤ 16 → allOk d x → dropsGo d v k x = some y → allOk d y ∧ (∀ w, (w < k ∧ w ≠ v) ∨ noV w x → noV w y) ∧ ∀ z, SatL z y ↔ ∃ t : Nat → Rat, (∀ i, k ≤ i ∨ i = v → t i = z i) ∧ SatL t x
  | 0, x, y, h16, hx, h => by
    obtain rfl := Option.some.inj h
    refine ⟨hx, fun w hw => hw.elim (fun h => by omega) id, fun z => ⟨fun hs => ⟨z, fun _ _ => rfl, hs⟩, fun ⟨t, ht, hs⟩ => ?_⟩⟩
    have : t = z := funext fun i => ht i (.inl (Nat.zero_le _))
    rw [← this]; exact hs
  | k + 1, x, y, h16, hx, h => by
    unfold dropsGo at h
    split at h
    · rename_i hk
      obtain ⟨h1, h2, h3⟩ := dropsGo_sat hd v k h16 hx h
      refine ⟨h1, fun w hw => h2 w ?_, fun z => ?_⟩
      · rcases hw with hw | hw
        · exact .inl ⟨by omega, hw.2⟩
        · exact .inr hw
      · rw [h3 z]
        constructor
        · rintro ⟨t, ht, hs⟩; exact ⟨t, fun i hi => ht i (by omega), hs⟩
        · rintro ⟨t, ht, hs⟩; exact ⟨t, fun i hi => ht i (by omega), hs⟩
    · split at h
      · rename_i hk hr
        have ok := dropC_ok hd k h16 hx hr
        obtain ⟨h1, h2, h3⟩ := dropsGo_sat hd v k ok.2.1 ok.2.2 h
        refine ⟨h1, fun w hw => h2 w ?_, fun z => ?_⟩
        · rcases hw with hw | hw
          · by_cases hwk : w = k
            · exact .inr (dropC_noV hx hr (.inl hwk))
            · exact .inl ⟨by omega, hw.2⟩
          · exact .inr (dropC_noV hx hr (.inr hw))
        · rw [h3 z]
          constructor
          · rintro ⟨t, ht, hs⟩
            obtain ⟨s, hs'⟩ := (dropC_sat hx hr t).1 hs
            exact ⟨upd t k s, fun i hi => by unfold upd; rw [if_neg (by omega)]; exact ht i (by omega), hs'⟩
          · rintro ⟨t, ht, hs⟩
            refine ⟨upd t k (z k), fun i hi => ?_, (dropC_sat hx hr _).2 ⟨t k, by rw [upd_upd, upd_self]; exact hs⟩⟩
            unfold upd
            split
            · rename_i e; rw [e]
            · exact ht i (by omega)
      · cases h
theorem narrow_em {v : Nat} {b : Bd} {a : At} : (narrow v b a).em = b.em := by
  unfold narrow
  repeat' split
  all_goals rfl
theorem narrows_em {v : Nat} : ∀ (L : List At) (b : Bd), (narrows v b L).em = b.em
  | [], b => rfl
  | a :: L, b => by rw [narrows, narrows_em L, narrow_em]
theorem bndD_sat {d : Int} {L : List At} {v : Nat} (h : (bndD d L v).2 = true) : isCe d L = true ∧ (v : Int) < d ∧ okB (bndD d L v).1 ∧ ∀ t, ((bndD d L v).1.em = false ∧ within (bndD d L v).1 t) ↔ ∃ z : Nat → Rat, z v = t ∧ SatL z L := by
  unfold bndD at h ⊢
  split at h
  · rename_i hc
    rw [if_pos hc]
    obtain ⟨h1, hv⟩ := hc
    have hd := isCe_d h1
    have h16 := isCe_l h1
    have hok := isCe_a h1
    rw [Int.toNat_natCast] at h ⊢
    cases hx : dropsGo d v d.toNat (nrm d L) with
    | none => rw [hx] at h; cases h
    | some x =>
      dsimp only
      obtain ⟨xo, xn, xs⟩ := dropsGo_sat hd v d.toNat (nrm_16 d L h16) (nrm_okL hd hok) hx
      have nf := dropsGo_NF d.toNat (nrm_NF d L) hx
      have hon : ∀ a ∈ x, only v a := fun a ha w hw => by
        by_cases hwd : w < d.toNat
        · exact xn w (.inl ⟨hwd, hw⟩) a ha
        · have := (xo a ha).2
          rw [List.getD_eq_getElem?_getD, List.getElem?_eq_none (by omega)]; rfl
      have key : ∀ t, (∃ z : Nat → Rat, z v = t ∧ SatL z L) ↔ ∃ z : Nat → Rat, z v = t ∧ SatL z x := fun t => by
        constructor
        · rintro ⟨z, hz, hs⟩
          exact ⟨z, hz, (xs z).2 ⟨z, fun _ _ => rfl, (nrm_sat hok z).2 hs⟩⟩
        · rintro ⟨z, hz, hs⟩
          obtain ⟨t', ht, hs'⟩ := (xs z).1 hs
          exact ⟨t', by rw [ht v (.inr rfl), hz], (nrm_sat hok t').1 hs'⟩
      unfold bndsI
      by_cases he : emF x = true
      · rw [if_pos he]
        refine ⟨h1, hv.2, ⟨fun h => (by cases h), fun h => (by cases h)⟩, fun t => ?_⟩
        rw [key]
        constructor
        · rintro ⟨h, _⟩; cases h
        · rintro ⟨z, hz, hs⟩
          have hg := (emF_NF nf).1 he
          rcases nf with rfl | nf
          · exact absurd (hs _ (List.mem_singleton.2 rfl)) (noneA_not d)
          · exact absurd hg.2 (nf _ (nth_mem (by omega)))
      · rw [if_neg he]
        have hg : ∀ a ∈ x, gcdL a.1 ≠ 0 := by
          rcases nf with rfl | nf
          · refine absurd ((emF_NF (.inl rfl)).2 ⟨rfl, ?_⟩) he
            exact gcd_zeros _
          · exact nf
        have nw := fun (z : Nat → Rat) (t : Rat) => narrows_within hv.2 z t x bd0 xo hon okB0
        have nw2 : ∀ (z : Nat → Rat) (t : Rat), within (narrows v bd0 x) t ↔ SatL (upd z v t) x := fun z t => by
          rw [(nw z t).2]
          constructor
          · rintro ⟨_, hs⟩ a ha
            exact hs a ha (fun e => hg a ha ((only_gcd (hon a ha)).2 e))
          · intro hs
            exact ⟨within0 t, fun a ha _ => hs a ha⟩
        have hb := (nw (fun _ => 0) 0).1
        have hem : (narrows v bd0 x).em = false := narrows_em x bd0
        have e2 : ∀ t, (∃ z : Nat → Rat, z v = t ∧ SatL z x) ↔ within (narrows v bd0 x) t := fun t => by
          constructor
          · rintro ⟨z, hz, hs⟩
            rw [nw2 z t, ← hz, upd_self]; exact hs
          · intro hw
            exact ⟨upd (fun _ => 0) v t, upd_at _ _ _, (nw2 _ t).1 hw⟩
        by_cases hq : (narrows v bd0 x).hl = true ∧ (narrows v bd0 x).hh = true ∧ (0 < cmpR (narrows v bd0 x).lo (narrows v bd0 x).hi ∨ (cmpR (narrows v bd0 x).lo (narrows v bd0 x).hi = 0 ∧ ((narrows v bd0 x).lop = true ∨ (narrows v bd0 x).hop = true)))
        · have ee : endB (narrows v bd0 x) = bdE := if_pos hq
          rw [ee]
          refine ⟨h1, hv.2, ⟨fun h => (by cases h), fun h => (by cases h)⟩, fun t => ?_⟩
          rw [key, e2]
          constructor
          · rintro ⟨h, _⟩; cases h
          · intro hw
            have := within_end hb hw
            rw [ee] at this
            rw [← this] at hem
            cases hem
        · have ee : endB (narrows v bd0 x) = narrows v bd0 x := if_neg hq
          rw [ee]
          refine ⟨h1, hv.2, hb, fun t => ?_⟩
          rw [key, e2]
          exact ⟨fun h => h.2, fun h => ⟨hem, h⟩⟩
  · cases h
end Go.Proofs.YtjknjekemolndaaGreat.ZL
namespace Go.Proofs.YtjknjekemolndaaGreat.ZL
open Go Go.Proofs.YtjknjekemolndaaGreat.Abs Go.Proofs.YtjknjekemolndaaGreat.Abs.Pl Go.RowKit Go.Proofs
set_option linter.unusedVariables false
set_option linter.unusedSimpArgs false
def lineGo (d : Int) (v : Nat) (p : List (Int × Int)) : Nat → List At → Option (List At)
  | 0, L => some L
  | n + 1, L => if p.length - (n + 1) = v then lineGo d v p n L else
    if (sliceD d L ((p.length - (n + 1) : Nat) : Int) (nth p (p.length - (n + 1))).1 (nth p (p.length - (n + 1))).2).2.2 = true then lineGo d v p n (sliceD d L ((p.length - (n + 1) : Nat) : Int) (nth p (p.length - (n + 1))).1 (nth p (p.length - (n + 1))).2).2.1 else none
def ovr (p : List (Int × Int)) (v k : Nat) (x : Nat → Rat) : Nat → Rat := fun i => if k ≤ i ∧ i < p.length ∧ i ≠ v then rv (nth p i) else x i
theorem lineGo_sat {d : Int} {v : Nat} {p : List (Int × Int)} : ∀ (n : Nat) {L M : List At}, n ≤ p.length → lineGo d v p n L = some M → ∀ x, SatL x M ↔ SatL (ovr p v (p.length - n) x) L
  | 0, L, M, hn, h, x => by
    obtain rfl := Option.some.inj h
    have : ovr p v (p.length - 0) x = x := by
      funext i
      unfold ovr
      rw [if_neg (by omega)]
    rw [this]
  | n + 1, L, M, hn, h, x => by
    unfold lineGo at h
    split at h
    · rename_i hk
      rw [lineGo_sat n (by omega) h x]
      have : ovr p v (p.length - n) x = ovr p v (p.length - (n + 1)) x := by
        funext i
        unfold ovr
        by_cases hi : p.length - n ≤ i ∧ i < p.length ∧ i ≠ v
        · rw [if_pos hi, if_pos (by omega)]
        · rw [if_neg hi, if_neg (by omega)]
      rw [this]
    · rename_i hk
      split at h
      · rename_i hs
        rw [lineGo_sat n (by omega) h x, (sliceD_sat hs).2.2.2.2]
        have : upd (ovr p v (p.length - n) x) (p.length - (n + 1)) (rv (nth p (p.length - (n + 1)))) = ovr p v (p.length - (n + 1)) x := by
          funext i
          unfold upd ovr
          by_cases e : i = p.length - (n + 1)
          · rw [if_pos e, if_pos (by omega), e]
          · rw [if_neg e]
            by_cases hi : p.length - n ≤ i ∧ i < p.length ∧ i ≠ v
            · rw [if_pos hi, if_pos (by omega)]
            · rw [if_neg hi, if_neg (by omega)]
        show SatL (upd _ _ (rv (nth p (p.length - (n + 1))))) L ↔ _
        rw [this]
      · cases h
theorem drop_line {d : Int} {L M : List At} {v : Int} {p : List (Int × Int)} (hd : (dropD d L v).2.2 = true) (hp : (p.length : Int) = d) (hm : lineGo d v.toNat p p.length L = some M) (h1 : (inI (dropD d L v).1 (dropD d L v).2.1 p).2 = true) (h2 : (emptyC d M).2 = true) :
    (inI (dropD d L v).1 (dropD d L v).2.1 p).1 = !(emptyC d M).1 := by
  have e := (emptyC_sat h2).2
  have i := (inI_sat (fun i hi => xp_nth p i hi) h1).2.2
  unfold dropD at hd i h1 ⊢
  split at hd
  · rename_i hc
    rw [if_pos hc] at i ⊢
    have hL := isCe_a hc.1
    rw [dropC_sat hL hd] at i
    have ls := lineGo_sat p.length (Nat.le_refl _) hm
    rw [Nat.sub_self] at ls
    have cg : ∀ (x : Nat → Rat), SatL (ovr p v.toNat 0 x) L ↔ SatL (upd (xp p) v.toNat (x v.toNat)) L := fun x => satL_congr hL fun i hi => by
      unfold ovr upd
      by_cases hv : i = v.toNat
      · rw [if_neg (by omega), if_pos hv, hv]
      · rw [if_pos ⟨Nat.zero_le _, by omega, hv⟩, if_neg hv, xp_nth p i (by omega)]
    have key : (∃ t, SatL (upd (xp p) v.toNat t) L) ↔ ¬ (emptyC d M).1 = true := by
      rw [e]
      constructor
      · rintro ⟨t, ht⟩ hn
        refine hn (fun _ => t) ((ls _).2 ((cg _).2 ht))
      · intro hn
        exact Classical.byContradiction fun hc => hn fun x hx => hc ⟨_, (cg x).1 ((ls x).1 hx)⟩
    rw [key] at i
    cases hz : (emptyC d M).1 <;> rw [hz] at i
    · exact i.2 (by simp [-Bool.exists_bool, -Int.not_le, -Int.not_lt, -getElem?_pos, -List.getD_eq_getElem?_getD])
    · cases hq : (inI (dropC d v.toNat L).1 (dropC d v.toNat L).2.1 p).1
      · rfl
      · exact absurd rfl (i.1 hq)
  · cases hd
def wiB (b : Bd) (q : Int × Int) : Bool := (!b.em && (!b.hl || (decide (0 < cmpR q b.lo) || (decide (cmpR q b.lo = 0) && !b.lop)))) && (!b.hh || (decide (cmpR q b.hi < 0) || (decide (cmpR q b.hi = 0) && !b.hop)))
theorem wiB_iff {b : Bd} {q : Int × Int} (hb : okB b) (hq : isRat q.1 q.2 = true) : wiB b q = true ↔ b.em = false ∧ within b (rv q) := by
  unfold wiB within aboveL belowU
  simp only [Bool.and_eq_true, Bool.or_eq_true, Bool.not_eq_true', decide_eq_true_eq, and_assoc]
  refine and_congr Iff.rfl (and_congr ?_ ?_)
  · cases hl : b.hl
    · simp [-Bool.exists_bool, -Int.not_le, -Int.not_lt, -getElem?_pos, -List.getD_eq_getElem?_getD]
    · have hlo := hb.2 hl
      rw [cmpR_gt hq hlo, cmpR_eq hq hlo]
      simp [-Bool.exists_bool, -Int.not_le, -Int.not_lt, -getElem?_pos, -List.getD_eq_getElem?_getD]
  · cases hh : b.hh
    · simp [-Bool.exists_bool, -Int.not_le, -Int.not_lt, -getElem?_pos, -List.getD_eq_getElem?_getD]
    · have hhi := hb.1 hh
      rw [cmpR_lt hq hhi, cmpR_eq hq hhi]
      simp [-Bool.exists_bool, -Int.not_le, -Int.not_lt, -getElem?_pos, -List.getD_eq_getElem?_getD]
theorem bounds_in {d : Int} {L : List At} {v : Int} {p : List (Int × Int)} (hb : (bndD d L v).2 = true) (hp : ∀ r ∈ p, isRat r.1 r.2 = true) (h1 : (inI d L p).2 = true) (h2 : (inI d L p).1 = true) : wiB (bndD d L v).1 (nth p v.toNat) = true := by
  have hv : isCe d L = true ∧ 0 ≤ v ∧ v < d := by
    unfold bndD at hb
    split at hb
    · rename_i hc; exact hc
    · cases hb
  obtain ⟨n, rfl⟩ : ∃ n : Nat, v = n := ⟨v.toNat, by omega⟩
  rw [Int.toNat_natCast]
  obtain ⟨_, b1, b2, b3⟩ := bndD_sat hb
  obtain ⟨_, i2, i3⟩ := inI_sat (fun i hi => xp_nth p i hi) h1
  have hn : n < p.length := by omega
  rw [wiB_iff b2 (hp _ (nth_mem hn)), b3]
  exact ⟨xp p, xp_nth p n hn, i3.1 h2⟩
theorem bounds_cut {d : Int} {L : List At} {v : Int} {q : Int × Int} (hb : (bndD d L v).2 = true) (hs : (sliceD d L v q.1 q.2).2.2 = true) (he : (emptyC (sliceD d L v q.1 q.2).1 (sliceD d L v q.1 q.2).2.1).2 = true) : (emptyC (sliceD d L v q.1 q.2).1 (sliceD d L v q.1 q.2).2.1).1 = !wiB (bndD d L v).1 q := by
  have hv : isCe d L = true ∧ 0 ≤ v ∧ v < d := by
    unfold bndD at hb
    split at hb
    · rename_i hc; exact hc
    · cases hb
  obtain ⟨n, rfl⟩ : ∃ n : Nat, v = n := ⟨v.toNat, by omega⟩
  obtain ⟨_, b1, b2, b3⟩ := bndD_sat hb
  obtain ⟨_, s2, s3, s4, s5⟩ := sliceD_sat hs
  have e := (emptyC_sat he).2
  have w := wiB_iff b2 s3
  rw [b3] at w
  have key : (emptyC (sliceD d L n q.1 q.2).1 (sliceD d L n q.1 q.2).2.1).1 = true ↔ ¬ wiB (bndD d L n).1 q = true := by
    rw [e, w]
    constructor
    · rintro hn ⟨z, hz, hs⟩
      refine hn z ((s5 z).2 ?_)
      show SatL (upd z n (rv q)) L
      rw [← hz, upd_self]; exact hs
    · intro hn x hx
      exact hn ⟨upd x n (rv q), upd_at _ _ _, (s5 x).1 hx⟩
  cases hw : wiB (bndD d L n).1 q <;> rw [hw] at key
  · exact key.2 (by simp [-Bool.exists_bool, -Int.not_le, -Int.not_lt, -getElem?_pos, -List.getD_eq_getElem?_getD])
  · cases hq : (emptyC (sliceD d L n q.1 q.2).1 (sliceD d L n q.1 q.2).2.1).1
    · rfl
    · exact absurd rfl (key.1 hq)
theorem emptyC_f {d : Int} {L : List At} (h : ¬ (emptyC d L).2 = true) : (emptyC d L).1 = false := by
  rw [projs_empty] at h ⊢
  cases hz : projs d L with
  | none => rfl
  | some Z => rw [hz] at h; exact absurd rfl h
theorem impA_f {c : Ce} {a : At} (h : ¬ (impA c a).2 = true) : (impA c a).1 = false := by
  unfold impA at h ⊢
  split
  · rename_i h1
    rw [if_pos h1] at h
    split
    · rename_i h2
      rw [if_pos h2] at h
      exact emptyC_f h
    · rfl
  · rfl
theorem imp_in {c : Ce} {a : At} {p : List (Int × Int)} (h : (impA c a).2 = true) (h' : (impA c a).1 = true) (h1 : (inI c.1 c.2 p).2 = true) (h2 : (inI c.1 c.2 p).1 = true) (h3 : (holdI a p).2 = true) : (holdI a p).1 = true :=
  (holdI_sat (fun i hi => xp_nth p i hi) h3).2 ((impA_sat h).2.2.1 h' _ ((inI_sat (fun i hi => xp_nth p i hi) h1).2.2.1 h2))
theorem cov_meet {a b : Ce} (h : (covC a b).2 = true) (hm : (meetC a b).2.2 = true) (h' : (covC ((meetC a b).1, (meetC a b).2.1) b).2 = true) : (covC a b).1 = (covC ((meetC a b).1, (meetC a b).2.1) b).1 := by
  have e1 := covC_sat h
  have e2 := covC_sat h'
  have m := (meetC_sat hm).2.2.2
  have : (covC a b).1 = true ↔ (covC ((meetC a b).1, (meetC a b).2.1) b).1 = true := by
    rw [e1, e2]
    constructor
    · intro h x hx; exact (m x).2 ⟨h x hx, hx⟩
    · intro h x hx; exact ((m x).1 (h x hx)).1
  cases h1 : (covC a b).1 <;> cases h2 : (covC ((meetC a b).1, (meetC a b).2.1) b).1 <;> simp_all [-Bool.exists_bool, -Int.not_le, -Int.not_lt, -getElem?_pos, -List.getD_eq_getElem?_getD]
end Go.Proofs.YtjknjekemolndaaGreat.ZL
namespace Go.Proofs.YtjknjekemolndaaGreat.ZL
open Go Go.Proofs.YtjknjekemolndaaGreat.Abs Go.Proofs.YtjknjekemolndaaGreat.Abs.Pl Go.RowKit Go.Proofs
set_option linter.unusedVariables false
set_option linter.unusedSimpArgs false
set_option linter.unnecessarySimpa false
set_option maxRecDepth 100000
def pofGo : List Ce → List (Int × Int) × Int
  | [] => ([], 1)
  | c :: cs => if (witD c.1 c.2).2 = 1 then pofGo cs else witD c.1 c.2
def pofD (d : Int) (cs : List Ce) : List (Int × Int) × Int := if isRe d cs = true then pofGo cs else ([], 2)
theorem PointOf (d : Int) (L : List Ce) (h20 : L.length ≤ 1048576) (hc : ∀ c ∈ L, c.2.length ≤ 1048576) : Cn Tryz.prog 57 [R1 d L] (WR (pofD d L)) hemp := by
  refine Cn.of [] mixed Tryz.func57 rfl Tryz.call57 (by kernel_rfl) rfl ?_
  simp -implicitDefEqProofs -dsimp +contextual [-Bool.exists_bool, -Int.not_le, -Int.not_lt, -getElem?_pos, -List.getD_eq_getElem?_getD, Tryz.f57]
  refine CallJ.pure (IsRegion d L h20 hc) rfl (by simp [-Bool.exists_bool, -Int.not_le, -Int.not_lt, -getElem?_pos, -List.getD_eq_getElem?_getD]) ?_
  simp -implicitDefEqProofs -dsimp +contextual [-Bool.exists_bool, -Int.not_le, -Int.not_lt, -getElem?_pos, -List.getD_eq_getElem?_getD]
  refine ⟨fun h1 => ?_, fun h1 => RLe.pure 3 (by rw [pofD, if_neg (by simp [-Bool.exists_bool, -Int.not_le, -Int.not_lt, -getElem?_pos, -List.getD_eq_getElem?_getD, h1])]; simp [-Bool.exists_bool, -Int.not_le, -Int.not_lt, -getElem?_pos, -List.getD_eq_getElem?_getD, rsD_nil])⟩
  rw [show pofD d L = pofGo L from if_pos h1]
  refine WP.loop mixed [] (fun i : Nat => ⟨tl [(1, .ptr (0, 0) 0), (4, I i)], hl [((0, 0), .box [I d, Cs L])], 1⟩) (fun i => i ≤ L.length ∧ pofGo L = pofGo (L.drop i)) (fun i => L.length - i) 0 (by kernel_rfl) ?_ ?_ ?_
  · refine Le.told [] ?_ ?_ ?_ <;> simp [-Bool.exists_bool, -Int.not_le, -Int.not_lt, -getElem?_pos, -List.getD_eq_getElem?_getD, setH]
  · exact ⟨Nat.zero_le _, rfl⟩
  · rintro i ⟨hi, he⟩
    by_cases h : i < L.length
    · rw [nth_drop h, pofGo] at he
      simp -implicitDefEqProofs -dsimp +contextual [-Bool.exists_bool, -Int.not_le, -Int.not_lt, -getElem?_pos, -List.getD_eq_getElem?_getD, h]
      have hW := WitnessOf (nth L i).1 (nth L i).2 (hc _ (nth_mem h))
      generalize witD (nth L i).1 (nth L i).2 = y at *
      obtain ⟨p, k⟩ := y
      simp only at he
      refine CallJ.pure hW rfl (by simp [-Bool.exists_bool, -Int.not_le, -Int.not_lt, -getElem?_pos, -List.getD_eq_getElem?_getD]) ?_
      simp -implicitDefEqProofs -dsimp +contextual [-Bool.exists_bool, -Int.not_le, -Int.not_lt, -getElem?_pos, -List.getD_eq_getElem?_getD, h]
      refine ⟨fun hk => ?_, fun hk => ?_⟩
      · rw [if_pos hk] at he
        refine ⟨i + 1, ⟨h, he⟩, by omega, ?_⟩
        rw [wr (x := (i : Int) + 1) (by omega) (by omega)]
        refine Le.told [] ?_ ?_ ?_ <;> simp [-Bool.exists_bool, -Int.not_le, -Int.not_lt, -getElem?_pos, -List.getD_eq_getElem?_getD]
      · rw [if_neg hk] at he
        rw [he]
        exact RLe.pure 3 (by simp [-Bool.exists_bool, -Int.not_le, -Int.not_lt, -getElem?_pos, -List.getD_eq_getElem?_getD])
    · rw [drop_nil (by omega), pofGo] at he
      simp -implicitDefEqProofs -dsimp +contextual [-Bool.exists_bool, -Int.not_le, -Int.not_lt, -getElem?_pos, -List.getD_eq_getElem?_getD, h]
      rw [he]
      exact RLe.pure 3 (by simp [-Bool.exists_bool, -Int.not_le, -Int.not_lt, -getElem?_pos, -List.getD_eq_getElem?_getD, rsD_nil])
def amN (d : Int) : Nat := (if 0 < if 4 < d then 4 else d then if 4 < d then 4 else d else 0).toNat
theorem amN_eq (d : Int) : (if 0 < if 4 < d then 4 else d then if 4 < d then 4 else d else 0) = (amN d : Int) ∧ amN d ≤ 4 := by
  unfold amN
  repeat' split
  all_goals omega
def amF (cd : List Int) (d : Int) (cs : List Ce) : List (Int × Int) := if (pofD d cs).2 = 0 ∧ cd.length % 2 = 0 then (pofD d cs).1 else ptF cd (amN d)
theorem among (cd : List Int) (d : Int) (L : List Ce) (hb : byts cd) (hl20 : cd.length ≤ 1048576) (h20 : L.length ≤ 1048576) (hc : ∀ c ∈ L, c.2.length ≤ 1048576) : Cn Tryz.prog 16 [Bs cd, R1 d L] (Rs (amF cd d L)) hemp := by
  refine Cn.of [] mixed Tryz.func16 rfl Tryz.call16 (by kernel_rfl) rfl ?_
  simp -implicitDefEqProofs -dsimp +contextual [-Bool.exists_bool, -Int.not_le, -Int.not_lt, -getElem?_pos, -List.getD_eq_getElem?_getD, Tryz.f16]
  refine CallJ.pure (PointOf d L h20 hc) rfl (by simp [-Bool.exists_bool, -Int.not_le, -Int.not_lt, -getElem?_pos, -List.getD_eq_getElem?_getD]) ?_
  unfold amF
  generalize pofD d L = y
  obtain ⟨p, k⟩ := y
  simp -implicitDefEqProofs -dsimp +contextual [-Bool.exists_bool, -Int.not_le, -Int.not_lt, -getElem?_pos, -List.getD_eq_getElem?_getD]
  obtain ⟨e4, h4⟩ := amN_eq d
  rw [e4]
  have hP := point cd (amN d) (by omega) hb hl20
  have e2 : (cd.length : Int).tmod 2 = 0 ↔ cd.length % 2 = 0 := by
    rw [Int.tmod_eq_emod_of_nonneg (by omega)]; omega
  refine ⟨fun h0 => ⟨fun h2 => ?_, fun h2 => ?_⟩, fun h0 => ?_⟩
  · rw [if_pos (e2.1 h2)]
    exact RLe.pure 3 (by simp [-Bool.exists_bool, -Int.not_le, -Int.not_lt, -getElem?_pos, -List.getD_eq_getElem?_getD])
  · have e : (if k = 0 ∧ cd.length % 2 = 0 then p else ptF cd (amN d)) = ptF cd (amN d) := if_neg (fun h => h2 (e2.2 h.2))
    refine CallJ.pure hP rfl (by simp [-Bool.exists_bool, -Int.not_le, -Int.not_lt, -getElem?_pos, -List.getD_eq_getElem?_getD]) ?_
    simp -implicitDefEqProofs -dsimp +contextual [-Bool.exists_bool, -Int.not_le, -Int.not_lt, -getElem?_pos, -List.getD_eq_getElem?_getD]
    exact RLe.pure 3 (by simp [-Bool.exists_bool, -Int.not_le, -Int.not_lt, -getElem?_pos, -List.getD_eq_getElem?_getD, e])
  · have e : (if k = 0 ∧ cd.length % 2 = 0 then p else ptF cd (amN d)) = ptF cd (amN d) := if_neg (fun h => h0 h.1)
    refine CallJ.pure hP rfl (by simp [-Bool.exists_bool, -Int.not_le, -Int.not_lt, -getElem?_pos, -List.getD_eq_getElem?_getD]) ?_
    simp -implicitDefEqProofs -dsimp +contextual [-Bool.exists_bool, -Int.not_le, -Int.not_lt, -getElem?_pos, -List.getD_eq_getElem?_getD]
    exact RLe.pure 3 (by simp [-Bool.exists_bool, -Int.not_le, -Int.not_lt, -getElem?_pos, -List.getD_eq_getElem?_getD, e])
theorem pt1_rat {cd : List Int} (hb : byts cd) {i : Nat} (hi : i ≤ 100) : isRat (pt1 cd i).1 (pt1 cd i).2 = true := by
  have hn := ptN_bd hb hi
  have hp := pt_bd hn
  unfold pt1
  generalize (ptN cd i).tmod 17 = x at *
  generalize ((ptN cd i).tdiv 17).tmod 3 = y at *
  have : ∀ a, a < 17 → ∀ b, b < 3 → isRat (mkR ((a : Nat) - 8 : Int) (1 + (b : Nat))).1 (mkR ((a : Nat) - 8 : Int) (1 + (b : Nat))).2 = true := by decide
  have := this x.toNat (by omega) y.toNat (by omega)
  rwa [Int.toNat_of_nonneg hp.1.1, Int.toNat_of_nonneg hp.2.2.1] at this
theorem ptF_rat {cd : List Int} (hb : byts cd) {n : Nat} (hn : n ≤ 100) : ∀ r ∈ ptF cd n, isRat r.1 r.2 = true := fun r hr => by
  obtain ⟨i, hi, rfl⟩ := List.mem_map.1 hr
  have := List.mem_range.1 hi
  exact pt1_rat hb (by omega)
theorem amF_ok {cd : List Int} (hb : byts cd) {d : Int} (hd : 0 ≤ d ∧ d ≤ 4) (L : List At) : ((amF cd d [(d, L)]).length : Int) = d ∧ ∀ r ∈ amF cd d [(d, L)], isRat r.1 r.2 = true := by
  have h4 := amN_eq d
  have e4 : (amN d : Int) = d := by
    rw [← h4.1]
    repeat' split
    all_goals omega
  unfold amF
  split
  · rename_i h
    have h := h.1
    unfold pofD at h ⊢
    split at h
    · rename_i hr
      rw [if_pos hr]
      unfold pofGo at h ⊢
      split at h
      · cases h
      · rename_i h1
        rw [if_neg h1]
        have := witD_found h
        exact ⟨this.2.1, this.2.2.1⟩
    · cases h
  · exact ⟨by rw [ptF_len, e4], ptF_rat hb (by omega)⟩
theorem amF_len {cd : List Int} (d : Int) (L : List At) : (amF cd d [(d, L)]).length ≤ 4 := by
  have h4 := (amN_eq d).2
  unfold amF
  split
  · rename_i h
    have h := h.1
    unfold pofD at h ⊢
    split at h
    · rename_i hr
      rw [if_pos hr]
      unfold pofGo at h ⊢
      split at h
      · cases h
      · rename_i h1
        rw [if_neg h1]
        have := witD_found h
        have := isCe_d this.1
        have := (witD_found h).2.1
        simp only at *
        omega
    · cases h
  · rw [ptF_len]; exact h4
end Go.Proofs.YtjknjekemolndaaGreat.ZL
namespace Go.Proofs.YtjknjekemolndaaGreat.ZL
open Go Go.Proofs.YtjknjekemolndaaGreat.Abs Go.Proofs.YtjknjekemolndaaGreat.Abs.Pl Go.RowKit Go.Proofs
set_option linter.unusedVariables false
set_option linter.unusedSimpArgs false
set_option maxRecDepth 100000
def newF (cd : List Int) (n : Nat) : Int := (cd.take n).foldl (fun h b => andI .i64 (IntKind.wrap .i64 (IntKind.wrap .i64 (IntKind.wrap .i64 (h * 131) + IntKind.wrap .i64 b) + 7)) 1073741823) (IntKind.wrap .i64 (10101 + (cd.length : Int)))
def newN (cd : List Int) : Nat := if cd.length < 4000 then cd.length else 4000
theorem newF_succ (cd : List Int) (i : Nat) (h : i < cd.length) : newF cd (i + 1) = andI .i64 (IntKind.wrap .i64 (IntKind.wrap .i64 (IntKind.wrap .i64 (newF cd i * 131) + IntKind.wrap .i64 (nth cd i)) + 7)) 1073741823 := by
  unfold newF
  rw [nth_take h, List.foldl_append]
  rfl
theorem l1New (cd : List Int) (h20 : cd.length ≤ 1048576) : Cn Tryz.prog 65 [Bs cd] (.ptr (0, 0) 0) (hl [((0, 0), cuE cd (0, newF cd (newN cd)))]) := by
  refine Cn.of [] mixed Tryz.func65 rfl Tryz.call65 (by kernel_rfl) rfl ?_
  simp -implicitDefEqProofs -dsimp +contextual [-Bool.exists_bool, -Int.not_le, -Int.not_lt, -getElem?_pos, -List.getD_eq_getElem?_getD, Tryz.f65]
  refine WP.loop mixed [] (fun i : Nat => ⟨tl [(0, Bs cd), (3, I (newF cd i)), (4, I i)], hl [], 1⟩) (fun i => i ≤ cd.length ∧ i ≤ 4000) (fun i => cd.length - i) 0 (by kernel_rfl) ?_ ?_ ?_
  · refine Le.told [] ?_ ?_ ?_ <;> simp [-Bool.exists_bool, -Int.not_le, -Int.not_lt, -getElem?_pos, -List.getD_eq_getElem?_getD, newF]
  · simp [-Bool.exists_bool, -Int.not_le, -Int.not_lt, -getElem?_pos, -List.getD_eq_getElem?_getD]
  · intro i hi
    have fin : newN cd = i → RLe Tryz.prog (setH (12, 0) (some (Ent.box [Bs cd, V.d (D.int IntKind.i64 0), I (newF cd i)])) (hl [])) (.ptr (12, 0) 0) (.ptr (0, 0) 0) (hl [((0, 0), cuE cd (0, newF cd (newN cd)))]) := fun e => by
      rw [e]
      refine RLe.told [((0, 0), (12, 0))] ?_ ?_ ?_
      · simp [-Bool.exists_bool, -Int.not_le, -Int.not_lt, -getElem?_pos, -List.getD_eq_getElem?_getD]
      · simp [-Bool.exists_bool, -Int.not_le, -Int.not_lt, -getElem?_pos, -List.getD_eq_getElem?_getD, setH]
      · simp [-Bool.exists_bool, -Int.not_le, -Int.not_lt, -getElem?_pos, -List.getD_eq_getElem?_getD]
    by_cases h : i < cd.length
    · by_cases h2 : i < 4000
      · have h2' : ((i : Int) < 4000) = True := by simp [-Bool.exists_bool, -Int.not_le, -Int.not_lt, -getElem?_pos, -List.getD_eq_getElem?_getD]; omega
        simp -implicitDefEqProofs -dsimp +contextual [-Bool.exists_bool, -Int.not_le, -Int.not_lt, -getElem?_pos, -List.getD_eq_getElem?_getD, h, h2']
        refine ⟨i + 1, ⟨by omega, by omega⟩, by omega, ?_⟩
        rw [newF_succ cd i h, wr (x := (i : Int) + 1) (by omega) (by omega)]
        refine Le.told [] ?_ ?_ ?_ <;> simp [-Bool.exists_bool, -Int.not_le, -Int.not_lt, -getElem?_pos, -List.getD_eq_getElem?_getD]
      · have h2' : ((i : Int) < 4000) = False := by simp [-Bool.exists_bool, -Int.not_le, -Int.not_lt, -getElem?_pos, -List.getD_eq_getElem?_getD]; omega
        simp -implicitDefEqProofs -dsimp +contextual [-Bool.exists_bool, -Int.not_le, -Int.not_lt, -getElem?_pos, -List.getD_eq_getElem?_getD, h, h2']
        exact fin (by unfold newN; split <;> omega)
    · simp -implicitDefEqProofs -dsimp +contextual [-Bool.exists_bool, -Int.not_le, -Int.not_lt, -getElem?_pos, -List.getD_eq_getElem?_getD, h]
      exact fin (by unfold newN; split <;> omega)
def oAV (r : At2) : V := if r.2.2.2 = true then .tup [.agg [.ref (0, 0) r.1.length, I r.2.1, B r.2.2.1], B true] else .tup [.agg [.nil, I 0, B false], B false]
def oAH (r : At2) : Store := if r.2.2.2 = true then hl [((0, 0), .row 3 r.1.length (dl (r.1.map (D.int .i64))))] else hemp
theorem l2AtomO (l : List Int) (c : Int) (s : Bool) (h40 : l.length ≤ 1048576) (hm : ∀ y ∈ l, -9223372036854775807 ≤ y ∧ y ≤ 9223372036854775807) (hc : -9223372036854775807 ≤ c ∧ c ≤ 9223372036854775807) : Cn Tryz.prog 144 [Is l, I c, B s] (oAV (mkAt l c s)) (oAH (mkAt l c s)) := by
  refine Cn.of [] mixed Tryz.func144 rfl Tryz.call144 (by kernel_rfl) rfl ?_
  simp -implicitDefEqProofs -dsimp +contextual [-Bool.exists_bool, -Int.not_le, -Int.not_lt, -getElem?_pos, -List.getD_eq_getElem?_getD, Tryz.f144]
  refine CallJ.pure (l2Gcd l c (by omega) hm hc) rfl (by simp [-Bool.exists_bool, -Int.not_le, -Int.not_lt, -getElem?_pos, -List.getD_eq_getElem?_getD]) ?_
  simp -implicitDefEqProofs -dsimp +contextual [-Bool.exists_bool, -Int.not_le, -Int.not_lt, -getElem?_pos, -List.getD_eq_getElem?_getD]
  have hg : gcdF c.natAbs l = Nat.gcd (gcdL l) c.natAbs := by rw [gcdF_eq, Nat.gcd_comm]
  have hp := div1_pos (Nat.gcd (gcdL l) c.natAbs)
  rw [hg, max1, tdiv64 hc.1 hc.2]
  have em : mkAt l c s = if isAt (l.map (·.tdiv (div1 (Nat.gcd (gcdL l) c.natAbs)))) (c.tdiv (div1 (Nat.gcd (gcdL l) c.natAbs))) then (l.map (·.tdiv (div1 (Nat.gcd (gcdL l) c.natAbs))), c.tdiv (div1 (Nat.gcd (gcdL l) c.natAbs)), s, true) else noAt := rfl
  rw [em]
  generalize div1 (Nat.gcd (gcdL l) c.natAbs) = g at hp ⊢
  refine ⟨by omega, ?_⟩
  refine WP.loop mixed [] (fun i : Nat => ⟨tl [(0, Is l), (6, .ptr (0, 0) 0), (8, I g), (9, .ptr (12, 0) 0), (10, I i)], hl [((0, 0), .box [.nil, I 0, B false]), ((12, 0), .box [.ref (15, 0) i, I (c.tdiv g), B s]), ((15, 0), .row 3 i (dl ((l.take i).map fun x => .int .i64 (x.tdiv g))))], 16⟩) (fun i => i ≤ l.length) (fun i => l.length - i) 0 (by kernel_rfl) ?_ ?_ ?_
  · refine Le.trans (Le.nilBox (12, 0) 0 3 (c := [.nil, I (c.tdiv g), B s]) (by simp [-Bool.exists_bool, -Int.not_le, -Int.not_lt, -getElem?_pos, -List.getD_eq_getElem?_getD, setH]) rfl) (Le.told [] ?_ ?_ ?_) <;> simp [-Bool.exists_bool, -Int.not_le, -Int.not_lt, -getElem?_pos, -List.getD_eq_getElem?_getD, setH, ELe]
  · simp [-Bool.exists_bool, -Int.not_le, -Int.not_lt, -getElem?_pos, -List.getD_eq_getElem?_getD]
  · intro i hi
    simp -implicitDefEqProofs -dsimp +contextual [-Bool.exists_bool, -Int.not_le, -Int.not_lt, -getElem?_pos, -List.getD_eq_getElem?_getD]
    refine ⟨fun h => ?_, fun h => ?_⟩
    · refine ⟨by omega, ⟨by omega, by simp [-Bool.exists_bool, -Int.not_le, -Int.not_lt, -getElem?_pos, -List.getD_eq_getElem?_getD, maxLen]; omega⟩, by kernel_rfl, ?_⟩
      have hy := hm (nth l i) (nth_mem h)
      refine ⟨i + 1, by omega, by omega, ?_⟩
      rw [tdiv64 hy.1 hy.2, wr (by omega) (by omega)]
      refine Le.told [((15, 0), (29, 0))] ?_ ?_ ?_ <;> simp [-Bool.exists_bool, -Int.not_le, -Int.not_lt, -getElem?_pos, -List.getD_eq_getElem?_getD]
      rw [← List.map_take, ← List.map_take, nth_take h]
      simp [-Bool.exists_bool, -Int.not_le, -Int.not_lt, -getElem?_pos, -List.getD_eq_getElem?_getD]
    · obtain rfl : i = l.length := by omega
      have hT : List.take l.length (List.map (fun x => D.int IntKind.i64 (x.tdiv g)) l) = List.map (D.int IntKind.i64 ∘ fun x => x.tdiv g) l := by rw [List.take_of_length_le (by simp [-Bool.exists_bool, -Int.not_le, -Int.not_lt, -getElem?_pos, -List.getD_eq_getElem?_getD])]; rfl
      refine CallJ.lent (ks := [(15, 0)]) 3 (IsAtom (l.map (·.tdiv g), c.tdiv g, s)) (by simp [-Bool.exists_bool, -Int.not_le, -Int.not_lt, -getElem?_pos, -List.getD_eq_getElem?_getD, hT]) (by simp [-Bool.exists_bool, -Int.not_le, -Int.not_lt, -getElem?_pos, -List.getD_eq_getElem?_getD]) rfl (by simp [-Bool.exists_bool, -Int.not_le, -Int.not_lt, -getElem?_pos, -List.getD_eq_getElem?_getD]) ?_
      simp -implicitDefEqProofs -dsimp +contextual [-Bool.exists_bool, -Int.not_le, -Int.not_lt, -getElem?_pos, -List.getD_eq_getElem?_getD]
      refine ⟨fun hb => ?_, fun hb => ?_⟩
      · rw [show oAV (l.map (·.tdiv g), c.tdiv g, s, true) = .tup [.agg [.ref (0, 0) (l.map (·.tdiv g)).length, I (c.tdiv g), B s], B true] from rfl, show oAH (l.map (·.tdiv g), c.tdiv g, s, true) = hl [((0, 0), .row 3 (l.map (·.tdiv g)).length (dl ((l.map (·.tdiv g)).map (D.int .i64))))] from rfl]
        refine RLe.told [((0, 0), (15, 0))] ?_ ?_ ?_
        · simp [-Bool.exists_bool, -Int.not_le, -Int.not_lt, -getElem?_pos, -List.getD_eq_getElem?_getD]
        · simp [-Bool.exists_bool, -Int.not_le, -Int.not_lt, -getElem?_pos, -List.getD_eq_getElem?_getD, setH, hT]
        · simp [-Bool.exists_bool, -Int.not_le, -Int.not_lt, -getElem?_pos, -List.getD_eq_getElem?_getD]
      · rw [show oAV noAt = .tup [.agg [.nil, I 0, B false], B false] from rfl, show oAH noAt = hemp from rfl]
        exact RLe.emp (by simp [-Bool.exists_bool, -Int.not_le, -Int.not_lt, -getElem?_pos, -List.getD_eq_getElem?_getD])
theorem gcdL_tdiv {g : Nat} (hg : 0 < g) : ∀ {l : List Int}, (∀ x ∈ l, g ∣ x.natAbs) → gcdL (l.map (·.tdiv (g : Int))) = gcdL l / g
  | [], _ => by simp [-Bool.exists_bool, -Int.not_le, -Int.not_lt, -getElem?_pos, -List.getD_eq_getElem?_getD, gcdL, gcdF]
  | x :: l, h => by
    have hx := h x (by simp [-Bool.exists_bool, -Int.not_le, -Int.not_lt, -getElem?_pos, -List.getD_eq_getElem?_getD])
    have hl := fun y hy => h y (List.mem_cons_of_mem x hy)
    have hd : g ∣ gcdL l := by
      clear hx h
      induction l with
      | nil => exact ⟨0, rfl⟩
      | cons y l ih =>
        rw [gcdL_cons]
        exact Nat.dvd_gcd (hl y (by simp [-Bool.exists_bool, -Int.not_le, -Int.not_lt, -getElem?_pos, -List.getD_eq_getElem?_getD])) (ih (fun z hz => hl z (by simp [-Bool.exists_bool, -Int.not_le, -Int.not_lt, -getElem?_pos, -List.getD_eq_getElem?_getD, hz])))
    rw [List.map_cons, gcdL_cons, gcdL_cons, gcdL_tdiv hg hl, Int.natAbs_tdiv, Int.natAbs_natCast]
    show Nat.gcd (x.natAbs / g) _ = _
    rw [Nat.gcd_div hx hd]
theorem mkAt_small {l : List Int} {c : Int} {s : Bool} (hl : l.length ≤ 4) (h : ∀ x ∈ l, isNum x = true) (hc : isNum c = true) : (mkAt l c s).2.2.2 = true := by
  have key : isAt (l.map (·.tdiv (div1 (Nat.gcd (gcdL l) c.natAbs)))) (c.tdiv (div1 (Nat.gcd (gcdL l) c.natAbs))) = true := by
    have hn : ∀ (y : Int) (g : Int), isNum y = true → isNum (y.tdiv g) = true := fun y g hy => by
      have := isNum_iff.1 hy
      have h1 : (y.tdiv g).natAbs ≤ y.natAbs := by rw [Int.natAbs_tdiv]; exact Nat.div_le_self _ _
      exact isNum_iff.2 ⟨by omega, by omega⟩
    rw [isAt_iff]
    refine ⟨by simpa [-Bool.exists_bool, -Int.not_le, -Int.not_lt, -getElem?_pos, -List.getD_eq_getElem?_getD] using hl, hn _ _ hc, fun x hx => ?_, ?_⟩
    · obtain ⟨y, hy, rfl⟩ := List.mem_map.1 hx
      exact hn _ _ (h y hy)
    · by_cases h0 : Nat.gcd (gcdL l) c.natAbs = 0
      · have e : div1 (Nat.gcd (gcdL l) c.natAbs) = 1 := by unfold div1; rw [if_pos h0]
        rw [e]
        simp only [Int.tdiv_one, List.map_id']
        omega
      · have hp : 0 < Nat.gcd (gcdL l) c.natAbs := by omega
        have e : div1 (Nat.gcd (gcdL l) c.natAbs) = ((Nat.gcd (gcdL l) c.natAbs : Nat) : Int) := by unfold div1; rw [if_neg h0]
        rw [e, gcdL_tdiv hp (fun x hx => Nat.dvd_trans (Nat.gcd_dvd_left _ _) (gcdL_dvd l x hx)), Int.natAbs_tdiv, Int.natAbs_natCast]
        show Nat.gcd _ (c.natAbs / _) ≤ 1
        rw [Nat.gcd_div (Nat.gcd_dvd_left _ _) (Nat.gcd_dvd_right _ _), Nat.div_self hp]
        exact Nat.le_refl 1
  unfold mkAt
  simp only
  rw [if_pos key]
def mkA (l : List Int) (c : Int) (s : Bool) : At2 := if l.length ≤ 4 then mkAt l c s else noAt
theorem MakeAtomO (l : List Int) (c : Int) (s : Bool) (h40 : l.length ≤ 1048576) (hm : ∀ y ∈ l, isNum y = true) (hc : isNum c = true) : Cn Tryz.prog 135 [Is l, I c, B s] (oAV (mkA l c s)) (oAH (mkA l c s)) := by
  refine Cn.of [] mixed Tryz.func135 rfl Tryz.call135 (by kernel_rfl) rfl ?_
  simp -implicitDefEqProofs -dsimp +contextual [-Bool.exists_bool, -Int.not_le, -Int.not_lt, -getElem?_pos, -List.getD_eq_getElem?_getD, Tryz.f135]
  refine WP.loop mixed [] (fun i : Nat => ⟨tl [(0, Is l), (1, I c), (2, B s), (6, .ptr (0, 0) 0), (7, B false), (8, I i)], hl [((0, 0), .box [.nil, I 0, B false])], 1⟩) (fun i => i ≤ l.length) (fun i => l.length - i) 0 (by kernel_rfl) ?_ ?_ ?_
  · refine Le.told [] ?_ ?_ ?_ <;> simp [-Bool.exists_bool, -Int.not_le, -Int.not_lt, -getElem?_pos, -List.getD_eq_getElem?_getD]
  · simp [-Bool.exists_bool, -Int.not_le, -Int.not_lt, -getElem?_pos, -List.getD_eq_getElem?_getD]
  · intro i hi
    by_cases h : i < l.length
    · simp -implicitDefEqProofs -dsimp +contextual [-Bool.exists_bool, -Int.not_le, -Int.not_lt, -getElem?_pos, -List.getD_eq_getElem?_getD, h]
      refine CallJ.pure (IsNumber _) rfl (by simp [-Bool.exists_bool, -Int.not_le, -Int.not_lt, -getElem?_pos, -List.getD_eq_getElem?_getD]) ?_
      have h1 := hm _ (nth_mem h)
      simp -implicitDefEqProofs -dsimp +contextual [-Bool.exists_bool, -Int.not_le, -Int.not_lt, -getElem?_pos, -List.getD_eq_getElem?_getD, h, h1]
      refine ⟨i + 1, h, by omega, ?_⟩
      rw [wr (x := (i : Int) + 1) (by omega) (by omega)]
      refine Le.told [] ?_ ?_ ?_ <;> simp [-Bool.exists_bool, -Int.not_le, -Int.not_lt, -getElem?_pos, -List.getD_eq_getElem?_getD]
    · simp -implicitDefEqProofs -dsimp +contextual [-Bool.exists_bool, -Int.not_le, -Int.not_lt, -getElem?_pos, -List.getD_eq_getElem?_getD, h]
      refine CallJ.pure (IsNumber _) rfl (by simp [-Bool.exists_bool, -Int.not_le, -Int.not_lt, -getElem?_pos, -List.getD_eq_getElem?_getD]) ?_
      simp -implicitDefEqProofs -dsimp +contextual [-Bool.exists_bool, -Int.not_le, -Int.not_lt, -getElem?_pos, -List.getD_eq_getElem?_getD, hc]
      refine ⟨fun h4 => ?_, fun h4 => ?_⟩
      · rw [show mkA l c s = noAt from if_neg (by omega)]
        rw [show oAV noAt = .tup [.agg [.nil, I 0, B false], B false] from rfl, show oAH noAt = hemp from rfl]
        exact RLe.emp (by simp [-Bool.exists_bool, -Int.not_le, -Int.not_lt, -getElem?_pos, -List.getD_eq_getElem?_getD])
      · rw [show mkA l c s = mkAt l c s from if_pos (by omega)]
        have hN := l2AtomO l c s h40 (fun y hy => by have := isNum_iff.1 (hm y hy); omega) (by have := isNum_iff.1 hc; omega)
        have hok := mkAt_small (s := s) (by omega) hm hc
        generalize mkAt l c s = r at hN hok ⊢
        obtain ⟨r1, r2, r3, r4⟩ := r
        obtain rfl : r4 = true := hok
        rw [show oAV (r1, r2, r3, true) = .tup [.agg [.ref (0, 0) r1.length, I r2, B r3], B true] from rfl, show oAH (r1, r2, r3, true) = hl [((0, 0), .row 3 r1.length (dl (r1.map (D.int .i64))))] from rfl] at hN ⊢
        refine CallJ.pure hN rfl (by simp [-Bool.exists_bool, -Int.not_le, -Int.not_lt, -getElem?_pos, -List.getD_eq_getElem?_getD]) ?_
        simp -implicitDefEqProofs -dsimp +contextual [-Bool.exists_bool, -Int.not_le, -Int.not_lt, -getElem?_pos, -List.getD_eq_getElem?_getD, h, h4]
        refine RLe.told [((0, 0), (16, 0))] ?_ ?_ ?_
        · simp [-Bool.exists_bool, -Int.not_le, -Int.not_lt, -getElem?_pos, -List.getD_eq_getElem?_getD]
        · simp [-Bool.exists_bool, -Int.not_le, -Int.not_lt, -getElem?_pos, -List.getD_eq_getElem?_getD, setH]
        · simp [-Bool.exists_bool, -Int.not_le, -Int.not_lt, -getElem?_pos, -List.getD_eq_getElem?_getD]
end Go.Proofs.YtjknjekemolndaaGreat.ZL
namespace Go.Proofs.YtjknjekemolndaaGreat.ZL
open Go Go.Proofs.YtjknjekemolndaaGreat.Abs Go.Proofs.YtjknjekemolndaaGreat.Abs.Pl Go.RowKit Go.Proofs
set_option linter.unusedVariables false
set_option linter.unusedSimpArgs false
set_option maxRecDepth 100000
theorem invK_id {k : Key} (hk : k.1 = 0) : ∀ {iv : List (Key × Key)}, allP (fun p : Key × Key => p.1.1 ≠ 0) iv → invK iv k = k
  | [], _ => rfl
  | p :: iv, h => by
    have h1 : p.1.1 ≠ 0 := h.1
    unfold invK
    rw [if_neg (fun e => h1 (by rw [← e]; exact hk))]
    exact invK_id hk h.2
theorem RLm.toldL {P : Program} {A : Key → Prop} {H : Store} {r v : V} {K : List (Key × Ent)} (iv : List (Key × Key)) (hid : allP (fun p : Key × Key => p.1.1 ≠ 0) iv) (hv : VLe H (invK iv) 2 v r) (hr : allK (okKey A) r)
    (hK : allP (fun p : Key × Ent => p.1.1 < 2 ∧ okKey A p.1 ∧ allKE (okKey A) p.2 ∧ entIs (H (invK iv p.1)) fun e => ELe H (invK iv) 2 e p.2) K) (hn : (K.map fun p => invK iv p.1).Nodup) : RLm P A H v r (hl K) := by
  refine RLm.mk (invK iv) (fun k hk => invK_id hk hid) hv hr (fun k e' hk => ?_) (fun k k' e e' h1 h2 h => ?_)
  · obtain ⟨h1, h2, h3, h4⟩ := allP_mem hK _ (hl_mem hk)
    simp only [entIs] at h4
    refine ⟨h1, h2, h3, ?_⟩
    cases hq : H (invK iv k) with
    | none => rw [hq] at h4; exact h4.elim
    | some e => rw [hq] at h4; exact ⟨e, rfl, h4⟩
  · have := nodup_told hn _ (hl_mem h1) _ (hl_mem h2) h
    exact congrArg Prod.fst this
def drL (cd : List Int) : Nat → Cu → List Int × Cu
  | 0, c => ([], c)
  | n + 1, c => ((drL cd n c).1 ++ [(belowF cd 5 (drL cd n c).2).1 - 2], (belowF cd 5 (drL cd n c).2).2)
theorem drL_len (cd : List Int) : ∀ (n : Nat) (c : Cu), (drL cd n c).1.length = n
  | 0, c => rfl
  | n + 1, c => by simp [-Bool.exists_bool, -Int.not_le, -Int.not_lt, -getElem?_pos, -List.getD_eq_getElem?_getD, drL, drL_len cd n c]
theorem drL_cu (cd : List Int) : ∀ (n : Nat) (c : Cu), c.1 ≤ cd.length → (drL cd n c).2.1 ≤ cd.length
  | 0, c, h => h
  | n + 1, c, h => belowF_cu _ _ _ (drL_cu cd n c h)
theorem drL_num (cd : List Int) : ∀ (n : Nat) (c : Cu), ∀ x ∈ (drL cd n c).1, isNum x = true
  | 0, c, x, h => by simp [-Bool.exists_bool, -Int.not_le, -Int.not_lt, -getElem?_pos, -List.getD_eq_getElem?_getD, drL] at h
  | n + 1, c, x, h => by
    rcases List.mem_append.1 h with h | h
    · exact drL_num cd n c x h
    · have := belowF_bd cd (n := 5) (drL cd n c).2 (by omega)
      rw [List.mem_singleton.1 h]
      exact isNum_iff.2 ⟨by omega, by omega⟩
def drA (cd : List Int) (n : Nat) (c : Cu) : At2 × Cu :=
  (mkA (drL cd n c).1 ((belowF cd 13 (drL cd n c).2).1 - 6) (decide ((belowF cd 3 (belowF cd 13 (drL cd n c).2).2).1 = 0)), (belowF cd 3 (belowF cd 13 (drL cd n c).2).2).2)
theorem drA_cu (cd : List Int) (n : Nat) (c : Cu) (h : c.1 ≤ cd.length) : (drA cd n c).2.1 ≤ cd.length := belowF_cu _ _ _ (belowF_cu _ _ _ (drL_cu _ _ _ h))
def dV (r : At2) : V := if r.2.2.2 = true then .agg [.ref (1, 0) r.1.length, I r.2.1, B r.2.2.1] else .agg [.nil, I 0, B false]
def dH (cd : List Int) (r : At2) (c : Cu) : Store := if r.2.2.2 = true then hl [((0, 1), cuE cd c), ((1, 0), .row 3 r.1.length (dl (r.1.map (D.int .i64))))] else cuH cd c
theorem l2Draw (cd : List Int) (n : Nat) (c : Cu) (hn : n ≤ 5) (hc : c.1 ≤ cd.length) (h20 : cd.length ≤ 1048576) : Cm Tryz.prog 90 cA [.ptr (0, 1) 0, I n] (cuH cd c) (dV (drA cd n c).1) (dH cd (drA cd n c).1 (drA cd n c).2) := by
  refine Cm.of [] mixed Tryz.func90 rfl Tryz.call90 (by kernel_rfl) rfl ?_
  simp -implicitDefEqProofs -dsimp +contextual [-Bool.exists_bool, -Int.not_le, -Int.not_lt, -getElem?_pos, -List.getD_eq_getElem?_getD, Tryz.f90]
  refine WP.loop mixed [] (fun i : Nat => ⟨tl [(0, .ptr (0, 1) 0), (1, I n), (4, .ptr (1, 0) 0), (5, .ref (2, 0) i), (6, I i)], hl [((0, 1), cuE cd (drL cd i c).2), ((1, 0), .box [.nil, I 0, B false]), ((2, 0), .row 3 i (dl ((drL cd i c).1.map (D.int .i64))))], 3⟩) (fun i => i ≤ n) (fun i => n - i) 0 (by kernel_rfl) ?_ ?_ ?_
  · refine Le.trans (Le.nil 5 3 (by simp [-Bool.exists_bool, -Int.not_le, -Int.not_lt, -getElem?_pos, -List.getD_eq_getElem?_getD])) (Le.told [((2, 0), (5, 0))] ?_ ?_ ?_) <;> simp [-Bool.exists_bool, -Int.not_le, -Int.not_lt, -getElem?_pos, -List.getD_eq_getElem?_getD, setH, drL]
  · simp [-Bool.exists_bool, -Int.not_le, -Int.not_lt, -getElem?_pos, -List.getD_eq_getElem?_getD]
  · intro i hi
    by_cases h : i < n
    · have hci := drL_cu cd i c hc
      have hli := drL_len cd i c
      simp -implicitDefEqProofs -dsimp +contextual [-Bool.exists_bool, -Int.not_le, -Int.not_lt, -getElem?_pos, -List.getD_eq_getElem?_getD, h]
      refine callBelow 5 (0, 1) hci h20 (by simp [-Bool.exists_bool, -Int.not_le, -Int.not_lt, -getElem?_pos, -List.getD_eq_getElem?_getD]) (by simp [-Bool.exists_bool, -Int.not_le, -Int.not_lt, -getElem?_pos, -List.getD_eq_getElem?_getD]) (by simp [-Bool.exists_bool, -Int.not_le, -Int.not_lt, -getElem?_pos, -List.getD_eq_getElem?_getD]) ?_
      have hb := belowF_bd cd (n := 5) (drL cd i c).2 (by omega)
      simp -implicitDefEqProofs -dsimp +contextual [-Bool.exists_bool, -Int.not_le, -Int.not_lt, -getElem?_pos, -List.getD_eq_getElem?_getD, h]
      refine ⟨⟨by omega, by simp [-Bool.exists_bool, -Int.not_le, -Int.not_lt, -getElem?_pos, -List.getD_eq_getElem?_getD, maxLen]; omega⟩, i + 1, h, by omega, ?_⟩
      rw [wr (x := (i : Int) + 1) (by omega) (by omega), wr (x := (belowF cd 5 (drL cd i c).2).1 - 2) (by omega) (by omega)]
      refine Le.told [((2, 0), (11, 0))] ?_ ?_ ?_ <;> simp [-Bool.exists_bool, -Int.not_le, -Int.not_lt, -getElem?_pos, -List.getD_eq_getElem?_getD, drL]
    · obtain rfl : i = n := by omega
      have hci := drL_cu cd i c hc
      have hli := drL_len cd i c
      have hnum := drL_num cd i c
      unfold drA
      generalize drL cd i c = z at *
      obtain ⟨l, c1⟩ := z
      simp only at hci hli hnum ⊢
      obtain rfl := hli
      simp -implicitDefEqProofs -dsimp +contextual [-Bool.exists_bool, -Int.not_le, -Int.not_lt, -getElem?_pos, -List.getD_eq_getElem?_getD, h]
      have hb := belowF_bd cd (n := 13) c1 (by omega)
      have hc2 := belowF_cu cd 13 c1 hci
      refine callBelow 13 (0, 1) hci h20 (by simp [-Bool.exists_bool, -Int.not_le, -Int.not_lt, -getElem?_pos, -List.getD_eq_getElem?_getD]) (by simp [-Bool.exists_bool, -Int.not_le, -Int.not_lt, -getElem?_pos, -List.getD_eq_getElem?_getD]) (by simp [-Bool.exists_bool, -Int.not_le, -Int.not_lt, -getElem?_pos, -List.getD_eq_getElem?_getD]) ?_
      generalize belowF cd 13 c1 = y at *
      obtain ⟨k, c2⟩ := y
      simp only at hb hc2 ⊢
      simp -implicitDefEqProofs -dsimp +contextual [-Bool.exists_bool, -Int.not_le, -Int.not_lt, -getElem?_pos, -List.getD_eq_getElem?_getD]
      rw [wr (x := k - 6) (by omega) (by omega)]
      have hc3 := belowF_cu cd 3 c2 hc2
      refine callOnce 3 (0, 1) hc2 h20 (by simp [-Bool.exists_bool, -Int.not_le, -Int.not_lt, -getElem?_pos, -List.getD_eq_getElem?_getD]) (by simp [-Bool.exists_bool, -Int.not_le, -Int.not_lt, -getElem?_pos, -List.getD_eq_getElem?_getD]) (by simp [-Bool.exists_bool, -Int.not_le, -Int.not_lt, -getElem?_pos, -List.getD_eq_getElem?_getD]) ?_
      generalize belowF cd 3 c2 = y at *
      obtain ⟨k3, c3⟩ := y
      simp only at hc3 ⊢
      simp -implicitDefEqProofs -dsimp +contextual [-Bool.exists_bool, -Int.not_le, -Int.not_lt, -getElem?_pos, -List.getD_eq_getElem?_getD]
      have hM := MakeAtomO l (k - 6) (decide (k3 = 0)) (by omega) hnum (isNum_iff.2 ⟨by omega, by omega⟩)
      generalize mkA l (k - 6) (decide (k3 = 0)) = r at hM ⊢
      obtain ⟨r1, r2, r3, r4⟩ := r
      cases r4 with
      | true =>
        rw [show oAV (r1, r2, r3, true) = .tup [.agg [.ref (0, 0) r1.length, I r2, B r3], B true] from rfl, show oAH (r1, r2, r3, true) = hl [((0, 0), .row 3 r1.length (dl (r1.map (D.int .i64))))] from rfl] at hM
        refine CallJ.lent (ks := [(2, 0)]) 2 hM (by simp [-Bool.exists_bool, -Int.not_le, -Int.not_lt, -getElem?_pos, -List.getD_eq_getElem?_getD]) (by simp [-Bool.exists_bool, -Int.not_le, -Int.not_lt, -getElem?_pos, -List.getD_eq_getElem?_getD]) (by simp [-Bool.exists_bool, -Int.not_le, -Int.not_lt, -getElem?_pos, -List.getD_eq_getElem?_getD, noSh, noShL, noShD]) ?_ ?_
        · intro k e h
          simp [-Bool.exists_bool, -Int.not_le, -Int.not_lt, -getElem?_pos, -List.getD_eq_getElem?_getD] at h
          obtain ⟨rfl, rfl⟩ := h
          simp only [noShE, noShL_all, List.all_eq_true]
          intro x hx
          obtain ⟨y, hy, rfl⟩ := List.mem_map.1 hx
          obtain ⟨z, _, rfl⟩ := List.mem_map.1 hy
          rfl
        simp -implicitDefEqProofs -dsimp +contextual [-Bool.exists_bool, -Int.not_le, -Int.not_lt, -getElem?_pos, -List.getD_eq_getElem?_getD]
        rw [show dV (r1, r2, r3, true) = .agg [.ref (1, 0) r1.length, I r2, B r3] from rfl, show dH cd (r1, r2, r3, true) c3 = hl [((0, 1), cuE cd c3), ((1, 0), .row 3 r1.length (dl (r1.map (D.int .i64))))] from rfl]
        refine RLm.toldL [((1, 0), (12, 0))] ?_ ?_ ?_ ?_ ?_
        · simp [-Bool.exists_bool, -Int.not_le, -Int.not_lt, -getElem?_pos, -List.getD_eq_getElem?_getD]
        · simp [-Bool.exists_bool, -Int.not_le, -Int.not_lt, -getElem?_pos, -List.getD_eq_getElem?_getD]
        · simp [-Bool.exists_bool, -Int.not_le, -Int.not_lt, -getElem?_pos, -List.getD_eq_getElem?_getD, allKs, allK, okKey]
        · simp [-Bool.exists_bool, -Int.not_le, -Int.not_lt, -getElem?_pos, -List.getD_eq_getElem?_getD, okKey, allKE, allKs, allK, cA, setH]
        · simp [-Bool.exists_bool, -Int.not_le, -Int.not_lt, -getElem?_pos, -List.getD_eq_getElem?_getD]
      | false =>
        rw [show oAV (r1, r2, r3, false) = .tup [.agg [.nil, I 0, B false], B false] from rfl, show oAH (r1, r2, r3, false) = hemp from rfl] at hM
        refine CallJ.lent (ks := [(2, 0)]) 2 hM (by simp [-Bool.exists_bool, -Int.not_le, -Int.not_lt, -getElem?_pos, -List.getD_eq_getElem?_getD]) (by simp [-Bool.exists_bool, -Int.not_le, -Int.not_lt, -getElem?_pos, -List.getD_eq_getElem?_getD]) (by simp [-Bool.exists_bool, -Int.not_le, -Int.not_lt, -getElem?_pos, -List.getD_eq_getElem?_getD, noSh, noShL, noShD]) (by simp [-Bool.exists_bool, -Int.not_le, -Int.not_lt, -getElem?_pos, -List.getD_eq_getElem?_getD]) ?_
        simp -implicitDefEqProofs -dsimp +contextual [-Bool.exists_bool, -Int.not_le, -Int.not_lt, -getElem?_pos, -List.getD_eq_getElem?_getD]
        rw [show dV (r1, r2, r3, false) = .agg [.nil, I 0, B false] from rfl, show dH cd (r1, r2, r3, false) c3 = cuH cd c3 from rfl]
        refine RLm.toldL [] ?_ ?_ ?_ ?_ ?_
        · simp [-Bool.exists_bool, -Int.not_le, -Int.not_lt, -getElem?_pos, -List.getD_eq_getElem?_getD]
        · simp [-Bool.exists_bool, -Int.not_le, -Int.not_lt, -getElem?_pos, -List.getD_eq_getElem?_getD]
        · simp [-Bool.exists_bool, -Int.not_le, -Int.not_lt, -getElem?_pos, -List.getD_eq_getElem?_getD, allKs, allK, okKey]
        · simp [-Bool.exists_bool, -Int.not_le, -Int.not_lt, -getElem?_pos, -List.getD_eq_getElem?_getD, okKey, allKE, allKs, allK, cA, setH]
        · simp [-Bool.exists_bool, -Int.not_le, -Int.not_lt, -getElem?_pos, -List.getD_eq_getElem?_getD]
end Go.Proofs.YtjknjekemolndaaGreat.ZL
namespace Go.Proofs.YtjknjekemolndaaGreat.Abs
open Go Go.RowKit
set_option linter.unusedVariables false
theorem DenVs.dl {M M' : Key → Option Value} {F : Nat → Prop} {w : World} : ∀ {cs : List D} {us : List Value}, DenVs M F w (Abs.dl cs) us → DenVs M' F w (Abs.dl cs) us
  | [], us, h => by
    simp only [Abs.dl, List.map_nil] at h ⊢
    unfold DenVs at h ⊢; exact h
  | x :: cs, us, h => by
    simp only [Abs.dl, List.map_cons] at h ⊢
    unfold DenVs at h ⊢
    obtain ⟨u, r, hu, hd, hr⟩ := h
    refine ⟨u, r, hu, ?_, DenVs.dl (cs := cs) hr⟩
    unfold DenV at hd ⊢; exact hd
theorem RLm.frz {P : Program} {A : Key → Prop} {H : Store} {v r : V} {ks : List Key} {cs : List D} (k0 : Key) (n : Nat) (hv : lendV true H n v = some (r, ks)) (hk : k0.1 = 0) (hA0 : A k0) (hk0 : H k0 = some (.box (dl cs))) (hn : k0 ∉ ks) : RLm P A H v r (hl [(k0, .box (dl cs))]) := by
  intro M0 M F F0 E0 w w0 u hkeep hlt hR hreach h0 hA hd
  let M' : Key → Option Value := fun k => if k.1 = 0 then M0 k else none
  let F' : Nat → Prop := fun b => F b ∧ ¬ Lent H M ks b
  obtain ⟨x, hx⟩ := hA k0 hA0
  have hMk : M' k0 = M k0 := by show (if k0.1 = 0 then M0 k0 else none) = M k0; rw [if_pos hk, hx, h0 k0 x hx]
  have hone : ∀ k e, hl [(k0, Ent.box (dl cs))] k = some e → k = k0 ∧ e = .box (dl cs) := fun k e h => by
    have := hl_mem h
    simp at this
    exact this
  have hRes := lendV_den (Fc := F') hR (fun b hb => hb.1) hv (fun _ b hb => hb.2) hd
  refine ⟨M', F', fun b hb hne => ⟨hkeep b hb hne, ?_⟩, hRes.move (fun _ _ h => by cases h) ⟨fun b hb => .inl hb, fun _ _ _ => rfl⟩, ⟨fun k e h => ?_, fun k k' e e' u u' b h h' _ _ _ _ _ _ => ?_⟩, fun k e u b h hl hu hb => ?_, fun k h => ?_, fun k h => ?_⟩
  · rintro ⟨k, _, e, u, h1, h2, h3, h4⟩
    rcases hreach k e u b h1 h2 h3 h4 with h5 | h5
    · exact hne h5
    · have := hlt b hb; omega
  · obtain ⟨rfl, rfl⟩ := hone k e h
    obtain ⟨u, hu, hok, hF⟩ := hR.ent k _ hk0
    refine ⟨u, by rw [hMk]; exact hu, ?_, fun hlv b hb => ⟨hF hlv b hb, ?_⟩⟩
    · obtain ⟨b, cs', t, h1, h2, h3⟩ := hok
      refine ⟨b, cs', t, h1, h2, ?_⟩
      exact (DenVs.dl (M' := M') h3).move (fun _ _ h => h) ⟨fun b hb => .inl hb.1, fun _ _ _ => rfl⟩
    · rintro ⟨k', hk', e, u', h1, h2, h3, h4⟩
      have := hR.inj k' k e _ u' u b h1 hk0 h2 hlv h3 hu h4 hb
      exact hn (by rw [← this]; exact hk')
  · rw [(hone k e h).1, (hone k' e' h').1]
  · obtain ⟨rfl, rfl⟩ := hone k e h
    rw [hMk] at hu
    exact hreach k _ u b hk0 hl hu hb
  · show (if k.1 = 0 then M0 k else none) = M0 k
    rw [if_pos h]
  · show (if k.1 = 0 then M0 k else none) = none
    rw [if_neg (by omega)]
end Go.Proofs.YtjknjekemolndaaGreat.Abs
namespace Go.Proofs.YtjknjekemolndaaGreat.ZL
open Go Go.Proofs.YtjknjekemolndaaGreat.Abs Go.Proofs.YtjknjekemolndaaGreat.Abs.Pl Go.RowKit Go.Proofs
set_option linter.unusedVariables false
set_option linter.unusedSimpArgs false
set_option maxRecDepth 100000
theorem RLm.frzC {P : Program} {A : Key → Prop} {H : Store} {v r : V} {cd : List Int} {c : Cu} (ks : List Key) (n : Nat) (hv : lendV true H n v = some (r, ks)) (hA0 : A (0, 1)) (hk0 : H (0, 1) = some (cuE cd c)) (hn : (0, 1) ∉ ks) : RLm P A H v r (cuH cd c) :=
  RLm.frz (cs := [.sl cd.length (cd.map (D.int .u8)), .int .i64 c.1, .int .i64 c.2]) (0, 1) n hv rfl hA0 hk0 hn
def spA (cd : List Int) (a : At) (c : Cu) : At × Cu :=
  if (belowF cd 40 c).1 = 0 then ((a.1, (pickF cd oddL (belowF cd 40 c).2).1, a.2.2), (pickF cd oddL (belowF cd 40 c).2).2)
  else if (belowF cd 40 c).1 = 1 then ((a.1 ++ [2], a.2.1, a.2.2), (belowF cd 40 c).2)
  else if (belowF cd 40 c).1 = 2 then ((a.1, IntKind.wrap .i64 (2 * a.2.1), a.2.2), (belowF cd 40 c).2)
  else (a, (belowF cd 40 c).2)
theorem spA_cu (cd : List Int) (a : At) (c : Cu) (h : c.1 ≤ cd.length) : (spA cd a c).2.1 ≤ cd.length := by
  have h1 := belowF_cu cd 40 c h
  unfold spA
  split
  · exact belowF_cu _ _ _ h1
  · split
    · exact h1
    · split
      · exact h1
      · exact h1
def sA (k : Key) : Prop := k = (0, 1) ∨ k = (0, 2)
abbrev rI (l : List Int) : Ent := .row 3 l.length (dl (l.map (D.int .i64)))
abbrev sH (cd : List Int) (c : Cu) (l : List Int) : Store := hl [((0, 1), cuE cd c), ((0, 2), rI l)]
theorem l2SpoilS (cd : List Int) (c : Cu) (a : At) (hx : ¬ (belowF cd 40 c).1 = 1) (hc : c.1 ≤ cd.length) (h20 : cd.length ≤ 1048576) : Cm Tryz.prog 89 sA [.ptr (0, 1) 0, .agg [.ref (0, 2) a.1.length, I a.2.1, B a.2.2]] (sH cd c a.1) (.agg [.ref (0, 2) (spA cd a c).1.1.length, I (spA cd a c).1.2.1, B (spA cd a c).1.2.2]) (sH cd (spA cd a c).2 (spA cd a c).1.1) := by
  refine Cm.of [] mixed Tryz.func89 rfl Tryz.call89 (by kernel_rfl) rfl ?_
  simp -implicitDefEqProofs -dsimp +contextual [-Bool.exists_bool, -Int.not_le, -Int.not_lt, -getElem?_pos, -List.getD_eq_getElem?_getD, Tryz.f89]
  have hc1 := belowF_cu cd 40 c hc
  refine callBelow 40 (0, 1) hc h20 (by simp [-Bool.exists_bool, -Int.not_le, -Int.not_lt, -getElem?_pos, -List.getD_eq_getElem?_getD]) (by simp [-Bool.exists_bool, -Int.not_le, -Int.not_lt, -getElem?_pos, -List.getD_eq_getElem?_getD]) (by simp [-Bool.exists_bool, -Int.not_le, -Int.not_lt, -getElem?_pos, -List.getD_eq_getElem?_getD]) ?_
  unfold spA
  generalize belowF cd 40 c = y at *
  obtain ⟨x, c1⟩ := y
  simp only at hx hc1 ⊢
  simp -implicitDefEqProofs -dsimp +contextual [-Bool.exists_bool, -Int.not_le, -Int.not_lt, -getElem?_pos, -List.getD_eq_getElem?_getD, hx]
  refine ⟨fun h0 => ?_, fun h0 => ⟨fun h2 => ?_, fun h2 => ?_⟩⟩
  · refine callOdd (0, 1) hc1 h20 (by simp [-Bool.exists_bool, -Int.not_le, -Int.not_lt, -getElem?_pos, -List.getD_eq_getElem?_getD, setH]) (by simp [-Bool.exists_bool, -Int.not_le, -Int.not_lt, -getElem?_pos, -List.getD_eq_getElem?_getD]) (by simp [-Bool.exists_bool, -Int.not_le, -Int.not_lt, -getElem?_pos, -List.getD_eq_getElem?_getD]) ?_
    simp -implicitDefEqProofs -dsimp +contextual [-Bool.exists_bool, -Int.not_le, -Int.not_lt, -getElem?_pos, -List.getD_eq_getElem?_getD, hx]
    refine RLm.told ?_ ?_ ?_
    · simp [-Bool.exists_bool, -Int.not_le, -Int.not_lt, -getElem?_pos, -List.getD_eq_getElem?_getD, h0]
    · simp [-Bool.exists_bool, -Int.not_le, -Int.not_lt, -getElem?_pos, -List.getD_eq_getElem?_getD, allK, allKs, okKey, sA]
    · simp [-Bool.exists_bool, -Int.not_le, -Int.not_lt, -getElem?_pos, -List.getD_eq_getElem?_getD, okKey, allKE, allKs, allK, sA, setH, h0]
  · refine RLm.told ?_ ?_ ?_
    · simp [-Bool.exists_bool, -Int.not_le, -Int.not_lt, -getElem?_pos, -List.getD_eq_getElem?_getD, h0, h2]
    · simp [-Bool.exists_bool, -Int.not_le, -Int.not_lt, -getElem?_pos, -List.getD_eq_getElem?_getD, allK, allKs, okKey, sA]
    · simp [-Bool.exists_bool, -Int.not_le, -Int.not_lt, -getElem?_pos, -List.getD_eq_getElem?_getD, okKey, allKE, allKs, allK, sA, setH, h0, h2]
  · refine RLm.told ?_ ?_ ?_
    · simp [-Bool.exists_bool, -Int.not_le, -Int.not_lt, -getElem?_pos, -List.getD_eq_getElem?_getD, h0, h2]
    · simp [-Bool.exists_bool, -Int.not_le, -Int.not_lt, -getElem?_pos, -List.getD_eq_getElem?_getD, allK, allKs, okKey, sA]
    · simp [-Bool.exists_bool, -Int.not_le, -Int.not_lt, -getElem?_pos, -List.getD_eq_getElem?_getD, okKey, allKE, allKs, allK, sA, setH, h0, h2]
theorem l2SpoilA (cd : List Int) (c : Cu) (a : At) (hx : (belowF cd 40 c).1 = 1) (ha : a.1.length ≤ 1048576) (hc : c.1 ≤ cd.length) (h20 : cd.length ≤ 1048576) : Cm Tryz.prog 89 sA [.ptr (0, 1) 0, .agg [.ref (0, 2) a.1.length, I a.2.1, B a.2.2]] (sH cd c a.1) (.agg [.ref (1, 0) (spA cd a c).1.1.length, I (spA cd a c).1.2.1, B (spA cd a c).1.2.2]) (hl [((0, 1), cuE cd (spA cd a c).2), ((1, 0), rI (spA cd a c).1.1)]) := by
  refine Cm.of [] mixed Tryz.func89 rfl Tryz.call89 (by kernel_rfl) rfl ?_
  simp -implicitDefEqProofs -dsimp +contextual [-Bool.exists_bool, -Int.not_le, -Int.not_lt, -getElem?_pos, -List.getD_eq_getElem?_getD, Tryz.f89]
  have hc1 := belowF_cu cd 40 c hc
  refine callBelow 40 (0, 1) hc h20 (by simp [-Bool.exists_bool, -Int.not_le, -Int.not_lt, -getElem?_pos, -List.getD_eq_getElem?_getD]) (by simp [-Bool.exists_bool, -Int.not_le, -Int.not_lt, -getElem?_pos, -List.getD_eq_getElem?_getD]) (by simp [-Bool.exists_bool, -Int.not_le, -Int.not_lt, -getElem?_pos, -List.getD_eq_getElem?_getD]) ?_
  unfold spA
  generalize belowF cd 40 c = y at *
  obtain ⟨x, c1⟩ := y
  simp only at hx hc1 ⊢
  subst hx
  simp -implicitDefEqProofs -dsimp +contextual [-Bool.exists_bool, -Int.not_le, -Int.not_lt, -getElem?_pos, -List.getD_eq_getElem?_getD]
  refine ⟨⟨by omega, by simp [-Bool.exists_bool, -Int.not_le, -Int.not_lt, -getElem?_pos, -List.getD_eq_getElem?_getD, maxLen]; omega⟩, ?_⟩
  refine RLm.toldL [((1, 0), (12, 0))] ?_ ?_ ?_ ?_ ?_
  · simp [-Bool.exists_bool, -Int.not_le, -Int.not_lt, -getElem?_pos, -List.getD_eq_getElem?_getD]
  · simp [-Bool.exists_bool, -Int.not_le, -Int.not_lt, -getElem?_pos, -List.getD_eq_getElem?_getD]
  · simp [-Bool.exists_bool, -Int.not_le, -Int.not_lt, -getElem?_pos, -List.getD_eq_getElem?_getD, allKs, allK, okKey]
  · simp [-Bool.exists_bool, -Int.not_le, -Int.not_lt, -getElem?_pos, -List.getD_eq_getElem?_getD, okKey, allKE, allKs, allK, sA, setH]
  · simp [-Bool.exists_bool, -Int.not_le, -Int.not_lt, -getElem?_pos, -List.getD_eq_getElem?_getD]
theorem l2SpoilN (cd : List Int) (c : Cu) (k : Int) (s : Bool) (hc : c.1 ≤ cd.length) (h20 : cd.length ≤ 1048576) : ∃ a : At, a.1.length ≤ 1 ∧ Cm Tryz.prog 89 cA [.ptr (0, 1) 0, .agg [.nil, I k, B s]] (cuH cd c) (A1 a) (cuH cd (spA cd ([], k, s) c).2) := by
  have hc1 := belowF_cu cd 40 c hc
  refine ⟨(spA cd ([], k, s) c).1, ?_, ?_⟩
  · unfold spA; repeat' split
    all_goals simp [-Bool.exists_bool, -Int.not_le, -Int.not_lt, -getElem?_pos, -List.getD_eq_getElem?_getD]
  refine Cm.of [] mixed Tryz.func89 rfl Tryz.call89 (by kernel_rfl) rfl ?_
  simp -implicitDefEqProofs -dsimp +contextual [-Bool.exists_bool, -Int.not_le, -Int.not_lt, -getElem?_pos, -List.getD_eq_getElem?_getD, Tryz.f89]
  refine callBelow 40 (0, 1) hc h20 (by simp [-Bool.exists_bool, -Int.not_le, -Int.not_lt, -getElem?_pos, -List.getD_eq_getElem?_getD]) (by simp [-Bool.exists_bool, -Int.not_le, -Int.not_lt, -getElem?_pos, -List.getD_eq_getElem?_getD]) (by simp [-Bool.exists_bool, -Int.not_le, -Int.not_lt, -getElem?_pos, -List.getD_eq_getElem?_getD]) ?_
  unfold spA
  generalize belowF cd 40 c = y at *
  obtain ⟨x, c1⟩ := y
  simp only at hc1 ⊢
  simp -implicitDefEqProofs -dsimp +contextual [-Bool.exists_bool, -Int.not_le, -Int.not_lt, -getElem?_pos, -List.getD_eq_getElem?_getD]
  refine ⟨fun h0 => ?_, fun h0 => ⟨fun h1 => ?_, fun h1 => ⟨fun h2 => ?_, fun h2 => ?_⟩⟩⟩
  · refine callOdd (0, 1) hc1 h20 (by simp [-Bool.exists_bool, -Int.not_le, -Int.not_lt, -getElem?_pos, -List.getD_eq_getElem?_getD, setH]) (by simp [-Bool.exists_bool, -Int.not_le, -Int.not_lt, -getElem?_pos, -List.getD_eq_getElem?_getD]) (by simp [-Bool.exists_bool, -Int.not_le, -Int.not_lt, -getElem?_pos, -List.getD_eq_getElem?_getD]) ?_
    simp -implicitDefEqProofs -dsimp +contextual [-Bool.exists_bool, -Int.not_le, -Int.not_lt, -getElem?_pos, -List.getD_eq_getElem?_getD]
    refine RLm.frzC [] 2 ?_ rfl ?_ ?_
    all_goals simp [-Bool.exists_bool, -Int.not_le, -Int.not_lt, -getElem?_pos, -List.getD_eq_getElem?_getD, setH, h0]
  · refine ⟨by simp [-Bool.exists_bool, -Int.not_le, -Int.not_lt, -getElem?_pos, -List.getD_eq_getElem?_getD, maxLen], ?_⟩
    refine RLm.frzC [(12, 0)] 2 ?_ rfl ?_ ?_
    all_goals simp [-Bool.exists_bool, -Int.not_le, -Int.not_lt, -getElem?_pos, -List.getD_eq_getElem?_getD, setH]
  · refine RLm.frzC [] 2 ?_ rfl ?_ ?_
    all_goals simp [-Bool.exists_bool, -Int.not_le, -Int.not_lt, -getElem?_pos, -List.getD_eq_getElem?_getD, setH]
  · refine RLm.frzC [] 2 ?_ rfl ?_ ?_
    all_goals simp [-Bool.exists_bool, -Int.not_le, -Int.not_lt, -getElem?_pos, -List.getD_eq_getElem?_getD, setH]
def upS2 (kb kr : Key) (e1 e2 : Ent) : Key → Option (Option Ent) := fun k => if k = kb then some (some e1) else if k = kr then some (some e2) else none
def upA2 (kb kr : Key) (s : Nat) (e1 e2 : Ent) : Key → Option (Option Ent) := fun k => if k = (s, 0) then some (some e2) else if k = kb then some (some e1) else if k = kr then some none else none
theorem app_upS2 (kb kr : Key) (e1 e2 : Ent) (H : Store) : app (upS2 kb kr e1 e2) H = setH kb (some e1) (setH kr (some e2) H) := by
  funext k
  unfold app upS2 setH
  by_cases h2 : k = kb
  · simp only [if_pos h2]
  · by_cases h3 : k = kr
    · simp only [if_neg h2, if_pos h3]
    · simp only [if_neg h2, if_neg h3]
theorem app_upA2 (kb kr : Key) (s : Nat) (e1 e2 : Ent) (H : Store) : app (upA2 kb kr s e1 e2) H = setH (s, 0) (some e2) (setH kb (some e1) (setH kr none H)) := by
  funext k
  unfold app upA2 setH
  by_cases h1 : k = (s, 0)
  · simp only [if_pos h1]
  · by_cases h2 : k = kb
    · simp only [if_neg h1, if_pos h2]
    · by_cases h3 : k = kr
      · simp only [if_neg h1, if_neg h2, if_pos h3]
      · simp only [if_neg h1, if_neg h2, if_neg h3]
attribute [simp] app_upS2 app_upA2
theorem callSpoil {N nx s : Nat} {H : Store} {K : Eff → Prop} {cd : List Int} {c : Cu} (kb kr : Key) (a : At) (ha : a.1.length ≤ 1048576) (hc : c.1 ≤ cd.length) (h20 : cd.length ≤ 1048576) (hb : H kb = some (cuE cd c)) (hr : H kr = some (rI a.1)) (hne : kb ≠ kr) (hn : kb.1 < nx ∧ kr.1 < nx) (hs : kb.1 ≠ s ∧ kr.1 ≠ s)
    (k1 : ¬ (belowF cd 40 c).1 = 1 → K ⟨.agg [.ref kr (spA cd a c).1.1.length, I (spA cd a c).1.2.1, B (spA cd a c).1.2.2], [kb, kr], [kb, kr], upS2 kb kr (cuE cd (spA cd a c).2) (rI (spA cd a c).1.1)⟩)
    (k2 : (belowF cd 40 c).1 = 1 → K ⟨.agg [.ref (s, 0) (spA cd a c).1.1.length, I (spA cd a c).1.2.1, B (spA cd a c).1.2.2], [kb, kr], [kb, kr], upA2 kb kr s (cuE cd (spA cd a c).2) (rI (spA cd a c).1.1)⟩) :
    CallJ Tryz.prog N nx s H 89 [.ptr kb 0, .agg [.ref kr a.1.length, I a.2.1, B a.2.2]] K := by
  have base : ∀ {r : V} {Hr : Store}, Cm Tryz.prog 89 sA [.ptr (0, 1) 0, .agg [.ref (0, 2) a.1.length, I a.2.1, B a.2.2]] (sH cd c a.1) r Hr → (∀ k e, Hr k = some e → k.1 < 2 ∧ (k.1 = 0 → (sH cd c a.1 k).isSome = true)) → K ⟨mapK (gk (fun j => if j = 0 then kb else kr) s) r, [kb, kr], [kb, kr], upMut (fun j => if j = 0 then kb else kr) (fun k => if k = kb then some 0 else if k = kr then some 1 else none) s Hr⟩ → CallJ Tryz.prog N nx s H 89 [.ptr kb 0, .agg [.ref kr a.1.length, I a.2.1, B a.2.2]] K := fun {r Hr} hm h2 hk => by
    refine CallJ.mut (fun j => if j = 0 then kb else kr) (fun k => if k = kb then some 0 else if k = kr then some 1 else none) [kb, kr] [] hm ?_ ?_ ?_ ?_ ?_ ?_ h2 ?_ (by simpa [-Bool.exists_bool, -Int.not_le, -Int.not_lt, -getElem?_pos, -List.getD_eq_getElem?_getD] using hk)
    · simp [-Bool.exists_bool, -Int.not_le, -Int.not_lt, -getElem?_pos, -List.getD_eq_getElem?_getD, gk]
    · simp [-Bool.exists_bool, -Int.not_le, -Int.not_lt, -getElem?_pos, -List.getD_eq_getElem?_getD, allKs, allK, sA]
    · rintro k (rfl | rfl)
      · simp [-Bool.exists_bool, -Int.not_le, -Int.not_lt, -getElem?_pos, -List.getD_eq_getElem?_getD, hb]
      · simp [-Bool.exists_bool, -Int.not_le, -Int.not_lt, -getElem?_pos, -List.getD_eq_getElem?_getD, hr]
    · intro k e h
      have h := hl_mem h
      simp [-Bool.exists_bool, -Int.not_le, -Int.not_lt, -getElem?_pos, -List.getD_eq_getElem?_getD] at h
      rcases h with ⟨rfl, rfl⟩ | ⟨rfl, rfl⟩
      · simp [-Bool.exists_bool, -Int.not_le, -Int.not_lt, -getElem?_pos, -List.getD_eq_getElem?_getD, sA, hb, mapE, allKE, allKs, allK, gk]
      · simp [-Bool.exists_bool, -Int.not_le, -Int.not_lt, -getElem?_pos, -List.getD_eq_getElem?_getD, sA, hr, mapE, allKE, allKs, allK, gk, hne.symm]
    · intro k j h
      split at h
      · rename_i e
        obtain rfl := Option.some.inj h
        simp [-Bool.exists_bool, -Int.not_le, -Int.not_lt, -getElem?_pos, -List.getD_eq_getElem?_getD, e]
      · split at h
        · rename_i e1 e2
          obtain rfl := Option.some.inj h
          simp [-Bool.exists_bool, -Int.not_le, -Int.not_lt, -getElem?_pos, -List.getD_eq_getElem?_getD, e2]
        · cases h
    · simp [-Bool.exists_bool, -Int.not_le, -Int.not_lt, -getElem?_pos, -List.getD_eq_getElem?_getD, hne.symm]
    · simp [-Bool.exists_bool, -Int.not_le, -Int.not_lt, -getElem?_pos, -List.getD_eq_getElem?_getD, hb, hr, hn]
  by_cases hx : (belowF cd 40 c).1 = 1
  · refine base (l2SpoilA cd c a hx ha hc h20) ?_ ?_
    · intro k e h
      have h := hl_mem h
      simp [-Bool.exists_bool, -Int.not_le, -Int.not_lt, -getElem?_pos, -List.getD_eq_getElem?_getD] at h
      rcases h with ⟨rfl, rfl⟩ | ⟨rfl, rfl⟩ <;> simp [-Bool.exists_bool, -Int.not_le, -Int.not_lt, -getElem?_pos, -List.getD_eq_getElem?_getD]
    · have := k2 hx
      have e : upMut (fun j => if j = 0 then kb else kr) (fun k => if k = kb then some 0 else if k = kr then some 1 else none) s (hl [((0, 1), cuE cd (spA cd a c).2), ((1, 0), rI (spA cd a c).1.1)]) = upA2 kb kr s (cuE cd (spA cd a c).2) (rI (spA cd a c).1.1) := by
        funext k
        unfold upMut upA2
        obtain ⟨a', b'⟩ := k
        split
        · rename_i hks
          simp only at hks
          subst hks
          have n1 : (a', b') ≠ kb := fun e => hs.1 (by rw [← e])
          have n2 : (a', b') ≠ kr := fun e => hs.2 (by rw [← e])
          by_cases hb0 : b' = 0
          · subst hb0; simp [-Bool.exists_bool, -Int.not_le, -Int.not_lt, -getElem?_pos, -List.getD_eq_getElem?_getD, mapE]
          · simp [-Bool.exists_bool, -Int.not_le, -Int.not_lt, -getElem?_pos, -List.getD_eq_getElem?_getD, n1, n2, hb0]
        · rename_i hks
          simp only at hks
          have e0 : ¬ (a', b') = (s, 0) := fun e => hks (by injection e)
          by_cases e1 : (a', b') = kb
          · simp only [if_neg e0, if_pos e1]; simp [-Bool.exists_bool, -Int.not_le, -Int.not_lt, -getElem?_pos, -List.getD_eq_getElem?_getD, mapE, gk]
          · by_cases e2 : (a', b') = kr
            · simp only [if_neg e0, if_neg e1, if_pos e2]; simp [-Bool.exists_bool, -Int.not_le, -Int.not_lt, -getElem?_pos, -List.getD_eq_getElem?_getD]
            · simp only [if_neg e0, if_neg e1, if_neg e2]
      rw [e]
      simpa [-Bool.exists_bool, -Int.not_le, -Int.not_lt, -getElem?_pos, -List.getD_eq_getElem?_getD, gk] using this
  · refine base (l2SpoilS cd c a hx hc h20) ?_ ?_
    · intro k e h
      have h := hl_mem h
      simp [-Bool.exists_bool, -Int.not_le, -Int.not_lt, -getElem?_pos, -List.getD_eq_getElem?_getD] at h
      rcases h with ⟨rfl, rfl⟩ | ⟨rfl, rfl⟩ <;> simp [-Bool.exists_bool, -Int.not_le, -Int.not_lt, -getElem?_pos, -List.getD_eq_getElem?_getD]
    · have := k1 hx
      have e : upMut (fun j => if j = 0 then kb else kr) (fun k => if k = kb then some 0 else if k = kr then some 1 else none) s (sH cd (spA cd a c).2 (spA cd a c).1.1) = upS2 kb kr (cuE cd (spA cd a c).2) (rI (spA cd a c).1.1) := by
        funext k
        unfold upMut upS2
        split
        · rename_i hks
          have n1 : k ≠ kb := fun e => hs.1 (by rw [← e]; exact hks)
          have n2 : k ≠ kr := fun e => hs.2 (by rw [← e]; exact hks)
          simp [-Bool.exists_bool, -Int.not_le, -Int.not_lt, -getElem?_pos, -List.getD_eq_getElem?_getD, n1, n2, hks]
        · by_cases e1 : k = kb
          · simp only [if_pos e1]; simp [-Bool.exists_bool, -Int.not_le, -Int.not_lt, -getElem?_pos, -List.getD_eq_getElem?_getD, mapE, gk]
          · by_cases e2 : k = kr
            · simp only [if_neg e1, if_pos e2]; simp [-Bool.exists_bool, -Int.not_le, -Int.not_lt, -getElem?_pos, -List.getD_eq_getElem?_getD, mapE, gk]
            · simp only [if_neg e1, if_neg e2]
      rw [e]
      simpa [-Bool.exists_bool, -Int.not_le, -Int.not_lt, -getElem?_pos, -List.getD_eq_getElem?_getD, gk] using this
end Go.Proofs.YtjknjekemolndaaGreat.ZL
namespace Go.Proofs.YtjknjekemolndaaGreat.ZL
open Go Go.Proofs.YtjknjekemolndaaGreat.Abs Go.Proofs.YtjknjekemolndaaGreat.Abs.Pl Go.RowKit Go.Proofs
set_option linter.unusedVariables false
set_option linter.unusedSimpArgs false
set_option linter.unnecessarySimpa false
set_option maxRecDepth 100000
theorem callDraw {N nx s : Nat} {H : Store} {K : Eff → Prop} {cd : List Int} {c : Cu} (n : Nat) (kb : Key) (hn : n ≤ 5) (hc : c.1 ≤ cd.length) (h20 : cd.length ≤ 1048576) (hH : H kb = some (cuE cd c)) (hs : kb.1 ≠ s) (hnx : kb.1 < nx)
    (k1 : ∀ a : At, (drA cd n c).1 = (a.1, a.2.1, a.2.2, true) → K ⟨.agg [.ref (s, 0) a.1.length, I a.2.1, B a.2.2], [kb], [kb], up1 (s, 0) (some (rI a.1)) (up1 kb (some (cuE cd (drA cd n c).2)) noUp)⟩)
    (k2 : (drA cd n c).1.2.2.2 = false → K ⟨.agg [.nil, I 0, B false], [kb], [kb], up1 kb (some (cuE cd (drA cd n c).2)) noUp⟩) :
    CallJ Tryz.prog N nx s H 90 [.ptr kb 0, I n] K := by
  have hm := l2Draw cd n c hn hc h20
  have base : ∀ {r : V} {Hr : Store}, Cm Tryz.prog 90 cA [.ptr (0, 1) 0, I n] (cuH cd c) r Hr → (∀ k e, Hr k = some e → k.1 < 2 ∧ (k.1 = 0 → (cuH cd c k).isSome = true)) → K ⟨mapK (gk (fun _ => kb) s) r, [kb], [kb], upMut (fun _ => kb) (fun k => if k = kb then some 0 else none) s Hr⟩ → CallJ Tryz.prog N nx s H 90 [.ptr kb 0, I n] K := fun {r Hr} hm h2 hk => by
    refine CallJ.mut (fun _ => kb) (fun k => if k = kb then some 0 else none) [kb] [] hm ?_ ?_ ?_ ?_ ?_ ?_ h2 ?_ (by simpa [-Bool.exists_bool, -Int.not_le, -Int.not_lt, -getElem?_pos, -List.getD_eq_getElem?_getD] using hk)
    · simp [-Bool.exists_bool, -Int.not_le, -Int.not_lt, -getElem?_pos, -List.getD_eq_getElem?_getD, gk]
    · simp [-Bool.exists_bool, -Int.not_le, -Int.not_lt, -getElem?_pos, -List.getD_eq_getElem?_getD, allKs, allK, cA]
    · rintro k rfl; simp [-Bool.exists_bool, -Int.not_le, -Int.not_lt, -getElem?_pos, -List.getD_eq_getElem?_getD, hH]
    · intro k e h
      simp [-Bool.exists_bool, -Int.not_le, -Int.not_lt, -getElem?_pos, -List.getD_eq_getElem?_getD] at h
      obtain ⟨rfl, rfl⟩ := h
      simp [-Bool.exists_bool, -Int.not_le, -Int.not_lt, -getElem?_pos, -List.getD_eq_getElem?_getD, hH, mapE, allKE, allKs, allK, cA]
    · intro k j h
      simp [-Bool.exists_bool, -Int.not_le, -Int.not_lt, -getElem?_pos, -List.getD_eq_getElem?_getD] at h
      obtain ⟨rfl, rfl⟩ := h
      simp [-Bool.exists_bool, -Int.not_le, -Int.not_lt, -getElem?_pos, -List.getD_eq_getElem?_getD]
    · simp [-Bool.exists_bool, -Int.not_le, -Int.not_lt, -getElem?_pos, -List.getD_eq_getElem?_getD]
    · simp [-Bool.exists_bool, -Int.not_le, -Int.not_lt, -getElem?_pos, -List.getD_eq_getElem?_getD, hH, hnx]
  generalize drA cd n c = y at *
  obtain ⟨⟨r1, r2, r3, r4⟩, c'⟩ := y
  cases r4 with
  | true =>
    have := k1 (r1, r2, r3) rfl
    rw [show dV (r1, r2, r3, true) = .agg [.ref (1, 0) r1.length, I r2, B r3] from rfl, show dH cd (r1, r2, r3, true) c' = hl [((0, 1), cuE cd c'), ((1, 0), rI r1)] from rfl] at hm
    refine base hm ?_ ?_
    · intro k e h
      have h := hl_mem h
      simp [-Bool.exists_bool, -Int.not_le, -Int.not_lt, -getElem?_pos, -List.getD_eq_getElem?_getD] at h
      rcases h with ⟨rfl, rfl⟩ | ⟨rfl, rfl⟩ <;> simp [-Bool.exists_bool, -Int.not_le, -Int.not_lt, -getElem?_pos, -List.getD_eq_getElem?_getD]
    · have e : upMut (fun _ => kb) (fun k => if k = kb then some 0 else none) s (hl [((0, 1), cuE cd c'), ((1, 0), rI r1)]) = up1 (s, 0) (some (rI r1)) (up1 kb (some (cuE cd c')) noUp) := by
        funext k
        unfold upMut up1
        obtain ⟨a', b'⟩ := k
        split
        · rename_i hks
          simp only at hks
          subst hks
          have n1 : (a', b') ≠ kb := fun e => hs (by rw [← e])
          by_cases hb0 : b' = 0
          · subst hb0; simp [-Bool.exists_bool, -Int.not_le, -Int.not_lt, -getElem?_pos, -List.getD_eq_getElem?_getD, mapE]
          · simp [-Bool.exists_bool, -Int.not_le, -Int.not_lt, -getElem?_pos, -List.getD_eq_getElem?_getD, n1, hb0, noUp]
        · rename_i hks
          simp only at hks
          have e0 : ¬ (a', b') = (s, 0) := fun e => hks (by injection e)
          by_cases e1 : (a', b') = kb
          · simp only [if_neg e0, if_pos e1]; simp [-Bool.exists_bool, -Int.not_le, -Int.not_lt, -getElem?_pos, -List.getD_eq_getElem?_getD, mapE]
          · simp only [if_neg e0, if_neg e1]; rfl
      rw [e]
      simpa [-Bool.exists_bool, -Int.not_le, -Int.not_lt, -getElem?_pos, -List.getD_eq_getElem?_getD, gk] using this
  | false =>
    have := k2 rfl
    rw [show dV (r1, r2, r3, false) = .agg [.nil, I 0, B false] from rfl, show dH cd (r1, r2, r3, false) c' = cuH cd c' from rfl] at hm
    refine base hm ?_ ?_
    · intro k e h
      have h := hl_mem h
      simp [-Bool.exists_bool, -Int.not_le, -Int.not_lt, -getElem?_pos, -List.getD_eq_getElem?_getD] at h
      obtain ⟨rfl, rfl⟩ := h
      simp [-Bool.exists_bool, -Int.not_le, -Int.not_lt, -getElem?_pos, -List.getD_eq_getElem?_getD]
    · have e : upMut (fun _ => kb) (fun k => if k = kb then some 0 else none) s (cuH cd c') = up1 kb (some (cuE cd c')) noUp := by
        funext k
        unfold upMut up1
        by_cases h1 : k = kb
        · subst h1
          rw [if_neg hs, if_pos rfl]
          simp [-Bool.exists_bool, -Int.not_le, -Int.not_lt, -getElem?_pos, -List.getD_eq_getElem?_getD, mapE]
        · rw [if_neg h1]
          simp [-Bool.exists_bool, -Int.not_le, -Int.not_lt, -getElem?_pos, -List.getD_eq_getElem?_getD, h1, noUp]
      rw [e]
      simpa [-Bool.exists_bool, -Int.not_le, -Int.not_lt, -getElem?_pos, -List.getD_eq_getElem?_getD, gk] using this
theorem drA_ok (cd : List Int) (n : Nat) (c : Cu) (hn : n ≤ 4) : (drA cd n c).1.2.2.2 = true ∧ (drA cd n c).1.1.length = n := by
  have hb := belowF_bd cd (n := 13) (drL cd n c).2 (by omega)
  have h1 := mkAt_small (l := (drL cd n c).1) (c := (belowF cd 13 (drL cd n c).2).1 - 6) (s := decide ((belowF cd 3 (belowF cd 13 (drL cd n c).2).2).1 = 0)) (by rw [drL_len]; exact hn) (drL_num cd n c) (isNum_iff.2 ⟨by omega, by omega⟩)
  have e : (drA cd n c).1 = mkAt (drL cd n c).1 ((belowF cd 13 (drL cd n c).2).1 - 6) (decide ((belowF cd 3 (belowF cd 13 (drL cd n c).2).2).1 = 0)) := if_pos (by rw [drL_len]; exact hn)
  rw [e]
  exact ⟨h1, by rw [(mkAt_ok h1).2, drL_len]⟩
abbrev at2 (r : At2) : At := (r.1, r.2.1, r.2.2.1)
def us (cd : List Int) (d : Nat) : Nat → List At → Cu → List At × Cu
  | 0, L, c => (L, c)
  | n + 1, L, c => us cd d n (L ++ [at2 (drA cd d c).1]) (drA cd d c).2
def axA (cd : List Int) (d v : Nat) (c : Cu) : At2 × Cu :=
  (mkA ((List.replicate d 0).set v (1 - 2 * (belowF cd 2 c).1)) (-(belowF cd 6 (belowF cd 2 c).2).1) (decide ((belowF cd 3 (belowF cd 6 (belowF cd 2 c).2).2).1 = 0)), (belowF cd 3 (belowF cd 6 (belowF cd 2 c).2).2).2)
def vs (cd : List Int) (d : Nat) : Nat → Nat → List At → Cu → List At × Cu
  | 0, _, L, c => (L, c)
  | k + 1, v, L, c => if (belowF cd 2 c).1 = 0 then vs cd d k (v + 1) (L ++ [at2 (axA cd d v (belowF cd 2 c).2).1]) (axA cd d v (belowF cd 2 c).2).2 else (L, (belowF cd 2 c).2)
def dr3 (cd : List Int) (d : Nat) (c : Cu) : List At × Cu :=
  vs cd d d 0 (us cd d (belowF cd 4 c).1.toNat [] (belowF cd 4 c).2).1 (us cd d (belowF cd 4 c).1.toNat [] (belowF cd 4 c).2).2
def hd1 (k0 : Key) : List At → List V
  | [] => []
  | a :: T => .ref k0 a.1.length :: I a.2.1 :: B a.2.2 :: dl (asD T)
def dS (cd : List Int) (d : Nat) (c : Cu) (n : Nat) (t : Nat) : List At → St
  | [] => ⟨tl [(0, .ptr (0, 1) 0), (1, I d), (4, .ptr (1, 0) 0), (5, .ptr (2, 0) 0), (t, I n)], hl [((0, 1), cuE cd c), ((1, 0), .box [I 0, .nil]), ((2, 0), .box [I d, .nil])], 5⟩
  | a :: T => ⟨tl [(0, .ptr (0, 1) 0), (1, I d), (4, .ptr (1, 0) 0), (5, .ptr (2, 0) 0), (t, I n)], hl [((0, 1), cuE cd c), ((1, 0), .box [I 0, .nil]), ((2, 0), .box [I d, .ref (3, 0) (T.length + 1)]), ((3, 0), .row 66 (T.length + 1) (hd1 (4, 0) (a :: T))), ((4, 0), rI a.1)], 5⟩
def d3V (d : Nat) : List At → V
  | [] => .agg [I d, .nil]
  | a :: T => .agg [I d, .ref (1, 0) (T.length + 1)]
def d3H (cd : List Int) (c : Cu) : List At → Store
  | [] => cuH cd c
  | a :: T => hl [((0, 1), cuE cd c), ((1, 0), .row 66 (T.length + 1) (hd1 (1, 1) (a :: T))), ((1, 1), rI a.1)]
theorem hdq {T : List At} {b : At} : dl (asD (T ++ [b])) = dl (asD T) ++ [V.d (.sl b.1.length (b.1.map (D.int .i64))), I b.2.1, B b.2.2] := by
  unfold dl
  rw [asD_append, List.map_append]
  rfl
theorem l3Draw (cd : List Int) (d : Nat) (c : Cu) (hd : d ≤ 4) (hc : c.1 ≤ cd.length) (h20 : cd.length ≤ 1048576) : Cm Tryz.prog 133 cA [.ptr (0, 1) 0, I d] (cuH cd c) (d3V d (dr3 cd d c).1) (d3H cd (dr3 cd d c).2 (dr3 cd d c).1) := by
  refine Cm.of [0] mixed Tryz.func133 rfl Tryz.call133 (by kernel_rfl) rfl ?_
  simp -implicitDefEqProofs -dsimp +contextual [-Bool.exists_bool, -Int.not_le, -Int.not_lt, -getElem?_pos, -List.getD_eq_getElem?_getD, Tryz.f133]
  have hb := belowF_bd cd (n := 4) c (by omega)
  have hc1 := belowF_cu cd 4 c hc
  refine callBelow 4 (0, 1) hc h20 (by simp [-Bool.exists_bool, -Int.not_le, -Int.not_lt, -getElem?_pos, -List.getD_eq_getElem?_getD]) (by simp [-Bool.exists_bool, -Int.not_le, -Int.not_lt, -getElem?_pos, -List.getD_eq_getElem?_getD]) (by simp [-Bool.exists_bool, -Int.not_le, -Int.not_lt, -getElem?_pos, -List.getD_eq_getElem?_getD]) ?_
  unfold dr3
  generalize belowF cd 4 c = y at *
  obtain ⟨n0, c1⟩ := y
  simp only at hb hc1 ⊢
  obtain ⟨n0, rfl⟩ : ∃ m : Nat, n0 = m := ⟨n0.toNat, by omega⟩
  simp -implicitDefEqProofs -dsimp +contextual [-Bool.exists_bool, -Int.not_le, -Int.not_lt, -getElem?_pos, -List.getD_eq_getElem?_getD]
  rw [Int.toNat_natCast]
  refine WP.loop mixed [0] (fun p : Nat × List At × Cu => dS cd d p.2.2 p.1 6 p.2.1) (fun p => p.2.2.1 ≤ cd.length ∧ p.1 + p.2.1.length = n0 ∧ us cd d n0 [] c1 = us cd d p.1 p.2.1 p.2.2) (fun p => p.1) (n0, [], c1) (by kernel_rfl) ?_ ?_ ?_
  · refine Le.told [((2, 0), (4, 0))] ?_ ?_ ?_ <;> simp [-Bool.exists_bool, -Int.not_le, -Int.not_lt, -getElem?_pos, -List.getD_eq_getElem?_getD, setH]
  · exact ⟨hc1, rfl, rfl⟩
  · rintro ⟨n, L, c⟩ ⟨hc, hn, he⟩
    simp only at hc hn he
    cases n with
    | zero =>
      rw [us] at he
      rw [he]
      simp only at hn ⊢
      have hL3 : L.length ≤ 3 := by omega
      clear he hn hb hc1
      obtain ⟨L', hL'⟩ : ∃ L', L' = L := ⟨L, rfl⟩
      generalize hR : vs cd d d 0 L c = R
      rw [← hL'] at hR
      cases L
      all_goals
        simp only [dS]
        simp -implicitDefEqProofs -dsimp +contextual [-Bool.exists_bool, -Int.not_le, -Int.not_lt, -getElem?_pos, -List.getD_eq_getElem?_getD]
        refine WP.loop mixed [0] (fun p : Nat × List At × Cu => dS cd d p.2.2 p.1 7 p.2.1) (fun p => p.2.2.1 ≤ cd.length ∧ p.1 ≤ d ∧ p.2.1.length ≤ 3 + p.1 ∧ R = vs cd d (d - p.1) p.1 p.2.1 p.2.2) (fun p => d - p.1) (0, L', c) (by kernel_rfl) ?_ ?_ ?_
        · rw [hL']; refine Le.told [] ?_ ?_ ?_ <;> simp [-Bool.exists_bool, -Int.not_le, -Int.not_lt, -getElem?_pos, -List.getD_eq_getElem?_getD, dS, hd1]
        · exact ⟨hc, Nat.zero_le _, by rw [hL']; simpa [-Bool.exists_bool, -Int.not_le, -Int.not_lt, -getElem?_pos, -List.getD_eq_getElem?_getD] using hL3, hR.symm⟩
        · clear hc hL3 hR hL'
          rintro ⟨v, M, c⟩ ⟨hc, hv, hM', he⟩
          simp only at hc hv hM' he
          have fin : ∀ (c' : Cu) (M : List At), RLm Tryz.prog cA (setH (1, 0) (some (.box [I d, match M with | [] => V.nil | a :: T => .ref (3, 0) (T.length + 1)])) (dS cd d c' v 7 M).H) (.agg [I d, match M with | [] => V.nil | a :: T => .ref (3, 0) (T.length + 1)]) (d3V d M) (d3H cd c' M) := fun c' M => by
            cases M with
            | nil =>
              simp only [dS, d3V, d3H]
              refine RLm.toldL [] ?_ ?_ ?_ ?_ ?_
              · simp [-Bool.exists_bool, -Int.not_le, -Int.not_lt, -getElem?_pos, -List.getD_eq_getElem?_getD]
              · simp [-Bool.exists_bool, -Int.not_le, -Int.not_lt, -getElem?_pos, -List.getD_eq_getElem?_getD]
              · simp [-Bool.exists_bool, -Int.not_le, -Int.not_lt, -getElem?_pos, -List.getD_eq_getElem?_getD, allKs, allK, okKey]
              · simp [-Bool.exists_bool, -Int.not_le, -Int.not_lt, -getElem?_pos, -List.getD_eq_getElem?_getD, okKey, allKE, allKs, allK, cA, setH]
              · simp [-Bool.exists_bool, -Int.not_le, -Int.not_lt, -getElem?_pos, -List.getD_eq_getElem?_getD]
            | cons a T =>
              simp only [dS, d3V, d3H]
              refine RLm.toldL [((1, 0), (3, 0)), ((1, 1), (4, 0))] ?_ ?_ ?_ ?_ ?_
              · simp [-Bool.exists_bool, -Int.not_le, -Int.not_lt, -getElem?_pos, -List.getD_eq_getElem?_getD]
              · simp [-Bool.exists_bool, -Int.not_le, -Int.not_lt, -getElem?_pos, -List.getD_eq_getElem?_getD]
              · simp [-Bool.exists_bool, -Int.not_le, -Int.not_lt, -getElem?_pos, -List.getD_eq_getElem?_getD, allKs, allK, okKey]
              · simp [-Bool.exists_bool, -Int.not_le, -Int.not_lt, -getElem?_pos, -List.getD_eq_getElem?_getD, okKey, allKE, allKs, allK, cA, setH, hd1]
              · simp [-Bool.exists_bool, -Int.not_le, -Int.not_lt, -getElem?_pos, -List.getD_eq_getElem?_getD]
          have fin2 : ∀ (c0 c' : Cu) (M : List At), RLm Tryz.prog cA (setH (1, 0) (some (.box [I d, match M with | [] => V.nil | a :: T => .ref (3, 0) (T.length + 1)])) (setH (0, 1) (some (cuE cd c')) (dS cd d c0 v 7 M).H)) (.agg [I d, match M with | [] => V.nil | a :: T => .ref (3, 0) (T.length + 1)]) (d3V d M) (d3H cd c' M) := fun c0 c' M => by
            cases M with
            | nil =>
              simp only [dS, d3V, d3H]
              refine RLm.toldL [] ?_ ?_ ?_ ?_ ?_
              · simp [-Bool.exists_bool, -Int.not_le, -Int.not_lt, -getElem?_pos, -List.getD_eq_getElem?_getD]
              · simp [-Bool.exists_bool, -Int.not_le, -Int.not_lt, -getElem?_pos, -List.getD_eq_getElem?_getD]
              · simp [-Bool.exists_bool, -Int.not_le, -Int.not_lt, -getElem?_pos, -List.getD_eq_getElem?_getD, allKs, allK, okKey]
              · simp [-Bool.exists_bool, -Int.not_le, -Int.not_lt, -getElem?_pos, -List.getD_eq_getElem?_getD, okKey, allKE, allKs, allK, cA, setH]
              · simp [-Bool.exists_bool, -Int.not_le, -Int.not_lt, -getElem?_pos, -List.getD_eq_getElem?_getD]
            | cons a T =>
              simp only [dS, d3V, d3H]
              refine RLm.toldL [((1, 0), (3, 0)), ((1, 1), (4, 0))] ?_ ?_ ?_ ?_ ?_
              · simp [-Bool.exists_bool, -Int.not_le, -Int.not_lt, -getElem?_pos, -List.getD_eq_getElem?_getD]
              · simp [-Bool.exists_bool, -Int.not_le, -Int.not_lt, -getElem?_pos, -List.getD_eq_getElem?_getD]
              · simp [-Bool.exists_bool, -Int.not_le, -Int.not_lt, -getElem?_pos, -List.getD_eq_getElem?_getD, allKs, allK, okKey]
              · simp [-Bool.exists_bool, -Int.not_le, -Int.not_lt, -getElem?_pos, -List.getD_eq_getElem?_getD, okKey, allKE, allKs, allK, cA, setH, hd1]
              · simp [-Bool.exists_bool, -Int.not_le, -Int.not_lt, -getElem?_pos, -List.getD_eq_getElem?_getD]
          by_cases h : v < d
          · obtain ⟨k, hk⟩ : ∃ k, d - v = k + 1 := ⟨d - v - 1, by omega⟩
            rw [hk, vs] at he
            cases M with
            | nil =>
              simp only [dS]
              simp -implicitDefEqProofs -dsimp +contextual [-Bool.exists_bool, -Int.not_le, -Int.not_lt, -getElem?_pos, -List.getD_eq_getElem?_getD, h]
              have hc2 := belowF_cu cd 2 c hc
              refine callOnce 2 (0, 1) hc h20 (by simp [-Bool.exists_bool, -Int.not_le, -Int.not_lt, -getElem?_pos, -List.getD_eq_getElem?_getD]) (by simp [-Bool.exists_bool, -Int.not_le, -Int.not_lt, -getElem?_pos, -List.getD_eq_getElem?_getD]) (by simp [-Bool.exists_bool, -Int.not_le, -Int.not_lt, -getElem?_pos, -List.getD_eq_getElem?_getD]) ?_
              have hb2 := belowF_bd cd (n := 2) (belowF cd 2 c).2 (by omega)
              have hc3 := belowF_cu cd 2 (belowF cd 2 c).2 hc2
              have hb4 := belowF_bd cd (n := 6) (belowF cd 2 (belowF cd 2 c).2).2 (by omega)
              have hc4 := belowF_cu cd 6 (belowF cd 2 (belowF cd 2 c).2).2 hc3
              have hc5 := belowF_cu cd 3 (belowF cd 6 (belowF cd 2 (belowF cd 2 c).2).2).2 hc4
              have hax : axA cd d v (belowF cd 2 c).2 = _ := rfl
              unfold axA at hax he
              generalize belowF cd 2 c = y at *
              obtain ⟨x1, c1⟩ := y
              simp only at hc2 hb2 hc3 hb4 hc4 hc5 he
              simp -implicitDefEqProofs -dsimp +contextual [-Bool.exists_bool, -Int.not_le, -Int.not_lt, -getElem?_pos, -List.getD_eq_getElem?_getD, h]
              refine ⟨fun h0 => ?_, fun h0 => ?_⟩
              · rw [if_pos h0] at he
                refine ⟨⟨by omega, by simp [-Bool.exists_bool, -Int.not_le, -Int.not_lt, -getElem?_pos, -List.getD_eq_getElem?_getD, maxLen]; omega⟩, ?_⟩
                refine callBelow 2 (0, 1) hc2 h20 (by simp [-Bool.exists_bool, -Int.not_le, -Int.not_lt, -getElem?_pos, -List.getD_eq_getElem?_getD, setH]) (by simp [-Bool.exists_bool, -Int.not_le, -Int.not_lt, -getElem?_pos, -List.getD_eq_getElem?_getD]) (by simp [-Bool.exists_bool, -Int.not_le, -Int.not_lt, -getElem?_pos, -List.getD_eq_getElem?_getD]) ?_
                generalize belowF cd 2 c1 = y at *
                obtain ⟨x2, c2⟩ := y
                simp only at hb2 hc3 hb4 hc4 hc5 he
                have h1 : v + 1 ≤ d := h
                have hmin : min v d = v := by omega
                have w1 : IntKind.wrap .i64 (2 * x2) = 2 * x2 := wr (by omega) (by omega)
                have w2 : IntKind.wrap .i64 (1 - 2 * x2) = 1 - 2 * x2 := wr (by omega) (by omega)
                have hU : List.replicate v (D.int IntKind.i64 0) ++ D.int IntKind.i64 (1 - 2 * x2) :: List.replicate (d - (v + 1)) (D.int IntKind.i64 0) = ((List.replicate d 0).set v (1 - 2 * x2)).map (D.int .i64) := by
                  rw [List.map_set, List.map_replicate, List.set_eq_take_append_cons_drop, if_pos (by simp [-Bool.exists_bool, -Int.not_le, -Int.not_lt, -getElem?_pos, -List.getD_eq_getElem?_getD]; exact h)]
                  simp [-Bool.exists_bool, -Int.not_le, -Int.not_lt, -getElem?_pos, -List.getD_eq_getElem?_getD, hmin]
                have hU2 : (List.replicate d (D.int IntKind.i64 0)).set v (D.int IntKind.i64 (1 - 2 * x2)) = ((List.replicate d 0).set v (1 - 2 * x2)).map (D.int .i64) := by rw [List.map_set, List.map_replicate]
                have hlen : ((List.replicate d 0).set v (1 - 2 * x2)).length = d := by simp [-Bool.exists_bool, -Int.not_le, -Int.not_lt, -getElem?_pos, -List.getD_eq_getElem?_getD]
                have hln : ∀ y ∈ (List.replicate d 0).set v (1 - 2 * x2), isNum y = true := fun y hy => by
                  rcases List.mem_or_eq_of_mem_set hy with hy | hy
                  · rw [(List.mem_replicate.1 hy).2]; rfl
                  · exact isNum_iff.2 ⟨by omega, by omega⟩
                simp -implicitDefEqProofs -dsimp +contextual [-Bool.exists_bool, -Int.not_le, -Int.not_lt, -getElem?_pos, -List.getD_eq_getElem?_getD, h, h1, hmin, w1, w2, hU]
                generalize (List.replicate d (0 : Int)).set v (1 - 2 * x2) = cf at *
                refine callBelow 6 (0, 1) hc3 h20 (by simp [-Bool.exists_bool, -Int.not_le, -Int.not_lt, -getElem?_pos, -List.getD_eq_getElem?_getD, setH]) (by simp [-Bool.exists_bool, -Int.not_le, -Int.not_lt, -getElem?_pos, -List.getD_eq_getElem?_getD]) (by simp [-Bool.exists_bool, -Int.not_le, -Int.not_lt, -getElem?_pos, -List.getD_eq_getElem?_getD]) ?_
                generalize belowF cd 6 c2 = y at *
                obtain ⟨x3, c3⟩ := y
                simp only at hb4 hc4 hc5 he
                simp -implicitDefEqProofs -dsimp +contextual [-Bool.exists_bool, -Int.not_le, -Int.not_lt, -getElem?_pos, -List.getD_eq_getElem?_getD, h]
                rw [wr (x := -x3) (by omega) (by omega)]
                refine callOnce 3 (0, 1) hc4 h20 (by simp [-Bool.exists_bool, -Int.not_le, -Int.not_lt, -getElem?_pos, -List.getD_eq_getElem?_getD, setH]) (by simp [-Bool.exists_bool, -Int.not_le, -Int.not_lt, -getElem?_pos, -List.getD_eq_getElem?_getD]) (by simp [-Bool.exists_bool, -Int.not_le, -Int.not_lt, -getElem?_pos, -List.getD_eq_getElem?_getD]) ?_
                generalize belowF cd 3 c3 = y at *
                obtain ⟨x4, c4⟩ := y
                simp only at hc5 he
                simp -implicitDefEqProofs -dsimp +contextual [-Bool.exists_bool, -Int.not_le, -Int.not_lt, -getElem?_pos, -List.getD_eq_getElem?_getD, h]
                have hM := MakeAtomO cf (-x3) (decide (x4 = 0)) (by omega) hln (isNum_iff.2 ⟨by omega, by omega⟩)
                have hok := mkAt_small (s := decide (x4 = 0)) (show cf.length ≤ 4 by omega) hln (isNum_iff.2 ⟨by omega, by omega⟩ : isNum (-x3) = true)
                have hmk : mkA cf (-x3) (decide (x4 = 0)) = mkAt cf (-x3) (decide (x4 = 0)) := if_pos (by omega)
                rw [hmk] at hM he
                have hr1 := (mkAt_ok hok).2
                generalize mkAt cf (-x3) (decide (x4 = 0)) = r at *
                obtain ⟨r1, r2, r3, r4⟩ := r
                obtain rfl : r4 = true := hok
                rw [show oAV (r1, r2, r3, true) = .tup [.agg [.ref (0, 0) r1.length, I r2, B r3], B true] from rfl, show oAH (r1, r2, r3, true) = hl [((0, 0), .row 3 r1.length (dl (r1.map (D.int .i64))))] from rfl] at hM
                refine CallJ.lent (ks := [(13, 0)]) 2 hM (by simp [-Bool.exists_bool, -Int.not_le, -Int.not_lt, -getElem?_pos, -List.getD_eq_getElem?_getD, hlen, hU2]) (by simp [-Bool.exists_bool, -Int.not_le, -Int.not_lt, -getElem?_pos, -List.getD_eq_getElem?_getD]) (by simp [-Bool.exists_bool, -Int.not_le, -Int.not_lt, -getElem?_pos, -List.getD_eq_getElem?_getD, noSh, noShL, noShD]) ?_ ?_
                · intro k e h
                  simp [-Bool.exists_bool, -Int.not_le, -Int.not_lt, -getElem?_pos, -List.getD_eq_getElem?_getD] at h
                  obtain ⟨rfl, rfl⟩ := h
                  simp only [noShE, noShL_all, List.all_eq_true]
                  intro x hx
                  obtain ⟨y, hy, rfl⟩ := List.mem_map.1 hx
                  obtain ⟨z, _, rfl⟩ := List.mem_map.1 hy
                  rfl
                simp -implicitDefEqProofs -dsimp +contextual [-Bool.exists_bool, -Int.not_le, -Int.not_lt, -getElem?_pos, -List.getD_eq_getElem?_getD, h]
                refine ⟨by simp [-Bool.exists_bool, -Int.not_le, -Int.not_lt, -getElem?_pos, -List.getD_eq_getElem?_getD, maxLen], v + 1, [(r1, r2, r3)], c4.1, c4.2, ⟨hc5, h, by simp [-Bool.exists_bool, -Int.not_le, -Int.not_lt, -getElem?_pos, -List.getD_eq_getElem?_getD]; omega, ?_⟩, by omega, ?_⟩
                · rw [show d - (v + 1) = k by omega]; exact he
                · dsimp only
                  rw [wr (x := (v : Int) + 1) (by omega) (by omega)]
                  refine Le.told [((3, 0), (40, 0)), ((4, 0), (29, 0))] ?_ ?_ ?_ <;> simp [-Bool.exists_bool, -Int.not_le, -Int.not_lt, -getElem?_pos, -List.getD_eq_getElem?_getD, hd1, asD]
              · rw [if_neg h0] at he
                rw [he]
                exact fin2 c c1 []
            | cons a T =>
              simp only [dS]
              simp -implicitDefEqProofs -dsimp +contextual [-Bool.exists_bool, -Int.not_le, -Int.not_lt, -getElem?_pos, -List.getD_eq_getElem?_getD, h]
              have hc2 := belowF_cu cd 2 c hc
              refine callOnce 2 (0, 1) hc h20 (by simp [-Bool.exists_bool, -Int.not_le, -Int.not_lt, -getElem?_pos, -List.getD_eq_getElem?_getD]) (by simp [-Bool.exists_bool, -Int.not_le, -Int.not_lt, -getElem?_pos, -List.getD_eq_getElem?_getD]) (by simp [-Bool.exists_bool, -Int.not_le, -Int.not_lt, -getElem?_pos, -List.getD_eq_getElem?_getD]) ?_
              have hb2 := belowF_bd cd (n := 2) (belowF cd 2 c).2 (by omega)
              have hc3 := belowF_cu cd 2 (belowF cd 2 c).2 hc2
              have hb4 := belowF_bd cd (n := 6) (belowF cd 2 (belowF cd 2 c).2).2 (by omega)
              have hc4 := belowF_cu cd 6 (belowF cd 2 (belowF cd 2 c).2).2 hc3
              have hc5 := belowF_cu cd 3 (belowF cd 6 (belowF cd 2 (belowF cd 2 c).2).2).2 hc4
              have hax : axA cd d v (belowF cd 2 c).2 = _ := rfl
              unfold axA at hax he
              generalize belowF cd 2 c = y at *
              obtain ⟨x1, c1⟩ := y
              simp only at hc2 hb2 hc3 hb4 hc4 hc5 he
              simp -implicitDefEqProofs -dsimp +contextual [-Bool.exists_bool, -Int.not_le, -Int.not_lt, -getElem?_pos, -List.getD_eq_getElem?_getD, h]
              refine ⟨fun h0 => ?_, fun h0 => ?_⟩
              · rw [if_pos h0] at he
                refine ⟨⟨by omega, by simp [-Bool.exists_bool, -Int.not_le, -Int.not_lt, -getElem?_pos, -List.getD_eq_getElem?_getD, maxLen]; omega⟩, ?_⟩
                refine callBelow 2 (0, 1) hc2 h20 (by simp [-Bool.exists_bool, -Int.not_le, -Int.not_lt, -getElem?_pos, -List.getD_eq_getElem?_getD, setH]) (by simp [-Bool.exists_bool, -Int.not_le, -Int.not_lt, -getElem?_pos, -List.getD_eq_getElem?_getD]) (by simp [-Bool.exists_bool, -Int.not_le, -Int.not_lt, -getElem?_pos, -List.getD_eq_getElem?_getD]) ?_
                generalize belowF cd 2 c1 = y at *
                obtain ⟨x2, c2⟩ := y
                simp only at hb2 hc3 hb4 hc4 hc5 he
                have h1 : v + 1 ≤ d := h
                have hmin : min v d = v := by omega
                have w1 : IntKind.wrap .i64 (2 * x2) = 2 * x2 := wr (by omega) (by omega)
                have w2 : IntKind.wrap .i64 (1 - 2 * x2) = 1 - 2 * x2 := wr (by omega) (by omega)
                have hU : List.replicate v (D.int IntKind.i64 0) ++ D.int IntKind.i64 (1 - 2 * x2) :: List.replicate (d - (v + 1)) (D.int IntKind.i64 0) = ((List.replicate d 0).set v (1 - 2 * x2)).map (D.int .i64) := by
                  rw [List.map_set, List.map_replicate, List.set_eq_take_append_cons_drop, if_pos (by simp [-Bool.exists_bool, -Int.not_le, -Int.not_lt, -getElem?_pos, -List.getD_eq_getElem?_getD]; exact h)]
                  simp [-Bool.exists_bool, -Int.not_le, -Int.not_lt, -getElem?_pos, -List.getD_eq_getElem?_getD, hmin]
                have hU2 : (List.replicate d (D.int IntKind.i64 0)).set v (D.int IntKind.i64 (1 - 2 * x2)) = ((List.replicate d 0).set v (1 - 2 * x2)).map (D.int .i64) := by rw [List.map_set, List.map_replicate]
                have hlen : ((List.replicate d 0).set v (1 - 2 * x2)).length = d := by simp [-Bool.exists_bool, -Int.not_le, -Int.not_lt, -getElem?_pos, -List.getD_eq_getElem?_getD]
                have hln : ∀ y ∈ (List.replicate d 0).set v (1 - 2 * x2), isNum y = true := fun y hy => by
                  rcases List.mem_or_eq_of_mem_set hy with hy | hy
                  · rw [(List.mem_replicate.1 hy).2]; rfl
                  · exact isNum_iff.2 ⟨by omega, by omega⟩
                simp -implicitDefEqProofs -dsimp +contextual [-Bool.exists_bool, -Int.not_le, -Int.not_lt, -getElem?_pos, -List.getD_eq_getElem?_getD, h, h1, hmin, w1, w2, hU]
                generalize (List.replicate d (0 : Int)).set v (1 - 2 * x2) = cf at *
                refine callBelow 6 (0, 1) hc3 h20 (by simp [-Bool.exists_bool, -Int.not_le, -Int.not_lt, -getElem?_pos, -List.getD_eq_getElem?_getD, setH]) (by simp [-Bool.exists_bool, -Int.not_le, -Int.not_lt, -getElem?_pos, -List.getD_eq_getElem?_getD]) (by simp [-Bool.exists_bool, -Int.not_le, -Int.not_lt, -getElem?_pos, -List.getD_eq_getElem?_getD]) ?_
                generalize belowF cd 6 c2 = y at *
                obtain ⟨x3, c3⟩ := y
                simp only at hb4 hc4 hc5 he
                simp -implicitDefEqProofs -dsimp +contextual [-Bool.exists_bool, -Int.not_le, -Int.not_lt, -getElem?_pos, -List.getD_eq_getElem?_getD, h]
                rw [wr (x := -x3) (by omega) (by omega)]
                refine callOnce 3 (0, 1) hc4 h20 (by simp [-Bool.exists_bool, -Int.not_le, -Int.not_lt, -getElem?_pos, -List.getD_eq_getElem?_getD, setH]) (by simp [-Bool.exists_bool, -Int.not_le, -Int.not_lt, -getElem?_pos, -List.getD_eq_getElem?_getD]) (by simp [-Bool.exists_bool, -Int.not_le, -Int.not_lt, -getElem?_pos, -List.getD_eq_getElem?_getD]) ?_
                generalize belowF cd 3 c3 = y at *
                obtain ⟨x4, c4⟩ := y
                simp only at hc5 he
                simp -implicitDefEqProofs -dsimp +contextual [-Bool.exists_bool, -Int.not_le, -Int.not_lt, -getElem?_pos, -List.getD_eq_getElem?_getD, h]
                have hM := MakeAtomO cf (-x3) (decide (x4 = 0)) (by omega) hln (isNum_iff.2 ⟨by omega, by omega⟩)
                have hok := mkAt_small (s := decide (x4 = 0)) (show cf.length ≤ 4 by omega) hln (isNum_iff.2 ⟨by omega, by omega⟩ : isNum (-x3) = true)
                have hmk : mkA cf (-x3) (decide (x4 = 0)) = mkAt cf (-x3) (decide (x4 = 0)) := if_pos (by omega)
                rw [hmk] at hM he
                have hr1 := (mkAt_ok hok).2
                generalize mkAt cf (-x3) (decide (x4 = 0)) = r at *
                obtain ⟨r1, r2, r3, r4⟩ := r
                obtain rfl : r4 = true := hok
                rw [show oAV (r1, r2, r3, true) = .tup [.agg [.ref (0, 0) r1.length, I r2, B r3], B true] from rfl, show oAH (r1, r2, r3, true) = hl [((0, 0), .row 3 r1.length (dl (r1.map (D.int .i64))))] from rfl] at hM
                refine CallJ.lent (ks := [(13, 0)]) 2 hM (by simp [-Bool.exists_bool, -Int.not_le, -Int.not_lt, -getElem?_pos, -List.getD_eq_getElem?_getD, hlen, hU2]) (by simp [-Bool.exists_bool, -Int.not_le, -Int.not_lt, -getElem?_pos, -List.getD_eq_getElem?_getD]) (by simp [-Bool.exists_bool, -Int.not_le, -Int.not_lt, -getElem?_pos, -List.getD_eq_getElem?_getD, noSh, noShL, noShD]) ?_ ?_
                · intro k e h
                  simp [-Bool.exists_bool, -Int.not_le, -Int.not_lt, -getElem?_pos, -List.getD_eq_getElem?_getD] at h
                  obtain ⟨rfl, rfl⟩ := h
                  simp only [noShE, noShL_all, List.all_eq_true]
                  intro x hx
                  obtain ⟨y, hy, rfl⟩ := List.mem_map.1 hx
                  obtain ⟨z, _, rfl⟩ := List.mem_map.1 hy
                  rfl
                simp -implicitDefEqProofs -dsimp +contextual [-Bool.exists_bool, -Int.not_le, -Int.not_lt, -getElem?_pos, -List.getD_eq_getElem?_getD, h]
                simp only [List.length_cons] at hM'
                refine ⟨⟨by omega, by simp [-Bool.exists_bool, -Int.not_le, -Int.not_lt, -getElem?_pos, -List.getD_eq_getElem?_getD, maxLen]; omega⟩, v + 1, (a :: T) ++ [(r1, r2, r3)], c4.1, c4.2, ⟨hc5, h, by simp [-Bool.exists_bool, -Int.not_le, -Int.not_lt, -getElem?_pos, -List.getD_eq_getElem?_getD]; omega, ?_⟩, by omega, ?_⟩
                · rw [show d - (v + 1) = k by omega]; exact he
                · dsimp only [List.cons_append]
                  rw [wr (x := (v : Int) + 1) (by omega) (by omega)]
                  refine Le.trans (S' := ⟨tl [(0, .ptr (0, 1) 0), (1, I d), (4, .ptr (1, 0) 0), (5, .ptr (2, 0) 0), (7, I ((v : Int) + 1))], hl [((0, 1), cuE cd (c4.1, c4.2)), ((1, 0), .box [I 0, .nil]), ((2, 0), .box [I d, .ref (3, 0) (T.length + 1 + 1)]), ((3, 0), .row 66 (T.length + 1 + 1) (.ref (4, 0) a.1.length :: I a.2.1 :: B a.2.2 :: (dl (asD T) ++ [.ref (5, 0) r1.length, I r2, B r3]))), ((4, 0), rI a.1), ((5, 0), .fz r1.length (r1.map (D.int .i64)))], 6⟩) (Le.told [((3, 0), (40, 0)), ((5, 0), (29, 0))] ?_ ?_ ?_) (Le.told [] ?_ ?_ ?_)
                  all_goals simp [-Bool.exists_bool, -Int.not_le, -Int.not_lt, -getElem?_pos, -List.getD_eq_getElem?_getD, hd1]
                  · exact VLes_app (VLes_refl_d _ _ _ _) (by simp [-Bool.exists_bool, -Int.not_le, -Int.not_lt, -getElem?_pos, -List.getD_eq_getElem?_getD, VLes, VLe])
                  · rw [hdq]
                    exact VLes_app (VLes_refl_d _ _ _ _) (by simp [-Bool.exists_bool, -Int.not_le, -Int.not_lt, -getElem?_pos, -List.getD_eq_getElem?_getD, VLes, VLe, asDz])
              · rw [if_neg h0] at he
                rw [he]
                exact fin2 c c1 (a :: T)
          · rw [show d - v = 0 by omega, vs] at he
            rw [he]
            cases M with
            | nil =>
              simp only [dS]
              simp -implicitDefEqProofs -dsimp +contextual [-Bool.exists_bool, -Int.not_le, -Int.not_lt, -getElem?_pos, -List.getD_eq_getElem?_getD, h]
              exact fin c []
            | cons a T =>
              simp only [dS]
              simp -implicitDefEqProofs -dsimp +contextual [-Bool.exists_bool, -Int.not_le, -Int.not_lt, -getElem?_pos, -List.getD_eq_getElem?_getD, h]
              exact fin c (a :: T)
    | succ n =>
      rw [us] at he
      have hok := drA_ok cd d c hd
      have hcu := drA_cu cd d c hc
      have hL6 : L.length ≤ 4 := by omega
      cases L with
      | nil =>
        simp only [dS]
        simp -implicitDefEqProofs -dsimp +contextual [-Bool.exists_bool, -Int.not_le, -Int.not_lt, -getElem?_pos, -List.getD_eq_getElem?_getD]
        refine callDraw d (0, 1) (by omega) hc h20 (by simp [-Bool.exists_bool, -Int.not_le, -Int.not_lt, -getElem?_pos, -List.getD_eq_getElem?_getD]) (by simp [-Bool.exists_bool, -Int.not_le, -Int.not_lt, -getElem?_pos, -List.getD_eq_getElem?_getD]) (by simp [-Bool.exists_bool, -Int.not_le, -Int.not_lt, -getElem?_pos, -List.getD_eq_getElem?_getD]) (fun b hr => ?_) (fun hr => by rw [hok.1] at hr; cases hr)
        generalize drA cd d c = y at *
        obtain ⟨r, c'⟩ := y
        simp only at hr he hcu
        subst hr
        simp -implicitDefEqProofs -dsimp +contextual [-Bool.exists_bool, -Int.not_le, -Int.not_lt, -getElem?_pos, -List.getD_eq_getElem?_getD]
        refine ⟨Quiet.of [5] (by kernel_rfl) (by simp [-Bool.exists_bool, -Int.not_le, -Int.not_lt, -getElem?_pos, -List.getD_eq_getElem?_getD, allP, offB]), by simp [-Bool.exists_bool, -Int.not_le, -Int.not_lt, -getElem?_pos, -List.getD_eq_getElem?_getD, maxLen], Quiet.of [] (by kernel_rfl) (by simp [-Bool.exists_bool, -Int.not_le, -Int.not_lt, -getElem?_pos, -List.getD_eq_getElem?_getD, allP, offB]), n, [b], c'.1, c'.2, ⟨hcu, by simp [-Bool.exists_bool, -Int.not_le, -Int.not_lt, -getElem?_pos, -List.getD_eq_getElem?_getD] at hn ⊢; omega, he⟩, by omega, ?_⟩
        dsimp only
        rw [wr (x := (n : Int)) (by omega) (by omega)]
        refine Le.told [((3, 0), (13, 0)), ((4, 0), (11, 0))] ?_ ?_ ?_ <;> simp [-Bool.exists_bool, -Int.not_le, -Int.not_lt, -getElem?_pos, -List.getD_eq_getElem?_getD, hd1, asD]
      | cons a T =>
        simp only [dS]
        simp -implicitDefEqProofs -dsimp +contextual [-Bool.exists_bool, -Int.not_le, -Int.not_lt, -getElem?_pos, -List.getD_eq_getElem?_getD]
        refine callDraw d (0, 1) (by omega) hc h20 (by simp [-Bool.exists_bool, -Int.not_le, -Int.not_lt, -getElem?_pos, -List.getD_eq_getElem?_getD]) (by simp [-Bool.exists_bool, -Int.not_le, -Int.not_lt, -getElem?_pos, -List.getD_eq_getElem?_getD]) (by simp [-Bool.exists_bool, -Int.not_le, -Int.not_lt, -getElem?_pos, -List.getD_eq_getElem?_getD]) (fun b hr => ?_) (fun hr => by rw [hok.1] at hr; cases hr)
        generalize drA cd d c = y at *
        obtain ⟨r, c'⟩ := y
        simp only at hr he hcu
        subst hr
        simp -implicitDefEqProofs -dsimp +contextual [-Bool.exists_bool, -Int.not_le, -Int.not_lt, -getElem?_pos, -List.getD_eq_getElem?_getD, hd1]
        refine ⟨Quiet.of [5] (by kernel_rfl) (by simp [-Bool.exists_bool, -Int.not_le, -Int.not_lt, -getElem?_pos, -List.getD_eq_getElem?_getD, allP, offB]), ⟨by simp [-Bool.exists_bool, -Int.not_le, -Int.not_lt, -getElem?_pos, -List.getD_eq_getElem?_getD] at hL6; omega, by simp [-Bool.exists_bool, -Int.not_le, -Int.not_lt, -getElem?_pos, -List.getD_eq_getElem?_getD, maxLen]; simp [-Bool.exists_bool, -Int.not_le, -Int.not_lt, -getElem?_pos, -List.getD_eq_getElem?_getD] at hL6; omega⟩, Quiet.of [] (by kernel_rfl) (by simp [-Bool.exists_bool, -Int.not_le, -Int.not_lt, -getElem?_pos, -List.getD_eq_getElem?_getD, allP, offB]), Quiet.of [] (by kernel_rfl) (by simp [-Bool.exists_bool, -Int.not_le, -Int.not_lt, -getElem?_pos, -List.getD_eq_getElem?_getD, allP, offB]), n, (a :: T) ++ [b], c'.1, c'.2, ⟨hcu, by simp [-Bool.exists_bool, -Int.not_le, -Int.not_lt, -getElem?_pos, -List.getD_eq_getElem?_getD] at hn ⊢; omega, he⟩, by omega, ?_⟩
        dsimp only [List.cons_append]
        rw [wr (x := (n : Int)) (by omega) (by omega)]
        refine Le.trans (S' := ⟨tl [(0, .ptr (0, 1) 0), (1, I d), (4, .ptr (1, 0) 0), (5, .ptr (2, 0) 0), (6, I n)], hl [((0, 1), cuE cd (c'.1, c'.2)), ((1, 0), .box [I 0, .nil]), ((2, 0), .box [I d, .ref (3, 0) (T.length + 1 + 1)]), ((3, 0), .row 66 (T.length + 1 + 1) (.ref (4, 0) a.1.length :: I a.2.1 :: B a.2.2 :: (dl (asD T) ++ [.ref (5, 0) b.1.length, I b.2.1, B b.2.2]))), ((4, 0), rI a.1), ((5, 0), .fz b.1.length (b.1.map (D.int .i64)))], 6⟩) (Le.told [((3, 0), (13, 0)), ((5, 0), (11, 0))] ?_ ?_ ?_) (Le.told [] ?_ ?_ ?_)
        all_goals simp [-Bool.exists_bool, -Int.not_le, -Int.not_lt, -getElem?_pos, -List.getD_eq_getElem?_getD, hd1]
        · exact VLes_app (VLes_refl_d _ _ _ _) (by simp [-Bool.exists_bool, -Int.not_le, -Int.not_lt, -getElem?_pos, -List.getD_eq_getElem?_getD, VLes, VLe])
        · rw [hdq]
          exact VLes_app (VLes_refl_d _ _ _ _) (by simp [-Bool.exists_bool, -Int.not_le, -Int.not_lt, -getElem?_pos, -List.getD_eq_getElem?_getD, VLes, VLe, asDz])
end Go.Proofs.YtjknjekemolndaaGreat.ZL
namespace Go.Proofs.YtjknjekemolndaaGreat.ZL
open Go Go.Proofs.YtjknjekemolndaaGreat.Abs Go.Proofs.YtjknjekemolndaaGreat.Abs.Pl Go.RowKit Go.Proofs
set_option linter.unusedVariables false
set_option linter.unusedSimpArgs false
set_option linter.unnecessarySimpa false
set_option maxRecDepth 100000
theorem asDn : asD [] = [] := rfl
theorem asDc (a : At) (T : List At) : asD (a :: T) = D.sl a.1.length (a.1.map (D.int .i64)) :: D.int .i64 a.2.1 :: D.bool a.2.2 :: asD T := rfl
theorem asDa (T : List At) (a : At) : dl (asD (T ++ [a])) = dl (asD T) ++ [V.d (D.sl a.1.length (a.1.map (D.int .i64))), V.d (D.int .i64 a.2.1), V.d (D.bool a.2.2)] := hdq
def tA (k : Key) : Prop := k = (0, 1) ∨ k = (0, 2) ∨ k = (0, 3)
def sp3 (cd : List Int) (d : Int) (L : List At) (c : Cu) : (Int × List At) × Cu :=
  if (belowF cd 40 c).1 = 0 then (((pickF cd [-1, 5, IntKind.wrap .i64 (d + 1)] (belowF cd 40 c).2).1, L), (pickF cd [-1, 5, IntKind.wrap .i64 (d + 1)] (belowF cd 40 c).2).2)
  else if (belowF cd 40 c).1 = 1 then (match L with
    | [] => ((d, []), (belowF cd 40 c).2)
    | a :: T => ((d, (spA cd a (belowF cd 40 c).2).1 :: T), (spA cd a (belowF cd 40 c).2).2))
  else if (belowF cd 40 c).1 = 2 then (match L with
    | [] => ((d, []), (belowF cd 40 c).2)
    | a :: T => ((d, a :: T ++ List.replicate (16 - T.length) a), (belowF cd 40 c).2))
  else ((d, L), (belowF cd 40 c).2)
abbrev tH (cd : List Int) (c : Cu) (a : At) (T : List At) : Store := hl [((0, 1), cuE cd c), ((0, 2), .row 66 (T.length + 1) (hd1 (0, 3) (a :: T))), ((0, 3), rI a.1)]
theorem l3SpoilN (cd : List Int) (c : Cu) (d : Int) (hc : c.1 ≤ cd.length) (h20 : cd.length ≤ 1048576) : Cm Tryz.prog 132 cA [.ptr (0, 1) 0, .agg [I d, .nil]] (cuH cd c) (C1 (sp3 cd d [] c).1.1 (sp3 cd d [] c).1.2) (cuH cd (sp3 cd d [] c).2) := by
  refine Cm.of [0] mixed Tryz.func132 rfl Tryz.call132 (by kernel_rfl) rfl ?_
  simp -implicitDefEqProofs -dsimp +contextual [-Bool.exists_bool, -Int.not_le, -Int.not_lt, -getElem?_pos, -List.getD_eq_getElem?_getD, Tryz.f132]
  have hc1 := belowF_cu cd 40 c hc
  refine callBelow 40 (0, 1) hc h20 (by simp [-Bool.exists_bool, -Int.not_le, -Int.not_lt, -getElem?_pos, -List.getD_eq_getElem?_getD]) (by simp [-Bool.exists_bool, -Int.not_le, -Int.not_lt, -getElem?_pos, -List.getD_eq_getElem?_getD]) (by simp [-Bool.exists_bool, -Int.not_le, -Int.not_lt, -getElem?_pos, -List.getD_eq_getElem?_getD]) ?_
  unfold sp3
  generalize belowF cd 40 c = y at *
  obtain ⟨x, c1⟩ := y
  simp only at hc1 ⊢
  simp -implicitDefEqProofs -dsimp +contextual [-Bool.exists_bool, -Int.not_le, -Int.not_lt, -getElem?_pos, -List.getD_eq_getElem?_getD]
  refine ⟨fun h0 => ?_, fun h0 => ⟨fun h1 => ?_, fun h1 => ⟨fun h2 => ?_, fun h2 => ?_⟩⟩⟩
  · refine callPick [-1, 5, IntKind.wrap .i64 (d + 1)] (0, 1) (by simp [-Bool.exists_bool, -Int.not_le, -Int.not_lt, -getElem?_pos, -List.getD_eq_getElem?_getD]) hc1 h20 (by simp [-Bool.exists_bool, -Int.not_le, -Int.not_lt, -getElem?_pos, -List.getD_eq_getElem?_getD, setH]) (by simp [-Bool.exists_bool, -Int.not_le, -Int.not_lt, -getElem?_pos, -List.getD_eq_getElem?_getD]) (by simp [-Bool.exists_bool, -Int.not_le, -Int.not_lt, -getElem?_pos, -List.getD_eq_getElem?_getD]) ?_
    rw [if_pos h0]
    simp -implicitDefEqProofs -dsimp +contextual [-Bool.exists_bool, -Int.not_le, -Int.not_lt, -getElem?_pos, -List.getD_eq_getElem?_getD]
    refine RLm.frzC [] 2 ?_ rfl ?_ ?_
    all_goals simp [-Bool.exists_bool, -Int.not_le, -Int.not_lt, -getElem?_pos, -List.getD_eq_getElem?_getD, setH, asDn]
  · refine RLm.frzC [] 2 ?_ rfl ?_ ?_
    all_goals simp [-Bool.exists_bool, -Int.not_le, -Int.not_lt, -getElem?_pos, -List.getD_eq_getElem?_getD, setH, asDn]
  · refine WP.loop mixed [0] (fun i : Nat => ⟨tl [(3, .ptr (1, 0) 0), (4, .ptr (2, 0) 0)], hl [((0, 1), cuE cd c1), ((1, 0), .box [I d, .nil]), ((2, 0), .box [I 0, .nil])], 3⟩) (fun i => i ≤ 0) (fun i => 0 - i) 0 (by kernel_rfl) ?_ ?_ ?_
    · refine Le.told [] ?_ ?_ ?_ <;> simp [-Bool.exists_bool, -Int.not_le, -Int.not_lt, -getElem?_pos, -List.getD_eq_getElem?_getD, setH]
    · simp [-Bool.exists_bool, -Int.not_le, -Int.not_lt, -getElem?_pos, -List.getD_eq_getElem?_getD]
    · intro i hi
      simp -implicitDefEqProofs -dsimp +contextual [-Bool.exists_bool, -Int.not_le, -Int.not_lt, -getElem?_pos, -List.getD_eq_getElem?_getD]
      refine RLm.frzC [] 2 ?_ rfl ?_ ?_
      all_goals simp [-Bool.exists_bool, -Int.not_le, -Int.not_lt, -getElem?_pos, -List.getD_eq_getElem?_getD, setH, h0, h2, asDn]
  · refine RLm.frzC [] 2 ?_ rfl ?_ ?_
    all_goals simp [-Bool.exists_bool, -Int.not_le, -Int.not_lt, -getElem?_pos, -List.getD_eq_getElem?_getD, setH, asDn]
theorem l3SpoilC (cd : List Int) (c : Cu) (d : Int) (a : At) (T : List At) (hT : T.length ≤ 15) (ha : a.1.length ≤ 1048576) (hc : c.1 ≤ cd.length) (h20 : cd.length ≤ 1048576) : Cm Tryz.prog 132 tA [.ptr (0, 1) 0, .agg [I d, .ref (0, 2) (T.length + 1)]] (tH cd c a T) (C1 (sp3 cd d (a :: T) c).1.1 (sp3 cd d (a :: T) c).1.2) (cuH cd (sp3 cd d (a :: T) c).2) := by
  refine Cm.of [0] mixed Tryz.func132 rfl Tryz.call132 (by kernel_rfl) rfl ?_
  simp -implicitDefEqProofs -dsimp +contextual [-Bool.exists_bool, -Int.not_le, -Int.not_lt, -getElem?_pos, -List.getD_eq_getElem?_getD, Tryz.f132]
  have hc1 := belowF_cu cd 40 c hc
  refine callBelow 40 (0, 1) hc h20 (by simp [-Bool.exists_bool, -Int.not_le, -Int.not_lt, -getElem?_pos, -List.getD_eq_getElem?_getD]) (by simp [-Bool.exists_bool, -Int.not_le, -Int.not_lt, -getElem?_pos, -List.getD_eq_getElem?_getD]) (by simp [-Bool.exists_bool, -Int.not_le, -Int.not_lt, -getElem?_pos, -List.getD_eq_getElem?_getD]) ?_
  unfold sp3
  generalize belowF cd 40 c = y at *
  obtain ⟨x, c1⟩ := y
  simp only at hc1 ⊢
  simp -implicitDefEqProofs -dsimp +contextual [-Bool.exists_bool, -Int.not_le, -Int.not_lt, -getElem?_pos, -List.getD_eq_getElem?_getD, hd1]
  refine ⟨fun h0 => ?_, fun h0 => ⟨fun h1 => ?_, fun h1 => ⟨fun h2 => ?_, fun h2 => ?_⟩⟩⟩
  · refine callPick [-1, 5, IntKind.wrap .i64 (d + 1)] (0, 1) (by simp [-Bool.exists_bool, -Int.not_le, -Int.not_lt, -getElem?_pos, -List.getD_eq_getElem?_getD]) hc1 h20 (by simp [-Bool.exists_bool, -Int.not_le, -Int.not_lt, -getElem?_pos, -List.getD_eq_getElem?_getD, setH]) (by simp [-Bool.exists_bool, -Int.not_le, -Int.not_lt, -getElem?_pos, -List.getD_eq_getElem?_getD]) (by simp [-Bool.exists_bool, -Int.not_le, -Int.not_lt, -getElem?_pos, -List.getD_eq_getElem?_getD]) ?_
    rw [if_pos h0]
    simp -implicitDefEqProofs -dsimp +contextual [-Bool.exists_bool, -Int.not_le, -Int.not_lt, -getElem?_pos, -List.getD_eq_getElem?_getD]
    refine RLm.frzC [(0, 2), (0, 3)] 3 ?_ (.inl rfl) ?_ ?_
    all_goals simp [-Bool.exists_bool, -Int.not_le, -Int.not_lt, -getElem?_pos, -List.getD_eq_getElem?_getD, setH, hd1, asDc]
  · have hcs := spA_cu cd a c1 hc1
    refine callSpoil (0, 1) (0, 3) a ha hc1 h20 (by simp [-Bool.exists_bool, -Int.not_le, -Int.not_lt, -getElem?_pos, -List.getD_eq_getElem?_getD, setH]) (by simp [-Bool.exists_bool, -Int.not_le, -Int.not_lt, -getElem?_pos, -List.getD_eq_getElem?_getD, setH]) (by simp [-Bool.exists_bool, -Int.not_le, -Int.not_lt, -getElem?_pos, -List.getD_eq_getElem?_getD]) (by simp [-Bool.exists_bool, -Int.not_le, -Int.not_lt, -getElem?_pos, -List.getD_eq_getElem?_getD]) (by simp [-Bool.exists_bool, -Int.not_le, -Int.not_lt, -getElem?_pos, -List.getD_eq_getElem?_getD]) (fun hx => ?_) (fun hx => ?_)
    · simp -implicitDefEqProofs -dsimp +contextual [-Bool.exists_bool, -Int.not_le, -Int.not_lt, -getElem?_pos, -List.getD_eq_getElem?_getD, hd1]
      refine ⟨Quiet.of [3] (by kernel_rfl) (by simp [-Bool.exists_bool, -Int.not_le, -Int.not_lt, -getElem?_pos, -List.getD_eq_getElem?_getD, allP, offB]), Quiet.of [] (by kernel_rfl) (by simp [-Bool.exists_bool, -Int.not_le, -Int.not_lt, -getElem?_pos, -List.getD_eq_getElem?_getD, allP, offB]), ?_⟩
      refine RLm.frzC [(0, 2), (0, 3)] 3 ?_ (.inl rfl) ?_ ?_
      all_goals simp [-Bool.exists_bool, -Int.not_le, -Int.not_lt, -getElem?_pos, -List.getD_eq_getElem?_getD, setH, hd1, asDc, h0, h1]
    · simp -implicitDefEqProofs -dsimp +contextual [-Bool.exists_bool, -Int.not_le, -Int.not_lt, -getElem?_pos, -List.getD_eq_getElem?_getD, hd1]
      refine ⟨Quiet.of [3] (by kernel_rfl) (by simp [-Bool.exists_bool, -Int.not_le, -Int.not_lt, -getElem?_pos, -List.getD_eq_getElem?_getD, allP, offB]), Quiet.of [] (by kernel_rfl) (by simp [-Bool.exists_bool, -Int.not_le, -Int.not_lt, -getElem?_pos, -List.getD_eq_getElem?_getD, allP, offB]), ?_⟩
      refine RLm.frzC [(0, 2), (20, 0)] 3 ?_ (.inl rfl) ?_ ?_
      all_goals simp [-Bool.exists_bool, -Int.not_le, -Int.not_lt, -getElem?_pos, -List.getD_eq_getElem?_getD, setH, hd1, asDc, h0, h1]
  · refine WP.loop mixed [0] (fun j : Nat => ⟨tl [(0, .ptr (0, 1) 0), (3, .ptr (1, 0) 0), (4, .ptr (2, 0) 0)], hl [((0, 1), cuE cd c1), ((1, 0), .box [I d, .ref (3, 0) (T.length + 1 + j)]), ((2, 0), .box [I 0, .nil]), ((3, 0), .row 66 (T.length + 1 + j) (dl (asD (a :: T ++ List.replicate j a))))], 4⟩) (fun j => T.length + j ≤ 16) (fun j => 16 - T.length - j) 0 (by kernel_rfl) ?_ ?_ ?_
    · refine Le.trans (S' := ⟨tl [(0, .ptr (0, 1) 0), (3, .ptr (1, 0) 0), (4, .ptr (2, 0) 0)], hl [((0, 1), cuE cd c1), ((1, 0), .box [I d, .ref (3, 0) (T.length + 1)]), ((2, 0), .box [I 0, .nil]), ((3, 0), .row 66 (T.length + 1) (hd1 (3, 1) (a :: T))), ((3, 1), .fz a.1.length (a.1.map (D.int .i64)))], 4⟩) (Le.told [((3, 0), (0, 2)), ((3, 1), (0, 3))] ?_ ?_ ?_) (Le.told [] ?_ ?_ ?_)
      all_goals simp [-Bool.exists_bool, -Int.not_le, -Int.not_lt, -getElem?_pos, -List.getD_eq_getElem?_getD, setH, hd1, asDc]
      exact VLes_app (a := [.ref (3, 1) a.1.length, I a.2.1, B a.2.2]) (c := [V.d (D.sl a.1.length (a.1.map (D.int .i64))), V.d (D.int .i64 a.2.1), V.d (D.bool a.2.2)]) (by simp [-Bool.exists_bool, -Int.not_le, -Int.not_lt, -getElem?_pos, -List.getD_eq_getElem?_getD, VLes, VLe, asDz]) (VLes_refl_d _ _ _ _)
    · simp [-Bool.exists_bool, -Int.not_le, -Int.not_lt, -getElem?_pos, -List.getD_eq_getElem?_getD]; omega
    · intro j hj
      have hM : (a :: T ++ List.replicate j a).length = T.length + 1 + j := by simp [-Bool.exists_bool, -Int.not_le, -Int.not_lt, -getElem?_pos, -List.getD_eq_getElem?_getD]; omega
      have hn0 : nth (a :: T ++ List.replicate j a) 0 = a := rfl
      have hp : (0 < (T.length : Int) + 1 + j) = True := by simp [-Bool.exists_bool, -Int.not_le, -Int.not_lt, -getElem?_pos, -List.getD_eq_getElem?_getD]; omega
      have htk : List.take 3 (asD (a :: (T ++ List.replicate j a))) = aD a := rfl
      have hm3 : min 3 ((T.length + j + 1) * 3) = 3 := by omega
      by_cases h : T.length + j < 16
      · have hlt : ((T.length : Int) + 1 + j ≤ 16) = True := by simp [-Bool.exists_bool, -Int.not_le, -Int.not_lt, -getElem?_pos, -List.getD_eq_getElem?_getD]; omega
        have hrep : asD (a :: (T ++ List.replicate (j + 1) a)) = asD (a :: (T ++ List.replicate j a)) ++ aD a := by
          rw [List.replicate_succ', ← List.append_assoc, ← List.cons_append, asD_append]
          rfl
        simp -implicitDefEqProofs -dsimp +contextual [-Bool.exists_bool, -Int.not_le, -Int.not_lt, -getElem?_pos, -List.getD_eq_getElem?_getD, hlt, hp, htk, hm3]
        refine ⟨by omega, ⟨by omega, by simp [-Bool.exists_bool, -Int.not_le, -Int.not_lt, -getElem?_pos, -List.getD_eq_getElem?_getD, maxLen]; omega⟩, Quiet.of [] (by kernel_rfl) (by simp [-Bool.exists_bool, -Int.not_le, -Int.not_lt, -getElem?_pos, -List.getD_eq_getElem?_getD, allP, offB]), Quiet.of [] (by kernel_rfl) (by simp [-Bool.exists_bool, -Int.not_le, -Int.not_lt, -getElem?_pos, -List.getD_eq_getElem?_getD, allP, offB]), j + 1, by omega, by omega, ?_⟩
        refine Le.told [((3, 0), (21, 0))] ?_ ?_ ?_ <;> simp [-Bool.exists_bool, -Int.not_le, -Int.not_lt, -getElem?_pos, -List.getD_eq_getElem?_getD, hrep]
        exact ⟨by omega, rfl⟩
      · have hlt : ((T.length : Int) + 1 + j ≤ 16) = False := by simp [-Bool.exists_bool, -Int.not_le, -Int.not_lt, -getElem?_pos, -List.getD_eq_getElem?_getD]; omega
        simp -implicitDefEqProofs -dsimp +contextual [-Bool.exists_bool, -Int.not_le, -Int.not_lt, -getElem?_pos, -List.getD_eq_getElem?_getD, hlt, hp]
        have e : j = 16 - T.length := by omega
        refine RLm.frzC [(3, 0)] 3 ?_ (.inl rfl) ?_ ?_
        all_goals simp [-Bool.exists_bool, -Int.not_le, -Int.not_lt, -getElem?_pos, -List.getD_eq_getElem?_getD, setH, h0, h2, e]
        omega
  · refine RLm.frzC [(0, 2), (0, 3)] 3 ?_ (.inl rfl) ?_ ?_
    all_goals simp [-Bool.exists_bool, -Int.not_le, -Int.not_lt, -getElem?_pos, -List.getD_eq_getElem?_getD, setH, hd1, asDc]
end Go.Proofs.YtjknjekemolndaaGreat.ZL
namespace Go.Proofs.YtjknjekemolndaaGreat.ZL
open Go Go.Proofs.YtjknjekemolndaaGreat.Abs Go.Proofs.YtjknjekemolndaaGreat.Abs.Pl Go.RowKit Go.Proofs
set_option linter.unusedVariables false
set_option linter.unusedSimpArgs false
set_option linter.unnecessarySimpa false
set_option maxRecDepth 100000
def up3 (kb : Key) (s : Nat) (e1 e2 e3 : Ent) : Key → Option (Option Ent) := fun k => if k = (s, 0) then some (some e2) else if k = (s, 1) then some (some e3) else if k = kb then some (some e1) else none
theorem app_up3 (kb : Key) (s : Nat) (e1 e2 e3 : Ent) (H : Store) : app (up3 kb s e1 e2 e3) H = setH (s, 0) (some e2) (setH (s, 1) (some e3) (setH kb (some e1) H)) := by
  funext k
  unfold app up3 setH
  by_cases h1 : k = (s, 0)
  · simp only [if_pos h1]
  · by_cases h2 : k = (s, 1)
    · simp only [if_neg h1, if_pos h2]
    · by_cases h3 : k = kb
      · simp only [if_neg h1, if_neg h2, if_pos h3]
      · simp only [if_neg h1, if_neg h2, if_neg h3]
attribute [simp] app_up3
theorem mapL_hd1 (g : Key → Key) (k0 : Key) (a : At) (T : List At) : mapL g (hd1 k0 (a :: T)) = hd1 (g k0) (a :: T) := by
  simp [-Bool.exists_bool, -Int.not_le, -Int.not_lt, -getElem?_pos, -List.getD_eq_getElem?_getD, hd1, mapL_dl]
theorem callD3 {N nx s : Nat} {H : Store} {K : Eff → Prop} {cd : List Int} {c : Cu} (d : Nat) (kb : Key) (hd : d ≤ 4) (hc : c.1 ≤ cd.length) (h20 : cd.length ≤ 1048576) (hH : H kb = some (cuE cd c)) (hs : kb.1 ≠ s) (hnx : kb.1 < nx)
    (k1 : (dr3 cd d c).1 = [] → K ⟨.agg [I d, .nil], [kb], [kb], up1 kb (some (cuE cd (dr3 cd d c).2)) noUp⟩)
    (k2 : ∀ a T, (dr3 cd d c).1 = a :: T → K ⟨.agg [I d, .ref (s, 0) (T.length + 1)], [kb], [kb], up3 kb s (cuE cd (dr3 cd d c).2) (.row 66 (T.length + 1) (hd1 (s, 1) (a :: T))) (rI a.1)⟩) :
    CallJ Tryz.prog N nx s H 133 [.ptr kb 0, I d] K := by
  have hm := l3Draw cd d c hd hc h20
  have base : ∀ {r : V} {Hr : Store}, Cm Tryz.prog 133 cA [.ptr (0, 1) 0, I d] (cuH cd c) r Hr → (∀ k e, Hr k = some e → k.1 < 2 ∧ (k.1 = 0 → (cuH cd c k).isSome = true)) → K ⟨mapK (gk (fun _ => kb) s) r, [kb], [kb], upMut (fun _ => kb) (fun k => if k = kb then some 0 else none) s Hr⟩ → CallJ Tryz.prog N nx s H 133 [.ptr kb 0, I d] K := fun {r Hr} hm h2 hk => by
    refine CallJ.mut (fun _ => kb) (fun k => if k = kb then some 0 else none) [kb] [] hm ?_ ?_ ?_ ?_ ?_ ?_ h2 ?_ (by simpa [-Bool.exists_bool, -Int.not_le, -Int.not_lt, -getElem?_pos, -List.getD_eq_getElem?_getD] using hk)
    · simp [-Bool.exists_bool, -Int.not_le, -Int.not_lt, -getElem?_pos, -List.getD_eq_getElem?_getD, gk]
    · simp [-Bool.exists_bool, -Int.not_le, -Int.not_lt, -getElem?_pos, -List.getD_eq_getElem?_getD, allKs, allK, cA]
    · rintro k rfl; simp [-Bool.exists_bool, -Int.not_le, -Int.not_lt, -getElem?_pos, -List.getD_eq_getElem?_getD, hH]
    · intro k e h
      simp [-Bool.exists_bool, -Int.not_le, -Int.not_lt, -getElem?_pos, -List.getD_eq_getElem?_getD] at h
      obtain ⟨rfl, rfl⟩ := h
      simp [-Bool.exists_bool, -Int.not_le, -Int.not_lt, -getElem?_pos, -List.getD_eq_getElem?_getD, hH, mapE, allKE, allKs, allK, cA]
    · intro k j h
      simp [-Bool.exists_bool, -Int.not_le, -Int.not_lt, -getElem?_pos, -List.getD_eq_getElem?_getD] at h
      obtain ⟨rfl, rfl⟩ := h
      simp [-Bool.exists_bool, -Int.not_le, -Int.not_lt, -getElem?_pos, -List.getD_eq_getElem?_getD]
    · simp [-Bool.exists_bool, -Int.not_le, -Int.not_lt, -getElem?_pos, -List.getD_eq_getElem?_getD]
    · simp [-Bool.exists_bool, -Int.not_le, -Int.not_lt, -getElem?_pos, -List.getD_eq_getElem?_getD, hH, hnx]
  generalize dr3 cd d c = y at *
  obtain ⟨L, c'⟩ := y
  simp only at k1 k2 hm
  cases L with
  | nil =>
    have := k1 rfl
    refine base hm ?_ ?_
    · intro k e h
      have h : cuH cd c' k = some e := h
      simp [-Bool.exists_bool, -Int.not_le, -Int.not_lt, -getElem?_pos, -List.getD_eq_getElem?_getD] at h
      obtain ⟨rfl, rfl⟩ := h
      simp [-Bool.exists_bool, -Int.not_le, -Int.not_lt, -getElem?_pos, -List.getD_eq_getElem?_getD]
    · have e : upMut (fun _ => kb) (fun k => if k = kb then some 0 else none) s (cuH cd c') = up1 kb (some (cuE cd c')) noUp := by
        funext k
        unfold upMut up1
        by_cases h1 : k = kb
        · subst h1
          rw [if_neg hs, if_pos rfl]
          simp [-Bool.exists_bool, -Int.not_le, -Int.not_lt, -getElem?_pos, -List.getD_eq_getElem?_getD, mapE]
        · rw [if_neg h1]
          simp [-Bool.exists_bool, -Int.not_le, -Int.not_lt, -getElem?_pos, -List.getD_eq_getElem?_getD, h1, noUp]
      show K ⟨_, _, _, upMut (fun _ => kb) (fun k => if k = kb then some 0 else none) s (cuH cd c')⟩
      rw [e]
      simpa [-Bool.exists_bool, -Int.not_le, -Int.not_lt, -getElem?_pos, -List.getD_eq_getElem?_getD, gk, d3V] using this
  | cons a T =>
    have := k2 a T rfl
    refine base hm ?_ ?_
    · intro k e h
      have h := hl_mem h
      simp [-Bool.exists_bool, -Int.not_le, -Int.not_lt, -getElem?_pos, -List.getD_eq_getElem?_getD] at h
      rcases h with ⟨rfl, rfl⟩ | ⟨rfl, rfl⟩ | ⟨rfl, rfl⟩ <;> simp [-Bool.exists_bool, -Int.not_le, -Int.not_lt, -getElem?_pos, -List.getD_eq_getElem?_getD]
    · have e : upMut (fun _ => kb) (fun k => if k = kb then some 0 else none) s (d3H cd c' (a :: T)) = up3 kb s (cuE cd c') (.row 66 (T.length + 1) (hd1 (s, 1) (a :: T))) (rI a.1) := by
        funext k
        unfold upMut up3
        obtain ⟨a', b'⟩ := k
        split
        · rename_i hks
          simp only at hks
          subst hks
          have n1 : (a', b') ≠ kb := fun e => hs (by rw [← e])
          by_cases hb0 : b' = 0
          · subst hb0; simp [-Bool.exists_bool, -Int.not_le, -Int.not_lt, -getElem?_pos, -List.getD_eq_getElem?_getD, d3H, mapE, mapL_hd1, gk]
          · by_cases hb1 : b' = 1
            · subst hb1; simp [-Bool.exists_bool, -Int.not_le, -Int.not_lt, -getElem?_pos, -List.getD_eq_getElem?_getD, d3H, mapE]
            · simp [-Bool.exists_bool, -Int.not_le, -Int.not_lt, -getElem?_pos, -List.getD_eq_getElem?_getD, n1, hb0, hb1, d3H]
        · rename_i hks
          simp only at hks
          have e0 : ¬ (a', b') = (s, 0) := fun e => hks (by injection e)
          have e1 : ¬ (a', b') = (s, 1) := fun e => hks (by injection e)
          by_cases e2 : (a', b') = kb
          · simp only [if_neg e0, if_neg e1, if_pos e2]; simp [-Bool.exists_bool, -Int.not_le, -Int.not_lt, -getElem?_pos, -List.getD_eq_getElem?_getD, mapE, d3H]
          · simp only [if_neg e0, if_neg e1, if_neg e2]
      show K ⟨_, _, _, upMut (fun _ => kb) (fun k => if k = kb then some 0 else none) s (d3H cd c' (a :: T))⟩
      rw [e]
      simpa [-Bool.exists_bool, -Int.not_le, -Int.not_lt, -getElem?_pos, -List.getD_eq_getElem?_getD, gk, d3V] using this
theorem callSp3N {N nx s : Nat} {H : Store} {K : Eff → Prop} {cd : List Int} {c : Cu} (kb : Key) (d : Int) (hc : c.1 ≤ cd.length) (h20 : cd.length ≤ 1048576) (hH : H kb = some (cuE cd c)) (hs : kb.1 ≠ s) (hn : kb.1 < nx)
    (hk : K ⟨C1 (sp3 cd d [] c).1.1 (sp3 cd d [] c).1.2, [kb], [kb], up1 kb (some (cuE cd (sp3 cd d [] c).2)) noUp⟩) : CallJ Tryz.prog N nx s H 132 [.ptr kb 0, .agg [I d, .nil]] K :=
  callCu kb (l3SpoilN cd c d hc h20) (fun g => rfl) (fun _ => by simp [-Bool.exists_bool, -Int.not_le, -Int.not_lt, -getElem?_pos, -List.getD_eq_getElem?_getD, allKs, allK]) (fun g => rfl) hH hs hn hk
def upT (kb kr kc : Key) (e1 : Ent) : Key → Option (Option Ent) := fun k => if k = kb then some (some e1) else if k = kr then some none else if k = kc then some none else none
theorem app_upT (kb kr kc : Key) (e1 : Ent) (H : Store) : app (upT kb kr kc e1) H = setH kb (some e1) (setH kr none (setH kc none H)) := by
  funext k
  unfold app upT setH
  by_cases h1 : k = kb
  · simp only [if_pos h1]
  · by_cases h2 : k = kr
    · simp only [if_neg h1, if_pos h2]
    · by_cases h3 : k = kc
      · simp only [if_neg h1, if_neg h2, if_pos h3]
      · simp only [if_neg h1, if_neg h2, if_neg h3]
attribute [simp] app_upT
theorem callSp3 {N nx s : Nat} {H : Store} {K : Eff → Prop} {cd : List Int} {c : Cu} (kb kr kc : Key) (d : Int) (a : At) (T : List At) (hT : T.length ≤ 15) (ha : a.1.length ≤ 1048576) (hc : c.1 ≤ cd.length) (h20 : cd.length ≤ 1048576) (hb : H kb = some (cuE cd c)) (hr : H kr = some (.row 66 (T.length + 1) (hd1 kc (a :: T)))) (hcc : H kc = some (rI a.1)) (hne : kb ≠ kr ∧ kb ≠ kc ∧ kr ≠ kc) (hs : kb.1 ≠ s ∧ kr.1 ≠ s ∧ kc.1 ≠ s) (hn : kb.1 < nx ∧ (kc.1 < nx ∨ kc.1 = kr.1))
    (hk : K ⟨C1 (sp3 cd d (a :: T) c).1.1 (sp3 cd d (a :: T) c).1.2, [kb, kr, kc], [kb, kr, kc], upT kb kr kc (cuE cd (sp3 cd d (a :: T) c).2)⟩) : CallJ Tryz.prog N nx s H 132 [.ptr kb 0, .agg [I d, .ref kr (T.length + 1)]] K := by
  obtain ⟨n1, n2, n3⟩ := hne
  have e : upMut (fun j => if j = 0 then kb else if j = 1 then kr else kc) (fun k => if k = kb then some 0 else if k = kr then some 1 else if k = kc then some 2 else none) s (cuH cd (sp3 cd d (a :: T) c).2) = upT kb kr kc (cuE cd (sp3 cd d (a :: T) c).2) := by
    funext k
    unfold upMut upT
    split
    · rename_i hks
      have m1 : k ≠ kb := fun e => hs.1 (by rw [← e]; exact hks)
      have m2 : k ≠ kr := fun e => hs.2.1 (by rw [← e]; exact hks)
      have m3 : k ≠ kc := fun e => hs.2.2 (by rw [← e]; exact hks)
      simp [-Bool.exists_bool, -Int.not_le, -Int.not_lt, -getElem?_pos, -List.getD_eq_getElem?_getD, m1, m2, m3, hks]
    · by_cases e1 : k = kb
      · simp only [if_pos e1]; simp [-Bool.exists_bool, -Int.not_le, -Int.not_lt, -getElem?_pos, -List.getD_eq_getElem?_getD, mapE, gk]
      · by_cases e2 : k = kr
        · simp only [if_neg e1, if_pos e2]; simp [-Bool.exists_bool, -Int.not_le, -Int.not_lt, -getElem?_pos, -List.getD_eq_getElem?_getD]
        · by_cases e3 : k = kc
          · simp only [if_neg e1, if_neg e2, if_pos e3]; simp [-Bool.exists_bool, -Int.not_le, -Int.not_lt, -getElem?_pos, -List.getD_eq_getElem?_getD]
          · simp only [if_neg e1, if_neg e2, if_neg e3]
  rw [← e] at hk
  refine CallJ.mut (fun j => if j = 0 then kb else if j = 1 then kr else kc) (fun k => if k = kb then some 0 else if k = kr then some 1 else if k = kc then some 2 else none) [kb, kr, kc] [] (l3SpoilC cd c d a T hT ha hc h20) ?_ ?_ ?_ ?_ ?_ ?_ ?_ ?_ (by simpa [-Bool.exists_bool, -Int.not_le, -Int.not_lt, -getElem?_pos, -List.getD_eq_getElem?_getD] using hk)
  · simp [-Bool.exists_bool, -Int.not_le, -Int.not_lt, -getElem?_pos, -List.getD_eq_getElem?_getD, gk]
  · simp [-Bool.exists_bool, -Int.not_le, -Int.not_lt, -getElem?_pos, -List.getD_eq_getElem?_getD, allKs, allK, tA]
  · rintro k (rfl | rfl | rfl)
    · simp [-Bool.exists_bool, -Int.not_le, -Int.not_lt, -getElem?_pos, -List.getD_eq_getElem?_getD, hb]
    · simp [-Bool.exists_bool, -Int.not_le, -Int.not_lt, -getElem?_pos, -List.getD_eq_getElem?_getD, hr]
    · simp [-Bool.exists_bool, -Int.not_le, -Int.not_lt, -getElem?_pos, -List.getD_eq_getElem?_getD, hcc]
  · intro k e h
    have h := hl_mem h
    simp [-Bool.exists_bool, -Int.not_le, -Int.not_lt, -getElem?_pos, -List.getD_eq_getElem?_getD] at h
    rcases h with ⟨rfl, rfl⟩ | ⟨rfl, rfl⟩ | ⟨rfl, rfl⟩
    · simp [-Bool.exists_bool, -Int.not_le, -Int.not_lt, -getElem?_pos, -List.getD_eq_getElem?_getD, tA, hb, mapE, allKE, allKs, allK, gk]
    · simp [-Bool.exists_bool, -Int.not_le, -Int.not_lt, -getElem?_pos, -List.getD_eq_getElem?_getD, tA, hr, mapE, allKE, allKs, allK, gk, n1.symm, mapL_hd1, hd1, allKs_dl]
    · simp [-Bool.exists_bool, -Int.not_le, -Int.not_lt, -getElem?_pos, -List.getD_eq_getElem?_getD, tA, hcc, mapE, allKE, allKs, allK, gk, n2.symm, n3.symm]
  · intro k j h
    split at h
    · rename_i e
      obtain rfl := Option.some.inj h
      simp [-Bool.exists_bool, -Int.not_le, -Int.not_lt, -getElem?_pos, -List.getD_eq_getElem?_getD, e]
    · split at h
      · rename_i e1 e2
        obtain rfl := Option.some.inj h
        simp [-Bool.exists_bool, -Int.not_le, -Int.not_lt, -getElem?_pos, -List.getD_eq_getElem?_getD, e2]
      · split at h
        · rename_i e1 e2 e3
          obtain rfl := Option.some.inj h
          simp [-Bool.exists_bool, -Int.not_le, -Int.not_lt, -getElem?_pos, -List.getD_eq_getElem?_getD, e3]
        · cases h
  · simp [-Bool.exists_bool, -Int.not_le, -Int.not_lt, -getElem?_pos, -List.getD_eq_getElem?_getD, n1.symm, n2.symm, n3.symm]
  · intro k e h
    simp [-Bool.exists_bool, -Int.not_le, -Int.not_lt, -getElem?_pos, -List.getD_eq_getElem?_getD] at h
    obtain ⟨rfl, rfl⟩ := h
    simp [-Bool.exists_bool, -Int.not_le, -Int.not_lt, -getElem?_pos, -List.getD_eq_getElem?_getD]
  · intro k hk
    simp [-Bool.exists_bool, -Int.not_le, -Int.not_lt, -getElem?_pos, -List.getD_eq_getElem?_getD] at hk
    rcases hk with rfl | rfl | rfl
    · exact ⟨by simp [-Bool.exists_bool, -Int.not_le, -Int.not_lt, -getElem?_pos, -List.getD_eq_getElem?_getD, hb], .inl hn.1⟩
    · exact ⟨by simp [-Bool.exists_bool, -Int.not_le, -Int.not_lt, -getElem?_pos, -List.getD_eq_getElem?_getD, hr], .inr (by simp [-Bool.exists_bool, -Int.not_le, -Int.not_lt, -getElem?_pos, -List.getD_eq_getElem?_getD, slotsL, slotsV])⟩
    · refine ⟨by simp [-Bool.exists_bool, -Int.not_le, -Int.not_lt, -getElem?_pos, -List.getD_eq_getElem?_getD, hcc], ?_⟩
      rcases hn.2 with h | h
      · exact .inl h
      · exact .inr (by rw [h]; simp [-Bool.exists_bool, -Int.not_le, -Int.not_lt, -getElem?_pos, -List.getD_eq_getElem?_getD, slotsL, slotsV])
end Go.Proofs.YtjknjekemolndaaGreat.ZL
