/- Texts of the abs road (plain values, what code does to them, and the contracts of the functions that the law reaches). No condition. -/
import Derived.Test.YtjknjekemolndaaGreatG8FnExactNeatRegion
namespace Go.Proofs.YtjknjekemolndaaGreat.ZL
open Go Go.Proofs.YtjknjekemolndaaGreat.Abs Go.Proofs.YtjknjekemolndaaGreat.Abs.Pl Go.RowKit Go.Proofs
set_option linter.unusedVariables false
set_option linter.unusedSimpArgs false
set_option maxRecDepth 100000
def negA (a : At) : At := (a.1.map (- ·), -a.2.1, !a.2.2)
def partC (d : Int) (x : List At) (k : Nat) : Ce := (d, x.take k ++ [negA (nth x k)])
def lessIn (d : Int) (c : Ce) (x : List At) : Nat → List Ce → Option (List Ce)
  | 0, acc => some acc
  | n + 1, acc => if (meetC c (partC d x (x.length - (n + 1)))).2.2 = true then (addC acc ((meetC c (partC d x (x.length - (n + 1)))).1, (meetC c (partC d x (x.length - (n + 1)))).2.1)).bind (lessIn d c x n) else none
def lessOut (d : Int) (x : List At) : List Ce → List Ce → Option (List Ce)
  | [], acc => some acc
  | c :: cs, acc => (lessIn d c x x.length acc).bind (lessOut d x cs)
def lessD (d : Int) (cs : List Ce) (c : Ce) : Option (List Ce) := if (mC c).2.2 = true then lessOut d (mC c).2.1 cs [] else none
theorem meetC_ok {a b : Ce} (h : (meetC a b).2.2 = true) : (meetC a b).1 = a.1 ∧ isCe a.1 (meetC a b).2.1 = true := by
  unfold meetC at h ⊢
  split at h
  · rename_i hc
    rw [if_pos hc]
    unfold limN at h ⊢
    split at h
    · cases h
    · rename_i h16
      rw [if_neg h16]
      have hd := isCe_d hc.1
      have h3 : isCe a.1 b.2 = true := by rw [hc.2.2]; exact hc.2.1
      exact ⟨rfl, okCe.2 ⟨hd, by show (nrm a.1 (a.2 ++ b.2)).length ≤ 16; omega, nrm_okL hd fun y hy => by
        rcases List.mem_append.1 hy with hy | hy
        · exact isCe_a hc.1 y hy
        · exact isCe_a h3 y hy⟩⟩
  · cases h
theorem lessIn_ok {d : Int} {c : Ce} {x : List At} (hc : okC d c) : ∀ {n : Nat} {acc y : List Ce}, okCs d acc → lessIn d c x n acc = some y → okCs d y
  | 0, acc, y, ha, h => by obtain rfl := Option.some.inj h; exact ha
  | n + 1, acc, y, ha, h => by
    unfold lessIn at h
    split at h
    · rename_i hm
      obtain ⟨z, h1, h2⟩ := Option.bind_eq_some_iff.1 h
      exact lessIn_ok hc (addC_ok ((meetC_ok hm).1.trans hc.1) ha h1) h2
    · cases h
theorem lessOut_ok {d : Int} {x : List At} : ∀ {cs acc y : List Ce}, (∀ c ∈ cs, okC d c) → okCs d acc → lessOut d x cs acc = some y → okCs d y
  | [], acc, y, _, ha, h => by obtain rfl := Option.some.inj h; exact ha
  | c :: cs, acc, y, hc, ha, h => by
    obtain ⟨z, h1, h2⟩ := Option.bind_eq_some_iff.1 h
    exact lessOut_ok (fun w hw => hc w (by simp [-Bool.exists_bool, -Int.not_le, -Int.not_lt, -getElem?_pos, -List.getD_eq_getElem?_getD, hw])) (lessIn_ok (hc c (by simp [-Bool.exists_bool, -Int.not_le, -Int.not_lt, -getElem?_pos, -List.getD_eq_getElem?_getD])) ha h1) h2
theorem lessD_ok {d : Int} {cs y : List Ce} {c : Ce} (hs : okCs d cs) (h : lessD d cs c = some y) : okCs d y := by
  unfold lessD at h
  split at h
  · exact lessOut_ok hs.2 ⟨by simp [-Bool.exists_bool, -Int.not_le, -Int.not_lt, -getElem?_pos, -List.getD_eq_getElem?_getD], by simp [-Bool.exists_bool, -Int.not_le, -Int.not_lt, -getElem?_pos, -List.getD_eq_getElem?_getD]⟩ h
  · cases h
theorem l4Less (d : Int) (cs : List Ce) (c : Ce) (hc : okC d c) (hs : okCs d cs) : Cn Tryz.prog 116 [R1 d cs, C1 c.1 c.2] (RD (optR d (lessD d cs c))) hemp := by
  obtain ⟨hc1, hc2⟩ := hc
  obtain ⟨e, L⟩ := c
  simp only at hc1 hc2
  subst hc1
  have hd := isCe_d hc2
  refine Cn.of [0] mixed Tryz.func116 rfl Tryz.call116 (by kernel_rfl) rfl ?_
  simp -implicitDefEqProofs -dsimp +contextual [-Bool.exists_bool, -Int.not_le, -Int.not_lt, -getElem?_pos, -List.getD_eq_getElem?_getD, Tryz.f116]
  refine CallJ.pure (l3Normal e hd L (by have := isCe_l hc2; omega) (isCe_a hc2)) rfl (by simp [-Bool.exists_bool, -Int.not_le, -Int.not_lt, -getElem?_pos, -List.getD_eq_getElem?_getD]) ?_
  simp -implicitDefEqProofs -dsimp +contextual [-Bool.exists_bool, -Int.not_le, -Int.not_lt, -getElem?_pos, -List.getD_eq_getElem?_getD]
  have em : minC e (nrm e L) = mC (e, L) := by show _ = minD e L; rw [minD, if_pos hc2]
  have hm := l3Minimal e (nrm e L) (by have := nrm_16 e L (isCe_l hc2); omega)
  rw [em] at hm
  have ho : (mC (e, L)).2.2 = true → (mC (e, L)).1 = e ∧ isCe e (mC (e, L)).2.1 = true ∧ NF e (mC (e, L)).2.1 := minD_ok
  refine CallJ.pure hm rfl (by simp [-Bool.exists_bool, -Int.not_le, -Int.not_lt, -getElem?_pos, -List.getD_eq_getElem?_getD]) ?_
  unfold lessD
  generalize mC (e, L) = m at ho ⊢
  obtain ⟨m1, m2, m3⟩ := m
  simp only at ho ⊢
  simp -implicitDefEqProofs -dsimp +contextual [-Bool.exists_bool, -Int.not_le, -Int.not_lt, -getElem?_pos, -List.getD_eq_getElem?_getD]
  refine ⟨fun hf => ?_, fun hf => RLe.pure 2 (by simp [-Bool.exists_bool, -Int.not_le, -Int.not_lt, -getElem?_pos, -List.getD_eq_getElem?_getD, optR])⟩
  obtain ⟨rfl, o2, o3⟩ := ho hf
  have hlen := isCe_l o2
  have hx := isCe_a o2
  have e0 : (if m3 = true then lessOut m1 m2 cs [] else none) = lessOut m1 m2 cs [] := if_pos hf
  rw [e0]
  refine WP.loop mixed [0] (fun p : Nat × List Ce => ⟨tl [(2, .ptr (0, 0) 0), (4, .ptr (2, 0) 0), (6, .ptr (3, 0) 0), (8, .ptr (4, 0) 0), (9, I p.1)], hl [((0, 0), .box [I m1, Cs cs]), ((2, 0), .box [I 0, .nil]), ((3, 0), .box [I m1, As m2]), ((4, 0), .box [I m1, Cs p.2])], 5⟩) (fun p => p.1 ≤ cs.length ∧ okCs m1 p.2 ∧ lessOut m1 m2 cs [] = lessOut m1 m2 (cs.drop p.1) p.2) (fun p => cs.length - p.1) (0, []) (by kernel_rfl) ?_ ?_ ?_
  · refine Le.told [((3, 0), (13, 0)), ((4, 0), (21, 0))] ?_ ?_ ?_ <;> simp [-Bool.exists_bool, -Int.not_le, -Int.not_lt, -getElem?_pos, -List.getD_eq_getElem?_getD, setH]
  · exact ⟨Nat.zero_le _, ⟨by simp [-Bool.exists_bool, -Int.not_le, -Int.not_lt, -getElem?_pos, -List.getD_eq_getElem?_getD], by simp [-Bool.exists_bool, -Int.not_le, -Int.not_lt, -getElem?_pos, -List.getD_eq_getElem?_getD]⟩, rfl⟩
  · rintro ⟨i, acc⟩ ⟨hi, ha, he⟩
    simp only at hi ha he
    by_cases h : i < cs.length
    · have h12 := hs.1
      have hcc := hs.2 _ (nth_mem h)
      rw [nth_drop h, lessOut] at he
      simp -implicitDefEqProofs -dsimp +contextual [-Bool.exists_bool, -Int.not_le, -Int.not_lt, -getElem?_pos, -List.getD_eq_getElem?_getD, h]
      refine WP.loop mixed [0] (fun p : Nat × List Ce => ⟨tl [(2, .ptr (0, 0) 0), (4, .ptr (2, 0) 0), (6, .ptr (3, 0) 0), (8, .ptr (4, 0) 0), (9, I i), (10, I p.1)], hl [((0, 0), .box [I m1, Cs cs]), ((2, 0), .box [I 0, .nil]), ((3, 0), .box [I m1, As m2]), ((4, 0), .box [I m1, Cs p.2])], 5⟩) (fun p => p.1 ≤ m2.length ∧ okCs m1 p.2 ∧ lessOut m1 m2 cs [] = (lessIn m1 (nth cs i) m2 (m2.length - p.1) p.2).bind (lessOut m1 m2 (cs.drop (i + 1)))) (fun p => m2.length - p.1) (0, acc) (by kernel_rfl) ?_ ?_ ?_
      · refine Le.told [] ?_ ?_ ?_ <;> simp [-Bool.exists_bool, -Int.not_le, -Int.not_lt, -getElem?_pos, -List.getD_eq_getElem?_getD, setH]
      · exact ⟨Nat.zero_le _, ha, by rw [he]; rfl⟩
      · rintro ⟨k, ac⟩ ⟨hk, hac, hek⟩
        simp only at hk hac hek
        by_cases hkl : k < m2.length
        · simp -implicitDefEqProofs -dsimp +contextual [-Bool.exists_bool, -Int.not_le, -Int.not_lt, -getElem?_pos, -List.getD_eq_getElem?_getD, h, hkl]
          have hna : negAt (nth m2 k).1 (nth m2 k).2.1 (nth m2 k).2.2 = ((negA (nth m2 k)).1, (negA (nth m2 k)).2.1, (negA (nth m2 k)).2.2, true) := by rw [negAt, if_pos (hx _ (nth_mem hkl)).1]; rfl
          have hN := NegateAtom (nth m2 k)
          rw [hna] at hN
          refine CallJ.pure hN rfl (by simp [-Bool.exists_bool, -Int.not_le, -Int.not_lt, -getElem?_pos, -List.getD_eq_getElem?_getD]) ?_
          simp -implicitDefEqProofs -dsimp +contextual [-Bool.exists_bool, -Int.not_le, -Int.not_lt, -getElem?_pos, -List.getD_eq_getElem?_getD, h, hkl]
          have hmin : min k m2.length = k := by omega
          refine ⟨by omega, ⟨by omega, by omega, by simp [-Bool.exists_bool, -Int.not_le, -Int.not_lt, -getElem?_pos, -List.getD_eq_getElem?_getD, maxLen]; omega⟩, ⟨by omega, by simp [-Bool.exists_bool, -Int.not_le, -Int.not_lt, -getElem?_pos, -List.getD_eq_getElem?_getD, maxLen]; omega⟩, Quiet.of [2] (by kernel_rfl) (by simp [-Bool.exists_bool, -Int.not_le, -Int.not_lt, -getElem?_pos, -List.getD_eq_getElem?_getD, allP, offB]), Quiet.of [] (by kernel_rfl) (by simp [-Bool.exists_bool, -Int.not_le, -Int.not_lt, -getElem?_pos, -List.getD_eq_getElem?_getD, allP, offB]), ?_⟩
          have hpl : (m2.take k ++ [negA (nth m2 k)]).length = k + 1 := by simp [-Bool.exists_bool, -Int.not_le, -Int.not_lt, -getElem?_pos, -List.getD_eq_getElem?_getD]; omega
          have hpd : asD (m2.take k ++ [negA (nth m2 k)]) = asD (m2.take k) ++ [D.sl (negA (nth m2 k)).1.length ((negA (nth m2 k)).1.map (D.int IntKind.i64)), D.int IntKind.i64 (negA (nth m2 k)).2.1, D.bool (negA (nth m2 k)).2.2] := by rw [asD_append]; simp [-Bool.exists_bool, -Int.not_le, -Int.not_lt, -getElem?_pos, -List.getD_eq_getElem?_getD, asD, aD]
          have hM := MeetCells (nth cs i) (partC m1 m2 k) (by have := okC_len hcc; omega) (by show (m2.take k ++ [negA (nth m2 k)]).length ≤ 1048576; omega)
          have hmo := meetC_ok (a := nth cs i) (b := partC m1 m2 k)
          obtain ⟨n, hn⟩ : ∃ n, m2.length - k = n + 1 := ⟨m2.length - k - 1, by omega⟩
          have hkn : m2.length - (n + 1) = k := by omega
          rw [hn, lessIn, hkn] at hek
          have hkn2 : n = m2.length - (k + 1) := by omega
          generalize hgen : meetC (nth cs i) (partC m1 m2 k) = q at hM hmo hek
          obtain ⟨q1, q2, q3⟩ := q
          simp only at hmo hek
          refine CallJ.frz (t := 66) (n := k + 1) (c := dl (asD (m2.take k ++ [negA (nth m2 k)]))) (c' := asD (m2.take k ++ [negA (nth m2 k)])) (32, 0) hM (by simp [-Bool.exists_bool, -Int.not_le, -Int.not_lt, -getElem?_pos, -List.getD_eq_getElem?_getD, setH, hpd]) (dl_asDs _) (ks := [(32, 0)]) (by simp [-Bool.exists_bool, -Int.not_le, -Int.not_lt, -getElem?_pos, -List.getD_eq_getElem?_getD, lendVs, lendV, setH, partC, hpl, hmin]) (by simp [-Bool.exists_bool, -Int.not_le, -Int.not_lt, -getElem?_pos, -List.getD_eq_getElem?_getD]) ?_
          simp -implicitDefEqProofs -dsimp +contextual [-Bool.exists_bool, -Int.not_le, -Int.not_lt, -getElem?_pos, -List.getD_eq_getElem?_getD, h, hkl]
          refine ⟨Quiet.of [] (by kernel_rfl) (by simp [-Bool.exists_bool, -Int.not_le, -Int.not_lt, -getElem?_pos, -List.getD_eq_getElem?_getD, allP, offB]), Quiet.of [] (by kernel_rfl) (by simp [-Bool.exists_bool, -Int.not_le, -Int.not_lt, -getElem?_pos, -List.getD_eq_getElem?_getD, allP, offB]), fun hq => ?_, fun hq => ?_⟩
          · rw [if_pos hq] at hek
            obtain ⟨rfl, hq2⟩ := hmo hq
            rw [hcc.1] at hq2
            have hqc : okC m1 ((nth cs i).1, q2) := ⟨hcc.1, hq2⟩
            refine CallJ.pure (l4Add m1 ac ((nth cs i).1, q2) hqc hac.1) rfl (by simp [-Bool.exists_bool, -Int.not_le, -Int.not_lt, -getElem?_pos, -List.getD_eq_getElem?_getD]) ?_
            have at_ := addS_t (d := m1) (cs := ac) (c := ((nth cs i).1, q2))
            have af_ := addS_f (d := m1) (cs := ac) (c := ((nth cs i).1, q2))
            generalize addS m1 ac ((nth cs i).1, q2) = r at at_ af_ ⊢
            obtain ⟨r1, r2, r3⟩ := r
            simp only at at_ af_
            simp -implicitDefEqProofs -dsimp +contextual [-Bool.exists_bool, -Int.not_le, -Int.not_lt, -getElem?_pos, -List.getD_eq_getElem?_getD, h, hkl, hq]
            refine ⟨fun hr => ?_, fun hr => ?_⟩
            · obtain ⟨a1, rfl⟩ := at_ hr
              rw [a1, Option.bind_some, hkn2] at hek
              refine ⟨k + 1, r2, ⟨hkl, addC_ok hqc.1 hac a1, hek⟩, by omega, ?_⟩
              rw [wr (by omega) (by omega)]
              refine Le.told [] ?_ ?_ ?_ <;> simp [-Bool.exists_bool, -Int.not_le, -Int.not_lt, -getElem?_pos, -List.getD_eq_getElem?_getD]
            · rw [af_ (by simp [-Bool.exists_bool, -Int.not_le, -Int.not_lt, -getElem?_pos, -List.getD_eq_getElem?_getD, hr]), Option.bind_none, Option.bind_none] at hek
              exact RLe.pure 2 (by rw [hek]; simp [-Bool.exists_bool, -Int.not_le, -Int.not_lt, -getElem?_pos, -List.getD_eq_getElem?_getD, optR])
          · rw [if_neg (by simp [-Bool.exists_bool, -Int.not_le, -Int.not_lt, -getElem?_pos, -List.getD_eq_getElem?_getD, hq]), Option.bind_none] at hek
            exact RLe.pure 2 (by rw [hek]; simp [-Bool.exists_bool, -Int.not_le, -Int.not_lt, -getElem?_pos, -List.getD_eq_getElem?_getD, optR])
        · rw [show m2.length - k = 0 by omega, lessIn, Option.bind_some] at hek
          simp -implicitDefEqProofs -dsimp +contextual [-Bool.exists_bool, -Int.not_le, -Int.not_lt, -getElem?_pos, -List.getD_eq_getElem?_getD, h, hkl]
          refine ⟨i + 1, ac, ⟨h, hac, hek⟩, by omega, ?_⟩
          rw [wr (by omega) (by omega)]
          refine Le.told [] ?_ ?_ ?_ <;> simp [-Bool.exists_bool, -Int.not_le, -Int.not_lt, -getElem?_pos, -List.getD_eq_getElem?_getD]
    · rw [drop_nil (by omega), lessOut] at he
      simp -implicitDefEqProofs -dsimp +contextual [-Bool.exists_bool, -Int.not_le, -Int.not_lt, -getElem?_pos, -List.getD_eq_getElem?_getD, h]
      exact RLe.pure 3 (by rw [he]; simp [-Bool.exists_bool, -Int.not_le, -Int.not_lt, -getElem?_pos, -List.getD_eq_getElem?_getD, optR])
def diffGo (d : Int) : List Ce → List Ce → Option (List Ce)
  | [], acc => some acc
  | c :: cs, acc => (lessD d acc c).bind (diffGo d cs)
def diffD (d : Int) (A : List Ce) (e : Int) (B : List Ce) : Int × List Ce × Bool := if isRe d A = true ∧ isRe e B = true ∧ d = e then optR d ((neatGo A []).bind (diffGo d B)) else (0, [], false)
theorem DifferenceOf (d : Int) (A : List Ce) (e : Int) (B : List Ce) (hA : A.length ≤ 1048576) (hAc : ∀ c ∈ A, c.2.length ≤ 1048576) (hB : B.length ≤ 1048576) (hBc : ∀ c ∈ B, c.2.length ≤ 1048576) : Cn Tryz.prog 70 [R1 d A, R1 e B] (RD (diffD d A e B)) hemp := by
  refine Cn.of [0] mixed Tryz.func70 rfl Tryz.call70 (by kernel_rfl) rfl ?_
  simp -implicitDefEqProofs -dsimp +contextual [-Bool.exists_bool, -Int.not_le, -Int.not_lt, -getElem?_pos, -List.getD_eq_getElem?_getD, Tryz.f70]
  have hN := NeatRegion d A hA hAc
  by_cases h1 : isRe d A = true
  rotate_left
  · rw [neatD, if_neg h1] at hN
    rw [diffD, if_neg (by simp [-Bool.exists_bool, -Int.not_le, -Int.not_lt, -getElem?_pos, -List.getD_eq_getElem?_getD, h1])]
    refine CallJ.pure hN rfl (by simp [-Bool.exists_bool, -Int.not_le, -Int.not_lt, -getElem?_pos, -List.getD_eq_getElem?_getD]) ?_
    simp -implicitDefEqProofs -dsimp +contextual [-Bool.exists_bool, -Int.not_le, -Int.not_lt, -getElem?_pos, -List.getD_eq_getElem?_getD]
    exact RLe.pure 2 (by simp [-Bool.exists_bool, -Int.not_le, -Int.not_lt, -getElem?_pos, -List.getD_eq_getElem?_getD, csD])
  obtain ⟨hd, h12, hok⟩ := isRe_ok h1
  rw [neatD, if_pos h1] at hN
  cases hx : neatGo A [] with
  | none =>
    rw [hx] at hN
    have e0 : diffD d A e B = (0, [], false) := by
      unfold diffD
      split
      · rw [hx]; rfl
      · rfl
    rw [e0]
    refine CallJ.pure hN rfl (by simp [-Bool.exists_bool, -Int.not_le, -Int.not_lt, -getElem?_pos, -List.getD_eq_getElem?_getD]) ?_
    simp -implicitDefEqProofs -dsimp +contextual [-Bool.exists_bool, -Int.not_le, -Int.not_lt, -getElem?_pos, -List.getD_eq_getElem?_getD, optR]
    exact RLe.pure 2 (by simp [-Bool.exists_bool, -Int.not_le, -Int.not_lt, -getElem?_pos, -List.getD_eq_getElem?_getD, csD])
  | some x =>
    rw [hx] at hN
    have hxo := neatGo_ok hok ⟨by simp [-Bool.exists_bool, -Int.not_le, -Int.not_lt, -getElem?_pos, -List.getD_eq_getElem?_getD], by simp [-Bool.exists_bool, -Int.not_le, -Int.not_lt, -getElem?_pos, -List.getD_eq_getElem?_getD]⟩ hx
    refine CallJ.pure hN rfl (by simp [-Bool.exists_bool, -Int.not_le, -Int.not_lt, -getElem?_pos, -List.getD_eq_getElem?_getD]) ?_
    simp -implicitDefEqProofs -dsimp +contextual [-Bool.exists_bool, -Int.not_le, -Int.not_lt, -getElem?_pos, -List.getD_eq_getElem?_getD, optR]
    refine CallJ.pure (IsRegion e B hB hBc) rfl (by simp [-Bool.exists_bool, -Int.not_le, -Int.not_lt, -getElem?_pos, -List.getD_eq_getElem?_getD]) ?_
    simp -implicitDefEqProofs -dsimp +contextual [-Bool.exists_bool, -Int.not_le, -Int.not_lt, -getElem?_pos, -List.getD_eq_getElem?_getD, optR]
    have no : ∀ {H : Store}, ¬ (isRe d A = true ∧ isRe e B = true ∧ d = e) → RLe Tryz.prog H (V.tup [V.agg [V.d (D.int IntKind.i64 0), V.nil], V.d (D.bool false)]) (RD (diffD d A e B)) hemp := fun h => by
      rw [diffD, if_neg h]
      exact RLe.pure 2 (by simp [-Bool.exists_bool, -Int.not_le, -Int.not_lt, -getElem?_pos, -List.getD_eq_getElem?_getD, csD])
    refine ⟨fun h2 => ⟨fun h3 => ?_, fun h3 => no (fun h => h3 h.2.2)⟩, fun h2 => no (by simp [-Bool.exists_bool, -Int.not_le, -Int.not_lt, -getElem?_pos, -List.getD_eq_getElem?_getD, h2])⟩
    subst h3
    obtain ⟨_, b12, bok⟩ := isRe_ok h2
    have e0 : diffD d A d B = optR d (diffGo d B x) := by rw [diffD, if_pos ⟨h1, h2, rfl⟩, hx, Option.bind_some]
    rw [e0]
    refine WP.loop mixed [0] (fun p : Nat × List Ce => ⟨tl [(3, .ptr (1, 0) 0), (4, .ptr (2, 0) 0), (6, .ptr (3, 0) 0), (8, I p.1)], hl [((1, 0), .box [I d, Cs B]), ((2, 0), .box [I 0, .nil]), ((3, 0), .box [I d, Cs p.2])], 4⟩) (fun p => p.1 ≤ B.length ∧ okCs d p.2 ∧ diffGo d B x = diffGo d (B.drop p.1) p.2) (fun p => B.length - p.1) (0, x) (by kernel_rfl) ?_ ?_ ?_
    · refine Le.told [((3, 0), (9, 0))] ?_ ?_ ?_ <;> simp [-Bool.exists_bool, -Int.not_le, -Int.not_lt, -getElem?_pos, -List.getD_eq_getElem?_getD, setH]
    · exact ⟨Nat.zero_le _, hxo, rfl⟩
    · rintro ⟨i, acc⟩ ⟨hi, ha, he⟩
      simp only at hi ha he
      by_cases h : i < B.length
      · have hcc := bok _ (nth_mem h)
        rw [nth_drop h, diffGo] at he
        simp -implicitDefEqProofs -dsimp +contextual [-Bool.exists_bool, -Int.not_le, -Int.not_lt, -getElem?_pos, -List.getD_eq_getElem?_getD, h]
        have hL := l4Less d acc (nth B i) hcc ha
        cases hq : lessD d acc (nth B i) with
        | none =>
          rw [hq] at hL he
          refine CallJ.pure hL rfl (by simp [-Bool.exists_bool, -Int.not_le, -Int.not_lt, -getElem?_pos, -List.getD_eq_getElem?_getD]) ?_
          simp -implicitDefEqProofs -dsimp +contextual [-Bool.exists_bool, -Int.not_le, -Int.not_lt, -getElem?_pos, -List.getD_eq_getElem?_getD, h, optR]
          refine ⟨Quiet.of [] (by kernel_rfl) (by simp [-Bool.exists_bool, -Int.not_le, -Int.not_lt, -getElem?_pos, -List.getD_eq_getElem?_getD, allP, offB]), ?_⟩
          rw [Option.bind_none] at he
          exact RLe.pure 2 (by rw [he]; simp [-Bool.exists_bool, -Int.not_le, -Int.not_lt, -getElem?_pos, -List.getD_eq_getElem?_getD, optR, csD])
        | some y =>
          rw [hq, Option.bind_some] at he
          rw [hq] at hL
          refine CallJ.pure hL rfl (by simp [-Bool.exists_bool, -Int.not_le, -Int.not_lt, -getElem?_pos, -List.getD_eq_getElem?_getD]) ?_
          simp -implicitDefEqProofs -dsimp +contextual [-Bool.exists_bool, -Int.not_le, -Int.not_lt, -getElem?_pos, -List.getD_eq_getElem?_getD, h, optR]
          refine ⟨Quiet.of [] (by kernel_rfl) (by simp [-Bool.exists_bool, -Int.not_le, -Int.not_lt, -getElem?_pos, -List.getD_eq_getElem?_getD, allP, offB]), i + 1, y, ⟨h, lessD_ok ha hq, he⟩, by omega, ?_⟩
          rw [wr (by omega) (by omega)]
          refine Le.told [] ?_ ?_ ?_ <;> simp [-Bool.exists_bool, -Int.not_le, -Int.not_lt, -getElem?_pos, -List.getD_eq_getElem?_getD]
      · rw [drop_nil (by omega), diffGo] at he
        simp -implicitDefEqProofs -dsimp +contextual [-Bool.exists_bool, -Int.not_le, -Int.not_lt, -getElem?_pos, -List.getD_eq_getElem?_getD, h]
        exact RLe.pure 3 (by rw [he]; simp [-Bool.exists_bool, -Int.not_le, -Int.not_lt, -getElem?_pos, -List.getD_eq_getElem?_getD, optR])
def covR (d : Int) (A : List Ce) (e : Int) (B : List Ce) : Bool × Bool := if (diffD e B d A).2.2 = true then (decide ((diffD e B d A).2.1.length = 0), true) else (false, false)
theorem CoversRegion (d : Int) (A : List Ce) (e : Int) (B : List Ce) (hA : A.length ≤ 1048576) (hAc : ∀ c ∈ A, c.2.length ≤ 1048576) (hB : B.length ≤ 1048576) (hBc : ∀ c ∈ B, c.2.length ≤ 1048576) : Cn Tryz.prog 38 [R1 d A, R1 e B] (B2 (covR d A e B)) hemp := by
  refine Cn.of [0] mixed Tryz.func38 rfl Tryz.call38 (by kernel_rfl) rfl ?_
  simp -implicitDefEqProofs -dsimp +contextual [-Bool.exists_bool, -Int.not_le, -Int.not_lt, -getElem?_pos, -List.getD_eq_getElem?_getD, Tryz.f38]
  refine CallJ.pure (DifferenceOf e B d A hB hBc hA hAc) rfl (by simp [-Bool.exists_bool, -Int.not_le, -Int.not_lt, -getElem?_pos, -List.getD_eq_getElem?_getD]) ?_
  unfold covR
  generalize diffD e B d A = q
  obtain ⟨q1, q2, q3⟩ := q
  cases q3
  · simp -implicitDefEqProofs -dsimp +contextual [-Bool.exists_bool, -Int.not_le, -Int.not_lt, -getElem?_pos, -List.getD_eq_getElem?_getD]
    exact RLe.pure 1 (by simp [-Bool.exists_bool, -Int.not_le, -Int.not_lt, -getElem?_pos, -List.getD_eq_getElem?_getD])
  · simp -implicitDefEqProofs -dsimp +contextual [-Bool.exists_bool, -Int.not_le, -Int.not_lt, -getElem?_pos, -List.getD_eq_getElem?_getD]
    exact RLe.pure 1 (by simp [-Bool.exists_bool, -Int.not_le, -Int.not_lt, -getElem?_pos, -List.getD_eq_getElem?_getD])
end Go.Proofs.YtjknjekemolndaaGreat.ZL
namespace Go.Proofs.YtjknjekemolndaaGreat.ZL
open Go Go.Proofs.YtjknjekemolndaaGreat.Abs Go.Proofs.YtjknjekemolndaaGreat.Abs.Pl Go.RowKit Go.Proofs
set_option linter.unusedVariables false
set_option linter.unusedSimpArgs false
set_option maxRecDepth 100000
abbrev aH (d : Int) (cs : List Ce) : Store := hl [((0, 1), .box [I d, .ref (0, 2) cs.length]), ((0, 2), .row 26 cs.length (dl (csD cs)))]
abbrev aN (d : Int) (cs : List Ce) : Store := hl [((0, 1), .box [I d, .ref (1, 0) cs.length]), ((1, 0), .row 26 cs.length (dl (csD cs)))]
def aA (k : Key) : Prop := k = (0, 1) ∨ k = (0, 2)
def aOut (d : Int) (cs : List Ce) (c : Ce) : Bool × Store := if (minD c.1 c.2).2.2 = true then (if emF (minD c.1 c.2).2.1 = true then (true, aH d cs) else if cs.length < 12 then (true, aN d (cs ++ [((minD c.1 c.2).1, (minD c.1 c.2).2.1)])) else (false, aH d cs)) else (false, aH d cs)
theorem aOut_none {d : Int} {cs : List Ce} {c : Ce} (h : addC cs c = none) : aOut d cs c = (false, aH d cs) := by
  unfold addC mC at h
  unfold aOut
  split at h
  · rename_i h1
    rw [if_pos h1]
    split at h
    · cases h
    · rename_i h2
      rw [if_neg h2]
      split at h
      · cases h
      · rename_i h3; rw [if_neg h3]
  · rename_i h1; rw [if_neg h1]
theorem aOut_some {d : Int} {cs x : List Ce} {c : Ce} (h : addC cs c = some x) : (x = cs ∧ aOut d cs c = (true, aH d cs)) ∨ (x.length = cs.length + 1 ∧ aOut d cs c = (true, aN d x)) := by
  unfold addC mC at h
  unfold aOut
  split at h
  · rename_i h1
    rw [if_pos h1]
    split at h
    · rename_i h2
      exact .inl ⟨(Option.some.inj h).symm, by rw [if_pos h2]⟩
    · rename_i h2
      rw [if_neg h2]
      split at h
      · rename_i h3
        exact .inr ⟨by rw [← Option.some.inj h]; simp [-Bool.exists_bool, -Int.not_le, -Int.not_lt, -getElem?_pos, -List.getD_eq_getElem?_getD], by rw [if_pos h3, ← Option.some.inj h]⟩
      · cases h
  · cases h
def inv1 (s : Nat) (k : Key) : Key := if k = (1, 0) then (s, 0) else k
theorem RLm.told1 {P : Program} {A : Key → Prop} {H : Store} {r v : V} {K : List (Key × Ent)} (s : Nat) (hs : 2 ≤ s) (hv : VLe H (inv1 s) 2 v r) (hr : allK (okKey A) r)
    (hK : allP (fun p : Key × Ent => p.1.1 < 2 ∧ okKey A p.1 ∧ allKE (okKey A) p.2 ∧ entIs (H (inv1 s p.1)) fun e => ELe H (inv1 s) 2 e p.2) K) : RLm P A H v r (hl K) := by
  have hlt : ∀ k e, hl K k = some e → k.1 < 2 := fun k e hk => (allP_mem hK _ (hl_mem hk)).1
  refine RLm.mk (inv1 s) (fun k hk => ?_) hv hr (fun k e' hk => ?_) (fun k k' e e' h1 h2 h => ?_)
  · unfold inv1
    rw [if_neg (fun e => by rw [e] at hk; cases hk)]
  · obtain ⟨h1, h2, h3, h4⟩ := allP_mem hK _ (hl_mem hk)
    simp only [entIs] at h4
    refine ⟨h1, h2, h3, ?_⟩
    cases hq : H (inv1 s k) with
    | none => rw [hq] at h4; exact h4.elim
    | some e => rw [hq] at h4; exact ⟨e, rfl, h4⟩
  · have l1 := hlt k e h1
    have l2 := hlt k' e' h2
    unfold inv1 at h
    split at h
    · rename_i e1
      split at h
      · rename_i e2; rw [e1, e2]
      · rw [← h] at l2; simp [-Bool.exists_bool, -Int.not_le, -Int.not_lt, -getElem?_pos, -List.getD_eq_getElem?_getD] at l2; omega
    · split at h
      · rw [h] at l1; simp [-Bool.exists_bool, -Int.not_le, -Int.not_lt, -getElem?_pos, -List.getD_eq_getElem?_getD] at l1; omega
      · exact h
theorem addCell (d : Int) (cs : List Ce) (c : Ce) (hl20 : c.2.length ≤ 1048576) (h12 : cs.length ≤ 12) : Cm Tryz.prog 85 aA [.ptr (0, 1) 0, C1 c.1 c.2] (aH d cs) (B (aOut d cs c).1) (aOut d cs c).2 := by
  refine Cm.of [] mixed Tryz.func85 rfl Tryz.call85 (by kernel_rfl) rfl ?_
  simp -implicitDefEqProofs -dsimp +contextual [-Bool.exists_bool, -Int.not_le, -Int.not_lt, -getElem?_pos, -List.getD_eq_getElem?_getD, Tryz.f85]
  refine CallJ.pure (iMinimalCellW c.1 c.2 hl20) rfl (by simp [-Bool.exists_bool, -Int.not_le, -Int.not_lt, -getElem?_pos, -List.getD_eq_getElem?_getD]) ?_
  have ho : (minD c.1 c.2).2.2 = true → (minD c.1 c.2).1 = c.1 ∧ isCe c.1 (minD c.1 c.2).2.1 = true ∧ NF c.1 (minD c.1 c.2).2.1 := minD_ok
  unfold aOut
  generalize minD c.1 c.2 = m at ho ⊢
  obtain ⟨m1, m2, m3⟩ := m
  simp only at ho ⊢
  simp -implicitDefEqProofs -dsimp +contextual [-Bool.exists_bool, -Int.not_le, -Int.not_lt, -getElem?_pos, -List.getD_eq_getElem?_getD]
  have same : ∀ {b : Bool}, RLm Tryz.prog aA (setH (8, 0) (some (Ent.box [V.d (D.int IntKind.i64 m1), V.d (D.sl m2.length (asD m2))])) (setH (8, 0) (some (Ent.box [V.d (D.int IntKind.i64 0), V.nil])) (setH (1, 0) (some (Ent.box [I c.fst, As c.snd])) (aH d cs)))) (B b) (B b) (aH d cs) := fun {b} => by
    refine RLm.told ?_ ?_ ?_
    · simp [-Bool.exists_bool, -Int.not_le, -Int.not_lt, -getElem?_pos, -List.getD_eq_getElem?_getD]
    · simp [-Bool.exists_bool, -Int.not_le, -Int.not_lt, -getElem?_pos, -List.getD_eq_getElem?_getD, allK]
    · simp [-Bool.exists_bool, -Int.not_le, -Int.not_lt, -getElem?_pos, -List.getD_eq_getElem?_getD, okKey, allKE, allKs, allK, aA]
  refine ⟨fun hf => ?_, fun hf => same⟩
  obtain ⟨rfl, o2, o3⟩ := ho hf
  refine CallJ.pure (iEmptyForm c.1 m2 (isCe_l o2) (isCe_a o2)) rfl (by simp [-Bool.exists_bool, -Int.not_le, -Int.not_lt, -getElem?_pos, -List.getD_eq_getElem?_getD]) ?_
  simp -implicitDefEqProofs -dsimp +contextual [-Bool.exists_bool, -Int.not_le, -Int.not_lt, -getElem?_pos, -List.getD_eq_getElem?_getD]
  refine ⟨fun h1 => ?_, fun h1 => ⟨fun h2 => ?_, fun h2 => ?_⟩⟩
  · rw [if_pos hf]; exact same
  · rw [if_pos hf, if_neg (by omega)]; exact same
  · rw [if_pos hf, if_pos (by omega)]
    refine ⟨⟨by omega, by simp [-Bool.exists_bool, -Int.not_le, -Int.not_lt, -getElem?_pos, -List.getD_eq_getElem?_getD, maxLen]; omega⟩, by kernel_rfl, ?_⟩
    refine RLm.told1 28 (by omega) ?_ ?_ ?_
    · simp [-Bool.exists_bool, -Int.not_le, -Int.not_lt, -getElem?_pos, -List.getD_eq_getElem?_getD]
    · simp [-Bool.exists_bool, -Int.not_le, -Int.not_lt, -getElem?_pos, -List.getD_eq_getElem?_getD, allK]
    · simp [-Bool.exists_bool, -Int.not_le, -Int.not_lt, -getElem?_pos, -List.getD_eq_getElem?_getD, okKey, allKE, allKs, allK, aA, inv1, setH, csD_append, csD_cons, cD]
def upAdd (kb kr : Key) (s : Nat) (d : Int) (x : List Ce) : Key → Option (Option Ent) := fun k => if k = (s, 0) then some (some (.row 26 x.length (dl (csD x)))) else if k = kb then some (some (.box [I d, .ref (s, 0) x.length])) else if k = kr then some none else none
def upSm (kb kr : Key) (d : Int) (x : List Ce) : Key → Option (Option Ent) := fun k => if k = kb then some (some (.box [I d, .ref kr x.length])) else if k = kr then some (some (.row 26 x.length (dl (csD x)))) else none
theorem app_upAdd (kb kr : Key) (s : Nat) (d : Int) (x : List Ce) (H : Store) : app (upAdd kb kr s d x) H = setH (s, 0) (some (.row 26 x.length (dl (csD x)))) (setH kb (some (.box [I d, .ref (s, 0) x.length])) (setH kr none H)) := by
  funext k
  unfold app upAdd setH
  by_cases h1 : k = (s, 0)
  · simp only [if_pos h1]
  · by_cases h2 : k = kb
    · simp only [if_neg h1, if_pos h2]
    · by_cases h3 : k = kr
      · simp only [if_neg h1, if_neg h2, if_pos h3]
      · simp only [if_neg h1, if_neg h2, if_neg h3]
theorem app_upSm (kb kr : Key) (d : Int) (x : List Ce) (H : Store) : app (upSm kb kr d x) H = setH kb (some (.box [I d, .ref kr x.length])) (setH kr (some (.row 26 x.length (dl (csD x)))) H) := by
  funext k
  unfold app upSm setH
  by_cases h2 : k = kb
  · simp only [if_pos h2]
  · by_cases h3 : k = kr
    · simp only [if_neg h2, if_pos h3]
    · simp only [if_neg h2, if_neg h3]
attribute [simp] app_upAdd app_upSm
theorem callAdd {N nx s : Nat} {H : Store} {K : Eff → Prop} (kb kr : Key) (d : Int) (cs : List Ce) (c : Ce) (hl20 : c.2.length ≤ 1048576) (h12 : cs.length ≤ 12) (hb : H kb = some (.box [I d, .ref kr cs.length])) (hr : H kr = some (.row 26 cs.length (dl (csD cs)))) (hne : kb ≠ kr) (hn : kb.1 < nx ∧ kr.1 < nx) (hs : kb.1 ≠ s ∧ kr.1 ≠ s)
    (k0 : addC cs c = none → K ⟨B false, [kb, kr], [kb, kr], upSm kb kr d cs⟩) (k1 : addC cs c = some cs → K ⟨B true, [kb, kr], [kb, kr], upSm kb kr d cs⟩) (k2 : ∀ x, addC cs c = some x → x.length = cs.length + 1 → K ⟨B true, [kb, kr], [kb, kr], upAdd kb kr s d x⟩) :
    CallJ Tryz.prog N nx s H 85 [.ptr kb 0, C1 c.1 c.2] K := by
  have base : ∀ {r : Bool} {Hr : Store}, Cm Tryz.prog 85 aA [.ptr (0, 1) 0, C1 c.1 c.2] (aH d cs) (B r) Hr → (∀ k e, Hr k = some e → k.1 < 2 ∧ (k.1 = 0 → (aH d cs k).isSome = true)) → K ⟨B r, [kb, kr], [kb, kr], upMut (fun j => if j = 0 then kb else kr) (fun k => if k = kb then some 0 else if k = kr then some 1 else none) s Hr⟩ → CallJ Tryz.prog N nx s H 85 [.ptr kb 0, C1 c.1 c.2] K := fun {r Hr} hm h2 hk => by
    refine CallJ.mut (fun j => if j = 0 then kb else kr) (fun k => if k = kb then some 0 else if k = kr then some 1 else none) [kb, kr] [] hm ?_ ?_ ?_ ?_ ?_ ?_ h2 ?_ (by simpa [-Bool.exists_bool, -Int.not_le, -Int.not_lt, -getElem?_pos, -List.getD_eq_getElem?_getD] using hk)
    · simp [-Bool.exists_bool, -Int.not_le, -Int.not_lt, -getElem?_pos, -List.getD_eq_getElem?_getD, gk]
    · simp [-Bool.exists_bool, -Int.not_le, -Int.not_lt, -getElem?_pos, -List.getD_eq_getElem?_getD, allKs, allK, aA]
    · rintro k (rfl | rfl)
      · simp [-Bool.exists_bool, -Int.not_le, -Int.not_lt, -getElem?_pos, -List.getD_eq_getElem?_getD, hb]
      · simp [-Bool.exists_bool, -Int.not_le, -Int.not_lt, -getElem?_pos, -List.getD_eq_getElem?_getD, hr]
    · intro k e h
      have h := hl_mem h
      simp [-Bool.exists_bool, -Int.not_le, -Int.not_lt, -getElem?_pos, -List.getD_eq_getElem?_getD] at h
      rcases h with ⟨rfl, rfl⟩ | ⟨rfl, rfl⟩
      · simp [-Bool.exists_bool, -Int.not_le, -Int.not_lt, -getElem?_pos, -List.getD_eq_getElem?_getD, aA, hb, mapE, allKE, allKs, allK, gk]
      · simp [-Bool.exists_bool, -Int.not_le, -Int.not_lt, -getElem?_pos, -List.getD_eq_getElem?_getD, aA, hr, mapE, allKE, allKs, allK, gk, hne.symm]
    · intro k j h
      split at h
      · rename_i e
        obtain rfl := Option.some.inj h
        simp [-Bool.exists_bool, -Int.not_le, -Int.not_lt, -getElem?_pos, -List.getD_eq_getElem?_getD, e]
      · split at h
        · rename_i e1 e2
          obtain rfl := Option.some.inj h
          simp [-Bool.exists_bool, -Int.not_le, -Int.not_lt, -getElem?_pos, -List.getD_eq_getElem?_getD, e2]
        · cases h
    · simp [-Bool.exists_bool, -Int.not_le, -Int.not_lt, -getElem?_pos, -List.getD_eq_getElem?_getD, hne.symm]
    · simp [-Bool.exists_bool, -Int.not_le, -Int.not_lt, -getElem?_pos, -List.getD_eq_getElem?_getD, hb, hr, hn]
  have um : ∀ k, upMut (fun j => if j = 0 then kb else kr) (fun k => if k = kb then some 0 else if k = kr then some 1 else none) s (aH d cs) k = upSm kb kr d cs k := fun k => by
    unfold upMut upSm
    split
    · rename_i hks
      have n1 : k ≠ kb := fun e => hs.1 (by rw [← e]; exact hks)
      have n2 : k ≠ kr := fun e => hs.2 (by rw [← e]; exact hks)
      simp [-Bool.exists_bool, -Int.not_le, -Int.not_lt, -getElem?_pos, -List.getD_eq_getElem?_getD, n1, n2, hks]
    · by_cases e1 : k = kb
      · simp only [if_pos e1]; simp [-Bool.exists_bool, -Int.not_le, -Int.not_lt, -getElem?_pos, -List.getD_eq_getElem?_getD, mapE, gk]
      · by_cases e2 : k = kr
        · simp only [if_neg e1, if_pos e2]; simp [-Bool.exists_bool, -Int.not_le, -Int.not_lt, -getElem?_pos, -List.getD_eq_getElem?_getD, mapE, gk]
        · simp only [if_neg e1, if_neg e2]
  have ua : ∀ (x : List Ce) k, upMut (fun j => if j = 0 then kb else kr) (fun k => if k = kb then some 0 else if k = kr then some 1 else none) s (aN d x) k = upAdd kb kr s d x k := fun x k => by
    unfold upMut upAdd
    obtain ⟨a, b⟩ := k
    split
    · rename_i hks
      simp only at hks
      subst hks
      have n1 : (a, b) ≠ kb := fun e => hs.1 (by rw [← e])
      have n2 : (a, b) ≠ kr := fun e => hs.2 (by rw [← e])
      by_cases hb0 : b = 0
      · subst hb0; simp [-Bool.exists_bool, -Int.not_le, -Int.not_lt, -getElem?_pos, -List.getD_eq_getElem?_getD, mapE]
      · simp [-Bool.exists_bool, -Int.not_le, -Int.not_lt, -getElem?_pos, -List.getD_eq_getElem?_getD, n1, n2, hb0]
    · rename_i hks
      simp only at hks
      have e0 : ¬ (a, b) = (s, 0) := fun e => hks (by injection e)
      by_cases e1 : (a, b) = kb
      · simp only [if_neg e0, if_pos e1]; simp [-Bool.exists_bool, -Int.not_le, -Int.not_lt, -getElem?_pos, -List.getD_eq_getElem?_getD, mapE, gk]
      · by_cases e2 : (a, b) = kr
        · simp only [if_neg e0, if_neg e1, if_pos e2]; simp [-Bool.exists_bool, -Int.not_le, -Int.not_lt, -getElem?_pos, -List.getD_eq_getElem?_getD]
        · simp only [if_neg e0, if_neg e1, if_neg e2]
  have hmain := addCell d cs c hl20 h12
  cases hq : addC cs c with
  | none =>
    rw [aOut_none hq] at hmain
    refine base hmain (fun k e h => ?_) (by rw [funext um]; exact k0 hq)
    have h := hl_mem h
    simp [-Bool.exists_bool, -Int.not_le, -Int.not_lt, -getElem?_pos, -List.getD_eq_getElem?_getD] at h
    rcases h with ⟨rfl, rfl⟩ | ⟨rfl, rfl⟩ <;> simp [-Bool.exists_bool, -Int.not_le, -Int.not_lt, -getElem?_pos, -List.getD_eq_getElem?_getD]
  | some x =>
    rcases aOut_some hq with ⟨rfl, e⟩ | ⟨hx, e⟩
    · rw [e] at hmain
      refine base hmain (fun k e h => ?_) (by rw [funext um]; exact k1 hq)
      have h := hl_mem h
      simp [-Bool.exists_bool, -Int.not_le, -Int.not_lt, -getElem?_pos, -List.getD_eq_getElem?_getD] at h
      rcases h with ⟨rfl, rfl⟩ | ⟨rfl, rfl⟩ <;> simp [-Bool.exists_bool, -Int.not_le, -Int.not_lt, -getElem?_pos, -List.getD_eq_getElem?_getD]
    · rw [e] at hmain
      refine base hmain (fun k e h => ?_) (by rw [funext (ua x)]; exact k2 x hq hx)
      have h := hl_mem h
      simp [-Bool.exists_bool, -Int.not_le, -Int.not_lt, -getElem?_pos, -List.getD_eq_getElem?_getD] at h
      rcases h with ⟨rfl, rfl⟩ | ⟨rfl, rfl⟩ <;> simp [-Bool.exists_bool, -Int.not_le, -Int.not_lt, -getElem?_pos, -List.getD_eq_getElem?_getD]
theorem neatF (c : Ce) : Cn Tryz.prog 76 [C1 c.1 c.2] (D2 (c.1, c.2, true)) hemp := by
  refine Cn.of [] mixed Tryz.func76 rfl Tryz.call76 (by kernel_rfl) rfl ?_
  simp -implicitDefEqProofs -dsimp +contextual [-Bool.exists_bool, -Int.not_le, -Int.not_lt, -getElem?_pos, -List.getD_eq_getElem?_getD, Tryz.f76]
  exact RLe.pure 3 (by simp [-Bool.exists_bool, -Int.not_le, -Int.not_lt, -getElem?_pos, -List.getD_eq_getElem?_getD])
theorem mapCells (d : Int) (L : List Ce) (h12 : L.length ≤ 12) (hok : ∀ c ∈ L, okC d c) : Cn Tryz.prog 75 [R1 d L, .fn 76 []] (RD (optR d (neatGo L []))) hemp := by
  refine Cn.of [] mixed Tryz.func75 rfl Tryz.call75 (by kernel_rfl) rfl ?_
  simp -implicitDefEqProofs -dsimp +contextual [-Bool.exists_bool, -Int.not_le, -Int.not_lt, -getElem?_pos, -List.getD_eq_getElem?_getD, Tryz.f75]
  refine WP.loop mixed [] (fun p : Nat × List Ce => ⟨tl [(1, .fn 76 []), (4, .ptr (1, 0) 0), (6, .ptr (2, 0) 0), (16, Cs L), (17, I L.length), (18, I p.1)], hl [((1, 0), .box [I 0, .nil]), ((2, 0), .box [I d, .ref (3, 0) p.2.length]), ((3, 0), .row 26 p.2.length (dl (csD p.2)))], 4⟩) (fun p => p.1 ≤ L.length ∧ okCs d p.2 ∧ neatGo L [] = neatGo (L.drop p.1) p.2) (fun p => L.length - p.1) (0, []) (by kernel_rfl) ?_ ?_ ?_
  · refine Le.trans (Le.nilBox (7, 0) 1 26 (c := [I d, .nil]) (by simp [-Bool.exists_bool, -Int.not_le, -Int.not_lt, -getElem?_pos, -List.getD_eq_getElem?_getD, setH]) rfl) (Le.told [((1, 0), (1, 0)), ((2, 0), (7, 0)), ((3, 0), (13, 0))] ?_ ?_ ?_) <;> simp [-Bool.exists_bool, -Int.not_le, -Int.not_lt, -getElem?_pos, -List.getD_eq_getElem?_getD, setH, ELe]
  · exact ⟨Nat.zero_le _, ⟨by simp [-Bool.exists_bool, -Int.not_le, -Int.not_lt, -getElem?_pos, -List.getD_eq_getElem?_getD], by simp [-Bool.exists_bool, -Int.not_le, -Int.not_lt, -getElem?_pos, -List.getD_eq_getElem?_getD]⟩, rfl⟩
  · rintro ⟨i, acc⟩ ⟨hi, ha, he⟩
    simp only at hi ha he
    by_cases h : i < L.length
    · have hcc := hok _ (nth_mem h)
      rw [nth_drop h, neatGo] at he
      simp -implicitDefEqProofs -dsimp +contextual [-Bool.exists_bool, -Int.not_le, -Int.not_lt, -getElem?_pos, -List.getD_eq_getElem?_getD, h]
      refine CallJ.pure (neatF (nth L i)) rfl (by simp [-Bool.exists_bool, -Int.not_le, -Int.not_lt, -getElem?_pos, -List.getD_eq_getElem?_getD]) ?_
      simp -implicitDefEqProofs -dsimp +contextual [-Bool.exists_bool, -Int.not_le, -Int.not_lt, -getElem?_pos, -List.getD_eq_getElem?_getD, h]
      refine callAdd (2, 0) (3, 0) d acc (nth L i) (by have := okC_len hcc; omega) ha.1 (by simp [-Bool.exists_bool, -Int.not_le, -Int.not_lt, -getElem?_pos, -List.getD_eq_getElem?_getD, setH]) (by simp [-Bool.exists_bool, -Int.not_le, -Int.not_lt, -getElem?_pos, -List.getD_eq_getElem?_getD, setH]) (by simp [-Bool.exists_bool, -Int.not_le, -Int.not_lt, -getElem?_pos, -List.getD_eq_getElem?_getD]) (by simp [-Bool.exists_bool, -Int.not_le, -Int.not_lt, -getElem?_pos, -List.getD_eq_getElem?_getD]) (by simp [-Bool.exists_bool, -Int.not_le, -Int.not_lt, -getElem?_pos, -List.getD_eq_getElem?_getD]) ?_ ?_ ?_
      · intro hq
        simp -implicitDefEqProofs -dsimp +contextual [-Bool.exists_bool, -Int.not_le, -Int.not_lt, -getElem?_pos, -List.getD_eq_getElem?_getD, h]
        rw [hq, Option.bind_none] at he
        exact RLe.pure 2 (by rw [he]; simp [-Bool.exists_bool, -Int.not_le, -Int.not_lt, -getElem?_pos, -List.getD_eq_getElem?_getD, optR, csD])
      · intro hq
        simp -implicitDefEqProofs -dsimp +contextual [-Bool.exists_bool, -Int.not_le, -Int.not_lt, -getElem?_pos, -List.getD_eq_getElem?_getD, h]
        rw [hq, Option.bind_some] at he
        refine ⟨i + 1, acc, ⟨h, ha, he⟩, by omega, ?_⟩
        rw [wr (by omega) (by omega)]
        refine Le.told [] ?_ ?_ ?_ <;> simp [-Bool.exists_bool, -Int.not_le, -Int.not_lt, -getElem?_pos, -List.getD_eq_getElem?_getD]
      · intro x hq hx
        simp -implicitDefEqProofs -dsimp +contextual [-Bool.exists_bool, -Int.not_le, -Int.not_lt, -getElem?_pos, -List.getD_eq_getElem?_getD, h]
        rw [hq, Option.bind_some] at he
        refine ⟨i + 1, x, ⟨h, addC_ok hcc.1 ha hq, he⟩, by omega, ?_⟩
        rw [wr (by omega) (by omega)]
        refine Le.told [((3, 0), (22, 0))] ?_ ?_ ?_ <;> simp [-Bool.exists_bool, -Int.not_le, -Int.not_lt, -getElem?_pos, -List.getD_eq_getElem?_getD]
    · rw [drop_nil (by omega), neatGo] at he
      simp -implicitDefEqProofs -dsimp +contextual [-Bool.exists_bool, -Int.not_le, -Int.not_lt, -getElem?_pos, -List.getD_eq_getElem?_getD, h]
      exact RLe.pure 3 (by rw [he]; simp [-Bool.exists_bool, -Int.not_le, -Int.not_lt, -getElem?_pos, -List.getD_eq_getElem?_getD, optR])
theorem iNeatRegion (d : Int) (L : List Ce) (h20 : L.length ≤ 1048576) (hc : ∀ c ∈ L, c.2.length ≤ 1048576) : Cn Tryz.prog 28 [R1 d L] (RD (neatD d L)) hemp := by
  refine Cn.of [] mixed Tryz.func28 rfl Tryz.call28 (by kernel_rfl) rfl ?_
  simp -implicitDefEqProofs -dsimp +contextual [-Bool.exists_bool, -Int.not_le, -Int.not_lt, -getElem?_pos, -List.getD_eq_getElem?_getD, Tryz.f28]
  refine CallJ.pure (iIsRegion d L h20 hc) rfl (by simp [-Bool.exists_bool, -Int.not_le, -Int.not_lt, -getElem?_pos, -List.getD_eq_getElem?_getD]) ?_
  simp -implicitDefEqProofs -dsimp +contextual [-Bool.exists_bool, -Int.not_le, -Int.not_lt, -getElem?_pos, -List.getD_eq_getElem?_getD]
  refine ⟨fun hr => ?_, fun hr => RLe.pure 2 (by simp [-Bool.exists_bool, -Int.not_le, -Int.not_lt, -getElem?_pos, -List.getD_eq_getElem?_getD, neatD, hr, csD])⟩
  obtain ⟨hd, h12, hok⟩ := isRe_ok hr
  rw [neatD, if_pos hr]
  refine CallJ.pure (mapCells d L h12 hok) rfl (by simp [-Bool.exists_bool, -Int.not_le, -Int.not_lt, -getElem?_pos, -List.getD_eq_getElem?_getD]) ?_
  generalize optR d (neatGo L []) = q
  obtain ⟨q1, q2, q3⟩ := q
  simp -implicitDefEqProofs -dsimp +contextual [-Bool.exists_bool, -Int.not_le, -Int.not_lt, -getElem?_pos, -List.getD_eq_getElem?_getD]
  exact RLe.pure 3 (by simp [-Bool.exists_bool, -Int.not_le, -Int.not_lt, -getElem?_pos, -List.getD_eq_getElem?_getD])
end Go.Proofs.YtjknjekemolndaaGreat.ZL
namespace Go.Proofs.YtjknjekemolndaaGreat.ZL
open Go Go.Proofs.YtjknjekemolndaaGreat.Abs Go.Proofs.YtjknjekemolndaaGreat.Abs.Pl Go.RowKit Go.Proofs
set_option linter.unusedVariables false
set_option linter.unusedSimpArgs false
set_option maxRecDepth 100000
theorem iWithout (d : Int) (cs : List Ce) (x : List At) (hx2 : isCe d x = true) (hs : okCs d cs) : Cn Tryz.prog 115 [R1 d cs, C1 d x] (RD (optR d (lessOut d x cs []))) hemp := by
  refine Cn.of [0] mixed Tryz.func115 rfl Tryz.call115 (by kernel_rfl) rfl ?_
  have hd := isCe_d hx2
  have hlen := isCe_l hx2
  have hx := isCe_a hx2
  simp -implicitDefEqProofs -dsimp +contextual [-Bool.exists_bool, -Int.not_le, -Int.not_lt, -getElem?_pos, -List.getD_eq_getElem?_getD, Tryz.f115]
  refine WP.loop mixed [0] (fun p : Nat × List Ce => ⟨tl [(2, .ptr (0, 0) 0), (3, .ptr (1, 0) 0), (4, .ptr (2, 0) 0), (6, .ptr (3, 0) 0), (20, Cs cs), (21, I cs.length), (22, I p.1)], hl [((0, 0), .box [I d, Cs cs]), ((1, 0), .box [I d, As x]), ((2, 0), .box [I 0, .nil]), ((3, 0), .box [I d, .ref (4, 0) p.2.length]), ((4, 0), .row 26 p.2.length (dl (csD p.2)))], 5⟩) (fun p => p.1 ≤ cs.length ∧ okCs d p.2 ∧ lessOut d x cs [] = lessOut d x (cs.drop p.1) p.2) (fun p => cs.length - p.1) (0, []) (by kernel_rfl) ?_ ?_ ?_
  · refine Le.trans (Le.nilBox (8, 0) 1 26 (c := [I d, .nil]) (by simp [-Bool.exists_bool, -Int.not_le, -Int.not_lt, -getElem?_pos, -List.getD_eq_getElem?_getD, setH]) rfl) (Le.told [((3, 0), (8, 0)), ((4, 0), (14, 0))] ?_ ?_ ?_) <;> simp [-Bool.exists_bool, -Int.not_le, -Int.not_lt, -getElem?_pos, -List.getD_eq_getElem?_getD, setH, ELe]
  · exact ⟨Nat.zero_le _, ⟨by simp [-Bool.exists_bool, -Int.not_le, -Int.not_lt, -getElem?_pos, -List.getD_eq_getElem?_getD], by simp [-Bool.exists_bool, -Int.not_le, -Int.not_lt, -getElem?_pos, -List.getD_eq_getElem?_getD]⟩, rfl⟩
  · rintro ⟨i, acc⟩ ⟨hi, ha, he⟩
    simp only at hi ha he
    by_cases h : i < cs.length
    · have h12 := hs.1
      have hcc := hs.2 _ (nth_mem h)
      rw [nth_drop h, lessOut] at he
      simp -implicitDefEqProofs -dsimp +contextual [-Bool.exists_bool, -Int.not_le, -Int.not_lt, -getElem?_pos, -List.getD_eq_getElem?_getD, h]
      refine WP.loop mixed [0] (fun p : Nat × List Ce => ⟨tl [(2, .ptr (0, 0) 0), (3, .ptr (1, 0) 0), (4, .ptr (2, 0) 0), (6, .ptr (3, 0) 0), (8, .ptr (5, 0) 0), (20, Cs cs), (21, I cs.length), (22, I i), (27, As x), (28, I x.length), (29, I p.1)], hl [((0, 0), .box [I d, Cs cs]), ((1, 0), .box [I d, As x]), ((2, 0), .box [I 0, .nil]), ((3, 0), .box [I d, .ref (4, 0) p.2.length]), ((4, 0), .row 26 p.2.length (dl (csD p.2))), ((5, 0), .box (cV (nth cs i)))], 6⟩) (fun p => p.1 ≤ x.length ∧ okCs d p.2 ∧ lessOut d x cs [] = (lessIn d (nth cs i) x (x.length - p.1) p.2).bind (lessOut d x (cs.drop (i + 1)))) (fun p => x.length - p.1) (0, acc) (by kernel_rfl) ?_ ?_ ?_
      · refine Le.told [((5, 0), (8, 0))] ?_ ?_ ?_ <;> simp [-Bool.exists_bool, -Int.not_le, -Int.not_lt, -getElem?_pos, -List.getD_eq_getElem?_getD, setH]
      · exact ⟨Nat.zero_le _, ha, by rw [he]; rfl⟩
      · rintro ⟨k, ac⟩ ⟨hk, hac, hek⟩
        simp only at hk hac hek
        by_cases hkl : k < x.length
        · simp -implicitDefEqProofs -dsimp +contextual [-Bool.exists_bool, -Int.not_le, -Int.not_lt, -getElem?_pos, -List.getD_eq_getElem?_getD, h, hkl]
          have hna : negAt (nth x k).1 (nth x k).2.1 (nth x k).2.2 = ((negA (nth x k)).1, (negA (nth x k)).2.1, (negA (nth x k)).2.2, true) := by rw [negAt, if_pos (hx _ (nth_mem hkl)).1]; rfl
          have hN := iNegateAtom (nth x k)
          rw [hna] at hN
          refine CallJ.pure hN rfl (by simp [-Bool.exists_bool, -Int.not_le, -Int.not_lt, -getElem?_pos, -List.getD_eq_getElem?_getD]) ?_
          simp -implicitDefEqProofs -dsimp +contextual [-Bool.exists_bool, -Int.not_le, -Int.not_lt, -getElem?_pos, -List.getD_eq_getElem?_getD, h, hkl]
          have hmin : min k x.length = k := by omega
          refine ⟨by omega, ⟨by omega, by omega, by simp [-Bool.exists_bool, -Int.not_le, -Int.not_lt, -getElem?_pos, -List.getD_eq_getElem?_getD, maxLen]; omega⟩, ⟨by omega, by simp [-Bool.exists_bool, -Int.not_le, -Int.not_lt, -getElem?_pos, -List.getD_eq_getElem?_getD, maxLen]; omega⟩, Quiet.of [2] (by kernel_rfl) (by simp [-Bool.exists_bool, -Int.not_le, -Int.not_lt, -getElem?_pos, -List.getD_eq_getElem?_getD, allP, offB]), Quiet.of [] (by kernel_rfl) (by simp [-Bool.exists_bool, -Int.not_le, -Int.not_lt, -getElem?_pos, -List.getD_eq_getElem?_getD, allP, offB]), ?_⟩
          have hpl : (x.take k ++ [negA (nth x k)]).length = k + 1 := by simp [-Bool.exists_bool, -Int.not_le, -Int.not_lt, -getElem?_pos, -List.getD_eq_getElem?_getD]; omega
          have hpd : asD (x.take k ++ [negA (nth x k)]) = asD (x.take k) ++ [D.sl (negA (nth x k)).1.length ((negA (nth x k)).1.map (D.int IntKind.i64)), D.int IntKind.i64 (negA (nth x k)).2.1, D.bool (negA (nth x k)).2.2] := by rw [asD_append]; simp [-Bool.exists_bool, -Int.not_le, -Int.not_lt, -getElem?_pos, -List.getD_eq_getElem?_getD, asD, aD]
          have hM := iMeetCellsW (nth cs i) (partC d x k) (by have := okC_len hcc; omega) (by show (x.take k ++ [negA (nth x k)]).length ≤ 1048576; omega)
          have hmo := meetC_ok (a := nth cs i) (b := partC d x k)
          obtain ⟨n, hn⟩ : ∃ n, x.length - k = n + 1 := ⟨x.length - k - 1, by omega⟩
          have hkn : x.length - (n + 1) = k := by omega
          rw [hn, lessIn, hkn] at hek
          have hkn2 : n = x.length - (k + 1) := by omega
          generalize hgen : meetC (nth cs i) (partC d x k) = q at hM hmo hek
          obtain ⟨q1, q2, q3⟩ := q
          simp only at hmo hek
          refine CallJ.frz (t := 66) (n := k + 1) (c := dl (asD (x.take k ++ [negA (nth x k)]))) (c' := asD (x.take k ++ [negA (nth x k)])) (33, 0) hM (by simp [-Bool.exists_bool, -Int.not_le, -Int.not_lt, -getElem?_pos, -List.getD_eq_getElem?_getD, setH, hpd]) (dl_asDs _) (ks := [(33, 0)]) (by simp [-Bool.exists_bool, -Int.not_le, -Int.not_lt, -getElem?_pos, -List.getD_eq_getElem?_getD, lendVs, lendV, setH, partC, hpl, hmin]) (by simp [-Bool.exists_bool, -Int.not_le, -Int.not_lt, -getElem?_pos, -List.getD_eq_getElem?_getD]) ?_
          simp -implicitDefEqProofs -dsimp +contextual [-Bool.exists_bool, -Int.not_le, -Int.not_lt, -getElem?_pos, -List.getD_eq_getElem?_getD, h, hkl]
          refine ⟨fun hq => ?_, fun hq => ?_⟩
          · rw [if_pos hq] at hek
            obtain ⟨rfl, hq2⟩ := hmo hq
            rw [hcc.1] at hq2
            have hqc : okC d ((nth cs i).1, q2) := ⟨hcc.1, hq2⟩
            refine callAdd (3, 0) (4, 0) d ac ((nth cs i).1, q2) (by have := isCe_l hq2; show q2.length ≤ 1048576; omega) hac.1 (by simp [-Bool.exists_bool, -Int.not_le, -Int.not_lt, -getElem?_pos, -List.getD_eq_getElem?_getD, setH]) (by simp [-Bool.exists_bool, -Int.not_le, -Int.not_lt, -getElem?_pos, -List.getD_eq_getElem?_getD, setH]) (by simp [-Bool.exists_bool, -Int.not_le, -Int.not_lt, -getElem?_pos, -List.getD_eq_getElem?_getD]) (by simp [-Bool.exists_bool, -Int.not_le, -Int.not_lt, -getElem?_pos, -List.getD_eq_getElem?_getD]) (by simp [-Bool.exists_bool, -Int.not_le, -Int.not_lt, -getElem?_pos, -List.getD_eq_getElem?_getD]) ?_ ?_ ?_
            · intro ha
              simp -implicitDefEqProofs -dsimp +contextual [-Bool.exists_bool, -Int.not_le, -Int.not_lt, -getElem?_pos, -List.getD_eq_getElem?_getD, h, hkl, hq]
              rw [ha, Option.bind_none, Option.bind_none] at hek
              exact RLe.pure 2 (by rw [hek]; simp [-Bool.exists_bool, -Int.not_le, -Int.not_lt, -getElem?_pos, -List.getD_eq_getElem?_getD, optR, csD])
            · intro ha
              simp -implicitDefEqProofs -dsimp +contextual [-Bool.exists_bool, -Int.not_le, -Int.not_lt, -getElem?_pos, -List.getD_eq_getElem?_getD, h, hkl, hq]
              rw [ha, Option.bind_some, hkn2] at hek
              refine ⟨k + 1, ac, ⟨hkl, hac, hek⟩, by omega, ?_⟩
              rw [wr (by omega) (by omega)]
              refine Le.told [] ?_ ?_ ?_ <;> simp [-Bool.exists_bool, -Int.not_le, -Int.not_lt, -getElem?_pos, -List.getD_eq_getElem?_getD]
            · intro y ha hy
              simp -implicitDefEqProofs -dsimp +contextual [-Bool.exists_bool, -Int.not_le, -Int.not_lt, -getElem?_pos, -List.getD_eq_getElem?_getD, h, hkl, hq]
              rw [ha, Option.bind_some, hkn2] at hek
              refine ⟨k + 1, y, ⟨hkl, addC_ok hqc.1 hac ha, hek⟩, by omega, ?_⟩
              rw [wr (by omega) (by omega)]
              refine Le.told [((4, 0), (50, 0))] ?_ ?_ ?_ <;> simp [-Bool.exists_bool, -Int.not_le, -Int.not_lt, -getElem?_pos, -List.getD_eq_getElem?_getD]
          · rw [if_neg (by simp [-Bool.exists_bool, -Int.not_le, -Int.not_lt, -getElem?_pos, -List.getD_eq_getElem?_getD, hq]), Option.bind_none] at hek
            exact RLe.pure 2 (by rw [hek]; simp [-Bool.exists_bool, -Int.not_le, -Int.not_lt, -getElem?_pos, -List.getD_eq_getElem?_getD, optR, csD])
        · rw [show x.length - k = 0 by omega, lessIn, Option.bind_some] at hek
          simp -implicitDefEqProofs -dsimp +contextual [-Bool.exists_bool, -Int.not_le, -Int.not_lt, -getElem?_pos, -List.getD_eq_getElem?_getD, h, hkl]
          refine ⟨i + 1, ac, ⟨h, hac, hek⟩, by omega, ?_⟩
          rw [wr (by omega) (by omega)]
          refine Le.told [] ?_ ?_ ?_ <;> simp [-Bool.exists_bool, -Int.not_le, -Int.not_lt, -getElem?_pos, -List.getD_eq_getElem?_getD]
    · rw [drop_nil (by omega), lessOut] at he
      simp -implicitDefEqProofs -dsimp +contextual [-Bool.exists_bool, -Int.not_le, -Int.not_lt, -getElem?_pos, -List.getD_eq_getElem?_getD, h]
      exact RLe.pure 3 (by rw [he]; simp [-Bool.exists_bool, -Int.not_le, -Int.not_lt, -getElem?_pos, -List.getD_eq_getElem?_getD, optR])
theorem iDifferenceOf (d : Int) (A : List Ce) (e : Int) (B : List Ce) (hA : A.length ≤ 1048576) (hAc : ∀ c ∈ A, c.2.length ≤ 1048576) (hB : B.length ≤ 1048576) (hBc : ∀ c ∈ B, c.2.length ≤ 1048576) : Cn Tryz.prog 67 [R1 d A, R1 e B] (RD (diffD d A e B)) hemp := by
  refine Cn.of [0] mixed Tryz.func67 rfl Tryz.call67 (by kernel_rfl) rfl ?_
  simp -implicitDefEqProofs -dsimp +contextual [-Bool.exists_bool, -Int.not_le, -Int.not_lt, -getElem?_pos, -List.getD_eq_getElem?_getD, Tryz.f67]
  have no : ∀ {H : Store}, diffD d A e B = (0, [], false) → RLe Tryz.prog H (V.tup [V.agg [V.d (D.int IntKind.i64 0), V.nil], V.d (D.bool false)]) (RD (diffD d A e B)) hemp := fun h => by
    rw [h]
    exact RLe.pure 2 (by simp [-Bool.exists_bool, -Int.not_le, -Int.not_lt, -getElem?_pos, -List.getD_eq_getElem?_getD, csD])
  refine CallJ.pure (iIsRegion d A hA hAc) rfl (by simp [-Bool.exists_bool, -Int.not_le, -Int.not_lt, -getElem?_pos, -List.getD_eq_getElem?_getD]) ?_
  simp -implicitDefEqProofs -dsimp +contextual [-Bool.exists_bool, -Int.not_le, -Int.not_lt, -getElem?_pos, -List.getD_eq_getElem?_getD]
  refine ⟨fun h1 => ?_, fun h1 => no (by rw [diffD, if_neg (by simp [-Bool.exists_bool, -Int.not_le, -Int.not_lt, -getElem?_pos, -List.getD_eq_getElem?_getD, h1])])⟩
  refine CallJ.pure (iIsRegion e B hB hBc) rfl (by simp [-Bool.exists_bool, -Int.not_le, -Int.not_lt, -getElem?_pos, -List.getD_eq_getElem?_getD]) ?_
  simp -implicitDefEqProofs -dsimp +contextual [-Bool.exists_bool, -Int.not_le, -Int.not_lt, -getElem?_pos, -List.getD_eq_getElem?_getD, h1]
  refine ⟨fun h2 => ⟨fun h3 => ?_, fun h3 => no (by rw [diffD, if_neg (fun h => h3 h.2.2)])⟩, fun h2 => no (by rw [diffD, if_neg (by simp [-Bool.exists_bool, -Int.not_le, -Int.not_lt, -getElem?_pos, -List.getD_eq_getElem?_getD, h2])])⟩
  subst h3
  obtain ⟨hd, h12, hok⟩ := isRe_ok h1
  obtain ⟨_, b12, bok⟩ := isRe_ok h2
  have hN := iNeatRegion d A hA hAc
  rw [neatD, if_pos h1] at hN
  cases hx : neatGo A [] with
  | none =>
    rw [hx] at hN
    refine CallJ.pure hN rfl (by simp [-Bool.exists_bool, -Int.not_le, -Int.not_lt, -getElem?_pos, -List.getD_eq_getElem?_getD]) ?_
    simp -implicitDefEqProofs -dsimp +contextual [-Bool.exists_bool, -Int.not_le, -Int.not_lt, -getElem?_pos, -List.getD_eq_getElem?_getD, optR, h1, h2]
    exact no (by rw [diffD, if_pos ⟨h1, h2, rfl⟩, hx]; rfl)
  | some x =>
    rw [hx] at hN
    have hxo := neatGo_ok hok ⟨by simp [-Bool.exists_bool, -Int.not_le, -Int.not_lt, -getElem?_pos, -List.getD_eq_getElem?_getD], by simp [-Bool.exists_bool, -Int.not_le, -Int.not_lt, -getElem?_pos, -List.getD_eq_getElem?_getD]⟩ hx
    have e0 : diffD d A d B = optR d (diffGo d B x) := by rw [diffD, if_pos ⟨h1, h2, rfl⟩, hx, Option.bind_some]
    rw [e0] at no ⊢
    refine CallJ.pure hN rfl (by simp [-Bool.exists_bool, -Int.not_le, -Int.not_lt, -getElem?_pos, -List.getD_eq_getElem?_getD]) ?_
    simp -implicitDefEqProofs -dsimp +contextual [-Bool.exists_bool, -Int.not_le, -Int.not_lt, -getElem?_pos, -List.getD_eq_getElem?_getD, optR, h1, h2]
    refine WP.loop mixed [0] (fun p : Nat × List Ce => ⟨tl [(3, .ptr (1, 0) 0), (4, .ptr (2, 0) 0), (6, .ptr (3, 0) 0), (37, Cs B), (38, I B.length), (39, I p.1)], hl [((1, 0), .box [I d, Cs B]), ((2, 0), .box [I 0, .nil]), ((3, 0), .box [I d, Cs p.2])], 4⟩) (fun p => p.1 ≤ B.length ∧ okCs d p.2 ∧ diffGo d B x = diffGo d (B.drop p.1) p.2) (fun p => B.length - p.1) (0, x) (by kernel_rfl) ?_ ?_ ?_
    · refine Le.told [((3, 0), (24, 0))] ?_ ?_ ?_ <;> simp [-Bool.exists_bool, -Int.not_le, -Int.not_lt, -getElem?_pos, -List.getD_eq_getElem?_getD, setH]
    · exact ⟨Nat.zero_le _, hxo, rfl⟩
    · rintro ⟨i, acc⟩ ⟨hi, ha, he⟩
      simp only at hi ha he
      by_cases h : i < B.length
      · have hcc := bok _ (nth_mem h)
        rw [nth_drop h, diffGo, lessD] at he
        simp -implicitDefEqProofs -dsimp +contextual [-Bool.exists_bool, -Int.not_le, -Int.not_lt, -getElem?_pos, -List.getD_eq_getElem?_getD, h]
        refine CallJ.pure (iMinimalCellW (nth B i).1 (nth B i).2 (by have := okC_len hcc; omega)) rfl (by simp [-Bool.exists_bool, -Int.not_le, -Int.not_lt, -getElem?_pos, -List.getD_eq_getElem?_getD]) ?_
        have ho : (minD (nth B i).1 (nth B i).2).2.2 = true → (minD (nth B i).1 (nth B i).2).1 = (nth B i).1 ∧ isCe (nth B i).1 (minD (nth B i).1 (nth B i).2).2.1 = true ∧ NF (nth B i).1 (minD (nth B i).1 (nth B i).2).2.1 := minD_ok
        unfold mC at he
        generalize minD (nth B i).1 (nth B i).2 = m at ho he ⊢
        obtain ⟨m1, m2, m3⟩ := m
        simp only at ho he ⊢
        simp -implicitDefEqProofs -dsimp +contextual [-Bool.exists_bool, -Int.not_le, -Int.not_lt, -getElem?_pos, -List.getD_eq_getElem?_getD, h]
        refine ⟨fun hf => ?_, fun hf => ?_⟩
        · obtain ⟨rfl, o2, o3⟩ := ho hf
          rw [if_pos hf] at he
          have hm1 := hcc.1
          rw [hm1] at o2
          have hW := iWithout d acc m2 o2 ha
          rw [← hm1] at hW
          cases hq : lessOut d m2 acc [] with
          | none =>
            rw [hq, Option.bind_none] at he
            rw [hm1, hq] at hW
            refine CallJ.pure hW (by rw [hm1]; rfl) (by simp [-Bool.exists_bool, -Int.not_le, -Int.not_lt, -getElem?_pos, -List.getD_eq_getElem?_getD]) ?_
            simp -implicitDefEqProofs -dsimp +contextual [-Bool.exists_bool, -Int.not_le, -Int.not_lt, -getElem?_pos, -List.getD_eq_getElem?_getD, h, optR]
            exact RLe.pure 2 (by rw [he]; simp [-Bool.exists_bool, -Int.not_le, -Int.not_lt, -getElem?_pos, -List.getD_eq_getElem?_getD, optR, csD])
          | some y =>
            rw [hq, Option.bind_some] at he
            rw [hm1, hq] at hW
            refine CallJ.pure hW (by rw [hm1]; rfl) (by simp [-Bool.exists_bool, -Int.not_le, -Int.not_lt, -getElem?_pos, -List.getD_eq_getElem?_getD]) ?_
            simp -implicitDefEqProofs -dsimp +contextual [-Bool.exists_bool, -Int.not_le, -Int.not_lt, -getElem?_pos, -List.getD_eq_getElem?_getD, h, optR]
            refine ⟨i + 1, y, ⟨h, lessOut_ok ha.2 ⟨by simp [-Bool.exists_bool, -Int.not_le, -Int.not_lt, -getElem?_pos, -List.getD_eq_getElem?_getD], by simp [-Bool.exists_bool, -Int.not_le, -Int.not_lt, -getElem?_pos, -List.getD_eq_getElem?_getD]⟩ hq, he⟩, by omega, ?_⟩
            rw [wr (by omega) (by omega)]
            refine Le.told [] ?_ ?_ ?_ <;> simp [-Bool.exists_bool, -Int.not_le, -Int.not_lt, -getElem?_pos, -List.getD_eq_getElem?_getD]
        · rw [if_neg (by simp [-Bool.exists_bool, -Int.not_le, -Int.not_lt, -getElem?_pos, -List.getD_eq_getElem?_getD, hf]), Option.bind_none] at he
          exact RLe.pure 2 (by rw [he]; simp [-Bool.exists_bool, -Int.not_le, -Int.not_lt, -getElem?_pos, -List.getD_eq_getElem?_getD, optR, csD])
      · rw [drop_nil (by omega), diffGo] at he
        simp -implicitDefEqProofs -dsimp +contextual [-Bool.exists_bool, -Int.not_le, -Int.not_lt, -getElem?_pos, -List.getD_eq_getElem?_getD, h]
        exact RLe.pure 3 (by rw [he]; simp [-Bool.exists_bool, -Int.not_le, -Int.not_lt, -getElem?_pos, -List.getD_eq_getElem?_getD, optR])
theorem iCoversRegion (d : Int) (A : List Ce) (e : Int) (B : List Ce) (hA : A.length ≤ 1048576) (hAc : ∀ c ∈ A, c.2.length ≤ 1048576) (hB : B.length ≤ 1048576) (hBc : ∀ c ∈ B, c.2.length ≤ 1048576) : Cn Tryz.prog 39 [R1 d A, R1 e B] (B2 (covR d A e B)) hemp := by
  refine Cn.of [0] mixed Tryz.func39 rfl Tryz.call39 (by kernel_rfl) rfl ?_
  simp -implicitDefEqProofs -dsimp +contextual [-Bool.exists_bool, -Int.not_le, -Int.not_lt, -getElem?_pos, -List.getD_eq_getElem?_getD, Tryz.f39]
  refine CallJ.pure (iDifferenceOf e B d A hB hBc hA hAc) rfl (by simp [-Bool.exists_bool, -Int.not_le, -Int.not_lt, -getElem?_pos, -List.getD_eq_getElem?_getD]) ?_
  unfold covR
  generalize diffD e B d A = q
  obtain ⟨q1, q2, q3⟩ := q
  cases q3
  · simp -implicitDefEqProofs -dsimp +contextual [-Bool.exists_bool, -Int.not_le, -Int.not_lt, -getElem?_pos, -List.getD_eq_getElem?_getD]
    exact RLe.pure 1 (by simp [-Bool.exists_bool, -Int.not_le, -Int.not_lt, -getElem?_pos, -List.getD_eq_getElem?_getD])
  · simp -implicitDefEqProofs -dsimp +contextual [-Bool.exists_bool, -Int.not_le, -Int.not_lt, -getElem?_pos, -List.getD_eq_getElem?_getD]
    exact RLe.pure 1 (by simp [-Bool.exists_bool, -Int.not_le, -Int.not_lt, -getElem?_pos, -List.getD_eq_getElem?_getD])
end Go.Proofs.YtjknjekemolndaaGreat.ZL
namespace Go.Proofs.YtjknjekemolndaaGreat.ZL
open Go Go.Proofs.YtjknjekemolndaaGreat.Abs Go.RowKit Go.Proofs
theorem dg125 : digest Tryz.prog 125 = some ⟨.struct [(0, 22), (1, 3), (2, 3)], 3, 40, [.nil, .d (.int .i64 0), .d (.int .i64 0)]⟩ := by kernel_rfl
attribute [simp] dg125
end Go.Proofs.YtjknjekemolndaaGreat.ZL
namespace Go.Proofs.YtjknjekemolndaaGreat.ZL
open Go Go.Proofs.YtjknjekemolndaaGreat.Abs Go.Proofs.YtjknjekemolndaaGreat.Abs.Pl Go.RowKit Go.Proofs
set_option linter.unusedVariables false
set_option linter.unusedSimpArgs false
set_option maxRecDepth 100000
abbrev Bs (cd : List Int) : V := .d (.sl cd.length (cd.map (D.int .u8)))
abbrev Cu := Nat × Int
abbrev cuL (cd : List Int) (c : Cu) : List V := [Bs cd, I c.1, I c.2]
abbrev cuE (cd : List Int) (c : Cu) : Ent := .box (cuL cd c)
abbrev cuH (cd : List Int) (c : Cu) : Store := hl [((0, 1), cuE cd c)]
def cA (k : Key) : Prop := k = (0, 1)
def byteH (h : Int) : Int := IntKind.wrap .i64 (IntKind.wrap .i64 (h * 6364136223846793005) + 1442695040888963407)
def byteX (h : Int) : Int := andI .i64 (xorI .i64 (shrI .i64 h 33) (shrI .i64 h 45)) 255
def byteF (cd : List Int) (c : Cu) : Int × Cu := if c.1 < cd.length then (andI .i64 (IntKind.wrap .i64 (byteX (byteH c.2) + IntKind.wrap .i64 (nth cd c.1))) 255, (c.1 + 1, byteH c.2)) else (byteX (byteH c.2), (c.1, byteH c.2))
theorem and255 (a : Int) : 0 ≤ andI .i64 a 255 ∧ andI .i64 a 255 ≤ 255 := by
  have h : (BitVec.ofInt 64 a &&& BitVec.ofInt 64 255).toNat ≤ 255 := by
    rw [BitVec.toNat_and]
    exact Nat.and_le_right
  have e : andI .i64 a 255 = IntKind.wrap .i64 ((BitVec.ofInt 64 a &&& BitVec.ofInt 64 255).toNat : Int) := rfl
  rw [e, wr (by omega) (by omega)]
  omega
theorem byteF_bd (cd : List Int) (c : Cu) : 0 ≤ (byteF cd c).1 ∧ (byteF cd c).1 ≤ 255 := by
  unfold byteF
  split
  · exact and255 _
  · exact and255 _
theorem byteF_cu (cd : List Int) (c : Cu) (h : c.1 ≤ cd.length) : (byteF cd c).2.1 ≤ cd.length := by
  unfold byteF
  split
  · show c.1 + 1 ≤ cd.length; omega
  · exact h
theorem l1Byte (cd : List Int) (c : Cu) (hc : c.1 ≤ cd.length) (h20 : cd.length ≤ 1048576) : Cm Tryz.prog 139 cA [.ptr (0, 1) 0] (cuH cd c) (I (byteF cd c).1) (cuH cd (byteF cd c).2) := by
  refine Cm.of [] mixed Tryz.func139 rfl Tryz.call139 (by kernel_rfl) rfl ?_
  simp -implicitDefEqProofs -dsimp +contextual [-Bool.exists_bool, -Int.not_le, -Int.not_lt, -getElem?_pos, -List.getD_eq_getElem?_getD, Tryz.f139]
  refine ⟨fun h => ?_, fun h => ?_⟩
  · have e : byteF cd c = (andI .i64 (IntKind.wrap .i64 (byteX (byteH c.2) + IntKind.wrap .i64 (nth cd c.1))) 255, (c.1 + 1, byteH c.2)) := if_pos h
    rw [e, wr (x := (c.1 : Int) + 1) (by omega) (by omega)]
    refine RLm.told ?_ ?_ ?_
    · simp [-Bool.exists_bool, -Int.not_le, -Int.not_lt, -getElem?_pos, -List.getD_eq_getElem?_getD, byteX, byteH]
    · simp [-Bool.exists_bool, -Int.not_le, -Int.not_lt, -getElem?_pos, -List.getD_eq_getElem?_getD, allK]
    · simp [-Bool.exists_bool, -Int.not_le, -Int.not_lt, -getElem?_pos, -List.getD_eq_getElem?_getD, okKey, allKE, allKs, allK, cA, byteH]
  · have e : byteF cd c = (byteX (byteH c.2), (c.1, byteH c.2)) := if_neg h
    rw [e]
    refine RLm.told ?_ ?_ ?_
    · simp [-Bool.exists_bool, -Int.not_le, -Int.not_lt, -getElem?_pos, -List.getD_eq_getElem?_getD, byteX, byteH]
    · simp [-Bool.exists_bool, -Int.not_le, -Int.not_lt, -getElem?_pos, -List.getD_eq_getElem?_getD, allK]
    · simp [-Bool.exists_bool, -Int.not_le, -Int.not_lt, -getElem?_pos, -List.getD_eq_getElem?_getD, okKey, allKE, allKs, allK, cA, byteH]
theorem callCu {N nx s f : Nat} {H : Store} {K : Eff → Prop} {cd : List Int} {c c' : Cu} {r : V} {vs : List V} (kb : Key) (h : Cm Tryz.prog f cA (.ptr (0, 1) 0 :: vs) (cuH cd c) r (cuH cd c')) (hv : ∀ g : Key → Key, mapL g vs = vs) (hvk : ∀ p : Key → Prop, allKs p vs) (hr : ∀ g : Key → Key, mapK g r = r)
    (hH : H kb = some (cuE cd c)) (hs : kb.1 ≠ s) (hn : kb.1 < nx) (hk : K ⟨r, [kb], [kb], up1 kb (some (cuE cd c')) noUp⟩) : CallJ Tryz.prog N nx s H f (.ptr kb 0 :: vs) K := by
  have hup : upMut (fun _ => kb) (fun k => if k = kb then some 0 else none) s (cuH cd c') = up1 kb (some (cuE cd c')) noUp := by
    funext k
    unfold upMut up1
    by_cases h1 : k = kb
    · subst h1
      rw [if_neg hs, if_pos rfl]
      simp [-Bool.exists_bool, -Int.not_le, -Int.not_lt, -getElem?_pos, -List.getD_eq_getElem?_getD, mapE]
    · rw [if_neg h1]
      simp [-Bool.exists_bool, -Int.not_le, -Int.not_lt, -getElem?_pos, -List.getD_eq_getElem?_getD, h1, noUp]
  rw [← hup] at hk
  refine CallJ.mut (fun _ => kb) (fun k => if k = kb then some 0 else none) [kb] [] h ?_ ?_ ?_ ?_ ?_ ?_ ?_ ?_ (by rw [hr]; simpa [-Bool.exists_bool, -Int.not_le, -Int.not_lt, -getElem?_pos, -List.getD_eq_getElem?_getD] using hk)
  · simp [-Bool.exists_bool, -Int.not_le, -Int.not_lt, -getElem?_pos, -List.getD_eq_getElem?_getD, gk, hv]
  · simp [-Bool.exists_bool, -Int.not_le, -Int.not_lt, -getElem?_pos, -List.getD_eq_getElem?_getD, allKs, allK, hvk, cA]
  · rintro k rfl; simp [-Bool.exists_bool, -Int.not_le, -Int.not_lt, -getElem?_pos, -List.getD_eq_getElem?_getD, hH]
  · intro k e h
    simp [-Bool.exists_bool, -Int.not_le, -Int.not_lt, -getElem?_pos, -List.getD_eq_getElem?_getD] at h
    obtain ⟨rfl, rfl⟩ := h
    simp [-Bool.exists_bool, -Int.not_le, -Int.not_lt, -getElem?_pos, -List.getD_eq_getElem?_getD, hH, mapE, allKE, allKs, allK, cA]
  · intro k j h
    simp [-Bool.exists_bool, -Int.not_le, -Int.not_lt, -getElem?_pos, -List.getD_eq_getElem?_getD] at h
    obtain ⟨rfl, rfl⟩ := h
    simp [-Bool.exists_bool, -Int.not_le, -Int.not_lt, -getElem?_pos, -List.getD_eq_getElem?_getD]
  · simp [-Bool.exists_bool, -Int.not_le, -Int.not_lt, -getElem?_pos, -List.getD_eq_getElem?_getD]
  · intro k e h
    simp [-Bool.exists_bool, -Int.not_le, -Int.not_lt, -getElem?_pos, -List.getD_eq_getElem?_getD] at h
    obtain ⟨rfl, rfl⟩ := h
    simp [-Bool.exists_bool, -Int.not_le, -Int.not_lt, -getElem?_pos, -List.getD_eq_getElem?_getD]
  · simp [-Bool.exists_bool, -Int.not_le, -Int.not_lt, -getElem?_pos, -List.getD_eq_getElem?_getD, hH, hn]
theorem mapL_nil (g : Key → Key) : mapL g [] = [] := rfl
def belowF (cd : List Int) (n : Int) (c : Cu) : Int × Cu :=
  if n ≤ 0 then (0, c) else if n ≤ 256 then ((byteF cd c).1.tmod n, (byteF cd c).2) else
    (((byteF cd c).1 * 16777216 + (byteF cd (byteF cd c).2).1 * 65536 + (byteF cd (byteF cd (byteF cd c).2).2).1 * 256 + (byteF cd (byteF cd (byteF cd (byteF cd c).2).2).2).1).tmod n, (byteF cd (byteF cd (byteF cd (byteF cd c).2).2).2).2)
theorem belowF_cu (cd : List Int) (n : Int) (c : Cu) (h : c.1 ≤ cd.length) : (belowF cd n c).2.1 ≤ cd.length := by
  unfold belowF
  split
  · exact h
  · split
    · exact byteF_cu _ _ h
    · exact byteF_cu _ _ (byteF_cu _ _ (byteF_cu _ _ (byteF_cu _ _ h)))
theorem belowF_bd (cd : List Int) {n : Int} (c : Cu) (h : 0 < n) : 0 ≤ (belowF cd n c).1 ∧ (belowF cd n c).1 < n := by
  unfold belowF
  rw [if_neg (by omega)]
  have h1 := byteF_bd cd c
  have h2 := byteF_bd cd (byteF cd c).2
  have h3 := byteF_bd cd (byteF cd (byteF cd c).2).2
  have h4 := byteF_bd cd (byteF cd (byteF cd (byteF cd c).2).2).2
  split
  · exact ⟨Int.tmod_nonneg _ h1.1, Int.tmod_lt_of_pos _ h⟩
  · exact ⟨Int.tmod_nonneg _ (by omega), Int.tmod_lt_of_pos _ h⟩
theorem l1Below (cd : List Int) (n : Int) (c : Cu) (hc : c.1 ≤ cd.length) (h20 : cd.length ≤ 1048576) : Cm Tryz.prog 96 cA [.ptr (0, 1) 0, I n] (cuH cd c) (I (belowF cd n c).1) (cuH cd (belowF cd n c).2) := by
  refine Cm.of [] mixed Tryz.func96 rfl Tryz.call96 (by kernel_rfl) rfl ?_
  simp -implicitDefEqProofs -dsimp +contextual [-Bool.exists_bool, -Int.not_le, -Int.not_lt, -getElem?_pos, -List.getD_eq_getElem?_getD, Tryz.f96]
  refine ⟨fun h => ?_, fun h => ⟨fun h1 => ?_, fun h1 => ?_⟩⟩
  · have e : belowF cd n c = (0, c) := if_pos h
    rw [e]
    refine RLm.told ?_ ?_ ?_
    · simp [-Bool.exists_bool, -Int.not_le, -Int.not_lt, -getElem?_pos, -List.getD_eq_getElem?_getD]
    · simp [-Bool.exists_bool, -Int.not_le, -Int.not_lt, -getElem?_pos, -List.getD_eq_getElem?_getD, allK]
    · simp [-Bool.exists_bool, -Int.not_le, -Int.not_lt, -getElem?_pos, -List.getD_eq_getElem?_getD, okKey, allKE, allKs, allK, cA]
  · have e : belowF cd n c = ((byteF cd c).1.tmod n, (byteF cd c).2) := by unfold belowF; rw [if_neg h, if_pos h1]
    rw [e]
    refine callCu (0, 1) (l1Byte cd c hc h20) mapL_nil (fun _ => by simp [-Bool.exists_bool, -Int.not_le, -Int.not_lt, -getElem?_pos, -List.getD_eq_getElem?_getD, allKs]) (fun g => rfl) (by simp [-Bool.exists_bool, -Int.not_le, -Int.not_lt, -getElem?_pos, -List.getD_eq_getElem?_getD]) (by simp [-Bool.exists_bool, -Int.not_le, -Int.not_lt, -getElem?_pos, -List.getD_eq_getElem?_getD]) (by simp [-Bool.exists_bool, -Int.not_le, -Int.not_lt, -getElem?_pos, -List.getD_eq_getElem?_getD]) ?_
    simp -implicitDefEqProofs -dsimp +contextual [-Bool.exists_bool, -Int.not_le, -Int.not_lt, -getElem?_pos, -List.getD_eq_getElem?_getD]
    refine ⟨by omega, ?_⟩
    refine RLm.told ?_ ?_ ?_
    · simp [-Bool.exists_bool, -Int.not_le, -Int.not_lt, -getElem?_pos, -List.getD_eq_getElem?_getD]
    · simp [-Bool.exists_bool, -Int.not_le, -Int.not_lt, -getElem?_pos, -List.getD_eq_getElem?_getD, allK]
    · simp [-Bool.exists_bool, -Int.not_le, -Int.not_lt, -getElem?_pos, -List.getD_eq_getElem?_getD, okKey, allKE, allKs, allK, cA]
  · have e : belowF cd n c = (((byteF cd c).1 * 16777216 + (byteF cd (byteF cd c).2).1 * 65536 + (byteF cd (byteF cd (byteF cd c).2).2).1 * 256 + (byteF cd (byteF cd (byteF cd (byteF cd c).2).2).2).1).tmod n, (byteF cd (byteF cd (byteF cd (byteF cd c).2).2).2).2) := by unfold belowF; rw [if_neg h, if_neg h1]
    rw [e]
    have b1 := byteF_bd cd c
    have c1 := byteF_cu cd c hc
    refine callCu (0, 1) (l1Byte cd c hc h20) mapL_nil (fun _ => by simp [-Bool.exists_bool, -Int.not_le, -Int.not_lt, -getElem?_pos, -List.getD_eq_getElem?_getD, allKs]) (fun g => rfl) (by simp [-Bool.exists_bool, -Int.not_le, -Int.not_lt, -getElem?_pos, -List.getD_eq_getElem?_getD]) (by simp [-Bool.exists_bool, -Int.not_le, -Int.not_lt, -getElem?_pos, -List.getD_eq_getElem?_getD]) (by simp [-Bool.exists_bool, -Int.not_le, -Int.not_lt, -getElem?_pos, -List.getD_eq_getElem?_getD]) ?_
    generalize byteF cd c = x1 at *
    simp -implicitDefEqProofs -dsimp +contextual [-Bool.exists_bool, -Int.not_le, -Int.not_lt, -getElem?_pos, -List.getD_eq_getElem?_getD]
    have b2 := byteF_bd cd x1.2
    have c2 := byteF_cu cd x1.2 c1
    refine callCu (0, 1) (l1Byte cd x1.2 c1 h20) mapL_nil (fun _ => by simp [-Bool.exists_bool, -Int.not_le, -Int.not_lt, -getElem?_pos, -List.getD_eq_getElem?_getD, allKs]) (fun g => rfl) (by simp [-Bool.exists_bool, -Int.not_le, -Int.not_lt, -getElem?_pos, -List.getD_eq_getElem?_getD]) (by simp [-Bool.exists_bool, -Int.not_le, -Int.not_lt, -getElem?_pos, -List.getD_eq_getElem?_getD]) (by simp [-Bool.exists_bool, -Int.not_le, -Int.not_lt, -getElem?_pos, -List.getD_eq_getElem?_getD]) ?_
    generalize byteF cd x1.2 = x2 at *
    simp -implicitDefEqProofs -dsimp +contextual [-Bool.exists_bool, -Int.not_le, -Int.not_lt, -getElem?_pos, -List.getD_eq_getElem?_getD]
    have b3 := byteF_bd cd x2.2
    have c3 := byteF_cu cd x2.2 c2
    refine callCu (0, 1) (l1Byte cd x2.2 c2 h20) mapL_nil (fun _ => by simp [-Bool.exists_bool, -Int.not_le, -Int.not_lt, -getElem?_pos, -List.getD_eq_getElem?_getD, allKs]) (fun g => rfl) (by simp [-Bool.exists_bool, -Int.not_le, -Int.not_lt, -getElem?_pos, -List.getD_eq_getElem?_getD]) (by simp [-Bool.exists_bool, -Int.not_le, -Int.not_lt, -getElem?_pos, -List.getD_eq_getElem?_getD]) (by simp [-Bool.exists_bool, -Int.not_le, -Int.not_lt, -getElem?_pos, -List.getD_eq_getElem?_getD]) ?_
    generalize byteF cd x2.2 = x3 at *
    simp -implicitDefEqProofs -dsimp +contextual [-Bool.exists_bool, -Int.not_le, -Int.not_lt, -getElem?_pos, -List.getD_eq_getElem?_getD]
    have b4 := byteF_bd cd x3.2
    refine callCu (0, 1) (l1Byte cd x3.2 c3 h20) mapL_nil (fun _ => by simp [-Bool.exists_bool, -Int.not_le, -Int.not_lt, -getElem?_pos, -List.getD_eq_getElem?_getD, allKs]) (fun g => rfl) (by simp [-Bool.exists_bool, -Int.not_le, -Int.not_lt, -getElem?_pos, -List.getD_eq_getElem?_getD]) (by simp [-Bool.exists_bool, -Int.not_le, -Int.not_lt, -getElem?_pos, -List.getD_eq_getElem?_getD]) (by simp [-Bool.exists_bool, -Int.not_le, -Int.not_lt, -getElem?_pos, -List.getD_eq_getElem?_getD]) ?_
    generalize byteF cd x3.2 = x4 at *
    simp -implicitDefEqProofs -dsimp +contextual [-Bool.exists_bool, -Int.not_le, -Int.not_lt, -getElem?_pos, -List.getD_eq_getElem?_getD]
    rw [wr (x := x1.1 * 16777216) (by omega) (by omega), wr (x := x2.1 * 65536) (by omega) (by omega), wr (x := x1.1 * 16777216 + x2.1 * 65536) (by omega) (by omega), wr (x := x3.1 * 256) (by omega) (by omega), wr (x := x1.1 * 16777216 + x2.1 * 65536 + x3.1 * 256) (by omega) (by omega), wr (x := x1.1 * 16777216 + x2.1 * 65536 + x3.1 * 256 + x4.1) (by omega) (by omega)]
    refine ⟨by omega, ?_⟩
    refine RLm.told ?_ ?_ ?_
    · simp [-Bool.exists_bool, -Int.not_le, -Int.not_lt, -getElem?_pos, -List.getD_eq_getElem?_getD]
    · simp [-Bool.exists_bool, -Int.not_le, -Int.not_lt, -getElem?_pos, -List.getD_eq_getElem?_getD, allK]
    · simp [-Bool.exists_bool, -Int.not_le, -Int.not_lt, -getElem?_pos, -List.getD_eq_getElem?_getD, okKey, allKE, allKs, allK, cA]
theorem callBelow {N nx s : Nat} {H : Store} {K : Eff → Prop} {cd : List Int} {c : Cu} (n : Int) (kb : Key) (hc : c.1 ≤ cd.length) (h20 : cd.length ≤ 1048576) (hH : H kb = some (cuE cd c)) (hs : kb.1 ≠ s) (hn : kb.1 < nx) (hk : K ⟨I (belowF cd n c).1, [kb], [kb], up1 kb (some (cuE cd (belowF cd n c).2)) noUp⟩) :
    CallJ Tryz.prog N nx s H 96 [.ptr kb 0, I n] K := callCu kb (l1Below cd n c hc h20) (fun g => rfl) (fun _ => by simp [-Bool.exists_bool, -Int.not_le, -Int.not_lt, -getElem?_pos, -List.getD_eq_getElem?_getD, allKs, allK]) (fun g => rfl) hH hs hn hk
theorem l1Once (cd : List Int) (n : Int) (c : Cu) (hc : c.1 ≤ cd.length) (h20 : cd.length ≤ 1048576) : Cm Tryz.prog 136 cA [.ptr (0, 1) 0, I n] (cuH cd c) (B (decide ((belowF cd n c).1 = 0))) (cuH cd (belowF cd n c).2) := by
  refine Cm.of [] mixed Tryz.func136 rfl Tryz.call136 (by kernel_rfl) rfl ?_
  simp -implicitDefEqProofs -dsimp +contextual [-Bool.exists_bool, -Int.not_le, -Int.not_lt, -getElem?_pos, -List.getD_eq_getElem?_getD, Tryz.f136]
  refine callBelow n (0, 1) hc h20 (by simp [-Bool.exists_bool, -Int.not_le, -Int.not_lt, -getElem?_pos, -List.getD_eq_getElem?_getD]) (by simp [-Bool.exists_bool, -Int.not_le, -Int.not_lt, -getElem?_pos, -List.getD_eq_getElem?_getD]) (by simp [-Bool.exists_bool, -Int.not_le, -Int.not_lt, -getElem?_pos, -List.getD_eq_getElem?_getD]) ?_
  simp -implicitDefEqProofs -dsimp +contextual [-Bool.exists_bool, -Int.not_le, -Int.not_lt, -getElem?_pos, -List.getD_eq_getElem?_getD]
  refine RLm.told ?_ ?_ ?_
  · simp [-Bool.exists_bool, -Int.not_le, -Int.not_lt, -getElem?_pos, -List.getD_eq_getElem?_getD]
  · simp [-Bool.exists_bool, -Int.not_le, -Int.not_lt, -getElem?_pos, -List.getD_eq_getElem?_getD, allK]
  · simp [-Bool.exists_bool, -Int.not_le, -Int.not_lt, -getElem?_pos, -List.getD_eq_getElem?_getD, okKey, allKE, allKs, allK, cA]
theorem callOnce {N nx s : Nat} {H : Store} {K : Eff → Prop} {cd : List Int} {c : Cu} (n : Int) (kb : Key) (hc : c.1 ≤ cd.length) (h20 : cd.length ≤ 1048576) (hH : H kb = some (cuE cd c)) (hs : kb.1 ≠ s) (hn : kb.1 < nx) (hk : K ⟨B (decide ((belowF cd n c).1 = 0)), [kb], [kb], up1 kb (some (cuE cd (belowF cd n c).2)) noUp⟩) :
    CallJ Tryz.prog N nx s H 136 [.ptr kb 0, I n] K := callCu kb (l1Once cd n c hc h20) (fun g => rfl) (fun _ => by simp [-Bool.exists_bool, -Int.not_le, -Int.not_lt, -getElem?_pos, -List.getD_eq_getElem?_getD, allKs, allK]) (fun g => rfl) hH hs hn hk
def pickF (cd : List Int) (l : List Int) (c : Cu) : Int × Cu := (nth l (belowF cd l.length c).1.toNat, (belowF cd l.length c).2)
theorem l1PickInt (cd : List Int) (l : List Int) (c : Cu) (hl : 0 < l.length ∧ l.length ≤ 256) (hc : c.1 ≤ cd.length) (h20 : cd.length ≤ 1048576) : Cm Tryz.prog 113 cA [.ptr (0, 1) 0, Is l] (cuH cd c) (I (pickF cd l c).1) (cuH cd (pickF cd l c).2) := by
  refine Cm.of [] mixed Tryz.func113 rfl Tryz.call113 (by kernel_rfl) rfl ?_
  simp -implicitDefEqProofs -dsimp +contextual [-Bool.exists_bool, -Int.not_le, -Int.not_lt, -getElem?_pos, -List.getD_eq_getElem?_getD, Tryz.f113]
  refine callBelow l.length (0, 1) hc h20 (by simp [-Bool.exists_bool, -Int.not_le, -Int.not_lt, -getElem?_pos, -List.getD_eq_getElem?_getD]) (by simp [-Bool.exists_bool, -Int.not_le, -Int.not_lt, -getElem?_pos, -List.getD_eq_getElem?_getD]) (by simp [-Bool.exists_bool, -Int.not_le, -Int.not_lt, -getElem?_pos, -List.getD_eq_getElem?_getD]) ?_
  have b := belowF_bd cd (n := l.length) c (by omega)
  unfold pickF
  generalize belowF cd l.length c = x at *
  obtain ⟨x, c2⟩ := x
  simp only at b ⊢
  obtain ⟨m, rfl⟩ : ∃ m : Nat, x = m := ⟨x.toNat, by omega⟩
  have hm : m < l.length := by omega
  simp -implicitDefEqProofs -dsimp +contextual [-Bool.exists_bool, -Int.not_le, -Int.not_lt, -getElem?_pos, -List.getD_eq_getElem?_getD, hm]
  refine RLm.told ?_ ?_ ?_
  · simp [-Bool.exists_bool, -Int.not_le, -Int.not_lt, -getElem?_pos, -List.getD_eq_getElem?_getD]
  · simp [-Bool.exists_bool, -Int.not_le, -Int.not_lt, -getElem?_pos, -List.getD_eq_getElem?_getD, allK]
  · simp [-Bool.exists_bool, -Int.not_le, -Int.not_lt, -getElem?_pos, -List.getD_eq_getElem?_getD, okKey, allKE, allKs, allK, cA]
theorem callPick {N nx s : Nat} {H : Store} {K : Eff → Prop} {cd : List Int} {c : Cu} (l : List Int) (kb : Key) (hl : 0 < l.length ∧ l.length ≤ 256) (hc : c.1 ≤ cd.length) (h20 : cd.length ≤ 1048576) (hH : H kb = some (cuE cd c)) (hs : kb.1 ≠ s) (hn : kb.1 < nx) (hk : K ⟨I (pickF cd l c).1, [kb], [kb], up1 kb (some (cuE cd (pickF cd l c).2)) noUp⟩) :
    CallJ Tryz.prog N nx s H 113 [.ptr kb 0, Is l] K := callCu kb (l1PickInt cd l c hl hc h20) (fun g => rfl) (fun _ => by simp [-Bool.exists_bool, -Int.not_le, -Int.not_lt, -getElem?_pos, -List.getD_eq_getElem?_getD, allKs, allK]) (fun g => rfl) hH hs hn hk
theorem dl_tail (l : List D) : (dl l).tail = dl l.tail := by cases l <;> rfl
attribute [simp] dl_tail
def oddL : List Int := [0, 1, -1, 2, 400000000, -400000000, 400000001, -400000001, 399999999, 9223372036854775807, -9223372036854775808]
theorem l1Odd (cd : List Int) (c : Cu) (hc : c.1 ≤ cd.length) (h20 : cd.length ≤ 1048576) : Cm Tryz.prog 134 cA [.ptr (0, 1) 0] (cuH cd c) (I (pickF cd oddL c).1) (cuH cd (pickF cd oddL c).2) := by
  refine Cm.of [] mixed Tryz.func134 rfl Tryz.call134 (by kernel_rfl) rfl ?_
  simp -implicitDefEqProofs -dsimp +contextual [-Bool.exists_bool, -Int.not_le, -Int.not_lt, -getElem?_pos, -List.getD_eq_getElem?_getD, Tryz.f134]
  refine callPick oddL (0, 1) (by simp [-Bool.exists_bool, -Int.not_le, -Int.not_lt, -getElem?_pos, -List.getD_eq_getElem?_getD, oddL]) hc h20 (by simp [-Bool.exists_bool, -Int.not_le, -Int.not_lt, -getElem?_pos, -List.getD_eq_getElem?_getD]) (by simp [-Bool.exists_bool, -Int.not_le, -Int.not_lt, -getElem?_pos, -List.getD_eq_getElem?_getD]) (by simp [-Bool.exists_bool, -Int.not_le, -Int.not_lt, -getElem?_pos, -List.getD_eq_getElem?_getD]) ?_
  simp -implicitDefEqProofs -dsimp +contextual [-Bool.exists_bool, -Int.not_le, -Int.not_lt, -getElem?_pos, -List.getD_eq_getElem?_getD]
  refine RLm.told ?_ ?_ ?_
  · simp [-Bool.exists_bool, -Int.not_le, -Int.not_lt, -getElem?_pos, -List.getD_eq_getElem?_getD]
  · simp [-Bool.exists_bool, -Int.not_le, -Int.not_lt, -getElem?_pos, -List.getD_eq_getElem?_getD, allK]
  · simp [-Bool.exists_bool, -Int.not_le, -Int.not_lt, -getElem?_pos, -List.getD_eq_getElem?_getD, okKey, allKE, allKs, allK, cA]
theorem callOdd {N nx s : Nat} {H : Store} {K : Eff → Prop} {cd : List Int} {c : Cu} (kb : Key) (hc : c.1 ≤ cd.length) (h20 : cd.length ≤ 1048576) (hH : H kb = some (cuE cd c)) (hs : kb.1 ≠ s) (hn : kb.1 < nx) (hk : K ⟨I (pickF cd oddL c).1, [kb], [kb], up1 kb (some (cuE cd (pickF cd oddL c).2)) noUp⟩) :
    CallJ Tryz.prog N nx s H 134 [.ptr kb 0] K := callCu kb (l1Odd cd c hc h20) (fun g => rfl) (fun _ => by simp [-Bool.exists_bool, -Int.not_le, -Int.not_lt, -getElem?_pos, -List.getD_eq_getElem?_getD, allKs, allK]) (fun g => rfl) hH hs hn hk
end Go.Proofs.YtjknjekemolndaaGreat.ZL
namespace Go.Proofs.YtjknjekemolndaaGreat.ZL
open Go Go.Proofs.YtjknjekemolndaaGreat.Abs Go.Proofs.YtjknjekemolndaaGreat.Abs.Pl Go.RowKit Go.Proofs
set_option linter.unusedVariables false
set_option linter.unusedSimpArgs false
set_option maxRecDepth 100000
def newF (cd : List Int) (n : Nat) : Int := (cd.take n).foldl (fun h b => andI .i64 (IntKind.wrap .i64 (IntKind.wrap .i64 (IntKind.wrap .i64 (h * 131) + IntKind.wrap .i64 b) + 7)) 1073741823) (IntKind.wrap .i64 (10101 + (cd.length : Int)))
def newN (cd : List Int) : Nat := if cd.length < 4000 then cd.length else 4000
theorem newF_succ (cd : List Int) (i : Nat) (h : i < cd.length) : newF cd (i + 1) = andI .i64 (IntKind.wrap .i64 (IntKind.wrap .i64 (IntKind.wrap .i64 (newF cd i * 131) + IntKind.wrap .i64 (nth cd i)) + 7)) 1073741823 := by
  unfold newF
  rw [nth_take h, List.foldl_append]
  rfl
theorem l1New (cd : List Int) (h20 : cd.length ≤ 1048576) : Cn Tryz.prog 65 [Bs cd] (.ptr (0, 0) 0) (hl [((0, 0), cuE cd (0, newF cd (newN cd)))]) := by
  refine Cn.of [] mixed Tryz.func65 rfl Tryz.call65 (by kernel_rfl) rfl ?_
  simp -implicitDefEqProofs -dsimp +contextual [-Bool.exists_bool, -Int.not_le, -Int.not_lt, -getElem?_pos, -List.getD_eq_getElem?_getD, Tryz.f65]
  refine WP.loop mixed [] (fun i : Nat => ⟨tl [(0, Bs cd), (3, I (newF cd i)), (4, I i)], hl [], 1⟩) (fun i => i ≤ cd.length ∧ i ≤ 4000) (fun i => cd.length - i) 0 (by kernel_rfl) ?_ ?_ ?_
  · refine Le.told [] ?_ ?_ ?_ <;> simp [-Bool.exists_bool, -Int.not_le, -Int.not_lt, -getElem?_pos, -List.getD_eq_getElem?_getD, newF]
  · simp [-Bool.exists_bool, -Int.not_le, -Int.not_lt, -getElem?_pos, -List.getD_eq_getElem?_getD]
  · intro i hi
    have fin : newN cd = i → RLe Tryz.prog (setH (12, 0) (some (Ent.box [Bs cd, V.d (D.int IntKind.i64 0), I (newF cd i)])) (hl [])) (.ptr (12, 0) 0) (.ptr (0, 0) 0) (hl [((0, 0), cuE cd (0, newF cd (newN cd)))]) := fun e => by
      rw [e]
      refine RLe.told [((0, 0), (12, 0))] ?_ ?_ ?_
      · simp [-Bool.exists_bool, -Int.not_le, -Int.not_lt, -getElem?_pos, -List.getD_eq_getElem?_getD]
      · simp [-Bool.exists_bool, -Int.not_le, -Int.not_lt, -getElem?_pos, -List.getD_eq_getElem?_getD, setH]
      · simp [-Bool.exists_bool, -Int.not_le, -Int.not_lt, -getElem?_pos, -List.getD_eq_getElem?_getD]
    by_cases h : i < cd.length
    · by_cases h2 : i < 4000
      · have h2' : ((i : Int) < 4000) = True := by simp [-Bool.exists_bool, -Int.not_le, -Int.not_lt, -getElem?_pos, -List.getD_eq_getElem?_getD]; omega
        simp -implicitDefEqProofs -dsimp +contextual [-Bool.exists_bool, -Int.not_le, -Int.not_lt, -getElem?_pos, -List.getD_eq_getElem?_getD, h, h2']
        refine ⟨i + 1, ⟨by omega, by omega⟩, by omega, ?_⟩
        rw [newF_succ cd i h, wr (x := (i : Int) + 1) (by omega) (by omega)]
        refine Le.told [] ?_ ?_ ?_ <;> simp [-Bool.exists_bool, -Int.not_le, -Int.not_lt, -getElem?_pos, -List.getD_eq_getElem?_getD]
      · have h2' : ((i : Int) < 4000) = False := by simp [-Bool.exists_bool, -Int.not_le, -Int.not_lt, -getElem?_pos, -List.getD_eq_getElem?_getD]; omega
        simp -implicitDefEqProofs -dsimp +contextual [-Bool.exists_bool, -Int.not_le, -Int.not_lt, -getElem?_pos, -List.getD_eq_getElem?_getD, h, h2']
        exact fin (by unfold newN; split <;> omega)
    · simp -implicitDefEqProofs -dsimp +contextual [-Bool.exists_bool, -Int.not_le, -Int.not_lt, -getElem?_pos, -List.getD_eq_getElem?_getD, h]
      exact fin (by unfold newN; split <;> omega)
def oAV (r : At2) : V := if r.2.2.2 = true then .tup [.agg [.ref (0, 0) r.1.length, I r.2.1, B r.2.2.1], B true] else .tup [.agg [.nil, I 0, B false], B false]
def oAH (r : At2) : Store := if r.2.2.2 = true then hl [((0, 0), .row 3 r.1.length (dl (r.1.map (D.int .i64))))] else hemp
theorem l2AtomO (l : List Int) (c : Int) (s : Bool) (h40 : l.length ≤ 1048576) (hm : ∀ y ∈ l, -9223372036854775807 ≤ y ∧ y ≤ 9223372036854775807) (hc : -9223372036854775807 ≤ c ∧ c ≤ 9223372036854775807) : Cn Tryz.prog 144 [Is l, I c, B s] (oAV (mkAt l c s)) (oAH (mkAt l c s)) := by
  refine Cn.of [] mixed Tryz.func144 rfl Tryz.call144 (by kernel_rfl) rfl ?_
  simp -implicitDefEqProofs -dsimp +contextual [-Bool.exists_bool, -Int.not_le, -Int.not_lt, -getElem?_pos, -List.getD_eq_getElem?_getD, Tryz.f144]
  refine CallJ.pure (l2Gcd l c (by omega) hm hc) rfl (by simp [-Bool.exists_bool, -Int.not_le, -Int.not_lt, -getElem?_pos, -List.getD_eq_getElem?_getD]) ?_
  simp -implicitDefEqProofs -dsimp +contextual [-Bool.exists_bool, -Int.not_le, -Int.not_lt, -getElem?_pos, -List.getD_eq_getElem?_getD]
  have hg : gcdF c.natAbs l = Nat.gcd (gcdL l) c.natAbs := by rw [gcdF_eq, Nat.gcd_comm]
  have hp := div1_pos (Nat.gcd (gcdL l) c.natAbs)
  rw [hg, max1, tdiv64 hc.1 hc.2]
  have em : mkAt l c s = if isAt (l.map (·.tdiv (div1 (Nat.gcd (gcdL l) c.natAbs)))) (c.tdiv (div1 (Nat.gcd (gcdL l) c.natAbs))) then (l.map (·.tdiv (div1 (Nat.gcd (gcdL l) c.natAbs))), c.tdiv (div1 (Nat.gcd (gcdL l) c.natAbs)), s, true) else noAt := rfl
  rw [em]
  generalize div1 (Nat.gcd (gcdL l) c.natAbs) = g at hp ⊢
  refine ⟨by omega, ?_⟩
  refine WP.loop mixed [] (fun i : Nat => ⟨tl [(0, Is l), (6, .ptr (0, 0) 0), (8, I g), (9, .ptr (12, 0) 0), (10, I i)], hl [((0, 0), .box [.nil, I 0, B false]), ((12, 0), .box [.ref (15, 0) i, I (c.tdiv g), B s]), ((15, 0), .row 3 i (dl ((l.take i).map fun x => .int .i64 (x.tdiv g))))], 16⟩) (fun i => i ≤ l.length) (fun i => l.length - i) 0 (by kernel_rfl) ?_ ?_ ?_
  · refine Le.trans (Le.nilBox (12, 0) 0 3 (c := [.nil, I (c.tdiv g), B s]) (by simp [-Bool.exists_bool, -Int.not_le, -Int.not_lt, -getElem?_pos, -List.getD_eq_getElem?_getD, setH]) rfl) (Le.told [] ?_ ?_ ?_) <;> simp [-Bool.exists_bool, -Int.not_le, -Int.not_lt, -getElem?_pos, -List.getD_eq_getElem?_getD, setH, ELe]
  · simp [-Bool.exists_bool, -Int.not_le, -Int.not_lt, -getElem?_pos, -List.getD_eq_getElem?_getD]
  · intro i hi
    simp -implicitDefEqProofs -dsimp +contextual [-Bool.exists_bool, -Int.not_le, -Int.not_lt, -getElem?_pos, -List.getD_eq_getElem?_getD]
    refine ⟨fun h => ?_, fun h => ?_⟩
    · refine ⟨by omega, ⟨by omega, by simp [-Bool.exists_bool, -Int.not_le, -Int.not_lt, -getElem?_pos, -List.getD_eq_getElem?_getD, maxLen]; omega⟩, by kernel_rfl, ?_⟩
      have hy := hm (nth l i) (nth_mem h)
      refine ⟨i + 1, by omega, by omega, ?_⟩
      rw [tdiv64 hy.1 hy.2, wr (by omega) (by omega)]
      refine Le.told [((15, 0), (29, 0))] ?_ ?_ ?_ <;> simp [-Bool.exists_bool, -Int.not_le, -Int.not_lt, -getElem?_pos, -List.getD_eq_getElem?_getD]
      rw [← List.map_take, ← List.map_take, nth_take h]
      simp [-Bool.exists_bool, -Int.not_le, -Int.not_lt, -getElem?_pos, -List.getD_eq_getElem?_getD]
    · obtain rfl : i = l.length := by omega
      have hT : List.take l.length (List.map (fun x => D.int IntKind.i64 (x.tdiv g)) l) = List.map (D.int IntKind.i64 ∘ fun x => x.tdiv g) l := by rw [List.take_of_length_le (by simp [-Bool.exists_bool, -Int.not_le, -Int.not_lt, -getElem?_pos, -List.getD_eq_getElem?_getD])]; rfl
      refine CallJ.lent (ks := [(15, 0)]) 3 (IsAtom (l.map (·.tdiv g), c.tdiv g, s)) (by simp [-Bool.exists_bool, -Int.not_le, -Int.not_lt, -getElem?_pos, -List.getD_eq_getElem?_getD, hT]) (by simp [-Bool.exists_bool, -Int.not_le, -Int.not_lt, -getElem?_pos, -List.getD_eq_getElem?_getD]) rfl (by simp [-Bool.exists_bool, -Int.not_le, -Int.not_lt, -getElem?_pos, -List.getD_eq_getElem?_getD]) ?_
      simp -implicitDefEqProofs -dsimp +contextual [-Bool.exists_bool, -Int.not_le, -Int.not_lt, -getElem?_pos, -List.getD_eq_getElem?_getD]
      refine ⟨fun hb => ?_, fun hb => ?_⟩
      · rw [show oAV (l.map (·.tdiv g), c.tdiv g, s, true) = .tup [.agg [.ref (0, 0) (l.map (·.tdiv g)).length, I (c.tdiv g), B s], B true] from rfl, show oAH (l.map (·.tdiv g), c.tdiv g, s, true) = hl [((0, 0), .row 3 (l.map (·.tdiv g)).length (dl ((l.map (·.tdiv g)).map (D.int .i64))))] from rfl]
        refine RLe.told [((0, 0), (15, 0))] ?_ ?_ ?_
        · simp [-Bool.exists_bool, -Int.not_le, -Int.not_lt, -getElem?_pos, -List.getD_eq_getElem?_getD]
        · simp [-Bool.exists_bool, -Int.not_le, -Int.not_lt, -getElem?_pos, -List.getD_eq_getElem?_getD, setH, hT]
        · simp [-Bool.exists_bool, -Int.not_le, -Int.not_lt, -getElem?_pos, -List.getD_eq_getElem?_getD]
      · rw [show oAV noAt = .tup [.agg [.nil, I 0, B false], B false] from rfl, show oAH noAt = hemp from rfl]
        exact RLe.emp (by simp [-Bool.exists_bool, -Int.not_le, -Int.not_lt, -getElem?_pos, -List.getD_eq_getElem?_getD])
theorem gcdL_tdiv {g : Nat} (hg : 0 < g) : ∀ {l : List Int}, (∀ x ∈ l, g ∣ x.natAbs) → gcdL (l.map (·.tdiv (g : Int))) = gcdL l / g
  | [], _ => by simp [-Bool.exists_bool, -Int.not_le, -Int.not_lt, -getElem?_pos, -List.getD_eq_getElem?_getD, gcdL, gcdF]
  | x :: l, h => by
    have hx := h x (by simp [-Bool.exists_bool, -Int.not_le, -Int.not_lt, -getElem?_pos, -List.getD_eq_getElem?_getD])
    have hl := fun y hy => h y (List.mem_cons_of_mem x hy)
    have hd : g ∣ gcdL l := by
      clear hx h
      induction l with
      | nil => exact ⟨0, rfl⟩
      | cons y l ih =>
        rw [gcdL_cons]
        exact Nat.dvd_gcd (hl y (by simp [-Bool.exists_bool, -Int.not_le, -Int.not_lt, -getElem?_pos, -List.getD_eq_getElem?_getD])) (ih (fun z hz => hl z (by simp [-Bool.exists_bool, -Int.not_le, -Int.not_lt, -getElem?_pos, -List.getD_eq_getElem?_getD, hz])))
    rw [List.map_cons, gcdL_cons, gcdL_cons, gcdL_tdiv hg hl, Int.natAbs_tdiv, Int.natAbs_natCast]
    show Nat.gcd (x.natAbs / g) _ = _
    rw [Nat.gcd_div hx hd]
theorem mkAt_small {l : List Int} {c : Int} {s : Bool} (hl : l.length ≤ 4) (h : ∀ x ∈ l, isNum x = true) (hc : isNum c = true) : (mkAt l c s).2.2.2 = true := by
  have key : isAt (l.map (·.tdiv (div1 (Nat.gcd (gcdL l) c.natAbs)))) (c.tdiv (div1 (Nat.gcd (gcdL l) c.natAbs))) = true := by
    have hn : ∀ (y : Int) (g : Int), isNum y = true → isNum (y.tdiv g) = true := fun y g hy => by
      have := isNum_iff.1 hy
      have h1 : (y.tdiv g).natAbs ≤ y.natAbs := by rw [Int.natAbs_tdiv]; exact Nat.div_le_self _ _
      exact isNum_iff.2 ⟨by omega, by omega⟩
    rw [isAt_iff]
    refine ⟨by simpa [-Bool.exists_bool, -Int.not_le, -Int.not_lt, -getElem?_pos, -List.getD_eq_getElem?_getD] using hl, hn _ _ hc, fun x hx => ?_, ?_⟩
    · obtain ⟨y, hy, rfl⟩ := List.mem_map.1 hx
      exact hn _ _ (h y hy)
    · by_cases h0 : Nat.gcd (gcdL l) c.natAbs = 0
      · have e : div1 (Nat.gcd (gcdL l) c.natAbs) = 1 := by unfold div1; rw [if_pos h0]
        rw [e]
        simp only [Int.tdiv_one, List.map_id']
        omega
      · have hp : 0 < Nat.gcd (gcdL l) c.natAbs := by omega
        have e : div1 (Nat.gcd (gcdL l) c.natAbs) = ((Nat.gcd (gcdL l) c.natAbs : Nat) : Int) := by unfold div1; rw [if_neg h0]
        rw [e, gcdL_tdiv hp (fun x hx => Nat.dvd_trans (Nat.gcd_dvd_left _ _) (gcdL_dvd l x hx)), Int.natAbs_tdiv, Int.natAbs_natCast]
        show Nat.gcd _ (c.natAbs / _) ≤ 1
        rw [Nat.gcd_div (Nat.gcd_dvd_left _ _) (Nat.gcd_dvd_right _ _), Nat.div_self hp]
        exact Nat.le_refl 1
  unfold mkAt
  simp only
  rw [if_pos key]
def mkA (l : List Int) (c : Int) (s : Bool) : At2 := if l.length ≤ 4 then mkAt l c s else noAt
theorem MakeAtomO (l : List Int) (c : Int) (s : Bool) (h40 : l.length ≤ 1048576) (hm : ∀ y ∈ l, isNum y = true) (hc : isNum c = true) : Cn Tryz.prog 135 [Is l, I c, B s] (oAV (mkA l c s)) (oAH (mkA l c s)) := by
  refine Cn.of [] mixed Tryz.func135 rfl Tryz.call135 (by kernel_rfl) rfl ?_
  simp -implicitDefEqProofs -dsimp +contextual [-Bool.exists_bool, -Int.not_le, -Int.not_lt, -getElem?_pos, -List.getD_eq_getElem?_getD, Tryz.f135]
  refine WP.loop mixed [] (fun i : Nat => ⟨tl [(0, Is l), (1, I c), (2, B s), (6, .ptr (0, 0) 0), (7, B false), (8, I i)], hl [((0, 0), .box [.nil, I 0, B false])], 1⟩) (fun i => i ≤ l.length) (fun i => l.length - i) 0 (by kernel_rfl) ?_ ?_ ?_
  · refine Le.told [] ?_ ?_ ?_ <;> simp [-Bool.exists_bool, -Int.not_le, -Int.not_lt, -getElem?_pos, -List.getD_eq_getElem?_getD]
  · simp [-Bool.exists_bool, -Int.not_le, -Int.not_lt, -getElem?_pos, -List.getD_eq_getElem?_getD]
  · intro i hi
    by_cases h : i < l.length
    · simp -implicitDefEqProofs -dsimp +contextual [-Bool.exists_bool, -Int.not_le, -Int.not_lt, -getElem?_pos, -List.getD_eq_getElem?_getD, h]
      refine CallJ.pure (IsNumber _) rfl (by simp [-Bool.exists_bool, -Int.not_le, -Int.not_lt, -getElem?_pos, -List.getD_eq_getElem?_getD]) ?_
      have h1 := hm _ (nth_mem h)
      simp -implicitDefEqProofs -dsimp +contextual [-Bool.exists_bool, -Int.not_le, -Int.not_lt, -getElem?_pos, -List.getD_eq_getElem?_getD, h, h1]
      refine ⟨i + 1, h, by omega, ?_⟩
      rw [wr (x := (i : Int) + 1) (by omega) (by omega)]
      refine Le.told [] ?_ ?_ ?_ <;> simp [-Bool.exists_bool, -Int.not_le, -Int.not_lt, -getElem?_pos, -List.getD_eq_getElem?_getD]
    · simp -implicitDefEqProofs -dsimp +contextual [-Bool.exists_bool, -Int.not_le, -Int.not_lt, -getElem?_pos, -List.getD_eq_getElem?_getD, h]
      refine CallJ.pure (IsNumber _) rfl (by simp [-Bool.exists_bool, -Int.not_le, -Int.not_lt, -getElem?_pos, -List.getD_eq_getElem?_getD]) ?_
      simp -implicitDefEqProofs -dsimp +contextual [-Bool.exists_bool, -Int.not_le, -Int.not_lt, -getElem?_pos, -List.getD_eq_getElem?_getD, hc]
      refine ⟨fun h4 => ?_, fun h4 => ?_⟩
      · rw [show mkA l c s = noAt from if_neg (by omega)]
        rw [show oAV noAt = .tup [.agg [.nil, I 0, B false], B false] from rfl, show oAH noAt = hemp from rfl]
        exact RLe.emp (by simp [-Bool.exists_bool, -Int.not_le, -Int.not_lt, -getElem?_pos, -List.getD_eq_getElem?_getD])
      · rw [show mkA l c s = mkAt l c s from if_pos (by omega)]
        have hN := l2AtomO l c s h40 (fun y hy => by have := isNum_iff.1 (hm y hy); omega) (by have := isNum_iff.1 hc; omega)
        have hok := mkAt_small (s := s) (by omega) hm hc
        generalize mkAt l c s = r at hN hok ⊢
        obtain ⟨r1, r2, r3, r4⟩ := r
        obtain rfl : r4 = true := hok
        rw [show oAV (r1, r2, r3, true) = .tup [.agg [.ref (0, 0) r1.length, I r2, B r3], B true] from rfl, show oAH (r1, r2, r3, true) = hl [((0, 0), .row 3 r1.length (dl (r1.map (D.int .i64))))] from rfl] at hN ⊢
        refine CallJ.pure hN rfl (by simp [-Bool.exists_bool, -Int.not_le, -Int.not_lt, -getElem?_pos, -List.getD_eq_getElem?_getD]) ?_
        simp -implicitDefEqProofs -dsimp +contextual [-Bool.exists_bool, -Int.not_le, -Int.not_lt, -getElem?_pos, -List.getD_eq_getElem?_getD, h, h4]
        refine RLe.told [((0, 0), (16, 0))] ?_ ?_ ?_
        · simp [-Bool.exists_bool, -Int.not_le, -Int.not_lt, -getElem?_pos, -List.getD_eq_getElem?_getD]
        · simp [-Bool.exists_bool, -Int.not_le, -Int.not_lt, -getElem?_pos, -List.getD_eq_getElem?_getD, setH]
        · simp [-Bool.exists_bool, -Int.not_le, -Int.not_lt, -getElem?_pos, -List.getD_eq_getElem?_getD]
end Go.Proofs.YtjknjekemolndaaGreat.ZL
namespace Go.Proofs.YtjknjekemolndaaGreat.ZL
open Go Go.Proofs.YtjknjekemolndaaGreat.Abs Go.Proofs.YtjknjekemolndaaGreat.Abs.Pl Go.RowKit Go.Proofs
set_option linter.unusedVariables false
set_option linter.unusedSimpArgs false
set_option maxRecDepth 100000
theorem invK_id {k : Key} (hk : k.1 = 0) : ∀ {iv : List (Key × Key)}, allP (fun p : Key × Key => p.1.1 ≠ 0) iv → invK iv k = k
  | [], _ => rfl
  | p :: iv, h => by
    have h1 : p.1.1 ≠ 0 := h.1
    unfold invK
    rw [if_neg (fun e => h1 (by rw [← e]; exact hk))]
    exact invK_id hk h.2
theorem RLm.toldL {P : Program} {A : Key → Prop} {H : Store} {r v : V} {K : List (Key × Ent)} (iv : List (Key × Key)) (hid : allP (fun p : Key × Key => p.1.1 ≠ 0) iv) (hv : VLe H (invK iv) 2 v r) (hr : allK (okKey A) r)
    (hK : allP (fun p : Key × Ent => p.1.1 < 2 ∧ okKey A p.1 ∧ allKE (okKey A) p.2 ∧ entIs (H (invK iv p.1)) fun e => ELe H (invK iv) 2 e p.2) K) (hn : (K.map fun p => invK iv p.1).Nodup) : RLm P A H v r (hl K) := by
  refine RLm.mk (invK iv) (fun k hk => invK_id hk hid) hv hr (fun k e' hk => ?_) (fun k k' e e' h1 h2 h => ?_)
  · obtain ⟨h1, h2, h3, h4⟩ := allP_mem hK _ (hl_mem hk)
    simp only [entIs] at h4
    refine ⟨h1, h2, h3, ?_⟩
    cases hq : H (invK iv k) with
    | none => rw [hq] at h4; exact h4.elim
    | some e => rw [hq] at h4; exact ⟨e, rfl, h4⟩
  · have := nodup_told hn _ (hl_mem h1) _ (hl_mem h2) h
    exact congrArg Prod.fst this
def drL (cd : List Int) : Nat → Cu → List Int × Cu
  | 0, c => ([], c)
  | n + 1, c => ((drL cd n c).1 ++ [(belowF cd 5 (drL cd n c).2).1 - 2], (belowF cd 5 (drL cd n c).2).2)
theorem drL_len (cd : List Int) : ∀ (n : Nat) (c : Cu), (drL cd n c).1.length = n
  | 0, c => rfl
  | n + 1, c => by simp [-Bool.exists_bool, -Int.not_le, -Int.not_lt, -getElem?_pos, -List.getD_eq_getElem?_getD, drL, drL_len cd n c]
theorem drL_cu (cd : List Int) : ∀ (n : Nat) (c : Cu), c.1 ≤ cd.length → (drL cd n c).2.1 ≤ cd.length
  | 0, c, h => h
  | n + 1, c, h => belowF_cu _ _ _ (drL_cu cd n c h)
theorem drL_num (cd : List Int) : ∀ (n : Nat) (c : Cu), ∀ x ∈ (drL cd n c).1, isNum x = true
  | 0, c, x, h => by simp [-Bool.exists_bool, -Int.not_le, -Int.not_lt, -getElem?_pos, -List.getD_eq_getElem?_getD, drL] at h
  | n + 1, c, x, h => by
    rcases List.mem_append.1 h with h | h
    · exact drL_num cd n c x h
    · have := belowF_bd cd (n := 5) (drL cd n c).2 (by omega)
      rw [List.mem_singleton.1 h]
      exact isNum_iff.2 ⟨by omega, by omega⟩
def drA (cd : List Int) (n : Nat) (c : Cu) : At2 × Cu :=
  (mkA (drL cd n c).1 ((belowF cd 13 (drL cd n c).2).1 - 6) (decide ((belowF cd 3 (belowF cd 13 (drL cd n c).2).2).1 = 0)), (belowF cd 3 (belowF cd 13 (drL cd n c).2).2).2)
theorem drA_cu (cd : List Int) (n : Nat) (c : Cu) (h : c.1 ≤ cd.length) : (drA cd n c).2.1 ≤ cd.length := belowF_cu _ _ _ (belowF_cu _ _ _ (drL_cu _ _ _ h))
def dV (r : At2) : V := if r.2.2.2 = true then .agg [.ref (1, 0) r.1.length, I r.2.1, B r.2.2.1] else .agg [.nil, I 0, B false]
def dH (cd : List Int) (r : At2) (c : Cu) : Store := if r.2.2.2 = true then hl [((0, 1), cuE cd c), ((1, 0), .row 3 r.1.length (dl (r.1.map (D.int .i64))))] else cuH cd c
theorem l2Draw (cd : List Int) (n : Nat) (c : Cu) (hn : n ≤ 5) (hc : c.1 ≤ cd.length) (h20 : cd.length ≤ 1048576) : Cm Tryz.prog 90 cA [.ptr (0, 1) 0, I n] (cuH cd c) (dV (drA cd n c).1) (dH cd (drA cd n c).1 (drA cd n c).2) := by
  refine Cm.of [] mixed Tryz.func90 rfl Tryz.call90 (by kernel_rfl) rfl ?_
  simp -implicitDefEqProofs -dsimp +contextual [-Bool.exists_bool, -Int.not_le, -Int.not_lt, -getElem?_pos, -List.getD_eq_getElem?_getD, Tryz.f90]
  refine WP.loop mixed [] (fun i : Nat => ⟨tl [(0, .ptr (0, 1) 0), (1, I n), (4, .ptr (1, 0) 0), (5, .ref (2, 0) i), (6, I i)], hl [((0, 1), cuE cd (drL cd i c).2), ((1, 0), .box [.nil, I 0, B false]), ((2, 0), .row 3 i (dl ((drL cd i c).1.map (D.int .i64))))], 3⟩) (fun i => i ≤ n) (fun i => n - i) 0 (by kernel_rfl) ?_ ?_ ?_
  · refine Le.trans (Le.nil 5 3 (by simp [-Bool.exists_bool, -Int.not_le, -Int.not_lt, -getElem?_pos, -List.getD_eq_getElem?_getD])) (Le.told [((2, 0), (5, 0))] ?_ ?_ ?_) <;> simp [-Bool.exists_bool, -Int.not_le, -Int.not_lt, -getElem?_pos, -List.getD_eq_getElem?_getD, setH, drL]
  · simp [-Bool.exists_bool, -Int.not_le, -Int.not_lt, -getElem?_pos, -List.getD_eq_getElem?_getD]
  · intro i hi
    by_cases h : i < n
    · have hci := drL_cu cd i c hc
      have hli := drL_len cd i c
      simp -implicitDefEqProofs -dsimp +contextual [-Bool.exists_bool, -Int.not_le, -Int.not_lt, -getElem?_pos, -List.getD_eq_getElem?_getD, h]
      refine callBelow 5 (0, 1) hci h20 (by simp [-Bool.exists_bool, -Int.not_le, -Int.not_lt, -getElem?_pos, -List.getD_eq_getElem?_getD]) (by simp [-Bool.exists_bool, -Int.not_le, -Int.not_lt, -getElem?_pos, -List.getD_eq_getElem?_getD]) (by simp [-Bool.exists_bool, -Int.not_le, -Int.not_lt, -getElem?_pos, -List.getD_eq_getElem?_getD]) ?_
      have hb := belowF_bd cd (n := 5) (drL cd i c).2 (by omega)
      simp -implicitDefEqProofs -dsimp +contextual [-Bool.exists_bool, -Int.not_le, -Int.not_lt, -getElem?_pos, -List.getD_eq_getElem?_getD, h]
      refine ⟨⟨by omega, by simp [-Bool.exists_bool, -Int.not_le, -Int.not_lt, -getElem?_pos, -List.getD_eq_getElem?_getD, maxLen]; omega⟩, i + 1, h, by omega, ?_⟩
      rw [wr (x := (i : Int) + 1) (by omega) (by omega), wr (x := (belowF cd 5 (drL cd i c).2).1 - 2) (by omega) (by omega)]
      refine Le.told [((2, 0), (11, 0))] ?_ ?_ ?_ <;> simp [-Bool.exists_bool, -Int.not_le, -Int.not_lt, -getElem?_pos, -List.getD_eq_getElem?_getD, drL]
    · obtain rfl : i = n := by omega
      have hci := drL_cu cd i c hc
      have hli := drL_len cd i c
      have hnum := drL_num cd i c
      unfold drA
      generalize drL cd i c = z at *
      obtain ⟨l, c1⟩ := z
      simp only at hci hli hnum ⊢
      obtain rfl := hli
      simp -implicitDefEqProofs -dsimp +contextual [-Bool.exists_bool, -Int.not_le, -Int.not_lt, -getElem?_pos, -List.getD_eq_getElem?_getD, h]
      have hb := belowF_bd cd (n := 13) c1 (by omega)
      have hc2 := belowF_cu cd 13 c1 hci
      refine callBelow 13 (0, 1) hci h20 (by simp [-Bool.exists_bool, -Int.not_le, -Int.not_lt, -getElem?_pos, -List.getD_eq_getElem?_getD]) (by simp [-Bool.exists_bool, -Int.not_le, -Int.not_lt, -getElem?_pos, -List.getD_eq_getElem?_getD]) (by simp [-Bool.exists_bool, -Int.not_le, -Int.not_lt, -getElem?_pos, -List.getD_eq_getElem?_getD]) ?_
      generalize belowF cd 13 c1 = y at *
      obtain ⟨k, c2⟩ := y
      simp only at hb hc2 ⊢
      simp -implicitDefEqProofs -dsimp +contextual [-Bool.exists_bool, -Int.not_le, -Int.not_lt, -getElem?_pos, -List.getD_eq_getElem?_getD]
      rw [wr (x := k - 6) (by omega) (by omega)]
      have hc3 := belowF_cu cd 3 c2 hc2
      refine callOnce 3 (0, 1) hc2 h20 (by simp [-Bool.exists_bool, -Int.not_le, -Int.not_lt, -getElem?_pos, -List.getD_eq_getElem?_getD]) (by simp [-Bool.exists_bool, -Int.not_le, -Int.not_lt, -getElem?_pos, -List.getD_eq_getElem?_getD]) (by simp [-Bool.exists_bool, -Int.not_le, -Int.not_lt, -getElem?_pos, -List.getD_eq_getElem?_getD]) ?_
      generalize belowF cd 3 c2 = y at *
      obtain ⟨k3, c3⟩ := y
      simp only at hc3 ⊢
      simp -implicitDefEqProofs -dsimp +contextual [-Bool.exists_bool, -Int.not_le, -Int.not_lt, -getElem?_pos, -List.getD_eq_getElem?_getD]
      have hM := MakeAtomO l (k - 6) (decide (k3 = 0)) (by omega) hnum (isNum_iff.2 ⟨by omega, by omega⟩)
      generalize mkA l (k - 6) (decide (k3 = 0)) = r at hM ⊢
      obtain ⟨r1, r2, r3, r4⟩ := r
      cases r4 with
      | true =>
        rw [show oAV (r1, r2, r3, true) = .tup [.agg [.ref (0, 0) r1.length, I r2, B r3], B true] from rfl, show oAH (r1, r2, r3, true) = hl [((0, 0), .row 3 r1.length (dl (r1.map (D.int .i64))))] from rfl] at hM
        refine CallJ.lent (ks := [(2, 0)]) 2 hM (by simp [-Bool.exists_bool, -Int.not_le, -Int.not_lt, -getElem?_pos, -List.getD_eq_getElem?_getD]) (by simp [-Bool.exists_bool, -Int.not_le, -Int.not_lt, -getElem?_pos, -List.getD_eq_getElem?_getD]) (by simp [-Bool.exists_bool, -Int.not_le, -Int.not_lt, -getElem?_pos, -List.getD_eq_getElem?_getD, noSh, noShL, noShD]) ?_ ?_
        · intro k e h
          simp [-Bool.exists_bool, -Int.not_le, -Int.not_lt, -getElem?_pos, -List.getD_eq_getElem?_getD] at h
          obtain ⟨rfl, rfl⟩ := h
          simp only [noShE, noShL_all, List.all_eq_true]
          intro x hx
          obtain ⟨y, hy, rfl⟩ := List.mem_map.1 hx
          obtain ⟨z, _, rfl⟩ := List.mem_map.1 hy
          rfl
        simp -implicitDefEqProofs -dsimp +contextual [-Bool.exists_bool, -Int.not_le, -Int.not_lt, -getElem?_pos, -List.getD_eq_getElem?_getD]
        rw [show dV (r1, r2, r3, true) = .agg [.ref (1, 0) r1.length, I r2, B r3] from rfl, show dH cd (r1, r2, r3, true) c3 = hl [((0, 1), cuE cd c3), ((1, 0), .row 3 r1.length (dl (r1.map (D.int .i64))))] from rfl]
        refine RLm.toldL [((1, 0), (12, 0))] ?_ ?_ ?_ ?_ ?_
        · simp [-Bool.exists_bool, -Int.not_le, -Int.not_lt, -getElem?_pos, -List.getD_eq_getElem?_getD]
        · simp [-Bool.exists_bool, -Int.not_le, -Int.not_lt, -getElem?_pos, -List.getD_eq_getElem?_getD]
        · simp [-Bool.exists_bool, -Int.not_le, -Int.not_lt, -getElem?_pos, -List.getD_eq_getElem?_getD, allKs, allK, okKey]
        · simp [-Bool.exists_bool, -Int.not_le, -Int.not_lt, -getElem?_pos, -List.getD_eq_getElem?_getD, okKey, allKE, allKs, allK, cA, setH]
        · simp [-Bool.exists_bool, -Int.not_le, -Int.not_lt, -getElem?_pos, -List.getD_eq_getElem?_getD]
      | false =>
        rw [show oAV (r1, r2, r3, false) = .tup [.agg [.nil, I 0, B false], B false] from rfl, show oAH (r1, r2, r3, false) = hemp from rfl] at hM
        refine CallJ.lent (ks := [(2, 0)]) 2 hM (by simp [-Bool.exists_bool, -Int.not_le, -Int.not_lt, -getElem?_pos, -List.getD_eq_getElem?_getD]) (by simp [-Bool.exists_bool, -Int.not_le, -Int.not_lt, -getElem?_pos, -List.getD_eq_getElem?_getD]) (by simp [-Bool.exists_bool, -Int.not_le, -Int.not_lt, -getElem?_pos, -List.getD_eq_getElem?_getD, noSh, noShL, noShD]) (by simp [-Bool.exists_bool, -Int.not_le, -Int.not_lt, -getElem?_pos, -List.getD_eq_getElem?_getD]) ?_
        simp -implicitDefEqProofs -dsimp +contextual [-Bool.exists_bool, -Int.not_le, -Int.not_lt, -getElem?_pos, -List.getD_eq_getElem?_getD]
        rw [show dV (r1, r2, r3, false) = .agg [.nil, I 0, B false] from rfl, show dH cd (r1, r2, r3, false) c3 = cuH cd c3 from rfl]
        refine RLm.toldL [] ?_ ?_ ?_ ?_ ?_
        · simp [-Bool.exists_bool, -Int.not_le, -Int.not_lt, -getElem?_pos, -List.getD_eq_getElem?_getD]
        · simp [-Bool.exists_bool, -Int.not_le, -Int.not_lt, -getElem?_pos, -List.getD_eq_getElem?_getD]
        · simp [-Bool.exists_bool, -Int.not_le, -Int.not_lt, -getElem?_pos, -List.getD_eq_getElem?_getD, allKs, allK, okKey]
        · simp [-Bool.exists_bool, -Int.not_le, -Int.not_lt, -getElem?_pos, -List.getD_eq_getElem?_getD, okKey, allKE, allKs, allK, cA, setH]
        · simp [-Bool.exists_bool, -Int.not_le, -Int.not_lt, -getElem?_pos, -List.getD_eq_getElem?_getD]
end Go.Proofs.YtjknjekemolndaaGreat.ZL
namespace Go.Proofs.YtjknjekemolndaaGreat.ZL
open Go Go.Proofs.YtjknjekemolndaaGreat.Abs Go.Proofs.YtjknjekemolndaaGreat.Abs.Pl Go.RowKit Go.Proofs
set_option linter.unusedVariables false
set_option linter.unusedSimpArgs false
set_option linter.unnecessarySimpa false
section
variable {H : Store} {nx : Nat} {inv : Key → Key} {p : Key → Prop}
mutual
theorem VLe_inv (hp : ∀ k, p k → inv k = k ∧ k.1 < nx) : ∀ {v : V}, allK p v → VLe H inv nx v v
  | .unk, _ => by unfold VLe; trivial
  | .d x, _ => by unfold VLe asDz; rfl
  | .nil, _ => by unfold VLe; rfl
  | .ref k n, h => by unfold allK at h; unfold VLe; rw [(hp k h).1]; exact ⟨rfl, (hp k h).2⟩
  | .sub k z o n, h => by unfold allK at h; unfold VLe; rw [(hp k h).1]; exact ⟨rfl, (hp k h).2⟩
  | .ptr k o, h => by unfold allK at h; unfold VLe; rw [(hp k h).1]; exact ⟨rfl, (hp k h).2⟩
  | .adr s o, h => by unfold allK at h; unfold VLe; exact ⟨rfl, VLe_inv hp h⟩
  | .agg c, h => by unfold allK at h; unfold VLe; exact VLes_inv hp h
  | .tup c, h => by unfold allK at h; unfold VLe; exact VLes_inv hp h
  | .fn f c, h => by unfold allK at h; unfold VLe; exact ⟨rfl, VLes_inv hp h⟩
theorem VLes_inv (hp : ∀ k, p k → inv k = k ∧ k.1 < nx) : ∀ {c : List V}, allKs p c → VLes H inv nx c c
  | [], _ => by unfold VLes; rfl
  | v :: r, h => by unfold allKs at h; unfold VLes; exact ⟨VLe_inv hp h.1, VLes_inv hp h.2⟩
end
end
mutual
theorem allK_mono {p q : Key → Prop} (hpq : ∀ k, p k → q k) : ∀ {v : V}, allK p v → allK q v
  | .unk, _ => by unfold allK; trivial
  | .d x, _ => by unfold allK; trivial
  | .nil, _ => by unfold allK; trivial
  | .ref k n, h => by unfold allK at h ⊢; exact hpq _ h
  | .sub k z o n, h => by unfold allK at h ⊢; exact hpq _ h
  | .ptr k o, h => by unfold allK at h ⊢; exact hpq _ h
  | .adr s o, h => by unfold allK at h ⊢; exact allK_mono hpq h
  | .agg c, h => by unfold allK at h ⊢; exact allKs_mono hpq h
  | .tup c, h => by unfold allK at h ⊢; exact allKs_mono hpq h
  | .fn f c, h => by unfold allK at h ⊢; exact allKs_mono hpq h
theorem allKs_mono {p q : Key → Prop} (hpq : ∀ k, p k → q k) : ∀ {c : List V}, allKs p c → allKs q c
  | [], _ => by unfold allKs; trivial
  | v :: r, h => by unfold allKs at h ⊢; exact ⟨allK_mono hpq h.1, allKs_mono hpq h.2⟩
end
theorem allKs_take {p : Key → Prop} {c : List V} (h : allKs p c) (i : Nat) : allKs p (c.take i) := allKs_iff.2 fun v hv => allKs_iff.1 h v (List.mem_of_mem_take hv)
theorem allKs_drop {p : Key → Prop} {c : List V} (h : allKs p c) (i : Nat) : allKs p (c.drop i) := allKs_iff.2 fun v hv => allKs_iff.1 h v (List.mem_of_mem_drop hv)
theorem allKs_app {p : Key → Prop} {c d : List V} (h : allKs p c) (h' : allKs p d) : allKs p (c ++ d) := allKs_iff.2 fun v hv => (List.mem_append.1 hv).elim (allKs_iff.1 h v) (allKs_iff.1 h' v)
def kA (b : Nat) (k : Key) : Prop := k.1 = 0 ∧ 1 ≤ k.2 ∧ k.2 ≤ b
def szC (i m : Nat) : Nat → Nat
  | 0 => 0
  | 1 => i
  | _ => i + m
def acC (c : List V) (i : Nat) : Nat → List V
  | 0 => []
  | 1 => c.take (i * 3)
  | _ => c.take (i * 3) ++ c.drop ((i + 1) * 3)
theorem iConcatO (b : Nat) (c : List V) (n i m : Nat) (hb : 2 ≤ b) (hn : c.length = n * 3) (hm : i + 1 + m = n) (h16 : n ≤ 1000) (hone : c.all V.one = true) (hk : allKs (kA b) c) : Cm Tryz.prog 71 (kA b) [.ref (0, 1) 2] (hl [((0, 1), .row 24 2 [.sub (0, 2) 3 0 i, .sub (0, 2) 3 (i + 1) m]), ((0, 2), .row 66 n c)])
    (.ref (1, 0) (i + m)) (hl [((0, 2), .row 66 n c), ((1, 0), .row 66 (i + m) (c.take (i * 3) ++ c.drop ((i + 1) * 3)))]) := by
  refine Cm.of [] mixed Tryz.func71 rfl Tryz.call71 (by kernel_rfl) rfl ?_
  simp -implicitDefEqProofs -dsimp +contextual [-Bool.exists_bool, -Int.not_le, -Int.not_lt, -getElem?_pos, -List.getD_eq_getElem?_getD, Tryz.f71]
  have hs0 : szC i m 0 = 0 := rfl
  have hs1 : szC i m 1 = i := rfl
  have hs2 : szC i m 2 = i + m := rfl
  have wi : IntKind.wrap .i64 (i : Int) = i := wr (by omega) (by omega)
  have wim : IntKind.wrap .i64 ((i : Int) + m) = (i : Int) + m := wr (by omega) (by omega)
  have ni : ¬ ((i : Int) < 0) := by omega
  have nim : ¬ ((i : Int) + m < 0) := by omega
  have w11 : IntKind.wrap .i64 (1 : Int) = 1 := wr (by omega) (by omega)
  have w22 : IntKind.wrap .i64 (2 : Int) = 2 := wr (by omega) (by omega)
  have f0 : ∀ {nx : Nat}, 0 < nx → ∀ k : Key, kA b k → (fun x : Key => x) k = k ∧ k.1 < nx := fun h k hk => ⟨rfl, by rw [hk.1]; exact h⟩
  have f1 : ∀ {nx j : Nat}, 0 < nx → ∀ k : Key, kA b k → (fun x : Key => if x = (3, 0) then (j, 0) else x) k = k ∧ k.1 < nx := fun h k hk => ⟨if_neg (fun e => by have := hk.1; rw [e] at this; cases this), by rw [hk.1]; exact h⟩
  refine WP.loop mixed [] (fun k : Nat => ⟨tl [(0, .ref (0, 1) 2), (3, I (szC i m k)), (9, .ref (0, 1) 2), (10, I 2), (11, I k)], hl [((0, 1), .row 24 2 [.sub (0, 2) 3 0 i, .sub (0, 2) 3 (i + 1) m]), ((0, 2), .row 66 n c)], 2⟩) (fun k => k ≤ 2) (fun k => 2 - k) 0 (by kernel_rfl) ?_ ?_ ?_
  · refine Le.told [] ?_ ?_ ?_ <;> simp [-Bool.exists_bool, -Int.not_le, -Int.not_lt, -getElem?_pos, -List.getD_eq_getElem?_getD, hs0]
    exact VLes_inv (f0 (by omega)) hk
  · simp [-Bool.exists_bool, -Int.not_le, -Int.not_lt, -getElem?_pos, -List.getD_eq_getElem?_getD]
  · intro k hk2
    have : k = 0 ∨ k = 1 ∨ k = 2 := by omega
    rcases this with rfl | rfl | rfl
    · simp -implicitDefEqProofs -dsimp +contextual [-Bool.exists_bool, -Int.not_le, -Int.not_lt, -getElem?_pos, -List.getD_eq_getElem?_getD, hs0, wi, ni]
      refine ⟨1, by omega, by decide, ?_⟩
      refine Le.told [] ?_ ?_ ?_ <;> simp [-Bool.exists_bool, -Int.not_le, -Int.not_lt, -getElem?_pos, -List.getD_eq_getElem?_getD, hs1, w11]
      exact VLes_inv (f0 (by omega)) hk
    · simp -implicitDefEqProofs -dsimp +contextual [-Bool.exists_bool, -Int.not_le, -Int.not_lt, -getElem?_pos, -List.getD_eq_getElem?_getD, hs1, wim, nim]
      refine ⟨2, by omega, by decide, ?_⟩
      refine Le.told [] ?_ ?_ ?_ <;> simp [-Bool.exists_bool, -Int.not_le, -Int.not_lt, -getElem?_pos, -List.getD_eq_getElem?_getD, hs2, w22]
      exact VLes_inv (f0 (by omega)) hk
    · simp -implicitDefEqProofs -dsimp +contextual [-Bool.exists_bool, -Int.not_le, -Int.not_lt, -getElem?_pos, -List.getD_eq_getElem?_getD, hs2]
      rw [show ((i : Int) + m) = ((i + m : Nat) : Int) by omega]
      refine CallJ.same (iGrow (i + m) (by omega)) (by simp [-Bool.exists_bool, -Int.not_le, -Int.not_lt, -getElem?_pos, -List.getD_eq_getElem?_getD, allKs, allK]) ?_
      simp -implicitDefEqProofs -dsimp +contextual [-Bool.exists_bool, -Int.not_le, -Int.not_lt, -getElem?_pos, -List.getD_eq_getElem?_getD]
      have ha0 : acC c i 0 = [] := rfl
      have ha1 : acC c i 1 = c.take (i * 3) := rfl
      have ha2 : acC c i 2 = c.take (i * 3) ++ c.drop ((i + 1) * 3) := rfl
      have ho1 : (c.take (i * 3)).all V.one = true := by
        rw [List.all_eq_true] at hone ⊢
        exact fun v hv => hone v (List.mem_of_mem_take hv)
      have ho2 : (c.drop ((i + 1) * 3)).all V.one = true := by
        rw [List.all_eq_true] at hone ⊢
        exact fun v hv => hone v (List.mem_of_mem_drop hv)
      have hd2 : (c.drop ((i + 1) * 3)).take (m * 3) = c.drop ((i + 1) * 3) := List.take_of_length_le (by simp [-Bool.exists_bool, -Int.not_le, -Int.not_lt, -getElem?_pos, -List.getD_eq_getElem?_getD]; omega)
      refine WP.loop mixed [] (fun k : Nat => ⟨tl [(0, .ref (0, 1) 2), (6, .ref (3, 0) (szC i m k)), (25, .ref (0, 1) 2), (26, I 2), (27, I k)], hl [((0, 1), .row 24 2 [.sub (0, 2) 3 0 i, .sub (0, 2) 3 (i + 1) m]), ((0, 2), .row 66 n c), ((3, 0), .row 66 (szC i m k) (acC c i k))], 4⟩) (fun k => k ≤ 2) (fun k => 2 - k) 0 (by kernel_rfl) ?_ ?_ ?_
      · refine Le.told [((3, 0), (4, 0))] ?_ ?_ ?_ <;> simp [-Bool.exists_bool, -Int.not_le, -Int.not_lt, -getElem?_pos, -List.getD_eq_getElem?_getD, hs0, ha0]
        exact VLes_inv (f1 (by omega)) hk
      · simp [-Bool.exists_bool, -Int.not_le, -Int.not_lt, -getElem?_pos, -List.getD_eq_getElem?_getD]
      · intro k hk2
        have : k = 0 ∨ k = 1 ∨ k = 2 := by omega
        rcases this with rfl | rfl | rfl
        · simp -implicitDefEqProofs -dsimp +contextual [-Bool.exists_bool, -Int.not_le, -Int.not_lt, -getElem?_pos, -List.getD_eq_getElem?_getD, hs0, ha0, ho1]
          refine ⟨⟨by omega, by omega, by simp [-Bool.exists_bool, -Int.not_le, -Int.not_lt, -getElem?_pos, -List.getD_eq_getElem?_getD, maxLen]; omega⟩, 1, by omega, by decide, ?_⟩
          refine Le.told [((3, 0), (10, 0))] ?_ ?_ ?_ <;> simp [-Bool.exists_bool, -Int.not_le, -Int.not_lt, -getElem?_pos, -List.getD_eq_getElem?_getD, hs1, ha1, w11]
          exact ⟨VLes_inv (f1 (by omega)) hk, VLes_inv (f1 (by omega)) (allKs_take hk _)⟩
        · simp -implicitDefEqProofs -dsimp +contextual [-Bool.exists_bool, -Int.not_le, -Int.not_lt, -getElem?_pos, -List.getD_eq_getElem?_getD, hs1, ha1, ho2, hd2]
          refine ⟨⟨by omega, by omega, by simp [-Bool.exists_bool, -Int.not_le, -Int.not_lt, -getElem?_pos, -List.getD_eq_getElem?_getD, maxLen]; omega⟩, 2, by omega, by decide, ?_⟩
          refine Le.told [((3, 0), (10, 0))] ?_ ?_ ?_ <;> simp [-Bool.exists_bool, -Int.not_le, -Int.not_lt, -getElem?_pos, -List.getD_eq_getElem?_getD, hs2, ha2, w22]
          exact ⟨VLes_inv (f1 (by omega)) hk, VLes_inv (f1 (by omega)) (allKs_app (allKs_take hk _) (allKs_drop hk _))⟩
        · simp -implicitDefEqProofs -dsimp +contextual [-Bool.exists_bool, -Int.not_le, -Int.not_lt, -getElem?_pos, -List.getD_eq_getElem?_getD, hs2, ha2]
          refine RLm.toldL [((1, 0), (3, 0))] ?_ ?_ ?_ ?_ ?_
          · simp [-Bool.exists_bool, -Int.not_le, -Int.not_lt, -getElem?_pos, -List.getD_eq_getElem?_getD]
          · simp [-Bool.exists_bool, -Int.not_le, -Int.not_lt, -getElem?_pos, -List.getD_eq_getElem?_getD]
          · simp [-Bool.exists_bool, -Int.not_le, -Int.not_lt, -getElem?_pos, -List.getD_eq_getElem?_getD, allK, okKey]
          · simp [-Bool.exists_bool, -Int.not_le, -Int.not_lt, -getElem?_pos, -List.getD_eq_getElem?_getD, okKey, kA]
            have f2 : ∀ k : Key, kA b k → (fun x : Key => if x = (1, 0) then (3, 0) else x) k = k ∧ k.1 < 2 := fun k hk => ⟨if_neg (fun e => by have := hk.1; rw [e] at this; cases this), by rw [hk.1]; omega⟩
            have hj : allKs (okKey (kA b)) c := allKs_mono (p := kA b) (q := okKey (kA b)) (fun k hk _ => hk) hk
            exact ⟨⟨hb, hj, VLes_inv f2 hk⟩, allKs_app (allKs_take hj _) (allKs_drop hj _), VLes_inv f2 (allKs_app (allKs_take hk _) (allKs_drop hk _))⟩
          · simp [-Bool.exists_bool, -Int.not_le, -Int.not_lt, -getElem?_pos, -List.getD_eq_getElem?_getD]
end Go.Proofs.YtjknjekemolndaaGreat.ZL
namespace Go.Proofs.YtjknjekemolndaaGreat.ZL
open Go Go.Proofs.YtjknjekemolndaaGreat.Abs Go.Proofs.YtjknjekemolndaaGreat.Abs.Pl Go.RowKit Go.Proofs
set_option linter.unusedVariables false
set_option linter.unusedSimpArgs false
theorem rA_shift {f g : Nat → Key} : ∀ (L : List At) (a b : Nat), (∀ i, f (a + i) = g (b + i)) → rA f a L = rA g b L
  | [], _, _, _ => rfl
  | x :: L, a, b, h => by
    have h0 := h 0
    simp only [Nat.add_zero] at h0
    have ih := rA_shift (f := f) (g := g) L (a + 1) (b + 1) (fun i => by have := h (i + 1); rwa [show a + (i + 1) = a + 1 + i by omega, show b + (i + 1) = b + 1 + i by omega] at this)
    simp only [rA, h0, ih]
def cutI (i j : Nat) : Nat := if j < i then j else j + 1
def cutL (x : List At) (i : Nat) : List At := x.take i ++ x.drop (i + 1)
theorem cutL_len {x : List At} {i : Nat} (h : i < x.length) : (cutL x i).length + 1 = x.length := by simp [-Bool.exists_bool, -Int.not_le, -Int.not_lt, -getElem?_pos, -List.getD_eq_getElem?_getD, cutL]; omega
theorem cutI_inj {i a b : Nat} (h : cutI i a = cutI i b) : a = b := by unfold cutI at h; split at h <;> split at h <;> omega
theorem cutI_lt {x : List At} {i j : Nat} (h : i < x.length) (hj : j < (cutL x i).length) : cutI i j < x.length := by have := cutL_len h; unfold cutI; split <;> omega
theorem cutL_nth {x : List At} {i j : Nat} (h : i < x.length) (hj : j < (cutL x i).length) : nth (cutL x i) j = nth x (cutI i j) := by
  have hc := cutI_lt h hj
  have hj' : j < (x.take i ++ x.drop (i + 1)).length := hj
  rw [nth_eq hc, show nth (cutL x i) j = (x.take i ++ x.drop (i + 1))[j] from nth_eq hj']
  unfold cutI at hc ⊢
  split
  · rename_i h1
    rw [List.getElem_append_left (by simp [-Bool.exists_bool, -Int.not_le, -Int.not_lt, -getElem?_pos, -List.getD_eq_getElem?_getD]; omega)]
    simp [-Bool.exists_bool, -Int.not_le, -Int.not_lt, -getElem?_pos, -List.getD_eq_getElem?_getD]
  · rename_i h1
    rw [List.getElem_append_right (by simp [-Bool.exists_bool, -Int.not_le, -Int.not_lt, -getElem?_pos, -List.getD_eq_getElem?_getD]; omega)]
    simp [-Bool.exists_bool, -Int.not_le, -Int.not_lt, -getElem?_pos, -List.getD_eq_getElem?_getD]
    congr 1
    omega
theorem rA_cutout (f : Nat → Key) (x : List At) (i : Nat) (h : i < x.length) : (rA f 0 x).take (i * 3) ++ (rA f 0 x).drop ((i + 1) * 3) = rA (fun j => f (cutI i j)) 0 (cutL x i) := by
  rw [rA_take, rA_dropE, cutL, rA_append]
  have hl : (x.take i).length = i := by simp [-Bool.exists_bool, -Int.not_le, -Int.not_lt, -getElem?_pos, -List.getD_eq_getElem?_getD]; omega
  congr 1
  · exact rA_congr _ 0 fun j hj => by
      rw [hl] at hj
      show f (0 + j) = f (cutI i (0 + j))
      unfold cutI
      rw [if_pos (by omega)]
  · rw [hl]
    exact rA_shift _ _ _ fun j => by
      show f (0 + (i + 1) + j) = f (cutI i (0 + i + j))
      unfold cutI
      rw [if_neg (by omega)]
      congr 1
      omega
def upCon (s : Nat) (pr ka : Key) (sf i : Nat) (x : List At) : Key → Option (Option Ent) := fun k => if k.1 = s then (if k.2 = 0 then some (some (.row 66 (cutL x i).length (rA (fun j => (sf, cutI i j)) 0 (cutL x i)))) else none) else
  if k = pr then some none else if k = ka then some (some (.row 66 x.length (rA (fun j => (sf, j)) 0 x))) else none
theorem callConcat {N nx s : Nat} {H : Store} {K : Eff → Prop} (pr ka : Key) (sf i m : Nat) (x : List At) (hm : i + 1 + m = x.length) (h16 : x.length ≤ 1000)
    (hp : H pr = some (.row 24 2 [.sub ka 3 0 i, .sub ka 3 (i + 1) m])) (ha : H ka = some (.row 66 x.length (rA (fun j => (sf, j)) 0 x))) (hF : ∀ j, j < x.length → H (sf, j) = some (rowA (nth x j)))
    (hn : ka.1 < nx) (hs : sf < nx) (hpa : pr ≠ ka)
    (hk : K ⟨.ref (s, 0) (cutL x i).length, pr :: ka :: (List.range x.length).map (fun j => (sf, j)), [pr, ka], upCon s pr ka sf i x⟩) : CallJ Tryz.prog N nx s H 71 [.ref pr 2] K := by
  let g : Nat → Key := fun j => match j with
    | 0 => pr
    | 1 => ka
    | j + 2 => (sf, j)
  let gi : Key → Option Nat := fun k => if k = pr then some 0 else if k = ka then some 1 else none
  have hi : i < x.length := by omega
  have hcl := cutL_len hi
  have him : i + m = (cutL x i).length := by omega
  have h := iConcatO (2 + x.length) (rA (fun j => (0, j + 3)) 0 x) x.length i m (by omega) (by simp [-Bool.exists_bool, -Int.not_le, -Int.not_lt, -getElem?_pos, -List.getD_eq_getElem?_getD]) hm h16 (rA_one _ _ _) (rA_allKs _ _ 0 fun j hj => ⟨rfl, by show 1 ≤ 0 + j + 3; omega, by show 0 + j + 3 ≤ _; omega⟩)
  rw [rA_cutout _ _ _ hi, him] at h
  have gA : (fun i => gk g s (0, i + 3)) = fun j => (sf, j) := rfl
  have gp : gi pr = some 0 := if_pos rfl
  have ga : gi ka = some 1 := by show (if ka = pr then _ else if ka = ka then _ else _) = _; rw [if_neg (fun h => hpa h.symm), if_pos rfl]
  have hup : upMut g gi s (hl [((0, 2), .row 66 x.length (rA (fun j => (0, j + 3)) 0 x)), ((1, 0), .row 66 (cutL x i).length (rA (fun j => (0, cutI i j + 3)) 0 (cutL x i)))]) = upCon s pr ka sf i x := by
    funext k
    obtain ⟨a, b⟩ := k
    unfold upMut upCon
    by_cases h1 : a = s
    · simp only [if_pos h1]
      cases b with
      | zero =>
        simp [-Bool.exists_bool, -Int.not_le, -Int.not_lt, -getElem?_pos, -List.getD_eq_getElem?_getD, mapE, rA_mapL]
        rfl
      | succ b => simp [-Bool.exists_bool, -Int.not_le, -Int.not_lt, -getElem?_pos, -List.getD_eq_getElem?_getD]
    · simp only [if_neg h1]
      by_cases h2 : (a, b) = pr
      · rw [h2, gp]; simp [-Bool.exists_bool, -Int.not_le, -Int.not_lt, -getElem?_pos, -List.getD_eq_getElem?_getD]
      · by_cases h3 : (a, b) = ka
        · rw [h3, ga, if_neg (fun h => hpa h.symm)]
          simp [-Bool.exists_bool, -Int.not_le, -Int.not_lt, -getElem?_pos, -List.getD_eq_getElem?_getD, mapE, rA_mapL]
          rfl
        · have : gi (a, b) = none := by show (if _ then _ else if _ then _ else _) = _; rw [if_neg h2, if_neg h3]
          rw [this, if_neg h2, if_neg h3]
  rw [← hup] at hk
  refine CallJ.mut g gi [pr, ka] ((List.range x.length).map fun j => (sf, j)) h rfl (by simp [-Bool.exists_bool, -Int.not_le, -Int.not_lt, -getElem?_pos, -List.getD_eq_getElem?_getD, allKs, allK, kA]; omega) ?_ ?_ ?_ ?_ ?_ ?_ hk
  · rintro ⟨a, b⟩ ⟨rfl, h1, h2⟩
    refine ⟨rfl, h1, ?_⟩
    match b, h1, h2 with
    | 1, _, _ => exact ⟨by show (H pr).isSome = true; rw [hp]; rfl, by show pr ∈ _; simp [-Bool.exists_bool, -Int.not_le, -Int.not_lt, -getElem?_pos, -List.getD_eq_getElem?_getD]⟩
    | 2, _, _ => exact ⟨by show (H ka).isSome = true; rw [ha]; rfl, by show ka ∈ _; simp [-Bool.exists_bool, -Int.not_le, -Int.not_lt, -getElem?_pos, -List.getD_eq_getElem?_getD]⟩
    | j + 3, _, h2 => exact ⟨by show (H (sf, j)).isSome = true; rw [hF j (by show j < _; have : j + 3 ≤ 2 + x.length := h2; omega)]; rfl, by show (sf, j) ∈ _; simp [-Bool.exists_bool, -Int.not_le, -Int.not_lt, -getElem?_pos, -List.getD_eq_getElem?_getD]; exact .inr (.inr (by have : j + 3 ≤ 2 + x.length := h2; omega))⟩
  · intro k e hk
    have := hl_mem hk
    simp only [List.mem_cons, List.not_mem_nil, or_false, Prod.mk.injEq] at this
    rcases this with ⟨rfl, rfl⟩ | ⟨rfl, rfl⟩
    · exact ⟨⟨rfl, by simp [-Bool.exists_bool, -Int.not_le, -Int.not_lt, -getElem?_pos, -List.getD_eq_getElem?_getD], by simp [-Bool.exists_bool, -Int.not_le, -Int.not_lt, -getElem?_pos, -List.getD_eq_getElem?_getD]; omega⟩, hp, by simp [-Bool.exists_bool, -Int.not_le, -Int.not_lt, -getElem?_pos, -List.getD_eq_getElem?_getD, allKE, allKs, allK, kA], gp⟩
    · refine ⟨⟨rfl, by simp [-Bool.exists_bool, -Int.not_le, -Int.not_lt, -getElem?_pos, -List.getD_eq_getElem?_getD], by simp [-Bool.exists_bool, -Int.not_le, -Int.not_lt, -getElem?_pos, -List.getD_eq_getElem?_getD]⟩, ?_, ?_, ga⟩
      · show H ka = _
        rw [ha]
        simp only [mapE, rA_mapL]
        rw [gA]
      · simp only [allKE]
        exact rA_allKs _ _ 0 fun j hj => ⟨rfl, by show 1 ≤ 0 + j + 3; omega, by show 0 + j + 3 ≤ _; omega⟩
  · intro k j hg
    by_cases h2 : k = pr
    · subst h2
      rw [gp] at hg
      obtain rfl := Option.some.inj hg
      exact ⟨rfl, by simp [-Bool.exists_bool, -Int.not_le, -Int.not_lt, -getElem?_pos, -List.getD_eq_getElem?_getD], by simp [-Bool.exists_bool, -Int.not_le, -Int.not_lt, -getElem?_pos, -List.getD_eq_getElem?_getD]⟩
    · by_cases h3 : k = ka
      · subst h3
        rw [ga] at hg
        obtain rfl := Option.some.inj hg
        exact ⟨rfl, by simp [-Bool.exists_bool, -Int.not_le, -Int.not_lt, -getElem?_pos, -List.getD_eq_getElem?_getD], by simp [-Bool.exists_bool, -Int.not_le, -Int.not_lt, -getElem?_pos, -List.getD_eq_getElem?_getD]⟩
      · have : gi k = none := by show (if _ then _ else if _ then _ else _) = _; rw [if_neg h2, if_neg h3]
        rw [this] at hg
        exact absurd hg (by simp [-Bool.exists_bool, -Int.not_le, -Int.not_lt, -getElem?_pos, -List.getD_eq_getElem?_getD])
  · intro k hk
    simp only [List.mem_cons, List.not_mem_nil, or_false] at hk
    rcases hk with rfl | rfl
    · rw [gp]; rfl
    · rw [ga]; rfl
  · intro k e hk
    have := hl_mem hk
    simp only [List.mem_cons, List.not_mem_nil, or_false, Prod.mk.injEq] at this
    rcases this with ⟨rfl, rfl⟩ | ⟨rfl, rfl⟩
    · exact ⟨by simp [-Bool.exists_bool, -Int.not_le, -Int.not_lt, -getElem?_pos, -List.getD_eq_getElem?_getD], fun _ => by simp [-Bool.exists_bool, -Int.not_le, -Int.not_lt, -getElem?_pos, -List.getD_eq_getElem?_getD]⟩
    · exact ⟨by simp [-Bool.exists_bool, -Int.not_le, -Int.not_lt, -getElem?_pos, -List.getD_eq_getElem?_getD], fun h => by simp [-Bool.exists_bool, -Int.not_le, -Int.not_lt, -getElem?_pos, -List.getD_eq_getElem?_getD] at h⟩
  · intro k hk
    simp only [List.mem_append, List.mem_cons, List.not_mem_nil, or_false, List.mem_map, List.mem_range] at hk
    rcases hk with (rfl | rfl) | ⟨j, hj, rfl⟩
    · exact ⟨by rw [hp]; rfl, .inr (by simp [-Bool.exists_bool, -Int.not_le, -Int.not_lt, -getElem?_pos, -List.getD_eq_getElem?_getD, slotsL, slotsV])⟩
    · exact ⟨by rw [ha]; rfl, .inl hn⟩
    · exact ⟨by rw [hF j hj]; rfl, .inl hs⟩
theorem upCon_s (s : Nat) (pr ka : Key) (sf i : Nat) (x : List At) (H : Store) : app (upCon s pr ka sf i x) H (s, 0) = some (.row 66 (cutL x i).length (rA (fun j => (sf, cutI i j)) 0 (cutL x i))) := by simp [-Bool.exists_bool, -Int.not_le, -Int.not_lt, -getElem?_pos, -List.getD_eq_getElem?_getD, app, upCon]
theorem upCon_ka {s : Nat} {pr ka : Key} {sf i : Nat} {x : List At} {H : Store} (h : ka.1 ≠ s) (hp : ka ≠ pr) : app (upCon s pr ka sf i x) H ka = some (.row 66 x.length (rA (fun j => (sf, j)) 0 x)) := by simp [-Bool.exists_bool, -Int.not_le, -Int.not_lt, -getElem?_pos, -List.getD_eq_getElem?_getD, app, upCon, h, hp]
theorem upCon_ne {s : Nat} {pr ka : Key} {sf i : Nat} {x : List At} {H : Store} {k : Key} (h : k.1 ≠ s) (hp : k ≠ pr) (hk : k ≠ ka) : app (upCon s pr ka sf i x) H k = H k := by simp [-Bool.exists_bool, -Int.not_le, -Int.not_lt, -getElem?_pos, -List.getD_eq_getElem?_getD, app, upCon, h, hp, hk]
end Go.Proofs.YtjknjekemolndaaGreat.ZL
namespace Go.Proofs.YtjknjekemolndaaGreat.ZL
open Go Go.Proofs.YtjknjekemolndaaGreat.Abs Go.Proofs.YtjknjekemolndaaGreat.Abs.Pl Go.RowKit Go.Proofs
set_option linter.unusedVariables false
set_option linter.unusedSimpArgs false
theorem lendCut {H : Store} {s sf i : Nat} {x : List At} {d : Int} (hr : H (s, 0) = some (.row 66 (cutL x i).length (rA (fun j => (sf, cutI i j)) 0 (cutL x i)))) (hF : ∀ j, j < x.length → H (sf, j) = some (rowA (nth x j))) (hi : i < x.length) :
    lendVs true H 2 [.agg [I d, .ref (s, 0) (cutL x i).length], .agg ((rA (fun j => (sf, j)) i (x.drop i)).take 3)] = some ([C1 d (cutL x i), A1 (nth x i)], (s, 0) :: (List.range (cutL x i).length).map (fun j => (sf, cutI i j)) ++ [(sf, i)]) := by
  have h1 : lendD true H 2 (.ref (s, 0) (cutL x i).length) = some (.sl (cutL x i).length (asD (cutL x i)), (s, 0) :: (List.range (cutL x i).length).map (fun j => (sf, cutI i j))) := by
    rw [lendD_ref, hr]
    simp only [lendR, rA_lend (H := H) (n := 0) (f := fun j => (sf, cutI i j)) (cutL x i) 0 (fun j hj => by rw [Nat.zero_add, cutL_nth hi hj]; exact hF _ (cutI_lt hi hj)), consK]
    simp [-Bool.exists_bool, -Int.not_le, -Int.not_lt, -getElem?_pos, -List.getD_eq_getElem?_getD]
  have h2 : lendV true H 2 (.agg [I d, .ref (s, 0) (cutL x i).length]) = some (C1 d (cutL x i), (s, 0) :: (List.range (cutL x i).length).map (fun j => (sf, cutI i j))) := by
    simp only [lendV, List.map_cons, List.map_nil, joinO, h1, lendD_d]
    simp [-Bool.exists_bool, -Int.not_le, -Int.not_lt, -getElem?_pos, -List.getD_eq_getElem?_getD]
  rw [rA_cut0 _ _ _ hi]
  simp only [lendVs, h2]
  simp [-Bool.exists_bool, -Int.not_le, -Int.not_lt, -getElem?_pos, -List.getD_eq_getElem?_getD, lendV, lendD_ref, hF i hi, lendR, rowA]
theorem iMinimalCellO (d : Int) (L : List At) (h20 : L.length ≤ 1048576) : Cn Tryz.prog 114 [C1 d L] (oV (minD d L)) (oH (minD d L)) := by
  refine Cn.of [0, 47] mixed Tryz.func114 rfl Tryz.call114 (by kernel_rfl) rfl ?_
  simp -implicitDefEqProofs -dsimp +contextual [-Bool.exists_bool, -Int.not_le, -Int.not_lt, -getElem?_pos, -List.getD_eq_getElem?_getD, Tryz.f114]
  refine CallJ.pure (iNormalCell d L h20) rfl (by simp [-Bool.exists_bool, -Int.not_le, -Int.not_lt, -getElem?_pos, -List.getD_eq_getElem?_getD]) ?_
  by_cases h1 : isCe d L = true
  rotate_left
  · have e1 : oV (normD d L) = .tup [.agg [I 0, .nil], B false] := by rw [normD, if_neg h1]; exact oV_f (by simp [-Bool.exists_bool, -Int.not_le, -Int.not_lt, -getElem?_pos, -List.getD_eq_getElem?_getD])
    have e2 : oH (normD d L) = hemp := by rw [normD, if_neg h1]; exact oH_f (by simp [-Bool.exists_bool, -Int.not_le, -Int.not_lt, -getElem?_pos, -List.getD_eq_getElem?_getD])
    have e3 : oV (minD d L) = .tup [.agg [I 0, .nil], B false] := by rw [minD, if_neg h1]; exact oV_f (by simp [-Bool.exists_bool, -Int.not_le, -Int.not_lt, -getElem?_pos, -List.getD_eq_getElem?_getD])
    have e4 : oH (minD d L) = hemp := by rw [minD, if_neg h1]; exact oH_f (by simp [-Bool.exists_bool, -Int.not_le, -Int.not_lt, -getElem?_pos, -List.getD_eq_getElem?_getD])
    rw [e1, e2, e3, e4]
    simp -implicitDefEqProofs -dsimp +contextual [-Bool.exists_bool, -Int.not_le, -Int.not_lt, -getElem?_pos, -List.getD_eq_getElem?_getD]
    exact RLe.emp (by simp [-Bool.exists_bool, -Int.not_le, -Int.not_lt, -getElem?_pos, -List.getD_eq_getElem?_getD])
  have hd := isCe_d h1
  have h16 := nrm_16 d L (isCe_l h1)
  have hok := nrm_okL hd (isCe_a h1)
  have e1 : oV (normD d L) = .tup [O1 d (nrm d L), B true] := by rw [normD, if_pos h1]; exact oV_t rfl
  have e2 : oH (normD d L) = ownR (nrm d L) := by rw [normD, if_pos h1]; exact oH_t rfl
  rw [e1, e2, minD, if_pos h1]
  generalize nrm d L = K at h16 hok ⊢
  simp -implicitDefEqProofs -dsimp +contextual [-Bool.exists_bool, -Int.not_le, -Int.not_lt, -getElem?_pos, -List.getD_eq_getElem?_getD]
  have hO : Owns (setH (8, 0) (some (Ent.box [V.d (D.int IntKind.i64 d), V.ref (4, 0) K.length])) (setH (8, 0) (some (Ent.box [V.d (D.int IntKind.i64 0), V.nil])) (app (upCall 4 (ownR K)) (setH (1, 0) (some (Ent.box [V.d (D.int IntKind.i64 0), V.nil])) (setH (0, 0) (some (Ent.box [I d, As L])) hemp))))) 4 K := ((Owns.call 4 K _).set (by simp [-Bool.exists_bool, -Int.not_le, -Int.not_lt, -getElem?_pos, -List.getD_eq_getElem?_getD])).set (by simp [-Bool.exists_bool, -Int.not_le, -Int.not_lt, -getElem?_pos, -List.getD_eq_getElem?_getD])
  refine CallJ.lent (ks := famK 4 0 K.length) 2 (iIsEmptyCell d K (by omega)) (lends1 (c1 := (d, K)) hO) (fun k hk => .inl (famK_lt (by omega) k hk)) rfl (by simp [-Bool.exists_bool, -Int.not_le, -Int.not_lt, -getElem?_pos, -List.getD_eq_getElem?_getD]) ?_
  simp -implicitDefEqProofs -dsimp +contextual [-Bool.exists_bool, -Int.not_le, -Int.not_lt, -getElem?_pos, -List.getD_eq_getElem?_getD]
  refine ⟨fun c1 => ?_, fun c1 => ?_⟩
  rotate_left
  · rw [minC, if_neg (by simp [-Bool.exists_bool, -Int.not_le, -Int.not_lt, -getElem?_pos, -List.getD_eq_getElem?_getD, c1]), oV_f (by simp [-Bool.exists_bool, -Int.not_le, -Int.not_lt, -getElem?_pos, -List.getD_eq_getElem?_getD]), oH_f (by simp [-Bool.exists_bool, -Int.not_le, -Int.not_lt, -getElem?_pos, -List.getD_eq_getElem?_getD])]
    exact RLe.emp (by simp [-Bool.exists_bool, -Int.not_le, -Int.not_lt, -getElem?_pos, -List.getD_eq_getElem?_getD])
  refine ⟨fun c2 => ?_, fun c2 => ?_⟩
  · refine CallJ.pure (iEmptyCell d hd) rfl (by simp [-Bool.exists_bool, -Int.not_le, -Int.not_lt, -getElem?_pos, -List.getD_eq_getElem?_getD]) ?_
    simp -implicitDefEqProofs -dsimp +contextual [-Bool.exists_bool, -Int.not_le, -Int.not_lt, -getElem?_pos, -List.getD_eq_getElem?_getD, c1, c2]
    rw [minC, if_pos c1, if_pos c2, oV_t rfl, oH_t rfl]
    refine RLe.pass 25 [noneA d] ?_ ?_ ?_
    · simp [-Bool.exists_bool, -Int.not_le, -Int.not_lt, -getElem?_pos, -List.getD_eq_getElem?_getD, invO]
    · simp [-Bool.exists_bool, -Int.not_le, -Int.not_lt, -getElem?_pos, -List.getD_eq_getElem?_getD, setH]
    · intro j hj; simp [-Bool.exists_bool, -Int.not_le, -Int.not_lt, -getElem?_pos, -List.getD_eq_getElem?_getD, setH, upOwn_j _ _ _ _ hj]
  have e0 : minC d K = (match minGo d K.length 0 K with | some y => (d, y, true) | none => (0, [], false)) := by rw [minC, if_pos c1, if_neg (by simp [-Bool.exists_bool, -Int.not_le, -Int.not_lt, -getElem?_pos, -List.getD_eq_getElem?_getD, c2])]; try rfl
  refine WP.loop mixed [0, 47] (fun p : Nat × List At => ⟨tl [(1, .ptr (0, 0) 0), (2, .ptr (1, 0) 0), (4, .ptr (2, 0) 0), (7, I p.1)], famS 4 (ownA p.2) (hl [((0, 0), .box [I d, As L]), ((1, 0), .box [I 0, .nil]), ((2, 0), .box [I d, .ref (3, 0) p.2.length]), ((3, 0), .row 66 p.2.length (rA (fun j => (4, j)) 0 p.2))]), 5⟩)
    (fun p => p.1 ≤ p.2.length ∧ p.2.length ≤ 16 ∧ allOk d p.2 ∧ minGo d K.length 0 K = minGo d (p.2.length - p.1) p.1 p.2) (fun p => p.2.length - p.1) (0, K) (by kernel_rfl) ?_ ?_ ?_
  · refine Le.fam 4 K (fun j => (4, j + 1)) [((2, 0), (8, 0)), ((3, 0), (4, 0))] ?_ ?_ ?_ ?_ ?_ ?_
    · simp [-Bool.exists_bool, -Int.not_le, -Int.not_lt, -getElem?_pos, -List.getD_eq_getElem?_getD, invF]
    · simp [-Bool.exists_bool, -Int.not_le, -Int.not_lt, -getElem?_pos, -List.getD_eq_getElem?_getD, setH, ELe, invF]
      exact rA_VLes _ 0 fun j hj => ⟨by simp [-Bool.exists_bool, -Int.not_le, -Int.not_lt, -getElem?_pos, -List.getD_eq_getElem?_getD, invF], by show 4 < 5; omega⟩
    · simp [-Bool.exists_bool, -Int.not_le, -Int.not_lt, -getElem?_pos, -List.getD_eq_getElem?_getD]
    · intro j hj; simp [-Bool.exists_bool, -Int.not_le, -Int.not_lt, -getElem?_pos, -List.getD_eq_getElem?_getD, setH, upOwn_j _ _ _ _ hj]
    · simp [-Bool.exists_bool, -Int.not_le, -Int.not_lt, -getElem?_pos, -List.getD_eq_getElem?_getD]
    · intro j hj; simp [-Bool.exists_bool, -Int.not_le, -Int.not_lt, -getElem?_pos, -List.getD_eq_getElem?_getD]
  · exact ⟨Nat.zero_le _, h16, hok, rfl⟩
  · rintro ⟨i, x⟩ ⟨hi, hx, hxo, he⟩
    simp only at hi hx hxo he
    by_cases h : i < x.length
    · have hw : IntKind.wrap .i64 ((i : Int) + 1) = (i : Int) + 1 := wr (by omega) (by omega)
      have hw2 : ((i : Int) + 1).toNat = i + 1 := by omega
      have hmin : min i x.length = i := by omega
      have e2 : repV 2 [V.nil] = [V.nil, V.nil] := rfl
      obtain ⟨n, hn⟩ : ∃ n, x.length - i = n + 1 := ⟨x.length - i - 1, by omega⟩
      rw [hn, minGo] at he
      simp -implicitDefEqProofs -dsimp +contextual [-Bool.exists_bool, -Int.not_le, -Int.not_lt, -getElem?_pos, -List.getD_eq_getElem?_getD, h, hw, hw2, e2]
      refine ⟨by omega, ⟨by omega, by omega⟩, ?_⟩
      refine callConcat (21, 0) (3, 0) 4 i (x.length - (i + 1)) x (by omega) (by omega) (by simp [-Bool.exists_bool, -Int.not_le, -Int.not_lt, -getElem?_pos, -List.getD_eq_getElem?_getD, setH]) (by simp [-Bool.exists_bool, -Int.not_le, -Int.not_lt, -getElem?_pos, -List.getD_eq_getElem?_getD, setH]) (by intro j hj; simp [-Bool.exists_bool, -Int.not_le, -Int.not_lt, -getElem?_pos, -List.getD_eq_getElem?_getD, setH, ownA_lt hj]) (by decide) (by decide) (by decide) ?_
      simp -implicitDefEqProofs -dsimp +contextual [-Bool.exists_bool, -Int.not_le, -Int.not_lt, -getElem?_pos, -List.getD_eq_getElem?_getD, h, hw, hw2]
      refine ⟨Quiet.of [1] (by kernel_rfl) (by simp [-Bool.exists_bool, -Int.not_le, -Int.not_lt, -getElem?_pos, -List.getD_eq_getElem?_getD, allP, offB]), ?_⟩
      simp -implicitDefEqProofs -dsimp +contextual [-Bool.exists_bool, -Int.not_le, -Int.not_lt, -getElem?_pos, -List.getD_eq_getElem?_getD, h, hw, hw2, setH, upCon_s, upCon_ka, upCon_ne]
      refine ⟨Quiet.of [] (by kernel_rfl) (by simp [-Bool.exists_bool, -Int.not_le, -Int.not_lt, -getElem?_pos, -List.getD_eq_getElem?_getD, allP]), ?_⟩
      have hro : allOk d (cutL x i) := fun y hy => by
        rcases List.mem_append.1 hy with hy | hy
        · exact hxo y (List.mem_of_mem_take hy)
        · exact hxo y (List.mem_of_mem_drop hy)
      have hcl := cutL_len h
      have hI := iImpliesAtom (d, cutL x i) (nth x i) (by show (cutL x i).length ≤ 1048576; omega) (okA_small (hxo _ (nth_mem h)))
      rw [show x.take i ++ x.drop (i + 1) = cutL x i from rfl] at he
      generalize impA (d, cutL x i) (nth x i) = q at he hI
      refine CallJ.lent (ks := (22, 0) :: (List.range (cutL x i).length).map (fun j => (4, cutI i j)) ++ [(4, i)]) 2 hI (lendCut ?_ ?_ h) ?_ rfl (by simp [-Bool.exists_bool, -Int.not_le, -Int.not_lt, -getElem?_pos, -List.getD_eq_getElem?_getD]) ?_
      · simp [-Bool.exists_bool, -Int.not_le, -Int.not_lt, -getElem?_pos, -List.getD_eq_getElem?_getD, setH, upCon_s]
      · intro j hj; simp [-Bool.exists_bool, -Int.not_le, -Int.not_lt, -getElem?_pos, -List.getD_eq_getElem?_getD, setH, upCon_ne, ownA_lt hj]
      · simp [-Bool.exists_bool, -Int.not_le, -Int.not_lt, -getElem?_pos, -List.getD_eq_getElem?_getD, slotsL, slotsV]
        rintro a b (⟨_, _, rfl, _⟩ | ⟨rfl, _⟩) <;> exact .inl (by omega)
      simp -implicitDefEqProofs -dsimp +contextual [-Bool.exists_bool, -Int.not_le, -Int.not_lt, -getElem?_pos, -List.getD_eq_getElem?_getD, h, hw, hw2, setH, upCon_ne]
      refine ⟨fun b1 => ⟨fun b2 => ?_, fun b2 => ?_⟩, fun b1 => ?_⟩
      · rw [if_pos b1, if_pos b2] at he
        refine ⟨i, cutL x i, ⟨by omega, by omega, hro, by rw [he]; congr 1; omega⟩, by omega, ?_⟩
        refine Le.fam 4 (cutL x i) (fun j => (4, cutI i j)) [((3, 0), (22, 0))] ?_ ?_ ?_ ?_ ?_ ?_
        · simp [-Bool.exists_bool, -Int.not_le, -Int.not_lt, -getElem?_pos, -List.getD_eq_getElem?_getD, invF]
        · simp [-Bool.exists_bool, -Int.not_le, -Int.not_lt, -getElem?_pos, -List.getD_eq_getElem?_getD, setH, ELe, invF, upCon_s, upCon_ne]
          exact rA_VLes _ 0 fun j hj => ⟨by simp [-Bool.exists_bool, -Int.not_le, -Int.not_lt, -getElem?_pos, -List.getD_eq_getElem?_getD, invF], by show 4 < 5; omega⟩
        · simp [-Bool.exists_bool, -Int.not_le, -Int.not_lt, -getElem?_pos, -List.getD_eq_getElem?_getD]
        · intro j hj; simp [-Bool.exists_bool, -Int.not_le, -Int.not_lt, -getElem?_pos, -List.getD_eq_getElem?_getD, setH, upCon_ne, cutL_nth h hj, ownA_lt (cutI_lt h hj)]
        · intro a b _ _ hab; injection hab with _ hab; exact cutI_inj hab
        · intro j hj; simp [-Bool.exists_bool, -Int.not_le, -Int.not_lt, -getElem?_pos, -List.getD_eq_getElem?_getD]
      · rw [if_pos b1, if_neg (by simp [-Bool.exists_bool, -Int.not_le, -Int.not_lt, -getElem?_pos, -List.getD_eq_getElem?_getD, b2])] at he
        refine ⟨i + 1, x, ⟨h, hx, hxo, by rw [he]; congr 1; omega⟩, by omega, ?_⟩
        refine Le.fam 4 x (fun j => (4, j)) [] ?_ ?_ ?_ ?_ ?_ ?_
        · simp [-Bool.exists_bool, -Int.not_le, -Int.not_lt, -getElem?_pos, -List.getD_eq_getElem?_getD, invF]
        · simp [-Bool.exists_bool, -Int.not_le, -Int.not_lt, -getElem?_pos, -List.getD_eq_getElem?_getD, setH, ELe, invF, upCon_ka, upCon_ne]
          exact rA_VLes _ 0 fun j hj => ⟨by simp [-Bool.exists_bool, -Int.not_le, -Int.not_lt, -getElem?_pos, -List.getD_eq_getElem?_getD, invF], by show 4 < 5; omega⟩
        · simp [-Bool.exists_bool, -Int.not_le, -Int.not_lt, -getElem?_pos, -List.getD_eq_getElem?_getD]
        · intro j hj; simp [-Bool.exists_bool, -Int.not_le, -Int.not_lt, -getElem?_pos, -List.getD_eq_getElem?_getD, setH, upCon_ne, ownA_lt hj]
        · intro a b _ _ hab; injection hab
        · intro j hj; simp [-Bool.exists_bool, -Int.not_le, -Int.not_lt, -getElem?_pos, -List.getD_eq_getElem?_getD]
      · rw [e0, he, if_neg (by simp [-Bool.exists_bool, -Int.not_le, -Int.not_lt, -getElem?_pos, -List.getD_eq_getElem?_getD, b1]), oV_f (by simp [-Bool.exists_bool, -Int.not_le, -Int.not_lt, -getElem?_pos, -List.getD_eq_getElem?_getD]), oH_f (by simp [-Bool.exists_bool, -Int.not_le, -Int.not_lt, -getElem?_pos, -List.getD_eq_getElem?_getD])]
        exact RLe.emp (by simp [-Bool.exists_bool, -Int.not_le, -Int.not_lt, -getElem?_pos, -List.getD_eq_getElem?_getD])
    · rw [show x.length - i = 0 by omega, minGo] at he
      simp -implicitDefEqProofs -dsimp +contextual [-Bool.exists_bool, -Int.not_le, -Int.not_lt, -getElem?_pos, -List.getD_eq_getElem?_getD, h]
      rw [e0, he, oV_t rfl, oH_t rfl]
      refine RLe.own (3, 0) (fun j => (4, j)) x ?_ ?_ ?_ ?_ ?_
      · simp [-Bool.exists_bool, -Int.not_le, -Int.not_lt, -getElem?_pos, -List.getD_eq_getElem?_getD, invO]
      · simp [-Bool.exists_bool, -Int.not_le, -Int.not_lt, -getElem?_pos, -List.getD_eq_getElem?_getD, setH]
      · intro j hj; simp [-Bool.exists_bool, -Int.not_le, -Int.not_lt, -getElem?_pos, -List.getD_eq_getElem?_getD, setH, ownA_lt hj]
      · intro a b _ _ hab; injection hab
      · intro j _; simp [-Bool.exists_bool, -Int.not_le, -Int.not_lt, -getElem?_pos, -List.getD_eq_getElem?_getD]
end Go.Proofs.YtjknjekemolndaaGreat.ZL
namespace Go.Proofs.YtjknjekemolndaaGreat.ZL
open Go Go.Proofs.YtjknjekemolndaaGreat.Abs Go.Proofs.YtjknjekemolndaaGreat.Abs.Pl Go.RowKit Go.Proofs
set_option linter.unusedVariables false
set_option linter.unusedSimpArgs false
inductive RK where
  | row
  | cel (i : Nat)
  | co (i j : Nat)
  deriving DecidableEq
def okF (b : Bool) (R : List Ce) : RK → Bool
  | .row => b
  | .cel i => decide (i < R.length)
  | .co i j => decide (i < R.length ∧ j < (nth R i).2.length)
def rC (f : Nat → Key) : Nat → List Ce → List V
  | _, [] => []
  | i, c :: R => I c.1 :: .ref (f i) c.2.length :: rC f (i + 1) R
def entR (kf : RK → Key) (R : List Ce) : RK → Ent
  | .row => .row 26 R.length (rC (fun i => kf (.cel i)) 0 R)
  | .cel i => .row 66 (nth R i).2.length (rA (fun j => kf (.co i j)) 0 (nth R i).2)
  | .co i j => rowA (nth (nth R i).2 j)
def OwnsF (b : Bool) (H : Store) (kf : RK → Key) (R : List Ce) : Prop := ∀ a, okF b R a = true → H (kf a) = some (entR kf R a)
def encR : RK → Nat
  | .row => 0
  | .cel i => 1 + i * 2097152
  | .co i j => 1 + i * 2097152 + 1 + j
def decR : Nat → RK
  | 0 => .row
  | n + 1 => if n % 2097152 = 0 then .cel (n / 2097152) else .co (n / 2097152) (n % 2097152 - 1)
theorem enc_dec : ∀ n, encR (decR n) = n
  | 0 => rfl
  | n + 1 => by
    by_cases h : n % 2097152 = 0
    · rw [show decR (n + 1) = .cel (n / 2097152) from if_pos h]
      show 1 + n / 2097152 * 2097152 = n + 1; omega
    · rw [show decR (n + 1) = .co (n / 2097152) (n % 2097152 - 1) from if_neg h]
      show 1 + n / 2097152 * 2097152 + 1 + (n % 2097152 - 1) = n + 1; omega
def ltK (a : RK) : Prop := match a with
  | .co _ j => j < 1048576
  | _ => True
theorem dec_enc : ∀ {a : RK}, ltK a → decR (encR a) = a
  | .row, _ => rfl
  | .cel i, _ => by
    show decR (1 + i * 2097152) = _
    rw [show 1 + i * 2097152 = (i * 2097152) + 1 by omega, decR, if_pos (by omega)]
    congr 1; omega
  | .co i j, h => by
    have h : j < 1048576 := h
    show decR (1 + i * 2097152 + 1 + j) = _
    rw [show 1 + i * 2097152 + 1 + j = (i * 2097152 + 1 + j) + 1 by omega, decR, if_neg (by omega)]
    congr 1 <;> omega
def SmallR (R : List Ce) : Prop := ∀ c ∈ R, c.2.length ≤ 1048576
theorem okF_lt {b : Bool} {R : List Ce} (h : SmallR R) : ∀ {a : RK}, okF b R a = true → ltK a
  | .row, _ => trivial
  | .cel i, _ => trivial
  | .co i j, ho => by
    simp only [okF, decide_eq_true_eq] at ho
    have := h _ (nth_mem ho.1)
    show j < _
    omega
theorem encR_inj {b : Bool} {R : List Ce} (h : SmallR R) {a c : RK} (ha : okF b R a = true) (hb : okF b R c = true) (he : encR a = encR c) : a = c := by
  rw [← dec_enc (okF_lt h ha), he, dec_enc (okF_lt h hb)]
abbrev kS (s : Nat) (a : RK) : Key := (s, encR a)
def regS (b : Bool) (s : Nat) (R : List Ce) (n : Nat) : Option Ent := if okF b R (decR n) = true then some (entR (kS s) R (decR n)) else none
theorem regS_at {b : Bool} (s : Nat) {R : List Ce} (h : SmallR R) {a : RK} (ha : okF b R a = true) : regS b s R (encR a) = some (entR (kS s) R a) := by
  unfold regS
  rw [dec_enc (okF_lt h ha), if_pos ha]
theorem rC_len (f : Nat → Key) : ∀ (R : List Ce) (i : Nat), (rC f i R).length = R.length * 2
  | [], _ => rfl
  | c :: R, i => by simp [-Bool.exists_bool, -Int.not_le, -Int.not_lt, -getElem?_pos, -List.getD_eq_getElem?_getD, rC, rC_len f R]; omega
theorem rC_one (f : Nat → Key) : ∀ (R : List Ce) (i : Nat), (rC f i R).all V.one = true
  | [], _ => rfl
  | c :: R, i => by simp [-Bool.exists_bool, -Int.not_le, -Int.not_lt, -getElem?_pos, -List.getD_eq_getElem?_getD, rC, rC_one f R, V.one]
theorem rC_congr {f g : Nat → Key} : ∀ (R : List Ce) (j : Nat), (∀ i, i < R.length → f (j + i) = g (j + i)) → rC f j R = rC g j R
  | [], _, _ => rfl
  | c :: R, j, h => by
    have h0 := h 0 (by simp [-Bool.exists_bool, -Int.not_le, -Int.not_lt, -getElem?_pos, -List.getD_eq_getElem?_getD])
    simp only [Nat.add_zero] at h0
    have ih := rC_congr (f := f) (g := g) R (j + 1) (fun i hi => by have := h (i + 1) (by simp [-Bool.exists_bool, -Int.not_le, -Int.not_lt, -getElem?_pos, -List.getD_eq_getElem?_getD]; omega); rw [show j + (i + 1) = j + 1 + i by omega] at this; exact this)
    simp only [rC, h0, ih]
theorem rC_append (f : Nat → Key) : ∀ (L M : List Ce) (j : Nat), rC f j (L ++ M) = rC f j L ++ rC f (j + L.length) M
  | [], M, j => by simp [-Bool.exists_bool, -Int.not_le, -Int.not_lt, -getElem?_pos, -List.getD_eq_getElem?_getD, rC]
  | a :: L, M, j => by
    simp only [List.cons_append, rC, rC_append f L, List.length_cons]
    rw [show j + 1 + L.length = j + (L.length + 1) by omega]
theorem rC_mapL (g : Key → Key) (f : Nat → Key) : ∀ (L : List Ce) (j : Nat), mapL g (rC f j L) = rC (fun i => g (f i)) j L
  | [], _ => rfl
  | a :: L, j => by simp [-Bool.exists_bool, -Int.not_le, -Int.not_lt, -getElem?_pos, -List.getD_eq_getElem?_getD, rC, rC_mapL g f L]
theorem rC_VLes {H : Store} {inv : Key → Key} {nx : Nat} {f g : Nat → Key} : ∀ (L : List Ce) (j : Nat), (∀ i, i < L.length → f (j + i) = inv (g (j + i)) ∧ (g (j + i)).1 < nx) → VLes H inv nx (rC f j L) (rC g j L)
  | [], _, _ => by simp [-Bool.exists_bool, -Int.not_le, -Int.not_lt, -getElem?_pos, -List.getD_eq_getElem?_getD, rC, VLes]
  | a :: L, j, h => by
    have h0 := h 0 (by simp [-Bool.exists_bool, -Int.not_le, -Int.not_lt, -getElem?_pos, -List.getD_eq_getElem?_getD])
    simp only [Nat.add_zero] at h0
    simp only [rC, VLes, VLe, asDz]
    exact ⟨trivial, ⟨by rw [h0.1], h0.2⟩, rC_VLes L (j + 1) (fun i hi => by have := h (i + 1) (by simp [-Bool.exists_bool, -Int.not_le, -Int.not_lt, -getElem?_pos, -List.getD_eq_getElem?_getD]; omega); rwa [show j + (i + 1) = j + 1 + i by omega] at this)⟩
theorem rC_allKs {p : Key → Prop} {f : Nat → Key} : ∀ (L : List Ce) (j : Nat), (∀ i, i < L.length → p (f (j + i))) → allKs p (rC f j L)
  | [], _, _ => by simp [-Bool.exists_bool, -Int.not_le, -Int.not_lt, -getElem?_pos, -List.getD_eq_getElem?_getD, rC, allKs]
  | a :: L, j, h => by
    have h0 := h 0 (by simp [-Bool.exists_bool, -Int.not_le, -Int.not_lt, -getElem?_pos, -List.getD_eq_getElem?_getD])
    simp only [Nat.add_zero] at h0
    simp only [rC, allKs, allK]
    exact ⟨trivial, h0, rC_allKs L (j + 1) (fun i hi => by have := h (i + 1) (by simp [-Bool.exists_bool, -Int.not_le, -Int.not_lt, -getElem?_pos, -List.getD_eq_getElem?_getD]; omega); rwa [show j + (i + 1) = j + 1 + i by omega] at this)⟩
theorem entR_le {b : Bool} {H : Store} {inv : Key → Key} {nx : Nat} {kf kg : RK → Key} {R : List Ce} {a : RK} (ha : okF b R a = true) (h : ∀ c, c ≠ .row → okF b R c = true → kf c = inv (kg c) ∧ (kg c).1 < nx) : ELe H inv nx (entR kf R a) (entR kg R a) := by
  cases a with
  | row =>
    simp only [entR, ELe, true_and]
    exact rC_VLes R 0 fun i hi => h (.cel (0 + i)) (by simp [-Bool.exists_bool, -Int.not_le, -Int.not_lt, -getElem?_pos, -List.getD_eq_getElem?_getD]) (by simp [-Bool.exists_bool, -Int.not_le, -Int.not_lt, -getElem?_pos, -List.getD_eq_getElem?_getD, okF, hi])
  | cel i =>
    have hi : i < R.length := by simpa [-Bool.exists_bool, -Int.not_le, -Int.not_lt, -getElem?_pos, -List.getD_eq_getElem?_getD, okF] using ha
    simp only [entR, ELe, true_and]
    exact rA_VLes _ 0 fun j hj => h (.co i (0 + j)) (by simp [-Bool.exists_bool, -Int.not_le, -Int.not_lt, -getElem?_pos, -List.getD_eq_getElem?_getD]) (by simp [-Bool.exists_bool, -Int.not_le, -Int.not_lt, -getElem?_pos, -List.getD_eq_getElem?_getD, okF, hi, hj])
  | co i j =>
    simp only [entR, rowA, ELe, true_and]
    exact (dl_VLes ..).2 rfl
def invR (s : Nat) (kf : RK → Key) (iv : List (Key × Key)) (k : Key) : Key := if k.1 = s then kf (decR k.2) else invK iv k
section
variable {P : Program} {N : Nat}
theorem Le.reg {b : Bool} {T : Nat → V} {H : Store} {nx : Nat} {Lt : List (Nat × V)} {K : List (Key × Ent)} {nx' : Nat} (s : Nat) (R : List Ce) (kf : RK → Key) (iv : List (Key × Key)) (hR : SmallR R)
    (hT : allP (fun p : Nat × V => VLe H (invR s kf iv) nx' (T p.1) p.2) Lt)
    (hK : allP (fun p : Key × Ent => (p.1.1 < nx' ∧ p.1.1 ≠ s) ∧ entIs (H (invK iv p.1)) fun e => ELe H (invR s kf iv) nx' e p.2) K)
    (hi : (K.map fun p => invK iv p.1).Nodup) (hO : OwnsF b H kf R)
    (hf : ∀ a c, okF b R a = true → okF b R c = true → kf a = kf c → a = c) (hd : ∀ a, okF b R a = true → allP (fun p : Key × Ent => invK iv p.1 ≠ kf a) K)
    (hs : 0 < s ∧ s < nx' := by decide) (hv : iv.all (fun p => p.1.1 != 0 || p.1.2 == 0) = true := by rfl) : Le P N ⟨T, H, nx⟩ ⟨tl Lt, famS s (regS b s R) (hl K), nx'⟩ := by
  have inK : ∀ k e', k.1 ≠ s → famS s (regS b s R) (hl K) k = some e' → (k, e') ∈ K := fun k e' hk h => by
    obtain ⟨k1, k2⟩ := k
    rw [fam_ne _ _ _ _ _ hk] at h
    exact hl_mem h
  have inF : ∀ k e', k.1 = s → famS s (regS b s R) (hl K) k = some e' → okF b R (decR k.2) = true ∧ e' = entR (kS s) R (decR k.2) := fun k e' hk h => by
    obtain ⟨k1, k2⟩ := k
    simp only at hk
    subst hk
    rw [fam_at] at h
    unfold regS at h
    split at h
    · rename_i ho; exact ⟨ho, (Option.some.inj h).symm⟩
    · cases h
  have hne : ∀ k : Key, k.1 ≠ s → invR s kf iv k = invK iv k := fun k hk => by unfold invR; rw [if_neg hk]
  have hat : ∀ k : Key, k.1 = s → invR s kf iv k = kf (decR k.2) := fun k hk => by unfold invR; rw [if_pos hk]
  refine Le.mk (invR s kf iv) (.inr (by show 0 < nx'; omega)) (fun k h1 h2 _ => by rw [hne k (by omega)]; exact invK_res hv k h1 h2) (tl_cond (allP_mem hT)) (fun k e' hk => ?_) (fun k k' e e' hk hk' he => ?_)
  · by_cases hks : k.1 = s
    · obtain ⟨h1, rfl⟩ := inF k e' hks hk
      refine ⟨by show k.1 < nx'; omega, entR kf R (decR k.2), by rw [hat k hks]; exact hO _ h1, ?_⟩
      exact entR_le h1 fun c _ hb => ⟨by rw [hat _ rfl]; show kf c = kf (decR (encR c)); rw [dec_enc (okF_lt hR hb)], hs.2⟩
    · obtain ⟨⟨h1, _⟩, h2⟩ := allP_mem hK _ (inK k e' hks hk)
      simp only [entIs] at h2
      refine ⟨h1, ?_⟩
      rw [hne k hks]
      show ∃ e, H (invK iv k) = some e ∧ _
      cases hq : H (invK iv k) with
      | none => rw [hq] at h2; exact h2.elim
      | some e => rw [hq] at h2; exact ⟨e, rfl, h2⟩
  · by_cases hks : k.1 = s <;> by_cases hks' : k'.1 = s
    · rw [hat k hks, hat k' hks'] at he
      have := hf _ _ (inF k e hks hk).1 (inF k' e' hks' hk').1 he
      exact Prod.ext (hks.trans hks'.symm) (by rw [← enc_dec k.2, this, enc_dec])
    · rw [hat k hks, hne k' hks'] at he
      exact absurd he.symm (allP_mem (hd _ (inF k e hks hk).1) _ (inK k' e' hks' hk'))
    · rw [hne k hks, hat k' hks'] at he
      exact absurd he (allP_mem (hd _ (inF k' e' hks' hk').1) _ (inK k e hks hk))
    · rw [hne k hks, hne k' hks'] at he
      have := nodup_told hi _ (inK k e hks hk) _ (inK k' e' hks' hk') he
      injection this
def regR (R : List Ce) : Store := fun k => if k.1 = 0 then regS true 0 R k.2 else none
theorem RLe.reg {H : Store} {v r : V} (kf : RK → Key) (R : List Ce) (hR : SmallR R) (hv : VLe H (fun k => kf (decR k.2)) 1 v r) (hO : OwnsF true H kf R) (hf : ∀ a c, okF true R a = true → okF true R c = true → kf a = kf c → a = c) : RLe P H v r (regR R) := by
  have inF : ∀ k e', regR R k = some e' → k.1 = 0 ∧ okF true R (decR k.2) = true ∧ e' = entR (kS 0) R (decR k.2) := fun k e' h => by
    unfold regR at h
    split at h
    · rename_i h0
      unfold regS at h
      split at h
      · rename_i ho; exact ⟨h0, ho, (Option.some.inj h).symm⟩
      · cases h
    · cases h
  refine RLe.mk (fun k => kf (decR k.2)) hv (fun k e' hk => ?_) (fun k k' e e' hk hk' he => ?_)
  · obtain ⟨h0, h1, rfl⟩ := inF k e' hk
    refine ⟨by omega, _, hO _ h1, entR_le h1 fun c _ hb => ⟨?_, Nat.zero_lt_one⟩⟩
    show kf c = kf (decR (encR c))
    rw [dec_enc (okF_lt hR hb)]
  · obtain ⟨h0, h1, _⟩ := inF k e hk
    obtain ⟨h0', h1', _⟩ := inF k' e' hk'
    have := hf _ _ h1 h1' he
    exact Prod.ext (h0.trans h0'.symm) (by rw [← enc_dec k.2, this, enc_dec])
end
theorem entR_mapE (g : Key → Key) (kf : RK → Key) (R : List Ce) (a : RK) : mapE g (entR kf R a) = entR (fun b => g (kf b)) R a := by
  cases a <;> simp [-Bool.exists_bool, -Int.not_le, -Int.not_lt, -getElem?_pos, -List.getD_eq_getElem?_getD, entR, mapE, rC_mapL, rA_mapL, rowA]
theorem OwnsF.call (s : Nat) {R : List Ce} (h : SmallR R) (H : Store) : OwnsF true (app (upCall s (regR R)) H) (kS s) R := fun a ha => by
  have h1 : regR R (0, encR a) = some (entR (kS 0) R a) := by unfold regR; rw [if_pos rfl]; exact regS_at 0 h ha
  simp only [app, upCall, if_true, h1, entR_mapE]
  rfl
theorem OwnsF.fam {b : Bool} (s : Nat) {R : List Ce} (h : SmallR R) (H : Store) : OwnsF b (famS s (regS b s R) H) (kS s) R := fun a ha => by rw [fam_at]; exact regS_at s h ha
theorem OwnsF.set {b : Bool} {H : Store} {s : Nat} {R : List Ce} (h : OwnsF b H (kS s) R) {k : Key} {e : Option Ent} (hk : k.1 ≠ s) : OwnsF b (setH k e H) (kS s) R := fun a ha => by
  unfold setH
  rw [if_neg (fun e => hk (by rw [← e]))]
  exact h a ha
theorem OwnsF.other {b : Bool} {H : Store} {s s' : Nat} {R : List Ce} {Hr : Store} (h : OwnsF b H (kS s) R) (hk : s ≠ s') : OwnsF b (app (upCall s' Hr) H) (kS s) R := fun a ha => by
  have : app (upCall s' Hr) H (kS s a) = H (kS s a) := by simp [-Bool.exists_bool, -Int.not_le, -Int.not_lt, -getElem?_pos, -List.getD_eq_getElem?_getD, app, upCall, hk]
  rw [this]
  exact h a ha
def keyR (kf : RK → Key) : Nat → List Ce → List Key
  | _, [] => []
  | i, c :: R => kf (.cel i) :: (List.range c.2.length).map (fun j => kf (.co i j)) ++ keyR kf (i + 1) R
theorem rC_lend {H : Store} {n : Nat} {kf : RK → Key} : ∀ (R : List Ce) (i : Nat), (∀ m, m < R.length → H (kf (.cel (i + m))) = some (.row 66 (nth R m).2.length (rA (fun j => kf (.co (i + m) j)) 0 (nth R m).2)) ∧ ∀ j, j < (nth R m).2.length → H (kf (.co (i + m) j)) = some (rowA (nth (nth R m).2 j))) →
    joinO ((rC (fun i => kf (.cel i)) i R).map (lendD true H (n + 2))) = some (csD R, keyR kf i R)
  | [], _, _ => rfl
  | c :: R, i, h => by
    have h0 := h 0 (by simp [-Bool.exists_bool, -Int.not_le, -Int.not_lt, -getElem?_pos, -List.getD_eq_getElem?_getD])
    simp only [Nat.add_zero] at h0
    have e0 : nth (c :: R) 0 = c := rfl
    rw [e0] at h0
    have ih := rC_lend (H := H) (n := n) (kf := kf) R (i + 1) (fun m hm => by have := h (m + 1) (by simp [-Bool.exists_bool, -Int.not_le, -Int.not_lt, -getElem?_pos, -List.getD_eq_getElem?_getD]; omega); rw [show i + (m + 1) = i + 1 + m by omega] at this; exact this)
    simp only [rC, List.map_cons, joinO, ih, lendD_ref, h0.1, lendR, rA_lend (H := H) (n := n) (f := fun j => kf (.co i j)) c.2 0 (fun j hj => by rw [Nat.zero_add]; exact h0.2 j hj), consK, lendD_d]
    simp [-Bool.exists_bool, -Int.not_le, -Int.not_lt, -getElem?_pos, -List.getD_eq_getElem?_getD, csD, cD, keyR]
theorem OwnsF.lend {H : Store} {kf : RK → Key} {R : List Ce} (h : OwnsF true H kf R) (n : Nat) (d : Int) : lendV true H (n + 3) (.agg [I d, .ref (kf .row) R.length]) = some (R1 d R, kf .row :: keyR kf 0 R) := by
  have h0 := h .row rfl
  have h1 : lendD true H (n + 3) (.ref (kf .row) R.length) = some (.sl R.length (csD R), kf .row :: keyR kf 0 R) := by
    have hj := rC_lend (H := H) (n := n) (kf := kf) R 0 (fun m hm => by rw [Nat.zero_add]; exact ⟨h (.cel m) (by simp [-Bool.exists_bool, -Int.not_le, -Int.not_lt, -getElem?_pos, -List.getD_eq_getElem?_getD, okF, hm]), fun j hj => h (.co m j) (by simp [-Bool.exists_bool, -Int.not_le, -Int.not_lt, -getElem?_pos, -List.getD_eq_getElem?_getD, okF, hm, hj])⟩)
    rw [lendD_ref, h0]
    show (if true = true ∧ R.length = R.length then consK R.length (kf .row) (joinO ((rC (fun i => kf (.cel i)) 0 R).map (lendD true H (n + 2)))) else none) = _
    rw [if_pos ⟨rfl, rfl⟩, hj]
    rfl
  simp only [lendV, List.map_cons, List.map_nil, joinO, h1, lendD_d]
  simp [-Bool.exists_bool, -Int.not_le, -Int.not_lt, -getElem?_pos, -List.getD_eq_getElem?_getD]
end Go.Proofs.YtjknjekemolndaaGreat.ZL
namespace Go.Proofs.YtjknjekemolndaaGreat.ZL
open Go Go.Proofs.YtjknjekemolndaaGreat.Abs Go.Proofs.YtjknjekemolndaaGreat.Abs.Pl Go.RowKit Go.Proofs
set_option linter.unusedVariables false
set_option linter.unusedSimpArgs false
theorem nth_appL {α : Type} [Inhabited α] {L M : List α} {i : Nat} (h : i < L.length) : nth (L ++ M) i = nth L i := by
  rw [nth_eq h, nth_eq (show i < (L ++ M).length by simp [-Bool.exists_bool, -Int.not_le, -Int.not_lt, -getElem?_pos, -List.getD_eq_getElem?_getD]; omega), List.getElem_append_left h]
theorem nth_appR {α : Type} [Inhabited α] {L : List α} {c : α} : nth (L ++ [c]) L.length = c := by
  rw [nth_eq (show L.length < (L ++ [c]).length by simp [-Bool.exists_bool, -Int.not_le, -Int.not_lt, -getElem?_pos, -List.getD_eq_getElem?_getD])]; simp [-Bool.exists_bool, -Int.not_le, -Int.not_lt, -getElem?_pos, -List.getD_eq_getElem?_getD]
def kPush (kf : RK → Key) (n t : Nat) : RK → Key
  | .row => kf .row
  | .cel m => if m < n then kf (.cel m) else (t, 0)
  | .co m j => if m < n then kf (.co m j) else (t, j + 1)
theorem kPush_owns {H : Store} {kf : RK → Key} {R : List Ce} {c : Ce} {t : Nat} (h : OwnsF false H kf R) (hc : Owns H t c.2) : OwnsF false H (kPush kf R.length t) (R ++ [c]) := by
  intro a ha
  cases a with
  | row => simp [-Bool.exists_bool, -Int.not_le, -Int.not_lt, -getElem?_pos, -List.getD_eq_getElem?_getD, okF] at ha
  | cel m =>
    have hm : m < (R ++ [c]).length := by simpa [-Bool.exists_bool, -Int.not_le, -Int.not_lt, -getElem?_pos, -List.getD_eq_getElem?_getD, okF] using ha
    by_cases h1 : m < R.length
    · simp only [kPush, if_pos h1, entR]
      rw [h (.cel m) (by simp [-Bool.exists_bool, -Int.not_le, -Int.not_lt, -getElem?_pos, -List.getD_eq_getElem?_getD, okF, h1]), entR, nth_appL h1]
    · have h2 : m = R.length := by simp [-Bool.exists_bool, -Int.not_le, -Int.not_lt, -getElem?_pos, -List.getD_eq_getElem?_getD] at hm; omega
      subst h2
      simp only [kPush, if_neg h1, entR]
      rw [hc.row, nth_appR]
  | co m j =>
    have hm : m < (R ++ [c]).length ∧ j < (nth (R ++ [c]) m).2.length := by simpa only [okF, decide_eq_true_eq] using ha
    by_cases h1 : m < R.length
    · rw [nth_appL h1] at hm
      simp only [kPush, if_pos h1, entR]
      rw [h (.co m j) (by simp [-Bool.exists_bool, -Int.not_le, -Int.not_lt, -getElem?_pos, -List.getD_eq_getElem?_getD, okF, h1, hm.2]), entR, nth_appL h1]
    · have h2 : m = R.length := by have := hm.1; simp [-Bool.exists_bool, -Int.not_le, -Int.not_lt, -getElem?_pos, -List.getD_eq_getElem?_getD] at this; omega
      subst h2
      rw [nth_appR] at hm
      simp only [kPush, if_neg h1, entR]
      rw [hc.dir j hm.2, nth_appR]
theorem kPush_inj {b : Bool} {R : List Ce} {c : Ce} {s t : Nat} (hR : SmallR (R ++ [c])) (hst : s ≠ t) : ∀ a d, okF b (R ++ [c]) a = true → okF b (R ++ [c]) d = true → kPush (kS s) R.length t a = kPush (kS s) R.length t d → a = d := by
  intro a d ha hd h
  have fst : ∀ a, (kPush (kS s) R.length t a).1 = s ∧ kPush (kS s) R.length t a = kS s a ∨ ((kPush (kS s) R.length t a).1 = t ∧ match a with
      | .row => False
      | .cel m => ¬ m < R.length ∧ kPush (kS s) R.length t a = (t, 0)
      | .co m j => ¬ m < R.length ∧ kPush (kS s) R.length t a = (t, j + 1)) := fun a => by
    cases a with
    | row => exact .inl ⟨rfl, rfl⟩
    | cel m => by_cases h1 : m < R.length
               · exact .inl (by simp [-Bool.exists_bool, -Int.not_le, -Int.not_lt, -getElem?_pos, -List.getD_eq_getElem?_getD, kPush, h1])
               · exact .inr (by simp [-Bool.exists_bool, -Int.not_le, -Int.not_lt, -getElem?_pos, -List.getD_eq_getElem?_getD, kPush, h1])
    | co m j => by_cases h1 : m < R.length
                · exact .inl (by simp [-Bool.exists_bool, -Int.not_le, -Int.not_lt, -getElem?_pos, -List.getD_eq_getElem?_getD, kPush, h1])
                · exact .inr (by simp [-Bool.exists_bool, -Int.not_le, -Int.not_lt, -getElem?_pos, -List.getD_eq_getElem?_getD, kPush, h1])
  rcases fst a with ⟨f1, e1⟩ | ⟨f1, e1⟩ <;> rcases fst d with ⟨f2, e2⟩ | ⟨f2, e2⟩
  · rw [e1, e2] at h
    injection h with _ h
    exact encR_inj hR ha hd h
  · rw [h] at f1; exact absurd (f1.symm.trans f2) hst
  · rw [h] at f1; exact absurd (f2.symm.trans f1) hst
  · cases a with
    | row => exact e1.elim
    | cel m => cases d with
      | row => exact e2.elim
      | cel m' =>
        have a1 : m < (R ++ [c]).length := by simpa [-Bool.exists_bool, -Int.not_le, -Int.not_lt, -getElem?_pos, -List.getD_eq_getElem?_getD, okF] using ha
        have a2 : m' < (R ++ [c]).length := by simpa [-Bool.exists_bool, -Int.not_le, -Int.not_lt, -getElem?_pos, -List.getD_eq_getElem?_getD, okF] using hd
        simp [-Bool.exists_bool, -Int.not_le, -Int.not_lt, -getElem?_pos, -List.getD_eq_getElem?_getD] at a1 a2
        have := e1.1; have := e2.1
        congr 1; omega
      | co m' j' => rw [e1.2, e2.2] at h; simp [-Bool.exists_bool, -Int.not_le, -Int.not_lt, -getElem?_pos, -List.getD_eq_getElem?_getD] at h
    | co m j => cases d with
      | row => exact e2.elim
      | cel m' => rw [e1.2, e2.2] at h; simp [-Bool.exists_bool, -Int.not_le, -Int.not_lt, -getElem?_pos, -List.getD_eq_getElem?_getD] at h
      | co m' j' =>
        have a1 : m < (R ++ [c]).length ∧ j < (nth (R ++ [c]) m).2.length := by simpa only [okF, decide_eq_true_eq] using ha
        have a2 : m' < (R ++ [c]).length ∧ j' < (nth (R ++ [c]) m').2.length := by simpa only [okF, decide_eq_true_eq] using hd
        have b1 := a1.1; have b2 := a2.1
        simp [-Bool.exists_bool, -Int.not_le, -Int.not_lt, -getElem?_pos, -List.getD_eq_getElem?_getD] at b1 b2
        have := e1.1; have := e2.1
        rw [e1.2, e2.2] at h
        injection h with _ h
        congr 1 <;> omega
theorem kPush_VLes {H : Store} {iv : List (Key × Key)} {nx s t : Nat} (R : List Ce) (c : Ce) (hs : s < nx) : VLes H (invR s (kPush (kS s) R.length t) iv) nx (rC (fun m => kS s (.cel m)) 0 R ++ [I c.1, .ref (t, 0) c.2.length]) (rC (fun m => kS s (.cel m)) 0 (R ++ [c])) := by
  have hat : ∀ m, invR s (kPush (kS s) R.length t) iv (kS s (.cel m)) = kPush (kS s) R.length t (.cel m) := fun m => by
    unfold invR
    rw [if_pos rfl]
    show kPush _ _ _ (decR (encR (.cel m))) = _
    rw [dec_enc (a := .cel m) trivial]
  rw [rC_append]
  refine VLes_app (rC_VLes R 0 fun m hm => ⟨?_, hs⟩) ?_
  · rw [hat, Nat.zero_add]; simp [-Bool.exists_bool, -Int.not_le, -Int.not_lt, -getElem?_pos, -List.getD_eq_getElem?_getD, kPush, hm]
  · simp only [rC, VLes, VLe, asDz, Nat.zero_add]
    exact ⟨trivial, ⟨by rw [hat]; simp [-Bool.exists_bool, -Int.not_le, -Int.not_lt, -getElem?_pos, -List.getD_eq_getElem?_getD, kPush], hs⟩, trivial⟩
theorem kPush_fst {s n t : Nat} (a : RK) : (kPush (kS s) n t a).1 = s ∨ (kPush (kS s) n t a).1 = t := by
  cases a with
  | row => exact .inl rfl
  | cel m => simp only [kPush]; split <;> simp [-Bool.exists_bool, -Int.not_le, -Int.not_lt, -getElem?_pos, -List.getD_eq_getElem?_getD]
  | co m j => simp only [kPush]; split <;> simp [-Bool.exists_bool, -Int.not_le, -Int.not_lt, -getElem?_pos, -List.getD_eq_getElem?_getD]
def kRow (k : Key) (kf : RK → Key) : RK → Key
  | .row => k
  | .cel m => kf (.cel m)
  | .co m j => kf (.co m j)
theorem kRow_owns {H : Store} {kf : RK → Key} {R : List Ce} {k : Key} (hk : H k = some (.row 26 R.length (rC (fun m => kf (.cel m)) 0 R))) (h : OwnsF false H kf R) : OwnsF true H (kRow k kf) R := fun a ha => by
  cases a with
  | row => exact hk
  | cel m => exact h (.cel m) ha
  | co m j => exact h (.co m j) ha
theorem kRow_inj {k : Key} {kf : RK → Key} {R : List Ce} (h : ∀ a c, okF true R a = true → okF true R c = true → kf a = kf c → a = c) (hk : ∀ a, kf a ≠ k) : ∀ a c, okF true R a = true → okF true R c = true → kRow k kf a = kRow k kf c → a = c := fun a c ha hc he => by
  cases a with
  | row => cases c with
    | row => rfl
    | cel m => exact absurd he.symm (hk _)
    | co m j => exact absurd he.symm (hk _)
  | cel m => cases c with
    | row => exact absurd he (hk _)
    | cel m' => exact h _ _ ha hc he
    | co m' j => exact h _ _ ha hc he
  | co m j => cases c with
    | row => exact absurd he (hk _)
    | cel m' => exact h _ _ ha hc he
    | co m' j' => exact h _ _ ha hc he
abbrev zC : List V := [I 0, .nil]
theorem zCVL {H : Store} {inv : Key → Key} {nx : Nat} : ∀ n, VLes H inv nx (repV n zC) (repV n zC)
  | 0 => by simp [-Bool.exists_bool, -Int.not_le, -Int.not_lt, -getElem?_pos, -List.getD_eq_getElem?_getD, repV, VLes]
  | n + 1 => by rw [repV_cons _ zC (by simp [-Bool.exists_bool, -Int.not_le, -Int.not_lt, -getElem?_pos, -List.getD_eq_getElem?_getD])]; simp [-Bool.exists_bool, -Int.not_le, -Int.not_lt, -getElem?_pos, -List.getD_eq_getElem?_getD, VLes, VLe, asDz, zCVL n]
attribute [simp] rC_len rC_one
theorem kS_ne {H : Store} {b : Bool} {s : Nat} {R : List Ce} (a : Nat) (c : Nat) (h : a ≠ s) : famS s (regS b s R) H (a, c) = H (a, c) := fam_ne _ _ _ _ _ h
theorem toCellSO (L : List Ce) (h20 : L.length ≤ 1048576) (hc : ∀ c ∈ L, c.2.length ≤ 1048576 ∧ ∀ a ∈ c.2, a.1.length ≤ 1048576) : Cn Tryz.prog 74 [Cs L] (.ref (0, 0) L.length) (regR L) := by
  have hR : SmallR L := fun c h => (hc c h).1
  refine Cn.of [] mixed Tryz.func74 rfl Tryz.call74 (by kernel_rfl) rfl ?_
  simp -implicitDefEqProofs -dsimp +contextual [-Bool.exists_bool, -Int.not_le, -Int.not_lt, -getElem?_pos, -List.getD_eq_getElem?_getD, Tryz.f74]
  refine ⟨⟨by omega, by simp [-Bool.exists_bool, -Int.not_le, -Int.not_lt, -getElem?_pos, -List.getD_eq_getElem?_getD, maxLen]; omega⟩, ?_⟩
  refine WP.loop mixed [] (fun i : Nat => ⟨tl [(0, Cs L), (3, .ref (3, 0) L.length), (4, I i)], famS 2 (regS false 2 (L.take i)) (hl [((3, 0), .row 26 L.length (rC (fun m => kS 2 (.cel m)) 0 (L.take i) ++ repV (L.length - i) zC))]), 4⟩) (fun i => i ≤ L.length) (fun i => L.length - i) 0 (by kernel_rfl) ?_ ?_ ?_
  · refine Le.reg 2 [] (fun _ => (0, 0)) [] ?_ ?_ ?_ ?_ ?_ ?_ ?_
    · intro c h; cases h
    · simp [-Bool.exists_bool, -Int.not_le, -Int.not_lt, -getElem?_pos, -List.getD_eq_getElem?_getD, invR]
    · simp [-Bool.exists_bool, -Int.not_le, -Int.not_lt, -getElem?_pos, -List.getD_eq_getElem?_getD, rC]
      exact zCVL _
    · simp [-Bool.exists_bool, -Int.not_le, -Int.not_lt, -getElem?_pos, -List.getD_eq_getElem?_getD]
    · intro a ha; cases a <;> simp [-Bool.exists_bool, -Int.not_le, -Int.not_lt, -getElem?_pos, -List.getD_eq_getElem?_getD, okF] at ha
    · intro a c ha; cases a <;> simp [-Bool.exists_bool, -Int.not_le, -Int.not_lt, -getElem?_pos, -List.getD_eq_getElem?_getD, okF] at ha
    · intro a ha; cases a <;> simp [-Bool.exists_bool, -Int.not_le, -Int.not_lt, -getElem?_pos, -List.getD_eq_getElem?_getD, okF] at ha
  · simp [-Bool.exists_bool, -Int.not_le, -Int.not_lt, -getElem?_pos, -List.getD_eq_getElem?_getD]
  · intro i hi
    by_cases h : i < L.length
    · have e : L.length - i = (L.length - (i + 1)) + 1 := by omega
      have hT : (L.take i).length = i := by simp [-Bool.exists_bool, -Int.not_le, -Int.not_lt, -getElem?_pos, -List.getD_eq_getElem?_getD]; omega
      rw [e, repV_cons _ zC (by simp [-Bool.exists_bool, -Int.not_le, -Int.not_lt, -getElem?_pos, -List.getD_eq_getElem?_getD])]
      simp -implicitDefEqProofs -dsimp +contextual [-Bool.exists_bool, -Int.not_le, -Int.not_lt, -getElem?_pos, -List.getD_eq_getElem?_getD, h]
      refine CallJ.pure (toCell (nth L i) (hc _ (nth_mem h)).1 (hc _ (nth_mem h)).2) rfl (by simp [-Bool.exists_bool, -Int.not_le, -Int.not_lt, -getElem?_pos, -List.getD_eq_getElem?_getD]) ?_
      have h2 : (i * 2 + 2 ≤ min i L.length * 2 + ((repV (L.length - (i + 1)) zC).length + 1 + 1)) = True := by simp [-Bool.exists_bool, -Int.not_le, -Int.not_lt, -getElem?_pos, -List.getD_eq_getElem?_getD]; omega
      have tk : ∀ X : List V, List.take (i * 2) (rC (fun m => kS 2 (.cel m)) 0 (L.take i) ++ X) = rC (fun m => kS 2 (.cel m)) 0 (L.take i) := fun X => List.take_left' (by rw [rC_len, hT])
      have dr : ∀ (a b : V) (X : List V), List.drop (i * 2 + 2) (rC (fun m => kS 2 (.cel m)) 0 (L.take i) ++ a :: b :: X) = X := fun a b X => by
        have e3 : i * 2 + 2 - i * 2 = 2 := by omega
        rw [List.drop_append, rC_len, hT, e3, List.drop_of_length_le (by rw [rC_len, hT]; omega)]
        rfl
      simp -implicitDefEqProofs -dsimp +contextual [-Bool.exists_bool, -Int.not_le, -Int.not_lt, -getElem?_pos, -List.getD_eq_getElem?_getD, h, h2, tk, dr]
      refine ⟨i + 1, h, by omega, ?_⟩
      rw [nth_take h, wr (by omega) (by omega)]
      have hsm : SmallR (L.take i ++ [nth L i]) := fun c h' => by
        rcases List.mem_append.1 h' with h' | h'
        · exact hR c (List.mem_of_mem_take h')
        · rw [List.mem_singleton.1 h']; exact hR _ (nth_mem h)
      have hs2 : SmallR (L.take i) := fun c h' => hR c (List.mem_of_mem_take h')
      refine Le.reg 2 (L.take i ++ [nth L i]) (kPush (kS 2) (L.take i).length 14) [] hsm ?_ ?_ ?_ ?_ (kPush_inj hsm (by omega)) ?_
      · simp [-Bool.exists_bool, -Int.not_le, -Int.not_lt, -getElem?_pos, -List.getD_eq_getElem?_getD, invR]
      · simp [-Bool.exists_bool, -Int.not_le, -Int.not_lt, -getElem?_pos, -List.getD_eq_getElem?_getD, setH, ELe]
        have hmn : min i L.length = (L.take i).length := by simp [-Bool.exists_bool, -Int.not_le, -Int.not_lt, -getElem?_pos, -List.getD_eq_getElem?_getD]
        rw [hmn]
        have hv : ∀ H inv, VLes H inv 4 (rC (fun m => kS 2 (.cel m)) 0 (L.take i) ++ [I (nth L i).1, .ref (14, 0) (nth L i).2.length]) (rC (fun m => kS 2 (.cel m)) 0 (L.take i ++ [nth L i])) → VLes H inv 4 (rC (fun m => kS 2 (.cel m)) 0 (L.take i) ++ I (nth L i).1 :: .ref (14, 0) (nth L i).2.length :: repV (L.length - (i + 1)) zC) (rC (fun m => kS 2 (.cel m)) 0 (L.take i ++ [nth L i]) ++ repV (L.length - (i + 1)) zC) := fun H inv h => by
          have := VLes_app h (zCVL (L.length - (i + 1)))
          rw [List.append_assoc] at this
          exact this
        exact hv _ _ (kPush_VLes _ _ (by simp [-Bool.exists_bool, -Int.not_le, -Int.not_lt, -getElem?_pos, -List.getD_eq_getElem?_getD]))
      · simp [-Bool.exists_bool, -Int.not_le, -Int.not_lt, -getElem?_pos, -List.getD_eq_getElem?_getD]
      · exact kPush_owns (((OwnsF.fam 2 hs2 _).other (by omega)).set (by simp [-Bool.exists_bool, -Int.not_le, -Int.not_lt, -getElem?_pos, -List.getD_eq_getElem?_getD])) ((Owns.call 14 _ _).set (by simp [-Bool.exists_bool, -Int.not_le, -Int.not_lt, -getElem?_pos, -List.getD_eq_getElem?_getD]))
      · intro a ha
        refine ⟨fun e => ?_, trivial⟩
        have := kPush_fst (s := 2) (n := (L.take i).length) (t := 14) a
        rw [← e] at this
        simp [-Bool.exists_bool, -Int.not_le, -Int.not_lt, -getElem?_pos, -List.getD_eq_getElem?_getD, invK] at this
    · obtain rfl : i = L.length := by omega
      simp -implicitDefEqProofs -dsimp +contextual [-Bool.exists_bool, -Int.not_le, -Int.not_lt, -getElem?_pos, -List.getD_eq_getElem?_getD, h]
      have e0 : repV 0 zC = [] := rfl
      refine RLe.reg (kRow (3, 0) (kS 2)) L hR ?_ (kRow_owns (by simp [-Bool.exists_bool, -Int.not_le, -Int.not_lt, -getElem?_pos, -List.getD_eq_getElem?_getD]) (OwnsF.fam 2 hR _)) (kRow_inj (fun a c ha hc h => by injection h with _ h; exact encR_inj hR ha hc h) (fun a h => by injection h with h; omega)) 
      simp [-Bool.exists_bool, -Int.not_le, -Int.not_lt, -getElem?_pos, -List.getD_eq_getElem?_getD, VLe, decR, kRow]
theorem upReg_ne (s : Nat) (R : List Ce) (H : Store) (a b : Nat) (h : a ≠ s) : app (upCall s (regR R)) H (a, b) = H (a, b) := by simp [-Bool.exists_bool, -Int.not_le, -Int.not_lt, -getElem?_pos, -List.getD_eq_getElem?_getD, app, upCall, h]
attribute [simp] upReg_ne
theorem kS_inj {b : Bool} {s : Nat} {R : List Ce} (hR : SmallR R) : ∀ a c, okF b R a = true → okF b R c = true → kS s a = kS s c → a = c := fun a c ha hc h => by injection h with _ h; exact encR_inj hR ha hc h
theorem RLe.regS {P : Program} {H : Store} {v r : V} (s : Nat) (R : List Ce) (hR : SmallR R) (hv : VLe H (fun k => kS s (decR k.2)) 1 v r) (hO : OwnsF true H (kS s) R) : RLe P H v r (regR R) := RLe.reg (kS s) R hR hv hO (kS_inj hR)
abbrev OR (d : Int) (L : List Ce) : V := .agg [I d, .ref (0, 0) L.length]
theorem toRegionO (d : Int) (L : List Ce) (h20 : L.length ≤ 1048576) (hc : ∀ c ∈ L, c.2.length ≤ 1048576 ∧ ∀ a ∈ c.2, a.1.length ≤ 1048576) : Cn Tryz.prog 27 [R1 d L] (OR d L) (regR L) := by
  have hR : SmallR L := fun c h => (hc c h).1
  refine Cn.of [] mixed Tryz.func27 rfl Tryz.call27 (by kernel_rfl) rfl ?_
  simp -implicitDefEqProofs -dsimp +contextual [-Bool.exists_bool, -Int.not_le, -Int.not_lt, -getElem?_pos, -List.getD_eq_getElem?_getD, Tryz.f27]
  refine CallJ.pure (toCellSO L h20 hc) rfl (by simp [-Bool.exists_bool, -Int.not_le, -Int.not_lt, -getElem?_pos, -List.getD_eq_getElem?_getD]) ?_
  simp -implicitDefEqProofs -dsimp +contextual [-Bool.exists_bool, -Int.not_le, -Int.not_lt, -getElem?_pos, -List.getD_eq_getElem?_getD]
  refine RLe.regS 9 L hR ?_ (((OwnsF.call 9 hR _).set (by simp [-Bool.exists_bool, -Int.not_le, -Int.not_lt, -getElem?_pos, -List.getD_eq_getElem?_getD])).set (by simp [-Bool.exists_bool, -Int.not_le, -Int.not_lt, -getElem?_pos, -List.getD_eq_getElem?_getD]))
  simp [-Bool.exists_bool, -Int.not_le, -Int.not_lt, -getElem?_pos, -List.getD_eq_getElem?_getD, VLe, decR, encR]
end Go.Proofs.YtjknjekemolndaaGreat.ZL
namespace Go.Proofs.YtjknjekemolndaaGreat.ZL
open Go Go.Proofs.YtjknjekemolndaaGreat.Abs Go.Proofs.YtjknjekemolndaaGreat.Abs.Pl Go.RowKit Go.Proofs
set_option linter.unusedVariables false
set_option linter.unusedSimpArgs false
def markR : List Ce → Int → List Ce
  | [], _ => []
  | c :: R, m => (m, markS c.2 (m + 1)) :: markR R (nxtS c.2 (m + 1))
def nxtR : List Ce → Int → Int
  | [], m => m
  | c :: R, m => nxtR R (nxtS c.2 (m + 1))
theorem markR_len : ∀ (L : List Ce) (m : Int), (markR L m).length = L.length
  | [], _ => rfl
  | a :: L, m => by simp [-Bool.exists_bool, -Int.not_le, -Int.not_lt, -getElem?_pos, -List.getD_eq_getElem?_getD, markR, markR_len L]
theorem nxtR_app : ∀ (L M : List Ce) (m : Int), nxtR (L ++ M) m = nxtR M (nxtR L m)
  | [], M, m => rfl
  | a :: L, M, m => by simp [-Bool.exists_bool, -Int.not_le, -Int.not_lt, -getElem?_pos, -List.getD_eq_getElem?_getD, nxtR, nxtR_app L]
theorem markR_app : ∀ (L M : List Ce) (m : Int), markR (L ++ M) m = markR L m ++ markR M (nxtR L m)
  | [], M, m => rfl
  | a :: L, M, m => by simp [-Bool.exists_bool, -Int.not_le, -Int.not_lt, -getElem?_pos, -List.getD_eq_getElem?_getD, markR, nxtR, markR_app L]
theorem nxtR_le : ∀ (L : List Ce) (m : Int), m ≤ nxtR L m
  | [], m => Int.le_refl _
  | a :: L, m => by have := nxtR_le L (nxtS a.2 (m + 1)); have := nxtS_le a.2 (m + 1); simp only [nxtR]; omega
theorem nxtR_take (L : List Ce) (m : Int) (i : Nat) : nxtR (L.take i) m ≤ nxtR L m := by
  have := nxtR_le (L.drop i) (nxtR (L.take i) m)
  rwa [← nxtR_app, List.take_append_drop] at this
def curR (L : List Ce) (m : Int) (i : Nat) : List Ce := markR (L.take i) m ++ L.drop i
theorem curR_len (L : List Ce) (m : Int) (i : Nat) (h : i ≤ L.length) : (curR L m i).length = L.length := by simp [-Bool.exists_bool, -Int.not_le, -Int.not_lt, -getElem?_pos, -List.getD_eq_getElem?_getD, curR, markR_len]; omega
theorem curR_set (L : List Ce) (m : Int) (i : Nat) (h : i < L.length) : (curR L m i).set i (nxtR (L.take i) m, markS (nth L i).2 (nxtR (L.take i) m + 1)) = curR L m (i + 1) := by
  unfold curR
  have hl : (markR (L.take i) m).length = i := by rw [markR_len]; simp [-Bool.exists_bool, -Int.not_le, -Int.not_lt, -getElem?_pos, -List.getD_eq_getElem?_getD]; omega
  rw [List.set_append_right _ _ (by rw [hl]; exact Nat.le_refl _), hl, nth_drop h, nth_take h, markR_app]
  simp [-Bool.exists_bool, -Int.not_le, -Int.not_lt, -getElem?_pos, -List.getD_eq_getElem?_getD, markR]
theorem curR_nth (L : List Ce) (m : Int) (i j : Nat) (h : i ≤ j) (hj : j < L.length) : nth (curR L m i) j = nth L j := by
  have hl : (markR (L.take i) m).length = i := by rw [markR_len]; simp [-Bool.exists_bool, -Int.not_le, -Int.not_lt, -getElem?_pos, -List.getD_eq_getElem?_getD]; omega
  rw [nth_eq (by rw [curR_len _ _ _ (by omega)]; exact hj), nth_eq hj]
  unfold curR
  rw [List.getElem_append_right (by rw [hl]; exact h)]
  simp only [hl, List.getElem_drop]
  congr 1
  omega
theorem markR_small : ∀ {L : List Ce} (m : Int), SmallR L → SmallR (markR L m)
  | [], _, _ => fun c h => by cases h
  | a :: L, m, h => fun c hc => by
    rcases List.mem_cons.1 hc with rfl | hc
    · show (markS a.2 (m + 1)).length ≤ _; rw [markS_len]; exact h a List.mem_cons_self
    · exact markR_small _ (fun c h' => h c (List.mem_cons_of_mem _ h')) c hc
theorem curR_small {L : List Ce} {m : Int} {i : Nat} (h : SmallR L) : SmallR (curR L m i) := fun c hc => by
  rcases List.mem_append.1 hc with hc | hc
  · exact markR_small m (fun c h' => h c (List.mem_of_mem_take h')) c hc
  · exact h c (List.mem_of_mem_drop hc)
theorem nth_set_eq {α : Type} [Inhabited α] {L : List α} {i : Nat} {a : α} (h : i < L.length) : nth (L.set i a) i = a := by rw [nth_eq (by rw [List.length_set]; exact h)]; simp [-Bool.exists_bool, -Int.not_le, -Int.not_lt, -getElem?_pos, -List.getD_eq_getElem?_getD]
theorem nth_set_ne {α : Type} [Inhabited α] {L : List α} {i j : Nat} {a : α} (h : j < L.length) (hij : i ≠ j) : nth (L.set i a) j = nth L j := by rw [nth_eq (by rw [List.length_set]; exact h), nth_eq h]; simp [-Bool.exists_bool, -Int.not_le, -Int.not_lt, -getElem?_pos, -List.getD_eq_getElem?_getD, hij]
theorem okF_set {b : Bool} {L : List Ce} {i : Nat} {c : Ce} (hi : i < L.length) (hc : c.2.length = (nth L i).2.length) (a : RK) : okF b (L.set i c) a = okF b L a := by
  cases a with
  | row => rfl
  | cel m => simp [-Bool.exists_bool, -Int.not_le, -Int.not_lt, -getElem?_pos, -List.getD_eq_getElem?_getD, okF]
  | co m j =>
    simp only [okF, List.length_set]
    by_cases hm : m < L.length
    · by_cases h : i = m
      · subst h; rw [nth_set_eq hi, hc]
      · rw [nth_set_ne hm h]
    · simp [-Bool.exists_bool, -Int.not_le, -Int.not_lt, -getElem?_pos, -List.getD_eq_getElem?_getD, hm]
theorem okF_cur {b : Bool} (L : List Ce) (m : Int) : ∀ (i : Nat), i ≤ L.length → ∀ a, okF b (curR L m i) a = okF b L a
  | 0, _, a => by simp [-Bool.exists_bool, -Int.not_le, -Int.not_lt, -getElem?_pos, -List.getD_eq_getElem?_getD, curR, markR]
  | i + 1, h, a => by
    rw [← curR_set L m i (by omega), okF_set (by rw [curR_len _ _ _ (by omega)]; omega) (by rw [curR_nth _ _ _ _ (Nat.le_refl _) (by omega)]; exact markS_len _ _), okF_cur L m i (by omega)]
abbrev kM (a : RK) : Key := (0, encR a + 1)
def mReg (R : List Ce) : Store := fun k => if k.1 = 0 then (match k.2 with
    | 0 => none
    | n + 1 => if okF true R (decR n) = true then some (entR kM R (decR n)) else none) else none
def mrKey (R : List Ce) (k : Key) : Prop := k.1 = 0 ∧ 1 ≤ k.2 ∧ okF true R (decR (k.2 - 1)) = true
theorem mReg_at {R : List Ce} (h : SmallR R) {a : RK} (ha : okF true R a = true) : mReg R (0, encR a + 1) = some (entR kM R a) := by
  show (if okF true R (decR (encR a)) = true then some (entR kM R (decR (encR a))) else none) = _
  rw [dec_enc (okF_lt h ha), if_pos ha]
theorem mReg_1 {R : List Ce} : mReg R (0, 1) = some (.row 26 R.length (rC (fun i => kM (.cel i)) 0 R)) := rfl
theorem mReg_some {R : List Ce} {k : Key} {e : Ent} (h : mReg R k = some e) : ∃ a, okF true R a = true ∧ k = kM a ∧ e = entR kM R a := by
  obtain ⟨k1, k2⟩ := k
  unfold mReg at h
  simp only at h
  split at h
  · rename_i h0
    subst h0
    split at h
    · cases h
    · rename_i n
      split at h
      · rename_i ho
        exact ⟨decR n, ho, by rw [kM, enc_dec], (Option.some.inj h).symm⟩
      · cases h
  · cases h
theorem mrKey_kM {R : List Ce} (h : SmallR R) {a : RK} (ha : okF true R a = true) : mrKey R (kM a) := ⟨rfl, by show 1 ≤ encR a + 1; omega, by show okF true R (decR (encR a + 1 - 1)) = true; rw [Nat.add_sub_cancel, dec_enc (okF_lt h ha)]; exact ha⟩
theorem entR_allKE {p : Key → Prop} {kf : RK → Key} {R : List Ce} {a : RK} (ha : okF true R a = true) (h : ∀ c, okF true R c = true → p (kf c)) : allKE p (entR kf R a) := by
  cases a with
  | row => exact rC_allKs R 0 fun i hi => h (.cel (0 + i)) (by simp [-Bool.exists_bool, -Int.not_le, -Int.not_lt, -getElem?_pos, -List.getD_eq_getElem?_getD, okF, hi])
  | cel i =>
    have hi : i < R.length := by simpa [-Bool.exists_bool, -Int.not_le, -Int.not_lt, -getElem?_pos, -List.getD_eq_getElem?_getD, okF] using ha
    exact rA_allKs _ _ 0 fun j hj => h (.co i (0 + j)) (by simp [-Bool.exists_bool, -Int.not_le, -Int.not_lt, -getElem?_pos, -List.getD_eq_getElem?_getD, okF, hi, hj])
  | co i j => simp [-Bool.exists_bool, -Int.not_le, -Int.not_lt, -getElem?_pos, -List.getD_eq_getElem?_getD, entR, rowA, allKE]
theorem Le.mreg {P : Program} {N : Nat} {T : Nat → V} {H : Store} {nx : Nat} {Lt : List (Nat × V)} (R : List Ce) (hT : allP (fun p : Nat × V => VLe H (fun k => k) 2 (T p.1) p.2) Lt) (hO : OwnsF true H kM R) : Le P N ⟨T, H, nx⟩ ⟨tl Lt, mReg R, 2⟩ := by
  refine Le.mk (fun k => k) (.inr (by show 0 < 2; omega)) (fun _ _ _ _ => rfl) (tl_cond (allP_mem hT)) (fun k e' hk => ?_) (fun _ _ _ _ _ _ h => h)
  obtain ⟨a, ha, rfl, rfl⟩ := mReg_some hk
  exact ⟨by show 0 < 2; omega, _, hO a ha, entR_le ha fun c _ hc => ⟨rfl, by show 0 < 2; omega⟩⟩
theorem RLm.mreg {P : Program} {H : Store} {R L : List Ce} {x : Int} (hL : SmallR L) (hR : SmallR R) (hs : ∀ a, okF true R a = okF true L a) (hO : OwnsF true H kM R) : RLm P (mrKey L) H (I x) (I x) (mReg R) := by
  have hk : ∀ c, okF true R c = true → okKey (mrKey L) (kM c) := fun c hc _ => mrKey_kM hL (by rw [← hs]; exact hc)
  refine RLm.mk (fun k => k) (fun _ _ => rfl) (by simp [-Bool.exists_bool, -Int.not_le, -Int.not_lt, -getElem?_pos, -List.getD_eq_getElem?_getD]) (by simp [-Bool.exists_bool, -Int.not_le, -Int.not_lt, -getElem?_pos, -List.getD_eq_getElem?_getD, allK]) (fun k e' h => ?_) (fun _ _ _ _ _ _ h => h)
  obtain ⟨a, ha, rfl, rfl⟩ := mReg_some h
  exact ⟨by show 0 < 2; omega, hk a ha, entR_allKE ha hk, _, hO a ha, entR_le ha fun c _ hc => ⟨rfl, by show 0 < 2; omega⟩⟩
theorem rC_dropE (f : Nat → Key) : ∀ (L : List Ce) (i j : Nat), (rC f j L).drop (i * 2) = rC f (j + i) (L.drop i)
  | [], i, j => by simp [-Bool.exists_bool, -Int.not_le, -Int.not_lt, -getElem?_pos, -List.getD_eq_getElem?_getD, rC]
  | a :: L, 0, j => by simp [-Bool.exists_bool, -Int.not_le, -Int.not_lt, -getElem?_pos, -List.getD_eq_getElem?_getD]
  | a :: L, i + 1, j => by
    rw [show (i + 1) * 2 = i * 2 + 2 by omega, rC, List.drop_succ_cons, List.drop_succ_cons, rC_dropE f L i (j + 1), List.drop_succ_cons]
    rw [show j + 1 + i = j + (i + 1) by omega]
theorem rC_1 (f : Nat → Key) (L : List Ce) (i : Nat) (h : i < L.length) : (rC f 0 L)[i * 2 + 1]? = some (.ref (f i) (nth L i).2.length) := by
  have := rC_dropE f L i 0
  rw [Nat.zero_add, nth_drop h] at this
  rw [show (rC f 0 L)[i * 2 + 1]? = ((rC f 0 L).drop (i * 2))[1]? by rw [List.getElem?_drop], this]
  rfl
theorem rC_put (f : Nat → Key) (L : List Ce) (i : Nat) (h : i < L.length) (v : Int) : (rC f 0 L).take (i * 2) ++ I v :: (rC f 0 L).drop (i * 2 + 1) = rC f 0 (L.set i (v, (nth L i).2)) := by
  have e1 : L = L.take i ++ nth L i :: L.drop (i + 1) := by rw [← nth_drop h, List.take_append_drop]
  have e2 : L.set i (v, (nth L i).2) = L.take i ++ (v, (nth L i).2) :: L.drop (i + 1) := by rw [List.set_eq_take_append_cons_drop, if_pos h]
  have hti : (L.take i).length = i := by simp [-Bool.exists_bool, -Int.not_le, -Int.not_lt, -getElem?_pos, -List.getD_eq_getElem?_getD]; omega
  have hR : rC f 0 L = rC f 0 (L.take i) ++ (I (nth L i).1 :: .ref (f i) (nth L i).2.length :: rC f (i + 1) (L.drop (i + 1))) := by
    rw [congrArg (rC f 0) e1, rC_append, hti, Nat.zero_add]; rfl
  have hS : rC f 0 (L.set i (v, (nth L i).2)) = rC f 0 (L.take i) ++ (I v :: .ref (f i) (nth L i).2.length :: rC f (i + 1) (L.drop (i + 1))) := by
    rw [e2, rC_append, hti, Nat.zero_add]; rfl
  rw [hS, hR]
  have hA : (rC f 0 (L.take i)).length = i * 2 := by rw [rC_len, hti]
  generalize rC f 0 (L.take i) = A at hA
  rw [← hA]
  have d1 : A.drop (A.length + 1) = [] := List.drop_eq_nil_of_le (by omega)
  have k1 : A.length + 1 - A.length = 1 := by omega
  simp [-Bool.exists_bool, -Int.not_le, -Int.not_lt, -getElem?_pos, -List.getD_eq_getElem?_getD, List.take_append, List.drop_append, d1, k1]
theorem rC_ext {f : Nat → Key} : ∀ {A B : List Ce} (i : Nat), A.map (fun c => (c.1, c.2.length)) = B.map (fun c => (c.1, c.2.length)) → rC f i A = rC f i B
  | [], [], _, _ => rfl
  | [], b :: B, _, h => by simp [-Bool.exists_bool, -Int.not_le, -Int.not_lt, -getElem?_pos, -List.getD_eq_getElem?_getD] at h
  | a :: A, [], _, h => by simp [-Bool.exists_bool, -Int.not_le, -Int.not_lt, -getElem?_pos, -List.getD_eq_getElem?_getD] at h
  | a :: A, b :: B, i, h => by
    simp only [List.map_cons, List.cons.injEq, Prod.mk.injEq] at h
    simp only [rC, h.1.1, h.1.2, rC_ext (i + 1) h.2]
theorem upMark_at (o : Nat) (L : List At) (H : Store) (b : Nat) : app (upMark 0 o L) H (0, b) = if b = o then some (.row 66 L.length (rA (fun j => (0, j + o + 1)) 0 L)) else if o < b ∧ b ≤ o + L.length then ownA L (b - o - 1) else H (0, b) := by
  simp only [app, upMark, if_true]
  by_cases h1 : b = o
  · simp only [if_pos h1]
  · by_cases h2 : o < b ∧ b ≤ o + L.length
    · simp only [if_neg h1, if_pos h2]
    · simp only [if_neg h1, if_neg h2]
theorem mark_one {C : List Ce} {i : Nat} {v : Int} {x' : List At} (hC : SmallR C) (hi : i < C.length) (hx : x'.length = (nth C i).2.length) :
    OwnsF true (app (upMark 0 (encR (.cel i) + 1) x') (setH (0, 1) (some (.row 26 C.length (rC (fun i => kM (.cel i)) 0 (C.set i (v, (nth C i).2))))) (mReg C))) kM (C.set i (v, x')) := by
  have hx2 : (nth C i).2.length ≤ 1048576 := hC _ (nth_mem hi)
  intro a ha
  have ha0 := ha
  rw [okF_set hi hx] at ha
  rw [show kM a = (0, encR a + 1) from rfl, upMark_at]
  cases a with
  | row =>
    rw [if_neg (by simp [-Bool.exists_bool, -Int.not_le, -Int.not_lt, -getElem?_pos, -List.getD_eq_getElem?_getD, encR]), if_neg (by simp [-Bool.exists_bool, -Int.not_le, -Int.not_lt, -getElem?_pos, -List.getD_eq_getElem?_getD, encR])]
    show setH (0, 1) _ _ (0, 1) = _
    simp only [setH, if_true, entR, List.length_set]
    congr 2
    refine rC_ext 0 ?_
    rw [List.map_set, List.map_set, hx]
  | cel j =>
    have hj : j < C.length := by simpa [-Bool.exists_bool, -Int.not_le, -Int.not_lt, -getElem?_pos, -List.getD_eq_getElem?_getD, okF] using ha
    by_cases h : j = i
    · subst h
      rw [if_pos rfl]
      simp only [entR, nth_set_eq hi]
      congr 2
      refine rA_congr _ 0 fun k hk => ?_
      show (0, 0 + k + (1 + j * 2097152 + 1) + 1) = (0, 1 + j * 2097152 + 1 + (0 + k) + 1)
      congr 1; omega
    · rw [if_neg (by simp only [encR]; omega), if_neg (by simp only [encR]; omega)]
      have : setH (0, 1) (some (.row 26 C.length (rC (fun i => kM (.cel i)) 0 (C.set i (v, (nth C i).2))))) (mReg C) (0, encR (.cel j) + 1) = mReg C (0, encR (.cel j) + 1) := by
        unfold setH
        rw [if_neg (by simp [-Bool.exists_bool, -Int.not_le, -Int.not_lt, -getElem?_pos, -List.getD_eq_getElem?_getD, encR])]
      rw [this, mReg_at hC ha]
      simp only [entR, nth_set_ne hj (Ne.symm h)]
  | co j k =>
    have hj : j < C.length ∧ k < (nth C j).2.length := by simpa only [okF, decide_eq_true_eq] using ha
    have hk2 := hC _ (nth_mem hj.1)
    by_cases h : j = i
    · subst h
      rw [if_neg (by simp only [encR]; omega), if_pos (by simp only [encR]; omega)]
      rw [show encR (.co j k) + 1 - (encR (.cel j) + 1) - 1 = k by simp only [encR]; omega, ownA_lt (by omega)]
      simp only [entR, nth_set_eq hi]
    · rw [if_neg (by simp only [encR]; omega), if_neg (by simp only [encR]; omega)]
      have : setH (0, 1) (some (.row 26 C.length (rC (fun i => kM (.cel i)) 0 (C.set i (v, (nth C i).2))))) (mReg C) (0, encR (.co j k) + 1) = mReg C (0, encR (.co j k) + 1) := by
        unfold setH
        rw [if_neg (by simp [-Bool.exists_bool, -Int.not_le, -Int.not_lt, -getElem?_pos, -List.getD_eq_getElem?_getD, encR])]
      rw [this, mReg_at hC ha]
      simp only [entR, nth_set_ne hj.1 (Ne.symm h)]
structure SmallM (L : List Ce) : Prop where
  len : L.length ≤ 1048576
  cel : SmallR L
  dir : ∀ c ∈ L, ∀ a ∈ c.2, a.1.length ≤ 1048576
theorem markCellS (L : List Ce) (m : Int) (hm : 0 ≤ m ∧ nxtR L m ≤ 100000000000) (hL : SmallM L) : Cm Tryz.prog 78 (mrKey L) [.ref (0, 1) L.length, I m] (mReg L) (I (nxtR L m)) (mReg (markR L m)) := by
  have h20 := hL.len
  refine Cm.of [] mixed Tryz.func78 rfl Tryz.call78 (by kernel_rfl) rfl ?_
  simp -implicitDefEqProofs -dsimp +contextual [-Bool.exists_bool, -Int.not_le, -Int.not_lt, -getElem?_pos, -List.getD_eq_getElem?_getD, Tryz.f78]
  refine WP.loop mixed [] (fun i : Nat => ⟨tl [(0, .ref (0, 1) L.length), (1, I (nxtR (L.take i) m)), (5, I i)], mReg (curR L m i), 2⟩) (fun i => i ≤ L.length) (fun i => L.length - i) 0 (by kernel_rfl) ?_ ?_ ?_
  · refine Le.mreg _ ?_ ?_
    · simp [-Bool.exists_bool, -Int.not_le, -Int.not_lt, -getElem?_pos, -List.getD_eq_getElem?_getD, nxtR]
    · have e : curR L m 0 = L := by simp [-Bool.exists_bool, -Int.not_le, -Int.not_lt, -getElem?_pos, -List.getD_eq_getElem?_getD, curR, markR]
      rw [e]
      exact fun a ha => mReg_at hL.cel ha
  · simp [-Bool.exists_bool, -Int.not_le, -Int.not_lt, -getElem?_pos, -List.getD_eq_getElem?_getD]
  · intro i hi
    by_cases h : i < L.length
    · have hlc := curR_len L m i hi
      have hm0 := nxtR_le (L.take i) m
      have hm1 := nxtR_take L m (i + 1)
      rw [nth_take h, nxtR_app] at hm1
      simp only [nxtR] at hm1
      have hm2 := nxtS_le (nth L i).2 (nxtR (L.take i) m + 1)
      have w1 : IntKind.wrap .i64 (nxtR (L.take i) m + 1) = nxtR (L.take i) m + 1 := wr (by omega) (by omega)
      have hcn := curR_nth L m i i (Nat.le_refl _) h
      have hp := rC_put (fun j => kM (.cel j)) (curR L m i) i (by omega) (nxtR (L.take i) m)
      have h1 := rC_1 (fun j => kM (.cel j)) ((curR L m i).set i (nxtR (L.take i) m, (nth (curR L m i) i).2)) i (by rw [List.length_set]; omega)
      rw [nth_set_eq (by omega)] at h1
      rw [hcn] at hp h1
      simp only at h1
      have hb0 : i * 2 + 1 ≤ (curR L m i).length * 2 := by omega
      simp -implicitDefEqProofs -dsimp +contextual [-Bool.exists_bool, -Int.not_le, -Int.not_lt, -getElem?_pos, -List.getD_eq_getElem?_getD, h, mReg_1, w1, hp, h1, hb0]
      have hC := curR_small (m := m) (i := i) hL.cel
      have hc2 : (nth L i).2.length ≤ 1048576 := hL.cel _ (nth_mem h)
      refine callMark 0 (encR (.cel i) + 1) (nth L i).2 (markS (nth L i).2 (nxtR (L.take i) m + 1)) (markS_len _ _) (markAtomS (nth L i).2 (nxtR (L.take i) m + 1) ⟨by omega, by omega⟩ hc2 (hL.dir _ (nth_mem h))) ?_ ?_ ?_ ?_ (by omega) (by omega) ?_
      · simp [-Bool.exists_bool, -Int.not_le, -Int.not_lt, -getElem?_pos, -List.getD_eq_getElem?_getD, gk]
      · simp [-Bool.exists_bool, -Int.not_le, -Int.not_lt, -getElem?_pos, -List.getD_eq_getElem?_getD, allKs, allK, mKey]
      · have e : setH (0, 1) (some (.row 26 (curR L m i).length (rC (fun i => kM (.cel i)) 0 ((curR L m i).set i (nxtR (L.take i) m, (nth L i).2))))) (mReg (curR L m i)) (0, encR (.cel i) + 1) = mReg (curR L m i) (0, encR (.cel i) + 1) := by
          unfold setH
          rw [if_neg (by simp [-Bool.exists_bool, -Int.not_le, -Int.not_lt, -getElem?_pos, -List.getD_eq_getElem?_getD, encR])]
        rw [e, mReg_at hC (by simp [-Bool.exists_bool, -Int.not_le, -Int.not_lt, -getElem?_pos, -List.getD_eq_getElem?_getD, okF]; omega)]
        simp only [entR, hcn]
        congr 2
        refine rA_congr _ 0 fun k hk => ?_
        show (0, 1 + i * 2097152 + 1 + (0 + k) + 1) = (0, 0 + k + (1 + i * 2097152 + 1) + 1)
        congr 1; omega
      · intro j hj
        have e : setH (0, 1) (some (.row 26 (curR L m i).length (rC (fun i => kM (.cel i)) 0 ((curR L m i).set i (nxtR (L.take i) m, (nth L i).2))))) (mReg (curR L m i)) (0, j + (encR (.cel i) + 1) + 1) = mReg (curR L m i) (0, encR (.co i j) + 1) := by
          unfold setH
          rw [if_neg (by simp [-Bool.exists_bool, -Int.not_le, -Int.not_lt, -getElem?_pos, -List.getD_eq_getElem?_getD, encR])]
          congr 2
          simp only [encR]; omega
        rw [e, mReg_at hC (by simp only [okF, decide_eq_true_eq, hcn]; omega)]
        simp only [entR, hcn]
      simp -implicitDefEqProofs -dsimp +contextual [-Bool.exists_bool, -Int.not_le, -Int.not_lt, -getElem?_pos, -List.getD_eq_getElem?_getD, h, mReg_1, w1]
      refine ⟨i + 1, h, by omega, ?_⟩
      rw [wr (by omega) (by omega)]
      have hone := mark_one (v := nxtR (L.take i) m) (x' := markS (nth L i).2 (nxtR (L.take i) m + 1)) hC (i := i) (by omega) (by rw [hcn]; exact markS_len _ _)
      rw [hcn, curR_set L m i h] at hone
      refine Le.mreg _ ?_ hone
      simp [-Bool.exists_bool, -Int.not_le, -Int.not_lt, -getElem?_pos, -List.getD_eq_getElem?_getD, nth_take h, nxtR_app, nxtR]
    · obtain rfl : i = L.length := by omega
      simp -implicitDefEqProofs -dsimp +contextual [-Bool.exists_bool, -Int.not_le, -Int.not_lt, -getElem?_pos, -List.getD_eq_getElem?_getD, h]
      have e : curR L m L.length = markR L m := by simp [-Bool.exists_bool, -Int.not_le, -Int.not_lt, -getElem?_pos, -List.getD_eq_getElem?_getD, curR]
      rw [e]
      exact RLm.mreg hL.cel (markR_small m hL.cel) (fun a => by rw [← e]; exact okF_cur L m _ (Nat.le_refl _) a) (fun a ha => mReg_at (markR_small m hL.cel) ha)
end Go.Proofs.YtjknjekemolndaaGreat.ZL
namespace Go.Proofs.YtjknjekemolndaaGreat.ZL
open Go Go.Proofs.YtjknjekemolndaaGreat.Abs Go.Proofs.YtjknjekemolndaaGreat.Abs.Pl Go.RowKit Go.Proofs
set_option linter.unusedVariables false
set_option linter.unusedSimpArgs false
def keysR (L : List Ce) : List RK := .row :: (List.range L.length).flatMap fun i => .cel i :: (List.range (nth L i).2.length).map (.co i)
theorem keysR_mem {L : List Ce} {a : RK} : a ∈ keysR L ↔ okF true L a = true := by
  unfold keysR
  cases a with
  | row => simp [-Bool.exists_bool, -Int.not_le, -Int.not_lt, -getElem?_pos, -List.getD_eq_getElem?_getD, okF]
  | cel i => simp [-Bool.exists_bool, -Int.not_le, -Int.not_lt, -getElem?_pos, -List.getD_eq_getElem?_getD, okF]
  | co i j => simp [-Bool.exists_bool, -Int.not_le, -Int.not_lt, -getElem?_pos, -List.getD_eq_getElem?_getD, okF]
abbrev kO (s o : Nat) (a : RK) : Key := (s, encR a + o)
def upReg (s o : Nat) (L : List Ce) : Key → Option (Option Ent) := fun k => if k.1 = s ∧ o ≤ k.2 ∧ okF true L (decR (k.2 - o)) = true then some (some (entR (kO s o) L (decR (k.2 - o)))) else none
theorem upReg_owns {s o : Nat} {L : List Ce} {H : Store} (hL : SmallR L) : OwnsF true (app (upReg s o L) H) (kO s o) L := fun a ha => by
  have h1 : decR ((kO s o a).2 - o) = a := by show decR (encR a + o - o) = a; rw [Nat.add_sub_cancel, dec_enc (okF_lt hL ha)]
  simp only [app, upReg]
  rw [h1, if_pos ⟨trivial, by show o ≤ encR a + o; omega, ha⟩]
theorem upReg_ne' (s o : Nat) (L : List Ce) (H : Store) (a b : Nat) (h : a ≠ s) : app (upReg s o L) H (a, b) = H (a, b) := by simp [-Bool.exists_bool, -Int.not_le, -Int.not_lt, -getElem?_pos, -List.getD_eq_getElem?_getD, app, upReg, h]
attribute [simp] upReg_ne'
theorem callMarkR {N nx s f : Nat} {H : Store} {K : Eff → Prop} {vs vs' : List V} {x : Int} (s0 o0 : Nat) (L L' : List Ce) (hL : SmallR L) (hL' : SmallR L') (hsh : ∀ a, okF true L' a = okF true L a) (h : Cm Tryz.prog f (mrKey L) vs' (mReg L) (I x) (mReg L'))
    (hv : vs = mapL (gk (fun j => (s0, j + o0)) s) vs') (hvk : allKs (mrKey L) vs') (hO : OwnsF true H (kO s0 o0) L) (hs : s0 ≠ s) (hn : s0 < nx)
    (hk : K ⟨I x, (keysR L).map (kO s0 o0), (keysR L).map (kO s0 o0), upReg s0 o0 L'⟩) : CallJ Tryz.prog N nx s H f vs K := by
  let g : Nat → Key := fun j => (s0, j + o0)
  let gi : Key → Option Nat := fun k => if k.1 = s0 ∧ o0 ≤ k.2 ∧ okF true L (decR (k.2 - o0)) = true then some (k.2 - o0) else none
  have hg : ∀ a, g (encR a) = kO s0 o0 a := fun a => rfl
  have hmem : ∀ {a}, okF true L a = true → kO s0 o0 a ∈ (keysR L).map (kO s0 o0) := fun ha => List.mem_map.2 ⟨_, keysR_mem.2 ha, rfl⟩
  have hgi : ∀ {a}, okF true L a = true → gi (kO s0 o0 a) = some (encR a) := fun {a} ha => by
    show (if s0 = s0 ∧ o0 ≤ encR a + o0 ∧ okF true L (decR (encR a + o0 - o0)) = true then some (encR a + o0 - o0) else none) = _
    rw [Nat.add_sub_cancel, dec_enc (okF_lt hL ha), if_pos ⟨rfl, by omega, ha⟩]
  have gkM : (fun b => gk g s (kM b)) = kO s0 o0 := by
    funext b
    show (s0, encR b + 1 - 1 + o0) = _
    rw [Nat.add_sub_cancel]
  have hup : upMut g gi s (mReg L') = upReg s0 o0 L' := by
    funext k
    unfold upMut upReg
    by_cases h1 : k.1 = s
    · have h2 : mReg L' (1, k.2) = none := by simp [-Bool.exists_bool, -Int.not_le, -Int.not_lt, -getElem?_pos, -List.getD_eq_getElem?_getD, mReg]
      rw [if_pos h1, h2, if_neg (fun h => hs (h.1.symm.trans h1))]
    · rw [if_neg h1]
      by_cases h2 : k.1 = s0 ∧ o0 ≤ k.2 ∧ okF true L (decR (k.2 - o0)) = true
      · have e : gi k = some (k.2 - o0) := if_pos h2
        have h3 : k.1 = s0 ∧ o0 ≤ k.2 ∧ okF true L' (decR (k.2 - o0)) = true := ⟨h2.1, h2.2.1, by rw [hsh]; exact h2.2.2⟩
        have e2 : mReg L' (0, k.2 - o0 + 1) = some (entR kM L' (decR (k.2 - o0))) := if_pos h3.2.2
        rw [e, if_pos h3]
        simp only [e2, Option.map_some, entR_mapE, gkM]
      · have e : gi k = none := if_neg h2
        have h3 : ¬ (k.1 = s0 ∧ o0 ≤ k.2 ∧ okF true L' (decR (k.2 - o0)) = true) := fun h => h2 ⟨h.1, h.2.1, by rw [← hsh]; exact h.2.2⟩
        rw [e, if_neg h3]
  rw [← hup] at hk
  refine CallJ.mut g gi ((keysR L).map (kO s0 o0)) [] h hv hvk ?_ ?_ ?_ ?_ ?_ ?_ (by simpa [-Bool.exists_bool, -Int.not_le, -Int.not_lt, -getElem?_pos, -List.getD_eq_getElem?_getD] using hk)
  · rintro ⟨a, b⟩ ⟨h1, h2, h3⟩
    have e : g (b - 1) = kO s0 o0 (decR (b - 1)) := by rw [← hg, enc_dec]
    refine ⟨h1, h2, ?_, ?_⟩
    · show (H (g (b - 1))).isSome = true
      rw [e, hO _ h3]; rfl
    · show g (b - 1) ∈ _
      rw [e, List.append_nil]; exact hmem h3
  · intro k e hk
    obtain ⟨a, ha, rfl, rfl⟩ := mReg_some hk
    have e : g ((kM a).2 - 1) = kO s0 o0 a := by show g (encR a + 1 - 1) = _; rw [Nat.add_sub_cancel]
    refine ⟨mrKey_kM hL ha, ?_, entR_allKE ha fun c hc => mrKey_kM hL hc, ?_⟩
    · rw [e, hO a ha, entR_mapE, gkM]
    · rw [e, hgi ha]; rfl
  · intro k j hg'
    have hg' : (if k.1 = s0 ∧ o0 ≤ k.2 ∧ okF true L (decR (k.2 - o0)) = true then some (k.2 - o0) else none) = some j := hg'
    split at hg'
    · rename_i hc
      obtain rfl := Option.some.inj hg'
      have ek : k = kO s0 o0 (decR (k.2 - o0)) := by
        show k = (s0, encR (decR (k.2 - o0)) + o0)
        rw [enc_dec, Nat.sub_add_cancel hc.2.1, ← hc.1]
      refine ⟨?_, ?_, ?_⟩
      · show (s0, k.2 - o0 + o0) = k
        rw [Nat.sub_add_cancel hc.2.1, ← hc.1]
      · show (if okF true L (decR (k.2 - o0)) = true then some (entR kM L (decR (k.2 - o0))) else none).isSome = true
        rw [if_pos hc.2.2]; rfl
      · rw [ek]; exact hmem hc.2.2
    · cases hg'
  · intro k hk
    obtain ⟨a, ha, rfl⟩ := List.mem_map.1 hk
    rw [hgi (keysR_mem.1 ha)]; rfl
  · intro k e hk
    obtain ⟨a, ha, rfl, rfl⟩ := mReg_some hk
    exact ⟨by show 0 < 2; omega, fun _ => by rw [show mReg L (kM a) = _ from mReg_at hL (by rw [← hsh]; exact ha)]; rfl⟩
  · intro k hk
    rw [List.append_nil] at hk
    obtain ⟨a, ha, rfl⟩ := List.mem_map.1 hk
    exact ⟨by rw [hO a (keysR_mem.1 ha)]; rfl, .inl hn⟩
theorem markR_ok (L : List Ce) (m : Int) (a : RK) : okF true (markR L m) a = okF true L a := by
  have := okF_cur (b := true) L m L.length (Nat.le_refl _) a
  rwa [show curR L m L.length = markR L m by simp [-Bool.exists_bool, -Int.not_le, -Int.not_lt, -getElem?_pos, -List.getD_eq_getElem?_getD, curR]] at this
theorem markRegion (d : Int) (L : List Ce) (m : Int) (hm : 0 ≤ m ∧ nxtR L m ≤ 100000000000) (hL : SmallM L) : Cm Tryz.prog 30 (mrKey L) [.agg [I d, .ref (0, 1) L.length], I m] (mReg L) (I (nxtR L m)) (mReg (markR L m)) := by
  have h20 := hL.len
  refine Cm.of [] mixed Tryz.func30 rfl Tryz.call30 (by kernel_rfl) rfl ?_
  simp -implicitDefEqProofs -dsimp +contextual [-Bool.exists_bool, -Int.not_le, -Int.not_lt, -getElem?_pos, -List.getD_eq_getElem?_getD, Tryz.f30]
  refine callMarkR 0 1 L (markR L m) hL.cel (markR_small m hL.cel) (markR_ok L m) (markCellS L m hm hL) ?_ ?_ ?_ (by omega) (by omega) ?_
  · simp [-Bool.exists_bool, -Int.not_le, -Int.not_lt, -getElem?_pos, -List.getD_eq_getElem?_getD, gk]
  · simp [-Bool.exists_bool, -Int.not_le, -Int.not_lt, -getElem?_pos, -List.getD_eq_getElem?_getD, allKs, allK]; exact mrKey_kM hL.cel (a := .row) rfl
  · intro a ha
    have : mReg L (kM a) = _ := mReg_at hL.cel ha
    simp [-Bool.exists_bool, -Int.not_le, -Int.not_lt, -getElem?_pos, -List.getD_eq_getElem?_getD, setH]
    exact this
  simp -implicitDefEqProofs -dsimp +contextual [-Bool.exists_bool, -Int.not_le, -Int.not_lt, -getElem?_pos, -List.getD_eq_getElem?_getD]
  exact RLm.mreg hL.cel (markR_small m hL.cel) (markR_ok L m) (upReg_owns (s := 0) (o := 1) (markR_small m hL.cel))
theorem OwnsF.marks {N nx s : Nat} {H : Store} {K : Eff → Prop} {s0 : Nat} {L : List Ce} (hO : OwnsF true H (kS s0) L) (d m : Int) (hm : 0 ≤ m ∧ nxtR L m ≤ 100000000000) (hL : SmallM L) (hs : s0 ≠ s) (hn : s0 < nx)
    (hk : K ⟨I (nxtR L m), (keysR L).map (kO s0 0), (keysR L).map (kO s0 0), upReg s0 0 (markR L m)⟩) : CallJ Tryz.prog N nx s H 30 [.agg [I d, .ref (s0, 0) L.length], I m] K := by
  refine callMarkR s0 0 L (markR L m) hL.cel (markR_small m hL.cel) (markR_ok L m) (markRegion d L m hm hL) ?_ ?_ hO hs hn hk
  · simp [-Bool.exists_bool, -Int.not_le, -Int.not_lt, -getElem?_pos, -List.getD_eq_getElem?_getD, gk]
  · simp [-Bool.exists_bool, -Int.not_le, -Int.not_lt, -getElem?_pos, -List.getD_eq_getElem?_getD, allKs, allK]; exact mrKey_kM hL.cel (a := .row) rfl
theorem OwnsF.marked (s0 : Nat) {L : List Ce} {m : Int} (hL : SmallM L) (H : Store) : OwnsF true (app (upReg s0 0 (markR L m)) H) (kS s0) (markR L m) := upReg_owns (s := s0) (o := 0) (markR_small m hL.cel)
theorem OwnsF.otherM {b : Bool} {H : Store} {s s' : Nat} {R L : List Ce} (h : OwnsF b H (kS s) R) (hk : s ≠ s') : OwnsF b (app (upReg s' 0 L) H) (kS s) R := fun a ha => by
  rw [show app (upReg s' 0 L) H (kS s a) = H (kS s a) from upReg_ne' _ _ _ _ _ _ hk]
  exact h a ha
theorem heldCellS (L : List Ce) (m : Int) (hm : 0 ≤ m ∧ nxtR L m ≤ 100000000000) (hL : SmallM L) : Cn Tryz.prog 79 [Cs (markR L m), I m] (I (nxtR L m)) hemp := by
  have h20 := hL.len
  refine Cn.of [] mixed Tryz.func79 rfl Tryz.call79 (by kernel_rfl) rfl ?_
  simp -implicitDefEqProofs -dsimp +contextual [-Bool.exists_bool, -Int.not_le, -Int.not_lt, -getElem?_pos, -List.getD_eq_getElem?_getD, Tryz.f79]
  refine WP.loop mixed [] (fun i : Nat => ⟨tl [(0, Cs (markR L m)), (1, I (nxtR (L.take i) m)), (5, I i)], hl [], 1⟩) (fun i => i ≤ L.length) (fun i => L.length - i) 0 (by kernel_rfl) ?_ ?_ ?_
  · refine Le.told [] ?_ ?_ ?_ <;> simp [-Bool.exists_bool, -Int.not_le, -Int.not_lt, -getElem?_pos, -List.getD_eq_getElem?_getD, nxtR]
  · simp [-Bool.exists_bool, -Int.not_le, -Int.not_lt, -getElem?_pos, -List.getD_eq_getElem?_getD]
  · intro i hi
    have hml := markR_len L m
    by_cases h : i < L.length
    · have hm0 := nxtR_le (L.take i) m
      have hm1 := nxtR_take L m (i + 1)
      rw [nth_take h, nxtR_app] at hm1
      simp only [nxtR] at hm1
      have hm2 := nxtS_le (nth L i).2 (nxtR (L.take i) m + 1)
      have hnth : nth (markR L m) i = (nxtR (L.take i) m, markS (nth L i).2 (nxtR (L.take i) m + 1)) := by
        have e1 : L = L.take i ++ nth L i :: L.drop (i + 1) := by rw [← nth_drop h, List.take_append_drop]
        have e2 : markR L m = markR (L.take i) m ++ (nxtR (L.take i) m, markS (nth L i).2 (nxtR (L.take i) m + 1)) :: markR (L.drop (i + 1)) (nxtS (nth L i).2 (nxtR (L.take i) m + 1)) := by
          rw [congrArg (fun l => markR l m) e1, markR_app]; rfl
        have hti : (markR (L.take i) m).length = i := by rw [markR_len]; simp [-Bool.exists_bool, -Int.not_le, -Int.not_lt, -getElem?_pos, -List.getD_eq_getElem?_getD]; omega
        rw [nth_eq (by omega)]
        simp only [e2]
        rw [List.getElem_append_right (by omega)]
        simp [-Bool.exists_bool, -Int.not_le, -Int.not_lt, -getElem?_pos, -List.getD_eq_getElem?_getD, hti]
      have w1 : IntKind.wrap .i64 (nxtR (L.take i) m + 1) = nxtR (L.take i) m + 1 := wr (by omega) (by omega)
      simp -implicitDefEqProofs -dsimp +contextual [-Bool.exists_bool, -Int.not_le, -Int.not_lt, -getElem?_pos, -List.getD_eq_getElem?_getD, h, hml, hnth, w1]
      refine CallJ.pure (heldAtomS (nth L i).2 (nxtR (L.take i) m + 1) ⟨by omega, by omega⟩ (hL.cel _ (nth_mem h)) (hL.dir _ (nth_mem h))) rfl (by simp [-Bool.exists_bool, -Int.not_le, -Int.not_lt, -getElem?_pos, -List.getD_eq_getElem?_getD]) ?_
      have hneg : ¬ nxtS (nth L i).2 (nxtR (L.take i) m + 1) < 0 := by omega
      simp -implicitDefEqProofs -dsimp +contextual [-Bool.exists_bool, -Int.not_le, -Int.not_lt, -getElem?_pos, -List.getD_eq_getElem?_getD, h, hml, hnth, w1, hneg]
      refine ⟨i + 1, h, by omega, ?_⟩
      rw [wr (by omega) (by omega)]
      refine Le.told [] ?_ ?_ ?_ <;> simp [-Bool.exists_bool, -Int.not_le, -Int.not_lt, -getElem?_pos, -List.getD_eq_getElem?_getD, nth_take h, nxtR_app, nxtR]
    · obtain rfl : i = L.length := by omega
      simp -implicitDefEqProofs -dsimp +contextual [-Bool.exists_bool, -Int.not_le, -Int.not_lt, -getElem?_pos, -List.getD_eq_getElem?_getD, h, hml]
      exact RLe.pure 1 (by simp [-Bool.exists_bool, -Int.not_le, -Int.not_lt, -getElem?_pos, -List.getD_eq_getElem?_getD])
theorem heldRegion (d : Int) (L : List Ce) (m : Int) (hm : 0 ≤ m ∧ nxtR L m ≤ 100000000000) (hL : SmallM L) : Cn Tryz.prog 31 [R1 d (markR L m), I m] (I (nxtR L m)) hemp := by
  have h20 := hL.len
  have hm1 := nxtR_le L m
  have hneg : ¬ nxtR L m < 0 := by omega
  refine Cn.of [] mixed Tryz.func31 rfl Tryz.call31 (by kernel_rfl) rfl ?_
  simp -implicitDefEqProofs -dsimp +contextual [-Bool.exists_bool, -Int.not_le, -Int.not_lt, -getElem?_pos, -List.getD_eq_getElem?_getD, Tryz.f31]
  refine CallJ.pure (heldCellS L m hm hL) rfl (by simp [-Bool.exists_bool, -Int.not_le, -Int.not_lt, -getElem?_pos, -List.getD_eq_getElem?_getD]) ?_
  simp -implicitDefEqProofs -dsimp +contextual [-Bool.exists_bool, -Int.not_le, -Int.not_lt, -getElem?_pos, -List.getD_eq_getElem?_getD, hneg]
  exact RLe.pure 1 (by simp [-Bool.exists_bool, -Int.not_le, -Int.not_lt, -getElem?_pos, -List.getD_eq_getElem?_getD])
theorem keyR_lt {kf : RK → Key} {nx : Nat} (h : ∀ a, (kf a).1 < nx) : ∀ (R : List Ce) (i : Nat), ∀ k ∈ keyR kf i R, k.1 < nx
  | [], _, k, hk => by cases hk
  | c :: R, i, k, hk => by
    simp only [keyR, List.cons_append, List.mem_cons, List.mem_append, List.mem_map] at hk
    rcases hk with rfl | ⟨j, _, rfl⟩ | hk
    · exact h _
    · exact h _
    · exact keyR_lt h R (i + 1) k hk
theorem OwnsF.held {N nx t s : Nat} {K : Eff → Prop} {H : Store} {L : List Ce} (d m : Int) (hm : 0 ≤ m ∧ nxtR L m ≤ 100000000000) (hL : SmallM L) (h : OwnsF true H (kS s) (markR L m)) (hn : s < nx)
    (hk : K ⟨I (nxtR L m), (s, 0) :: keyR (kS s) 0 (markR L m), [], noUp⟩) : CallJ Tryz.prog N nx t H 31 [.agg [I d, .ref (s, 0) L.length], I m] K := by
  have hl := h.lend 0 d
  rw [markR_len] at hl
  refine CallJ.lent (ks := (s, 0) :: keyR (kS s) 0 (markR L m)) 3 (heldRegion d L m hm hL) ?_ (fun k hk => .inl ?_) rfl (by simp [-Bool.exists_bool, -Int.not_le, -Int.not_lt, -getElem?_pos, -List.getD_eq_getElem?_getD]) ?_
  · simp only [lendVs, show lendV true H 3 (.agg [I d, .ref (s, 0) L.length]) = _ from hl]
    simp [-Bool.exists_bool, -Int.not_le, -Int.not_lt, -getElem?_pos, -List.getD_eq_getElem?_getD, lendV, encR]
  · rcases List.mem_cons.1 hk with rfl | hk
    · exact hn
    · exact keyR_lt (fun a => hn) _ _ k hk
  · rw [upCall_emp]; exact hk
theorem OwnsF.eqR {N nx t s : Nat} {K : Eff → Prop} {H : Store} {L : List Ce} (d : Int) (hL : SmallM L) (h : OwnsF true H (kS s) L) (hn : s < nx)
    (hk : K ⟨B true, (s, 0) :: keyR (kS s) 0 L, [], noUp⟩) : CallJ Tryz.prog N nx t H 29 [.agg [I d, .ref (s, 0) L.length], R1 d L] K := by
  have hl := h.lend 0 d
  refine CallJ.lent (ks := (s, 0) :: keyR (kS s) 0 L) 3 (eqRegion d L hL.len fun c hc => ⟨hL.cel c hc, hL.dir c hc⟩) ?_ (fun k hk => .inl ?_) rfl (by simp [-Bool.exists_bool, -Int.not_le, -Int.not_lt, -getElem?_pos, -List.getD_eq_getElem?_getD]) ?_
  · simp only [lendVs, show lendV true H 3 (.agg [I d, .ref (s, 0) L.length]) = _ from hl]
    simp [-Bool.exists_bool, -Int.not_le, -Int.not_lt, -getElem?_pos, -List.getD_eq_getElem?_getD, lendV, encR]
  · rcases List.mem_cons.1 hk with rfl | hk
    · exact hn
    · exact keyR_lt (fun a => hn) _ _ k hk
  · rw [upCall_emp]; exact hk
end Go.Proofs.YtjknjekemolndaaGreat.ZL
namespace Go.Proofs.YtjknjekemolndaaGreat.ZL
open Go Go.Proofs.YtjknjekemolndaaGreat.Abs Go.Proofs.YtjknjekemolndaaGreat.Abs.Pl Go.RowKit Go.Proofs
set_option linter.unusedVariables false
set_option linter.unusedSimpArgs false
set_option maxRecDepth 100000
abbrev oaH (d : Int) (n : Nat) (c : List V) : Store := hl [((0, 1), .box [I d, .ref (0, 2) n]), ((0, 2), .row 26 n c)]
def oaN (d : Int) (n : Nat) (c : List V) (x : Ce) : Store := fun k => if k = (0, 1) then some (.box [I d, .ref (1, 0) (n + 1)]) else if k.1 = 1 then (match k.2 with
    | 0 => some (.row 26 (n + 1) (c ++ [I x.1, .ref (1, 1) x.2.length]))
    | 1 => some (.row 66 x.2.length (rA (fun j => (1, j + 2)) 0 x.2))
    | j + 2 => ownA x.2 j) else none
def oaOut (d : Int) (n : Nat) (c : List V) (x : Ce) : Bool × Store := if (minD x.1 x.2).2.2 = true then (if emF (minD x.1 x.2).2.1 = true then (true, oaH d n c) else if n < 12 then (true, oaN d n c ((minD x.1 x.2).1, (minD x.1 x.2).2.1)) else (false, oaH d n c)) else (false, oaH d n c)
def invA (sA sM : Nat) (k : Key) : Key := if k.1 = 1 then (match k.2 with
    | 0 => (sA, 0)
    | 1 => (sM, 0)
    | j + 2 => (sM, j + 1)) else k
theorem RLm.oaN {P : Program} {H : Store} {b n : Nat} {sA sM : Nat} {d : Int} {c : List V} {x : Ce} {v r : V} (hb : 2 ≤ b) (h2 : 2 ≤ sA) (h3 : sA ≠ sM) (hc : allKs (kA b) c) (hv : VLe H (invA sA sM) 2 v r) (hr : allK (okKey (kA b)) r)
    (hx : H (0, 1) = some (.box [I d, .ref (sA, 0) (n + 1)])) (hA : H (sA, 0) = some (.row 26 (n + 1) (c ++ [I x.1, .ref (sM, 0) x.2.length]))) (hM : Owns H sM x.2) (h4 : 2 ≤ sM) : RLm P (kA b) H v r (ZL.oaN d n c x) := by
  have ok1 : ∀ j, okKey (kA b) (1, j) := fun j h => by cases h
  have cases_ : ∀ k e', ZL.oaN d n c x k = some e' → (k = (0, 1) ∧ e' = .box [I d, .ref (1, 0) (n + 1)]) ∨ (k = (1, 0) ∧ e' = .row 26 (n + 1) (c ++ [I x.1, .ref (1, 1) x.2.length])) ∨ (k = (1, 1) ∧ e' = .row 66 x.2.length (rA (fun j => (1, j + 2)) 0 x.2)) ∨ ∃ j, j < x.2.length ∧ k = (1, j + 2) ∧ e' = rowA (nth x.2 j) := fun k e' h => by
    obtain ⟨k1, k2⟩ := k
    unfold ZL.oaN at h
    split at h
    · rename_i e; exact .inl ⟨e, (Option.some.inj h).symm⟩
    · split at h
      · rename_i e
        simp only at e
        subst e
        match k2, h with
        | 0, h => exact .inr (.inl ⟨rfl, (Option.some.inj h).symm⟩)
        | 1, h => exact .inr (.inr (.inl ⟨rfl, (Option.some.inj h).symm⟩))
        | j + 2, h => obtain ⟨h1, h2⟩ := ownA_some h; exact .inr (.inr (.inr ⟨j, h1, rfl, h2⟩))
      · cases h
  have hk0 : ∀ k : Key, kA b k → invA sA sM k = k ∧ k.1 < 2 := fun k hk => ⟨by unfold invA; rw [if_neg (by rw [hk.1]; omega)], by rw [hk.1]; omega⟩
  refine RLm.mk (invA sA sM) (fun k hk => by unfold invA; rw [if_neg (by omega)]) hv hr (fun k e' h => ?_) (fun k k' e e' h h' he => ?_)
  · rcases cases_ k e' h with ⟨rfl, rfl⟩ | ⟨rfl, rfl⟩ | ⟨rfl, rfl⟩ | ⟨j, hj, rfl, rfl⟩
    · refine ⟨by show 0 < 2; omega, fun _ => ⟨rfl, by simp [-Bool.exists_bool, -Int.not_le, -Int.not_lt, -getElem?_pos, -List.getD_eq_getElem?_getD], by simp [-Bool.exists_bool, -Int.not_le, -Int.not_lt, -getElem?_pos, -List.getD_eq_getElem?_getD]; omega⟩, by simp [-Bool.exists_bool, -Int.not_le, -Int.not_lt, -getElem?_pos, -List.getD_eq_getElem?_getD, allKE, allKs, allK, ok1], _, hx, ?_⟩
      simp [-Bool.exists_bool, -Int.not_le, -Int.not_lt, -getElem?_pos, -List.getD_eq_getElem?_getD, ELe, VLes, VLe, asDz, invA]
    · refine ⟨by show 1 < 2; omega, ok1 _, ?_, _, hA, ?_⟩
      · simp only [allKE]
        exact allKs_app (allKs_mono (p := kA b) (q := okKey (kA b)) (fun k hk _ => hk) hc) (by simp [-Bool.exists_bool, -Int.not_le, -Int.not_lt, -getElem?_pos, -List.getD_eq_getElem?_getD, allKs, allK, ok1])
      · simp only [ELe, true_and]
        exact VLes_app (VLes_inv hk0 hc) (by simp [-Bool.exists_bool, -Int.not_le, -Int.not_lt, -getElem?_pos, -List.getD_eq_getElem?_getD, VLes, VLe, asDz, invA])
    · refine ⟨by show 1 < 2; omega, ok1 _, ?_, _, hM.row, ?_⟩
      · simp only [allKE]
        exact rA_allKs _ _ 0 fun i hi => ok1 _
      · simp only [ELe, true_and]
        exact rA_VLes _ 0 fun i hi => ⟨by show _ = invA sA sM (1, 0 + i + 2); simp [-Bool.exists_bool, -Int.not_le, -Int.not_lt, -getElem?_pos, -List.getD_eq_getElem?_getD, invA], by show 1 < 2; omega⟩
    · refine ⟨by show 1 < 2; omega, ok1 _, by simp [-Bool.exists_bool, -Int.not_le, -Int.not_lt, -getElem?_pos, -List.getD_eq_getElem?_getD, rowA, allKE], _, hM.dir j hj, ?_⟩
      simp only [rowA, ELe, true_and]
      exact (dl_VLes ..).2 rfl
  · rcases cases_ k e h with ⟨rfl, _⟩ | ⟨rfl, _⟩ | ⟨rfl, _⟩ | ⟨j, hj, rfl, _⟩ <;> rcases cases_ k' e' h' with ⟨rfl, _⟩ | ⟨rfl, _⟩ | ⟨rfl, _⟩ | ⟨j', hj', rfl, _⟩ <;> simp [-Bool.exists_bool, -Int.not_le, -Int.not_lt, -getElem?_pos, -List.getD_eq_getElem?_getD, invA] at he ⊢ <;> omega
theorem RLm.oaS {P : Program} {H : Store} {b n : Nat} {d : Int} {c : List V} {r : Bool} (hb : 2 ≤ b) (hc : allKs (kA b) c) (h1 : H (0, 1) = some (.box [I d, .ref (0, 2) n])) (h2 : H (0, 2) = some (.row 26 n c)) : RLm P (kA b) H (B r) (B r) (oaH d n c) := by
  have hj : allKs (okKey (kA b)) c := allKs_mono (p := kA b) (q := okKey (kA b)) (fun k hk _ => hk) hc
  have hv : VLes H (invK []) 2 c c := VLes_inv (p := kA b) (fun k hk => ⟨rfl, by rw [hk.1]; omega⟩) hc
  refine RLm.toldL [] ?_ ?_ ?_ ?_ ?_
  · simp [-Bool.exists_bool, -Int.not_le, -Int.not_lt, -getElem?_pos, -List.getD_eq_getElem?_getD]
  · simp [-Bool.exists_bool, -Int.not_le, -Int.not_lt, -getElem?_pos, -List.getD_eq_getElem?_getD]
  · simp [-Bool.exists_bool, -Int.not_le, -Int.not_lt, -getElem?_pos, -List.getD_eq_getElem?_getD, allK]
  · simp [-Bool.exists_bool, -Int.not_le, -Int.not_lt, -getElem?_pos, -List.getD_eq_getElem?_getD, okKey, kA, allKE, allKs, allK, invK, h1, h2, ELe, VLes, VLe, asDz, hb]
    exact ⟨by omega, hj, hv⟩
  · simp [-Bool.exists_bool, -Int.not_le, -Int.not_lt, -getElem?_pos, -List.getD_eq_getElem?_getD, invK]
theorem addCellO (b : Nat) (d : Int) (n : Nat) (c : List V) (x : Ce) (hb : 2 ≤ b) (hl20 : x.2.length ≤ 1048576) (h12 : n ≤ 12) (hlen : c.length = n * 2) (hone : c.all V.one = true) (hc : allKs (kA b) c) :
    Cm Tryz.prog 85 (kA b) [.ptr (0, 1) 0, C1 x.1 x.2] (oaH d n c) (B (oaOut d n c x).1) (oaOut d n c x).2 := by
  refine Cm.of [] mixed Tryz.func85 rfl Tryz.call85 (by kernel_rfl) rfl ?_
  simp -implicitDefEqProofs -dsimp +contextual [-Bool.exists_bool, -Int.not_le, -Int.not_lt, -getElem?_pos, -List.getD_eq_getElem?_getD, Tryz.f85]
  refine CallJ.pure (iMinimalCellO x.1 x.2 hl20) rfl (by simp [-Bool.exists_bool, -Int.not_le, -Int.not_lt, -getElem?_pos, -List.getD_eq_getElem?_getD]) ?_
  have ho : (minD x.1 x.2).2.2 = true → (minD x.1 x.2).1 = x.1 ∧ isCe x.1 (minD x.1 x.2).2.1 = true ∧ NF x.1 (minD x.1 x.2).2.1 := minD_ok
  unfold oaOut
  generalize minD x.1 x.2 = m at ho ⊢
  obtain ⟨m1, m2, m3⟩ := m
  have f0 : ∀ k : Key, kA b k → (fun x : Key => x) k = k ∧ k.1 < 2 := fun k hk => ⟨rfl, by rw [hk.1]; omega⟩
  have hj : allKs (okKey (kA b)) c := allKs_mono (p := kA b) (q := okKey (kA b)) (fun k hk _ => hk) hc
  cases m3 with
  | false =>
    rw [oV_f (by simp [-Bool.exists_bool, -Int.not_le, -Int.not_lt, -getElem?_pos, -List.getD_eq_getElem?_getD]), oH_f (by simp [-Bool.exists_bool, -Int.not_le, -Int.not_lt, -getElem?_pos, -List.getD_eq_getElem?_getD])]
    simp -implicitDefEqProofs -dsimp +contextual [-Bool.exists_bool, -Int.not_le, -Int.not_lt, -getElem?_pos, -List.getD_eq_getElem?_getD]
    exact RLm.oaS hb hc (by simp [-Bool.exists_bool, -Int.not_le, -Int.not_lt, -getElem?_pos, -List.getD_eq_getElem?_getD, setH]) (by simp [-Bool.exists_bool, -Int.not_le, -Int.not_lt, -getElem?_pos, -List.getD_eq_getElem?_getD, setH])
  | true =>
    rw [oV_t rfl, oH_t rfl]
    simp only at ho ⊢
    obtain ⟨rfl, o2, o3⟩ := ho trivial
    simp -implicitDefEqProofs -dsimp +contextual [-Bool.exists_bool, -Int.not_le, -Int.not_lt, -getElem?_pos, -List.getD_eq_getElem?_getD]
    have hO : Owns (setH (8, 0) (some (Ent.box [V.d (D.int IntKind.i64 x.fst), V.ref (4, 0) m2.length])) (setH (8, 0) (some (Ent.box [V.d (D.int IntKind.i64 0), V.nil])) (app (upCall 4 (ownR m2)) (setH (1, 0) (some (Ent.box [I x.fst, As x.snd])) (oaH d n c))))) 4 m2 := ((Owns.call 4 m2 _).set (by simp [-Bool.exists_bool, -Int.not_le, -Int.not_lt, -getElem?_pos, -List.getD_eq_getElem?_getD])).set (by simp [-Bool.exists_bool, -Int.not_le, -Int.not_lt, -getElem?_pos, -List.getD_eq_getElem?_getD])
    refine CallJ.lent (ks := famK 4 0 m2.length) 2 (iEmptyForm x.1 m2 (isCe_l o2) (isCe_a o2)) (lends1 (c1 := (x.1, m2)) hO) (fun k hk => .inl (famK_lt (by omega) k hk)) rfl (by simp [-Bool.exists_bool, -Int.not_le, -Int.not_lt, -getElem?_pos, -List.getD_eq_getElem?_getD]) ?_
    simp -implicitDefEqProofs -dsimp +contextual [-Bool.exists_bool, -Int.not_le, -Int.not_lt, -getElem?_pos, -List.getD_eq_getElem?_getD]
    refine ⟨fun h1 => RLm.oaS hb hc (by simp [-Bool.exists_bool, -Int.not_le, -Int.not_lt, -getElem?_pos, -List.getD_eq_getElem?_getD, setH]) (by simp [-Bool.exists_bool, -Int.not_le, -Int.not_lt, -getElem?_pos, -List.getD_eq_getElem?_getD, setH]), fun h1 => ⟨fun h2 => ?_, fun h2 => ?_⟩⟩
    · rw [if_neg (by omega)]
      exact RLm.oaS hb hc (by simp [-Bool.exists_bool, -Int.not_le, -Int.not_lt, -getElem?_pos, -List.getD_eq_getElem?_getD, setH]) (by simp [-Bool.exists_bool, -Int.not_le, -Int.not_lt, -getElem?_pos, -List.getD_eq_getElem?_getD, setH])
    · rw [if_pos (by omega)]
      simp -implicitDefEqProofs -dsimp +contextual [-Bool.exists_bool, -Int.not_le, -Int.not_lt, -getElem?_pos, -List.getD_eq_getElem?_getD, hone, hlen, setH]
      refine ⟨⟨by omega, by simp [-Bool.exists_bool, -Int.not_le, -Int.not_lt, -getElem?_pos, -List.getD_eq_getElem?_getD, maxLen]; omega⟩, by kernel_rfl, ?_⟩
      refine RLm.oaN (x := (x.1, m2)) (sA := 28) (sM := 4) hb (by omega) (by omega) hc ?_ ?_ ?_ ?_ ?_ (by omega)
      · simp [-Bool.exists_bool, -Int.not_le, -Int.not_lt, -getElem?_pos, -List.getD_eq_getElem?_getD]
      · simp [-Bool.exists_bool, -Int.not_le, -Int.not_lt, -getElem?_pos, -List.getD_eq_getElem?_getD, allK]
      · simp [-Bool.exists_bool, -Int.not_le, -Int.not_lt, -getElem?_pos, -List.getD_eq_getElem?_getD, setH]
      · simp [-Bool.exists_bool, -Int.not_le, -Int.not_lt, -getElem?_pos, -List.getD_eq_getElem?_getD, setH]
      · repeat first | exact hO | exact Owns.call _ _ _ | refine Owns.set ?_ (by simp [-Bool.exists_bool, -Int.not_le, -Int.not_lt, -getElem?_pos, -List.getD_eq_getElem?_getD])
end Go.Proofs.YtjknjekemolndaaGreat.ZL
namespace Go.Proofs.YtjknjekemolndaaGreat.ZL
open Go Go.Proofs.YtjknjekemolndaaGreat.Abs Go.Proofs.YtjknjekemolndaaGreat.Abs.Pl Go.RowKit Go.Proofs
set_option linter.unusedVariables false
set_option linter.unusedSimpArgs false
structure OwnsP (H : Store) (s : Nat) (L : List At) : Prop where
  row : H (s, 1) = some (.row 66 L.length (rA (fun j => (s, j + 2)) 0 L))
  dir : ∀ j, j < L.length → H (s, j + 2) = some (rowA (nth L j))
def kPut (kf : RK → Key) (n t : Nat) : RK → Key
  | .row => kf .row
  | .cel m => if m < n then kf (.cel m) else (t, 1)
  | .co m j => if m < n then kf (.co m j) else (t, j + 2)
theorem kPut_owns {H : Store} {kf : RK → Key} {R : List Ce} {c : Ce} {t : Nat} (h : OwnsF false H kf R) (hc : OwnsP H t c.2) : OwnsF false H (kPut kf R.length t) (R ++ [c]) := by
  intro a ha
  cases a with
  | row => simp [-Bool.exists_bool, -Int.not_le, -Int.not_lt, -getElem?_pos, -List.getD_eq_getElem?_getD, okF] at ha
  | cel m =>
    have hm : m < (R ++ [c]).length := by simpa [-Bool.exists_bool, -Int.not_le, -Int.not_lt, -getElem?_pos, -List.getD_eq_getElem?_getD, okF] using ha
    by_cases h1 : m < R.length
    · simp only [kPut, if_pos h1, entR]
      rw [h (.cel m) (by simp [-Bool.exists_bool, -Int.not_le, -Int.not_lt, -getElem?_pos, -List.getD_eq_getElem?_getD, okF, h1]), entR, nth_appL h1]
    · have h2 : m = R.length := by simp [-Bool.exists_bool, -Int.not_le, -Int.not_lt, -getElem?_pos, -List.getD_eq_getElem?_getD] at hm; omega
      subst h2
      simp only [kPut, if_neg h1, entR]
      rw [hc.row, nth_appR]
  | co m j =>
    have hm : m < (R ++ [c]).length ∧ j < (nth (R ++ [c]) m).2.length := by simpa only [okF, decide_eq_true_eq] using ha
    by_cases h1 : m < R.length
    · rw [nth_appL h1] at hm
      simp only [kPut, if_pos h1, entR]
      rw [h (.co m j) (by simp [-Bool.exists_bool, -Int.not_le, -Int.not_lt, -getElem?_pos, -List.getD_eq_getElem?_getD, okF, h1, hm.2]), entR, nth_appL h1]
    · have h2 : m = R.length := by have := hm.1; simp [-Bool.exists_bool, -Int.not_le, -Int.not_lt, -getElem?_pos, -List.getD_eq_getElem?_getD] at this; omega
      subst h2
      rw [nth_appR] at hm
      simp only [kPut, if_neg h1, entR]
      rw [hc.dir j hm.2, nth_appR]
theorem kPut_inj {b : Bool} {R : List Ce} {c : Ce} {s t : Nat} (hR : SmallR (R ++ [c])) (hst : s ≠ t) : ∀ a d, okF b (R ++ [c]) a = true → okF b (R ++ [c]) d = true → kPut (kS s) R.length t a = kPut (kS s) R.length t d → a = d := by
  intro a d ha hd h
  have fst : ∀ a, (kPut (kS s) R.length t a).1 = s ∧ kPut (kS s) R.length t a = kS s a ∨ ((kPut (kS s) R.length t a).1 = t ∧ match a with
      | .row => False
      | .cel m => ¬ m < R.length ∧ kPut (kS s) R.length t a = (t, 1)
      | .co m j => ¬ m < R.length ∧ kPut (kS s) R.length t a = (t, j + 2)) := fun a => by
    cases a with
    | row => exact .inl ⟨rfl, rfl⟩
    | cel m => by_cases h1 : m < R.length
               · exact .inl (by simp [-Bool.exists_bool, -Int.not_le, -Int.not_lt, -getElem?_pos, -List.getD_eq_getElem?_getD, kPut, h1])
               · exact .inr (by simp [-Bool.exists_bool, -Int.not_le, -Int.not_lt, -getElem?_pos, -List.getD_eq_getElem?_getD, kPut, h1])
    | co m j => by_cases h1 : m < R.length
                · exact .inl (by simp [-Bool.exists_bool, -Int.not_le, -Int.not_lt, -getElem?_pos, -List.getD_eq_getElem?_getD, kPut, h1])
                · exact .inr (by simp [-Bool.exists_bool, -Int.not_le, -Int.not_lt, -getElem?_pos, -List.getD_eq_getElem?_getD, kPut, h1])
  rcases fst a with ⟨f1, e1⟩ | ⟨f1, e1⟩ <;> rcases fst d with ⟨f2, e2⟩ | ⟨f2, e2⟩
  · rw [e1, e2] at h
    injection h with _ h
    exact encR_inj hR ha hd h
  · rw [h] at f1; exact absurd (f1.symm.trans f2) hst
  · rw [h] at f1; exact absurd (f2.symm.trans f1) hst
  · cases a with
    | row => exact e1.elim
    | cel m => cases d with
      | row => exact e2.elim
      | cel m' =>
        have a1 : m < (R ++ [c]).length := by simpa [-Bool.exists_bool, -Int.not_le, -Int.not_lt, -getElem?_pos, -List.getD_eq_getElem?_getD, okF] using ha
        have a2 : m' < (R ++ [c]).length := by simpa [-Bool.exists_bool, -Int.not_le, -Int.not_lt, -getElem?_pos, -List.getD_eq_getElem?_getD, okF] using hd
        simp [-Bool.exists_bool, -Int.not_le, -Int.not_lt, -getElem?_pos, -List.getD_eq_getElem?_getD] at a1 a2
        have := e1.1; have := e2.1
        congr 1; omega
      | co m' j' => rw [e1.2, e2.2] at h; simp [-Bool.exists_bool, -Int.not_le, -Int.not_lt, -getElem?_pos, -List.getD_eq_getElem?_getD] at h
    | co m j => cases d with
      | row => exact e2.elim
      | cel m' => rw [e1.2, e2.2] at h; simp [-Bool.exists_bool, -Int.not_le, -Int.not_lt, -getElem?_pos, -List.getD_eq_getElem?_getD] at h
      | co m' j' =>
        have a1 : m < (R ++ [c]).length ∧ j < (nth (R ++ [c]) m).2.length := by simpa only [okF, decide_eq_true_eq] using ha
        have a2 : m' < (R ++ [c]).length ∧ j' < (nth (R ++ [c]) m').2.length := by simpa only [okF, decide_eq_true_eq] using hd
        have b1 := a1.1; have b2 := a2.1
        simp [-Bool.exists_bool, -Int.not_le, -Int.not_lt, -getElem?_pos, -List.getD_eq_getElem?_getD] at b1 b2
        have := e1.1; have := e2.1
        rw [e1.2, e2.2] at h
        injection h with _ h
        congr 1 <;> omega
theorem kPut_VLes {H : Store} {iv : List (Key × Key)} {nx s t : Nat} (R : List Ce) (c : Ce) (hs : s < nx) : VLes H (invR s (kPut (kS s) R.length t) iv) nx (rC (fun m => kS s (.cel m)) 0 R ++ [I c.1, .ref (t, 1) c.2.length]) (rC (fun m => kS s (.cel m)) 0 (R ++ [c])) := by
  have hat : ∀ m, invR s (kPut (kS s) R.length t) iv (kS s (.cel m)) = kPut (kS s) R.length t (.cel m) := fun m => by
    unfold invR
    rw [if_pos rfl]
    show kPut _ _ _ (decR (encR (.cel m))) = _
    rw [dec_enc (a := .cel m) trivial]
  rw [rC_append]
  refine VLes_app (rC_VLes R 0 fun m hm => ⟨?_, hs⟩) ?_
  · rw [hat, Nat.zero_add]; simp [-Bool.exists_bool, -Int.not_le, -Int.not_lt, -getElem?_pos, -List.getD_eq_getElem?_getD, kPut, hm]
  · simp only [rC, VLes, VLe, asDz, Nat.zero_add]
    exact ⟨trivial, ⟨by rw [hat]; simp [-Bool.exists_bool, -Int.not_le, -Int.not_lt, -getElem?_pos, -List.getD_eq_getElem?_getD, kPut], hs⟩, trivial⟩
theorem kPut_fst {s n t : Nat} (a : RK) : (kPut (kS s) n t a).1 = s ∨ (kPut (kS s) n t a).1 = t := by
  cases a with
  | row => exact .inl rfl
  | cel m => simp only [kPut]; split <;> simp [-Bool.exists_bool, -Int.not_le, -Int.not_lt, -getElem?_pos, -List.getD_eq_getElem?_getD]
  | co m j => simp only [kPut]; split <;> simp [-Bool.exists_bool, -Int.not_le, -Int.not_lt, -getElem?_pos, -List.getD_eq_getElem?_getD]
theorem mapL_app2 (g : Key → Key) : ∀ (a b : List V), mapL g (a ++ b) = mapL g a ++ mapL g b
  | [], b => by simp [-Bool.exists_bool, -Int.not_le, -Int.not_lt, -getElem?_pos, -List.getD_eq_getElem?_getD, mapL]
  | v :: a, b => by rw [List.cons_append, mapL, mapL, mapL_app2 g a b, List.cons_append]
def upSmO (kb kr : Key) (d : Int) (n : Nat) (c : List V) : Key → Option (Option Ent) := fun k => if k = kb then some (some (.box [I d, .ref kr n])) else if k = kr then some (some (.row 26 n c)) else none
def upAddO (kb kr : Key) (s : Nat) (d : Int) (n : Nat) (c : List V) (x : Ce) : Key → Option (Option Ent) := fun k => if k.1 = s then (match k.2 with
    | 0 => some (some (.row 26 (n + 1) (c ++ [I x.1, .ref (s, 1) x.2.length])))
    | 1 => some (some (.row 66 x.2.length (rA (fun j => (s, j + 2)) 0 x.2)))
    | j + 2 => (ownA x.2 j).map some) else if k = kb then some (some (.box [I d, .ref (s, 0) (n + 1)])) else if k = kr then some none else none
theorem addO_kb {kb kr : Key} {s n : Nat} {d : Int} {c : List V} {x : Ce} {H : Store} (h : kb.1 ≠ s) : app (upAddO kb kr s d n c x) H kb = some (.box [I d, .ref (s, 0) (n + 1)]) := by simp [-Bool.exists_bool, -Int.not_le, -Int.not_lt, -getElem?_pos, -List.getD_eq_getElem?_getD, app, upAddO, h]
theorem addO_row {kb kr : Key} {s n : Nat} {d : Int} {c : List V} {x : Ce} {H : Store} : app (upAddO kb kr s d n c x) H (s, 0) = some (.row 26 (n + 1) (c ++ [I x.1, .ref (s, 1) x.2.length])) := by simp [-Bool.exists_bool, -Int.not_le, -Int.not_lt, -getElem?_pos, -List.getD_eq_getElem?_getD, app, upAddO]
theorem addO_owns {kb kr : Key} {s n : Nat} {d : Int} {c : List V} {x : Ce} {H : Store} : OwnsP (app (upAddO kb kr s d n c x) H) s x.2 := ⟨by simp [-Bool.exists_bool, -Int.not_le, -Int.not_lt, -getElem?_pos, -List.getD_eq_getElem?_getD, app, upAddO], fun j hj => by simp [-Bool.exists_bool, -Int.not_le, -Int.not_lt, -getElem?_pos, -List.getD_eq_getElem?_getD, app, upAddO, ownA_lt hj]⟩
theorem addO_ne {kb kr : Key} {s n : Nat} {d : Int} {c : List V} {x : Ce} {H : Store} {k : Key} (h : k.1 ≠ s) (hb : k ≠ kb) (hr : k ≠ kr) : app (upAddO kb kr s d n c x) H k = H k := by simp [-Bool.exists_bool, -Int.not_le, -Int.not_lt, -getElem?_pos, -List.getD_eq_getElem?_getD, app, upAddO, h, hb, hr]
theorem smO_kb {kb kr : Key} {n : Nat} {d : Int} {c : List V} {H : Store} : app (upSmO kb kr d n c) H kb = some (.box [I d, .ref kr n]) := by simp [-Bool.exists_bool, -Int.not_le, -Int.not_lt, -getElem?_pos, -List.getD_eq_getElem?_getD, app, upSmO]
theorem smO_kr {kb kr : Key} {n : Nat} {d : Int} {c : List V} {H : Store} (h : kr ≠ kb) : app (upSmO kb kr d n c) H kr = some (.row 26 n c) := by simp [-Bool.exists_bool, -Int.not_le, -Int.not_lt, -getElem?_pos, -List.getD_eq_getElem?_getD, app, upSmO, h]
theorem smO_ne {kb kr : Key} {n : Nat} {d : Int} {c : List V} {H : Store} {k : Key} (hb : k ≠ kb) (hr : k ≠ kr) : app (upSmO kb kr d n c) H k = H k := by simp [-Bool.exists_bool, -Int.not_le, -Int.not_lt, -getElem?_pos, -List.getD_eq_getElem?_getD, app, upSmO, hb, hr]
theorem callAddO {N nx s : Nat} {H : Store} {K : Eff → Prop} (kb kr : Key) (sf : Nat) (d : Int) (R : List Ce) (x : Ce) (hl20 : x.2.length ≤ 1048576) (h12 : R.length ≤ 12) (hb : H kb = some (.box [I d, .ref kr R.length])) (hr : H kr = some (.row 26 R.length (rC (fun m => kS sf (.cel m)) 0 R)))
    (hF : ∀ m, m < R.length → (H (kS sf (.cel m))).isSome = true) (hne : kb ≠ kr) (hn : kb.1 < nx ∧ kr.1 < nx ∧ sf < nx) (hs : kb.1 ≠ s ∧ kr.1 ≠ s)
    (k0 : addC R x = none → K ⟨B false, [kb, kr] ++ (List.range R.length).map (fun m => kS sf (.cel m)), [kb, kr], upSmO kb kr d R.length (rC (fun m => kS sf (.cel m)) 0 R)⟩)
    (k1 : addC R x = some R → K ⟨B true, [kb, kr] ++ (List.range R.length).map (fun m => kS sf (.cel m)), [kb, kr], upSmO kb kr d R.length (rC (fun m => kS sf (.cel m)) 0 R)⟩)
    (k2 : ∀ y, addC R x = some (R ++ [y]) → K ⟨B true, [kb, kr] ++ (List.range R.length).map (fun m => kS sf (.cel m)), [kb, kr], upAddO kb kr s d R.length (rC (fun m => kS sf (.cel m)) 0 R) y⟩) :
    CallJ Tryz.prog N nx s H 85 [.ptr kb 0, C1 x.1 x.2] K := by
  let g : Nat → Key := fun j => match j with
    | 0 => kb
    | 1 => kr
    | j + 2 => kS sf (.cel j)
  let gi : Key → Option Nat := fun k => if k = kb then some 0 else if k = kr then some 1 else none
  have gA : (fun i => gk g s (0, i + 3)) = fun j => kS sf (.cel j) := rfl
  have gp : gi kb = some 0 := if_pos rfl
  have ga : gi kr = some 1 := by show (if kr = kb then _ else if kr = kr then _ else _) = _; rw [if_neg (fun h => hne h.symm), if_pos rfl]
  have gn : ∀ k, k ≠ kb → k ≠ kr → gi k = none := fun k h2 h3 => by show (if _ then _ else if _ then _ else _) = _; rw [if_neg h2, if_neg h3]
  have hck : allKs (kA (2 + R.length)) (rC (fun j => (0, j + 3)) 0 R) := rC_allKs _ 0 fun j hj => ⟨rfl, by show 1 ≤ 0 + j + 3; omega, by show 0 + j + 3 ≤ _; omega⟩
  have hmain := addCellO (2 + R.length) d R.length (rC (fun j => (0, j + 3)) 0 R) x (by omega) hl20 h12 (rC_len _ _ _) (rC_one _ _ _) hck
  have base : ∀ {r : Bool} {Hr : Store}, Cm Tryz.prog 85 (kA (2 + R.length)) [.ptr (0, 1) 0, C1 x.1 x.2] (oaH d R.length (rC (fun j => (0, j + 3)) 0 R)) (B r) Hr → (∀ k e, Hr k = some e → k.1 < 2 ∧ (k.1 = 0 → (oaH d R.length (rC (fun j => (0, j + 3)) 0 R) k).isSome = true)) →
      K ⟨B r, [kb, kr] ++ (List.range R.length).map (fun m => kS sf (.cel m)), [kb, kr], upMut g gi s Hr⟩ → CallJ Tryz.prog N nx s H 85 [.ptr kb 0, C1 x.1 x.2] K := fun {r Hr} hm h2 hk => by
    refine CallJ.mut g gi [kb, kr] ((List.range R.length).map fun m => kS sf (.cel m)) hm rfl (by simp [-Bool.exists_bool, -Int.not_le, -Int.not_lt, -getElem?_pos, -List.getD_eq_getElem?_getD, allKs, allK, kA]; omega) ?_ ?_ ?_ ?_ h2 ?_ hk
    · rintro ⟨a, b⟩ ⟨rfl, h1, h2⟩
      refine ⟨rfl, h1, ?_⟩
      match b, h1, h2 with
      | 1, _, _ => exact ⟨by show (H kb).isSome = true; rw [hb]; rfl, by show kb ∈ _; simp [-Bool.exists_bool, -Int.not_le, -Int.not_lt, -getElem?_pos, -List.getD_eq_getElem?_getD]⟩
      | 2, _, _ => exact ⟨by show (H kr).isSome = true; rw [hr]; rfl, by show kr ∈ _; simp [-Bool.exists_bool, -Int.not_le, -Int.not_lt, -getElem?_pos, -List.getD_eq_getElem?_getD]⟩
      | j + 3, _, h2 =>
        have hj : j < R.length := by have : j + 3 ≤ 2 + R.length := h2; omega
        exact ⟨hF j hj, List.mem_append_right _ (List.mem_map.2 ⟨j, by simpa [-Bool.exists_bool, -Int.not_le, -Int.not_lt, -getElem?_pos, -List.getD_eq_getElem?_getD] using hj, rfl⟩)⟩
    · intro k e hk
      have := hl_mem hk
      simp only [List.mem_cons, List.not_mem_nil, or_false, Prod.mk.injEq] at this
      rcases this with ⟨rfl, rfl⟩ | ⟨rfl, rfl⟩
      · exact ⟨⟨rfl, by simp [-Bool.exists_bool, -Int.not_le, -Int.not_lt, -getElem?_pos, -List.getD_eq_getElem?_getD], by simp [-Bool.exists_bool, -Int.not_le, -Int.not_lt, -getElem?_pos, -List.getD_eq_getElem?_getD]; omega⟩, hb, by simp [-Bool.exists_bool, -Int.not_le, -Int.not_lt, -getElem?_pos, -List.getD_eq_getElem?_getD, allKE, allKs, allK, kA], gp⟩
      · refine ⟨⟨rfl, by simp [-Bool.exists_bool, -Int.not_le, -Int.not_lt, -getElem?_pos, -List.getD_eq_getElem?_getD], by simp [-Bool.exists_bool, -Int.not_le, -Int.not_lt, -getElem?_pos, -List.getD_eq_getElem?_getD]⟩, ?_, hck, ga⟩
        show H kr = _
        rw [hr]
        simp only [mapE, rC_mapL]
        rw [gA]
    · intro k j hg
      by_cases h2 : k = kb
      · subst h2
        rw [gp] at hg
        obtain rfl := Option.some.inj hg
        exact ⟨rfl, by simp [-Bool.exists_bool, -Int.not_le, -Int.not_lt, -getElem?_pos, -List.getD_eq_getElem?_getD], by simp [-Bool.exists_bool, -Int.not_le, -Int.not_lt, -getElem?_pos, -List.getD_eq_getElem?_getD]⟩
      · by_cases h3 : k = kr
        · subst h3
          rw [ga] at hg
          obtain rfl := Option.some.inj hg
          exact ⟨rfl, by simp [-Bool.exists_bool, -Int.not_le, -Int.not_lt, -getElem?_pos, -List.getD_eq_getElem?_getD], by simp [-Bool.exists_bool, -Int.not_le, -Int.not_lt, -getElem?_pos, -List.getD_eq_getElem?_getD]⟩
        · rw [gn k h2 h3] at hg
          cases hg
    · intro k hk
      simp only [List.mem_cons, List.not_mem_nil, or_false] at hk
      rcases hk with rfl | rfl
      · rw [gp]; rfl
      · rw [ga]; rfl
    · intro k hk
      simp only [List.mem_append, List.mem_cons, List.not_mem_nil, or_false, List.mem_map, List.mem_range] at hk
      rcases hk with (rfl | rfl) | ⟨j, hj, rfl⟩
      · exact ⟨by rw [hb]; rfl, .inl hn.1⟩
      · exact ⟨by rw [hr]; rfl, .inl hn.2.1⟩
      · exact ⟨hF j hj, .inl hn.2.2⟩
  have um : upMut g gi s (oaH d R.length (rC (fun j => (0, j + 3)) 0 R)) = upSmO kb kr d R.length (rC (fun m => kS sf (.cel m)) 0 R) := by
    funext k
    unfold upMut upSmO
    by_cases h1 : k.1 = s
    · have n1 : k ≠ kb := fun e => hs.1 (by rw [← e]; exact h1)
      have n2 : k ≠ kr := fun e => hs.2 (by rw [← e]; exact h1)
      simp [-Bool.exists_bool, -Int.not_le, -Int.not_lt, -getElem?_pos, -List.getD_eq_getElem?_getD, h1, n1, n2]
    · rw [if_neg h1]
      by_cases h2 : k = kb
      · rw [h2, gp, if_pos rfl]; simp [-Bool.exists_bool, -Int.not_le, -Int.not_lt, -getElem?_pos, -List.getD_eq_getElem?_getD, mapE, gk]; rfl
      · by_cases h3 : k = kr
        · rw [h3, ga, if_neg (fun h => hne h.symm), if_pos rfl]; simp [-Bool.exists_bool, -Int.not_le, -Int.not_lt, -getElem?_pos, -List.getD_eq_getElem?_getD, mapE, rC_mapL]; rfl
        · rw [gn k h2 h3, if_neg h2, if_neg h3]
  have ua : ∀ y : Ce, upMut g gi s (oaN d R.length (rC (fun j => (0, j + 3)) 0 R) y) = upAddO kb kr s d R.length (rC (fun m => kS sf (.cel m)) 0 R) y := fun y => by
    funext k
    obtain ⟨a, b⟩ := k
    unfold upMut upAddO
    by_cases h1 : a = s
    · subst h1
      rw [if_pos rfl, if_pos rfl]
      match b with
      | 0 => simp [-Bool.exists_bool, -Int.not_le, -Int.not_lt, -getElem?_pos, -List.getD_eq_getElem?_getD, oaN, mapE, mapL_app2, rC_mapL]; rfl
      | 1 => simp [-Bool.exists_bool, -Int.not_le, -Int.not_lt, -getElem?_pos, -List.getD_eq_getElem?_getD, oaN, mapE, rA_mapL, gk]
      | j + 2 =>
        simp [-Bool.exists_bool, -Int.not_le, -Int.not_lt, -getElem?_pos, -List.getD_eq_getElem?_getD, oaN]
        cases hq : ownA y.2 j with
        | none => rfl
        | some e => obtain ⟨_, rfl⟩ := ownA_some hq; simp [-Bool.exists_bool, -Int.not_le, -Int.not_lt, -getElem?_pos, -List.getD_eq_getElem?_getD, rowA, mapE]
    · rw [if_neg h1, if_neg h1]
      by_cases h2 : (a, b) = kb
      · rw [h2, gp, if_pos rfl]; simp [-Bool.exists_bool, -Int.not_le, -Int.not_lt, -getElem?_pos, -List.getD_eq_getElem?_getD, oaN, mapE, gk]
      · by_cases h3 : (a, b) = kr
        · rw [h3, ga, if_neg (fun h => hne h.symm), if_pos rfl]; simp [-Bool.exists_bool, -Int.not_le, -Int.not_lt, -getElem?_pos, -List.getD_eq_getElem?_getD, oaN]
        · rw [gn _ h2 h3, if_neg h2, if_neg h3]
  have same0 : ∀ k e, oaH d R.length (rC (fun j => (0, j + 3)) 0 R) k = some e → k.1 < 2 ∧ (k.1 = 0 → (oaH d R.length (rC (fun j => (0, j + 3)) 0 R) k).isSome = true) := fun k e h => by
    refine ⟨?_, fun _ => by rw [h]; rfl⟩
    have := hl_mem h
    simp only [List.mem_cons, List.not_mem_nil, or_false, Prod.mk.injEq] at this
    rcases this with ⟨rfl, _⟩ | ⟨rfl, _⟩ <;> simp [-Bool.exists_bool, -Int.not_le, -Int.not_lt, -getElem?_pos, -List.getD_eq_getElem?_getD]
  unfold oaOut at hmain
  unfold addC mC at k0 k1 k2
  by_cases c1 : (minD x.1 x.2).2.2 = true
  · rw [if_pos c1] at hmain k0 k1 k2
    by_cases c2 : emF (minD x.1 x.2).2.1 = true
    · rw [if_pos c2] at hmain k0 k1 k2
      exact base hmain same0 (by rw [um]; exact k1 rfl)
    · rw [if_neg c2] at hmain k0 k1 k2
      by_cases c3 : R.length < 12
      · rw [if_pos c3] at hmain k0 k1 k2
        refine base hmain (fun k e h => ?_) (by rw [ua]; exact k2 _ rfl)
        obtain ⟨a, b⟩ := k
        have h : oaN d R.length (rC (fun j => (0, j + 3)) 0 R) ((minD x.1 x.2).1, (minD x.1 x.2).2.1) (a, b) = some e := h
        unfold oaN at h
        split at h
        · rename_i e1; rw [e1]; simp [-Bool.exists_bool, -Int.not_le, -Int.not_lt, -getElem?_pos, -List.getD_eq_getElem?_getD]
        · split at h
          · rename_i e1; simp only at e1; subst e1; simp [-Bool.exists_bool, -Int.not_le, -Int.not_lt, -getElem?_pos, -List.getD_eq_getElem?_getD]
          · cases h
      · rw [if_neg c3] at hmain k0 k1 k2
        exact base hmain same0 (by rw [um]; exact k0 rfl)
  · rw [if_neg c1] at hmain k0 k1 k2
    exact base hmain same0 (by rw [um]; exact k0 rfl)
end Go.Proofs.YtjknjekemolndaaGreat.ZL
namespace Go.Proofs.YtjknjekemolndaaGreat.ZL
open Go Go.Proofs.YtjknjekemolndaaGreat.Abs Go.Proofs.YtjknjekemolndaaGreat.Abs.Pl Go.RowKit Go.Proofs
set_option linter.unusedVariables false
set_option linter.unusedSimpArgs false
def oRV (r : Int × List Ce × Bool) : V := if r.2.2 = true then .tup [OR r.1 r.2.1, B true] else .tup [.agg [I 0, .nil], B false]
def oRH (r : Int × List Ce × Bool) : Store := if r.2.2 = true then regR r.2.1 else hemp
theorem oRV_t {r : Int × List Ce × Bool} (h : r.2.2 = true) : oRV r = .tup [OR r.1 r.2.1, B true] := if_pos h
theorem oRV_f {r : Int × List Ce × Bool} (h : ¬ r.2.2 = true) : oRV r = .tup [.agg [I 0, .nil], B false] := if_neg h
theorem oRH_t {r : Int × List Ce × Bool} (h : r.2.2 = true) : oRH r = regR r.2.1 := if_pos h
theorem oRH_f {r : Int × List Ce × Bool} (h : ¬ r.2.2 = true) : oRH r = hemp := if_neg h
theorem okCs_small {d : Int} {cs : List Ce} (h : okCs d cs) : SmallR cs := fun c hc => by have := okC_len (h.2 c hc); omega
theorem addC_cases {R x : List Ce} {c : Ce} (h : addC R c = some x) : x = R ∨ ∃ y, x = R ++ [y] := by
  unfold addC at h
  split at h
  · split at h
    · exact .inl (Option.some.inj h).symm
    · split at h
      · exact .inr ⟨_, (Option.some.inj h).symm⟩
      · cases h
  · cases h
theorem invR_S {s : Nat} {kf : RK → Key} {iv : List (Key × Key)} {a : RK} (h : ltK a) : invR s kf iv (s, encR a) = kf a := by
  unfold invR
  rw [if_pos rfl]
  show kf (decR (encR a)) = _
  rw [dec_enc h]
theorem OwnsF.smO {b : Bool} {H : Store} {s : Nat} {R : List Ce} {kb kr : Key} {d : Int} {n : Nat} {c : List V} (h : OwnsF b H (kS s) R) (h1 : kb.1 ≠ s) (h2 : kr.1 ≠ s) : OwnsF b (app (upSmO kb kr d n c) H) (kS s) R := fun a ha => by
  rw [smO_ne (fun e => h1 (by rw [← e])) (fun e => h2 (by rw [← e]))]
  exact h a ha
theorem OwnsF.addO {b : Bool} {H : Store} {s t : Nat} {R : List Ce} {kb kr : Key} {d : Int} {n : Nat} {c : List V} {x : Ce} (h : OwnsF b H (kS s) R) (h0 : s ≠ t) (h1 : kb.1 ≠ s) (h2 : kr.1 ≠ s) : OwnsF b (app (upAddO kb kr t d n c x) H) (kS s) R := fun a ha => by
  rw [addO_ne h0 (fun e => h1 (by rw [← e])) (fun e => h2 (by rw [← e]))]
  exact h a ha
theorem kPut_ne0 {s n t : Nat} (h : s ≠ t) (a : RK) : (t, 0) ≠ kPut (kS s) n t a := by
  cases a with
  | row => intro e; injection e with e; exact h e.symm
  | cel m =>
    simp only [kPut]; split
    · intro e; injection e with e; exact h e.symm
    · simp [-Bool.exists_bool, -Int.not_le, -Int.not_lt, -getElem?_pos, -List.getD_eq_getElem?_getD]
  | co m j =>
    simp only [kPut]; split
    · intro e; injection e with e; exact h e.symm
    · simp [-Bool.exists_bool, -Int.not_le, -Int.not_lt, -getElem?_pos, -List.getD_eq_getElem?_getD]
theorem mapCellsO (d : Int) (L : List Ce) (h12 : L.length ≤ 12) (hok : ∀ c ∈ L, okC d c) : Cn Tryz.prog 75 [R1 d L, .fn 76 []] (oRV (optR d (neatGo L []))) (oRH (optR d (neatGo L []))) := by
  refine Cn.of [] mixed Tryz.func75 rfl Tryz.call75 (by kernel_rfl) rfl ?_
  simp -implicitDefEqProofs -dsimp +contextual [-Bool.exists_bool, -Int.not_le, -Int.not_lt, -getElem?_pos, -List.getD_eq_getElem?_getD, Tryz.f75]
  refine WP.loop mixed [] (fun p : Nat × List Ce => ⟨tl [(1, .fn 76 []), (4, .ptr (1, 0) 0), (6, .ptr (2, 0) 0), (16, Cs L), (17, I L.length), (18, I p.1)], famS 4 (regS false 4 p.2) (hl [((1, 0), .box [I 0, .nil]), ((2, 0), .box [I d, .ref (3, 0) p.2.length]), ((3, 0), .row 26 p.2.length (rC (fun m => kS 4 (.cel m)) 0 p.2))]), 5⟩) (fun p => p.1 ≤ L.length ∧ okCs d p.2 ∧ neatGo L [] = neatGo (L.drop p.1) p.2) (fun p => L.length - p.1) (0, []) (by kernel_rfl) ?_ ?_ ?_
  · refine Le.trans (Le.nilBox (7, 0) 1 26 (c := [I d, .nil]) (by simp [-Bool.exists_bool, -Int.not_le, -Int.not_lt, -getElem?_pos, -List.getD_eq_getElem?_getD, setH]) rfl) (Le.reg 4 [] (fun _ => (0, 0)) [((1, 0), (1, 0)), ((2, 0), (7, 0)), ((3, 0), (13, 0))] ?_ ?_ ?_ ?_ ?_ ?_ ?_)
    · intro c h; cases h
    · simp [-Bool.exists_bool, -Int.not_le, -Int.not_lt, -getElem?_pos, -List.getD_eq_getElem?_getD, invR]
    · simp [-Bool.exists_bool, -Int.not_le, -Int.not_lt, -getElem?_pos, -List.getD_eq_getElem?_getD, setH, ELe, rC, invR]
    · simp [-Bool.exists_bool, -Int.not_le, -Int.not_lt, -getElem?_pos, -List.getD_eq_getElem?_getD]
    · intro a ha; cases a <;> simp [-Bool.exists_bool, -Int.not_le, -Int.not_lt, -getElem?_pos, -List.getD_eq_getElem?_getD, okF] at ha
    · intro a c ha; cases a <;> simp [-Bool.exists_bool, -Int.not_le, -Int.not_lt, -getElem?_pos, -List.getD_eq_getElem?_getD, okF] at ha
    · intro a ha; cases a <;> simp [-Bool.exists_bool, -Int.not_le, -Int.not_lt, -getElem?_pos, -List.getD_eq_getElem?_getD, okF] at ha
  · exact ⟨Nat.zero_le _, ⟨by simp [-Bool.exists_bool, -Int.not_le, -Int.not_lt, -getElem?_pos, -List.getD_eq_getElem?_getD], by simp [-Bool.exists_bool, -Int.not_le, -Int.not_lt, -getElem?_pos, -List.getD_eq_getElem?_getD]⟩, rfl⟩
  · rintro ⟨i, acc⟩ ⟨hi, ha, he⟩
    simp only at hi ha he
    have hsm := okCs_small ha
    by_cases h : i < L.length
    · have hcc := hok _ (nth_mem h)
      rw [nth_drop h, neatGo] at he
      simp -implicitDefEqProofs -dsimp +contextual [-Bool.exists_bool, -Int.not_le, -Int.not_lt, -getElem?_pos, -List.getD_eq_getElem?_getD, h]
      refine CallJ.pure (neatF (nth L i)) rfl (by simp [-Bool.exists_bool, -Int.not_le, -Int.not_lt, -getElem?_pos, -List.getD_eq_getElem?_getD]) ?_
      simp -implicitDefEqProofs -dsimp +contextual [-Bool.exists_bool, -Int.not_le, -Int.not_lt, -getElem?_pos, -List.getD_eq_getElem?_getD, h]
      refine callAddO (2, 0) (3, 0) 4 d acc (nth L i) (by have := okC_len hcc; omega) ha.1 (by simp [-Bool.exists_bool, -Int.not_le, -Int.not_lt, -getElem?_pos, -List.getD_eq_getElem?_getD, setH]) (by simp [-Bool.exists_bool, -Int.not_le, -Int.not_lt, -getElem?_pos, -List.getD_eq_getElem?_getD, setH]) (fun m hm => ?_) (by simp [-Bool.exists_bool, -Int.not_le, -Int.not_lt, -getElem?_pos, -List.getD_eq_getElem?_getD]) (by simp [-Bool.exists_bool, -Int.not_le, -Int.not_lt, -getElem?_pos, -List.getD_eq_getElem?_getD]) (by simp [-Bool.exists_bool, -Int.not_le, -Int.not_lt, -getElem?_pos, -List.getD_eq_getElem?_getD]) ?_ ?_ ?_
      · have := OwnsF.fam (b := false) 4 hsm (hl [((1, 0), .box [I 0, .nil]), ((2, 0), .box [I d, .ref (3, 0) acc.length]), ((3, 0), .row 26 acc.length (rC (fun m => kS 4 (.cel m)) 0 acc))]) (.cel m) (by simp [-Bool.exists_bool, -Int.not_le, -Int.not_lt, -getElem?_pos, -List.getD_eq_getElem?_getD, okF, hm])
        simp only [kS] at this
        simp [-Bool.exists_bool, -Int.not_le, -Int.not_lt, -getElem?_pos, -List.getD_eq_getElem?_getD, setH, this]
      · intro hq
        simp -implicitDefEqProofs -dsimp +contextual [-Bool.exists_bool, -Int.not_le, -Int.not_lt, -getElem?_pos, -List.getD_eq_getElem?_getD, h, setH, smO_kb, smO_kr, smO_ne]
        rw [hq, Option.bind_none] at he
        rw [he, oRV_f (by simp [-Bool.exists_bool, -Int.not_le, -Int.not_lt, -getElem?_pos, -List.getD_eq_getElem?_getD, optR]), oRH_f (by simp [-Bool.exists_bool, -Int.not_le, -Int.not_lt, -getElem?_pos, -List.getD_eq_getElem?_getD, optR])]
        exact RLe.emp (by simp [-Bool.exists_bool, -Int.not_le, -Int.not_lt, -getElem?_pos, -List.getD_eq_getElem?_getD])
      · intro hq
        simp -implicitDefEqProofs -dsimp +contextual [-Bool.exists_bool, -Int.not_le, -Int.not_lt, -getElem?_pos, -List.getD_eq_getElem?_getD, h, setH, smO_kb, smO_kr, smO_ne]
        rw [hq, Option.bind_some] at he
        refine ⟨i + 1, acc, ⟨h, ha, he⟩, by omega, ?_⟩
        rw [wr (by omega) (by omega)]
        refine Le.reg 4 acc (kS 4) [] hsm ?_ ?_ ?_ ?_ (kS_inj hsm) ?_
        · simp [-Bool.exists_bool, -Int.not_le, -Int.not_lt, -getElem?_pos, -List.getD_eq_getElem?_getD, invR]
        · simp [-Bool.exists_bool, -Int.not_le, -Int.not_lt, -getElem?_pos, -List.getD_eq_getElem?_getD, setH, ELe, smO_kb, smO_kr, smO_ne]
          exact ⟨by simp [-Bool.exists_bool, -Int.not_le, -Int.not_lt, -getElem?_pos, -List.getD_eq_getElem?_getD, invR], rC_VLes acc 0 fun m hm => ⟨(invR_S (a := .cel (0 + m)) trivial).symm, by show 4 < 5; omega⟩⟩
        · simp [-Bool.exists_bool, -Int.not_le, -Int.not_lt, -getElem?_pos, -List.getD_eq_getElem?_getD]
        · repeat first | exact OwnsF.fam 4 hsm _ | refine OwnsF.set ?_ (by simp [-Bool.exists_bool, -Int.not_le, -Int.not_lt, -getElem?_pos, -List.getD_eq_getElem?_getD]) | refine OwnsF.smO ?_ (by simp [-Bool.exists_bool, -Int.not_le, -Int.not_lt, -getElem?_pos, -List.getD_eq_getElem?_getD]) (by simp [-Bool.exists_bool, -Int.not_le, -Int.not_lt, -getElem?_pos, -List.getD_eq_getElem?_getD])
        · intro a ha; simp [-Bool.exists_bool, -Int.not_le, -Int.not_lt, -getElem?_pos, -List.getD_eq_getElem?_getD, allP, invK]
      · intro y hq
        simp -implicitDefEqProofs -dsimp +contextual [-Bool.exists_bool, -Int.not_le, -Int.not_lt, -getElem?_pos, -List.getD_eq_getElem?_getD, h, setH, addO_kb, addO_row, addO_ne]
        rw [hq, Option.bind_some] at he
        refine ⟨i + 1, acc ++ [y], ⟨h, addC_ok hcc.1 ha hq, he⟩, by omega, ?_⟩
        rw [wr (by omega) (by omega)]
        have hs2 := okCs_small (addC_ok hcc.1 ha hq)
        refine Le.reg 4 (acc ++ [y]) (kPut (kS 4) acc.length 23) [((3, 0), (23, 0))] hs2 ?_ ?_ ?_ ?_ (kPut_inj hs2 (by omega)) ?_
        · simp [-Bool.exists_bool, -Int.not_le, -Int.not_lt, -getElem?_pos, -List.getD_eq_getElem?_getD, invR]
        · simp [-Bool.exists_bool, -Int.not_le, -Int.not_lt, -getElem?_pos, -List.getD_eq_getElem?_getD, setH, ELe, addO_kb, addO_row, addO_ne]
          exact ⟨by simp [-Bool.exists_bool, -Int.not_le, -Int.not_lt, -getElem?_pos, -List.getD_eq_getElem?_getD, invR], kPut_VLes acc y (by omega)⟩
        · simp [-Bool.exists_bool, -Int.not_le, -Int.not_lt, -getElem?_pos, -List.getD_eq_getElem?_getD]
        · refine kPut_owns ?_ addO_owns
          repeat first | exact OwnsF.fam 4 hsm _ | refine OwnsF.set ?_ (by simp [-Bool.exists_bool, -Int.not_le, -Int.not_lt, -getElem?_pos, -List.getD_eq_getElem?_getD]) | refine OwnsF.addO ?_ (by omega) (by simp [-Bool.exists_bool, -Int.not_le, -Int.not_lt, -getElem?_pos, -List.getD_eq_getElem?_getD]) (by simp [-Bool.exists_bool, -Int.not_le, -Int.not_lt, -getElem?_pos, -List.getD_eq_getElem?_getD])
        · intro a ha
          have := kPut_fst (s := 4) (n := acc.length) (t := 23) a
          refine ⟨fun e => ?_, fun e => ?_, fun e => ?_, trivial⟩
          · rw [← e] at this; simp [-Bool.exists_bool, -Int.not_le, -Int.not_lt, -getElem?_pos, -List.getD_eq_getElem?_getD, invK] at this
          · rw [← e] at this; simp [-Bool.exists_bool, -Int.not_le, -Int.not_lt, -getElem?_pos, -List.getD_eq_getElem?_getD, invK] at this
          · exact kPut_ne0 (by omega) a e
    · rw [drop_nil (by omega), neatGo] at he
      simp -implicitDefEqProofs -dsimp +contextual [-Bool.exists_bool, -Int.not_le, -Int.not_lt, -getElem?_pos, -List.getD_eq_getElem?_getD, h]
      rw [he, oRV_t rfl, oRH_t rfl]
      refine RLe.reg (kRow (3, 0) (kS 4)) acc hsm ?_ (kRow_owns (by simp [-Bool.exists_bool, -Int.not_le, -Int.not_lt, -getElem?_pos, -List.getD_eq_getElem?_getD, setH]) ((OwnsF.fam 4 hsm _).set (by simp [-Bool.exists_bool, -Int.not_le, -Int.not_lt, -getElem?_pos, -List.getD_eq_getElem?_getD]))) (kRow_inj (kS_inj hsm) (fun a h => by injection h with h _; omega))
      simp [-Bool.exists_bool, -Int.not_le, -Int.not_lt, -getElem?_pos, -List.getD_eq_getElem?_getD, VLe, decR, kRow, optR]
theorem iNeatRegionO (d : Int) (L : List Ce) (h20 : L.length ≤ 1048576) (hc : ∀ c ∈ L, c.2.length ≤ 1048576) : Cn Tryz.prog 28 [R1 d L] (oRV (neatD d L)) (oRH (neatD d L)) := by
  refine Cn.of [] mixed Tryz.func28 rfl Tryz.call28 (by kernel_rfl) rfl ?_
  simp -implicitDefEqProofs -dsimp +contextual [-Bool.exists_bool, -Int.not_le, -Int.not_lt, -getElem?_pos, -List.getD_eq_getElem?_getD, Tryz.f28]
  refine CallJ.pure (iIsRegion d L h20 hc) rfl (by simp [-Bool.exists_bool, -Int.not_le, -Int.not_lt, -getElem?_pos, -List.getD_eq_getElem?_getD]) ?_
  simp -implicitDefEqProofs -dsimp +contextual [-Bool.exists_bool, -Int.not_le, -Int.not_lt, -getElem?_pos, -List.getD_eq_getElem?_getD]
  refine ⟨fun hr => ?_, fun hr => ?_⟩
  rotate_left
  · rw [neatD, if_neg (by simp [-Bool.exists_bool, -Int.not_le, -Int.not_lt, -getElem?_pos, -List.getD_eq_getElem?_getD, hr]), oRV_f (by simp [-Bool.exists_bool, -Int.not_le, -Int.not_lt, -getElem?_pos, -List.getD_eq_getElem?_getD]), oRH_f (by simp [-Bool.exists_bool, -Int.not_le, -Int.not_lt, -getElem?_pos, -List.getD_eq_getElem?_getD])]
    exact RLe.emp (by simp [-Bool.exists_bool, -Int.not_le, -Int.not_lt, -getElem?_pos, -List.getD_eq_getElem?_getD])
  obtain ⟨hd, h12, hok⟩ := isRe_ok hr
  rw [neatD, if_pos hr]
  refine CallJ.pure (mapCellsO d L h12 hok) rfl (by simp [-Bool.exists_bool, -Int.not_le, -Int.not_lt, -getElem?_pos, -List.getD_eq_getElem?_getD]) ?_
  cases hq : neatGo L [] with
  | none =>
    rw [oRV_f (by simp [-Bool.exists_bool, -Int.not_le, -Int.not_lt, -getElem?_pos, -List.getD_eq_getElem?_getD, optR]), oRH_f (by simp [-Bool.exists_bool, -Int.not_le, -Int.not_lt, -getElem?_pos, -List.getD_eq_getElem?_getD, optR])]
    simp -implicitDefEqProofs -dsimp +contextual [-Bool.exists_bool, -Int.not_le, -Int.not_lt, -getElem?_pos, -List.getD_eq_getElem?_getD]
    exact RLe.emp (by simp [-Bool.exists_bool, -Int.not_le, -Int.not_lt, -getElem?_pos, -List.getD_eq_getElem?_getD])
  | some x =>
    rw [oRV_t rfl, oRH_t rfl]
    have hsm : SmallR x := okCs_small (neatGo_ok hok ⟨by simp [-Bool.exists_bool, -Int.not_le, -Int.not_lt, -getElem?_pos, -List.getD_eq_getElem?_getD], by simp [-Bool.exists_bool, -Int.not_le, -Int.not_lt, -getElem?_pos, -List.getD_eq_getElem?_getD]⟩ hq)
    simp -implicitDefEqProofs -dsimp +contextual [-Bool.exists_bool, -Int.not_le, -Int.not_lt, -getElem?_pos, -List.getD_eq_getElem?_getD, optR]
    refine RLe.regS 7 x hsm ?_ ((OwnsF.call 7 hsm _).set (by simp [-Bool.exists_bool, -Int.not_le, -Int.not_lt, -getElem?_pos, -List.getD_eq_getElem?_getD]))
    simp [-Bool.exists_bool, -Int.not_le, -Int.not_lt, -getElem?_pos, -List.getD_eq_getElem?_getD, VLe, decR, encR]
end Go.Proofs.YtjknjekemolndaaGreat.ZL
