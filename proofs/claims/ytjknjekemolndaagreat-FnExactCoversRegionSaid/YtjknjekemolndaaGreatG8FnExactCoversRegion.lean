/- Texts of the abs road (plain values, what code does to them, and the contracts of the functions that the law reaches). No condition. -/
import Derived.Test.YtjknjekemolndaaGreatG7FnExactCoversRegion
namespace Go.Proofs.YtjknjekemolndaaGreat.ZL
open Go Go.Proofs.YtjknjekemolndaaGreat.Abs Go.Proofs.YtjknjekemolndaaGreat.Abs.Pl Go.RowKit Go.Proofs
set_option linter.unusedVariables false
set_option linter.unusedSimpArgs false
set_option maxRecDepth 100000
def negA (a : At) : At := (a.1.map (- ·), -a.2.1, !a.2.2)
def partC (d : Int) (x : List At) (k : Nat) : Ce := (d, x.take k ++ [negA (nth x k)])
def lessIn (d : Int) (c : Ce) (x : List At) : Nat → List Ce → Option (List Ce)
  | 0, acc => some acc
  | n + 1, acc => if (meetC c (partC d x (x.length - (n + 1)))).2.2 = true then (addC acc ((meetC c (partC d x (x.length - (n + 1)))).1, (meetC c (partC d x (x.length - (n + 1)))).2.1)).bind (lessIn d c x n) else none
def lessOut (d : Int) (x : List At) : List Ce → List Ce → Option (List Ce)
  | [], acc => some acc
  | c :: cs, acc => (lessIn d c x x.length acc).bind (lessOut d x cs)
def lessD (d : Int) (cs : List Ce) (c : Ce) : Option (List Ce) := if (mC c).2.2 = true then lessOut d (mC c).2.1 cs [] else none
theorem meetC_ok {a b : Ce} (h : (meetC a b).2.2 = true) : (meetC a b).1 = a.1 ∧ isCe a.1 (meetC a b).2.1 = true := by
  unfold meetC at h ⊢
  split at h
  · rename_i hc
    rw [if_pos hc]
    unfold limN at h ⊢
    split at h
    · cases h
    · rename_i h16
      rw [if_neg h16]
      have hd := isCe_d hc.1
      have h3 : isCe a.1 b.2 = true := by rw [hc.2.2]; exact hc.2.1
      exact ⟨rfl, okCe.2 ⟨hd, by show (nrm a.1 (a.2 ++ b.2)).length ≤ 16; omega, nrm_okL hd fun y hy => by
        rcases List.mem_append.1 hy with hy | hy
        · exact isCe_a hc.1 y hy
        · exact isCe_a h3 y hy⟩⟩
  · cases h
theorem lessIn_ok {d : Int} {c : Ce} {x : List At} (hc : okC d c) : ∀ {n : Nat} {acc y : List Ce}, okCs d acc → lessIn d c x n acc = some y → okCs d y
  | 0, acc, y, ha, h => by obtain rfl := Option.some.inj h; exact ha
  | n + 1, acc, y, ha, h => by
    unfold lessIn at h
    split at h
    · rename_i hm
      obtain ⟨z, h1, h2⟩ := Option.bind_eq_some_iff.1 h
      exact lessIn_ok hc (addC_ok ((meetC_ok hm).1.trans hc.1) ha h1) h2
    · cases h
theorem lessOut_ok {d : Int} {x : List At} : ∀ {cs acc y : List Ce}, (∀ c ∈ cs, okC d c) → okCs d acc → lessOut d x cs acc = some y → okCs d y
  | [], acc, y, _, ha, h => by obtain rfl := Option.some.inj h; exact ha
  | c :: cs, acc, y, hc, ha, h => by
    obtain ⟨z, h1, h2⟩ := Option.bind_eq_some_iff.1 h
    exact lessOut_ok (fun w hw => hc w (by simp [-Bool.exists_bool, -Int.not_le, -Int.not_lt, -getElem?_pos, -List.getD_eq_getElem?_getD, hw])) (lessIn_ok (hc c (by simp [-Bool.exists_bool, -Int.not_le, -Int.not_lt, -getElem?_pos, -List.getD_eq_getElem?_getD])) ha h1) h2
theorem lessD_ok {d : Int} {cs y : List Ce} {c : Ce} (hs : okCs d cs) (h : lessD d cs c = some y) : okCs d y := by
  unfold lessD at h
  split at h
  · exact lessOut_ok hs.2 ⟨by simp [-Bool.exists_bool, -Int.not_le, -Int.not_lt, -getElem?_pos, -List.getD_eq_getElem?_getD], by simp [-Bool.exists_bool, -Int.not_le, -Int.not_lt, -getElem?_pos, -List.getD_eq_getElem?_getD]⟩ h
  · cases h
theorem l4Less (d : Int) (cs : List Ce) (c : Ce) (hc : okC d c) (hs : okCs d cs) : Cn Tryz.prog 116 [R1 d cs, C1 c.1 c.2] (RD (optR d (lessD d cs c))) hemp := by
  obtain ⟨hc1, hc2⟩ := hc
  obtain ⟨e, L⟩ := c
  simp only at hc1 hc2
  subst hc1
  have hd := isCe_d hc2
  refine Cn.of [0] mixed Tryz.func116 rfl Tryz.call116 (by kernel_rfl) rfl ?_
  simp -implicitDefEqProofs -dsimp +contextual [-Bool.exists_bool, -Int.not_le, -Int.not_lt, -getElem?_pos, -List.getD_eq_getElem?_getD, Tryz.f116]
  refine CallJ.pure (l3Normal e hd L (by have := isCe_l hc2; omega) (isCe_a hc2)) rfl (by simp [-Bool.exists_bool, -Int.not_le, -Int.not_lt, -getElem?_pos, -List.getD_eq_getElem?_getD]) ?_
  simp -implicitDefEqProofs -dsimp +contextual [-Bool.exists_bool, -Int.not_le, -Int.not_lt, -getElem?_pos, -List.getD_eq_getElem?_getD]
  have em : minC e (nrm e L) = mC (e, L) := by show _ = minD e L; rw [minD, if_pos hc2]
  have hm := l3Minimal e (nrm e L) (by have := nrm_16 e L (isCe_l hc2); omega)
  rw [em] at hm
  have ho : (mC (e, L)).2.2 = true → (mC (e, L)).1 = e ∧ isCe e (mC (e, L)).2.1 = true ∧ NF e (mC (e, L)).2.1 := minD_ok
  refine CallJ.pure hm rfl (by simp [-Bool.exists_bool, -Int.not_le, -Int.not_lt, -getElem?_pos, -List.getD_eq_getElem?_getD]) ?_
  unfold lessD
  generalize mC (e, L) = m at ho ⊢
  obtain ⟨m1, m2, m3⟩ := m
  simp only at ho ⊢
  simp -implicitDefEqProofs -dsimp +contextual [-Bool.exists_bool, -Int.not_le, -Int.not_lt, -getElem?_pos, -List.getD_eq_getElem?_getD]
  refine ⟨fun hf => ?_, fun hf => RLe.pure 2 (by simp [-Bool.exists_bool, -Int.not_le, -Int.not_lt, -getElem?_pos, -List.getD_eq_getElem?_getD, optR])⟩
  obtain ⟨rfl, o2, o3⟩ := ho hf
  have hlen := isCe_l o2
  have hx := isCe_a o2
  have e0 : (if m3 = true then lessOut m1 m2 cs [] else none) = lessOut m1 m2 cs [] := if_pos hf
  rw [e0]
  refine WP.loop mixed [0] (fun p : Nat × List Ce => ⟨tl [(2, .ptr (0, 0) 0), (4, .ptr (2, 0) 0), (6, .ptr (3, 0) 0), (8, .ptr (4, 0) 0), (9, I p.1)], hl [((0, 0), .box [I m1, Cs cs]), ((2, 0), .box [I 0, .nil]), ((3, 0), .box [I m1, As m2]), ((4, 0), .box [I m1, Cs p.2])], 5⟩) (fun p => p.1 ≤ cs.length ∧ okCs m1 p.2 ∧ lessOut m1 m2 cs [] = lessOut m1 m2 (cs.drop p.1) p.2) (fun p => cs.length - p.1) (0, []) (by kernel_rfl) ?_ ?_ ?_
  · refine Le.told [((3, 0), (13, 0)), ((4, 0), (21, 0))] ?_ ?_ ?_ <;> simp [-Bool.exists_bool, -Int.not_le, -Int.not_lt, -getElem?_pos, -List.getD_eq_getElem?_getD, setH]
  · exact ⟨Nat.zero_le _, ⟨by simp [-Bool.exists_bool, -Int.not_le, -Int.not_lt, -getElem?_pos, -List.getD_eq_getElem?_getD], by simp [-Bool.exists_bool, -Int.not_le, -Int.not_lt, -getElem?_pos, -List.getD_eq_getElem?_getD]⟩, rfl⟩
  · rintro ⟨i, acc⟩ ⟨hi, ha, he⟩
    simp only at hi ha he
    by_cases h : i < cs.length
    · have h12 := hs.1
      have hcc := hs.2 _ (nth_mem h)
      rw [nth_drop h, lessOut] at he
      simp -implicitDefEqProofs -dsimp +contextual [-Bool.exists_bool, -Int.not_le, -Int.not_lt, -getElem?_pos, -List.getD_eq_getElem?_getD, h]
      refine WP.loop mixed [0] (fun p : Nat × List Ce => ⟨tl [(2, .ptr (0, 0) 0), (4, .ptr (2, 0) 0), (6, .ptr (3, 0) 0), (8, .ptr (4, 0) 0), (9, I i), (10, I p.1)], hl [((0, 0), .box [I m1, Cs cs]), ((2, 0), .box [I 0, .nil]), ((3, 0), .box [I m1, As m2]), ((4, 0), .box [I m1, Cs p.2])], 5⟩) (fun p => p.1 ≤ m2.length ∧ okCs m1 p.2 ∧ lessOut m1 m2 cs [] = (lessIn m1 (nth cs i) m2 (m2.length - p.1) p.2).bind (lessOut m1 m2 (cs.drop (i + 1)))) (fun p => m2.length - p.1) (0, acc) (by kernel_rfl) ?_ ?_ ?_
      · refine Le.told [] ?_ ?_ ?_ <;> simp [-Bool.exists_bool, -Int.not_le, -Int.not_lt, -getElem?_pos, -List.getD_eq_getElem?_getD, setH]
      · exact ⟨Nat.zero_le _, ha, by rw [he]; rfl⟩
      · rintro ⟨k, ac⟩ ⟨hk, hac, hek⟩
        simp only at hk hac hek
        by_cases hkl : k < m2.length
        · simp -implicitDefEqProofs -dsimp +contextual [-Bool.exists_bool, -Int.not_le, -Int.not_lt, -getElem?_pos, -List.getD_eq_getElem?_getD, h, hkl]
          have hna : negAt (nth m2 k).1 (nth m2 k).2.1 (nth m2 k).2.2 = ((negA (nth m2 k)).1, (negA (nth m2 k)).2.1, (negA (nth m2 k)).2.2, true) := by rw [negAt, if_pos (hx _ (nth_mem hkl)).1]; rfl
          have hN := NegateAtom (nth m2 k)
          rw [hna] at hN
          refine CallJ.pure hN rfl (by simp [-Bool.exists_bool, -Int.not_le, -Int.not_lt, -getElem?_pos, -List.getD_eq_getElem?_getD]) ?_
          simp -implicitDefEqProofs -dsimp +contextual [-Bool.exists_bool, -Int.not_le, -Int.not_lt, -getElem?_pos, -List.getD_eq_getElem?_getD, h, hkl]
          have hmin : min k m2.length = k := by omega
          refine ⟨by omega, ⟨by omega, by omega, by simp [-Bool.exists_bool, -Int.not_le, -Int.not_lt, -getElem?_pos, -List.getD_eq_getElem?_getD, maxLen]; omega⟩, ⟨by omega, by simp [-Bool.exists_bool, -Int.not_le, -Int.not_lt, -getElem?_pos, -List.getD_eq_getElem?_getD, maxLen]; omega⟩, Quiet.of [2] (by kernel_rfl) (by simp [-Bool.exists_bool, -Int.not_le, -Int.not_lt, -getElem?_pos, -List.getD_eq_getElem?_getD, allP, offB]), Quiet.of [] (by kernel_rfl) (by simp [-Bool.exists_bool, -Int.not_le, -Int.not_lt, -getElem?_pos, -List.getD_eq_getElem?_getD, allP, offB]), ?_⟩
          have hpl : (m2.take k ++ [negA (nth m2 k)]).length = k + 1 := by simp [-Bool.exists_bool, -Int.not_le, -Int.not_lt, -getElem?_pos, -List.getD_eq_getElem?_getD]; omega
          have hpd : asD (m2.take k ++ [negA (nth m2 k)]) = asD (m2.take k) ++ [D.sl (negA (nth m2 k)).1.length ((negA (nth m2 k)).1.map (D.int IntKind.i64)), D.int IntKind.i64 (negA (nth m2 k)).2.1, D.bool (negA (nth m2 k)).2.2] := by rw [asD_append]; simp [-Bool.exists_bool, -Int.not_le, -Int.not_lt, -getElem?_pos, -List.getD_eq_getElem?_getD, asD, aD]
          have hM := MeetCells (nth cs i) (partC m1 m2 k) (by have := okC_len hcc; omega) (by show (m2.take k ++ [negA (nth m2 k)]).length ≤ 1048576; omega)
          have hmo := meetC_ok (a := nth cs i) (b := partC m1 m2 k)
          obtain ⟨n, hn⟩ : ∃ n, m2.length - k = n + 1 := ⟨m2.length - k - 1, by omega⟩
          have hkn : m2.length - (n + 1) = k := by omega
          rw [hn, lessIn, hkn] at hek
          have hkn2 : n = m2.length - (k + 1) := by omega
          generalize hgen : meetC (nth cs i) (partC m1 m2 k) = q at hM hmo hek
          obtain ⟨q1, q2, q3⟩ := q
          simp only at hmo hek
          refine CallJ.frz (t := 66) (n := k + 1) (c := dl (asD (m2.take k ++ [negA (nth m2 k)]))) (c' := asD (m2.take k ++ [negA (nth m2 k)])) (32, 0) hM (by simp [-Bool.exists_bool, -Int.not_le, -Int.not_lt, -getElem?_pos, -List.getD_eq_getElem?_getD, setH, hpd]) (dl_asDs _) (ks := [(32, 0)]) (by simp [-Bool.exists_bool, -Int.not_le, -Int.not_lt, -getElem?_pos, -List.getD_eq_getElem?_getD, lendVs, lendV, setH, partC, hpl, hmin]) (by simp [-Bool.exists_bool, -Int.not_le, -Int.not_lt, -getElem?_pos, -List.getD_eq_getElem?_getD]) ?_
          simp -implicitDefEqProofs -dsimp +contextual [-Bool.exists_bool, -Int.not_le, -Int.not_lt, -getElem?_pos, -List.getD_eq_getElem?_getD, h, hkl]
          refine ⟨Quiet.of [] (by kernel_rfl) (by simp [-Bool.exists_bool, -Int.not_le, -Int.not_lt, -getElem?_pos, -List.getD_eq_getElem?_getD, allP, offB]), Quiet.of [] (by kernel_rfl) (by simp [-Bool.exists_bool, -Int.not_le, -Int.not_lt, -getElem?_pos, -List.getD_eq_getElem?_getD, allP, offB]), fun hq => ?_, fun hq => ?_⟩
          · rw [if_pos hq] at hek
            obtain ⟨rfl, hq2⟩ := hmo hq
            rw [hcc.1] at hq2
            have hqc : okC m1 ((nth cs i).1, q2) := ⟨hcc.1, hq2⟩
            refine CallJ.pure (l4Add m1 ac ((nth cs i).1, q2) hqc hac.1) rfl (by simp [-Bool.exists_bool, -Int.not_le, -Int.not_lt, -getElem?_pos, -List.getD_eq_getElem?_getD]) ?_
            have at_ := addS_t (d := m1) (cs := ac) (c := ((nth cs i).1, q2))
            have af_ := addS_f (d := m1) (cs := ac) (c := ((nth cs i).1, q2))
            generalize addS m1 ac ((nth cs i).1, q2) = r at at_ af_ ⊢
            obtain ⟨r1, r2, r3⟩ := r
            simp only at at_ af_
            simp -implicitDefEqProofs -dsimp +contextual [-Bool.exists_bool, -Int.not_le, -Int.not_lt, -getElem?_pos, -List.getD_eq_getElem?_getD, h, hkl, hq]
            refine ⟨fun hr => ?_, fun hr => ?_⟩
            · obtain ⟨a1, rfl⟩ := at_ hr
              rw [a1, Option.bind_some, hkn2] at hek
              refine ⟨k + 1, r2, ⟨hkl, addC_ok hqc.1 hac a1, hek⟩, by omega, ?_⟩
              rw [wr (by omega) (by omega)]
              refine Le.told [] ?_ ?_ ?_ <;> simp [-Bool.exists_bool, -Int.not_le, -Int.not_lt, -getElem?_pos, -List.getD_eq_getElem?_getD]
            · rw [af_ (by simp [-Bool.exists_bool, -Int.not_le, -Int.not_lt, -getElem?_pos, -List.getD_eq_getElem?_getD, hr]), Option.bind_none, Option.bind_none] at hek
              exact RLe.pure 2 (by rw [hek]; simp [-Bool.exists_bool, -Int.not_le, -Int.not_lt, -getElem?_pos, -List.getD_eq_getElem?_getD, optR])
          · rw [if_neg (by simp [-Bool.exists_bool, -Int.not_le, -Int.not_lt, -getElem?_pos, -List.getD_eq_getElem?_getD, hq]), Option.bind_none] at hek
            exact RLe.pure 2 (by rw [hek]; simp [-Bool.exists_bool, -Int.not_le, -Int.not_lt, -getElem?_pos, -List.getD_eq_getElem?_getD, optR])
        · rw [show m2.length - k = 0 by omega, lessIn, Option.bind_some] at hek
          simp -implicitDefEqProofs -dsimp +contextual [-Bool.exists_bool, -Int.not_le, -Int.not_lt, -getElem?_pos, -List.getD_eq_getElem?_getD, h, hkl]
          refine ⟨i + 1, ac, ⟨h, hac, hek⟩, by omega, ?_⟩
          rw [wr (by omega) (by omega)]
          refine Le.told [] ?_ ?_ ?_ <;> simp [-Bool.exists_bool, -Int.not_le, -Int.not_lt, -getElem?_pos, -List.getD_eq_getElem?_getD]
    · rw [drop_nil (by omega), lessOut] at he
      simp -implicitDefEqProofs -dsimp +contextual [-Bool.exists_bool, -Int.not_le, -Int.not_lt, -getElem?_pos, -List.getD_eq_getElem?_getD, h]
      exact RLe.pure 3 (by rw [he]; simp [-Bool.exists_bool, -Int.not_le, -Int.not_lt, -getElem?_pos, -List.getD_eq_getElem?_getD, optR])
def diffGo (d : Int) : List Ce → List Ce → Option (List Ce)
  | [], acc => some acc
  | c :: cs, acc => (lessD d acc c).bind (diffGo d cs)
def diffD (d : Int) (A : List Ce) (e : Int) (B : List Ce) : Int × List Ce × Bool := if isRe d A = true ∧ isRe e B = true ∧ d = e then optR d ((neatGo A []).bind (diffGo d B)) else (0, [], false)
theorem DifferenceOf (d : Int) (A : List Ce) (e : Int) (B : List Ce) (hA : A.length ≤ 1048576) (hAc : ∀ c ∈ A, c.2.length ≤ 1048576) (hB : B.length ≤ 1048576) (hBc : ∀ c ∈ B, c.2.length ≤ 1048576) : Cn Tryz.prog 70 [R1 d A, R1 e B] (RD (diffD d A e B)) hemp := by
  refine Cn.of [0] mixed Tryz.func70 rfl Tryz.call70 (by kernel_rfl) rfl ?_
  simp -implicitDefEqProofs -dsimp +contextual [-Bool.exists_bool, -Int.not_le, -Int.not_lt, -getElem?_pos, -List.getD_eq_getElem?_getD, Tryz.f70]
  have hN := NeatRegion d A hA hAc
  by_cases h1 : isRe d A = true
  rotate_left
  · rw [neatD, if_neg h1] at hN
    rw [diffD, if_neg (by simp [-Bool.exists_bool, -Int.not_le, -Int.not_lt, -getElem?_pos, -List.getD_eq_getElem?_getD, h1])]
    refine CallJ.pure hN rfl (by simp [-Bool.exists_bool, -Int.not_le, -Int.not_lt, -getElem?_pos, -List.getD_eq_getElem?_getD]) ?_
    simp -implicitDefEqProofs -dsimp +contextual [-Bool.exists_bool, -Int.not_le, -Int.not_lt, -getElem?_pos, -List.getD_eq_getElem?_getD]
    exact RLe.pure 2 (by simp [-Bool.exists_bool, -Int.not_le, -Int.not_lt, -getElem?_pos, -List.getD_eq_getElem?_getD, csD])
  obtain ⟨hd, h12, hok⟩ := isRe_ok h1
  rw [neatD, if_pos h1] at hN
  cases hx : neatGo A [] with
  | none =>
    rw [hx] at hN
    have e0 : diffD d A e B = (0, [], false) := by
      unfold diffD
      split
      · rw [hx]; rfl
      · rfl
    rw [e0]
    refine CallJ.pure hN rfl (by simp [-Bool.exists_bool, -Int.not_le, -Int.not_lt, -getElem?_pos, -List.getD_eq_getElem?_getD]) ?_
    simp -implicitDefEqProofs -dsimp +contextual [-Bool.exists_bool, -Int.not_le, -Int.not_lt, -getElem?_pos, -List.getD_eq_getElem?_getD, optR]
    exact RLe.pure 2 (by simp [-Bool.exists_bool, -Int.not_le, -Int.not_lt, -getElem?_pos, -List.getD_eq_getElem?_getD, csD])
  | some x =>
    rw [hx] at hN
    have hxo := neatGo_ok hok ⟨by simp [-Bool.exists_bool, -Int.not_le, -Int.not_lt, -getElem?_pos, -List.getD_eq_getElem?_getD], by simp [-Bool.exists_bool, -Int.not_le, -Int.not_lt, -getElem?_pos, -List.getD_eq_getElem?_getD]⟩ hx
    refine CallJ.pure hN rfl (by simp [-Bool.exists_bool, -Int.not_le, -Int.not_lt, -getElem?_pos, -List.getD_eq_getElem?_getD]) ?_
    simp -implicitDefEqProofs -dsimp +contextual [-Bool.exists_bool, -Int.not_le, -Int.not_lt, -getElem?_pos, -List.getD_eq_getElem?_getD, optR]
    refine CallJ.pure (IsRegion e B hB hBc) rfl (by simp [-Bool.exists_bool, -Int.not_le, -Int.not_lt, -getElem?_pos, -List.getD_eq_getElem?_getD]) ?_
    simp -implicitDefEqProofs -dsimp +contextual [-Bool.exists_bool, -Int.not_le, -Int.not_lt, -getElem?_pos, -List.getD_eq_getElem?_getD, optR]
    have no : ∀ {H : Store}, ¬ (isRe d A = true ∧ isRe e B = true ∧ d = e) → RLe Tryz.prog H (V.tup [V.agg [V.d (D.int IntKind.i64 0), V.nil], V.d (D.bool false)]) (RD (diffD d A e B)) hemp := fun h => by
      rw [diffD, if_neg h]
      exact RLe.pure 2 (by simp [-Bool.exists_bool, -Int.not_le, -Int.not_lt, -getElem?_pos, -List.getD_eq_getElem?_getD, csD])
    refine ⟨fun h2 => ⟨fun h3 => ?_, fun h3 => no (fun h => h3 h.2.2)⟩, fun h2 => no (by simp [-Bool.exists_bool, -Int.not_le, -Int.not_lt, -getElem?_pos, -List.getD_eq_getElem?_getD, h2])⟩
    subst h3
    obtain ⟨_, b12, bok⟩ := isRe_ok h2
    have e0 : diffD d A d B = optR d (diffGo d B x) := by rw [diffD, if_pos ⟨h1, h2, rfl⟩, hx, Option.bind_some]
    rw [e0]
    refine WP.loop mixed [0] (fun p : Nat × List Ce => ⟨tl [(3, .ptr (1, 0) 0), (4, .ptr (2, 0) 0), (6, .ptr (3, 0) 0), (8, I p.1)], hl [((1, 0), .box [I d, Cs B]), ((2, 0), .box [I 0, .nil]), ((3, 0), .box [I d, Cs p.2])], 4⟩) (fun p => p.1 ≤ B.length ∧ okCs d p.2 ∧ diffGo d B x = diffGo d (B.drop p.1) p.2) (fun p => B.length - p.1) (0, x) (by kernel_rfl) ?_ ?_ ?_
    · refine Le.told [((3, 0), (9, 0))] ?_ ?_ ?_ <;> simp [-Bool.exists_bool, -Int.not_le, -Int.not_lt, -getElem?_pos, -List.getD_eq_getElem?_getD, setH]
    · exact ⟨Nat.zero_le _, hxo, rfl⟩
    · rintro ⟨i, acc⟩ ⟨hi, ha, he⟩
      simp only at hi ha he
      by_cases h : i < B.length
      · have hcc := bok _ (nth_mem h)
        rw [nth_drop h, diffGo] at he
        simp -implicitDefEqProofs -dsimp +contextual [-Bool.exists_bool, -Int.not_le, -Int.not_lt, -getElem?_pos, -List.getD_eq_getElem?_getD, h]
        have hL := l4Less d acc (nth B i) hcc ha
        cases hq : lessD d acc (nth B i) with
        | none =>
          rw [hq] at hL he
          refine CallJ.pure hL rfl (by simp [-Bool.exists_bool, -Int.not_le, -Int.not_lt, -getElem?_pos, -List.getD_eq_getElem?_getD]) ?_
          simp -implicitDefEqProofs -dsimp +contextual [-Bool.exists_bool, -Int.not_le, -Int.not_lt, -getElem?_pos, -List.getD_eq_getElem?_getD, h, optR]
          refine ⟨Quiet.of [] (by kernel_rfl) (by simp [-Bool.exists_bool, -Int.not_le, -Int.not_lt, -getElem?_pos, -List.getD_eq_getElem?_getD, allP, offB]), ?_⟩
          rw [Option.bind_none] at he
          exact RLe.pure 2 (by rw [he]; simp [-Bool.exists_bool, -Int.not_le, -Int.not_lt, -getElem?_pos, -List.getD_eq_getElem?_getD, optR, csD])
        | some y =>
          rw [hq, Option.bind_some] at he
          rw [hq] at hL
          refine CallJ.pure hL rfl (by simp [-Bool.exists_bool, -Int.not_le, -Int.not_lt, -getElem?_pos, -List.getD_eq_getElem?_getD]) ?_
          simp -implicitDefEqProofs -dsimp +contextual [-Bool.exists_bool, -Int.not_le, -Int.not_lt, -getElem?_pos, -List.getD_eq_getElem?_getD, h, optR]
          refine ⟨Quiet.of [] (by kernel_rfl) (by simp [-Bool.exists_bool, -Int.not_le, -Int.not_lt, -getElem?_pos, -List.getD_eq_getElem?_getD, allP, offB]), i + 1, y, ⟨h, lessD_ok ha hq, he⟩, by omega, ?_⟩
          rw [wr (by omega) (by omega)]
          refine Le.told [] ?_ ?_ ?_ <;> simp [-Bool.exists_bool, -Int.not_le, -Int.not_lt, -getElem?_pos, -List.getD_eq_getElem?_getD]
      · rw [drop_nil (by omega), diffGo] at he
        simp -implicitDefEqProofs -dsimp +contextual [-Bool.exists_bool, -Int.not_le, -Int.not_lt, -getElem?_pos, -List.getD_eq_getElem?_getD, h]
        exact RLe.pure 3 (by rw [he]; simp [-Bool.exists_bool, -Int.not_le, -Int.not_lt, -getElem?_pos, -List.getD_eq_getElem?_getD, optR])
def covR (d : Int) (A : List Ce) (e : Int) (B : List Ce) : Bool × Bool := if (diffD e B d A).2.2 = true then (decide ((diffD e B d A).2.1.length = 0), true) else (false, false)
theorem CoversRegion (d : Int) (A : List Ce) (e : Int) (B : List Ce) (hA : A.length ≤ 1048576) (hAc : ∀ c ∈ A, c.2.length ≤ 1048576) (hB : B.length ≤ 1048576) (hBc : ∀ c ∈ B, c.2.length ≤ 1048576) : Cn Tryz.prog 38 [R1 d A, R1 e B] (B2 (covR d A e B)) hemp := by
  refine Cn.of [0] mixed Tryz.func38 rfl Tryz.call38 (by kernel_rfl) rfl ?_
  simp -implicitDefEqProofs -dsimp +contextual [-Bool.exists_bool, -Int.not_le, -Int.not_lt, -getElem?_pos, -List.getD_eq_getElem?_getD, Tryz.f38]
  refine CallJ.pure (DifferenceOf e B d A hB hBc hA hAc) rfl (by simp [-Bool.exists_bool, -Int.not_le, -Int.not_lt, -getElem?_pos, -List.getD_eq_getElem?_getD]) ?_
  unfold covR
  generalize diffD e B d A = q
  obtain ⟨q1, q2, q3⟩ := q
  cases q3
  · simp -implicitDefEqProofs -dsimp +contextual [-Bool.exists_bool, -Int.not_le, -Int.not_lt, -getElem?_pos, -List.getD_eq_getElem?_getD]
    exact RLe.pure 1 (by simp [-Bool.exists_bool, -Int.not_le, -Int.not_lt, -getElem?_pos, -List.getD_eq_getElem?_getD])
  · simp -implicitDefEqProofs -dsimp +contextual [-Bool.exists_bool, -Int.not_le, -Int.not_lt, -getElem?_pos, -List.getD_eq_getElem?_getD]
    exact RLe.pure 1 (by simp [-Bool.exists_bool, -Int.not_le, -Int.not_lt, -getElem?_pos, -List.getD_eq_getElem?_getD])
end Go.Proofs.YtjknjekemolndaaGreat.ZL
namespace Go.Proofs.YtjknjekemolndaaGreat.ZL
open Go Go.Proofs.YtjknjekemolndaaGreat.Abs Go.Proofs.YtjknjekemolndaaGreat.Abs.Pl Go.RowKit Go.Proofs
set_option linter.unusedVariables false
set_option linter.unusedSimpArgs false
set_option maxRecDepth 100000
abbrev aH (d : Int) (cs : List Ce) : Store := hl [((0, 1), .box [I d, .ref (0, 2) cs.length]), ((0, 2), .row 26 cs.length (dl (csD cs)))]
abbrev aN (d : Int) (cs : List Ce) : Store := hl [((0, 1), .box [I d, .ref (1, 0) cs.length]), ((1, 0), .row 26 cs.length (dl (csD cs)))]
def aA (k : Key) : Prop := k = (0, 1) ∨ k = (0, 2)
def aOut (d : Int) (cs : List Ce) (c : Ce) : Bool × Store := if (minD c.1 c.2).2.2 = true then (if emF (minD c.1 c.2).2.1 = true then (true, aH d cs) else if cs.length < 12 then (true, aN d (cs ++ [((minD c.1 c.2).1, (minD c.1 c.2).2.1)])) else (false, aH d cs)) else (false, aH d cs)
theorem aOut_none {d : Int} {cs : List Ce} {c : Ce} (h : addC cs c = none) : aOut d cs c = (false, aH d cs) := by
  unfold addC mC at h
  unfold aOut
  split at h
  · rename_i h1
    rw [if_pos h1]
    split at h
    · cases h
    · rename_i h2
      rw [if_neg h2]
      split at h
      · cases h
      · rename_i h3; rw [if_neg h3]
  · rename_i h1; rw [if_neg h1]
theorem aOut_some {d : Int} {cs x : List Ce} {c : Ce} (h : addC cs c = some x) : (x = cs ∧ aOut d cs c = (true, aH d cs)) ∨ (x.length = cs.length + 1 ∧ aOut d cs c = (true, aN d x)) := by
  unfold addC mC at h
  unfold aOut
  split at h
  · rename_i h1
    rw [if_pos h1]
    split at h
    · rename_i h2
      exact .inl ⟨(Option.some.inj h).symm, by rw [if_pos h2]⟩
    · rename_i h2
      rw [if_neg h2]
      split at h
      · rename_i h3
        exact .inr ⟨by rw [← Option.some.inj h]; simp [-Bool.exists_bool, -Int.not_le, -Int.not_lt, -getElem?_pos, -List.getD_eq_getElem?_getD], by rw [if_pos h3, ← Option.some.inj h]⟩
      · cases h
  · cases h
def inv1 (s : Nat) (k : Key) : Key := if k = (1, 0) then (s, 0) else k
theorem RLm.told1 {P : Program} {A : Key → Prop} {H : Store} {r v : V} {K : List (Key × Ent)} (s : Nat) (hs : 2 ≤ s) (hv : VLe H (inv1 s) 2 v r) (hr : allK (okKey A) r)
    (hK : allP (fun p : Key × Ent => p.1.1 < 2 ∧ okKey A p.1 ∧ allKE (okKey A) p.2 ∧ entIs (H (inv1 s p.1)) fun e => ELe H (inv1 s) 2 e p.2) K) : RLm P A H v r (hl K) := by
  have hlt : ∀ k e, hl K k = some e → k.1 < 2 := fun k e hk => (allP_mem hK _ (hl_mem hk)).1
  refine RLm.mk (inv1 s) (fun k hk => ?_) hv hr (fun k e' hk => ?_) (fun k k' e e' h1 h2 h => ?_)
  · unfold inv1
    rw [if_neg (fun e => by rw [e] at hk; cases hk)]
  · obtain ⟨h1, h2, h3, h4⟩ := allP_mem hK _ (hl_mem hk)
    simp only [entIs] at h4
    refine ⟨h1, h2, h3, ?_⟩
    cases hq : H (inv1 s k) with
    | none => rw [hq] at h4; exact h4.elim
    | some e => rw [hq] at h4; exact ⟨e, rfl, h4⟩
  · have l1 := hlt k e h1
    have l2 := hlt k' e' h2
    unfold inv1 at h
    split at h
    · rename_i e1
      split at h
      · rename_i e2; rw [e1, e2]
      · rw [← h] at l2; simp [-Bool.exists_bool, -Int.not_le, -Int.not_lt, -getElem?_pos, -List.getD_eq_getElem?_getD] at l2; omega
    · split at h
      · rw [h] at l1; simp [-Bool.exists_bool, -Int.not_le, -Int.not_lt, -getElem?_pos, -List.getD_eq_getElem?_getD] at l1; omega
      · exact h
theorem addCell (d : Int) (cs : List Ce) (c : Ce) (hl20 : c.2.length ≤ 1048576) (h12 : cs.length ≤ 12) : Cm Tryz.prog 85 aA [.ptr (0, 1) 0, C1 c.1 c.2] (aH d cs) (B (aOut d cs c).1) (aOut d cs c).2 := by
  refine Cm.of [] mixed Tryz.func85 rfl Tryz.call85 (by kernel_rfl) rfl ?_
  simp -implicitDefEqProofs -dsimp +contextual [-Bool.exists_bool, -Int.not_le, -Int.not_lt, -getElem?_pos, -List.getD_eq_getElem?_getD, Tryz.f85]
  refine CallJ.pure (iMinimalCellW c.1 c.2 hl20) rfl (by simp [-Bool.exists_bool, -Int.not_le, -Int.not_lt, -getElem?_pos, -List.getD_eq_getElem?_getD]) ?_
  have ho : (minD c.1 c.2).2.2 = true → (minD c.1 c.2).1 = c.1 ∧ isCe c.1 (minD c.1 c.2).2.1 = true ∧ NF c.1 (minD c.1 c.2).2.1 := minD_ok
  unfold aOut
  generalize minD c.1 c.2 = m at ho ⊢
  obtain ⟨m1, m2, m3⟩ := m
  simp only at ho ⊢
  simp -implicitDefEqProofs -dsimp +contextual [-Bool.exists_bool, -Int.not_le, -Int.not_lt, -getElem?_pos, -List.getD_eq_getElem?_getD]
  have same : ∀ {b : Bool}, RLm Tryz.prog aA (setH (8, 0) (some (Ent.box [V.d (D.int IntKind.i64 m1), V.d (D.sl m2.length (asD m2))])) (setH (8, 0) (some (Ent.box [V.d (D.int IntKind.i64 0), V.nil])) (setH (1, 0) (some (Ent.box [I c.fst, As c.snd])) (aH d cs)))) (B b) (B b) (aH d cs) := fun {b} => by
    refine RLm.told ?_ ?_ ?_
    · simp [-Bool.exists_bool, -Int.not_le, -Int.not_lt, -getElem?_pos, -List.getD_eq_getElem?_getD]
    · simp [-Bool.exists_bool, -Int.not_le, -Int.not_lt, -getElem?_pos, -List.getD_eq_getElem?_getD, allK]
    · simp [-Bool.exists_bool, -Int.not_le, -Int.not_lt, -getElem?_pos, -List.getD_eq_getElem?_getD, okKey, allKE, allKs, allK, aA]
  refine ⟨fun hf => ?_, fun hf => same⟩
  obtain ⟨rfl, o2, o3⟩ := ho hf
  refine CallJ.pure (iEmptyForm c.1 m2 (isCe_l o2) (isCe_a o2)) rfl (by simp [-Bool.exists_bool, -Int.not_le, -Int.not_lt, -getElem?_pos, -List.getD_eq_getElem?_getD]) ?_
  simp -implicitDefEqProofs -dsimp +contextual [-Bool.exists_bool, -Int.not_le, -Int.not_lt, -getElem?_pos, -List.getD_eq_getElem?_getD]
  refine ⟨fun h1 => ?_, fun h1 => ⟨fun h2 => ?_, fun h2 => ?_⟩⟩
  · rw [if_pos hf]; exact same
  · rw [if_pos hf, if_neg (by omega)]; exact same
  · rw [if_pos hf, if_pos (by omega)]
    refine ⟨⟨by omega, by simp [-Bool.exists_bool, -Int.not_le, -Int.not_lt, -getElem?_pos, -List.getD_eq_getElem?_getD, maxLen]; omega⟩, by kernel_rfl, ?_⟩
    refine RLm.told1 28 (by omega) ?_ ?_ ?_
    · simp [-Bool.exists_bool, -Int.not_le, -Int.not_lt, -getElem?_pos, -List.getD_eq_getElem?_getD]
    · simp [-Bool.exists_bool, -Int.not_le, -Int.not_lt, -getElem?_pos, -List.getD_eq_getElem?_getD, allK]
    · simp [-Bool.exists_bool, -Int.not_le, -Int.not_lt, -getElem?_pos, -List.getD_eq_getElem?_getD, okKey, allKE, allKs, allK, aA, inv1, setH, csD_append, csD_cons, cD]
def upAdd (kb kr : Key) (s : Nat) (d : Int) (x : List Ce) : Key → Option (Option Ent) := fun k => if k = (s, 0) then some (some (.row 26 x.length (dl (csD x)))) else if k = kb then some (some (.box [I d, .ref (s, 0) x.length])) else if k = kr then some none else none
def upSm (kb kr : Key) (d : Int) (x : List Ce) : Key → Option (Option Ent) := fun k => if k = kb then some (some (.box [I d, .ref kr x.length])) else if k = kr then some (some (.row 26 x.length (dl (csD x)))) else none
theorem app_upAdd (kb kr : Key) (s : Nat) (d : Int) (x : List Ce) (H : Store) : app (upAdd kb kr s d x) H = setH (s, 0) (some (.row 26 x.length (dl (csD x)))) (setH kb (some (.box [I d, .ref (s, 0) x.length])) (setH kr none H)) := by
  funext k
  unfold app upAdd setH
  by_cases h1 : k = (s, 0)
  · simp only [if_pos h1]
  · by_cases h2 : k = kb
    · simp only [if_neg h1, if_pos h2]
    · by_cases h3 : k = kr
      · simp only [if_neg h1, if_neg h2, if_pos h3]
      · simp only [if_neg h1, if_neg h2, if_neg h3]
theorem app_upSm (kb kr : Key) (d : Int) (x : List Ce) (H : Store) : app (upSm kb kr d x) H = setH kb (some (.box [I d, .ref kr x.length])) (setH kr (some (.row 26 x.length (dl (csD x)))) H) := by
  funext k
  unfold app upSm setH
  by_cases h2 : k = kb
  · simp only [if_pos h2]
  · by_cases h3 : k = kr
    · simp only [if_neg h2, if_pos h3]
    · simp only [if_neg h2, if_neg h3]
attribute [simp] app_upAdd app_upSm
theorem callAdd {N nx s : Nat} {H : Store} {K : Eff → Prop} (kb kr : Key) (d : Int) (cs : List Ce) (c : Ce) (hl20 : c.2.length ≤ 1048576) (h12 : cs.length ≤ 12) (hb : H kb = some (.box [I d, .ref kr cs.length])) (hr : H kr = some (.row 26 cs.length (dl (csD cs)))) (hne : kb ≠ kr) (hn : kb.1 < nx ∧ kr.1 < nx) (hs : kb.1 ≠ s ∧ kr.1 ≠ s)
    (k0 : addC cs c = none → K ⟨B false, [kb, kr], [kb, kr], upSm kb kr d cs⟩) (k1 : addC cs c = some cs → K ⟨B true, [kb, kr], [kb, kr], upSm kb kr d cs⟩) (k2 : ∀ x, addC cs c = some x → x.length = cs.length + 1 → K ⟨B true, [kb, kr], [kb, kr], upAdd kb kr s d x⟩) :
    CallJ Tryz.prog N nx s H 85 [.ptr kb 0, C1 c.1 c.2] K := by
  have base : ∀ {r : Bool} {Hr : Store}, Cm Tryz.prog 85 aA [.ptr (0, 1) 0, C1 c.1 c.2] (aH d cs) (B r) Hr → (∀ k e, Hr k = some e → k.1 < 2 ∧ (k.1 = 0 → (aH d cs k).isSome = true)) → K ⟨B r, [kb, kr], [kb, kr], upMut (fun j => if j = 0 then kb else kr) (fun k => if k = kb then some 0 else if k = kr then some 1 else none) s Hr⟩ → CallJ Tryz.prog N nx s H 85 [.ptr kb 0, C1 c.1 c.2] K := fun {r Hr} hm h2 hk => by
    refine CallJ.mut (fun j => if j = 0 then kb else kr) (fun k => if k = kb then some 0 else if k = kr then some 1 else none) [kb, kr] [] hm ?_ ?_ ?_ ?_ ?_ ?_ h2 ?_ (by simpa [-Bool.exists_bool, -Int.not_le, -Int.not_lt, -getElem?_pos, -List.getD_eq_getElem?_getD] using hk)
    · simp [-Bool.exists_bool, -Int.not_le, -Int.not_lt, -getElem?_pos, -List.getD_eq_getElem?_getD, gk]
    · simp [-Bool.exists_bool, -Int.not_le, -Int.not_lt, -getElem?_pos, -List.getD_eq_getElem?_getD, allKs, allK, aA]
    · rintro k (rfl | rfl)
      · simp [-Bool.exists_bool, -Int.not_le, -Int.not_lt, -getElem?_pos, -List.getD_eq_getElem?_getD, hb]
      · simp [-Bool.exists_bool, -Int.not_le, -Int.not_lt, -getElem?_pos, -List.getD_eq_getElem?_getD, hr]
    · intro k e h
      have h := hl_mem h
      simp [-Bool.exists_bool, -Int.not_le, -Int.not_lt, -getElem?_pos, -List.getD_eq_getElem?_getD] at h
      rcases h with ⟨rfl, rfl⟩ | ⟨rfl, rfl⟩
      · simp [-Bool.exists_bool, -Int.not_le, -Int.not_lt, -getElem?_pos, -List.getD_eq_getElem?_getD, aA, hb, mapE, allKE, allKs, allK, gk]
      · simp [-Bool.exists_bool, -Int.not_le, -Int.not_lt, -getElem?_pos, -List.getD_eq_getElem?_getD, aA, hr, mapE, allKE, allKs, allK, gk, hne.symm]
    · intro k j h
      split at h
      · rename_i e
        obtain rfl := Option.some.inj h
        simp [-Bool.exists_bool, -Int.not_le, -Int.not_lt, -getElem?_pos, -List.getD_eq_getElem?_getD, e]
      · split at h
        · rename_i e1 e2
          obtain rfl := Option.some.inj h
          simp [-Bool.exists_bool, -Int.not_le, -Int.not_lt, -getElem?_pos, -List.getD_eq_getElem?_getD, e2]
        · cases h
    · simp [-Bool.exists_bool, -Int.not_le, -Int.not_lt, -getElem?_pos, -List.getD_eq_getElem?_getD, hne.symm]
    · simp [-Bool.exists_bool, -Int.not_le, -Int.not_lt, -getElem?_pos, -List.getD_eq_getElem?_getD, hb, hr, hn]
  have um : ∀ k, upMut (fun j => if j = 0 then kb else kr) (fun k => if k = kb then some 0 else if k = kr then some 1 else none) s (aH d cs) k = upSm kb kr d cs k := fun k => by
    unfold upMut upSm
    split
    · rename_i hks
      have n1 : k ≠ kb := fun e => hs.1 (by rw [← e]; exact hks)
      have n2 : k ≠ kr := fun e => hs.2 (by rw [← e]; exact hks)
      simp [-Bool.exists_bool, -Int.not_le, -Int.not_lt, -getElem?_pos, -List.getD_eq_getElem?_getD, n1, n2, hks]
    · by_cases e1 : k = kb
      · simp only [if_pos e1]; simp [-Bool.exists_bool, -Int.not_le, -Int.not_lt, -getElem?_pos, -List.getD_eq_getElem?_getD, mapE, gk]
      · by_cases e2 : k = kr
        · simp only [if_neg e1, if_pos e2]; simp [-Bool.exists_bool, -Int.not_le, -Int.not_lt, -getElem?_pos, -List.getD_eq_getElem?_getD, mapE, gk]
        · simp only [if_neg e1, if_neg e2]
  have ua : ∀ (x : List Ce) k, upMut (fun j => if j = 0 then kb else kr) (fun k => if k = kb then some 0 else if k = kr then some 1 else none) s (aN d x) k = upAdd kb kr s d x k := fun x k => by
    unfold upMut upAdd
    obtain ⟨a, b⟩ := k
    split
    · rename_i hks
      simp only at hks
      subst hks
      have n1 : (a, b) ≠ kb := fun e => hs.1 (by rw [← e])
      have n2 : (a, b) ≠ kr := fun e => hs.2 (by rw [← e])
      by_cases hb0 : b = 0
      · subst hb0; simp [-Bool.exists_bool, -Int.not_le, -Int.not_lt, -getElem?_pos, -List.getD_eq_getElem?_getD, mapE]
      · simp [-Bool.exists_bool, -Int.not_le, -Int.not_lt, -getElem?_pos, -List.getD_eq_getElem?_getD, n1, n2, hb0]
    · rename_i hks
      simp only at hks
      have e0 : ¬ (a, b) = (s, 0) := fun e => hks (by injection e)
      by_cases e1 : (a, b) = kb
      · simp only [if_neg e0, if_pos e1]; simp [-Bool.exists_bool, -Int.not_le, -Int.not_lt, -getElem?_pos, -List.getD_eq_getElem?_getD, mapE, gk]
      · by_cases e2 : (a, b) = kr
        · simp only [if_neg e0, if_neg e1, if_pos e2]; simp [-Bool.exists_bool, -Int.not_le, -Int.not_lt, -getElem?_pos, -List.getD_eq_getElem?_getD]
        · simp only [if_neg e0, if_neg e1, if_neg e2]
  have hmain := addCell d cs c hl20 h12
  cases hq : addC cs c with
  | none =>
    rw [aOut_none hq] at hmain
    refine base hmain (fun k e h => ?_) (by rw [funext um]; exact k0 hq)
    have h := hl_mem h
    simp [-Bool.exists_bool, -Int.not_le, -Int.not_lt, -getElem?_pos, -List.getD_eq_getElem?_getD] at h
    rcases h with ⟨rfl, rfl⟩ | ⟨rfl, rfl⟩ <;> simp [-Bool.exists_bool, -Int.not_le, -Int.not_lt, -getElem?_pos, -List.getD_eq_getElem?_getD]
  | some x =>
    rcases aOut_some hq with ⟨rfl, e⟩ | ⟨hx, e⟩
    · rw [e] at hmain
      refine base hmain (fun k e h => ?_) (by rw [funext um]; exact k1 hq)
      have h := hl_mem h
      simp [-Bool.exists_bool, -Int.not_le, -Int.not_lt, -getElem?_pos, -List.getD_eq_getElem?_getD] at h
      rcases h with ⟨rfl, rfl⟩ | ⟨rfl, rfl⟩ <;> simp [-Bool.exists_bool, -Int.not_le, -Int.not_lt, -getElem?_pos, -List.getD_eq_getElem?_getD]
    · rw [e] at hmain
      refine base hmain (fun k e h => ?_) (by rw [funext (ua x)]; exact k2 x hq hx)
      have h := hl_mem h
      simp [-Bool.exists_bool, -Int.not_le, -Int.not_lt, -getElem?_pos, -List.getD_eq_getElem?_getD] at h
      rcases h with ⟨rfl, rfl⟩ | ⟨rfl, rfl⟩ <;> simp [-Bool.exists_bool, -Int.not_le, -Int.not_lt, -getElem?_pos, -List.getD_eq_getElem?_getD]
theorem neatF (c : Ce) : Cn Tryz.prog 76 [C1 c.1 c.2] (D2 (c.1, c.2, true)) hemp := by
  refine Cn.of [] mixed Tryz.func76 rfl Tryz.call76 (by kernel_rfl) rfl ?_
  simp -implicitDefEqProofs -dsimp +contextual [-Bool.exists_bool, -Int.not_le, -Int.not_lt, -getElem?_pos, -List.getD_eq_getElem?_getD, Tryz.f76]
  exact RLe.pure 3 (by simp [-Bool.exists_bool, -Int.not_le, -Int.not_lt, -getElem?_pos, -List.getD_eq_getElem?_getD])
theorem mapCells (d : Int) (L : List Ce) (h12 : L.length ≤ 12) (hok : ∀ c ∈ L, okC d c) : Cn Tryz.prog 75 [R1 d L, .fn 76 []] (RD (optR d (neatGo L []))) hemp := by
  refine Cn.of [] mixed Tryz.func75 rfl Tryz.call75 (by kernel_rfl) rfl ?_
  simp -implicitDefEqProofs -dsimp +contextual [-Bool.exists_bool, -Int.not_le, -Int.not_lt, -getElem?_pos, -List.getD_eq_getElem?_getD, Tryz.f75]
  refine WP.loop mixed [] (fun p : Nat × List Ce => ⟨tl [(1, .fn 76 []), (4, .ptr (1, 0) 0), (6, .ptr (2, 0) 0), (16, Cs L), (17, I L.length), (18, I p.1)], hl [((1, 0), .box [I 0, .nil]), ((2, 0), .box [I d, .ref (3, 0) p.2.length]), ((3, 0), .row 26 p.2.length (dl (csD p.2)))], 4⟩) (fun p => p.1 ≤ L.length ∧ okCs d p.2 ∧ neatGo L [] = neatGo (L.drop p.1) p.2) (fun p => L.length - p.1) (0, []) (by kernel_rfl) ?_ ?_ ?_
  · refine Le.trans (Le.nilBox (7, 0) 1 26 (c := [I d, .nil]) (by simp [-Bool.exists_bool, -Int.not_le, -Int.not_lt, -getElem?_pos, -List.getD_eq_getElem?_getD, setH]) rfl) (Le.told [((1, 0), (1, 0)), ((2, 0), (7, 0)), ((3, 0), (13, 0))] ?_ ?_ ?_) <;> simp [-Bool.exists_bool, -Int.not_le, -Int.not_lt, -getElem?_pos, -List.getD_eq_getElem?_getD, setH, ELe]
  · exact ⟨Nat.zero_le _, ⟨by simp [-Bool.exists_bool, -Int.not_le, -Int.not_lt, -getElem?_pos, -List.getD_eq_getElem?_getD], by simp [-Bool.exists_bool, -Int.not_le, -Int.not_lt, -getElem?_pos, -List.getD_eq_getElem?_getD]⟩, rfl⟩
  · rintro ⟨i, acc⟩ ⟨hi, ha, he⟩
    simp only at hi ha he
    by_cases h : i < L.length
    · have hcc := hok _ (nth_mem h)
      rw [nth_drop h, neatGo] at he
      simp -implicitDefEqProofs -dsimp +contextual [-Bool.exists_bool, -Int.not_le, -Int.not_lt, -getElem?_pos, -List.getD_eq_getElem?_getD, h]
      refine CallJ.pure (neatF (nth L i)) rfl (by simp [-Bool.exists_bool, -Int.not_le, -Int.not_lt, -getElem?_pos, -List.getD_eq_getElem?_getD]) ?_
      simp -implicitDefEqProofs -dsimp +contextual [-Bool.exists_bool, -Int.not_le, -Int.not_lt, -getElem?_pos, -List.getD_eq_getElem?_getD, h]
      refine callAdd (2, 0) (3, 0) d acc (nth L i) (by have := okC_len hcc; omega) ha.1 (by simp [-Bool.exists_bool, -Int.not_le, -Int.not_lt, -getElem?_pos, -List.getD_eq_getElem?_getD, setH]) (by simp [-Bool.exists_bool, -Int.not_le, -Int.not_lt, -getElem?_pos, -List.getD_eq_getElem?_getD, setH]) (by simp [-Bool.exists_bool, -Int.not_le, -Int.not_lt, -getElem?_pos, -List.getD_eq_getElem?_getD]) (by simp [-Bool.exists_bool, -Int.not_le, -Int.not_lt, -getElem?_pos, -List.getD_eq_getElem?_getD]) (by simp [-Bool.exists_bool, -Int.not_le, -Int.not_lt, -getElem?_pos, -List.getD_eq_getElem?_getD]) ?_ ?_ ?_
      · intro hq
        simp -implicitDefEqProofs -dsimp +contextual [-Bool.exists_bool, -Int.not_le, -Int.not_lt, -getElem?_pos, -List.getD_eq_getElem?_getD, h]
        rw [hq, Option.bind_none] at he
        exact RLe.pure 2 (by rw [he]; simp [-Bool.exists_bool, -Int.not_le, -Int.not_lt, -getElem?_pos, -List.getD_eq_getElem?_getD, optR, csD])
      · intro hq
        simp -implicitDefEqProofs -dsimp +contextual [-Bool.exists_bool, -Int.not_le, -Int.not_lt, -getElem?_pos, -List.getD_eq_getElem?_getD, h]
        rw [hq, Option.bind_some] at he
        refine ⟨i + 1, acc, ⟨h, ha, he⟩, by omega, ?_⟩
        rw [wr (by omega) (by omega)]
        refine Le.told [] ?_ ?_ ?_ <;> simp [-Bool.exists_bool, -Int.not_le, -Int.not_lt, -getElem?_pos, -List.getD_eq_getElem?_getD]
      · intro x hq hx
        simp -implicitDefEqProofs -dsimp +contextual [-Bool.exists_bool, -Int.not_le, -Int.not_lt, -getElem?_pos, -List.getD_eq_getElem?_getD, h]
        rw [hq, Option.bind_some] at he
        refine ⟨i + 1, x, ⟨h, addC_ok hcc.1 ha hq, he⟩, by omega, ?_⟩
        rw [wr (by omega) (by omega)]
        refine Le.told [((3, 0), (22, 0))] ?_ ?_ ?_ <;> simp [-Bool.exists_bool, -Int.not_le, -Int.not_lt, -getElem?_pos, -List.getD_eq_getElem?_getD]
    · rw [drop_nil (by omega), neatGo] at he
      simp -implicitDefEqProofs -dsimp +contextual [-Bool.exists_bool, -Int.not_le, -Int.not_lt, -getElem?_pos, -List.getD_eq_getElem?_getD, h]
      exact RLe.pure 3 (by rw [he]; simp [-Bool.exists_bool, -Int.not_le, -Int.not_lt, -getElem?_pos, -List.getD_eq_getElem?_getD, optR])
theorem iNeatRegion (d : Int) (L : List Ce) (h20 : L.length ≤ 1048576) (hc : ∀ c ∈ L, c.2.length ≤ 1048576) : Cn Tryz.prog 28 [R1 d L] (RD (neatD d L)) hemp := by
  refine Cn.of [] mixed Tryz.func28 rfl Tryz.call28 (by kernel_rfl) rfl ?_
  simp -implicitDefEqProofs -dsimp +contextual [-Bool.exists_bool, -Int.not_le, -Int.not_lt, -getElem?_pos, -List.getD_eq_getElem?_getD, Tryz.f28]
  refine CallJ.pure (iIsRegion d L h20 hc) rfl (by simp [-Bool.exists_bool, -Int.not_le, -Int.not_lt, -getElem?_pos, -List.getD_eq_getElem?_getD]) ?_
  simp -implicitDefEqProofs -dsimp +contextual [-Bool.exists_bool, -Int.not_le, -Int.not_lt, -getElem?_pos, -List.getD_eq_getElem?_getD]
  refine ⟨fun hr => ?_, fun hr => RLe.pure 2 (by simp [-Bool.exists_bool, -Int.not_le, -Int.not_lt, -getElem?_pos, -List.getD_eq_getElem?_getD, neatD, hr, csD])⟩
  obtain ⟨hd, h12, hok⟩ := isRe_ok hr
  rw [neatD, if_pos hr]
  refine CallJ.pure (mapCells d L h12 hok) rfl (by simp [-Bool.exists_bool, -Int.not_le, -Int.not_lt, -getElem?_pos, -List.getD_eq_getElem?_getD]) ?_
  generalize optR d (neatGo L []) = q
  obtain ⟨q1, q2, q3⟩ := q
  simp -implicitDefEqProofs -dsimp +contextual [-Bool.exists_bool, -Int.not_le, -Int.not_lt, -getElem?_pos, -List.getD_eq_getElem?_getD]
  exact RLe.pure 3 (by simp [-Bool.exists_bool, -Int.not_le, -Int.not_lt, -getElem?_pos, -List.getD_eq_getElem?_getD])
end Go.Proofs.YtjknjekemolndaaGreat.ZL
namespace Go.Proofs.YtjknjekemolndaaGreat.ZL
open Go Go.Proofs.YtjknjekemolndaaGreat.Abs Go.Proofs.YtjknjekemolndaaGreat.Abs.Pl Go.RowKit Go.Proofs
set_option linter.unusedVariables false
set_option linter.unusedSimpArgs false
set_option maxRecDepth 100000
theorem iWithout (d : Int) (cs : List Ce) (x : List At) (hx2 : isCe d x = true) (hs : okCs d cs) : Cn Tryz.prog 115 [R1 d cs, C1 d x] (RD (optR d (lessOut d x cs []))) hemp := by
  refine Cn.of [0] mixed Tryz.func115 rfl Tryz.call115 (by kernel_rfl) rfl ?_
  have hd := isCe_d hx2
  have hlen := isCe_l hx2
  have hx := isCe_a hx2
  simp -implicitDefEqProofs -dsimp +contextual [-Bool.exists_bool, -Int.not_le, -Int.not_lt, -getElem?_pos, -List.getD_eq_getElem?_getD, Tryz.f115]
  refine WP.loop mixed [0] (fun p : Nat × List Ce => ⟨tl [(2, .ptr (0, 0) 0), (3, .ptr (1, 0) 0), (4, .ptr (2, 0) 0), (6, .ptr (3, 0) 0), (20, Cs cs), (21, I cs.length), (22, I p.1)], hl [((0, 0), .box [I d, Cs cs]), ((1, 0), .box [I d, As x]), ((2, 0), .box [I 0, .nil]), ((3, 0), .box [I d, .ref (4, 0) p.2.length]), ((4, 0), .row 26 p.2.length (dl (csD p.2)))], 5⟩) (fun p => p.1 ≤ cs.length ∧ okCs d p.2 ∧ lessOut d x cs [] = lessOut d x (cs.drop p.1) p.2) (fun p => cs.length - p.1) (0, []) (by kernel_rfl) ?_ ?_ ?_
  · refine Le.trans (Le.nilBox (8, 0) 1 26 (c := [I d, .nil]) (by simp [-Bool.exists_bool, -Int.not_le, -Int.not_lt, -getElem?_pos, -List.getD_eq_getElem?_getD, setH]) rfl) (Le.told [((3, 0), (8, 0)), ((4, 0), (14, 0))] ?_ ?_ ?_) <;> simp [-Bool.exists_bool, -Int.not_le, -Int.not_lt, -getElem?_pos, -List.getD_eq_getElem?_getD, setH, ELe]
  · exact ⟨Nat.zero_le _, ⟨by simp [-Bool.exists_bool, -Int.not_le, -Int.not_lt, -getElem?_pos, -List.getD_eq_getElem?_getD], by simp [-Bool.exists_bool, -Int.not_le, -Int.not_lt, -getElem?_pos, -List.getD_eq_getElem?_getD]⟩, rfl⟩
  · rintro ⟨i, acc⟩ ⟨hi, ha, he⟩
    simp only at hi ha he
    by_cases h : i < cs.length
    · have h12 := hs.1
      have hcc := hs.2 _ (nth_mem h)
      rw [nth_drop h, lessOut] at he
      simp -implicitDefEqProofs -dsimp +contextual [-Bool.exists_bool, -Int.not_le, -Int.not_lt, -getElem?_pos, -List.getD_eq_getElem?_getD, h]
      refine WP.loop mixed [0] (fun p : Nat × List Ce => ⟨tl [(2, .ptr (0, 0) 0), (3, .ptr (1, 0) 0), (4, .ptr (2, 0) 0), (6, .ptr (3, 0) 0), (8, .ptr (5, 0) 0), (20, Cs cs), (21, I cs.length), (22, I i), (27, As x), (28, I x.length), (29, I p.1)], hl [((0, 0), .box [I d, Cs cs]), ((1, 0), .box [I d, As x]), ((2, 0), .box [I 0, .nil]), ((3, 0), .box [I d, .ref (4, 0) p.2.length]), ((4, 0), .row 26 p.2.length (dl (csD p.2))), ((5, 0), .box (cV (nth cs i)))], 6⟩) (fun p => p.1 ≤ x.length ∧ okCs d p.2 ∧ lessOut d x cs [] = (lessIn d (nth cs i) x (x.length - p.1) p.2).bind (lessOut d x (cs.drop (i + 1)))) (fun p => x.length - p.1) (0, acc) (by kernel_rfl) ?_ ?_ ?_
      · refine Le.told [((5, 0), (8, 0))] ?_ ?_ ?_ <;> simp [-Bool.exists_bool, -Int.not_le, -Int.not_lt, -getElem?_pos, -List.getD_eq_getElem?_getD, setH]
      · exact ⟨Nat.zero_le _, ha, by rw [he]; rfl⟩
      · rintro ⟨k, ac⟩ ⟨hk, hac, hek⟩
        simp only at hk hac hek
        by_cases hkl : k < x.length
        · simp -implicitDefEqProofs -dsimp +contextual [-Bool.exists_bool, -Int.not_le, -Int.not_lt, -getElem?_pos, -List.getD_eq_getElem?_getD, h, hkl]
          have hna : negAt (nth x k).1 (nth x k).2.1 (nth x k).2.2 = ((negA (nth x k)).1, (negA (nth x k)).2.1, (negA (nth x k)).2.2, true) := by rw [negAt, if_pos (hx _ (nth_mem hkl)).1]; rfl
          have hN := iNegateAtom (nth x k)
          rw [hna] at hN
          refine CallJ.pure hN rfl (by simp [-Bool.exists_bool, -Int.not_le, -Int.not_lt, -getElem?_pos, -List.getD_eq_getElem?_getD]) ?_
          simp -implicitDefEqProofs -dsimp +contextual [-Bool.exists_bool, -Int.not_le, -Int.not_lt, -getElem?_pos, -List.getD_eq_getElem?_getD, h, hkl]
          have hmin : min k x.length = k := by omega
          refine ⟨by omega, ⟨by omega, by omega, by simp [-Bool.exists_bool, -Int.not_le, -Int.not_lt, -getElem?_pos, -List.getD_eq_getElem?_getD, maxLen]; omega⟩, ⟨by omega, by simp [-Bool.exists_bool, -Int.not_le, -Int.not_lt, -getElem?_pos, -List.getD_eq_getElem?_getD, maxLen]; omega⟩, Quiet.of [2] (by kernel_rfl) (by simp [-Bool.exists_bool, -Int.not_le, -Int.not_lt, -getElem?_pos, -List.getD_eq_getElem?_getD, allP, offB]), Quiet.of [] (by kernel_rfl) (by simp [-Bool.exists_bool, -Int.not_le, -Int.not_lt, -getElem?_pos, -List.getD_eq_getElem?_getD, allP, offB]), ?_⟩
          have hpl : (x.take k ++ [negA (nth x k)]).length = k + 1 := by simp [-Bool.exists_bool, -Int.not_le, -Int.not_lt, -getElem?_pos, -List.getD_eq_getElem?_getD]; omega
          have hpd : asD (x.take k ++ [negA (nth x k)]) = asD (x.take k) ++ [D.sl (negA (nth x k)).1.length ((negA (nth x k)).1.map (D.int IntKind.i64)), D.int IntKind.i64 (negA (nth x k)).2.1, D.bool (negA (nth x k)).2.2] := by rw [asD_append]; simp [-Bool.exists_bool, -Int.not_le, -Int.not_lt, -getElem?_pos, -List.getD_eq_getElem?_getD, asD, aD]
          have hM := iMeetCellsW (nth cs i) (partC d x k) (by have := okC_len hcc; omega) (by show (x.take k ++ [negA (nth x k)]).length ≤ 1048576; omega)
          have hmo := meetC_ok (a := nth cs i) (b := partC d x k)
          obtain ⟨n, hn⟩ : ∃ n, x.length - k = n + 1 := ⟨x.length - k - 1, by omega⟩
          have hkn : x.length - (n + 1) = k := by omega
          rw [hn, lessIn, hkn] at hek
          have hkn2 : n = x.length - (k + 1) := by omega
          generalize hgen : meetC (nth cs i) (partC d x k) = q at hM hmo hek
          obtain ⟨q1, q2, q3⟩ := q
          simp only at hmo hek
          refine CallJ.frz (t := 66) (n := k + 1) (c := dl (asD (x.take k ++ [negA (nth x k)]))) (c' := asD (x.take k ++ [negA (nth x k)])) (33, 0) hM (by simp [-Bool.exists_bool, -Int.not_le, -Int.not_lt, -getElem?_pos, -List.getD_eq_getElem?_getD, setH, hpd]) (dl_asDs _) (ks := [(33, 0)]) (by simp [-Bool.exists_bool, -Int.not_le, -Int.not_lt, -getElem?_pos, -List.getD_eq_getElem?_getD, lendVs, lendV, setH, partC, hpl, hmin]) (by simp [-Bool.exists_bool, -Int.not_le, -Int.not_lt, -getElem?_pos, -List.getD_eq_getElem?_getD]) ?_
          simp -implicitDefEqProofs -dsimp +contextual [-Bool.exists_bool, -Int.not_le, -Int.not_lt, -getElem?_pos, -List.getD_eq_getElem?_getD, h, hkl]
          refine ⟨fun hq => ?_, fun hq => ?_⟩
          · rw [if_pos hq] at hek
            obtain ⟨rfl, hq2⟩ := hmo hq
            rw [hcc.1] at hq2
            have hqc : okC d ((nth cs i).1, q2) := ⟨hcc.1, hq2⟩
            refine callAdd (3, 0) (4, 0) d ac ((nth cs i).1, q2) (by have := isCe_l hq2; show q2.length ≤ 1048576; omega) hac.1 (by simp [-Bool.exists_bool, -Int.not_le, -Int.not_lt, -getElem?_pos, -List.getD_eq_getElem?_getD, setH]) (by simp [-Bool.exists_bool, -Int.not_le, -Int.not_lt, -getElem?_pos, -List.getD_eq_getElem?_getD, setH]) (by simp [-Bool.exists_bool, -Int.not_le, -Int.not_lt, -getElem?_pos, -List.getD_eq_getElem?_getD]) (by simp [-Bool.exists_bool, -Int.not_le, -Int.not_lt, -getElem?_pos, -List.getD_eq_getElem?_getD]) (by simp [-Bool.exists_bool, -Int.not_le, -Int.not_lt, -getElem?_pos, -List.getD_eq_getElem?_getD]) ?_ ?_ ?_
            · intro ha
              simp -implicitDefEqProofs -dsimp +contextual [-Bool.exists_bool, -Int.not_le, -Int.not_lt, -getElem?_pos, -List.getD_eq_getElem?_getD, h, hkl, hq]
              rw [ha, Option.bind_none, Option.bind_none] at hek
              exact RLe.pure 2 (by rw [hek]; simp [-Bool.exists_bool, -Int.not_le, -Int.not_lt, -getElem?_pos, -List.getD_eq_getElem?_getD, optR, csD])
            · intro ha
              simp -implicitDefEqProofs -dsimp +contextual [-Bool.exists_bool, -Int.not_le, -Int.not_lt, -getElem?_pos, -List.getD_eq_getElem?_getD, h, hkl, hq]
              rw [ha, Option.bind_some, hkn2] at hek
              refine ⟨k + 1, ac, ⟨hkl, hac, hek⟩, by omega, ?_⟩
              rw [wr (by omega) (by omega)]
              refine Le.told [] ?_ ?_ ?_ <;> simp [-Bool.exists_bool, -Int.not_le, -Int.not_lt, -getElem?_pos, -List.getD_eq_getElem?_getD]
            · intro y ha hy
              simp -implicitDefEqProofs -dsimp +contextual [-Bool.exists_bool, -Int.not_le, -Int.not_lt, -getElem?_pos, -List.getD_eq_getElem?_getD, h, hkl, hq]
              rw [ha, Option.bind_some, hkn2] at hek
              refine ⟨k + 1, y, ⟨hkl, addC_ok hqc.1 hac ha, hek⟩, by omega, ?_⟩
              rw [wr (by omega) (by omega)]
              refine Le.told [((4, 0), (50, 0))] ?_ ?_ ?_ <;> simp [-Bool.exists_bool, -Int.not_le, -Int.not_lt, -getElem?_pos, -List.getD_eq_getElem?_getD]
          · rw [if_neg (by simp [-Bool.exists_bool, -Int.not_le, -Int.not_lt, -getElem?_pos, -List.getD_eq_getElem?_getD, hq]), Option.bind_none] at hek
            exact RLe.pure 2 (by rw [hek]; simp [-Bool.exists_bool, -Int.not_le, -Int.not_lt, -getElem?_pos, -List.getD_eq_getElem?_getD, optR, csD])
        · rw [show x.length - k = 0 by omega, lessIn, Option.bind_some] at hek
          simp -implicitDefEqProofs -dsimp +contextual [-Bool.exists_bool, -Int.not_le, -Int.not_lt, -getElem?_pos, -List.getD_eq_getElem?_getD, h, hkl]
          refine ⟨i + 1, ac, ⟨h, hac, hek⟩, by omega, ?_⟩
          rw [wr (by omega) (by omega)]
          refine Le.told [] ?_ ?_ ?_ <;> simp [-Bool.exists_bool, -Int.not_le, -Int.not_lt, -getElem?_pos, -List.getD_eq_getElem?_getD]
    · rw [drop_nil (by omega), lessOut] at he
      simp -implicitDefEqProofs -dsimp +contextual [-Bool.exists_bool, -Int.not_le, -Int.not_lt, -getElem?_pos, -List.getD_eq_getElem?_getD, h]
      exact RLe.pure 3 (by rw [he]; simp [-Bool.exists_bool, -Int.not_le, -Int.not_lt, -getElem?_pos, -List.getD_eq_getElem?_getD, optR])
theorem iDifferenceOf (d : Int) (A : List Ce) (e : Int) (B : List Ce) (hA : A.length ≤ 1048576) (hAc : ∀ c ∈ A, c.2.length ≤ 1048576) (hB : B.length ≤ 1048576) (hBc : ∀ c ∈ B, c.2.length ≤ 1048576) : Cn Tryz.prog 67 [R1 d A, R1 e B] (RD (diffD d A e B)) hemp := by
  refine Cn.of [0] mixed Tryz.func67 rfl Tryz.call67 (by kernel_rfl) rfl ?_
  simp -implicitDefEqProofs -dsimp +contextual [-Bool.exists_bool, -Int.not_le, -Int.not_lt, -getElem?_pos, -List.getD_eq_getElem?_getD, Tryz.f67]
  have no : ∀ {H : Store}, diffD d A e B = (0, [], false) → RLe Tryz.prog H (V.tup [V.agg [V.d (D.int IntKind.i64 0), V.nil], V.d (D.bool false)]) (RD (diffD d A e B)) hemp := fun h => by
    rw [h]
    exact RLe.pure 2 (by simp [-Bool.exists_bool, -Int.not_le, -Int.not_lt, -getElem?_pos, -List.getD_eq_getElem?_getD, csD])
  refine CallJ.pure (iIsRegion d A hA hAc) rfl (by simp [-Bool.exists_bool, -Int.not_le, -Int.not_lt, -getElem?_pos, -List.getD_eq_getElem?_getD]) ?_
  simp -implicitDefEqProofs -dsimp +contextual [-Bool.exists_bool, -Int.not_le, -Int.not_lt, -getElem?_pos, -List.getD_eq_getElem?_getD]
  refine ⟨fun h1 => ?_, fun h1 => no (by rw [diffD, if_neg (by simp [-Bool.exists_bool, -Int.not_le, -Int.not_lt, -getElem?_pos, -List.getD_eq_getElem?_getD, h1])])⟩
  refine CallJ.pure (iIsRegion e B hB hBc) rfl (by simp [-Bool.exists_bool, -Int.not_le, -Int.not_lt, -getElem?_pos, -List.getD_eq_getElem?_getD]) ?_
  simp -implicitDefEqProofs -dsimp +contextual [-Bool.exists_bool, -Int.not_le, -Int.not_lt, -getElem?_pos, -List.getD_eq_getElem?_getD, h1]
  refine ⟨fun h2 => ⟨fun h3 => ?_, fun h3 => no (by rw [diffD, if_neg (fun h => h3 h.2.2)])⟩, fun h2 => no (by rw [diffD, if_neg (by simp [-Bool.exists_bool, -Int.not_le, -Int.not_lt, -getElem?_pos, -List.getD_eq_getElem?_getD, h2])])⟩
  subst h3
  obtain ⟨hd, h12, hok⟩ := isRe_ok h1
  obtain ⟨_, b12, bok⟩ := isRe_ok h2
  have hN := iNeatRegion d A hA hAc
  rw [neatD, if_pos h1] at hN
  cases hx : neatGo A [] with
  | none =>
    rw [hx] at hN
    refine CallJ.pure hN rfl (by simp [-Bool.exists_bool, -Int.not_le, -Int.not_lt, -getElem?_pos, -List.getD_eq_getElem?_getD]) ?_
    simp -implicitDefEqProofs -dsimp +contextual [-Bool.exists_bool, -Int.not_le, -Int.not_lt, -getElem?_pos, -List.getD_eq_getElem?_getD, optR, h1, h2]
    exact no (by rw [diffD, if_pos ⟨h1, h2, rfl⟩, hx]; rfl)
  | some x =>
    rw [hx] at hN
    have hxo := neatGo_ok hok ⟨by simp [-Bool.exists_bool, -Int.not_le, -Int.not_lt, -getElem?_pos, -List.getD_eq_getElem?_getD], by simp [-Bool.exists_bool, -Int.not_le, -Int.not_lt, -getElem?_pos, -List.getD_eq_getElem?_getD]⟩ hx
    have e0 : diffD d A d B = optR d (diffGo d B x) := by rw [diffD, if_pos ⟨h1, h2, rfl⟩, hx, Option.bind_some]
    rw [e0] at no ⊢
    refine CallJ.pure hN rfl (by simp [-Bool.exists_bool, -Int.not_le, -Int.not_lt, -getElem?_pos, -List.getD_eq_getElem?_getD]) ?_
    simp -implicitDefEqProofs -dsimp +contextual [-Bool.exists_bool, -Int.not_le, -Int.not_lt, -getElem?_pos, -List.getD_eq_getElem?_getD, optR, h1, h2]
    refine WP.loop mixed [0] (fun p : Nat × List Ce => ⟨tl [(3, .ptr (1, 0) 0), (4, .ptr (2, 0) 0), (6, .ptr (3, 0) 0), (37, Cs B), (38, I B.length), (39, I p.1)], hl [((1, 0), .box [I d, Cs B]), ((2, 0), .box [I 0, .nil]), ((3, 0), .box [I d, Cs p.2])], 4⟩) (fun p => p.1 ≤ B.length ∧ okCs d p.2 ∧ diffGo d B x = diffGo d (B.drop p.1) p.2) (fun p => B.length - p.1) (0, x) (by kernel_rfl) ?_ ?_ ?_
    · refine Le.told [((3, 0), (24, 0))] ?_ ?_ ?_ <;> simp [-Bool.exists_bool, -Int.not_le, -Int.not_lt, -getElem?_pos, -List.getD_eq_getElem?_getD, setH]
    · exact ⟨Nat.zero_le _, hxo, rfl⟩
    · rintro ⟨i, acc⟩ ⟨hi, ha, he⟩
      simp only at hi ha he
      by_cases h : i < B.length
      · have hcc := bok _ (nth_mem h)
        rw [nth_drop h, diffGo, lessD] at he
        simp -implicitDefEqProofs -dsimp +contextual [-Bool.exists_bool, -Int.not_le, -Int.not_lt, -getElem?_pos, -List.getD_eq_getElem?_getD, h]
        refine CallJ.pure (iMinimalCellW (nth B i).1 (nth B i).2 (by have := okC_len hcc; omega)) rfl (by simp [-Bool.exists_bool, -Int.not_le, -Int.not_lt, -getElem?_pos, -List.getD_eq_getElem?_getD]) ?_
        have ho : (minD (nth B i).1 (nth B i).2).2.2 = true → (minD (nth B i).1 (nth B i).2).1 = (nth B i).1 ∧ isCe (nth B i).1 (minD (nth B i).1 (nth B i).2).2.1 = true ∧ NF (nth B i).1 (minD (nth B i).1 (nth B i).2).2.1 := minD_ok
        unfold mC at he
        generalize minD (nth B i).1 (nth B i).2 = m at ho he ⊢
        obtain ⟨m1, m2, m3⟩ := m
        simp only at ho he ⊢
        simp -implicitDefEqProofs -dsimp +contextual [-Bool.exists_bool, -Int.not_le, -Int.not_lt, -getElem?_pos, -List.getD_eq_getElem?_getD, h]
        refine ⟨fun hf => ?_, fun hf => ?_⟩
        · obtain ⟨rfl, o2, o3⟩ := ho hf
          rw [if_pos hf] at he
          have hm1 := hcc.1
          rw [hm1] at o2
          have hW := iWithout d acc m2 o2 ha
          rw [← hm1] at hW
          cases hq : lessOut d m2 acc [] with
          | none =>
            rw [hq, Option.bind_none] at he
            rw [hm1, hq] at hW
            refine CallJ.pure hW (by rw [hm1]; rfl) (by simp [-Bool.exists_bool, -Int.not_le, -Int.not_lt, -getElem?_pos, -List.getD_eq_getElem?_getD]) ?_
            simp -implicitDefEqProofs -dsimp +contextual [-Bool.exists_bool, -Int.not_le, -Int.not_lt, -getElem?_pos, -List.getD_eq_getElem?_getD, h, optR]
            exact RLe.pure 2 (by rw [he]; simp [-Bool.exists_bool, -Int.not_le, -Int.not_lt, -getElem?_pos, -List.getD_eq_getElem?_getD, optR, csD])
          | some y =>
            rw [hq, Option.bind_some] at he
            rw [hm1, hq] at hW
            refine CallJ.pure hW (by rw [hm1]; rfl) (by simp [-Bool.exists_bool, -Int.not_le, -Int.not_lt, -getElem?_pos, -List.getD_eq_getElem?_getD]) ?_
            simp -implicitDefEqProofs -dsimp +contextual [-Bool.exists_bool, -Int.not_le, -Int.not_lt, -getElem?_pos, -List.getD_eq_getElem?_getD, h, optR]
            refine ⟨i + 1, y, ⟨h, lessOut_ok ha.2 ⟨by simp [-Bool.exists_bool, -Int.not_le, -Int.not_lt, -getElem?_pos, -List.getD_eq_getElem?_getD], by simp [-Bool.exists_bool, -Int.not_le, -Int.not_lt, -getElem?_pos, -List.getD_eq_getElem?_getD]⟩ hq, he⟩, by omega, ?_⟩
            rw [wr (by omega) (by omega)]
            refine Le.told [] ?_ ?_ ?_ <;> simp [-Bool.exists_bool, -Int.not_le, -Int.not_lt, -getElem?_pos, -List.getD_eq_getElem?_getD]
        · rw [if_neg (by simp [-Bool.exists_bool, -Int.not_le, -Int.not_lt, -getElem?_pos, -List.getD_eq_getElem?_getD, hf]), Option.bind_none] at he
          exact RLe.pure 2 (by rw [he]; simp [-Bool.exists_bool, -Int.not_le, -Int.not_lt, -getElem?_pos, -List.getD_eq_getElem?_getD, optR, csD])
      · rw [drop_nil (by omega), diffGo] at he
        simp -implicitDefEqProofs -dsimp +contextual [-Bool.exists_bool, -Int.not_le, -Int.not_lt, -getElem?_pos, -List.getD_eq_getElem?_getD, h]
        exact RLe.pure 3 (by rw [he]; simp [-Bool.exists_bool, -Int.not_le, -Int.not_lt, -getElem?_pos, -List.getD_eq_getElem?_getD, optR])
theorem iCoversRegion (d : Int) (A : List Ce) (e : Int) (B : List Ce) (hA : A.length ≤ 1048576) (hAc : ∀ c ∈ A, c.2.length ≤ 1048576) (hB : B.length ≤ 1048576) (hBc : ∀ c ∈ B, c.2.length ≤ 1048576) : Cn Tryz.prog 39 [R1 d A, R1 e B] (B2 (covR d A e B)) hemp := by
  refine Cn.of [0] mixed Tryz.func39 rfl Tryz.call39 (by kernel_rfl) rfl ?_
  simp -implicitDefEqProofs -dsimp +contextual [-Bool.exists_bool, -Int.not_le, -Int.not_lt, -getElem?_pos, -List.getD_eq_getElem?_getD, Tryz.f39]
  refine CallJ.pure (iDifferenceOf e B d A hB hBc hA hAc) rfl (by simp [-Bool.exists_bool, -Int.not_le, -Int.not_lt, -getElem?_pos, -List.getD_eq_getElem?_getD]) ?_
  unfold covR
  generalize diffD e B d A = q
  obtain ⟨q1, q2, q3⟩ := q
  cases q3
  · simp -implicitDefEqProofs -dsimp +contextual [-Bool.exists_bool, -Int.not_le, -Int.not_lt, -getElem?_pos, -List.getD_eq_getElem?_getD]
    exact RLe.pure 1 (by simp [-Bool.exists_bool, -Int.not_le, -Int.not_lt, -getElem?_pos, -List.getD_eq_getElem?_getD])
  · simp -implicitDefEqProofs -dsimp +contextual [-Bool.exists_bool, -Int.not_le, -Int.not_lt, -getElem?_pos, -List.getD_eq_getElem?_getD]
    exact RLe.pure 1 (by simp [-Bool.exists_bool, -Int.not_le, -Int.not_lt, -getElem?_pos, -List.getD_eq_getElem?_getD])
end Go.Proofs.YtjknjekemolndaaGreat.ZL
namespace Go.Proofs.YtjknjekemolndaaGreat.ZL
open Go Go.Proofs.YtjknjekemolndaaGreat.Abs Go.Proofs.YtjknjekemolndaaGreat.Abs.Pl Go.RowKit Go.Proofs
set_option linter.unusedVariables false
set_option linter.unusedSimpArgs false
theorem lawCoversRegion (d : Int) (L : List Ce) (e : Int) (M : List Ce) (hw : wfCs L) (hv : wfCs M) : Cn Tryz.prog 8 [R1 d L, R1 e M] (B true) hemp := by
  refine Cn.of [] mixed Tryz.func8 rfl Tryz.call8 (by kernel_rfl) rfl ?_
  simp -implicitDefEqProofs -dsimp +contextual [-Bool.exists_bool, -Int.not_le, -Int.not_lt, -getElem?_pos, -List.getD_eq_getElem?_getD, Tryz.f8]
  refine CallJ.pure (szRegion d L 1048576 ok20 hw) rfl (by simp [-Bool.exists_bool, -Int.not_le, -Int.not_lt, -getElem?_pos, -List.getD_eq_getElem?_getD]) ?_
  simp -implicitDefEqProofs -dsimp +contextual [-Bool.exists_bool, -Int.not_le, -Int.not_lt, -getElem?_pos, -List.getD_eq_getElem?_getD]
  refine ⟨fun _ => RLe.bb rfl, fun h => ?_⟩
  obtain ⟨w1, hk⟩ := lft_2 ok20 h
  obtain ⟨h20, hc⟩ := wCs_small w1
  have hc1 : ∀ c ∈ L, c.2.length ≤ 1048576 := fun c h => (hc c h).1
  refine CallJ.pure (szRegion e M _ hk hv) rfl (by simp [-Bool.exists_bool, -Int.not_le, -Int.not_lt, -getElem?_pos, -List.getD_eq_getElem?_getD]) ?_
  simp -implicitDefEqProofs -dsimp +contextual [-Bool.exists_bool, -Int.not_le, -Int.not_lt, -getElem?_pos, -List.getD_eq_getElem?_getD, h]
  refine ⟨fun _ => RLe.bb rfl, fun h' => ?_⟩
  obtain ⟨w2, hk2⟩ := lft_2 hk h'
  obtain ⟨m20, mc⟩ := wCs_small w2
  have mc1 : ∀ c ∈ M, c.2.length ≤ 1048576 := fun c h => (mc c h).1
  refine CallJ.pure (toRegion d L h20 hc) rfl (by simp [-Bool.exists_bool, -Int.not_le, -Int.not_lt, -getElem?_pos, -List.getD_eq_getElem?_getD]) ?_
  simp -implicitDefEqProofs -dsimp +contextual [-Bool.exists_bool, -Int.not_le, -Int.not_lt, -getElem?_pos, -List.getD_eq_getElem?_getD, h, h']
  refine CallJ.pure (toRegion e M m20 mc) rfl (by simp [-Bool.exists_bool, -Int.not_le, -Int.not_lt, -getElem?_pos, -List.getD_eq_getElem?_getD]) ?_
  simp -implicitDefEqProofs -dsimp +contextual [-Bool.exists_bool, -Int.not_le, -Int.not_lt, -getElem?_pos, -List.getD_eq_getElem?_getD, h, h']
  refine CallJ.pure (CoversRegion d L e M h20 hc1 m20 mc1) rfl (by simp [-Bool.exists_bool, -Int.not_le, -Int.not_lt, -getElem?_pos, -List.getD_eq_getElem?_getD]) ?_
  simp -implicitDefEqProofs -dsimp +contextual [-Bool.exists_bool, -Int.not_le, -Int.not_lt, -getElem?_pos, -List.getD_eq_getElem?_getD, h, h']
  refine CallJ.pure (toRegion d L h20 hc) rfl (by simp [-Bool.exists_bool, -Int.not_le, -Int.not_lt, -getElem?_pos, -List.getD_eq_getElem?_getD]) ?_
  simp -implicitDefEqProofs -dsimp +contextual [-Bool.exists_bool, -Int.not_le, -Int.not_lt, -getElem?_pos, -List.getD_eq_getElem?_getD, h, h']
  refine CallJ.pure (toRegion e M m20 mc) rfl (by simp [-Bool.exists_bool, -Int.not_le, -Int.not_lt, -getElem?_pos, -List.getD_eq_getElem?_getD]) ?_
  simp -implicitDefEqProofs -dsimp +contextual [-Bool.exists_bool, -Int.not_le, -Int.not_lt, -getElem?_pos, -List.getD_eq_getElem?_getD, h, h']
  refine CallJ.pure (iCoversRegion d L e M h20 hc1 m20 mc1) rfl (by simp [-Bool.exists_bool, -Int.not_le, -Int.not_lt, -getElem?_pos, -List.getD_eq_getElem?_getD]) ?_
  simp -implicitDefEqProofs -dsimp +contextual [-Bool.exists_bool, -Int.not_le, -Int.not_lt, -getElem?_pos, -List.getD_eq_getElem?_getD, h, h']
  refine CallJ.pure (toRegion d L h20 hc) rfl (by simp [-Bool.exists_bool, -Int.not_le, -Int.not_lt, -getElem?_pos, -List.getD_eq_getElem?_getD]) ?_
  simp -implicitDefEqProofs -dsimp +contextual [-Bool.exists_bool, -Int.not_le, -Int.not_lt, -getElem?_pos, -List.getD_eq_getElem?_getD, h, h']
  refine CallJ.pure (eqRegion d L h20 hc) rfl (by simp [-Bool.exists_bool, -Int.not_le, -Int.not_lt, -getElem?_pos, -List.getD_eq_getElem?_getD]) ?_
  simp -implicitDefEqProofs -dsimp +contextual [-Bool.exists_bool, -Int.not_le, -Int.not_lt, -getElem?_pos, -List.getD_eq_getElem?_getD, h, h']
  refine CallJ.pure (toRegion e M m20 mc) rfl (by simp [-Bool.exists_bool, -Int.not_le, -Int.not_lt, -getElem?_pos, -List.getD_eq_getElem?_getD]) ?_
  simp -implicitDefEqProofs -dsimp +contextual [-Bool.exists_bool, -Int.not_le, -Int.not_lt, -getElem?_pos, -List.getD_eq_getElem?_getD, h, h']
  refine CallJ.pure (eqRegion e M m20 mc) rfl (by simp [-Bool.exists_bool, -Int.not_le, -Int.not_lt, -getElem?_pos, -List.getD_eq_getElem?_getD]) ?_
  simp -implicitDefEqProofs -dsimp +contextual [-Bool.exists_bool, -Int.not_le, -Int.not_lt, -getElem?_pos, -List.getD_eq_getElem?_getD, h, h']
  exact RLe.bb rfl
end Go.Proofs.YtjknjekemolndaaGreat.ZL
