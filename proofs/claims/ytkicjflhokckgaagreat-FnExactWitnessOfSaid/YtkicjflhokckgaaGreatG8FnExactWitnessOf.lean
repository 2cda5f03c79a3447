/- Texts of the abs road (plain values, what code does to them, and the contracts of the functions that the law reaches). No condition. -/
import Derived.Test.YtkicjflhokckgaaGreatG7FnExactWitnessOf
namespace Go.Proofs.YtkicjflhokckgaaGreat.ZL
open Go Go.Proofs.YtkicjflhokckgaaGreat.Abs Go.Proofs.YtkicjflhokckgaaGreat.Abs.Pl Go.RowKit Go.Proofs
set_option linter.unusedVariables false
set_option linter.unusedSimpArgs false
set_option maxRecDepth 100000
theorem eqRatioS (p : List (Int × Int)) (h20 : p.length ≤ 1048576) : Cn Tryz.prog 8 [Rs p, Rs p] (B true) hemp := by
  refine Cn.of [] mixed Tryz.func8 rfl Tryz.call8 (by kernel_rfl) rfl ?_
  simp -implicitDefEqProofs -dsimp +contextual [-Bool.exists_bool, -Int.not_le, -Int.not_lt, -getElem?_pos, -List.getD_eq_getElem?_getD, Tryz.f8]
  refine WP.loop mixed [] (fun i : Nat => ⟨tl [(0, Rs p), (1, Rs p), (5, I i)], hl [], 1⟩) (fun i => i ≤ p.length) (fun i => p.length - i) 0 (by kernel_rfl) ?_ ?_ ?_
  · refine Le.told [] ?_ ?_ ?_ <;> simp [-Bool.exists_bool, -Int.not_le, -Int.not_lt, -getElem?_pos, -List.getD_eq_getElem?_getD]
  · simp [-Bool.exists_bool, -Int.not_le, -Int.not_lt, -getElem?_pos, -List.getD_eq_getElem?_getD]
  · intro i hi
    by_cases h : i < p.length
    · simp -implicitDefEqProofs -dsimp +contextual [-Bool.exists_bool, -Int.not_le, -Int.not_lt, -getElem?_pos, -List.getD_eq_getElem?_getD, h]
      have hr2 : i * 2 + 2 ≤ p.length * 2 := by omega
      simp -implicitDefEqProofs -dsimp +contextual [-Bool.exists_bool, -Int.not_le, -Int.not_lt, -getElem?_pos, -List.getD_eq_getElem?_getD, hr2]
      refine CallJ.pure (eqRatio (nth p i)) rfl (by simp [-Bool.exists_bool, -Int.not_le, -Int.not_lt, -getElem?_pos, -List.getD_eq_getElem?_getD]) ?_
      simp -implicitDefEqProofs -dsimp +contextual [-Bool.exists_bool, -Int.not_le, -Int.not_lt, -getElem?_pos, -List.getD_eq_getElem?_getD, h]
      refine ⟨i + 1, h, by omega, ?_⟩
      rw [wr (by omega) (by omega)]
      refine Le.told [] ?_ ?_ ?_ <;> simp [-Bool.exists_bool, -Int.not_le, -Int.not_lt, -getElem?_pos, -List.getD_eq_getElem?_getD]
    · simp -implicitDefEqProofs -dsimp +contextual [-Bool.exists_bool, -Int.not_le, -Int.not_lt, -getElem?_pos, -List.getD_eq_getElem?_getD, h]
      exact RLe.bb rfl
def markP (n : Nat) (m : Int) : List (Int × Int) := (List.range n).map fun i : Nat => (m + 2 * i, m + 2 * i + 1)
theorem markP_len (n : Nat) (m : Int) : (markP n m).length = n := by simp [-Bool.exists_bool, -Int.not_le, -Int.not_lt, -getElem?_pos, -List.getD_eq_getElem?_getD, markP]
def curP (p : List (Int × Int)) (m : Int) (i : Nat) : List (Int × Int) := markP i m ++ p.drop i
theorem curP_len (p : List (Int × Int)) (m : Int) (i : Nat) (h : i ≤ p.length) : (curP p m i).length = p.length := by simp [-Bool.exists_bool, -Int.not_le, -Int.not_lt, -getElem?_pos, -List.getD_eq_getElem?_getD, curP, markP_len]; omega
theorem markP_succ (i : Nat) (m : Int) : markP (i + 1) m = markP i m ++ [(m + 2 * i, m + 2 * i + 1)] := by simp [-Bool.exists_bool, -Int.not_le, -Int.not_lt, -getElem?_pos, -List.getD_eq_getElem?_getD, markP, List.range_succ]
theorem curP_D (p : List (Int × Int)) (m : Int) (i : Nat) (h : i < p.length) : rsD (curP p m (i + 1)) = (rsD (curP p m i)).take (i * 2) ++ [D.int .i64 (m + 2 * i), D.int .i64 (m + 2 * i + 1)] ++ (rsD (curP p m i)).drop (i * 2 + 2) := by
  have e1 : (rsD (curP p m i)).take (i * 2) = rsD (markP i m) := by
    rw [rsD_take]
    unfold curP
    rw [List.take_left' (markP_len i m)]
  have e2 : (rsD (curP p m i)).drop (i * 2 + 2) = rsD (p.drop (i + 1)) := by
    rw [show i * 2 + 2 = (i + 1) * 2 by omega, rsD_dropE]
    unfold curP
    rw [List.drop_append, List.drop_eq_nil_of_le (by rw [markP_len]; omega), markP_len, List.drop_drop, List.nil_append]
    congr 2
    omega
  rw [e1, e2]
  unfold curP
  rw [markP_succ, rsD_append, rsD_append]
  simp [-Bool.exists_bool, -Int.not_le, -Int.not_lt, -getElem?_pos, -List.getD_eq_getElem?_getD, rsD_cons, rD]
def rowP (p : List (Int × Int)) : Ent := .row 50 p.length (dl (rsD p))
theorem set2 {α : Type} (T : List α) (x y : α) (R : List α) (n : Nat) (hT : T.length = n) : (T ++ x :: R).take (n + 1) ++ y :: (T ++ x :: R).drop (n + 1 + 1) = T ++ [x, y] ++ R.drop 1 := by
  subst hT
  have e1 : T.length + 1 - T.length = 1 := by omega
  have e2 : T.length + 1 + 1 - T.length = 2 := by omega
  rw [List.take_append, List.drop_append, List.take_of_length_le (by omega), List.drop_eq_nil_of_le (by omega : T.length ≤ T.length + 1 + 1), e1, e2]
  simp [-Bool.exists_bool, -Int.not_le, -Int.not_lt, -getElem?_pos, -List.getD_eq_getElem?_getD]
theorem markRatioS (p : List (Int × Int)) (m : Int) (hm : 0 ≤ m ∧ m ≤ 1000000000000) (h20 : p.length ≤ 1048576) : Cm Tryz.prog 11 (fun k => k = (0, 1)) [.ref (0, 1) p.length, I m] (hl [((0, 1), rowP p)]) (I (m + 2 * p.length)) (hl [((0, 1), rowP (markP p.length m))]) := by
  refine Cm.of [] mixed Tryz.func11 rfl Tryz.call11 (by kernel_rfl) rfl ?_
  simp -implicitDefEqProofs -dsimp +contextual [-Bool.exists_bool, -Int.not_le, -Int.not_lt, -getElem?_pos, -List.getD_eq_getElem?_getD, Tryz.f11]
  refine WP.loop mixed [] (fun i : Nat => ⟨tl [(0, .ref (0, 1) p.length), (1, I (m + 2 * i)), (5, I i)], hl [((0, 1), .row 50 p.length (dl (rsD (curP p m i))))], 2⟩) (fun i => i ≤ p.length) (fun i => p.length - i) 0 (by kernel_rfl) ?_ ?_ ?_
  · refine Le.told [] ?_ ?_ ?_ <;> simp [-Bool.exists_bool, -Int.not_le, -Int.not_lt, -getElem?_pos, -List.getD_eq_getElem?_getD, rowP, curP, markP]
  · simp [-Bool.exists_bool, -Int.not_le, -Int.not_lt, -getElem?_pos, -List.getD_eq_getElem?_getD]
  · intro i hi
    by_cases h : i < p.length
    · have hcl := curP_len p m i hi
      have hr1 : i * 2 + 1 ≤ p.length * 2 := by omega
      have hr2 : i * 2 + 1 + 1 ≤ p.length * 2 := by omega
      simp -implicitDefEqProofs -dsimp +contextual [-Bool.exists_bool, -Int.not_le, -Int.not_lt, -getElem?_pos, -List.getD_eq_getElem?_getD, h, hcl, hr1, hr2]
      have hr3 : i * 2 + 1 + 1 ≤ min i p.length * 2 + (p.length * 2 - (i * 2 + 1) + 1) := by omega
      have hT : (rsD (List.take i (curP p m i))).length = i * 2 := by rw [rsD_len, List.length_take, hcl]; omega
      have hk := set2 (rsD (List.take i (curP p m i))) (D.int IntKind.i64 (m + 2 * i)) (D.int IntKind.i64 (m + 2 * i + 1)) ((rsD (curP p m i)).drop (i * 2 + 1)) (i * 2) hT
      rw [List.drop_drop, ← rsD_take, ← curP_D p m i h] at hk
      rw [wr (by omega) (by omega)]
      simp -implicitDefEqProofs -dsimp +contextual [-Bool.exists_bool, -Int.not_le, -Int.not_lt, -getElem?_pos, -List.getD_eq_getElem?_getD, h, hcl, hr1, hr2, hr3, hk]
      refine ⟨i + 1, h, by omega, ?_⟩
      rw [wr (by omega) (by omega), wr (by omega) (by omega)]
      refine Le.told [] ?_ ?_ ?_ <;> simp [-Bool.exists_bool, -Int.not_le, -Int.not_lt, -getElem?_pos, -List.getD_eq_getElem?_getD]
      all_goals first | omega | (rw [← rsD_take]; exact hk) | (rw [rsD_take] at hk; exact hk)
    · obtain rfl : i = p.length := by omega
      simp -implicitDefEqProofs -dsimp +contextual [-Bool.exists_bool, -Int.not_le, -Int.not_lt, -getElem?_pos, -List.getD_eq_getElem?_getD, h]
      refine RLm.told ?_ ?_ ?_
      · simp [-Bool.exists_bool, -Int.not_le, -Int.not_lt, -getElem?_pos, -List.getD_eq_getElem?_getD]
      · simp [-Bool.exists_bool, -Int.not_le, -Int.not_lt, -getElem?_pos, -List.getD_eq_getElem?_getD, allK]
      · simp [-Bool.exists_bool, -Int.not_le, -Int.not_lt, -getElem?_pos, -List.getD_eq_getElem?_getD, okKey, allKE, rowP, markP_len, curP]
theorem heldRatioS (n : Nat) (m : Int) (hm : 0 ≤ m ∧ m ≤ 1000000000000) (h20 : n ≤ 1048576) : Cn Tryz.prog 12 [Rs (markP n m), I m] (I (m + 2 * n)) hemp := by
  refine Cn.of [] mixed Tryz.func12 rfl Tryz.call12 (by kernel_rfl) rfl ?_
  simp -implicitDefEqProofs -dsimp +contextual [-Bool.exists_bool, -Int.not_le, -Int.not_lt, -getElem?_pos, -List.getD_eq_getElem?_getD, Tryz.f12]
  refine WP.loop mixed [] (fun i : Nat => ⟨tl [(0, Rs (markP n m)), (1, I (m + 2 * i)), (5, I i)], hl [], 1⟩) (fun i => i ≤ n) (fun i => n - i) 0 (by kernel_rfl) ?_ ?_ ?_
  · refine Le.told [] ?_ ?_ ?_ <;> simp [-Bool.exists_bool, -Int.not_le, -Int.not_lt, -getElem?_pos, -List.getD_eq_getElem?_getD]
  · simp [-Bool.exists_bool, -Int.not_le, -Int.not_lt, -getElem?_pos, -List.getD_eq_getElem?_getD]
  · intro i hi
    have hl := markP_len n m
    by_cases h : i < n
    · have hg : nth (markP n m) i = (m + 2 * i, m + 2 * i + 1) := by
        rw [nth_eq (by rw [hl]; exact h)]
        simp [-Bool.exists_bool, -Int.not_le, -Int.not_lt, -getElem?_pos, -List.getD_eq_getElem?_getD, markP]
      have h' : i < (markP n m).length := by rw [hl]; exact h
      have g1 : (nth (markP n m) i).1 = m + 2 * i := by rw [hg]
      have g2 : (nth (markP n m) i).2 = m + 2 * i + 1 := by rw [hg]
      have w1 : IntKind.wrap .i64 (m + 2 * (i : Int) + 1) = m + 2 * i + 1 := wr (by omega) (by omega)
      simp -implicitDefEqProofs -dsimp +contextual [-Bool.exists_bool, -Int.not_le, -Int.not_lt, -getElem?_pos, -List.getD_eq_getElem?_getD, h', g1, g2, w1]
      refine ⟨i + 1, h, by omega, ?_⟩
      rw [wr (by omega) (by omega), wr (by omega) (by omega)]
      refine Le.told [] ?_ ?_ ?_ <;> simp [-Bool.exists_bool, -Int.not_le, -Int.not_lt, -getElem?_pos, -List.getD_eq_getElem?_getD]
      omega
    · simp -implicitDefEqProofs -dsimp +contextual [-Bool.exists_bool, -Int.not_le, -Int.not_lt, -getElem?_pos, -List.getD_eq_getElem?_getD, h, hl]
      obtain rfl : i = n := by omega
      exact RLe.pure 1 (by simp [-Bool.exists_bool, -Int.not_le, -Int.not_lt, -getElem?_pos, -List.getD_eq_getElem?_getD])
end Go.Proofs.YtkicjflhokckgaaGreat.ZL
namespace Go.Proofs.YtkicjflhokckgaaGreat.ZL
open Go Go.Proofs.YtkicjflhokckgaaGreat.Abs Go.Proofs.YtkicjflhokckgaaGreat.Abs.Pl Go.RowKit Go.Proofs
set_option linter.unusedVariables false
set_option linter.unusedSimpArgs false
set_option maxRecDepth 100000
theorem callMarkP {N nx s : Nat} {H : Store} {K : Eff → Prop} (k0 : Key) (l : List (Int × Int)) (m : Int) (hm : 0 ≤ m ∧ m ≤ 1000000000000) (h20 : l.length ≤ 1048576) (hH : H k0 = some (rowP l)) (hs : k0.1 ≠ s) (hn : k0.1 < nx)
    (hk : K ⟨I (m + 2 * l.length), [k0], [k0], up1 k0 (some (rowP (markP l.length m))) noUp⟩) : CallJ Tryz.prog N nx s H 11 [.ref k0 l.length, I m] K := by
  have hup : upMut (fun _ => k0) (fun k => if k = k0 then some 0 else none) s (hl [((0, 1), rowP (markP l.length m))]) = up1 k0 (some (rowP (markP l.length m))) noUp := by
    funext k
    unfold upMut up1
    by_cases h1 : k = k0
    · subst h1
      rw [if_neg hs, if_pos rfl]
      simp [-Bool.exists_bool, -Int.not_le, -Int.not_lt, -getElem?_pos, -List.getD_eq_getElem?_getD, rowP, mapE]
    · rw [if_neg h1]
      simp [-Bool.exists_bool, -Int.not_le, -Int.not_lt, -getElem?_pos, -List.getD_eq_getElem?_getD, h1, noUp]
  rw [← hup] at hk
  refine CallJ.mut (fun _ => k0) (fun k => if k = k0 then some 0 else none) [k0] [] (markRatioS l m hm h20) ?_ ?_ ?_ ?_ ?_ ?_ ?_ ?_ (by simpa [-Bool.exists_bool, -Int.not_le, -Int.not_lt, -getElem?_pos, -List.getD_eq_getElem?_getD] using hk)
  · simp [-Bool.exists_bool, -Int.not_le, -Int.not_lt, -getElem?_pos, -List.getD_eq_getElem?_getD, gk]
  · simp [-Bool.exists_bool, -Int.not_le, -Int.not_lt, -getElem?_pos, -List.getD_eq_getElem?_getD, allKs, allK]
  · rintro k rfl; simp [-Bool.exists_bool, -Int.not_le, -Int.not_lt, -getElem?_pos, -List.getD_eq_getElem?_getD, hH]
  · intro k e h
    simp [-Bool.exists_bool, -Int.not_le, -Int.not_lt, -getElem?_pos, -List.getD_eq_getElem?_getD] at h
    obtain ⟨rfl, rfl⟩ := h
    simp [-Bool.exists_bool, -Int.not_le, -Int.not_lt, -getElem?_pos, -List.getD_eq_getElem?_getD, hH, rowP, mapE, allKE]
  · intro k j h
    simp [-Bool.exists_bool, -Int.not_le, -Int.not_lt, -getElem?_pos, -List.getD_eq_getElem?_getD] at h
    obtain ⟨rfl, rfl⟩ := h
    simp [-Bool.exists_bool, -Int.not_le, -Int.not_lt, -getElem?_pos, -List.getD_eq_getElem?_getD]
  · simp [-Bool.exists_bool, -Int.not_le, -Int.not_lt, -getElem?_pos, -List.getD_eq_getElem?_getD]
  · intro k e h
    simp [-Bool.exists_bool, -Int.not_le, -Int.not_lt, -getElem?_pos, -List.getD_eq_getElem?_getD] at h
    obtain ⟨rfl, rfl⟩ := h
    simp [-Bool.exists_bool, -Int.not_le, -Int.not_lt, -getElem?_pos, -List.getD_eq_getElem?_getD]
  · simp [-Bool.exists_bool, -Int.not_le, -Int.not_lt, -getElem?_pos, -List.getD_eq_getElem?_getD, hH, hn]
def HasP (H : Store) (s : Nat) (p : List (Int × Int)) : Prop := H (s, 0) = some (rowP p)
section
variable {H : Store} {s : Nat} {p : List (Int × Int)}
theorem HasP.set (h : HasP H s p) {k : Key} {e : Option Ent} (hk : k.1 ≠ s) : HasP (setH k e H) s p := by
  have : ¬ (s, 0) = k := fun j => hk (by rw [← j])
  unfold HasP setH
  rw [if_neg this]; exact h
theorem HasP.other (h : HasP H s p) {s' : Nat} {R : List At} (hk : s ≠ s') : HasP (app (upCall s' (ownR R)) H) s p := by
  unfold HasP
  rw [upOwn_ne _ _ _ _ _ hk]; exact h
theorem HasP.otherM (h : HasP H s p) {s' o : Nat} {R : List At} (hk : s ≠ s') : HasP (app (upMark s' o R) H) s p := by
  unfold HasP
  rw [upMark_ne _ _ _ _ _ hk]; exact h
theorem HasP.here : HasP (setH (s, 0) (some (.row 50 p.length (dl (rsD p)))) H) s p := by
  unfold HasP setH
  rw [if_pos rfl]; rfl
theorem HasP.here' : HasP (setH (s, 0) (some (rowP p)) H) s p := by
  unfold HasP setH
  rw [if_pos rfl]
theorem HasP.eq {N nx t : Nat} {K : Eff → Prop} (h : HasP H s p) (h20 : p.length ≤ 1048576) (hn : s < nx) (hk : K ⟨B true, [(s, 0)], [], noUp⟩) : CallJ Tryz.prog N nx t H 8 [.ref (s, 0) p.length, Rs p] K := by
  refine CallJ.lent (ks := [(s, 0)]) 2 (eqRatioS p h20) ?_ (fun k hk => .inl (by rw [List.mem_singleton.1 hk]; exact hn)) rfl (by simp [-Bool.exists_bool, -Int.not_le, -Int.not_lt, -getElem?_pos, -List.getD_eq_getElem?_getD]) ?_
  · have h' : H (s, 0) = some (.row 50 p.length (dl (rsD p))) := h
    simp [-Bool.exists_bool, -Int.not_le, -Int.not_lt, -getElem?_pos, -List.getD_eq_getElem?_getD, lendVs, lendV, h']
  · rw [upCall_emp]; exact hk
theorem HasP.held {N nx t n : Nat} {m : Int} {K : Eff → Prop} (h : HasP H s (markP n m)) (hm : 0 ≤ m ∧ m ≤ 1000000000000) (h20 : n ≤ 1048576) (hn : s < nx) (hk : K ⟨I (m + 2 * n), [(s, 0)], [], noUp⟩) : CallJ Tryz.prog N nx t H 12 [.ref (s, 0) n, I m] K := by
  refine CallJ.lent (ks := [(s, 0)]) 2 (heldRatioS n m hm h20) ?_ (fun k hk => .inl (by rw [List.mem_singleton.1 hk]; exact hn)) rfl (by simp [-Bool.exists_bool, -Int.not_le, -Int.not_lt, -getElem?_pos, -List.getD_eq_getElem?_getD]) ?_
  · have h' : H (s, 0) = some (.row 50 (markP n m).length (dl (rsD (markP n m)))) := h
    rw [markP_len] at h'
    simp [-Bool.exists_bool, -Int.not_le, -Int.not_lt, -getElem?_pos, -List.getD_eq_getElem?_getD, lendVs, lendV, h', markP_len]
  · rw [upCall_emp]; exact hk
end
theorem witD_nil {d : Int} {L : List At} : (witD d L).2 ≠ 0 → (witD d L).1 = [] := by
  unfold witD
  cases projs d L with
  | none => intro _; rfl
  | some Z =>
    dsimp only
    split
    · intro _; rfl
    · cases witGo bI Z d.toNat [] with
      | none => intro _; rfl
      | some p => intro h; exact absurd rfl h
theorem witD_len (d : Int) (L : List At) : (witD d L).1.length ≤ 4 := by
  by_cases h : (witD d L).2 = 0
  · obtain ⟨h1, h2, _⟩ := witD_found h
    have := isCe_d h1
    omega
  · rw [witD_nil h]; simp [-Bool.exists_bool, -Int.not_le, -Int.not_lt, -getElem?_pos, -List.getD_eq_getElem?_getD]
theorem markRatio0 (m : Int) : Cn Tryz.prog 11 [Rs [], I m] (I m) hemp := by
  refine Cn.of [] mixed Tryz.func11 rfl Tryz.call11 (by kernel_rfl) rfl ?_
  simp -implicitDefEqProofs -dsimp +contextual [-Bool.exists_bool, -Int.not_le, -Int.not_lt, -getElem?_pos, -List.getD_eq_getElem?_getD, Tryz.f11]
  refine WP.loop mixed [] (fun i : Nat => ⟨tl [(0, Rs []), (1, I m), (5, I 0)], hl [], 1⟩) (fun i => i ≤ 0) (fun i => 0 - i) 0 (by kernel_rfl) ?_ ?_ ?_
  · refine Le.told [] ?_ ?_ ?_ <;> simp [-Bool.exists_bool, -Int.not_le, -Int.not_lt, -getElem?_pos, -List.getD_eq_getElem?_getD]
  · simp [-Bool.exists_bool, -Int.not_le, -Int.not_lt, -getElem?_pos, -List.getD_eq_getElem?_getD]
  · intro i hi
    simp -implicitDefEqProofs -dsimp +contextual [-Bool.exists_bool, -Int.not_le, -Int.not_lt, -getElem?_pos, -List.getD_eq_getElem?_getD]
    exact RLe.pure 1 (by simp [-Bool.exists_bool, -Int.not_le, -Int.not_lt, -getElem?_pos, -List.getD_eq_getElem?_getD])
theorem lawWitnessOf (c : Ce) (w_c : wfC c) : Cn Tryz.prog 3 [.agg (cV c)] (B true) hemp := by
  refine Cn.of [] mixed Tryz.func3 rfl Tryz.call3 (by kernel_rfl) rfl ?_
  simp -implicitDefEqProofs -dsimp +contextual [-Bool.exists_bool, -Int.not_le, -Int.not_lt, -getElem?_pos, -List.getD_eq_getElem?_getD, Tryz.f3]
  refine CallJ.pure (szCell c 1048576 ok20 w_c) rfl (by simp [-Bool.exists_bool, -Int.not_le, -Int.not_lt, -getElem?_pos, -List.getD_eq_getElem?_getD]) ?_
  simp -implicitDefEqProofs -dsimp +contextual [-Bool.exists_bool, -Int.not_le, -Int.not_lt, -getElem?_pos, -List.getD_eq_getElem?_getD]
  refine ⟨fun _ => RLe.bb rfl, fun h_c => ?_⟩
  obtain ⟨w1_c, k_c⟩ := lft_2 ok20 h_c
  obtain ⟨l_c, d_c⟩ := wAs_small w1_c
  refine CallJ.pure (toCellW c l_c d_c) rfl (by simp [-Bool.exists_bool, -Int.not_le, -Int.not_lt, -getElem?_pos, -List.getD_eq_getElem?_getD]) ?_
  simp -implicitDefEqProofs -dsimp +contextual [-Bool.exists_bool, -Int.not_le, -Int.not_lt, -getElem?_pos, -List.getD_eq_getElem?_getD, h_c]
  refine CallJ.pure (WitnessOf c.1 c.2 l_c) rfl (by simp [-Bool.exists_bool, -Int.not_le, -Int.not_lt, -getElem?_pos, -List.getD_eq_getElem?_getD]) ?_
  simp -implicitDefEqProofs -dsimp +contextual [-Bool.exists_bool, -Int.not_le, -Int.not_lt, -getElem?_pos, -List.getD_eq_getElem?_getD, h_c]
  refine CallJ.pure (toCell c l_c d_c) rfl (by simp [-Bool.exists_bool, -Int.not_le, -Int.not_lt, -getElem?_pos, -List.getD_eq_getElem?_getD]) ?_
  simp -implicitDefEqProofs -dsimp +contextual [-Bool.exists_bool, -Int.not_le, -Int.not_lt, -getElem?_pos, -List.getD_eq_getElem?_getD, h_c]
  have hL := iWitnessOf c.1 c.2 l_c
  have hW := iWitnessOfW c.1 c.2 l_c
  have hlen := witD_len c.1 c.2
  have hnil := witD_nil (d := c.1) (L := c.2)
  generalize witD c.1 c.2 = r at *
  obtain ⟨p, n⟩ := r
  simp only at hlen hnil
  have hI_c := Small.input w1_c
  have n_c := nxtS_w c.2 (1)
  have g_c := nxtS_le c.2 (1)
  change wAs c.2 ≤ 1048576 at w1_c
  have q2 : ¬ nxtS c.2 (1) < 0 := by omega
  by_cases hr : n = 0
  · subst hr
    have eV : wV (p, 0) = V.tup [.ref (0, 0) p.length, I 0] := if_pos rfl
    have eH : wH (p, 0) = hl [((0, 0), .row 50 p.length (dl (rsD p)))] := if_pos rfl
    rw [eV, eH] at hL
    refine CallJ.lent (ks := famK 18 0 c.2.length) 2 hL ?_ ?_ (by simp [-Bool.exists_bool, -Int.not_le, -Int.not_lt, -getElem?_pos, -List.getD_eq_getElem?_getD, noSh, noShL, noShD]) ?_ ?_
    · refine lends1 (c1 := c) ?_
      · repeat first | exact Owns.mark _ _ _ | exact Owns.call _ _ _ | refine Owns.set ?_ (by simp [-Bool.exists_bool, -Int.not_le, -Int.not_lt, -getElem?_pos, -List.getD_eq_getElem?_getD]) | refine Owns.other ?_ (by simp [-Bool.exists_bool, -Int.not_le, -Int.not_lt, -getElem?_pos, -List.getD_eq_getElem?_getD]) | refine Owns.otherM ?_ (by simp [-Bool.exists_bool, -Int.not_le, -Int.not_lt, -getElem?_pos, -List.getD_eq_getElem?_getD])
    · intro k hk
      exact .inl (famK_lt (by omega) k hk)
    · intro k e h
      simp [-Bool.exists_bool, -Int.not_le, -Int.not_lt, -getElem?_pos, -List.getD_eq_getElem?_getD] at h
      obtain ⟨rfl, rfl⟩ := h
      simp only [noShE, noShL_all, List.all_eq_true]
      intro x hx
      obtain ⟨y, _, rfl⟩ := List.mem_map.1 hx
      have : ∀ L : List (Int × Int), ∀ y ∈ rsD L, noShD y = true := by
        intro L
        induction L with
        | nil => intro y hy; cases hy
        | cons a L ih =>
          intro y hy
          rw [rsD_cons] at hy
          rcases List.mem_append.1 hy with hy | hy
          · simp [-Bool.exists_bool, -Int.not_le, -Int.not_lt, -getElem?_pos, -List.getD_eq_getElem?_getD, rD] at hy
            rcases hy with rfl | rfl <;> rfl
          · exact ih y hy
      exact this p y (by assumption)
    simp -implicitDefEqProofs -dsimp +contextual [-Bool.exists_bool, -Int.not_le, -Int.not_lt, -getElem?_pos, -List.getD_eq_getElem?_getD, h_c, q2]
    refine HasP.eq (s := 22) (p := p) ?_ (by omega) (by omega) ?_
    · repeat first | exact HasP.here | exact HasP.here' | refine HasP.set ?_ (by simp [-Bool.exists_bool, -Int.not_le, -Int.not_lt, -getElem?_pos, -List.getD_eq_getElem?_getD]) | refine HasP.other ?_ (by simp [-Bool.exists_bool, -Int.not_le, -Int.not_lt, -getElem?_pos, -List.getD_eq_getElem?_getD]) | refine HasP.otherM ?_ (by simp [-Bool.exists_bool, -Int.not_le, -Int.not_lt, -getElem?_pos, -List.getD_eq_getElem?_getD])
    simp -implicitDefEqProofs -dsimp +contextual [-Bool.exists_bool, -Int.not_le, -Int.not_lt, -getElem?_pos, -List.getD_eq_getElem?_getD, h_c, q2]
    refine CallJ.pure (toCellW c l_c d_c) rfl (by simp [-Bool.exists_bool, -Int.not_le, -Int.not_lt, -getElem?_pos, -List.getD_eq_getElem?_getD]) ?_
    simp -implicitDefEqProofs -dsimp +contextual [-Bool.exists_bool, -Int.not_le, -Int.not_lt, -getElem?_pos, -List.getD_eq_getElem?_getD, h_c, q2]
    refine Owns.eqCell (s := 18) (L := c.2) ?_ c.1 l_c d_c ?_ ?_
    · repeat first | exact Owns.mark _ _ _ | exact Owns.call _ _ _ | refine Owns.set ?_ (by simp [-Bool.exists_bool, -Int.not_le, -Int.not_lt, -getElem?_pos, -List.getD_eq_getElem?_getD]) | refine Owns.other ?_ (by simp [-Bool.exists_bool, -Int.not_le, -Int.not_lt, -getElem?_pos, -List.getD_eq_getElem?_getD]) | refine Owns.otherM ?_ (by simp [-Bool.exists_bool, -Int.not_le, -Int.not_lt, -getElem?_pos, -List.getD_eq_getElem?_getD])
    · omega
    simp -implicitDefEqProofs -dsimp +contextual [-Bool.exists_bool, -Int.not_le, -Int.not_lt, -getElem?_pos, -List.getD_eq_getElem?_getD, h_c, q2]
    refine Owns.marks (s := 18) (L := c.2) ?_ c.1 (1) ⟨by omega, by omega⟩ l_c d_c ?_ ?_ ?_
    · repeat first | exact Owns.mark _ _ _ | exact Owns.call _ _ _ | refine Owns.set ?_ (by simp [-Bool.exists_bool, -Int.not_le, -Int.not_lt, -getElem?_pos, -List.getD_eq_getElem?_getD]) | refine Owns.other ?_ (by simp [-Bool.exists_bool, -Int.not_le, -Int.not_lt, -getElem?_pos, -List.getD_eq_getElem?_getD]) | refine Owns.otherM ?_ (by simp [-Bool.exists_bool, -Int.not_le, -Int.not_lt, -getElem?_pos, -List.getD_eq_getElem?_getD])
    · omega
    · omega
    simp -implicitDefEqProofs -dsimp +contextual [-Bool.exists_bool, -Int.not_le, -Int.not_lt, -getElem?_pos, -List.getD_eq_getElem?_getD, h_c, q2]
    refine HasP.eq (s := 22) (p := p) ?_ (by omega) (by omega) ?_
    · repeat first | exact HasP.here | exact HasP.here' | refine HasP.set ?_ (by simp [-Bool.exists_bool, -Int.not_le, -Int.not_lt, -getElem?_pos, -List.getD_eq_getElem?_getD]) | refine HasP.other ?_ (by simp [-Bool.exists_bool, -Int.not_le, -Int.not_lt, -getElem?_pos, -List.getD_eq_getElem?_getD]) | refine HasP.otherM ?_ (by simp [-Bool.exists_bool, -Int.not_le, -Int.not_lt, -getElem?_pos, -List.getD_eq_getElem?_getD])
    simp -implicitDefEqProofs -dsimp +contextual [-Bool.exists_bool, -Int.not_le, -Int.not_lt, -getElem?_pos, -List.getD_eq_getElem?_getD, h_c, q2]
    refine callMarkP (22, 0) p 1 (by omega) (by omega) ?_ (by simp [-Bool.exists_bool, -Int.not_le, -Int.not_lt, -getElem?_pos, -List.getD_eq_getElem?_getD]) (by simp [-Bool.exists_bool, -Int.not_le, -Int.not_lt, -getElem?_pos, -List.getD_eq_getElem?_getD]) ?_
    · show HasP _ 22 p
      repeat first | exact HasP.here | exact HasP.here' | refine HasP.set ?_ (by simp [-Bool.exists_bool, -Int.not_le, -Int.not_lt, -getElem?_pos, -List.getD_eq_getElem?_getD]) | refine HasP.other ?_ (by simp [-Bool.exists_bool, -Int.not_le, -Int.not_lt, -getElem?_pos, -List.getD_eq_getElem?_getD]) | refine HasP.otherM ?_ (by simp [-Bool.exists_bool, -Int.not_le, -Int.not_lt, -getElem?_pos, -List.getD_eq_getElem?_getD])
    simp -implicitDefEqProofs -dsimp +contextual [-Bool.exists_bool, -Int.not_le, -Int.not_lt, -getElem?_pos, -List.getD_eq_getElem?_getD, h_c, q2]
    have q3 : ¬ (1 + 2 * (p.length : Int) < 0) := by omega
    refine HasP.held (s := 22) (n := p.length) (m := 1) ?_ (by omega) (by omega) (by omega) ?_
    · repeat first | exact HasP.here | exact HasP.here' | refine HasP.set ?_ (by simp [-Bool.exists_bool, -Int.not_le, -Int.not_lt, -getElem?_pos, -List.getD_eq_getElem?_getD]) | refine HasP.other ?_ (by simp [-Bool.exists_bool, -Int.not_le, -Int.not_lt, -getElem?_pos, -List.getD_eq_getElem?_getD]) | refine HasP.otherM ?_ (by simp [-Bool.exists_bool, -Int.not_le, -Int.not_lt, -getElem?_pos, -List.getD_eq_getElem?_getD])
    simp -implicitDefEqProofs -dsimp +contextual [-Bool.exists_bool, -Int.not_le, -Int.not_lt, -getElem?_pos, -List.getD_eq_getElem?_getD, h_c, q2, q3]
    refine CallJ.pure (toCellW c l_c d_c) rfl (by simp [-Bool.exists_bool, -Int.not_le, -Int.not_lt, -getElem?_pos, -List.getD_eq_getElem?_getD]) ?_
    simp -implicitDefEqProofs -dsimp +contextual [-Bool.exists_bool, -Int.not_le, -Int.not_lt, -getElem?_pos, -List.getD_eq_getElem?_getD, h_c, q2, q3]
    refine CallJ.pure hW rfl (by simp [-Bool.exists_bool, -Int.not_le, -Int.not_lt, -getElem?_pos, -List.getD_eq_getElem?_getD]) ?_
    simp -implicitDefEqProofs -dsimp +contextual [-Bool.exists_bool, -Int.not_le, -Int.not_lt, -getElem?_pos, -List.getD_eq_getElem?_getD, h_c, q2, q3]
    refine CallJ.pure (eqRatioS p (by omega)) rfl (by simp [-Bool.exists_bool, -Int.not_le, -Int.not_lt, -getElem?_pos, -List.getD_eq_getElem?_getD]) ?_
    simp -implicitDefEqProofs -dsimp +contextual [-Bool.exists_bool, -Int.not_le, -Int.not_lt, -getElem?_pos, -List.getD_eq_getElem?_getD, h_c, q2, q3]
    refine HasP.held (s := 22) (n := p.length) (m := 1) ?_ (by omega) (by omega) (by omega) ?_
    · repeat first | exact HasP.here | exact HasP.here' | refine HasP.set ?_ (by simp [-Bool.exists_bool, -Int.not_le, -Int.not_lt, -getElem?_pos, -List.getD_eq_getElem?_getD]) | refine HasP.other ?_ (by simp [-Bool.exists_bool, -Int.not_le, -Int.not_lt, -getElem?_pos, -List.getD_eq_getElem?_getD]) | refine HasP.otherM ?_ (by simp [-Bool.exists_bool, -Int.not_le, -Int.not_lt, -getElem?_pos, -List.getD_eq_getElem?_getD])
    simp -implicitDefEqProofs -dsimp +contextual [-Bool.exists_bool, -Int.not_le, -Int.not_lt, -getElem?_pos, -List.getD_eq_getElem?_getD, h_c, q2, q3]
    exact RLe.bb rfl
  · have eV : wV (p, n) = V.tup [.nil, I n] := if_neg hr
    have eH : wH (p, n) = hemp := if_neg hr
    rw [eV, eH] at hL
    obtain rfl := hnil hr
    refine CallJ.lent (ks := famK 18 0 c.2.length) 2 hL ?_ ?_ rfl (by simp [-Bool.exists_bool, -Int.not_le, -Int.not_lt, -getElem?_pos, -List.getD_eq_getElem?_getD]) ?_
    · refine lends1 (c1 := c) ?_
      · repeat first | exact Owns.mark _ _ _ | exact Owns.call _ _ _ | refine Owns.set ?_ (by simp [-Bool.exists_bool, -Int.not_le, -Int.not_lt, -getElem?_pos, -List.getD_eq_getElem?_getD]) | refine Owns.other ?_ (by simp [-Bool.exists_bool, -Int.not_le, -Int.not_lt, -getElem?_pos, -List.getD_eq_getElem?_getD]) | refine Owns.otherM ?_ (by simp [-Bool.exists_bool, -Int.not_le, -Int.not_lt, -getElem?_pos, -List.getD_eq_getElem?_getD])
    · intro k hk
      exact .inl (famK_lt (by omega) k hk)
    simp -implicitDefEqProofs -dsimp +contextual [-Bool.exists_bool, -Int.not_le, -Int.not_lt, -getElem?_pos, -List.getD_eq_getElem?_getD, h_c, q2]
    refine CallJ.pure (ks := []) (eqRatioS [] (by simp [-Bool.exists_bool, -Int.not_le, -Int.not_lt, -getElem?_pos, -List.getD_eq_getElem?_getD])) (by simp [-Bool.exists_bool, -Int.not_le, -Int.not_lt, -getElem?_pos, -List.getD_eq_getElem?_getD]) (by simp [-Bool.exists_bool, -Int.not_le, -Int.not_lt, -getElem?_pos, -List.getD_eq_getElem?_getD]) ?_
    simp -implicitDefEqProofs -dsimp +contextual [-Bool.exists_bool, -Int.not_le, -Int.not_lt, -getElem?_pos, -List.getD_eq_getElem?_getD, h_c, q2]
    refine CallJ.pure (toCellW c l_c d_c) rfl (by simp [-Bool.exists_bool, -Int.not_le, -Int.not_lt, -getElem?_pos, -List.getD_eq_getElem?_getD]) ?_
    simp -implicitDefEqProofs -dsimp +contextual [-Bool.exists_bool, -Int.not_le, -Int.not_lt, -getElem?_pos, -List.getD_eq_getElem?_getD, h_c, q2]
    refine Owns.eqCell (s := 18) (L := c.2) ?_ c.1 l_c d_c ?_ ?_
    · repeat first | exact Owns.mark _ _ _ | exact Owns.call _ _ _ | refine Owns.set ?_ (by simp [-Bool.exists_bool, -Int.not_le, -Int.not_lt, -getElem?_pos, -List.getD_eq_getElem?_getD]) | refine Owns.other ?_ (by simp [-Bool.exists_bool, -Int.not_le, -Int.not_lt, -getElem?_pos, -List.getD_eq_getElem?_getD]) | refine Owns.otherM ?_ (by simp [-Bool.exists_bool, -Int.not_le, -Int.not_lt, -getElem?_pos, -List.getD_eq_getElem?_getD])
    · omega
    simp -implicitDefEqProofs -dsimp +contextual [-Bool.exists_bool, -Int.not_le, -Int.not_lt, -getElem?_pos, -List.getD_eq_getElem?_getD, h_c, q2]
    refine Owns.marks (s := 18) (L := c.2) ?_ c.1 (1) ⟨by omega, by omega⟩ l_c d_c ?_ ?_ ?_
    · repeat first | exact Owns.mark _ _ _ | exact Owns.call _ _ _ | refine Owns.set ?_ (by simp [-Bool.exists_bool, -Int.not_le, -Int.not_lt, -getElem?_pos, -List.getD_eq_getElem?_getD]) | refine Owns.other ?_ (by simp [-Bool.exists_bool, -Int.not_le, -Int.not_lt, -getElem?_pos, -List.getD_eq_getElem?_getD]) | refine Owns.otherM ?_ (by simp [-Bool.exists_bool, -Int.not_le, -Int.not_lt, -getElem?_pos, -List.getD_eq_getElem?_getD])
    · omega
    · omega
    simp -implicitDefEqProofs -dsimp +contextual [-Bool.exists_bool, -Int.not_le, -Int.not_lt, -getElem?_pos, -List.getD_eq_getElem?_getD, h_c, q2]
    refine CallJ.pure (ks := []) (eqRatioS [] (by simp [-Bool.exists_bool, -Int.not_le, -Int.not_lt, -getElem?_pos, -List.getD_eq_getElem?_getD])) (by simp [-Bool.exists_bool, -Int.not_le, -Int.not_lt, -getElem?_pos, -List.getD_eq_getElem?_getD]) (by simp [-Bool.exists_bool, -Int.not_le, -Int.not_lt, -getElem?_pos, -List.getD_eq_getElem?_getD]) ?_
    simp -implicitDefEqProofs -dsimp +contextual [-Bool.exists_bool, -Int.not_le, -Int.not_lt, -getElem?_pos, -List.getD_eq_getElem?_getD, h_c, q2]
    refine CallJ.pure (ks := []) (markRatio0 1) (by simp [-Bool.exists_bool, -Int.not_le, -Int.not_lt, -getElem?_pos, -List.getD_eq_getElem?_getD]) (by simp [-Bool.exists_bool, -Int.not_le, -Int.not_lt, -getElem?_pos, -List.getD_eq_getElem?_getD]) ?_
    simp -implicitDefEqProofs -dsimp +contextual [-Bool.exists_bool, -Int.not_le, -Int.not_lt, -getElem?_pos, -List.getD_eq_getElem?_getD, h_c, q2]
    refine CallJ.pure (ks := []) (heldRatioS 0 1 (by omega) (by omega)) (by simp [-Bool.exists_bool, -Int.not_le, -Int.not_lt, -getElem?_pos, -List.getD_eq_getElem?_getD, markP]) (by simp [-Bool.exists_bool, -Int.not_le, -Int.not_lt, -getElem?_pos, -List.getD_eq_getElem?_getD]) ?_
    simp -implicitDefEqProofs -dsimp +contextual [-Bool.exists_bool, -Int.not_le, -Int.not_lt, -getElem?_pos, -List.getD_eq_getElem?_getD, h_c, q2]
    refine CallJ.pure (toCellW c l_c d_c) rfl (by simp [-Bool.exists_bool, -Int.not_le, -Int.not_lt, -getElem?_pos, -List.getD_eq_getElem?_getD]) ?_
    simp -implicitDefEqProofs -dsimp +contextual [-Bool.exists_bool, -Int.not_le, -Int.not_lt, -getElem?_pos, -List.getD_eq_getElem?_getD, h_c, q2]
    refine CallJ.pure hW rfl (by simp [-Bool.exists_bool, -Int.not_le, -Int.not_lt, -getElem?_pos, -List.getD_eq_getElem?_getD]) ?_
    simp -implicitDefEqProofs -dsimp +contextual [-Bool.exists_bool, -Int.not_le, -Int.not_lt, -getElem?_pos, -List.getD_eq_getElem?_getD, h_c, q2]
    refine CallJ.pure (eqRatioS [] (by simp [-Bool.exists_bool, -Int.not_le, -Int.not_lt, -getElem?_pos, -List.getD_eq_getElem?_getD])) rfl (by simp [-Bool.exists_bool, -Int.not_le, -Int.not_lt, -getElem?_pos, -List.getD_eq_getElem?_getD]) ?_
    simp -implicitDefEqProofs -dsimp +contextual [-Bool.exists_bool, -Int.not_le, -Int.not_lt, -getElem?_pos, -List.getD_eq_getElem?_getD, h_c, q2]
    refine CallJ.pure (ks := []) (heldRatioS 0 1 (by omega) (by omega)) (by simp [-Bool.exists_bool, -Int.not_le, -Int.not_lt, -getElem?_pos, -List.getD_eq_getElem?_getD, markP]) (by simp [-Bool.exists_bool, -Int.not_le, -Int.not_lt, -getElem?_pos, -List.getD_eq_getElem?_getD]) ?_
    simp -implicitDefEqProofs -dsimp +contextual [-Bool.exists_bool, -Int.not_le, -Int.not_lt, -getElem?_pos, -List.getD_eq_getElem?_getD, h_c, q2]
    exact RLe.bb rfl
end Go.Proofs.YtkicjflhokckgaaGreat.ZL
