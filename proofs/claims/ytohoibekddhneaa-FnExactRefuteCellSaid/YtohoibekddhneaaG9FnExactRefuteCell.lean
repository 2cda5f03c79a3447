/- Texts of the abs road (plain values, what code does to them, and the contracts of the functions that the law reaches). No condition. -/
import Derived.Test.YtohoibekddhneaaG8FnExactRefuteCell
import Derived.Shelf.Spec.SlicesGrow
import Derived.Test.YtohoibekddhneaaProg
namespace Go.Proofs
open Go.Shelf
end Go.Proofs
namespace Go.Proofs.Ytohoibekddhneaa.ZL
open Go Go.Proofs.Ytohoibekddhneaa.Abs Go.Proofs.Ytohoibekddhneaa.Abs.Pl Go.RowKit Go.Proofs
set_option linter.unusedVariables false
set_option linter.unusedSimpArgs false
end Go.Proofs.Ytohoibekddhneaa.ZL
namespace Go.Proofs.Ytohoibekddhneaa.ZL
open Go Go.Proofs.Ytohoibekddhneaa.Abs Go.Proofs.Ytohoibekddhneaa.Abs.Pl Go.RowKit Go.Proofs
set_option linter.unusedVariables false
set_option linter.unusedSimpArgs false
theorem negAt_t {a : At} (h : isAt a.1 a.2.1 = true) : negAt a.1 a.2.1 a.2.2 = (a.1.map (- ·), -a.2.1, !a.2.2, true) := if_pos h
theorem negAt_f {a : At} (h : isAt a.1 a.2.1 = false) : negAt a.1 a.2.1 a.2.2 = noAt := if_neg (by rw [h]; simp [-Bool.exists_bool, -Int.not_le, -Int.not_lt, -getElem?_pos, -List.getD_eq_getElem?_getD])
def negs (l : List Int) (i : Nat) : List Int := (l.take i).map (- ·) ++ List.replicate (l.length - i) 0
theorem negs_len (l : List Int) (i : Nat) (h : i ≤ l.length) : (negs l i).length = l.length := by simp [-Bool.exists_bool, -Int.not_le, -Int.not_lt, -getElem?_pos, -List.getD_eq_getElem?_getD, negs]; omega
theorem negs_set (l : List Int) (i : Nat) (h : i < l.length) : (negs l i).set i (-nth l i) = negs l (i + 1) := by
  have e : l.length - i = (l.length - (i + 1)) + 1 := by omega
  unfold negs
  rw [e, List.replicate_succ, nth_take h, List.set_append_right _ _ (by simp [-Bool.exists_bool, -Int.not_le, -Int.not_lt, -getElem?_pos, -List.getD_eq_getElem?_getD]; omega)]
  simp [-Bool.exists_bool, -Int.not_le, -Int.not_lt, -getElem?_pos, -List.getD_eq_getElem?_getD, Nat.min_eq_left (Nat.le_of_lt h)]
theorem _root_.Go.Proofs.Ytohoibekddhneaa.Abs.CallJ.same {P : Program} {N nx s f : Nat} {H : Store} {vs : List V} {r : V} {Hr : Store} {K : Eff → Prop} (h : Cn P f vs r Hr) (ha : allKs (fun _ => False) vs)
    (hk : K ⟨mapK (atS s) r, [], [], upCall s Hr⟩) : CallJ P N nx s H f vs K := by
  refine ⟨_, hk, h.enter, upCall_ups, fun k hk => absurd hk (by simp [-Bool.exists_bool, -Int.not_le, -Int.not_lt, -getElem?_pos, -List.getD_eq_getElem?_getD]), fun k hk => absurd hk (by simp [-Bool.exists_bool, -Int.not_le, -Int.not_lt, -getElem?_pos, -List.getD_eq_getElem?_getD]), fun {w0 F0 E0 fr T Hc a w M F us dst} hfr hat hden hH hd => ?_⟩
  let Fc : Nat → Prop := fun b => F b ∧ b < w.heap.size
  have hm : DenVs M Fc w vs us.toList := hden.move (fun _ _ h => h) ⟨fun b hb => .inl hb.1, fun _ _ _ => rfl⟩
  refine (h.run w Fc us (fun b hb => hb.2) (DenVs.cong (M := M) (g := fun k => k) (p := fun _ => False) (fun k h => h.elim) ha (by rw [mapL_id]; exact hm))).mono ?_
  rintro e w' ⟨v, M', F', rfl, hFF, hr, hR, hc, hnew, hM0⟩
  refine ⟨v, rfl, hat.called (F2 := fun b => F' b ∧ (F b ∨ w.heap.size ≤ b)) hfr hd hc (fun b hb => hb.2) (fun b h1 h2 => ⟨hFF b ⟨h1, h2⟩, .inl h1⟩) hM0 ?_ ?_ hnew⟩
  · exact hr.move (fun _ _ h => h) ⟨fun b hb => .inl hb.1, fun _ _ _ => rfl⟩
  · refine hR.mono (fun b hb => hb.1) fun k e u b h1 h2 h3 h4 => ⟨?_, .inr (hnew k e u b h1 h2 h3 h4)⟩
    obtain ⟨u', hu', _, hF⟩ := hR.ent k e h1
    rw [h3] at hu'
    obtain rfl := Option.some.inj hu'
    exact hF h2 b h4
def sD (L : List At) : D := .sl L.length (asD L)
abbrev Ss (Ls : List (List At)) : V := .d (.sl Ls.length (Ls.map sD))
theorem Ss_get (Ls : List (List At)) (i : Nat) (h : i < Ls.length) : (Ls.map sD)[i]? = some (sD (nth Ls i)) := by rw [List.getElem?_map, nth_some h]; rfl
def tot : List (List At) → Nat
  | [] => 0
  | L :: Ls => L.length + tot Ls
theorem tot_flat : ∀ Ls : List (List At), Ls.flatten.length = tot Ls
  | [] => rfl
  | L :: Ls => by simp [-Bool.exists_bool, -Int.not_le, -Int.not_lt, -getElem?_pos, -List.getD_eq_getElem?_getD, tot, tot_flat Ls]
theorem tot_drop (Ls : List (List At)) (i : Nat) : tot (Ls.drop i) ≤ tot Ls := by
  induction Ls generalizing i with
  | nil => simp [-Bool.exists_bool, -Int.not_le, -Int.not_lt, -getElem?_pos, -List.getD_eq_getElem?_getD]
  | cons L Ls ih => cases i with
    | zero => exact Nat.le_refl _
    | succ i => have := ih i; simp [-Bool.exists_bool, -Int.not_le, -Int.not_lt, -getElem?_pos, -List.getD_eq_getElem?_getD, tot]; omega
def meetC (a b : Ce) : Int × List At × Bool := if isCe a.1 a.2 = true ∧ isCe b.1 b.2 = true ∧ a.1 = b.1 then limN a.1 (a.2 ++ b.2) else (0, [], false)
theorem meetC_f {a b : Ce} (h : ¬ (meetC a b).2.2 = true) : meetC a b = (0, [], false) := by
  unfold meetC at h ⊢
  split
  · rename_i h2; rw [if_pos h2] at h; exact limN_f h
  · rfl
end Go.Proofs.Ytohoibekddhneaa.ZL
namespace Go.Proofs.Ytohoibekddhneaa.ZL
open Go Go.Proofs.Ytohoibekddhneaa.Abs Go.Proofs.Ytohoibekddhneaa.Abs.Pl Go.RowKit Go.Proofs
set_option linter.unusedVariables false
set_option linter.unusedSimpArgs false
end Go.Proofs.Ytohoibekddhneaa.ZL
namespace Go.Proofs.Ytohoibekddhneaa.ZL
open Go Go.Proofs.Ytohoibekddhneaa.Abs Go.Proofs.Ytohoibekddhneaa.Abs.Pl Go.RowKit Go.Proofs
set_option linter.unusedVariables false
set_option linter.unusedSimpArgs false
theorem toAtomW (a : At) (h : a.1.length ≤ 1048576) : Cn Try.prog 80 [A1 a] (A1 a) hemp := Cn.freeze 2 (toAtom a h) (by simp [-Bool.exists_bool, -Int.not_le, -Int.not_lt, -getElem?_pos, -List.getD_eq_getElem?_getD, lendT, lendV])
def impA (c : Ce) (a : At) : Bool × Bool := if isAt a.1 a.2.1 = true then (if (meetC c (a.1.length, [(a.1.map (- ·), -a.2.1, !a.2.2)])).2.2 = true then emptyC (meetC c (a.1.length, [(a.1.map (- ·), -a.2.1, !a.2.2)])).1 (meetC c (a.1.length, [(a.1.map (- ·), -a.2.1, !a.2.2)])).2.1 else (false, false)) else (false, false)
theorem meetC_16 {a b : Ce} : (meetC a b).2.1.length ≤ 16 := by
  unfold meetC
  split
  · unfold limN; split
    · simp [-Bool.exists_bool, -Int.not_le, -Int.not_lt, -getElem?_pos, -List.getD_eq_getElem?_getD]
    · simp [-Bool.exists_bool, -Int.not_le, -Int.not_lt, -getElem?_pos, -List.getD_eq_getElem?_getD]; omega
  · simp [-Bool.exists_bool, -Int.not_le, -Int.not_lt, -getElem?_pos, -List.getD_eq_getElem?_getD]
theorem lft_2 {k : Int} {n : Nat} (hk : okL k) (h : ¬ lft k n < 0) : n ≤ 1048576 ∧ okL (lft k n) := by
  unfold lft okL at *
  split at h
  · omega
  · rename_i h2; rw [if_neg h2]; omega
end Go.Proofs.Ytohoibekddhneaa.ZL
namespace Go.Proofs.Ytohoibekddhneaa.ZL
open Go Go.Proofs.Ytohoibekddhneaa.Abs Go.Proofs.Ytohoibekddhneaa.Abs.Pl Go.RowKit Go.Proofs
set_option linter.unusedVariables false
set_option linter.unusedSimpArgs false
def covGo (b : Ce) : List At → Bool × Bool
  | [] => (true, true)
  | x :: r => if (impA b x).2 = true ∧ (impA b x).1 = true then covGo b r else (false, (impA b x).2)
def covC (a b : Ce) : Bool × Bool := if isCe a.1 a.2 = true ∧ isCe b.1 b.2 = true ∧ a.1 = b.1 then covGo b a.2 else (false, false)
theorem okA_small {d : Int} {x : At} (h : okA d x) : x.1.length ≤ 1048576 := by have := (okA_num h).2.2; omega
end Go.Proofs.Ytohoibekddhneaa.ZL
namespace Go.Proofs.Ytohoibekddhneaa.ZL
open Go Go.Proofs.Ytohoibekddhneaa.Abs Go.Proofs.Ytohoibekddhneaa.Abs.Pl Go.RowKit Go.Proofs
set_option linter.unusedVariables false
set_option linter.unusedSimpArgs false
def kMe (P : Program) (A : Key → Prop) (H : Store) (r : V) (Hr : Store) (vs : List V) : Prop := RLm P A H (oneV vs) r Hr
section
variable {P : Program} {A : Key → Prop} {H : Store} {r v : V} {Hr : Store} {S : St} {rs : List ResultVar}
theorem retM_ret : retM P rs A r Hr .ret S = resS P S.T S.H rs (kMe P A S.H r Hr) := rfl
theorem kMe_1 : kMe P A H r Hr [v] = RLm P A H v r Hr := rfl
theorem RLm.told {K : List (Key × Ent)} (hv : VLe H (fun k => k) 2 v r) (hr : allK (okKey A) r)
    (hK : allP (fun p : Key × Ent => p.1.1 < 2 ∧ okKey A p.1 ∧ allKE (okKey A) p.2 ∧ entIs (H p.1) fun e => ELe H (fun k => k) 2 e p.2) K) : RLm P A H v r (hl K) :=
  RLm.mk (fun k => k) (fun _ _ => rfl) hv hr (fun k e' hk => by
    obtain ⟨h1, h2, h3, h4⟩ := allP_mem hK _ (hl_mem hk)
    simp only [entIs] at h4
    refine ⟨h1, h2, h3, ?_⟩
    cases hq : H k with
    | none => rw [hq] at h4; exact h4.elim
    | some e => rw [hq] at h4; exact ⟨e, rfl, h4⟩) (fun _ _ _ _ _ _ h => h)
end
theorem allKs_dl (p : Key → Prop) : ∀ cs : List D, allKs p (dl cs)
  | [] => trivial
  | d :: cs => ⟨trivial, allKs_dl p cs⟩
attribute [simp ↓] retM_ret kMe_1
attribute [simp] allKs_dl
def markI (n : Nat) (m : Int) : List Int := (List.range n).map fun i : Nat => m + i
def rowI (l : List Int) : Ent := .row 3 l.length (dl (l.map (.int .i64)))
def curI (l : List Int) (m : Int) (i : Nat) : List Int := markI i m ++ l.drop i
theorem markI_len (n : Nat) (m : Int) : (markI n m).length = n := by simp [-Bool.exists_bool, -Int.not_le, -Int.not_lt, -getElem?_pos, -List.getD_eq_getElem?_getD, markI]
theorem curI_len (l : List Int) (m : Int) (i : Nat) (h : i ≤ l.length) : (curI l m i).length = l.length := by simp [-Bool.exists_bool, -Int.not_le, -Int.not_lt, -getElem?_pos, -List.getD_eq_getElem?_getD, curI, markI_len]; omega
theorem curI_set (l : List Int) (m : Int) (i : Nat) (h : i < l.length) : (curI l m i).set i (m + i) = curI l m (i + 1) := by
  unfold curI
  rw [List.set_append_right _ _ (by rw [markI_len]; exact Nat.le_refl _), markI_len, nth_drop h]
  simp [-Bool.exists_bool, -Int.not_le, -Int.not_lt, -getElem?_pos, -List.getD_eq_getElem?_getD, markI, List.range_succ]
theorem markIntS (l : List Int) (m : Int) (hm : 0 ≤ m ∧ m ≤ 1000000000000) (h20 : l.length ≤ 1048576) : Cm Try.prog 21 (fun k => k = (0, 1)) [.ref (0, 1) l.length, I m] (hl [((0, 1), rowI l)]) (I (m + l.length)) (hl [((0, 1), rowI (markI l.length m))]) := by
  refine Cm.of [] mixed Try.func21 rfl Try.call21 (by kernel_rfl) rfl ?_
  simp -implicitDefEqProofs -dsimp +contextual [-Bool.exists_bool, -Int.not_le, -Int.not_lt, -getElem?_pos, -List.getD_eq_getElem?_getD, Try.f21]
  refine WP.loop mixed [] (fun i : Nat => ⟨tl [(0, .ref (0, 1) l.length), (1, I (m + i)), (5, I i)], hl [((0, 1), .row 3 l.length (dl ((curI l m i).map (.int .i64))))], 2⟩) (fun i => i ≤ l.length) (fun i => l.length - i) 0 (by kernel_rfl) ?_ ?_ ?_
  · refine Le.told [] ?_ ?_ ?_ <;> simp [-Bool.exists_bool, -Int.not_le, -Int.not_lt, -getElem?_pos, -List.getD_eq_getElem?_getD, rowI, curI, markI]
  · simp [-Bool.exists_bool, -Int.not_le, -Int.not_lt, -getElem?_pos, -List.getD_eq_getElem?_getD]
  · intro i hi
    by_cases h : i < l.length
    · have h1 : i + 1 ≤ (curI l m i).length := by rw [curI_len _ _ i hi]; exact h
      simp -implicitDefEqProofs -dsimp +contextual [-Bool.exists_bool, -Int.not_le, -Int.not_lt, -getElem?_pos, -List.getD_eq_getElem?_getD, h, h1]
      refine ⟨i + 1, h, by omega, ?_⟩
      rw [wr (by omega) (by omega), wr (by omega) (by omega)]
      have hs := curI_set l m i h
      refine Le.told [] ?_ ?_ ?_ <;> simp [-Bool.exists_bool, -Int.not_le, -Int.not_lt, -getElem?_pos, -List.getD_eq_getElem?_getD]
      · omega
      · rw [← hs, List.map_set, List.set_eq_take_append_cons_drop, if_pos (by rw [List.length_map]; exact h1)]
    · obtain rfl : i = l.length := by omega
      simp -implicitDefEqProofs -dsimp +contextual [-Bool.exists_bool, -Int.not_le, -Int.not_lt, -getElem?_pos, -List.getD_eq_getElem?_getD, h]
      refine RLm.told ?_ ?_ ?_
      · simp [-Bool.exists_bool, -Int.not_le, -Int.not_lt, -getElem?_pos, -List.getD_eq_getElem?_getD]
      · simp [-Bool.exists_bool, -Int.not_le, -Int.not_lt, -getElem?_pos, -List.getD_eq_getElem?_getD, allK]
      · simp [-Bool.exists_bool, -Int.not_le, -Int.not_lt, -getElem?_pos, -List.getD_eq_getElem?_getD, okKey, allKE, rowI, markI_len, curI]
def markA (a : At) (m : Int) : At := (markI a.1.length m, m + a.1.length, decide ((m + a.1.length + 1).tmod 3 = 0))
def markS : List At → Int → List At
  | [], _ => []
  | a :: L, m => markA a m :: markS L (m + a.1.length + 2)
def nxtS : List At → Int → Int
  | [], m => m
  | a :: L, m => nxtS L (m + a.1.length + 2)
theorem markA_len (a : At) (m : Int) : (markA a m).1.length = a.1.length := markI_len ..
theorem markS_len : ∀ (L : List At) (m : Int), (markS L m).length = L.length
  | [], _ => rfl
  | a :: L, m => by simp [-Bool.exists_bool, -Int.not_le, -Int.not_lt, -getElem?_pos, -List.getD_eq_getElem?_getD, markS, markS_len L]
theorem nxtS_app : ∀ (L M : List At) (m : Int), nxtS (L ++ M) m = nxtS M (nxtS L m)
  | [], M, m => rfl
  | a :: L, M, m => by simp [-Bool.exists_bool, -Int.not_le, -Int.not_lt, -getElem?_pos, -List.getD_eq_getElem?_getD, nxtS, nxtS_app L]
theorem markS_app : ∀ (L M : List At) (m : Int), markS (L ++ M) m = markS L m ++ markS M (nxtS L m)
  | [], M, m => rfl
  | a :: L, M, m => by simp [-Bool.exists_bool, -Int.not_le, -Int.not_lt, -getElem?_pos, -List.getD_eq_getElem?_getD, markS, nxtS, markS_app L]
def curA (L : List At) (m : Int) (i : Nat) : List At := markS (L.take i) m ++ L.drop i
theorem curA_len (L : List At) (m : Int) (i : Nat) (h : i ≤ L.length) : (curA L m i).length = L.length := by simp [-Bool.exists_bool, -Int.not_le, -Int.not_lt, -getElem?_pos, -List.getD_eq_getElem?_getD, curA, markS_len]; omega
theorem curA_set (L : List At) (m : Int) (i : Nat) (h : i < L.length) : (curA L m i).set i (markA (nth L i) (nxtS (L.take i) m)) = curA L m (i + 1) := by
  unfold curA
  have hl : (markS (L.take i) m).length = i := by rw [markS_len]; simp [-Bool.exists_bool, -Int.not_le, -Int.not_lt, -getElem?_pos, -List.getD_eq_getElem?_getD]; omega
  rw [List.set_append_right _ _ (by rw [hl]; exact Nat.le_refl _), hl, nth_drop h, nth_take h, markS_app]
  simp [-Bool.exists_bool, -Int.not_le, -Int.not_lt, -getElem?_pos, -List.getD_eq_getElem?_getD, markS]
theorem curA_nth (L : List At) (m : Int) (i j : Nat) (h : i ≤ j) (hj : j < L.length) : nth (curA L m i) j = nth L j := by
  have hl : (markS (L.take i) m).length = i := by rw [markS_len]; simp [-Bool.exists_bool, -Int.not_le, -Int.not_lt, -getElem?_pos, -List.getD_eq_getElem?_getD]; omega
  rw [nth_eq (by rw [curA_len _ _ _ (by omega)]; exact hj), nth_eq hj]
  unfold curA
  rw [List.getElem_append_right (by rw [hl]; exact h)]
  simp only [hl, List.getElem_drop]
  congr 1
  omega
def mFam (L : List At) : Store := fun k => if k.1 = 0 then (match k.2 with
    | 0 => none
    | 1 => some (.row 26 L.length (rA (fun j => (0, j + 2)) 0 L))
    | j + 2 => ownA L j) else none
def mKey (n : Nat) (k : Key) : Prop := k.1 = 0 ∧ 1 ≤ k.2 ∧ k.2 ≤ n + 1
theorem mFam_1 (L : List At) : mFam L (0, 1) = some (.row 26 L.length (rA (fun j => (0, j + 2)) 0 L)) := rfl
theorem mFam_j (L : List At) (j : Nat) : mFam L (0, j + 2) = ownA L j := rfl
theorem mFam_some {L : List At} {k : Key} {e : Ent} (h : mFam L k = some e) : (k = (0, 1) ∧ e = .row 26 L.length (rA (fun j => (0, j + 2)) 0 L)) ∨ ∃ j, j < L.length ∧ k = (0, j + 2) ∧ e = rowA (nth L j) := by
  obtain ⟨a, b⟩ := k
  unfold mFam at h
  simp only at h
  split at h
  · rename_i ha
    subst ha
    split at h
    · exact absurd h (by simp [-Bool.exists_bool, -Int.not_le, -Int.not_lt, -getElem?_pos, -List.getD_eq_getElem?_getD])
    · exact .inl ⟨rfl, (Option.some.inj h).symm⟩
    · rename_i j
      obtain ⟨h1, h2⟩ := ownA_some h
      exact .inr ⟨j, h1, rfl, h2⟩
  · exact absurd h (by simp [-Bool.exists_bool, -Int.not_le, -Int.not_lt, -getElem?_pos, -List.getD_eq_getElem?_getD])
theorem Le.mfam {P : Program} {N : Nat} {T : Nat → V} {H : Store} {nx : Nat} {Lt : List (Nat × V)} (L : List At) (hT : allP (fun p : Nat × V => VLe H (fun k => k) 2 (T p.1) p.2) Lt) (h1 : H (0, 1) = some (.row 26 L.length (rA (fun j => (0, j + 2)) 0 L)))
    (hF : ∀ j, j < L.length → H (0, j + 2) = some (rowA (nth L j))) : Le P N ⟨T, H, nx⟩ ⟨tl Lt, mFam L, 2⟩ := by
  refine Le.mk (fun k => k) (.inr (by show 0 < 2; omega)) (fun _ _ _ _ => rfl) (tl_cond (allP_mem hT)) (fun k e' hk => ?_) (fun _ _ _ _ _ _ h => h)
  rcases mFam_some hk with ⟨rfl, rfl⟩ | ⟨j, hj, rfl, rfl⟩
  · refine ⟨by show 0 < 2; omega, _, h1, ?_⟩
    simp only [ELe, true_and]
    exact rA_VLes L 0 fun i hi => ⟨rfl, by show 0 < 2; omega⟩
  · refine ⟨by show 0 < 2; omega, _, hF j hj, ?_⟩
    simp only [rowA, ELe, true_and]
    exact (dl_VLes ..).2 rfl
theorem rA_0 (f : Nat → Key) (L : List At) (i : Nat) (h : i < L.length) : (rA f 0 L)[i * 3]? = some (.ref (f i) (nth L i).1.length) := by
  have := rA_nth f L i 0 h
  rw [Nat.zero_add] at this
  rw [show (rA f 0 L)[i * 3]? = ((rA f 0 L).drop (i * 3))[0]? by rw [List.getElem?_drop, Nat.add_zero], this]
  rfl
theorem nxtS_le : ∀ (L : List At) (m : Int), m ≤ nxtS L m
  | [], m => Int.le_refl _
  | a :: L, m => by have := nxtS_le L (m + a.1.length + 2); simp only [nxtS]; omega
theorem nxtS_take (L : List At) (m : Int) (i : Nat) : nxtS (L.take i) m ≤ nxtS L m := by
  have := nxtS_le (L.drop i) (nxtS (L.take i) m)
  rwa [← nxtS_app, List.take_append_drop] at this
theorem rA_allKs {p : Key → Prop} (f : Nat → Key) : ∀ (L : List At) (j : Nat), (∀ i, i < L.length → p (f (j + i))) → allKs p (rA f j L)
  | [], _, _ => trivial
  | a :: L, j, h => ⟨by have := h 0 (by simp [-Bool.exists_bool, -Int.not_le, -Int.not_lt, -getElem?_pos, -List.getD_eq_getElem?_getD]); exact this, trivial, trivial, rA_allKs f L (j + 1) fun i hi => by have := h (i + 1) (by simp [-Bool.exists_bool, -Int.not_le, -Int.not_lt, -getElem?_pos, -List.getD_eq_getElem?_getD]; omega); rwa [show j + (i + 1) = j + 1 + i by omega] at this⟩
theorem rA_put (f : Nat → Key) (L : List At) (i : Nat) (h : i < L.length) (a : At) (hl : a.1.length = (nth L i).1.length) :
    (((rA f 0 L).take (i * 3 + 1) ++ I a.2.1 :: (rA f 0 L).drop (i * 3 + 1 + 1)).take (i * 3 + 2) ++ B a.2.2 :: ((rA f 0 L).take (i * 3 + 1) ++ I a.2.1 :: (rA f 0 L).drop (i * 3 + 1 + 1)).drop (i * 3 + 2 + 1)) = rA f 0 (L.set i a) := by
  have e1 : L = L.take i ++ nth L i :: L.drop (i + 1) := by rw [← nth_drop h, List.take_append_drop]
  have e2 : L.set i a = L.take i ++ a :: L.drop (i + 1) := by rw [List.set_eq_take_append_cons_drop, if_pos h]
  have hti : (L.take i).length = i := by simp [-Bool.exists_bool, -Int.not_le, -Int.not_lt, -getElem?_pos, -List.getD_eq_getElem?_getD]; omega
  have hR : rA f 0 L = rA f 0 (L.take i) ++ (.ref (f i) (nth L i).1.length :: I (nth L i).2.1 :: B (nth L i).2.2 :: rA f (i + 1) (L.drop (i + 1))) := by
    rw [congrArg (rA f 0) e1, rA_append, hti, Nat.zero_add]; rfl
  have hS : rA f 0 (L.set i a) = rA f 0 (L.take i) ++ (.ref (f i) (nth L i).1.length :: I a.2.1 :: B a.2.2 :: rA f (i + 1) (L.drop (i + 1))) := by
    rw [e2, rA_append, hti, Nat.zero_add, ← hl]; rfl
  rw [hS, hR]
  have hA : (rA f 0 (L.take i)).length = i * 3 := by rw [rA_len, hti]
  generalize rA f 0 (L.take i) = A at hA
  rw [← hA]
  have t1 : A.take (A.length + 1) = A := List.take_of_length_le (by omega)
  have t2 : A.take (A.length + 2) = A := List.take_of_length_le (by omega)
  have d1 : A.drop (A.length + 1 + 1) = [] := List.drop_eq_nil_of_le (by omega)
  have d2 : A.drop (A.length + 2 + 1) = [] := List.drop_eq_nil_of_le (by omega)
  have k1 : A.length + 1 + 1 - A.length = 2 := by omega
  have k2 : A.length + 2 + 1 - A.length = 3 := by omega
  simp [-Bool.exists_bool, -Int.not_le, -Int.not_lt, -getElem?_pos, -List.getD_eq_getElem?_getD, List.take_append, List.drop_append, t1, t2, d1, d2, k1, k2]
theorem callMarkI {N nx s : Nat} {H : Store} {K : Eff → Prop} (k0 : Key) (l : List Int) (m : Int) (hm : 0 ≤ m ∧ m ≤ 1000000000000) (h20 : l.length ≤ 1048576) (hH : H k0 = some (rowI l)) (hs : k0.1 ≠ s) (hn : k0.1 < nx)
    (hk : K ⟨I (m + l.length), [k0], [k0], up1 k0 (some (rowI (markI l.length m))) noUp⟩) : CallJ Try.prog N nx s H 21 [.ref k0 l.length, I m] K := by
  have hup : upMut (fun _ => k0) (fun k => if k = k0 then some 0 else none) s (hl [((0, 1), rowI (markI l.length m))]) = up1 k0 (some (rowI (markI l.length m))) noUp := by
    funext k
    unfold upMut up1
    by_cases h1 : k = k0
    · subst h1
      rw [if_neg hs, if_pos rfl]
      simp [-Bool.exists_bool, -Int.not_le, -Int.not_lt, -getElem?_pos, -List.getD_eq_getElem?_getD, rowI, mapE]
    · rw [if_neg h1]
      simp [-Bool.exists_bool, -Int.not_le, -Int.not_lt, -getElem?_pos, -List.getD_eq_getElem?_getD, h1, noUp]
  rw [← hup] at hk
  refine CallJ.mut (fun _ => k0) (fun k => if k = k0 then some 0 else none) [k0] [] (markIntS l m hm h20) ?_ ?_ ?_ ?_ ?_ ?_ ?_ ?_ (by simpa [-Bool.exists_bool, -Int.not_le, -Int.not_lt, -getElem?_pos, -List.getD_eq_getElem?_getD] using hk)
  · simp [-Bool.exists_bool, -Int.not_le, -Int.not_lt, -getElem?_pos, -List.getD_eq_getElem?_getD, gk]
  · simp [-Bool.exists_bool, -Int.not_le, -Int.not_lt, -getElem?_pos, -List.getD_eq_getElem?_getD, allKs, allK]
  · rintro k rfl; simp [-Bool.exists_bool, -Int.not_le, -Int.not_lt, -getElem?_pos, -List.getD_eq_getElem?_getD, hH]
  · intro k e h
    simp [-Bool.exists_bool, -Int.not_le, -Int.not_lt, -getElem?_pos, -List.getD_eq_getElem?_getD] at h
    obtain ⟨rfl, rfl⟩ := h
    simp [-Bool.exists_bool, -Int.not_le, -Int.not_lt, -getElem?_pos, -List.getD_eq_getElem?_getD, hH, rowI, mapE, allKE]
  · intro k j h
    simp [-Bool.exists_bool, -Int.not_le, -Int.not_lt, -getElem?_pos, -List.getD_eq_getElem?_getD] at h
    obtain ⟨rfl, rfl⟩ := h
    simp [-Bool.exists_bool, -Int.not_le, -Int.not_lt, -getElem?_pos, -List.getD_eq_getElem?_getD]
  · simp [-Bool.exists_bool, -Int.not_le, -Int.not_lt, -getElem?_pos, -List.getD_eq_getElem?_getD]
  · intro k e h
    simp [-Bool.exists_bool, -Int.not_le, -Int.not_lt, -getElem?_pos, -List.getD_eq_getElem?_getD] at h
    obtain ⟨rfl, rfl⟩ := h
    simp [-Bool.exists_bool, -Int.not_le, -Int.not_lt, -getElem?_pos, -List.getD_eq_getElem?_getD]
  · simp [-Bool.exists_bool, -Int.not_le, -Int.not_lt, -getElem?_pos, -List.getD_eq_getElem?_getD, hH, hn]
theorem markAtomS (L : List At) (m : Int) (hm : 0 ≤ m ∧ nxtS L m ≤ 100000000000) (h20 : L.length ≤ 1048576) (ha : ∀ a ∈ L, a.1.length ≤ 1048576) : Cm Try.prog 55 (mKey L.length) [.ref (0, 1) L.length, I m] (mFam L) (I (nxtS L m)) (mFam (markS L m)) := by
  refine Cm.of [] mixed Try.func55 rfl Try.call55 (by kernel_rfl) rfl ?_
  simp -implicitDefEqProofs -dsimp +contextual [-Bool.exists_bool, -Int.not_le, -Int.not_lt, -getElem?_pos, -List.getD_eq_getElem?_getD, Try.f55]
  refine WP.loop mixed [] (fun i : Nat => ⟨tl [(0, .ref (0, 1) L.length), (1, I (nxtS (L.take i) m)), (5, I i)], mFam (curA L m i), 2⟩) (fun i => i ≤ L.length) (fun i => L.length - i) 0 (by kernel_rfl) ?_ ?_ ?_
  · refine Le.mfam _ ?_ ?_ ?_ 
    · simp [-Bool.exists_bool, -Int.not_le, -Int.not_lt, -getElem?_pos, -List.getD_eq_getElem?_getD, nxtS]
    · simp [-Bool.exists_bool, -Int.not_le, -Int.not_lt, -getElem?_pos, -List.getD_eq_getElem?_getD, curA, markS, mFam_1]
    · intro j hj; simp [-Bool.exists_bool, -Int.not_le, -Int.not_lt, -getElem?_pos, -List.getD_eq_getElem?_getD, curA, markS] at hj ⊢; rw [mFam_j, ownA_lt hj]
  · simp [-Bool.exists_bool, -Int.not_le, -Int.not_lt, -getElem?_pos, -List.getD_eq_getElem?_getD]
  · intro i hi
    by_cases h : i < L.length
    · have hlc := curA_len L m i hi
      have hc0 := rA_0 (fun j => (0, j + 2)) (curA L m i) i (by omega)
      rw [curA_nth L m i i (Nat.le_refl _) h] at hc0
      have hm0 := nxtS_le (L.take i) m
      have hm1 := nxtS_take L m (i + 1)
      rw [nth_take h, nxtS_app] at hm1
      simp only [nxtS] at hm1
      simp -implicitDefEqProofs -dsimp +contextual [-Bool.exists_bool, -Int.not_le, -Int.not_lt, -getElem?_pos, -List.getD_eq_getElem?_getD, h, mFam_1, hc0]
      refine callMarkI (0, i + 2) (nth L i).1 _ (by omega) (ha _ (nth_mem h)) (by rw [mFam_j, ownA_lt (by omega), curA_nth L m i i (Nat.le_refl _) h]; rfl) (by simp [-Bool.exists_bool, -Int.not_le, -Int.not_lt, -getElem?_pos, -List.getD_eq_getElem?_getD]) (by simp [-Bool.exists_bool, -Int.not_le, -Int.not_lt, -getElem?_pos, -List.getD_eq_getElem?_getD]) ?_
      have hb1 : i * 3 + 1 + 1 ≤ (curA L m i).length * 3 := by omega
      have hb2 : i * 3 + 2 + 1 ≤ min (i * 3 + 1) ((curA L m i).length * 3) + ((curA L m i).length * 3 - (i * 3 + 1 + 1) + 1) := by omega
      simp -implicitDefEqProofs -dsimp +contextual [-Bool.exists_bool, -Int.not_le, -Int.not_lt, -getElem?_pos, -List.getD_eq_getElem?_getD, h, mFam_1, hb1, hb2]
      refine ⟨i + 1, h, by omega, ?_⟩
      have hs := curA_set L m i h
      have hp := rA_put (fun j => (0, j + 2)) (curA L m i) i (by omega) (markA (nth L i) (nxtS (L.take i) m)) (by rw [markA_len, curA_nth L m i i (Nat.le_refl _) h])
      rw [hs] at hp
      simp only [markA] at hp
      have w1 : IntKind.wrap .i64 (nxtS (L.take i) m + (nth L i).1.length + 1) = nxtS (L.take i) m + (nth L i).1.length + 1 := wr (by omega) (by omega)
      rw [w1, wr (by omega) (by omega), wr (by omega) (by omega), hp]
      refine Le.mfam _ ?_ ?_ ?_
      · simp [-Bool.exists_bool, -Int.not_le, -Int.not_lt, -getElem?_pos, -List.getD_eq_getElem?_getD, nth_take h, nxtS_app, nxtS]
        omega
      · simp [-Bool.exists_bool, -Int.not_le, -Int.not_lt, -getElem?_pos, -List.getD_eq_getElem?_getD, setH, hlc, curA_len L m (i + 1) h]
      · intro j hj
        rw [curA_len L m (i + 1) h] at hj
        by_cases hij : j = i
        · subst hij
          have : nth (curA L m (j + 1)) j = markA (nth L j) (nxtS (L.take j) m) := by
            rw [← hs, nth_eq (by rw [List.length_set, hlc]; exact hj)]
            simp [-Bool.exists_bool, -Int.not_le, -Int.not_lt, -getElem?_pos, -List.getD_eq_getElem?_getD]
          rw [this]
          simp [-Bool.exists_bool, -Int.not_le, -Int.not_lt, -getElem?_pos, -List.getD_eq_getElem?_getD, setH, rowA, rowI, markA, markI_len]
        · have : nth (curA L m (i + 1)) j = nth (curA L m i) j := by
            rw [← hs, nth_eq (by rw [List.length_set, hlc]; exact hj)]
            simp [-Bool.exists_bool, -Int.not_le, -Int.not_lt, -getElem?_pos, -List.getD_eq_getElem?_getD, Ne.symm hij]
            exact (nth_eq _).symm
          rw [this]
          simp [-Bool.exists_bool, -Int.not_le, -Int.not_lt, -getElem?_pos, -List.getD_eq_getElem?_getD, setH, hij, mFam_j, ownA_lt (show j < (curA L m i).length by rw [hlc]; exact hj)]
    · obtain rfl : i = L.length := by omega
      simp -implicitDefEqProofs -dsimp +contextual [-Bool.exists_bool, -Int.not_le, -Int.not_lt, -getElem?_pos, -List.getD_eq_getElem?_getD, h]
      have e : curA L m L.length = markS L m := by simp [-Bool.exists_bool, -Int.not_le, -Int.not_lt, -getElem?_pos, -List.getD_eq_getElem?_getD, curA]
      rw [e]
      refine RLm.mk (fun k => k) (fun _ _ => rfl) (by simp [-Bool.exists_bool, -Int.not_le, -Int.not_lt, -getElem?_pos, -List.getD_eq_getElem?_getD]) (by simp [-Bool.exists_bool, -Int.not_le, -Int.not_lt, -getElem?_pos, -List.getD_eq_getElem?_getD, allK]) (fun k e' hk => ?_) (fun _ _ _ _ _ _ h => h)
      rcases mFam_some hk with ⟨rfl, rfl⟩ | ⟨j, hj, rfl, rfl⟩
      · refine ⟨by show 0 < 2; omega, fun _ => ⟨rfl, by simp [-Bool.exists_bool, -Int.not_le, -Int.not_lt, -getElem?_pos, -List.getD_eq_getElem?_getD], by simp [-Bool.exists_bool, -Int.not_le, -Int.not_lt, -getElem?_pos, -List.getD_eq_getElem?_getD]⟩, ?_, _, mFam_1 _, ?_⟩
        · simp only [allKE]
          exact rA_allKs _ _ 0 fun i hi _ => ⟨rfl, by simp [-Bool.exists_bool, -Int.not_le, -Int.not_lt, -getElem?_pos, -List.getD_eq_getElem?_getD], by rw [markS_len] at hi; simp [-Bool.exists_bool, -Int.not_le, -Int.not_lt, -getElem?_pos, -List.getD_eq_getElem?_getD]; omega⟩
        · simp only [ELe, true_and]
          exact rA_VLes _ 0 fun i hi => ⟨rfl, by show 0 < 2; omega⟩
      · rw [markS_len] at hj
        refine ⟨by show 0 < 2; omega, fun _ => ⟨rfl, by simp [-Bool.exists_bool, -Int.not_le, -Int.not_lt, -getElem?_pos, -List.getD_eq_getElem?_getD], by simp [-Bool.exists_bool, -Int.not_le, -Int.not_lt, -getElem?_pos, -List.getD_eq_getElem?_getD]; omega⟩, by simp [-Bool.exists_bool, -Int.not_le, -Int.not_lt, -getElem?_pos, -List.getD_eq_getElem?_getD, rowA, allKE], _, by rw [mFam_j, ownA_lt (by rw [markS_len]; exact hj)], ?_⟩
        simp only [rowA, ELe, true_and]
        exact (dl_VLes ..).2 rfl
end Go.Proofs.Ytohoibekddhneaa.ZL
namespace Go.Proofs.Ytohoibekddhneaa.ZL
open Go Go.Proofs.Ytohoibekddhneaa.Abs Go.Proofs.Ytohoibekddhneaa.Abs.Pl Go.RowKit Go.Proofs
set_option linter.unusedVariables false
set_option linter.unusedSimpArgs false
def upMark (s0 o : Nat) (L : List At) : Key → Option (Option Ent) := fun k => if k.1 = s0 then (if k.2 = o then some (some (.row 26 L.length (rA (fun j => (s0, j + o + 1)) 0 L))) else
    if o < k.2 ∧ k.2 ≤ o + L.length then some (ownA L (k.2 - o - 1)) else none) else none
section
variable {H : Store}
theorem upMark_0 (s0 o : Nat) (L : List At) : app (upMark s0 o L) H (s0, o) = some (.row 26 L.length (rA (fun j => (s0, j + o + 1)) 0 L)) := by simp [-Bool.exists_bool, -Int.not_le, -Int.not_lt, -getElem?_pos, -List.getD_eq_getElem?_getD, app, upMark]
theorem upMark_j (s0 o : Nat) (L : List At) (j : Nat) (h : j < L.length) : app (upMark s0 o L) H (s0, j + o + 1) = some (rowA (nth L j)) := by
  have h1 : ¬ j + o + 1 = o := by omega
  have h2 : o < j + o + 1 ∧ j + o + 1 ≤ o + L.length := by omega
  have h3 : j + o + 1 - o - 1 = j := by omega
  simp only [app, upMark, if_true, if_neg h1, if_pos h2, h3, ownA_lt h]
theorem upMark_ne (s0 o : Nat) (L : List At) (a b : Nat) (h : a ≠ s0) : app (upMark s0 o L) H (a, b) = H (a, b) := by simp [-Bool.exists_bool, -Int.not_le, -Int.not_lt, -getElem?_pos, -List.getD_eq_getElem?_getD, app, upMark, h]
end
def famK (s0 o n : Nat) : List Key := (s0, o) :: (List.range n).map fun j => (s0, j + o + 1)
theorem callMark {N nx s f : Nat} {H : Store} {K : Eff → Prop} {vs vs' : List V} {x : Int} (s0 o : Nat) (L L' : List At) (hl : L'.length = L.length) (h : Cm Try.prog f (mKey L.length) vs' (mFam L) (I x) (mFam L'))
    (hv : vs = mapL (gk (fun j => (s0, j + o)) s) vs') (hvk : allKs (mKey L.length) vs') (h0 : H (s0, o) = some (.row 26 L.length (rA (fun j => (s0, j + o + 1)) 0 L))) (hF : ∀ j, j < L.length → H (s0, j + o + 1) = some (rowA (nth L j)))
    (hs : s0 ≠ s) (hn : s0 < nx) (hk : K ⟨I x, famK s0 o L.length, famK s0 o L.length, upMark s0 o L'⟩) : CallJ Try.prog N nx s H f vs K := by
  let g : Nat → Key := fun j => (s0, j + o)
  let gi : Key → Option Nat := fun k => if k.1 = s0 ∧ o ≤ k.2 ∧ k.2 ≤ o + L.length then some (k.2 - o) else none
  have hat : ∀ j, j < L.length → (s0, j + o + 1) ∈ famK s0 o L.length := fun j hj => List.mem_cons_of_mem _ (List.mem_map.2 ⟨j, by simpa [-Bool.exists_bool, -Int.not_le, -Int.not_lt, -getElem?_pos, -List.getD_eq_getElem?_getD] using hj, rfl⟩)
  have hfam : ∀ k ∈ famK s0 o L.length, k.1 = s0 ∧ ∃ j, j ≤ L.length ∧ k = (s0, j + o) ∧ (H k).isSome = true := fun k hk => by
    rcases List.mem_cons.1 hk with rfl | hk
    · exact ⟨rfl, 0, Nat.zero_le _, by simp [-Bool.exists_bool, -Int.not_le, -Int.not_lt, -getElem?_pos, -List.getD_eq_getElem?_getD], by rw [h0]; rfl⟩
    · obtain ⟨j, hj, rfl⟩ := List.mem_map.1 hk
      have hj' : j < L.length := by simpa [-Bool.exists_bool, -Int.not_le, -Int.not_lt, -getElem?_pos, -List.getD_eq_getElem?_getD] using hj
      exact ⟨rfl, j + 1, hj', by show (s0, j + o + 1) = (s0, j + 1 + o); rw [show j + o + 1 = j + 1 + o by omega], by rw [hF j (by simpa [-Bool.exists_bool, -Int.not_le, -Int.not_lt, -getElem?_pos, -List.getD_eq_getElem?_getD] using hj)]; rfl⟩
  have hgk : ∀ k, mKey L.length k → (H (g (k.2 - 1))).isSome = true ∧ g (k.2 - 1) ∈ famK s0 o L.length := fun k hk => by
    obtain ⟨h1, h2, h3⟩ := hk
    by_cases h4 : k.2 = 1
    · have : g (k.2 - 1) = (s0, o) := by show (s0, k.2 - 1 + o) = _; rw [h4]; simp [-Bool.exists_bool, -Int.not_le, -Int.not_lt, -getElem?_pos, -List.getD_eq_getElem?_getD]
      rw [this]
      exact ⟨by rw [h0]; rfl, List.mem_cons_self⟩
    · have : g (k.2 - 1) = (s0, (k.2 - 2) + o + 1) := by show (s0, k.2 - 1 + o) = _; rw [show k.2 - 1 + o = k.2 - 2 + o + 1 by omega]
      rw [this]
      exact ⟨by rw [hF (k.2 - 2) (by omega)]; rfl, hat _ (by omega)⟩
  have hup : upMut g gi s (mFam L') = upMark s0 o L' := by
    funext k
    unfold upMut upMark
    by_cases h1 : k.1 = s
    · rw [if_pos h1, if_neg (fun h2 => hs (h2.symm.trans h1))]
      have : mFam L' (1, k.2) = none := by simp [-Bool.exists_bool, -Int.not_le, -Int.not_lt, -getElem?_pos, -List.getD_eq_getElem?_getD, mFam]
      rw [this]
    · rw [if_neg h1]
      by_cases h2 : k.1 = s0
      · rw [if_pos h2]
        by_cases h3 : o ≤ k.2 ∧ k.2 ≤ o + L.length
        · have e : gi k = some (k.2 - o) := by show (if k.1 = s0 ∧ o ≤ k.2 ∧ k.2 ≤ o + L.length then some (k.2 - o) else none) = _; rw [if_pos ⟨h2, h3⟩]
          rw [e]
          simp only []
          by_cases h4 : k.2 = o
          · rw [if_pos h4, show k.2 - o + 1 = 1 by omega, mFam_1]
            simp only [Option.map_some, mapE, rA_mapL]
            have : (fun i => gk g s (0, i + 2)) = fun j => (s0, j + o + 1) := by
              funext i
              show (s0, i + 2 - 1 + o) = _
              rw [show i + 2 - 1 + o = i + o + 1 by omega]
            rw [this]
          · rw [if_neg h4, if_pos ⟨by omega, by omega⟩, show k.2 - o + 1 = (k.2 - o - 1) + 2 by omega, mFam_j, ownA_lt (by omega)]
            simp [-Bool.exists_bool, -Int.not_le, -Int.not_lt, -getElem?_pos, -List.getD_eq_getElem?_getD, mapE, rowA]
        · have e : gi k = none := by show (if k.1 = s0 ∧ o ≤ k.2 ∧ k.2 ≤ o + L.length then some (k.2 - o) else none) = _; rw [if_neg (fun h => h3 h.2)]
          rw [e, if_neg (by omega), if_neg (by omega)]
      · have e : gi k = none := by show (if k.1 = s0 ∧ o ≤ k.2 ∧ k.2 ≤ o + L.length then some (k.2 - o) else none) = _; rw [if_neg (fun h => h2 h.1)]
        rw [e, if_neg h2]
  rw [← hup] at hk
  refine CallJ.mut g gi (famK s0 o L.length) [] h hv hvk (fun k hk => ⟨hk.1, hk.2.1, (hgk k hk).1, by rw [List.append_nil]; exact (hgk k hk).2⟩) ?_ ?_ ?_ ?_ ?_ (by simpa [-Bool.exists_bool, -Int.not_le, -Int.not_lt, -getElem?_pos, -List.getD_eq_getElem?_getD] using hk)
  · intro k e hk
    rcases mFam_some hk with ⟨rfl, rfl⟩ | ⟨j, hj, rfl, rfl⟩
    · refine ⟨⟨rfl, by simp [-Bool.exists_bool, -Int.not_le, -Int.not_lt, -getElem?_pos, -List.getD_eq_getElem?_getD], by simp [-Bool.exists_bool, -Int.not_le, -Int.not_lt, -getElem?_pos, -List.getD_eq_getElem?_getD]⟩, ?_, ?_, ?_⟩
      · show H (s0, 0 + o) = _
        rw [Nat.zero_add, h0]
        simp only [mapE, rA_mapL]
        have : (fun i => gk g s (0, i + 2)) = fun j => (s0, j + o + 1) := by
          funext i
          show (s0, i + 2 - 1 + o) = _
          rw [show i + 2 - 1 + o = i + o + 1 by omega]
        rw [this]
      · simp only [allKE]
        exact rA_allKs _ _ 0 fun i hi => ⟨rfl, by simp [-Bool.exists_bool, -Int.not_le, -Int.not_lt, -getElem?_pos, -List.getD_eq_getElem?_getD], by simp [-Bool.exists_bool, -Int.not_le, -Int.not_lt, -getElem?_pos, -List.getD_eq_getElem?_getD]; omega⟩
      · show (if s0 = s0 ∧ o ≤ 0 + o ∧ 0 + o ≤ o + L.length then some (0 + o - o) else none) = some 0
        rw [if_pos ⟨rfl, by omega, by omega⟩]; simp [-Bool.exists_bool, -Int.not_le, -Int.not_lt, -getElem?_pos, -List.getD_eq_getElem?_getD]
    · refine ⟨⟨rfl, by simp [-Bool.exists_bool, -Int.not_le, -Int.not_lt, -getElem?_pos, -List.getD_eq_getElem?_getD], by simp [-Bool.exists_bool, -Int.not_le, -Int.not_lt, -getElem?_pos, -List.getD_eq_getElem?_getD]; omega⟩, ?_, by simp [-Bool.exists_bool, -Int.not_le, -Int.not_lt, -getElem?_pos, -List.getD_eq_getElem?_getD, rowA, allKE], ?_⟩
      · show H (s0, j + 1 + o) = _
        rw [show j + 1 + o = j + o + 1 by omega, hF j hj]
        simp [-Bool.exists_bool, -Int.not_le, -Int.not_lt, -getElem?_pos, -List.getD_eq_getElem?_getD, mapE, rowA]
      · show (if s0 = s0 ∧ o ≤ j + 1 + o ∧ j + 1 + o ≤ o + L.length then some (j + 1 + o - o) else none) = some (j + 1)
        rw [if_pos ⟨rfl, by omega, by omega⟩]; simp [-Bool.exists_bool, -Int.not_le, -Int.not_lt, -getElem?_pos, -List.getD_eq_getElem?_getD]
  · intro k j hgj
    have hgj : (if k.1 = s0 ∧ o ≤ k.2 ∧ k.2 ≤ o + L.length then some (k.2 - o) else none) = some j := hgj
    split at hgj
    · rename_i hc
      obtain rfl := Option.some.inj hgj
      refine ⟨?_, ?_, ?_⟩
      · show (s0, k.2 - o + o) = k
        rw [Nat.sub_add_cancel hc.2.1, ← hc.1]
      · by_cases h4 : k.2 = o
        · rw [show k.2 - o + 1 = 1 by omega, mFam_1]; rfl
        · rw [show k.2 - o + 1 = (k.2 - o - 1) + 2 by omega, mFam_j, ownA_lt (by omega)]; rfl
      · have e : k = (s0, k.2) := by rw [← hc.1]
        rw [e]
        by_cases h4 : k.2 = o
        · rw [h4]; exact List.mem_cons_self
        · have := hat (k.2 - o - 1) (by omega)
          rwa [show k.2 - o - 1 + o + 1 = k.2 by omega] at this
    · exact absurd hgj (by simp [-Bool.exists_bool, -Int.not_le, -Int.not_lt, -getElem?_pos, -List.getD_eq_getElem?_getD])
  · intro k hk
    obtain ⟨h1, j, hj, rfl, _⟩ := hfam k hk
    show (if s0 = s0 ∧ o ≤ j + o ∧ j + o ≤ o + L.length then some (j + o - o) else none).isSome = true
    rw [if_pos ⟨rfl, by omega, by omega⟩]; rfl
  · intro k e hk
    rcases mFam_some hk with ⟨rfl, rfl⟩ | ⟨j, hj, rfl, rfl⟩
    · exact ⟨by show 0 < 2; omega, fun _ => by rw [mFam_1]; rfl⟩
    · exact ⟨by show 0 < 2; omega, fun _ => by rw [mFam_j, ownA_lt (by omega)]; rfl⟩
  · intro k hk
    rw [List.append_nil] at hk
    obtain ⟨h1, j, hj, rfl, h2⟩ := hfam k hk
    exact ⟨h2, .inl hn⟩
theorem RLm.mfam {P : Program} {H : Store} {n : Nat} {x : Int} (L : List At) (hl : L.length = n) (h1 : H (0, 1) = some (.row 26 L.length (rA (fun j => (0, j + 2)) 0 L))) (hF : ∀ j, j < L.length → H (0, j + 2) = some (rowA (nth L j))) : RLm P (mKey n) H (I x) (I x) (mFam L) := by
  subst hl
  refine RLm.mk (fun k => k) (fun _ _ => rfl) (by simp [-Bool.exists_bool, -Int.not_le, -Int.not_lt, -getElem?_pos, -List.getD_eq_getElem?_getD]) (by simp [-Bool.exists_bool, -Int.not_le, -Int.not_lt, -getElem?_pos, -List.getD_eq_getElem?_getD, allK]) (fun k e' hk => ?_) (fun _ _ _ _ _ _ h => h)
  rcases mFam_some hk with ⟨rfl, rfl⟩ | ⟨j, hj, rfl, rfl⟩
  · refine ⟨by show 0 < 2; omega, fun _ => ⟨rfl, by simp [-Bool.exists_bool, -Int.not_le, -Int.not_lt, -getElem?_pos, -List.getD_eq_getElem?_getD], by simp [-Bool.exists_bool, -Int.not_le, -Int.not_lt, -getElem?_pos, -List.getD_eq_getElem?_getD]⟩, ?_, _, h1, ?_⟩
    · simp only [allKE]
      exact rA_allKs _ _ 0 fun i hi _ => ⟨rfl, by simp [-Bool.exists_bool, -Int.not_le, -Int.not_lt, -getElem?_pos, -List.getD_eq_getElem?_getD], by simp [-Bool.exists_bool, -Int.not_le, -Int.not_lt, -getElem?_pos, -List.getD_eq_getElem?_getD]; omega⟩
    · simp only [ELe, true_and]
      exact rA_VLes _ 0 fun i hi => ⟨rfl, by show 0 < 2; omega⟩
  · refine ⟨by show 0 < 2; omega, fun _ => ⟨rfl, by simp [-Bool.exists_bool, -Int.not_le, -Int.not_lt, -getElem?_pos, -List.getD_eq_getElem?_getD], by simp [-Bool.exists_bool, -Int.not_le, -Int.not_lt, -getElem?_pos, -List.getD_eq_getElem?_getD]; omega⟩, by simp [-Bool.exists_bool, -Int.not_le, -Int.not_lt, -getElem?_pos, -List.getD_eq_getElem?_getD, rowA, allKE], _, hF j hj, ?_⟩
    simp only [rowA, ELe, true_and]
    exact (dl_VLes ..).2 rfl
theorem markCell (d : Int) (L : List At) (m : Int) (hm : 0 ≤ m ∧ nxtS L m ≤ 100000000000) (h20 : L.length ≤ 1048576) (ha : ∀ a ∈ L, a.1.length ≤ 1048576) : Cm Try.prog 20 (mKey L.length) [.agg [I d, .ref (0, 1) L.length], I m] (mFam L) (I (nxtS L m)) (mFam (markS L m)) := by
  refine Cm.of [] mixed Try.func20 rfl Try.call20 (by kernel_rfl) rfl ?_
  simp -implicitDefEqProofs -dsimp +contextual [-Bool.exists_bool, -Int.not_le, -Int.not_lt, -getElem?_pos, -List.getD_eq_getElem?_getD, Try.f20]
  refine callMark 0 1 L (markS L m) (markS_len L m) (markAtomS L m hm h20 ha) ?_ ?_ ?_ ?_ ?_ ?_ ?_
  · simp [-Bool.exists_bool, -Int.not_le, -Int.not_lt, -getElem?_pos, -List.getD_eq_getElem?_getD, gk]
  · simp [-Bool.exists_bool, -Int.not_le, -Int.not_lt, -getElem?_pos, -List.getD_eq_getElem?_getD, allKs, allK, mKey]
  · simp [-Bool.exists_bool, -Int.not_le, -Int.not_lt, -getElem?_pos, -List.getD_eq_getElem?_getD, setH, mFam_1]
  · intro j hj; simp [-Bool.exists_bool, -Int.not_le, -Int.not_lt, -getElem?_pos, -List.getD_eq_getElem?_getD, setH, mFam_j, ownA_lt hj]
  · simp [-Bool.exists_bool, -Int.not_le, -Int.not_lt, -getElem?_pos, -List.getD_eq_getElem?_getD]
  · simp [-Bool.exists_bool, -Int.not_le, -Int.not_lt, -getElem?_pos, -List.getD_eq_getElem?_getD]
  simp -implicitDefEqProofs -dsimp +contextual [-Bool.exists_bool, -Int.not_le, -Int.not_lt, -getElem?_pos, -List.getD_eq_getElem?_getD]
  refine RLm.mfam _ (markS_len L m) (upMark_0 0 1 _) fun j hj => upMark_j 0 1 _ j hj
end Go.Proofs.Ytohoibekddhneaa.ZL
namespace Go.Proofs.Ytohoibekddhneaa.ZL
open Go Go.Proofs.Ytohoibekddhneaa.Abs Go.Proofs.Ytohoibekddhneaa.Abs.Pl Go.RowKit Go.Proofs
set_option linter.unusedVariables false
set_option linter.unusedSimpArgs false
theorem heldIntS (n : Nat) (m : Int) (hm : 0 ≤ m ∧ m ≤ 1000000000000) (h20 : n ≤ 1048576) : Cn Try.prog 22 [Is (markI n m), I m] (I (m + n)) hemp := by
  refine Cn.of [] mixed Try.func22 rfl Try.call22 (by kernel_rfl) rfl ?_
  simp -implicitDefEqProofs -dsimp +contextual [-Bool.exists_bool, -Int.not_le, -Int.not_lt, -getElem?_pos, -List.getD_eq_getElem?_getD, Try.f22]
  refine WP.loop mixed [] (fun i : Nat => ⟨tl [(0, Is (markI n m)), (1, I (m + i)), (5, I i)], hl [], 1⟩) (fun i => i ≤ n) (fun i => n - i) 0 (by kernel_rfl) ?_ ?_ ?_
  · refine Le.told [] ?_ ?_ ?_ <;> simp [-Bool.exists_bool, -Int.not_le, -Int.not_lt, -getElem?_pos, -List.getD_eq_getElem?_getD]
  · simp [-Bool.exists_bool, -Int.not_le, -Int.not_lt, -getElem?_pos, -List.getD_eq_getElem?_getD]
  · intro i hi
    have hl := markI_len n m
    by_cases h : i < n
    · have hg : (markI n m)[i]? = some (m + i) := by rw [markI, List.getElem?_map, List.getElem?_range h]; rfl
      simp -implicitDefEqProofs -dsimp +contextual [-Bool.exists_bool, -Int.not_le, -Int.not_lt, -getElem?_pos, -List.getD_eq_getElem?_getD, h, hl, hg]
      refine ⟨i + 1, h, by omega, ?_⟩
      rw [wr (by omega) (by omega), wr (by omega) (by omega)]
      refine Le.told [] ?_ ?_ ?_ <;> simp [-Bool.exists_bool, -Int.not_le, -Int.not_lt, -getElem?_pos, -List.getD_eq_getElem?_getD]
      omega
    · simp -implicitDefEqProofs -dsimp +contextual [-Bool.exists_bool, -Int.not_le, -Int.not_lt, -getElem?_pos, -List.getD_eq_getElem?_getD, h, hl]
      obtain rfl : i = n := by omega
      exact RLe.pure 1 (by simp [-Bool.exists_bool, -Int.not_le, -Int.not_lt, -getElem?_pos, -List.getD_eq_getElem?_getD])
theorem markS_nth : ∀ (L : List At) (m : Int) (i : Nat), i < L.length → nth (markS L m) i = markA (nth L i) (nxtS (L.take i) m)
  | [], _, i, h => absurd h (by simp [-Bool.exists_bool, -Int.not_le, -Int.not_lt, -getElem?_pos, -List.getD_eq_getElem?_getD])
  | a :: L, m, 0, _ => rfl
  | a :: L, m, i + 1, h => by
    have := markS_nth L (m + a.1.length + 2) i (by simpa [-Bool.exists_bool, -Int.not_le, -Int.not_lt, -getElem?_pos, -List.getD_eq_getElem?_getD] using h)
    exact this
end Go.Proofs.Ytohoibekddhneaa.ZL
namespace Go.Proofs.Ytohoibekddhneaa.ZL
open Go Go.Proofs.Ytohoibekddhneaa.Abs Go.Proofs.Ytohoibekddhneaa.Abs.Pl Go.RowKit Go.Proofs
set_option linter.unusedVariables false
set_option linter.unusedSimpArgs false
attribute [simp] upMark_ne upMark_0
structure Owns (H : Store) (s : Nat) (L : List At) : Prop where
  row : H (s, 0) = some (.row 26 L.length (rA (fun j => (s, j + 1)) 0 L))
  dir : ∀ j, j < L.length → H (s, j + 1) = some (rowA (nth L j))
section
variable {H : Store} {s : Nat} {L : List At}
theorem Owns.call (s : Nat) (L : List At) (H : Store) : Owns (app (upCall s (ownR L)) H) s L := ⟨upOwn_0 s L H, fun j hj => upOwn_j s L H j hj⟩
theorem Owns.mark (s : Nat) (L : List At) (H : Store) : Owns (app (upMark s 0 L) H) s L := ⟨upMark_0 s 0 L, fun j hj => upMark_j s 0 L j hj⟩
theorem Owns.set (h : Owns H s L) {k : Key} {e : Option Ent} (hk : k.1 ≠ s) : Owns (setH k e H) s L := by
  have : ∀ j, ¬ (s, j) = k := fun j hj => hk (by rw [← hj])
  exact ⟨by unfold setH; rw [if_neg (this 0)]; exact h.row, fun j hj => by unfold setH; rw [if_neg (this _)]; exact h.dir j hj⟩
theorem Owns.other (h : Owns H s L) {s' : Nat} {R : List At} (hk : s ≠ s') : Owns (app (upCall s' (ownR R)) H) s L := ⟨by rw [upOwn_ne _ _ _ _ _ hk]; exact h.row, fun j hj => by rw [upOwn_ne _ _ _ _ _ hk]; exact h.dir j hj⟩
theorem Owns.otherM (h : Owns H s L) {s' o : Nat} {R : List At} (hk : s ≠ s') : Owns (app (upMark s' o R) H) s L := ⟨by rw [upMark_ne _ _ _ _ _ hk]; exact h.row, fun j hj => by rw [upMark_ne _ _ _ _ _ hk]; exact h.dir j hj⟩
theorem Owns.lend (h : Owns H s L) (n : Nat) (d : Int) : lendV true H (n + 2) (.agg [I d, .ref (s, 0) L.length]) = some (C1 d L, famK s 0 L.length) := by
  have : lendD true H (n + 2) (.ref (s, 0) L.length) = some (.sl L.length (asD L), famK s 0 L.length) := by
    rw [lendD_ref, h.row]
    simp only [lendR, rA_lend (H := H) (n := n) (f := fun j => (s, j + 1)) L 0 (fun i hi => by rw [Nat.zero_add]; exact h.dir i hi), consK]
    simp [-Bool.exists_bool, -Int.not_le, -Int.not_lt, -getElem?_pos, -List.getD_eq_getElem?_getD, famK]
  simp only [lendV, List.map_cons, List.map_nil, joinO, this, lendD_d]
  simp [-Bool.exists_bool, -Int.not_le, -Int.not_lt, -getElem?_pos, -List.getD_eq_getElem?_getD]
theorem famK_lt {nx n : Nat} (hn : s < nx) : ∀ k ∈ famK s 0 n, k.1 < nx := fun k hk => by
  rcases List.mem_cons.1 hk with rfl | hk
  · exact hn
  · obtain ⟨j, _, rfl⟩ := List.mem_map.1 hk
    exact hn
theorem Owns.eqCell {N nx t : Nat} {K : Eff → Prop} (h : Owns H s L) (d : Int) (h20 : L.length ≤ 1048576) (ha : ∀ a ∈ L, a.1.length ≤ 1048576) (hn : s < nx) (hk : K ⟨B true, famK s 0 L.length, [], noUp⟩) : CallJ Try.prog N nx t H 19 [.agg [I d, .ref (s, 0) L.length], C1 d L] K := by
  refine CallJ.lent (ks := famK s 0 L.length) 2 (Go.Proofs.Ytohoibekddhneaa.ZL.eqCell (d, L) h20 ha) ?_ (fun k hk => .inl (famK_lt hn k hk)) rfl (by simp [-Bool.exists_bool, -Int.not_le, -Int.not_lt, -getElem?_pos, -List.getD_eq_getElem?_getD]) ?_
  · simp only [lendVs, h.lend 0 d]
    simp [-Bool.exists_bool, -Int.not_le, -Int.not_lt, -getElem?_pos, -List.getD_eq_getElem?_getD, lendV]
  · rw [upCall_emp]; exact hk
theorem Owns.marks {N nx t : Nat} {K : Eff → Prop} (h : Owns H s L) (d m : Int) (hm : 0 ≤ m ∧ nxtS L m ≤ 100000000000) (h20 : L.length ≤ 1048576) (ha : ∀ a ∈ L, a.1.length ≤ 1048576) (hn : s < nx) (hs : s ≠ t) (hk : K ⟨I (nxtS L m), famK s 0 L.length, famK s 0 L.length, upMark s 0 (markS L m)⟩) :
    CallJ Try.prog N nx t H 20 [.agg [I d, .ref (s, 0) L.length], I m] K :=
  callMark s 0 L (markS L m) (markS_len L m) (markCell d L m hm h20 ha) (by simp [-Bool.exists_bool, -Int.not_le, -Int.not_lt, -getElem?_pos, -List.getD_eq_getElem?_getD, gk]) (by simp [-Bool.exists_bool, -Int.not_le, -Int.not_lt, -getElem?_pos, -List.getD_eq_getElem?_getD, allKs, allK, mKey]) h.row h.dir hs hn hk
theorem noSh_ownR (R : List At) (k : Key) (e : Ent) (h : ownR R k = some e) : noShE e = true := by
  obtain ⟨a, b⟩ := k
  unfold ownR at h
  simp only at h
  split at h
  · cases b with
    | zero =>
      simp only [Option.some.injEq] at h
      subst h
      simp only [noShE]
      have : ∀ (L : List At) (j : Nat), noShL (rA (fun j => (0, j + 1)) j L) = true := by
        intro L
        induction L with
        | nil => intro j; rfl
        | cons a L ih => intro j; simp [-Bool.exists_bool, -Int.not_le, -Int.not_lt, -getElem?_pos, -List.getD_eq_getElem?_getD, rA, noShL, noSh, noShD, ih]
      exact this R 0
    | succ j =>
      obtain ⟨_, rfl⟩ := ownA_some h
      simp only [rowA, noShE, noShL_all]
      rw [List.all_eq_true]
      intro x hx
      obtain ⟨d, hd, rfl⟩ := List.mem_map.1 hx
      obtain ⟨n, _, rfl⟩ := List.mem_map.1 hd
      rfl
  · exact absurd h (by simp [-Bool.exists_bool, -Int.not_le, -Int.not_lt, -getElem?_pos, -List.getD_eq_getElem?_getD])
end
theorem markAtom0 (m : Int) : Cn Try.prog 55 [As [], I m] (I m) hemp := by
  refine Cn.of [] mixed Try.func55 rfl Try.call55 (by kernel_rfl) rfl ?_
  simp -implicitDefEqProofs -dsimp +contextual [-Bool.exists_bool, -Int.not_le, -Int.not_lt, -getElem?_pos, -List.getD_eq_getElem?_getD, Try.f55]
  refine WP.loop mixed [] (fun i : Nat => ⟨tl [(0, As []), (1, I m), (5, I 0)], hl [], 1⟩) (fun i => i ≤ 0) (fun i => 0 - i) 0 (by kernel_rfl) ?_ ?_ ?_
  · refine Le.told [] ?_ ?_ ?_ <;> simp [-Bool.exists_bool, -Int.not_le, -Int.not_lt, -getElem?_pos, -List.getD_eq_getElem?_getD]
  · simp [-Bool.exists_bool, -Int.not_le, -Int.not_lt, -getElem?_pos, -List.getD_eq_getElem?_getD]
  · intro i hi
    simp -implicitDefEqProofs -dsimp +contextual [-Bool.exists_bool, -Int.not_le, -Int.not_lt, -getElem?_pos, -List.getD_eq_getElem?_getD, asD]
    exact RLe.pure 1 (by simp [-Bool.exists_bool, -Int.not_le, -Int.not_lt, -getElem?_pos, -List.getD_eq_getElem?_getD])
theorem markCell0 (d m : Int) : Cn Try.prog 20 [C1 d [], I m] (I m) hemp := by
  refine Cn.of [] mixed Try.func20 rfl Try.call20 (by kernel_rfl) rfl ?_
  simp -implicitDefEqProofs -dsimp +contextual [-Bool.exists_bool, -Int.not_le, -Int.not_lt, -getElem?_pos, -List.getD_eq_getElem?_getD, Try.f20]
  refine CallJ.pure (markAtom0 m) rfl (by simp [-Bool.exists_bool, -Int.not_le, -Int.not_lt, -getElem?_pos, -List.getD_eq_getElem?_getD]) ?_
  simp -implicitDefEqProofs -dsimp +contextual [-Bool.exists_bool, -Int.not_le, -Int.not_lt, -getElem?_pos, -List.getD_eq_getElem?_getD]
  exact RLe.pure 1 (by simp [-Bool.exists_bool, -Int.not_le, -Int.not_lt, -getElem?_pos, -List.getD_eq_getElem?_getD])
structure Small (L : List At) : Prop where
  len : L.length ≤ 1048576
  dir : ∀ a ∈ L, a.1.length ≤ 1048576
  nxt : nxtS L 1 ≤ 100000000000
theorem nxtS_w : ∀ (L : List At) (m : Int), nxtS L m ≤ m + 2 * wAs L
  | [], m => by simp [-Bool.exists_bool, -Int.not_le, -Int.not_lt, -getElem?_pos, -List.getD_eq_getElem?_getD, nxtS, wAs, wS]
  | a :: L, m => by
    have := nxtS_w L (m + a.1.length + 2)
    simp only [nxtS, wAs, wS, wA, List.length_cons] at this ⊢
    omega
theorem nxtS_bd (B : Nat) : ∀ (L : List At) (m : Int), (∀ a ∈ L, a.1.length ≤ B) → nxtS L m ≤ m + L.length * (B + 2)
  | [], m, _ => by simp [-Bool.exists_bool, -Int.not_le, -Int.not_lt, -getElem?_pos, -List.getD_eq_getElem?_getD, nxtS]
  | a :: L, m, h => by
    have ih := nxtS_bd B L (m + a.1.length + 2) fun x hx => h x (List.mem_cons_of_mem _ hx)
    have h0 := h a List.mem_cons_self
    have e : ((a :: L).length : Int) * (B + 2) = L.length * (B + 2) + (B + 2) := by
      rw [List.length_cons, Int.natCast_add, Int.add_mul]; simp [-Bool.exists_bool, -Int.not_le, -Int.not_lt, -getElem?_pos, -List.getD_eq_getElem?_getD]
    simp only [nxtS]
    rw [e]
    omega
theorem Small.input {L : List At} (h : wAs L ≤ 1048576) : Small L := ⟨(wAs_small h).1, (wAs_small h).2, by have := nxtS_w L 1; omega⟩
theorem Small.ok {d : Int} {L : List At} (h16 : L.length ≤ 16) (h : allOk d L) : Small L := ⟨by omega, fun a ha => okA_small (h a ha), by
  have h4 : ∀ a ∈ L, a.1.length ≤ 4 := fun a ha => (okA_num (h a ha)).2.2
  have := nxtS_bd 4 L 1 h4
  have h5 : (L.length : Int) * (4 + 2) ≤ 96 := by omega
  simp [-Bool.exists_bool, -Int.not_le, -Int.not_lt, -getElem?_pos, -List.getD_eq_getElem?_getD] at this
  omega⟩
theorem Small.nil : Small [] := ⟨by simp [-Bool.exists_bool, -Int.not_le, -Int.not_lt, -getElem?_pos, -List.getD_eq_getElem?_getD], by simp [-Bool.exists_bool, -Int.not_le, -Int.not_lt, -getElem?_pos, -List.getD_eq_getElem?_getD], by simp [-Bool.exists_bool, -Int.not_le, -Int.not_lt, -getElem?_pos, -List.getD_eq_getElem?_getD, nxtS]⟩
theorem dropD_small (d v : Int) (L : List At) : Small (dropD d L v).2.1 := by
  unfold dropD
  split
  · rename_i h
    by_cases hr : (dropC d v.toNat L).2.2 = true
    · have hd := isCe_d h.1
      have := dropC_ok hd v.toNat (isCe_l h.1) (isCe_a h.1) hr
      exact Small.ok this.2.1 this.2.2
    · rw [dropC_f hr]; exact Small.nil
  · exact Small.nil
end Go.Proofs.Ytohoibekddhneaa.ZL
namespace Go.Proofs.Ytohoibekddhneaa.ZL
open Go Go.Proofs.Ytohoibekddhneaa.Abs Go.Proofs.Ytohoibekddhneaa.Abs.Pl Go.RowKit Go.Proofs
set_option linter.unusedVariables false
set_option linter.unusedSimpArgs false
set_option maxRecDepth 100000
theorem lends1 {H : Store} {s1 : Nat} {c1 : Ce} (h1 : Owns H s1 c1.2) : lendVs true H 2 [.agg [I c1.1, .ref (s1, 0) c1.2.length]] = some ([.agg (cV c1)], famK s1 0 c1.2.length) := by
  rw [lendVs, h1.lend]; simp [-Bool.exists_bool, -Int.not_le, -Int.not_lt, -getElem?_pos, -List.getD_eq_getElem?_getD, lendVs]
def HasI (H : Store) (s : Nat) (p : List Int) : Prop := H (s, 0) = some (rowI p)
section
variable {H : Store} {s : Nat} {p : List Int}
theorem HasI.set (h : HasI H s p) {k : Key} {e : Option Ent} (hk : k.1 ≠ s) : HasI (setH k e H) s p := by
  have : ¬ (s, 0) = k := fun j => hk (by rw [← j])
  unfold HasI setH
  rw [if_neg this]; exact h
theorem HasI.other (h : HasI H s p) {s' : Nat} {R : List At} (hk : s ≠ s') : HasI (app (upCall s' (ownR R)) H) s p := by
  unfold HasI
  rw [upOwn_ne _ _ _ _ _ hk]; exact h
theorem HasI.otherM (h : HasI H s p) {s' o : Nat} {R : List At} (hk : s ≠ s') : HasI (app (upMark s' o R) H) s p := by
  unfold HasI
  rw [upMark_ne _ _ _ _ _ hk]; exact h
theorem HasI.here : HasI (setH (s, 0) (some (.row 3 p.length (dl (p.map (D.int .i64))))) H) s p := by
  unfold HasI setH
  rw [if_pos rfl]; rfl
theorem HasI.here' : HasI (setH (s, 0) (some (rowI p)) H) s p := by
  unfold HasI setH
  rw [if_pos rfl]
theorem HasI.eq {N nx t : Nat} {K : Eff → Prop} (h : HasI H s p) (h20 : p.length ≤ 1048576) (hn : s < nx) (hk : K ⟨B true, [(s, 0)], [], noUp⟩) : CallJ Try.prog N nx t H 18 [.ref (s, 0) p.length, Is p] K := by
  refine CallJ.lent (ks := [(s, 0)]) 2 (eqIntS p h20) ?_ (fun k hk => .inl (by rw [List.mem_singleton.1 hk]; exact hn)) rfl (by simp [-Bool.exists_bool, -Int.not_le, -Int.not_lt, -getElem?_pos, -List.getD_eq_getElem?_getD]) ?_
  · have h' : H (s, 0) = some (.row 3 p.length (dl (p.map (D.int .i64)))) := h
    simp [-Bool.exists_bool, -Int.not_le, -Int.not_lt, -getElem?_pos, -List.getD_eq_getElem?_getD, lendVs, lendV, h']
  · rw [upCall_emp]; exact hk
theorem HasI.held {N nx t n : Nat} {m : Int} {K : Eff → Prop} (h : HasI H s (markI n m)) (hm : 0 ≤ m ∧ m ≤ 1000000000000) (h20 : n ≤ 1048576) (hn : s < nx) (hk : K ⟨I (m + n), [(s, 0)], [], noUp⟩) : CallJ Try.prog N nx t H 22 [.ref (s, 0) n, I m] K := by
  refine CallJ.lent (ks := [(s, 0)]) 2 (heldIntS n m hm h20) ?_ (fun k hk => .inl (by rw [List.mem_singleton.1 hk]; exact hn)) rfl (by simp [-Bool.exists_bool, -Int.not_le, -Int.not_lt, -getElem?_pos, -List.getD_eq_getElem?_getD]) ?_
  · have h' : H (s, 0) = some (.row 3 (markI n m).length (dl ((markI n m).map (D.int .i64)))) := h
    rw [markI_len] at h'
    simp [-Bool.exists_bool, -Int.not_le, -Int.not_lt, -getElem?_pos, -List.getD_eq_getElem?_getD, lendVs, lendV, h', markI_len]
  · rw [upCall_emp]; exact hk
end
theorem findF_len {d : Int} {L : List At} : ∀ {l : List (List Int)}, (findF d L l).2 = true → (findF d L l).1.length = L.length
  | [], h => by cases h
  | x :: l, h => by
    rw [findF] at h ⊢
    split
    · rename_i hr
      show (x.drop (d.toNat + 1)).length = L.length
      unfold isRef at hr
      split at hr
      · rename_i hc
        simp only [Bool.and_eq_true, decide_eq_true_eq] at hc
        exact hc.2
      · cases hr
    · rename_i hr
      rw [if_neg hr] at h
      exact findF_len h
theorem refF_len {d : Int} {L : List At} (h20 : L.length ≤ 1048576) : (refF d L).1.length ≤ 1048576 := by
  by_cases h : (refF d L).2 = true
  · unfold refF at h ⊢
    split
    · rename_i hc
      rw [if_pos hc] at h
      cases hz : rallF d.toNat (iniFs L L.length) with
      | none => simp [-Bool.exists_bool, -Int.not_le, -Int.not_lt, -getElem?_pos, -List.getD_eq_getElem?_getD]
      | some z =>
        rw [hz] at h
        simp only at h ⊢
        rw [findF_len h]; exact h20
    · simp [-Bool.exists_bool, -Int.not_le, -Int.not_lt, -getElem?_pos, -List.getD_eq_getElem?_getD]
  · rw [refF_nil (by simpa [-Bool.exists_bool, -Int.not_le, -Int.not_lt, -getElem?_pos, -List.getD_eq_getElem?_getD] using h)]; simp [-Bool.exists_bool, -Int.not_le, -Int.not_lt, -getElem?_pos, -List.getD_eq_getElem?_getD]
theorem markInt0 (m : Int) : Cn Try.prog 21 [Is [], I m] (I m) hemp := by
  refine Cn.of [] mixed Try.func21 rfl Try.call21 (by kernel_rfl) rfl ?_
  simp -implicitDefEqProofs -dsimp +contextual [-Bool.exists_bool, -Int.not_le, -Int.not_lt, -getElem?_pos, -List.getD_eq_getElem?_getD, Try.f21]
  refine WP.loop mixed [] (fun i : Nat => ⟨tl [(0, Is []), (1, I m), (5, I 0)], hl [], 1⟩) (fun i => i ≤ 0) (fun i => 0 - i) 0 (by kernel_rfl) ?_ ?_ ?_
  · refine Le.told [] ?_ ?_ ?_ <;> simp [-Bool.exists_bool, -Int.not_le, -Int.not_lt, -getElem?_pos, -List.getD_eq_getElem?_getD]
  · simp [-Bool.exists_bool, -Int.not_le, -Int.not_lt, -getElem?_pos, -List.getD_eq_getElem?_getD]
  · intro i hi
    simp -implicitDefEqProofs -dsimp +contextual [-Bool.exists_bool, -Int.not_le, -Int.not_lt, -getElem?_pos, -List.getD_eq_getElem?_getD]
    exact RLe.pure 1 (by simp [-Bool.exists_bool, -Int.not_le, -Int.not_lt, -getElem?_pos, -List.getD_eq_getElem?_getD])
theorem lawRefuteCell (c : Ce) (w_c : wfC c) : Cn Try.prog 4 [.agg (cV c)] (B true) hemp := by
  refine Cn.of [] mixed Try.func4 rfl Try.call4 (by kernel_rfl) rfl ?_
  simp -implicitDefEqProofs -dsimp +contextual [-Bool.exists_bool, -Int.not_le, -Int.not_lt, -getElem?_pos, -List.getD_eq_getElem?_getD, Try.f4]
  refine CallJ.pure (szCell c 1048576 ok20 w_c) rfl (by simp [-Bool.exists_bool, -Int.not_le, -Int.not_lt, -getElem?_pos, -List.getD_eq_getElem?_getD]) ?_
  simp -implicitDefEqProofs -dsimp +contextual [-Bool.exists_bool, -Int.not_le, -Int.not_lt, -getElem?_pos, -List.getD_eq_getElem?_getD]
  refine ⟨fun _ => RLe.bb rfl, fun h_c => ?_⟩
  obtain ⟨w1_c, k_c⟩ := lft_2 ok20 h_c
  obtain ⟨l_c, d_c⟩ := wAs_small w1_c
  refine CallJ.pure (toCellW c l_c d_c) rfl (by simp [-Bool.exists_bool, -Int.not_le, -Int.not_lt, -getElem?_pos, -List.getD_eq_getElem?_getD]) ?_
  simp -implicitDefEqProofs -dsimp +contextual [-Bool.exists_bool, -Int.not_le, -Int.not_lt, -getElem?_pos, -List.getD_eq_getElem?_getD, h_c]
  have hS := RefuteCell c.1 c.2 l_c
  rw [refS_eq] at hS
  refine CallJ.pure hS rfl (by simp [-Bool.exists_bool, -Int.not_le, -Int.not_lt, -getElem?_pos, -List.getD_eq_getElem?_getD]) ?_
  simp -implicitDefEqProofs -dsimp +contextual [-Bool.exists_bool, -Int.not_le, -Int.not_lt, -getElem?_pos, -List.getD_eq_getElem?_getD, h_c]
  refine CallJ.pure (toCell c l_c d_c) rfl (by simp [-Bool.exists_bool, -Int.not_le, -Int.not_lt, -getElem?_pos, -List.getD_eq_getElem?_getD]) ?_
  simp -implicitDefEqProofs -dsimp +contextual [-Bool.exists_bool, -Int.not_le, -Int.not_lt, -getElem?_pos, -List.getD_eq_getElem?_getD, h_c]
  have hL := iRefuteCell c.1 c.2 l_c
  have hW := iRefuteCellW c.1 c.2 l_c
  have hlen := refF_len (d := c.1) l_c
  have hnil := refF_nil (d := c.1) (L := c.2)
  clear hS
  generalize refF c.1 c.2 = r at *
  obtain ⟨p, n⟩ := r
  simp only at hlen hnil
  have hI_c := Small.input w1_c
  have n_c := nxtS_w c.2 (1)
  have g_c := nxtS_le c.2 (1)
  change wAs c.2 ≤ 1048576 at w1_c
  have q2 : ¬ nxtS c.2 (1) < 0 := by omega
  by_cases hr : n = true
  · subst hr
    have eV : rfV (p, true) = V.tup [.ref (0, 0) p.length, B true] := if_pos rfl
    have eH : rfH (p, true) = Abs.hl [((0, 0), .row 3 p.length (dl (p.map (D.int .i64))))] := if_pos rfl
    rw [eV, eH] at hL
    refine CallJ.lent (ks := famK 18 0 c.2.length) 2 hL ?_ ?_ (by simp [-Bool.exists_bool, -Int.not_le, -Int.not_lt, -getElem?_pos, -List.getD_eq_getElem?_getD, noSh, noShL, noShD]) ?_ ?_
    · refine lends1 (c1 := c) ?_
      · repeat first | exact Owns.mark _ _ _ | exact Owns.call _ _ _ | refine Owns.set ?_ (by simp [-Bool.exists_bool, -Int.not_le, -Int.not_lt, -getElem?_pos, -List.getD_eq_getElem?_getD]) | refine Owns.other ?_ (by simp [-Bool.exists_bool, -Int.not_le, -Int.not_lt, -getElem?_pos, -List.getD_eq_getElem?_getD]) | refine Owns.otherM ?_ (by simp [-Bool.exists_bool, -Int.not_le, -Int.not_lt, -getElem?_pos, -List.getD_eq_getElem?_getD])
    · intro k hk
      exact .inl (famK_lt (by omega) k hk)
    · intro k e h
      simp [-Bool.exists_bool, -Int.not_le, -Int.not_lt, -getElem?_pos, -List.getD_eq_getElem?_getD] at h
      obtain ⟨rfl, rfl⟩ := h
      simp only [noShE, noShL_all, List.all_eq_true]
      intro x hx
      obtain ⟨y, hy, rfl⟩ := List.mem_map.1 hx
      obtain ⟨z, _, rfl⟩ := List.mem_map.1 hy
      rfl
    simp -implicitDefEqProofs -dsimp +contextual [-Bool.exists_bool, -Int.not_le, -Int.not_lt, -getElem?_pos, -List.getD_eq_getElem?_getD, h_c, q2]
    refine HasI.eq (s := 22) (p := p) ?_ (by omega) (by omega) ?_
    · repeat first | exact HasI.here | exact HasI.here' | refine HasI.set ?_ (by simp [-Bool.exists_bool, -Int.not_le, -Int.not_lt, -getElem?_pos, -List.getD_eq_getElem?_getD]) | refine HasI.other ?_ (by simp [-Bool.exists_bool, -Int.not_le, -Int.not_lt, -getElem?_pos, -List.getD_eq_getElem?_getD]) | refine HasI.otherM ?_ (by simp [-Bool.exists_bool, -Int.not_le, -Int.not_lt, -getElem?_pos, -List.getD_eq_getElem?_getD])
    simp -implicitDefEqProofs -dsimp +contextual [-Bool.exists_bool, -Int.not_le, -Int.not_lt, -getElem?_pos, -List.getD_eq_getElem?_getD, h_c, q2]
    refine CallJ.pure (toCellW c l_c d_c) rfl (by simp [-Bool.exists_bool, -Int.not_le, -Int.not_lt, -getElem?_pos, -List.getD_eq_getElem?_getD]) ?_
    simp -implicitDefEqProofs -dsimp +contextual [-Bool.exists_bool, -Int.not_le, -Int.not_lt, -getElem?_pos, -List.getD_eq_getElem?_getD, h_c, q2]
    refine Owns.eqCell (s := 18) (L := c.2) ?_ c.1 l_c d_c ?_ ?_
    · repeat first | exact Owns.mark _ _ _ | exact Owns.call _ _ _ | refine Owns.set ?_ (by simp [-Bool.exists_bool, -Int.not_le, -Int.not_lt, -getElem?_pos, -List.getD_eq_getElem?_getD]) | refine Owns.other ?_ (by simp [-Bool.exists_bool, -Int.not_le, -Int.not_lt, -getElem?_pos, -List.getD_eq_getElem?_getD]) | refine Owns.otherM ?_ (by simp [-Bool.exists_bool, -Int.not_le, -Int.not_lt, -getElem?_pos, -List.getD_eq_getElem?_getD])
    · omega
    simp -implicitDefEqProofs -dsimp +contextual [-Bool.exists_bool, -Int.not_le, -Int.not_lt, -getElem?_pos, -List.getD_eq_getElem?_getD, h_c, q2]
    refine Owns.marks (s := 18) (L := c.2) ?_ c.1 (1) ⟨by omega, by omega⟩ l_c d_c ?_ ?_ ?_
    · repeat first | exact Owns.mark _ _ _ | exact Owns.call _ _ _ | refine Owns.set ?_ (by simp [-Bool.exists_bool, -Int.not_le, -Int.not_lt, -getElem?_pos, -List.getD_eq_getElem?_getD]) | refine Owns.other ?_ (by simp [-Bool.exists_bool, -Int.not_le, -Int.not_lt, -getElem?_pos, -List.getD_eq_getElem?_getD]) | refine Owns.otherM ?_ (by simp [-Bool.exists_bool, -Int.not_le, -Int.not_lt, -getElem?_pos, -List.getD_eq_getElem?_getD])
    · omega
    · omega
    simp -implicitDefEqProofs -dsimp +contextual [-Bool.exists_bool, -Int.not_le, -Int.not_lt, -getElem?_pos, -List.getD_eq_getElem?_getD, h_c, q2]
    refine HasI.eq (s := 22) (p := p) ?_ (by omega) (by omega) ?_
    · repeat first | exact HasI.here | exact HasI.here' | refine HasI.set ?_ (by simp [-Bool.exists_bool, -Int.not_le, -Int.not_lt, -getElem?_pos, -List.getD_eq_getElem?_getD]) | refine HasI.other ?_ (by simp [-Bool.exists_bool, -Int.not_le, -Int.not_lt, -getElem?_pos, -List.getD_eq_getElem?_getD]) | refine HasI.otherM ?_ (by simp [-Bool.exists_bool, -Int.not_le, -Int.not_lt, -getElem?_pos, -List.getD_eq_getElem?_getD])
    simp -implicitDefEqProofs -dsimp +contextual [-Bool.exists_bool, -Int.not_le, -Int.not_lt, -getElem?_pos, -List.getD_eq_getElem?_getD, h_c, q2]
    refine callMarkI (22, 0) p 1 (by omega) (by omega) ?_ (by simp [-Bool.exists_bool, -Int.not_le, -Int.not_lt, -getElem?_pos, -List.getD_eq_getElem?_getD]) (by simp [-Bool.exists_bool, -Int.not_le, -Int.not_lt, -getElem?_pos, -List.getD_eq_getElem?_getD]) ?_
    · show HasI _ 22 p
      repeat first | exact HasI.here | exact HasI.here' | refine HasI.set ?_ (by simp [-Bool.exists_bool, -Int.not_le, -Int.not_lt, -getElem?_pos, -List.getD_eq_getElem?_getD]) | refine HasI.other ?_ (by simp [-Bool.exists_bool, -Int.not_le, -Int.not_lt, -getElem?_pos, -List.getD_eq_getElem?_getD]) | refine HasI.otherM ?_ (by simp [-Bool.exists_bool, -Int.not_le, -Int.not_lt, -getElem?_pos, -List.getD_eq_getElem?_getD])
    simp -implicitDefEqProofs -dsimp +contextual [-Bool.exists_bool, -Int.not_le, -Int.not_lt, -getElem?_pos, -List.getD_eq_getElem?_getD, h_c, q2]
    have q3 : ¬ (1 + (p.length : Int) < 0) := by omega
    refine HasI.held (s := 22) (n := p.length) (m := 1) ?_ (by omega) (by omega) (by omega) ?_
    · repeat first | exact HasI.here | exact HasI.here' | refine HasI.set ?_ (by simp [-Bool.exists_bool, -Int.not_le, -Int.not_lt, -getElem?_pos, -List.getD_eq_getElem?_getD]) | refine HasI.other ?_ (by simp [-Bool.exists_bool, -Int.not_le, -Int.not_lt, -getElem?_pos, -List.getD_eq_getElem?_getD]) | refine HasI.otherM ?_ (by simp [-Bool.exists_bool, -Int.not_le, -Int.not_lt, -getElem?_pos, -List.getD_eq_getElem?_getD])
    simp -implicitDefEqProofs -dsimp +contextual [-Bool.exists_bool, -Int.not_le, -Int.not_lt, -getElem?_pos, -List.getD_eq_getElem?_getD, h_c, q2, q3]
    refine CallJ.pure (toCellW c l_c d_c) rfl (by simp [-Bool.exists_bool, -Int.not_le, -Int.not_lt, -getElem?_pos, -List.getD_eq_getElem?_getD]) ?_
    simp -implicitDefEqProofs -dsimp +contextual [-Bool.exists_bool, -Int.not_le, -Int.not_lt, -getElem?_pos, -List.getD_eq_getElem?_getD, h_c, q2, q3]
    refine CallJ.pure hW rfl (by simp [-Bool.exists_bool, -Int.not_le, -Int.not_lt, -getElem?_pos, -List.getD_eq_getElem?_getD]) ?_
    simp -implicitDefEqProofs -dsimp +contextual [-Bool.exists_bool, -Int.not_le, -Int.not_lt, -getElem?_pos, -List.getD_eq_getElem?_getD, h_c, q2, q3]
    refine CallJ.pure (eqIntS p (by omega)) rfl (by simp [-Bool.exists_bool, -Int.not_le, -Int.not_lt, -getElem?_pos, -List.getD_eq_getElem?_getD]) ?_
    simp -implicitDefEqProofs -dsimp +contextual [-Bool.exists_bool, -Int.not_le, -Int.not_lt, -getElem?_pos, -List.getD_eq_getElem?_getD, h_c, q2, q3]
    refine HasI.held (s := 22) (n := p.length) (m := 1) ?_ (by omega) (by omega) (by omega) ?_
    · repeat first | exact HasI.here | exact HasI.here' | refine HasI.set ?_ (by simp [-Bool.exists_bool, -Int.not_le, -Int.not_lt, -getElem?_pos, -List.getD_eq_getElem?_getD]) | refine HasI.other ?_ (by simp [-Bool.exists_bool, -Int.not_le, -Int.not_lt, -getElem?_pos, -List.getD_eq_getElem?_getD]) | refine HasI.otherM ?_ (by simp [-Bool.exists_bool, -Int.not_le, -Int.not_lt, -getElem?_pos, -List.getD_eq_getElem?_getD])
    simp -implicitDefEqProofs -dsimp +contextual [-Bool.exists_bool, -Int.not_le, -Int.not_lt, -getElem?_pos, -List.getD_eq_getElem?_getD, h_c, q2, q3]
    exact RLe.bb rfl
  · have eV : rfV (p, n) = V.tup [.nil, B false] := if_neg hr
    have eH : rfH (p, n) = hemp := if_neg hr
    rw [eV, eH] at hL
    obtain rfl : n = false := by simpa [-Bool.exists_bool, -Int.not_le, -Int.not_lt, -getElem?_pos, -List.getD_eq_getElem?_getD] using hr
    obtain rfl := hnil rfl
    refine CallJ.lent (ks := famK 18 0 c.2.length) 2 hL ?_ ?_ rfl (by simp [-Bool.exists_bool, -Int.not_le, -Int.not_lt, -getElem?_pos, -List.getD_eq_getElem?_getD]) ?_
    · refine lends1 (c1 := c) ?_
      · repeat first | exact Owns.mark _ _ _ | exact Owns.call _ _ _ | refine Owns.set ?_ (by simp [-Bool.exists_bool, -Int.not_le, -Int.not_lt, -getElem?_pos, -List.getD_eq_getElem?_getD]) | refine Owns.other ?_ (by simp [-Bool.exists_bool, -Int.not_le, -Int.not_lt, -getElem?_pos, -List.getD_eq_getElem?_getD]) | refine Owns.otherM ?_ (by simp [-Bool.exists_bool, -Int.not_le, -Int.not_lt, -getElem?_pos, -List.getD_eq_getElem?_getD])
    · intro k hk
      exact .inl (famK_lt (by omega) k hk)
    simp -implicitDefEqProofs -dsimp +contextual [-Bool.exists_bool, -Int.not_le, -Int.not_lt, -getElem?_pos, -List.getD_eq_getElem?_getD, h_c, q2]
    refine CallJ.pure (ks := []) (eqIntS [] (by simp [-Bool.exists_bool, -Int.not_le, -Int.not_lt, -getElem?_pos, -List.getD_eq_getElem?_getD])) (by simp [-Bool.exists_bool, -Int.not_le, -Int.not_lt, -getElem?_pos, -List.getD_eq_getElem?_getD]) (by simp [-Bool.exists_bool, -Int.not_le, -Int.not_lt, -getElem?_pos, -List.getD_eq_getElem?_getD]) ?_
    simp -implicitDefEqProofs -dsimp +contextual [-Bool.exists_bool, -Int.not_le, -Int.not_lt, -getElem?_pos, -List.getD_eq_getElem?_getD, h_c, q2]
    refine CallJ.pure (toCellW c l_c d_c) rfl (by simp [-Bool.exists_bool, -Int.not_le, -Int.not_lt, -getElem?_pos, -List.getD_eq_getElem?_getD]) ?_
    simp -implicitDefEqProofs -dsimp +contextual [-Bool.exists_bool, -Int.not_le, -Int.not_lt, -getElem?_pos, -List.getD_eq_getElem?_getD, h_c, q2]
    refine Owns.eqCell (s := 18) (L := c.2) ?_ c.1 l_c d_c ?_ ?_
    · repeat first | exact Owns.mark _ _ _ | exact Owns.call _ _ _ | refine Owns.set ?_ (by simp [-Bool.exists_bool, -Int.not_le, -Int.not_lt, -getElem?_pos, -List.getD_eq_getElem?_getD]) | refine Owns.other ?_ (by simp [-Bool.exists_bool, -Int.not_le, -Int.not_lt, -getElem?_pos, -List.getD_eq_getElem?_getD]) | refine Owns.otherM ?_ (by simp [-Bool.exists_bool, -Int.not_le, -Int.not_lt, -getElem?_pos, -List.getD_eq_getElem?_getD])
    · omega
    simp -implicitDefEqProofs -dsimp +contextual [-Bool.exists_bool, -Int.not_le, -Int.not_lt, -getElem?_pos, -List.getD_eq_getElem?_getD, h_c, q2]
    refine Owns.marks (s := 18) (L := c.2) ?_ c.1 (1) ⟨by omega, by omega⟩ l_c d_c ?_ ?_ ?_
    · repeat first | exact Owns.mark _ _ _ | exact Owns.call _ _ _ | refine Owns.set ?_ (by simp [-Bool.exists_bool, -Int.not_le, -Int.not_lt, -getElem?_pos, -List.getD_eq_getElem?_getD]) | refine Owns.other ?_ (by simp [-Bool.exists_bool, -Int.not_le, -Int.not_lt, -getElem?_pos, -List.getD_eq_getElem?_getD]) | refine Owns.otherM ?_ (by simp [-Bool.exists_bool, -Int.not_le, -Int.not_lt, -getElem?_pos, -List.getD_eq_getElem?_getD])
    · omega
    · omega
    simp -implicitDefEqProofs -dsimp +contextual [-Bool.exists_bool, -Int.not_le, -Int.not_lt, -getElem?_pos, -List.getD_eq_getElem?_getD, h_c, q2]
    refine CallJ.pure (ks := []) (eqIntS [] (by simp [-Bool.exists_bool, -Int.not_le, -Int.not_lt, -getElem?_pos, -List.getD_eq_getElem?_getD])) (by simp [-Bool.exists_bool, -Int.not_le, -Int.not_lt, -getElem?_pos, -List.getD_eq_getElem?_getD]) (by simp [-Bool.exists_bool, -Int.not_le, -Int.not_lt, -getElem?_pos, -List.getD_eq_getElem?_getD]) ?_
    simp -implicitDefEqProofs -dsimp +contextual [-Bool.exists_bool, -Int.not_le, -Int.not_lt, -getElem?_pos, -List.getD_eq_getElem?_getD, h_c, q2]
    refine CallJ.pure (ks := []) (markInt0 1) (by simp [-Bool.exists_bool, -Int.not_le, -Int.not_lt, -getElem?_pos, -List.getD_eq_getElem?_getD]) (by simp [-Bool.exists_bool, -Int.not_le, -Int.not_lt, -getElem?_pos, -List.getD_eq_getElem?_getD]) ?_
    simp -implicitDefEqProofs -dsimp +contextual [-Bool.exists_bool, -Int.not_le, -Int.not_lt, -getElem?_pos, -List.getD_eq_getElem?_getD, h_c, q2]
    refine CallJ.pure (ks := []) (heldIntS 0 1 (by omega) (by omega)) (by simp [-Bool.exists_bool, -Int.not_le, -Int.not_lt, -getElem?_pos, -List.getD_eq_getElem?_getD, markI]) (by simp [-Bool.exists_bool, -Int.not_le, -Int.not_lt, -getElem?_pos, -List.getD_eq_getElem?_getD]) ?_
    simp -implicitDefEqProofs -dsimp +contextual [-Bool.exists_bool, -Int.not_le, -Int.not_lt, -getElem?_pos, -List.getD_eq_getElem?_getD, h_c, q2]
    refine CallJ.pure (toCellW c l_c d_c) rfl (by simp [-Bool.exists_bool, -Int.not_le, -Int.not_lt, -getElem?_pos, -List.getD_eq_getElem?_getD]) ?_
    simp -implicitDefEqProofs -dsimp +contextual [-Bool.exists_bool, -Int.not_le, -Int.not_lt, -getElem?_pos, -List.getD_eq_getElem?_getD, h_c, q2]
    refine CallJ.pure hW rfl (by simp [-Bool.exists_bool, -Int.not_le, -Int.not_lt, -getElem?_pos, -List.getD_eq_getElem?_getD]) ?_
    simp -implicitDefEqProofs -dsimp +contextual [-Bool.exists_bool, -Int.not_le, -Int.not_lt, -getElem?_pos, -List.getD_eq_getElem?_getD, h_c, q2]
    refine CallJ.pure (eqIntS [] (by simp [-Bool.exists_bool, -Int.not_le, -Int.not_lt, -getElem?_pos, -List.getD_eq_getElem?_getD])) rfl (by simp [-Bool.exists_bool, -Int.not_le, -Int.not_lt, -getElem?_pos, -List.getD_eq_getElem?_getD]) ?_
    simp -implicitDefEqProofs -dsimp +contextual [-Bool.exists_bool, -Int.not_le, -Int.not_lt, -getElem?_pos, -List.getD_eq_getElem?_getD, h_c, q2]
    refine CallJ.pure (ks := []) (heldIntS 0 1 (by omega) (by omega)) (by simp [-Bool.exists_bool, -Int.not_le, -Int.not_lt, -getElem?_pos, -List.getD_eq_getElem?_getD, markI]) (by simp [-Bool.exists_bool, -Int.not_le, -Int.not_lt, -getElem?_pos, -List.getD_eq_getElem?_getD]) ?_
    simp -implicitDefEqProofs -dsimp +contextual [-Bool.exists_bool, -Int.not_le, -Int.not_lt, -getElem?_pos, -List.getD_eq_getElem?_getD, h_c, q2]
    exact RLe.bb rfl
end Go.Proofs.Ytohoibekddhneaa.ZL
